/-
  A family as a text, by the desk and by the reference.
-/
import Derived.Test.YtepjcdjpikbbjaaGreatDoorU00
import Derived.Test.YtepjcdjpikbbjaaGreatDoorU21
import Derived.Test.YtepjcdjpikbbjaaGreatDoorU17
set_option maxHeartbeats 8000000
set_option maxRecDepth 100000
namespace Go.Proofs.YtepjcdjpikbbjaaGreatDoor
open Go.Proofs.Tryz
open Go.RowKit Go.Sort
structure jo (f:an):Prop where
 id:cP f.id
 gen:cP f.gen
 made:cP f.made
 used:cP f.used
 cl:f.client.size≤900
 su:f.subject.size≤900
 sc:f.scope.size≤900
 re:f.request.size≤900
theorem jo.zero:jo an.zero:=⟨⟨by decide,by decide⟩,⟨by decide,by decide⟩,⟨by decide,by decide⟩,⟨by decide,by decide⟩,by decide,by decide,by decide,by decide⟩
theorem jo.of {f:an} (h:gy f=true):jo f:=by
 obtain⟨n1,n2,n3,n4,n5,n6,n7,n8⟩:=bo h;refine⟨jj n1,jj n2,jj n3,jj n4,?_,?_,?_,?_⟩
 ·have:=cI n5;rw[aq]at this;omega
 ·have:=cI n6;rw[aq]at this;omega
 ·have:=kL n8;rw[aq]at this;omega
 ·have:=vS n7;rw[aq]at this;omega
theorem fH (b:ByteArray) {n:Nat} (h:b.size≤n) (h1:1≤n):(dU b).size≤n:=by
 unfold dU;split
 ·exact h1
 ·exact h
theorem ki (s:ByteArray):ah (du s.data.toList)=dU s:=by
 unfold du dU;split
 ·rfl
 ·exact bJ s
theorem j5 {f:an} (h:jo f):(iE f).size≤4000:=by
 have e1:=cC (L:=[f.id]) (by simp) (by simpa using h.id);have e2:=cC (L:=[f.gen,f.made,f.used]) (by simp) (by simpa using⟨h.gen,h.made,h.used⟩);have e3:=fH f.scope h.sc dC;have e4:=fH f.request h.re dC;have e5:=h.cl;have e6:=h.su;have sp:(⟨#[32]⟩:ByteArray).size=1:=rfl;have sd:(⟨#[32,100,101,97,100]⟩:ByteArray).size=5:=rfl;unfold iE Fc;split
 ·simp only[ByteArray.size_append];omega
 ·simp only[ByteArray.size_append];omega
theorem rj (s:ByteArray) (w:World):Calls prog 127 #[.string s] w fun e w'=>e=.returned (.string (ah (du s.data.toList)))∧w=w':=by rw[ki];exact uw s w
theorem pB (f:an) (W:World) (hf:jo f) (h:WB W W):
  Calls prog 122 #[aO f] W fun x w'=>x=.returned (.string (iE f))∧Below W.heap.size W w':=by
 obtain⟨i,cl,su,sc,ge,ma,us,re,de⟩:=f;obtain⟨n1,n2,n3,n4,z2,z3,z4,z8⟩:=hf;dsimp only at n1 n2 n3 n4 z2 z3 z4 z8;have z1:=cC (L:=[i]) (by simp) (by simpa using n1);have z5:=cC (L:=[ge,ma,us]) (by simp) (by simpa using⟨n2,n3,n4⟩);have z6:=fH sc z4 dC;have z7:=fH re z8 dC;have HI1:=zH (fun g w hw hi=>lY g [i] w hw hi (by simp) (by simp) (by simpa using n1));have HI3:=zH (fun g w hw hi=>lY g [ge,ma,us] w hw hi (by simp) (by simp) (by simpa using⟨n2,n3,n4⟩));have HW1:=zH (fun w=>rj sc w);have HW2:=zH (fun w=>rj re w);have HF:=zH (show iE ⟨i,cl,su,sc,ge,ma,us,re,de⟩=if de then cg [i]++⟨#[32]⟩++cl++⟨#[32]⟩++su++⟨#[32]⟩++dU sc++⟨#[32]⟩++cg [ge,ma,us]++⟨#[32]⟩++dU re++⟨#[32,100,101,97,100]⟩else cg [i]++⟨#[32]⟩++cl++⟨#[32]⟩++su++⟨#[32]⟩++dU sc++⟨#[32]⟩++cg [ge,ma,us]++⟨#[32]⟩++dU re from rfl);simp only[List.length_cons,List.length_nil,Nat.zero_add,Nat.reduceAdd]at HI1 HI3;rw[ki sc]at HW1;rw[ki re]at HW2;rw[HF.out];clear HF n1 n2 n3 n4;generalize cg [i]=one at*;generalize cg [ge,ma,us]=three at*;generalize dU sc=sw at*;generalize dU re=rw_ at*;have sp:(⟨#[32]⟩:ByteArray).size=1:=rfl;have sd:(⟨#[32,100,101,97,100]⟩:ByteArray).size=5:=rfl;have q1:=bi one ⟨#[32]⟩ (by(try simp only[ByteArray.size_append]);omega);have q2:=bi (one++⟨#[32]⟩) cl (by(try simp only[ByteArray.size_append]);omega);have q3:=bi (one++⟨#[32]⟩++cl) ⟨#[32]⟩ (by(try simp only[ByteArray.size_append]);omega);have q4:=bi (one++⟨#[32]⟩++cl++⟨#[32]⟩) su (by(try simp only[ByteArray.size_append]);omega);have q5:=bi (one++⟨#[32]⟩++cl++⟨#[32]⟩++su) ⟨#[32]⟩ (by(try simp only[ByteArray.size_append]);omega);have q6:=bi (one++⟨#[32]⟩++cl++⟨#[32]⟩++su++⟨#[32]⟩) sw (by(try simp only[ByteArray.size_append]);omega);have q7:=bi (one++⟨#[32]⟩++cl++⟨#[32]⟩++su++⟨#[32]⟩++sw) ⟨#[32]⟩ (by(try simp only[ByteArray.size_append]);omega);have q8:=bi (one++⟨#[32]⟩++cl++⟨#[32]⟩++su++⟨#[32]⟩++sw++⟨#[32]⟩) three (by(try simp only[ByteArray.size_append]);omega);have q9:=bi (one++⟨#[32]⟩++cl++⟨#[32]⟩++su++⟨#[32]⟩++sw++⟨#[32]⟩++three) ⟨#[32]⟩ (by(try simp only[ByteArray.size_append]);omega);have q10:=bi (one++⟨#[32]⟩++cl++⟨#[32]⟩++su++⟨#[32]⟩++sw++⟨#[32]⟩++three++⟨#[32]⟩) rw_ (by(try simp only[ByteArray.size_append]);omega);have q11:=bi (one++⟨#[32]⟩++cl++⟨#[32]⟩++su++⟨#[32]⟩++sw++⟨#[32]⟩++three++⟨#[32]⟩++rw_) ⟨#[32,100,101,97,100]⟩ (by(try simp only[ByteArray.size_append]);omega);clear z1 z2 z3 z4 z5 z6 z7 z8 sp sd;unfold aO af at*;dsimp only at*;have hwb:=h.alloc (.cells #[.int .i64 i,.string cl,.string su,.string sc,.int .i64 ge,.int .i64 ma,.int .i64 us,.string re,.bool de] 95);have H0:=zH h;clear h;cases de
 all_goals
  simp only[Bool.false_eq_true,if_false,if_true];go_enter Tryz.func122,Tryz.ntmps122;go_wp2_with fail
 ·obtain⟨d0,d1,d2,d3,d4,d5,d6,d7,d8⟩:=aA (aj.new W 95 (af ⟨i,cl,su,sc,ge,ma,us,re,false⟩))
  unfold af at d0 d1 d2 d3 d4 d5 d6 d7 d8;dsimp only at d0 d1 d2 d3 d4 d5 d6 d7 d8;generalize W.alloc (.cells #[.int .i64 i,.string cl,.string su,.string sc,.int .i64 ge,.int .i64 ma,.int .i64 us,.string re,.bool false] 95)=w2 at*;have hwb2:=hwb.drew;clear hwb
  go_region_held3 (fun w'=>w'.cell? ⟨W.heap.size,8,none⟩=some (.bool false)∧w'.cell? ⟨W.heap.size,0,none⟩=some (.int .i64 i)∧w'.cell? ⟨W.heap.size,1,none⟩=some (.string cl)∧w'.cell? ⟨W.heap.size,2,none⟩=some (.string su)∧w'.cell? ⟨W.heap.size,3,none⟩=some (.string sc)∧w'.cell? ⟨W.heap.size,4,none⟩=some (.int .i64 ge)∧w'.cell? ⟨W.heap.size,5,none⟩=some (.int .i64 ma)∧w'.cell? ⟨W.heap.size,6,none⟩=some (.int .i64 us)∧w'.cell? ⟨W.heap.size,7,none⟩=some (.string re)∧WB W w')
   (first
    |(refine⟨?_,?_,?_,?_,?_,?_,?_,?_,?_,hwb2⟩<;>go_keep)
    |assumption
    |(go_split_ands
      exact fN aS aS aS aS aS aS aS aS aS aS aS)
    |(go_split_ands
      exact fN aS aS aS aS aS aS aS aS aS aS ((Below.refl _ _).alloc (Nat.le_refl _) _)))
   (first
    |(go_at_call 121;with_reducible refine(HI1.out _ _ ?_ ?_).mono ?_;(·exact WB.self (by(go_split_ands;assumption)));(·first|exact aJ.drw (kx _ 3 i)|exact aJ.drw ((kx _ 3 i).alloc _)|exact aJ.drw (qp _ _ 3 i));rintro e w1 ⟨rfl,hb1⟩)
    |(go_at_call 121;with_reducible refine(HI3.out _ _ ?_ ?_).mono ?_;(·exact WB.self (by(go_split_ands;assumption)));(·first|exact lD _ 3 ge ma us|exact aJ.below (aJ.drw (qn _ _ 3 ge ma us)) aS|exact aJ.below (aJ.drw ((lD _ 3 ge ma us).alloc _)) aS);rintro e w1 ⟨rfl,hb1⟩)
    |(go_at_call 127;with_reducible refine(HW1.out _).mono ?_;rintro e w1 ⟨rfl,rfl⟩)
    |(go_at_call 127;with_reducible refine(HW2.out _).mono ?_;rintro e w1 ⟨rfl,rfl⟩))
  all_goals
   go_split_ands
   go_wp2_with fail;go_ret;exact⟨rfl,WB.below aS⟩
 ·obtain⟨d0,d1,d2,d3,d4,d5,d6,d7,d8⟩:=aA (aj.new W 95 (af ⟨i,cl,su,sc,ge,ma,us,re,true⟩))
  unfold af at d0 d1 d2 d3 d4 d5 d6 d7 d8;dsimp only at d0 d1 d2 d3 d4 d5 d6 d7 d8;generalize W.alloc (.cells #[.int .i64 i,.string cl,.string su,.string sc,.int .i64 ge,.int .i64 ma,.int .i64 us,.string re,.bool true] 95)=w2 at*;have hwb2:=hwb.drew;clear hwb
  go_region_held3 (fun w'=>w'.cell? ⟨W.heap.size,8,none⟩=some (.bool true)∧w'.cell? ⟨W.heap.size,0,none⟩=some (.int .i64 i)∧w'.cell? ⟨W.heap.size,1,none⟩=some (.string cl)∧w'.cell? ⟨W.heap.size,2,none⟩=some (.string su)∧w'.cell? ⟨W.heap.size,3,none⟩=some (.string sc)∧w'.cell? ⟨W.heap.size,4,none⟩=some (.int .i64 ge)∧w'.cell? ⟨W.heap.size,5,none⟩=some (.int .i64 ma)∧w'.cell? ⟨W.heap.size,6,none⟩=some (.int .i64 us)∧w'.cell? ⟨W.heap.size,7,none⟩=some (.string re)∧WB W w')
   (first
    |(refine⟨?_,?_,?_,?_,?_,?_,?_,?_,?_,hwb2⟩<;>go_keep)
    |assumption
    |(go_split_ands
      exact fN aS aS aS aS aS aS aS aS aS aS aS)
    |(go_split_ands
      exact fN aS aS aS aS aS aS aS aS aS aS ((Below.refl _ _).alloc (Nat.le_refl _) _)))
   (first
    |(go_at_call 121;with_reducible refine(HI1.out _ _ ?_ ?_).mono ?_;(·exact WB.self (by(go_split_ands;assumption)));(·first|exact aJ.drw (kx _ 3 i)|exact aJ.drw ((kx _ 3 i).alloc _)|exact aJ.drw (qp _ _ 3 i));rintro e w1 ⟨rfl,hb1⟩)
    |(go_at_call 121;with_reducible refine(HI3.out _ _ ?_ ?_).mono ?_;(·exact WB.self (by(go_split_ands;assumption)));(·first|exact lD _ 3 ge ma us|exact aJ.below (aJ.drw (qn _ _ 3 ge ma us)) aS|exact aJ.below (aJ.drw ((lD _ 3 ge ma us).alloc _)) aS);rintro e w1 ⟨rfl,hb1⟩)
    |(go_at_call 127;with_reducible refine(HW1.out _).mono ?_;rintro e w1 ⟨rfl,rfl⟩)
    |(go_at_call 127;with_reducible refine(HW2.out _).mono ?_;rintro e w1 ⟨rfl,rfl⟩))
  all_goals
   go_split_ands
   go_wp2_with fail;go_ret;exact⟨rfl,WB.below aS⟩
theorem rM (f:an) (W:World) (hf:jo f) (h:WB W W):
  Calls prog 39 #[aO f] W fun x w'=>x=.returned (.string (iE f))∧Below W.heap.size W w':=by
 obtain⟨i,cl,su,sc,ge,ma,us,re,de⟩:=f;obtain⟨n1,n2,n3,n4,z2,z3,z4,z8⟩:=hf;dsimp only at n1 n2 n3 n4 z2 z3 z4 z8;have z1:=cC (L:=[i]) (by simp) (by simpa using n1);have z5:=cC (L:=[ge,ma,us]) (by simp) (by simpa using⟨n2,n3,n4⟩);have z6:=fH sc z4 dC;have z7:=fH re z8 dC;have HI1:=zH (fun g w hw hi=>mg g [i] w hw hi (by simp) (by simp) (by simpa using n1));have HI3:=zH (fun g w hw hi=>mg g [ge,ma,us] w hw hi (by simp) (by simp) (by simpa using⟨n2,n3,n4⟩));have HW1:=zH (fun w=>rQ sc w);have HW2:=zH (fun w=>rQ re w);have HF:=zH (show iE ⟨i,cl,su,sc,ge,ma,us,re,de⟩=if de then cg [i]++⟨#[32]⟩++cl++⟨#[32]⟩++su++⟨#[32]⟩++dU sc++⟨#[32]⟩++cg [ge,ma,us]++⟨#[32]⟩++dU re++⟨#[32,100,101,97,100]⟩else cg [i]++⟨#[32]⟩++cl++⟨#[32]⟩++su++⟨#[32]⟩++dU sc++⟨#[32]⟩++cg [ge,ma,us]++⟨#[32]⟩++dU re from rfl);simp only[List.length_cons,List.length_nil,Nat.zero_add,Nat.reduceAdd]at HI1 HI3;rw[ki sc]at HW1;rw[ki re]at HW2;rw[HF.out];clear HF n1 n2 n3 n4;generalize cg [i]=one at*;generalize cg [ge,ma,us]=three at*;generalize dU sc=sw at*;generalize dU re=rw_ at*;have sp:(⟨#[32]⟩:ByteArray).size=1:=rfl;have sd:(⟨#[32,100,101,97,100]⟩:ByteArray).size=5:=rfl;have q1:=bi one ⟨#[32]⟩ (by(try simp only[ByteArray.size_append]);omega);have q2:=bi (one++⟨#[32]⟩) cl (by(try simp only[ByteArray.size_append]);omega);have q3:=bi (one++⟨#[32]⟩++cl) ⟨#[32]⟩ (by(try simp only[ByteArray.size_append]);omega);have q4:=bi (one++⟨#[32]⟩++cl++⟨#[32]⟩) su (by(try simp only[ByteArray.size_append]);omega);have q5:=bi (one++⟨#[32]⟩++cl++⟨#[32]⟩++su) ⟨#[32]⟩ (by(try simp only[ByteArray.size_append]);omega);have q6:=bi (one++⟨#[32]⟩++cl++⟨#[32]⟩++su++⟨#[32]⟩) sw (by(try simp only[ByteArray.size_append]);omega);have q7:=bi (one++⟨#[32]⟩++cl++⟨#[32]⟩++su++⟨#[32]⟩++sw) ⟨#[32]⟩ (by(try simp only[ByteArray.size_append]);omega);have q8:=bi (one++⟨#[32]⟩++cl++⟨#[32]⟩++su++⟨#[32]⟩++sw++⟨#[32]⟩) three (by(try simp only[ByteArray.size_append]);omega);have q9:=bi (one++⟨#[32]⟩++cl++⟨#[32]⟩++su++⟨#[32]⟩++sw++⟨#[32]⟩++three) ⟨#[32]⟩ (by(try simp only[ByteArray.size_append]);omega);have q10:=bi (one++⟨#[32]⟩++cl++⟨#[32]⟩++su++⟨#[32]⟩++sw++⟨#[32]⟩++three++⟨#[32]⟩) rw_ (by(try simp only[ByteArray.size_append]);omega);have q11:=bi (one++⟨#[32]⟩++cl++⟨#[32]⟩++su++⟨#[32]⟩++sw++⟨#[32]⟩++three++⟨#[32]⟩++rw_) ⟨#[32,100,101,97,100]⟩ (by(try simp only[ByteArray.size_append]);omega);clear z1 z2 z3 z4 z5 z6 z7 z8 sp sd;unfold aO af at*;dsimp only at*;have hwb:=h.alloc (.cells #[.int .i64 i,.string cl,.string su,.string sc,.int .i64 ge,.int .i64 ma,.int .i64 us,.string re,.bool de] 95);have H0:=zH h;clear h;cases de
 all_goals
  simp only[Bool.false_eq_true,if_false,if_true];go_enter Tryz.func39,Tryz.ntmps39;go_wp2_with fail
 ·obtain⟨d0,d1,d2,d3,d4,d5,d6,d7,d8⟩:=aA (aj.new W 95 (af ⟨i,cl,su,sc,ge,ma,us,re,false⟩))
  unfold af at d0 d1 d2 d3 d4 d5 d6 d7 d8;dsimp only at d0 d1 d2 d3 d4 d5 d6 d7 d8;generalize W.alloc (.cells #[.int .i64 i,.string cl,.string su,.string sc,.int .i64 ge,.int .i64 ma,.int .i64 us,.string re,.bool false] 95)=w2 at*;have hwb2:=hwb.drew;clear hwb
  go_region_held3 (fun w'=>w'.cell? ⟨W.heap.size,8,none⟩=some (.bool false)∧w'.cell? ⟨W.heap.size,0,none⟩=some (.int .i64 i)∧w'.cell? ⟨W.heap.size,1,none⟩=some (.string cl)∧w'.cell? ⟨W.heap.size,2,none⟩=some (.string su)∧w'.cell? ⟨W.heap.size,3,none⟩=some (.string sc)∧w'.cell? ⟨W.heap.size,4,none⟩=some (.int .i64 ge)∧w'.cell? ⟨W.heap.size,5,none⟩=some (.int .i64 ma)∧w'.cell? ⟨W.heap.size,6,none⟩=some (.int .i64 us)∧w'.cell? ⟨W.heap.size,7,none⟩=some (.string re)∧WB W w')
   (first
    |(refine⟨?_,?_,?_,?_,?_,?_,?_,?_,?_,hwb2⟩<;>go_keep)
    |assumption
    |(go_split_ands
      exact fN aS aS aS aS aS aS aS aS aS aS aS)
    |(go_split_ands
      exact fN aS aS aS aS aS aS aS aS aS aS ((Below.refl _ _).alloc (Nat.le_refl _) _)))
   (first
    |(go_at_call 16;with_reducible refine(HI1.out _ _ ?_ ?_).mono ?_;(·exact WB.self (by(go_split_ands;assumption)));(·first|exact aJ.drw (kx _ 3 i)|exact aJ.drw ((kx _ 3 i).alloc _)|exact aJ.drw (qp _ _ 3 i));rintro e w1 ⟨rfl,hb1⟩)
    |(go_at_call 16;with_reducible refine(HI3.out _ _ ?_ ?_).mono ?_;(·exact WB.self (by(go_split_ands;assumption)));(·first|exact lD _ 3 ge ma us|exact aJ.below (aJ.drw (qn _ _ 3 ge ma us)) aS|exact aJ.below (aJ.drw ((lD _ 3 ge ma us).alloc _)) aS);rintro e w1 ⟨rfl,hb1⟩)
    |(go_at_call 47;with_reducible refine(HW1.out _).mono ?_;rintro e w1 ⟨rfl,rfl⟩)
    |(go_at_call 47;with_reducible refine(HW2.out _).mono ?_;rintro e w1 ⟨rfl,rfl⟩))
  all_goals
   go_split_ands
   go_wp2_with fail;go_ret;exact⟨rfl,WB.below aS⟩
 ·obtain⟨d0,d1,d2,d3,d4,d5,d6,d7,d8⟩:=aA (aj.new W 95 (af ⟨i,cl,su,sc,ge,ma,us,re,true⟩))
  unfold af at d0 d1 d2 d3 d4 d5 d6 d7 d8;dsimp only at d0 d1 d2 d3 d4 d5 d6 d7 d8;generalize W.alloc (.cells #[.int .i64 i,.string cl,.string su,.string sc,.int .i64 ge,.int .i64 ma,.int .i64 us,.string re,.bool true] 95)=w2 at*;have hwb2:=hwb.drew;clear hwb
  go_region_held3 (fun w'=>w'.cell? ⟨W.heap.size,8,none⟩=some (.bool true)∧w'.cell? ⟨W.heap.size,0,none⟩=some (.int .i64 i)∧w'.cell? ⟨W.heap.size,1,none⟩=some (.string cl)∧w'.cell? ⟨W.heap.size,2,none⟩=some (.string su)∧w'.cell? ⟨W.heap.size,3,none⟩=some (.string sc)∧w'.cell? ⟨W.heap.size,4,none⟩=some (.int .i64 ge)∧w'.cell? ⟨W.heap.size,5,none⟩=some (.int .i64 ma)∧w'.cell? ⟨W.heap.size,6,none⟩=some (.int .i64 us)∧w'.cell? ⟨W.heap.size,7,none⟩=some (.string re)∧WB W w')
   (first
    |(refine⟨?_,?_,?_,?_,?_,?_,?_,?_,?_,hwb2⟩<;>go_keep)
    |assumption
    |(go_split_ands
      exact fN aS aS aS aS aS aS aS aS aS aS aS)
    |(go_split_ands
      exact fN aS aS aS aS aS aS aS aS aS aS ((Below.refl _ _).alloc (Nat.le_refl _) _)))
   (first
    |(go_at_call 16;with_reducible refine(HI1.out _ _ ?_ ?_).mono ?_;(·exact WB.self (by(go_split_ands;assumption)));(·first|exact aJ.drw (kx _ 3 i)|exact aJ.drw ((kx _ 3 i).alloc _)|exact aJ.drw (qp _ _ 3 i));rintro e w1 ⟨rfl,hb1⟩)
    |(go_at_call 16;with_reducible refine(HI3.out _ _ ?_ ?_).mono ?_;(·exact WB.self (by(go_split_ands;assumption)));(·first|exact lD _ 3 ge ma us|exact aJ.below (aJ.drw (qn _ _ 3 ge ma us)) aS|exact aJ.below (aJ.drw ((lD _ 3 ge ma us).alloc _)) aS);rintro e w1 ⟨rfl,hb1⟩)
    |(go_at_call 47;with_reducible refine(HW1.out _).mono ?_;rintro e w1 ⟨rfl,rfl⟩)
    |(go_at_call 47;with_reducible refine(HW2.out _).mono ?_;rintro e w1 ⟨rfl,rfl⟩))
  all_goals
   go_split_ands
   go_wp2_with fail;go_ret;exact⟨rfl,WB.below aS⟩
end Go.Proofs.YtepjcdjpikbbjaaGreatDoor
