/-
  event.Write at a family that is put; and at all.
-/
import Derived.Test.YtepjcdjpikbbjaaGreatDoorU00
import Derived.Test.YtepjcdjpikbbjaaGreatDoorU13
set_option maxHeartbeats 8000000
set_option maxRecDepth 100000
namespace Go.Proofs.YtepjcdjpikbbjaaGreatDoor
open Go.Proofs.Tryz
open Go.RowKit Go.Sort
theorem tE {l:List UInt8} {n:Nat} (h:l.length≤n) (hn:1≤n):(du l).length≤n:=by
 unfold du;split
 ·simpa using hn
 ·exact h
theorem vS {l:List UInt8} (h:qF l=true):l.length≤20:=by
 unfold qF at h;rw[Bool.or_eq_true,decide_eq_true_eq]at h;rcases h with rfl|h
 ·simp
 ·exact cI h
theorem In {k i:Int} {cl su sc:ByteArray} {ge ma us:Int} {re:ByteArray} {de:Bool} {id ti:Int} (h:k=1) (d:ByteArray) (hd:d.data.toList=mO de):
  ah (bM 32 [(⟨#[112]⟩:ByteArray).data.toList,(aL i).data.toList,cl.data.toList,su.data.toList,(ah (du sc.data.toList)).data.toList,(aL ge).data.toList,(aL ma).data.toList,(aL us).data.toList,(ah (du re.data.toList)).data.toList,d.data.toList])=ah (iy ⟨k,⟨i,cl,su,sc,ge,ma,us,re,de⟩,id,ti⟩):=by
 unfold iy;rw[vW h,hd,ak,ak];rfl
theorem A6 (e:Ev) (W:World) (hs:e.fam.short 5000) (h:WB W W) (hy:dp e=true) (hk:e.kind=1):
  Calls prog 186 #[aE e] W fun x w'=>x=.returned (.tuple #[.string (ah (iy e)),.nilIface])∧Below W.heap.size W w':=by
 have HR:=zH (fun w (hm:dt w)=>jv e w hs hm);rw[hy]at HR;have H0:=zH (EW.start (T:=116) h e)
 have hf:gy e.fam=true:=by
  rcases eV hy with⟨_,_,_,h2⟩|⟨h1,_⟩|⟨h1,_⟩
  ·exact h2
  ·omega
  ·omega
 obtain⟨k,⟨i,cl,su,sc,ge,ma,us,re,de⟩,id,ti⟩:=e;dsimp only at hk hf;obtain⟨n1,n2,n3,n4,n5,n6,n7,n8⟩:=bo hf;dsimp only at n1 n2 n3 n4 n5 n6 n7 n8;have z0:(⟨#[112]⟩:ByteArray).size≤900:=by decide
 have z1:=j0 n1;have z2:cl.size≤900:=by have:=cI n5;rw[aq]at this;omega
 have z3:su.size≤900:=by have:=cI n6;rw[aq]at this;omega
 have z4:(ah (du sc.data.toList)).size≤900:=by rw[av];have:=tE (kL n8) dC;omega
 have z5:=j0 n2;have z6:=j0 n3;have z7:=j0 n4;have z8:(ah (du re.data.toList)).size≤900:=by rw[av];have:=tE (vS n7) dC;omega
 obtain⟨d,hd,z9,hdv⟩: ∃ d:ByteArray,d.data.toList=mO de∧d.size≤900∧d=if de then⟨#[49]⟩else⟨#[48]⟩:=by
  cases de
  ·exact⟨_,rfl,by decide,rfl⟩
  ·exact⟨_,rfl,by decide,rfl⟩
 have HL:=zH (In (i:=i) (cl:=cl) (su:=su) (sc:=sc) (ge:=ge) (ma:=ma) (us:=us) (re:=re) (de:=de) (id:=id) (ti:=ti) hk d hd);have HJ:=zH (fun w=>De w ⟨#[112]⟩ (aL i) cl su (ah (du sc.data.toList)) (aL ge) (aL ma) (aL us) (ah (du re.data.toList)) d ⟨z0,z1,z2,z3,z4,z5,z6,z7,z8,z9⟩);rw[HL.out]at HJ;have HI1:=zH (fun w hT=>hU i n1 w hT);have HI2:=zH (fun w hT=>hU ge n2 w hT);have HI3:=zH (fun w hT=>hU ma n3 w hT);have HI4:=zH (fun w hT=>hU us n4 w hT);have HW1:=zH (fun w=>Al sc w);have HW2:=zH (fun w=>Al re w);clear hs hy h hf n1 n2 n3 n4 n5 n6 n7 n8 z0 z1 z2 z3 z4 z5 z6 z7 z8 z9 hd HL;generalize ah (iy ⟨k,⟨i,cl,su,sc,ge,ma,us,re,de⟩,id,ti⟩)=line at*;subst hk;unfold aE ax at*;dsimp only at*;cases de
 all_goals
  simp only[Bool.false_eq_true,if_false,if_true]at hdv;subst hdv;go_enter Tryz.func186,Tryz.ntmps186;go_wp2_with fail;go_at_call 159;refine(HR.out _ H0.out.wb.maxl).mono ?_;rintro x w1 ⟨rfl,hb⟩;have H1:=zH (H0.out.keep hb);clear hb;obtain⟨c0,c1,c2,c3,c4,c5,c6,c7,c8,c9,c10,c11⟩:=bg H1.out.ev;go_wp2_with fail
 ·have hwb:=H1.out.wb.alloc (.cells #[.int .i64 i,.string cl,.string su,.string sc,.int .i64 ge,.int .i64 ma,.int .i64 us,.string re,.bool false] 95)
  obtain⟨d0,d1,d2,d3,d4,d5,d6,d7,_⟩:=aA (aj.new w1 95 (af ⟨i,cl,su,sc,ge,ma,us,re,false⟩));unfold af at d0 d1 d2 d3 d4 d5 d6 d7;dsimp only at d0 d1 d2 d3 d4 d5 d6 d7;clear c0 c1 c2 c3 c4 c5 c6 c7 c8 c9 c10 c11 H0 HR;generalize w1.alloc (.cells #[.int .i64 i,.string cl,.string su,.string sc,.int .i64 ge,.int .i64 ma,.int .i64 us,.string re,.bool false] 95)=w2 at*;have hwb2:=hwb.drew;generalize w1.heap.size=g at*;clear hwb H1
  go_region_held3 (fun w'=>w'.cell? ⟨g,0,none⟩=some (.int .i64 i)∧w'.cell? ⟨g,1,none⟩=some (.string cl)∧w'.cell? ⟨g,2,none⟩=some (.string su)∧w'.cell? ⟨g,3,none⟩=some (.string sc)∧w'.cell? ⟨g,4,none⟩=some (.int .i64 ge)∧w'.cell? ⟨g,5,none⟩=some (.int .i64 ma)∧w'.cell? ⟨g,6,none⟩=some (.int .i64 us)∧w'.cell? ⟨g,7,none⟩=some (.string re)∧WB W w')
   (first
    |(refine⟨?_,?_,?_,?_,?_,?_,?_,?_,hwb2⟩<;>go_keep)
    |assumption
    |(go_split_ands
      exact lm aS aS aS aS aS aS aS aS aS aS)
    |(go_split_ands
      exact lm aS aS aS aS aS aS aS aS aS ((Below.refl _ _).alloc (Nat.le_refl _) _)))
   (first
    |(go_at_call 26;refine(HI1.out _ (WB.tens (by(go_split_ands;assumption)))).mono ?_;rintro e w1 ⟨rfl,hb1⟩)
    |(go_at_call 26;refine(HI2.out _ (WB.tens (by(go_split_ands;assumption)))).mono ?_;rintro e w1 ⟨rfl,hb1⟩)
    |(go_at_call 26;refine(HI3.out _ (WB.tens (by(go_split_ands;assumption)))).mono ?_;rintro e w1 ⟨rfl,hb1⟩)
    |(go_at_call 26;refine(HI4.out _ (WB.tens (by(go_split_ands;assumption)))).mono ?_;rintro e w1 ⟨rfl,hb1⟩)
    |(go_at_call 227;refine(HW1.out _).mono ?_;rintro e w1 ⟨rfl,rfl⟩)
    |(go_at_call 227;refine(HW2.out _).mono ?_;rintro e w1 ⟨rfl,rfl⟩)
    |(go_at_call 50;refine(HJ.out _).mono ?_;rintro e w1 ⟨rfl,hb1⟩))
  go_wp2_with fail;go_ret2;exact⟨rfl,by(go_split_ands;exact WB.below aS)⟩
 ·have hwb:=H1.out.wb.alloc (.cells #[.int .i64 i,.string cl,.string su,.string sc,.int .i64 ge,.int .i64 ma,.int .i64 us,.string re,.bool true] 95)
  obtain⟨d0,d1,d2,d3,d4,d5,d6,d7,_⟩:=aA (aj.new w1 95 (af ⟨i,cl,su,sc,ge,ma,us,re,true⟩));unfold af at d0 d1 d2 d3 d4 d5 d6 d7;dsimp only at d0 d1 d2 d3 d4 d5 d6 d7;clear c0 c1 c2 c3 c4 c5 c6 c7 c8 c9 c10 c11 H0 HR;generalize w1.alloc (.cells #[.int .i64 i,.string cl,.string su,.string sc,.int .i64 ge,.int .i64 ma,.int .i64 us,.string re,.bool true] 95)=w2 at*;have hwb2:=hwb.drew;generalize w1.heap.size=g at*;clear hwb H1
  go_region_held3 (fun w'=>w'.cell? ⟨g,0,none⟩=some (.int .i64 i)∧w'.cell? ⟨g,1,none⟩=some (.string cl)∧w'.cell? ⟨g,2,none⟩=some (.string su)∧w'.cell? ⟨g,3,none⟩=some (.string sc)∧w'.cell? ⟨g,4,none⟩=some (.int .i64 ge)∧w'.cell? ⟨g,5,none⟩=some (.int .i64 ma)∧w'.cell? ⟨g,6,none⟩=some (.int .i64 us)∧w'.cell? ⟨g,7,none⟩=some (.string re)∧WB W w')
   (first
    |(refine⟨?_,?_,?_,?_,?_,?_,?_,?_,hwb2⟩<;>go_keep)
    |assumption
    |(go_split_ands
      exact lm aS aS aS aS aS aS aS aS aS aS)
    |(go_split_ands
      exact lm aS aS aS aS aS aS aS aS aS ((Below.refl _ _).alloc (Nat.le_refl _) _)))
   (first
    |(go_at_call 26;refine(HI1.out _ (WB.tens (by(go_split_ands;assumption)))).mono ?_;rintro e w1 ⟨rfl,hb1⟩)
    |(go_at_call 26;refine(HI2.out _ (WB.tens (by(go_split_ands;assumption)))).mono ?_;rintro e w1 ⟨rfl,hb1⟩)
    |(go_at_call 26;refine(HI3.out _ (WB.tens (by(go_split_ands;assumption)))).mono ?_;rintro e w1 ⟨rfl,hb1⟩)
    |(go_at_call 26;refine(HI4.out _ (WB.tens (by(go_split_ands;assumption)))).mono ?_;rintro e w1 ⟨rfl,hb1⟩)
    |(go_at_call 227;refine(HW1.out _).mono ?_;rintro e w1 ⟨rfl,rfl⟩)
    |(go_at_call 227;refine(HW2.out _).mono ?_;rintro e w1 ⟨rfl,rfl⟩)
    |(go_at_call 50;refine(HJ.out _).mono ?_;rintro e w1 ⟨rfl,hb1⟩))
  go_wp2_with fail;go_ret2;exact⟨rfl,by(go_split_ands;exact WB.below aS)⟩
theorem og (e:Ev) (W:World) (hs:e.fam.short 5000) (h:WB W W) (hy:dp e=true):
  Calls prog 186 #[aE e] W fun x w'=>x=.returned (.tuple #[.string (ah (iy e)),.nilIface])∧Below W.heap.size W w':=by
 rcases eV hy with⟨h1,_⟩|⟨h1,_⟩|⟨h1,_⟩
 ·exact A6 e W hs h hy h1
 ·exact ud e W hs h hy (.inl h1)
 ·exact ud e W hs h hy (.inr h1)
end Go.Proofs.YtepjcdjpikbbjaaGreatDoor
