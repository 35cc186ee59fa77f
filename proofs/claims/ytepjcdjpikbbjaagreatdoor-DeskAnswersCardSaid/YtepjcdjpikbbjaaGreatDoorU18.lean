/-
  The body of a token, by the reference and by the program.
-/
import Derived.Test.YtepjcdjpikbbjaaGreatDoorU00
import Derived.Test.YtepjcdjpikbbjaaGreatDoorU05
import Derived.Test.YtepjcdjpikbbjaaGreatDoorU17
import Derived.Test.YtepjcdjpikbbjaaGreatDoorU09
import Derived.Deep.RegionHeld3
import Derived.Deep.AppendLies
set_option maxHeartbeats 16000000
set_option maxRecDepth 100000
namespace Go.Proofs.YtepjcdjpikbbjaaGreatDoor
open Go.Proofs.Tryz
open Go.RowKit
theorem cT (a b:ByteArray) (n m:Nat) (ha:a.size≤n) (hb:b.size≤m) (h:n+m≤9223372036854775807) (w:World):(Op.stringOp .add a b).run prog w=.ok (.string (a++b)) w:=
 run_string_add_sum w a b oM
theorem cd (a b:ByteArray) (n m:Nat) (ha:a.size≤n) (hb:b.size≤m):(a++b).size≤n+m:=by
 rw[ByteArray.size_append];omega
theorem BO (b c d:Int) (W:World) (hT:bH W) (hob:ba b=true) (hoc:ba c=true):
  Calls prog 99 #[v4 1 b c d] W fun e w'=>e=.returned (.string (⟨#[114,46]⟩++aL b++⟨#[46]⟩++aL c))∧Below W.heap.size W w':=by
 have hsb:=cY b hob;have hsc:=cY c hoc;have HT:=zH (bH.below hT ((Below.refl W.heap.size W).alloc (Nat.le_refl _) (.cells #[.int .i64 1,.int .i64 b,.int .i64 c,.int .i64 d] 109)) hT.lt);have z1:(⟨#[114,46]⟩++aL b:ByteArray).size≤2+21:=cd _ _ 2 21 dC hsb;have z2:=cd _ (⟨#[46]⟩:ByteArray) _ 1 z1 dC;have e1:=cT (⟨#[114,46]⟩:ByteArray) (aL b) 2 21 dC hsb oM;have e2:=cT _ (⟨#[46]⟩:ByteArray) _ 1 z1 dC oM;have e3:=cT _ (aL c) _ _ z2 hsc oM;clear z1 z2;clear hT;unfold v4;go_enter Tryz.func99,Tryz.ntmps99;go_wp2_with fail;have hT1:=HT.out;have hB1:=(Below.refl W.heap.size W).alloc (Nat.le_refl _) (.cells #[.int .i64 1,.int .i64 b,.int .i64 c,.int .i64 d] 109);have hc1:(W.alloc (.cells #[.int .i64 1,.int .i64 b,.int .i64 c,.int .i64 d] 109)).cell? ⟨W.heap.size,1,none⟩=some (.int .i64 b):=by simp
 have hc2:(W.alloc (.cells #[.int .i64 1,.int .i64 b,.int .i64 c,.int .i64 d] 109)).cell? ⟨W.heap.size,2,none⟩=some (.int .i64 c):=by simp
 have hc3:(W.alloc (.cells #[.int .i64 1,.int .i64 b,.int .i64 c,.int .i64 d] 109)).cell? ⟨W.heap.size,3,none⟩=some (.int .i64 d):=by simp
 generalize W.alloc (.cells #[.int .i64 1,.int .i64 b,.int .i64 c,.int .i64 d] 109)=w0 at*;clear HT;have hT2:bH w0.drew:=hT1;have hB2:Below W.heap.size W w0.drew:=⟨hB1.os,hB1.tape,hB1.output,hB1.size,hB1.block⟩
 go_region_held3 (fun w'=>w'.cell? ⟨W.heap.size,1,none⟩=some (.int .i64 b)∧w'.cell? ⟨W.heap.size,2,none⟩=some (.int .i64 c)∧w'.cell? ⟨W.heap.size,3,none⟩=some (.int .i64 d)∧bH w'∧Below W.heap.size W w')
  (first
   |(refine⟨?_,?_,?_,hT2,hB2⟩<;>go_keep)
   |(go_split_ands
     exact mh aS aS aS aS aS aS))
  ((go_at_call 26;refine(hU _ aS _ (by(go_split_ands;assumption))).mono ?_;rintro e w1 ⟨rfl,hb1⟩))
 go_wp2_with fail;go_ret;exact⟨rfl,by(go_split_ands;assumption)⟩
theorem CH (b c d:Int) (W:World) (hT:bH W) (hob:ba b=true) (hoc:ba c=true) (hod:ba d=true):
  Calls prog 99 #[v4 2 b c d] W fun e w'=>e=.returned (.string (⟨#[97,46]⟩++aL b++⟨#[46]⟩++aL c++⟨#[46]⟩++aL d))∧Below W.heap.size W w':=by
 have hsb:=cY b hob;have hsc:=cY c hoc;have hsd:=cY d hod;have HT:=zH (bH.below hT ((Below.refl W.heap.size W).alloc (Nat.le_refl _) (.cells #[.int .i64 2,.int .i64 b,.int .i64 c,.int .i64 d] 109)) hT.lt);have z1:(⟨#[97,46]⟩++aL b:ByteArray).size≤2+21:=cd _ _ 2 21 dC hsb;have z2:=cd _ (⟨#[46]⟩:ByteArray) _ 1 z1 dC;have e1:=cT (⟨#[97,46]⟩:ByteArray) (aL b) 2 21 dC hsb oM;have e2:=cT _ (⟨#[46]⟩:ByteArray) _ 1 z1 dC oM;have e3:=cT _ (aL c) _ _ z2 hsc oM;have z3:=cd _ (aL c) _ _ z2 hsc;have e4:=cT _ (⟨#[46]⟩:ByteArray) _ 1 z3 dC oM;have z4:=cd _ (⟨#[46]⟩:ByteArray) _ 1 z3 dC;have e5:=cT _ (aL d) _ _ z4 hsd oM;clear z1 z2 z3 z4;clear hT;unfold v4;go_enter Tryz.func99,Tryz.ntmps99;go_wp2_with fail;have hT1:=HT.out;have hB1:=(Below.refl W.heap.size W).alloc (Nat.le_refl _) (.cells #[.int .i64 2,.int .i64 b,.int .i64 c,.int .i64 d] 109);have hc1:(W.alloc (.cells #[.int .i64 2,.int .i64 b,.int .i64 c,.int .i64 d] 109)).cell? ⟨W.heap.size,1,none⟩=some (.int .i64 b):=by simp
 have hc2:(W.alloc (.cells #[.int .i64 2,.int .i64 b,.int .i64 c,.int .i64 d] 109)).cell? ⟨W.heap.size,2,none⟩=some (.int .i64 c):=by simp
 have hc3:(W.alloc (.cells #[.int .i64 2,.int .i64 b,.int .i64 c,.int .i64 d] 109)).cell? ⟨W.heap.size,3,none⟩=some (.int .i64 d):=by simp
 generalize W.alloc (.cells #[.int .i64 2,.int .i64 b,.int .i64 c,.int .i64 d] 109)=w0 at*;clear HT;have hT2:bH w0.drew:=hT1;have hB2:Below W.heap.size W w0.drew:=⟨hB1.os,hB1.tape,hB1.output,hB1.size,hB1.block⟩
 go_region_held3 (fun w'=>w'.cell? ⟨W.heap.size,1,none⟩=some (.int .i64 b)∧w'.cell? ⟨W.heap.size,2,none⟩=some (.int .i64 c)∧w'.cell? ⟨W.heap.size,3,none⟩=some (.int .i64 d)∧bH w'∧Below W.heap.size W w')
  (first
   |(refine⟨?_,?_,?_,hT2,hB2⟩<;>go_keep)
   |(go_split_ands
     exact mh aS aS aS aS aS aS))
  ((go_at_call 26;refine(hU _ aS _ (by(go_split_ands;assumption))).mono ?_;rintro e w1 ⟨rfl,hb1⟩))
 go_wp2_with fail;go_ret;exact⟨rfl,by(go_split_ands;assumption)⟩
theorem nk {W w w':World} {u x y z:Value} (h0:w.cell? ⟨W.heap.size,0,none⟩=some u) (h1:w.cell? ⟨W.heap.size,1,none⟩=some x) (h2:w.cell? ⟨W.heap.size,2,none⟩=some y) (h3:w.cell? ⟨W.heap.size,3,none⟩=some z)
  (hT:bH w) (hB:Below W.heap.size W w) (hb:Below w.heap.size w w'):
  w'.cell? ⟨W.heap.size,0,none⟩=some u∧w'.cell? ⟨W.heap.size,1,none⟩=some x∧w'.cell? ⟨W.heap.size,2,none⟩=some y∧w'.cell? ⟨W.heap.size,3,none⟩=some z∧bH w'∧Below W.heap.size W w':=by
 have hlt:W.heap.size<w.heap.size:=World.block_lt_of_cell? w _ h1;refine⟨?_,mh h1 h2 h3 hT hB hb⟩;rw[hb.cell (p:=⟨W.heap.size,0,none⟩) hlt];exact h0
theorem wB (b c d:Int) (W:World) (hT:bH W) (hob:ba b=true) (hoc:ba c=true):
  Calls prog 192 #[v4 1 b c d] W fun e w'=>e=.returned (.string (⟨#[114,46]⟩++aL b++⟨#[46]⟩++aL c))∧Below W.heap.size W w':=by
 have hsb:=cY b hob;have hsc:=cY c hoc;have HT:=zH (bH.below hT ((Below.refl W.heap.size W).alloc (Nat.le_refl _) (.cells #[.int .i64 1,.int .i64 b,.int .i64 c,.int .i64 d] 182)) hT.lt);have z1:(⟨#[114,46]⟩++aL b:ByteArray).size≤2+21:=cd _ _ 2 21 dC hsb;have z2:=cd _ (⟨#[46]⟩:ByteArray) _ 1 z1 dC;have e1:=cT (⟨#[114,46]⟩:ByteArray) (aL b) 2 21 dC hsb oM;have e2:=cT _ (⟨#[46]⟩:ByteArray) _ 1 z1 dC oM;have e3:=cT _ (aL c) _ _ z2 hsc oM;clear z1 z2;clear hT;unfold v4;go_enter Tryz.func192,Tryz.ntmps192;go_wp2_with fail;have hT1:=HT.out;have hB1:=(Below.refl W.heap.size W).alloc (Nat.le_refl _) (.cells #[.int .i64 1,.int .i64 b,.int .i64 c,.int .i64 d] 182);have hc0:(W.alloc (.cells #[.int .i64 1,.int .i64 b,.int .i64 c,.int .i64 d] 182)).cell? ⟨W.heap.size,0,none⟩=some (.int .i64 1):=by simp
 have hc1:(W.alloc (.cells #[.int .i64 1,.int .i64 b,.int .i64 c,.int .i64 d] 182)).cell? ⟨W.heap.size,1,none⟩=some (.int .i64 b):=by simp
 have hc2:(W.alloc (.cells #[.int .i64 1,.int .i64 b,.int .i64 c,.int .i64 d] 182)).cell? ⟨W.heap.size,2,none⟩=some (.int .i64 c):=by simp
 have hc3:(W.alloc (.cells #[.int .i64 1,.int .i64 b,.int .i64 c,.int .i64 d] 182)).cell? ⟨W.heap.size,3,none⟩=some (.int .i64 d):=by simp
 generalize W.alloc (.cells #[.int .i64 1,.int .i64 b,.int .i64 c,.int .i64 d] 182)=w0 at*;clear HT;have hT2:bH w0.drew:=hT1;have hB2:Below W.heap.size W w0.drew:=⟨hB1.os,hB1.tape,hB1.output,hB1.size,hB1.block⟩
 go_region_held3 (fun w'=>w'.cell? ⟨W.heap.size,0,none⟩=some (.int .i64 1)∧w'.cell? ⟨W.heap.size,1,none⟩=some (.int .i64 b)∧w'.cell? ⟨W.heap.size,2,none⟩=some (.int .i64 c)∧w'.cell? ⟨W.heap.size,3,none⟩=some (.int .i64 d)∧bH w'∧Below W.heap.size W w')
  (first
   |(refine⟨?_,?_,?_,?_,hT2,hB2⟩<;>go_keep)
   |(go_split_ands
     exact nk aS aS aS aS aS aS aS))
  ((go_at_call 26;refine(hU _ aS _ (by(go_split_ands;assumption))).mono ?_;rintro e w1 ⟨rfl,hb1⟩))
 go_split_ands
 go_wp2_with fail;go_ret;exact⟨rfl,by assumption⟩
theorem wy (b c d:Int) (W:World) (hT:bH W) (hob:ba b=true) (hoc:ba c=true) (hod:ba d=true):
  Calls prog 192 #[v4 2 b c d] W fun e w'=>e=.returned (.string (⟨#[97,46]⟩++aL b++⟨#[46]⟩++aL c++⟨#[46]⟩++aL d))∧Below W.heap.size W w':=by
 have hsb:=cY b hob;have hsc:=cY c hoc;have hsd:=cY d hod;obtain⟨t,ht⟩: ∃ t:ByteArray,t=⟨#[46]⟩++(aL b++(⟨#[46]⟩++aL c)):=⟨_,rfl⟩
 have hre:(⟨#[114,46]⟩:ByteArray)++aL b++⟨#[46]⟩++aL c=⟨#[114]⟩++t:=by
  rw[ht,show(⟨#[114,46]⟩:ByteArray)=⟨#[114]⟩++⟨#[46]⟩from rfl];simp only[ByteArray.append_assoc]
 have hfin:(⟨#[97]⟩:ByteArray)++t++⟨#[46]⟩++aL d=⟨#[97,46]⟩++aL b++⟨#[46]⟩++aL c++⟨#[46]⟩++aL d:=by
  rw[ht,show(⟨#[97,46]⟩:ByteArray)=⟨#[97]⟩++⟨#[46]⟩from rfl];simp only[ByteArray.append_assoc]
 have hts:t.size≤50:=by
  rw[ht,ByteArray.size_append,ByteArray.size_append,ByteArray.size_append,show(⟨#[46]⟩:ByteArray).size=1 from rfl];omega
 clear ht
 have hsl: ∀ w:World,(Instr.slice 9 (.string (⟨#[114]⟩++t)) (some (.int .i64 1)) none none).run prog w=.ok (.string t) w:=by
  intro w;have hz:((⟨#[114]⟩:ByteArray)++t).size=1+t.size:=by rw[ByteArray.size_append];rfl
  rw[run_slice_string_l w 9 _ underlying9 .i64 1 oM (by rw[hz];omega)]
  congr 2
  apply ByteArray.ext;simp[hz]
 have f1:=cT (⟨#[97]⟩:ByteArray) t 1 50 dC hts oM;have y1:(⟨#[97]⟩++t:ByteArray).size≤1+50:=cd _ _ 1 50 dC hts;have f2:=cT _ (⟨#[46]⟩:ByteArray) _ 1 y1 dC oM;have y2:=cd _ (⟨#[46]⟩:ByteArray) _ 1 y1 dC;have f3:=cT _ (aL d) _ _ y2 hsd oM;clear y1 y2;have HT:=zH (bH.below hT ((Below.refl W.heap.size W).alloc (Nat.le_refl _) (.cells #[.int .i64 2,.int .i64 b,.int .i64 c,.int .i64 d] 182)) hT.lt);have z1:(⟨#[114,46]⟩++aL b:ByteArray).size≤2+21:=cd _ _ 2 21 dC hsb;have z2:=cd _ (⟨#[46]⟩:ByteArray) _ 1 z1 dC;have e1:=cT (⟨#[114,46]⟩:ByteArray) (aL b) 2 21 dC hsb oM;have e2:=cT _ (⟨#[46]⟩:ByteArray) _ 1 z1 dC oM;have e3:=cT _ (aL c) _ _ z2 hsc oM;clear z1 z2;clear hT;unfold v4;go_enter Tryz.func192,Tryz.ntmps192;go_wp2_with fail;have hT1:=HT.out;have hB1:=(Below.refl W.heap.size W).alloc (Nat.le_refl _) (.cells #[.int .i64 2,.int .i64 b,.int .i64 c,.int .i64 d] 182);have hc0:(W.alloc (.cells #[.int .i64 2,.int .i64 b,.int .i64 c,.int .i64 d] 182)).cell? ⟨W.heap.size,0,none⟩=some (.int .i64 2):=by simp
 have hc1:(W.alloc (.cells #[.int .i64 2,.int .i64 b,.int .i64 c,.int .i64 d] 182)).cell? ⟨W.heap.size,1,none⟩=some (.int .i64 b):=by simp
 have hc2:(W.alloc (.cells #[.int .i64 2,.int .i64 b,.int .i64 c,.int .i64 d] 182)).cell? ⟨W.heap.size,2,none⟩=some (.int .i64 c):=by simp
 have hc3:(W.alloc (.cells #[.int .i64 2,.int .i64 b,.int .i64 c,.int .i64 d] 182)).cell? ⟨W.heap.size,3,none⟩=some (.int .i64 d):=by simp
 generalize W.alloc (.cells #[.int .i64 2,.int .i64 b,.int .i64 c,.int .i64 d] 182)=w0 at*;clear HT;have hT2:bH w0.drew:=hT1;have hB2:Below W.heap.size W w0.drew:=⟨hB1.os,hB1.tape,hB1.output,hB1.size,hB1.block⟩
 go_region_held3 (fun w'=>w'.cell? ⟨W.heap.size,0,none⟩=some (.int .i64 2)∧w'.cell? ⟨W.heap.size,1,none⟩=some (.int .i64 b)∧w'.cell? ⟨W.heap.size,2,none⟩=some (.int .i64 c)∧w'.cell? ⟨W.heap.size,3,none⟩=some (.int .i64 d)∧bH w'∧Below W.heap.size W w')
  (first
   |(refine⟨?_,?_,?_,?_,hT2,hB2⟩<;>go_keep)
   |(go_split_ands
     exact nk aS aS aS aS aS aS aS))
  ((go_at_call 26;refine(hU _ aS _ (by(go_split_ands;assumption))).mono ?_;rintro e w1 ⟨rfl,hb1⟩))
 go_split_ands
 rename_i r0 r1 r2 r3 rT rB
 clear e1 e2 e3 hT2 hB2;go_wp2_with fail;have hT3:=(show bH (World.drew _)from rT);have hB3:=(show Below W.heap.size W (World.drew _)from⟨rB.os,rB.tape,rB.output,rB.size,rB.block⟩)
 go_region_held3 (fun w'=>w'.cell? ⟨W.heap.size,1,none⟩=some (.int .i64 b)∧w'.cell? ⟨W.heap.size,2,none⟩=some (.int .i64 c)∧w'.cell? ⟨W.heap.size,3,none⟩=some (.int .i64 d)∧bH w'∧Below W.heap.size W w')
  (first
   |(refine⟨?_,?_,?_,hT3,hB3⟩<;>go_keep)
   |(go_split_ands
     exact mh aS aS aS aS aS aS))
  ((go_at_call 26;refine(hU _ aS _ (by(go_split_ands;assumption))).mono ?_;rintro e w1 ⟨rfl,hb1⟩))
 go_split_ands
 go_wp2_with fail;go_ret;exact⟨rfl,by assumption⟩
open Go.Sort
def GB (at_:Nat) (W:World) (B sb db:Nat) (D:Dk) (s:St) (v:Value) (n f x:Int) (e:Ending) (w':World):Prop:=
 ∃ (ok:Bool) (D':Dk),mc D at_ s.fams (ah (gR aQ (n+1) x s)) D' ok∧dH sb db W w'∧
  ((ok=true∧e=.returned .nilIface∧SD B sb db D' s v (n+1) x x false w')∨(ok=false∧e=.returned (.iface 57 (.int .i64 14))∧SD B sb db D' s v n f x true w'))
def Hg (at_:Nat) (W:World) (B sb db:Nat) (D:Dk) (s:St) (v:Value) (n f x:Int) (all i:Value) (w:World):Prop:=
 ∃ m:Nat,m≤s.fams.length∧i=.int .i64 m∧all=.string (ah (ew (s.fams.take m)))∧SD B sb db (famD D at_ s.fams m) s v n f x false w∧dH sb db W w∧ ∀ j,j<m→pw (famD D at_ s.fams j)=false
def Ia (W:World) (g:Nat) (L:List Int) (out i:Value) (wr:World):Prop:= ∃ k:Nat,k≤L.length∧i=.int .i64 k∧TN W g L k out wr
theorem F2 {ck nx n x:Int} {L:List an} (h:iQ ⟨ck,nx,L⟩) (h0:0≤n) (h1:n<1000000) (h2:0≤x) (h3:x≤1000000): ∀ y∈[n+1,x,ck,nx,(L.length:Int)],kt y=true:=by
 intro y hy;have hl:L.length≤20:=h.len;simp only[List.mem_cons,List.not_mem_nil,or_false]at hy;rcases hy with rfl|rfl|rfl|rfl|rfl
 ·exact bO.2 oM
 ·exact bO.2 oM
 ·exact wC h.clock
 ·exact h.next
 ·exact bO.2 oM
theorem dH.of_drew {a b:Nat} (w:World):dH a b w w.drew:=⟨rfl,rfl,rfl,Nat.le_refl _,fun _ _ _ _=>rfl⟩
theorem wT {n f:Int} {s:St} (h:iQ s) (hn:kt n=true) (hf:kt f=true):(bM 32 (eM aQ n f s (ew s.fams))).length≤200∧(gR aQ n f s).length≤240:=by
 have hl:=h.len;have a:=fY hn;have b:=fY hf;have c:=fY (wC h.clock);have d:=fY h.next;have e:=fY (x:=(s.fams.length:Int)) (bO.2 oM);have t:=pp.len 1 (ew s.fams);have g:=sM 32 (eM aQ n f s (ew s.fams));simp only[eM,List.map_cons,List.map_nil,List.sum_cons,List.sum_nil]at g;refine⟨by unfold eM;omega,?_⟩;unfold gR;rw[mn];unfold eM;omega
theorem vA {D:Dk} (h:pw D=true):D.cut=true∧D.left=0:=by
 unfold pw at h;simpa using h
theorem Fp {L:List an} {m:Nat} {f:an} (h:L[m]?=some f):ew (L.take (m+1))=ew (L.take m)++(iy (aW f)++[10]):=by
 rw[List.take_add_one,h,Option.toList_some,uF,List.append_assoc]
theorem GL {L:List an} (h: ∀ f∈L,gy f=true):(ew L).length≤181*L.length:=by
 induction L with
 |nil=>simp[ew]
 |cons f L ih=>
  have h1:=mt (jX (h f (List.mem_cons_self ..)));have h2:=ih fun g hg=>h g (List.mem_cons_of_mem _ hg)
  have e:ew (f::L)=(iy (aW f)++[10])++ew L:=rfl;rw[e,List.length_append,List.length_append,List.length_cons,List.length_cons];simp only[List.length_nil];omega
theorem qC (B sb db:Nat) (D:Dk) (s:St) (v:Value) (n f x:Int) (W:World) (h:SD B sb db D s v n f x false W) (hf:D.fits) (hfit:iQ s) (h0:0≤n) (h1:n<1000000) (h2:0≤x) (h3:x≤1000000):
  Calls prog 132 #[.pointer (some ⟨sb,0,none⟩)] W (GB (ay ((n+1) % 2).toNat) W B sb db D s v n f x):=by
 obtain⟨i0,hii,hz0,hz1,hz2⟩:=info_parts ms;have hL:=hfit.len;have htop:=xm (n+1);have HSL:=zH (fun w=>nD (n+1) w oM oM);have HF:=zH hf;have HI:=zH hfit;have H0:Hid (Hg (ay ((n+1) % 2).toNat) W B sb db D s v n f x (.string ⟨#[]⟩) (.int .i64 0) W):=zH ⟨0,Nat.zero_le _,rfl,rfl,h,dH.refl _ _ _,fun j hj=>absurd hj (Nat.not_lt_zero _)⟩;obtain⟨sa,sc,rfl⟩:=h.row.slice;obtain⟨ck,nx,L⟩:=s;dsimp only at*;obtain⟨c0,c1,c2,c3,c4,c5,c6,c7,z,hlt⟩:=h.cells;have hn1:wrap64 (n+1)=n+1:=IntWalk.wrap64_in _ oM;clear h hf hfit;generalize ay ((n+1) % 2).toNat=at_ at*;go_enter Tryz.func132,Tryz.ntmps132;go_wp2_with fail;go_at_call 103;refine(HSL.out _).mono ?_;rintro e w1 ⟨rfl,rfl⟩;go_wp2_with fail
 go_loopw [5,33] (fun all i wr=>Hg at_ W B sb db D ⟨ck,nx,L⟩ (.slice sa L.length sc) n f x all i wr) (fun _ i _=>L.length - (intOf i).toNat)
 case atStart=>exact H0.out
 case round=>
  obtain⟨m,hm,rfl,rfl,hsd,htw,hon⟩:=hrel;have HS:=zH hsd;have HT:=zH htw;have HN:=zH hon;dsimp only at hm HS HN;clear hsd htw hon c0 c1 c2 c3 c4 c5 c6 c7 z hlt;obtain⟨c0,c1,c2,c3,c4,c5,c6,c7,z,hlt⟩:=HS.out.cells;have hal:=GL (L:=L.take m) (fun f hf=>HI.out.fams f (List.mem_of_mem_take hf));have htk:(L.take m).length≤20:=by rw[List.length_take];omega
  have hz:(ah (ew (L.take m))).size≤4000:=by rw[bB];omega
  by_cases hlt2:m<L.length
  ·obtain⟨g,rfl,_,rs⟩:=HS.out.row.lit hlt2
   obtain⟨fm,hfm⟩: ∃ fm,L[m]?=some fm:=⟨_,List.getElem?_eq_getElem hlt2⟩;have hfB:=HI.out.fams fm (List.mem_of_getElem? hfm);have HW:=zH (fun w (hw:WB w w)=>og (aW fm) w (dP hfB) hw (jX hfB));have hll:=mt (jX hfB);have hxs:(ah (iy (aW fm))).size≤180:=by rw[bB];exact hll
   have HAN:=zH (Fp hfm)
   have hfd:famD D at_ L (m+1)=(famD D at_ L m).put (at_+1+m) (ah (iy (aW fm))):=by
    rw[famD,List.getD_eq_getElem?_getD,hfm];rfl
   have HFD:=zH hfd
   have hap:ah (ew (L.take m))++(ah (iy (aW fm))++⟨#[10]⟩)=ah (ew (L.take (m+1))):=by
    rw[HAN.out,←gD,←gD];rfl
   have HAP:=zH hap;have hat:((at_+1+m:Nat):Int)=(at_:Int)+1+(m:Int):=by omega
   have HFM:=zH (show Below wr.heap.size wr (wr.alloc (.cells (af fm) 95))from(Below.refl _ _).alloc (Nat.le_refl _) _);generalize ah (iy (aW fm))=xl at*;clear hap hfd hal HAN hll;have HON:=zH (fun w hd h=>mR db (famD D at_ L m) (at_+1+m) xl w hd oM oM h);have HOF:=zH (fun w hd h1 h2=>jq db (famD D at_ L m) ((at_+1+m:Nat):Int) xl w hd oM oM oM h1 h2);rw[hat]at HON HOF;unfold aW at HW;obtain⟨i,cl,su,sc',ge,ma,us,re,de⟩:=fm;obtain⟨d0,d1,d2,d3,d4,d5,d6,d7,d8⟩:=rs.nine hfm;unfold aE ax at HW;unfold af at HFM;dsimp only at HW HFM;clear rs hfm hfB hat;go_wp2_with fail;have HS1:=zH (HS.out.keep HFM.out);have HT1:=zH (HT.out.trans (dH.of_below HFM.out));go_at_call 186;refine(HW.out _ HS1.out.env.wb).mono ?_;rintro e w2 ⟨rfl,hb⟩;have HS2:=zH (HS1.out.keep hb);have HT2:=zH (HT1.out.trans (dH.of_below hb));clear hb HS1 HT1 HW HFM c0 c1 c2 c3 c4 c5 c6 c7 z hlt d0 d1 d2 d3 d4 d5 d6 d7 d8;obtain⟨c0,c1,c2,c3,c4,c5,c6,c7,z,hlt⟩:=HS2.out.cells;go_wp2_with fail;go_at_call 187;rcases hoff:pw (famD D at_ L m)with _|_
   ·refine(HON.out _ HS2.out.disk hoff).mono ?_
    rintro e w3 ⟨rfl,hd,hg⟩;have HS3:=zH (HS2.out.wrote hd hg);have HT3:=zH (HT2.out.trans (dH.of_two hg));have HOO:=zH hoff;clear hd hg HS2 HT2 HON HOF hoff c0 c1 c2 c3 c4 c5 c6 c7 z hlt;go_wp2_with fail;refine⟨⟨m+1,by show m+1≤L.length;omega,by go_num,by rw[HAP.out],by rw[HFD.out];exact HS3.out,HT3.out,fun j hj=>?_⟩,by simp[intOf];omega⟩;rcases Nat.lt_or_ge j m with hjm|hjm
    ·exact HN.out j hjm
    ·obtain rfl:j=m:=by omega
     exact HOO.out
   ·obtain⟨q1,q2⟩:=vA hoff
    refine(HOF.out _ HS2.out.disk q1 q2).mono ?_;rintro e w3 ⟨rfl,rfl⟩;have HOO:=zH hoff;clear HON HOF hoff q1 q2;go_wp2_with fail;refine(nz sb db ⟨ck,nx,L⟩ _ n f x false _ HS2.out.st).mono ?_;rintro e w4 ⟨rfl,hs4,hg4⟩;have HS4:=zH (HS2.out.noted hs4 hg4);have HT4:=zH (HT2.out.trans (dH.of_one hg4));clear hs4 hg4;go_wp2_with fail;go_ret;exact⟨false,_,.inr ⟨rfl,m,hm,HN.out,HOO.out,rfl⟩,HT4.out,.inr ⟨rfl,rfl,HS4.out⟩⟩
  ·obtain rfl:m=L.length:=by omega
   rw[List.take_length]at hz ⊢;have HSD:=HS.out.drew;have HB5:=zH (show Below wr.drew.heap.size wr.drew (wr.drew.alloc (.cells #[.int .i64 (n+1),.int .i64 x,.int .i64 ck,.int .i64 nx,.int .i64 (L.length:Int)] 3))from(Below.refl _ _).alloc (Nat.le_refl _) _);have HC:=SD.four HSD;have HC5:=SD.four (HSD.keep HB5.out);go_wp2_with fail
   go_region_held3 (fun w'=>w'.cell? ⟨sb,1,none⟩=some (.int .i64 ck)∧w'.cell? ⟨sb,2,none⟩=some (.int .i64 nx)∧w'.cell? ⟨sb,3,none⟩=some (.slice sa L.length sc)∧w'.cell? ⟨sb,6,none⟩=some (.int .i64 x))
    (first
     |with_reducible assumption
     |with_reducible exact HC
     |with_reducible exact HC5
     |exact HC5)
    (fail)
   have HW5:=zH (show Below wr.heap.size wr (wr.alloc (.cells #[.int .i64 (n+1),.int .i64 x,.int .i64 ck,.int .i64 nx,.int .i64 (L.length:Int)] 3))from(Below.refl _ _).alloc (Nat.le_refl _) _);have HSD5:Hid (SD B sb db (famD D at_ L L.length) ⟨ck,nx,L⟩ (.slice sa L.length sc) n f x false (wr.alloc (.cells #[.int .i64 (n+1),.int .i64 x,.int .i64 ck,.int .i64 nx,.int .i64 (L.length:Int)] 3)).drew):=zH (HS.out.keep HW5.out).drew;have HT5:Hid (dH sb db W (wr.alloc (.cells #[.int .i64 (n+1),.int .i64 x,.int .i64 ck,.int .i64 nx,.int .i64 (L.length:Int)] 3)).drew):=zH ((HT.out.trans (dH.of_below HW5.out)).trans (dH.of_drew _));have HI6:Hid (aJ (wr.alloc (.cells #[.int .i64 (n+1),.int .i64 x,.int .i64 ck,.int .i64 nx,.int .i64 (L.length:Int)] 3)).drew wr.heap.size [n+1,x,ck,nx,(L.length:Int)]):=zH (eI wr 3 [n+1,x,ck,nx,(L.length:Int)]);have HNN:Hid (∀ y∈[n+1,x,ck,nx,(L.length:Int)],kt y=true):=zH (F2 HI.out h0 h1 h2 h3);clear HSD HB5 HC HC5 HS HT HW5 c0 c1 c2 c3 c4 c5 c6 c7 z hlt;have hl5: [n+1,x,ck,nx,(L.length:Int)].length=5:=rfl;go_wp2_with fail;generalize (wr.alloc (.cells #[.int .i64 (n+1),.int .i64 x,.int .i64 ck,.int .i64 nx,.int .i64 (L.length:Int)] 3)).drew=w5 at*;generalize wr.heap.size=g5 at*
   go_loopw [11,87] (fun out i wr'=>Ia w5 g5 [n+1,x,ck,nx,(L.length:Int)] out i wr') (fun _ i _=>5 - (intOf i).toNat)
   case atStart=>exact⟨0,Nat.zero_le _,rfl,TN.start HI6.out⟩
   case round=>
    obtain⟨k,hk,rfl,ht⟩:=hrel;have HTN:=zH ht;clear ht;generalize hL5: [n+1,x,ck,nx,(L.length:Int)]=L5 at*;have HL5:=zH hL5;clear hL5
    by_cases hlt5:k<5
    ·have hc:=HTN.out.ints k oM
     have hok:kt (L5.getD k 0)=true:=HNN.out _ (by rw[List.getD_eq_getElem?_getD,List.getElem?_eq_getElem oM];exact List.getElem_mem oM);have HX:=zH (show encStr (Lib.itoa (L5.getD k 0))=.string (aL (L5.getD k 0))from rfl);generalize hx:L5.getD k 0=xk at*;have HXX:=zH hx;have HIT:=zH (fun w hT=>qo xk hok w hT);clear hx hok;generalize aL xk=y at*;go_wp2_with fail;go_at_call 26;refine(HIT.out _ (HSD5.out.keep HTN.out.below).env.tens).mono ?_;rintro e w6 ⟨rfl,hb⟩;have HT1:=zH (HTN.out.call hb);have hrow:=HT1.out.row;have hB2:=HT1.out.below.size;clear hb hc
     go_wp2_with
      (at_builtin;refine wpList_append_own _ rfl _ _ 34 rfl w5.heap.size 9 i0 (.string ByteArray.empty) 1 16 underlying34 hii hz0 hz1 hz2 rfl dC _ _ _ rfl (hrow.alloc _) ⟨w6.heap.size,0,none⟩ 1 1 [.string y] rfl rfl (cell_one_new _ _ _) (fun x hx=>by simp at hx;subst hx;rfl) (by unfold maxLen;omega) oM (by simp;omega) ?_;intro v' w7 hown hgrow hnil
       have HO:=zH hown;have HG:=zH hgrow;clear hown hgrow hnil hrow)
     go_roundw
     case rel=>exact⟨k+1,by omega,by go_num,TN.next HI6.out HT1.out oM (by rw[HXX.out];exact HX.out.symm) HO.out HG.out⟩
     case measure=>simp[intOf];omega
    ·obtain rfl:k=5:=by omega
     have hrow:=HTN.out.row;rw[List.take_of_length_le oM]at hrow;have hb0:=HTN.out.below;have HC0:=SD.one (HSD5.out.keep hb0).drew;have HTG:=zH (fun w=>me 1 (ah (ew L)) w oM);rw[ak]at HTG;have hgs:(⟨(aQ 1 (ew L)).toArray⟩:ByteArray)=ah (aQ 1 (ew L)):=rfl;rw[hgs]at HTG;have hwl:=wT (n:=n+1) (f:=x) (s:=⟨ck,nx,L⟩) HI.out (bO.2 oM) (bO.2 oM)
     have hwds:L5.map (fun x=>encStr (Lib.itoa x))++[.string (ah (aQ 1 (ew L)))]=(eM aQ (n+1) x ⟨ck,nx,L⟩ (ew L)).map encStr:=by
      rw[←HL5.out];rfl
     have HWD:=zH hwds;have hsz5:=hb0.size;clear hwds hgs
     have HROW:Hid (∀ (w8:World) (g8 cap8:Nat),w8.ownsRow w5.heap.size 9 1 (.slice (some ⟨g8,0,none⟩) (5+1) cap8) (5+1) (L5.map (fun x=>encStr (Lib.itoa x))++[.string (ah (aQ 1 (ew L)))])→gi w8 w5.heap.size (.slice (some ⟨g8,0,none⟩) (5+1) cap8) (eM aQ (n+1) x ⟨ck,nx,L⟩ (ew L))):=zH (fun w8 g8 cap8 ho=>by
      rw[HWD.out]at ho;exact ir ho (by simp[eM]))
     have HSE:=zH (fun w v h=>oe w5.heap.size v (eM aQ (n+1) x ⟨ck,nx,L⟩ (ew L)) w h (by simp[eM]) (by have:=hwl.1;exact Nat.le_trans this dC));have hhd:ah (kT aQ (bM 32 (eM aQ (n+1) x ⟨ck,nx,L⟩ (ew L))))=ah (gR aQ (n+1) x ⟨ck,nx,L⟩):=rfl;rw[hhd]at HSE;have hhs:(ah (gR aQ (n+1) x ⟨ck,nx,L⟩)).size≤240:=by rw[bB];exact hwl.2
     have hbd:Below w5.heap.size w5 wr.drew:=⟨hb0.os,hb0.tape,hb0.output,hb0.size,hb0.block⟩;have hrd:wr.drew.ownsRow w5.heap.size 9 1 u11 5 (L5.map (fun x=>encStr (Lib.itoa x))):=hrow;clear hhd hwl HWD;generalize (eM aQ (n+1) x ⟨ck,nx,L⟩ (ew L))=words at*;generalize hgt:ah (aQ 1 (ew L))=tg at*;generalize ah (ew L)=al at*;generalize hhe:ah (gR aQ (n+1) x ⟨ck,nx,L⟩)=hd at HSE hhs;have HHD:=zH hhe;clear hhe;rcases hoff:pw (famD D at_ L L.length)with _|_
     ·have HWR:=zH (fun w h=>mR db (famD D at_ L L.length) at_ hd w h oM hhs hoff)
      have HOO:=zH hoff;clear hoff hhs;go_wp2_with fail
      go_region_held3 (fun w'=>w'.cell? ⟨sb,0,none⟩=some (.pointer (some ⟨db,0,none⟩)))
       (first
        |with_reducible assumption
        |with_reducible exact HC0
        |with_reducible exact SD.one (SD.keep HSD5.out hb9)
        |with_reducible exact SD.one (SD.keep HSD5.out hb8)
        |with_reducible exact SD.one (SD.keep HSD5.out hba)
        |with_reducible exact SD.one (SD.keep HSD5.out hbt)
        |with_reducible exact SD.one hs10)
       (first
        |(go_at_call 107;with_reducible refine(HTG.out _).mono ?_;rintro e wt ⟨rfl,hb⟩
          have hbt:=ae hbd hb;have hrt:=kG hrd hb;have hba:=Below.alloc hbt hbt.size (.cells #[.string tg] 9);have hra:=hrt.alloc (.cells #[.string tg] 9);have hza:=hba.size)
        |(refine step_append_lies _ rfl _ _ 34 rfl w5.heap.size 9 i0 (.string ByteArray.empty) 1 16 underlying34 hii hz0 hz1 hz2 rfl dC _ _ _ rfl hra ⟨wt.heap.size,0,none⟩ 1 1 [.string tg] rfl rfl (cell_one_new _ _ _) (fun x hx=>by simp at hx;subst hx;rfl) dC (by unfold maxLen;omega) oM hza _ rfl ?_;intro g8 cap8 w8 hown hgrow hat8 hlt8
          have hr8:=HROW.out w8 g8 cap8 hown;have hb8:=Below.grown hba hgrow hba.size (fun i e=>(World.ownsRow.lt hra i e).1);clear hown hgrow hat8 hlt8)
        |(go_at_call 189;with_reducible refine(HSE.out _ _ hr8).mono ?_;rintro e w9 ⟨rfl,hb⟩
          have hb9:=ae hb8 hb)
        |(go_at_call 187;with_reducible refine(HWR.out _ (SD.disk (SD.keep HSD5.out hb9))).mono ?_;rintro e w10 ⟨rfl,hd10,hg10⟩
          have hs10:=SD.wrote (SD.keep HSD5.out hb9) hd10 hg10))
      have HS10:=zH hs10;have HT10:=zH ((HT5.out.trans (dH.of_below hb9)).trans (dH.of_two hg10));obtain⟨c0,c1,c2,c3,c4,c5,c6,c7,z,hlt⟩:=HS10.out.cells;clear hs10 hd10 hg10 hb9 hr8 hb8 hza hra hba hrt hbt hrd hbd hrow hb0 HC0 hsz5;go_wp2_with fail;go_ret;obtain⟨k1,k2⟩:=HS10.out.number (n+1) x;have e:=HHD.out;subst e;refine⟨true,_,.inl ⟨rfl,fun m hm=>?_,rfl⟩,HT10.out.trans (dH.of_one k2),.inl ⟨rfl,rfl,k1⟩⟩;rcases Nat.lt_or_ge m L.length with hml|hml
      ·exact HN.out m hml
      ·obtain rfl:m=L.length:=Nat.le_antisymm hm hml
       exact HOO.out
     ·obtain⟨q1,q2⟩:=vA hoff
      have HWR:=zH (fun w h=>jq db (famD D at_ L L.length) (at_:Int) hd w h oM oM hhs q1 q2);have HOO:=zH hoff;clear hoff hhs q1 q2;go_wp2_with fail
      go_region_held3 (fun w'=>w'.cell? ⟨sb,0,none⟩=some (.pointer (some ⟨db,0,none⟩)))
       (first
        |with_reducible assumption
        |with_reducible exact HC0
        |with_reducible exact SD.one (SD.keep HSD5.out hb9)
        |with_reducible exact SD.one (SD.keep HSD5.out hb8)
        |with_reducible exact SD.one (SD.keep HSD5.out hba)
        |with_reducible exact SD.one (SD.keep HSD5.out hbt))
       (first
        |(go_at_call 107;with_reducible refine(HTG.out _).mono ?_;rintro e wt ⟨rfl,hb⟩
          have hbt:=ae hbd hb;have hrt:=kG hrd hb;have hba:=Below.alloc hbt hbt.size (.cells #[.string tg] 9);have hra:=hrt.alloc (.cells #[.string tg] 9);have hza:=hba.size)
        |(refine step_append_lies _ rfl _ _ 34 rfl w5.heap.size 9 i0 (.string ByteArray.empty) 1 16 underlying34 hii hz0 hz1 hz2 rfl dC _ _ _ rfl hra ⟨wt.heap.size,0,none⟩ 1 1 [.string tg] rfl rfl (cell_one_new _ _ _) (fun x hx=>by simp at hx;subst hx;rfl) dC (by unfold maxLen;omega) oM hza _ rfl ?_;intro g8 cap8 w8 hown hgrow hat8 hlt8
          have hr8:=HROW.out w8 g8 cap8 hown;have hb8:=Below.grown hba hgrow hba.size (fun i e=>(World.ownsRow.lt hra i e).1);clear hown hgrow hat8 hlt8)
        |(go_at_call 189;with_reducible refine(HSE.out _ _ hr8).mono ?_;rintro e w9 ⟨rfl,hb⟩
          have hb9:=ae hb8 hb)
        |(go_at_call 187;with_reducible refine(HWR.out _ (SD.disk (SD.keep HSD5.out hb9))).mono ?_;rintro e w10 ⟨rfl,rfl⟩))
      have HS9:=zH (HSD5.out.keep hb9);have HT9:=zH (HT5.out.trans (dH.of_below hb9));clear hb9 hr8 hb8 hza hra hba hrt hbt hrd hbd hrow hb0 HC0 hsz5;obtain⟨c0,c1,c2,c3,c4,c5,c6,c7,z,hlt⟩:=HS9.out.cells;go_wp2_with fail;refine(nz sb db ⟨ck,nx,L⟩ _ n f x false _ HS9.out.st).mono ?_;rintro e w11 ⟨rfl,hs4,hg4⟩;have HS11:=zH (HS9.out.noted hs4 hg4);have HT11:=zH (HT9.out.trans (dH.of_one hg4));clear hs4 hg4;go_wp2_with fail;go_ret;exact⟨false,_,.inr ⟨rfl,L.length,Nat.le_refl _,HN.out,HOO.out,rfl⟩,HT11.out,.inr ⟨rfl,rfl,HS11.out⟩⟩
end Go.Proofs.YtepjcdjpikbbjaaGreatDoor
