/-
  The reference's May: may an event be?
-/
import Derived.Test.YtepjcdjpikbbjaaGreatDoorU00
import Derived.Test.YtepjcdjpikbbjaaGreatDoorU10
import Derived.Test.YtepjcdjpikbbjaaGreatDoorU05
import Derived.Shelf.Spec.SlicesInsertGrow
import Derived.Laws.CopyRow
set_option maxHeartbeats 16000000
set_option maxRecDepth 100000
namespace Go.Proofs.YtepjcdjpikbbjaaGreatDoor
open Go.Proofs.Tryz
open Go.RowKit Go.Sort
def Il (L:List Int) (w:World) (i:Value) (wr:World):Prop:= ∃ k:Nat,k≤4∧i=.int .i64 k∧w=wr∧ ∀ j,j<k→ba (L.getD j 0)=true
theorem Ic (w:World) (T:TypeId) (a b c d:Int):aJ (w.alloc (.cells #[.int .i64 a,.int .i64 b,.int .i64 c,.int .i64 d] T)) w.heap.size [a,b,c,d]:=eI w T [a,b,c,d]
theorem GE (e:Ev) (W:World) (hk:e.kind=1) (hs:e.fam.short 5000):
  Calls prog 142 #[aE e] W fun x w'=>x=.returned (.bool (dp e))∧Below W.heap.size W w':=by
 have hr:dp e=(decide (e.id=0)&&decide (e.time=0)&&gy e.fam):=by unfold dp;rw[if_pos hk]
 have HS:=zH (MR.start (T:=145) (W:=W) e);obtain⟨k,⟨i,cl,su,sc,ge,ma,us,re,de⟩,id,ti⟩:=e;dsimp only at hk;subst hk;obtain⟨s1,s2,s3,s4⟩:=hs;dsimp only at s1 s2 s3 s4 hr;unfold gy at hr;dsimp only at hr;have h1:(id == 0)=decide (id=0):=by rw[Bool.eq_iff_iff];simp
 have h2:(ti == 0)=decide (ti=0):=by rw[Bool.eq_iff_iff];simp
 have HN1:=zH (fun w=>kc cl w s1);have HN2:=zH (fun w=>kc su w s2);have HN3:=zH (fun w=>kc re w s4);have HL:=zH (fun w=>mu sc w s3);have h6:=hC (s:=re);have h8:=xP (ah (aT sc.data.toList)) sc _ rfl;have h7:(aw sc.data.toList == 0)=decide (aw sc.data.toList=0):=by rw[Bool.eq_iff_iff];simp
 have h9:kP sc.data.toList=(decide (aw sc.data.toList=0)&&decide (aT sc.data.toList=sc.data.toList)):=rfl;have h10:qF re.data.toList=(decide (re.data.toList=[]) || bF re.data.toList):=rfl;have h11: [i,ge,ma,us].all ba=(ba i&&ba ge&&ba ma&&ba us):=Aj i ge ma us;rw[h9,h10]at hr;clear h9 h10;generalize ah (aT sc.data.toList)=y at*;have hb:(ba i&&ba ge&&ba ma&&ba us&&bF cl.data.toList&&bF su.data.toList&&(decide (re.data.toList=[]) || bF re.data.toList)&&(decide (aw sc.data.toList=0)&&decide (aT sc.data.toList=sc.data.toList)))=((ba i&&ba ge&&ba ma&&ba us)&&bF cl.data.toList&&bF su.data.toList&&(decide (re.data.toList=[]) || bF re.data.toList)&&(decide (aw sc.data.toList=0)&&decide (aT sc.data.toList=sc.data.toList))):=rfl;rw[hb,←h11]at hr;clear hb h11;generalize decide (aw sc.data.toList=0)=b8 at*;generalize aw sc.data.toList=n at*;generalize decide (aT sc.data.toList=sc.data.toList)=b9 at*;generalize bF cl.data.toList=b4 at*;generalize bF su.data.toList=b5 at*;generalize bF re.data.toList=b7 at*;generalize decide (re.data.toList=[])=b6 at*;generalize decide (id=0)=b1 at*;generalize decide (ti=0)=b2 at*;have HR:=zH hr;have H1:=zH h1;have H2:=zH h2;have H6:=zH h6;have H7:=zH h7;have H8:=zH h8;clear hr h1 h2 h6 h7 h8;unfold aE ax;dsimp only;go_enter Tryz.func142,Tryz.ntmps142;go_wp2_with fail;have HC:=zH (HS.out.keep ((Below.refl _ _).alloc (Nat.le_refl _) (.cells #[.int .i64 i,.int .i64 ge,.int .i64 ma,.int .i64 us] 3)));unfold ax af at HC;dsimp only at HC;have HI:=zH (Ic ((W.alloc (.cells #[.int .i64 1,.int .i64 i,.string cl,.string su,.string sc,.int .i64 ge,.int .i64 ma,.int .i64 us,.string re,.bool de,.int .i64 id,.int .i64 ti] 145)).alloc (.cells #[.int .i64 i,.string cl,.string su,.string sc,.int .i64 ge,.int .i64 ma,.int .i64 us,.string re,.bool de] 95)) 3 i ge ma us);have hsz:((W.alloc (.cells #[.int .i64 1,.int .i64 i,.string cl,.string su,.string sc,.int .i64 ge,.int .i64 ma,.int .i64 us,.string re,.bool de,.int .i64 id,.int .i64 ti] 145)).alloc (.cells #[.int .i64 i,.string cl,.string su,.string sc,.int .i64 ge,.int .i64 ma,.int .i64 us,.string re,.bool de] 95)).heap.size=W.heap.size+1+1:=by simp
 rw[hsz]at HI;clear hsz HS;generalize (((W.alloc (.cells #[.int .i64 1,.int .i64 i,.string cl,.string su,.string sc,.int .i64 ge,.int .i64 ma,.int .i64 us,.string re,.bool de,.int .i64 id,.int .i64 ti] 145)).alloc (.cells #[.int .i64 i,.string cl,.string su,.string sc,.int .i64 ge,.int .i64 ma,.int .i64 us,.string re,.bool de] 95)).alloc (.cells #[.int .i64 i,.int .i64 ge,.int .i64 ma,.int .i64 us] 3))=w0 at*;obtain⟨c0,c1,c2,d0,d1,d2,d3,d4,d5,d6,d7,d8⟩:=HC.out.cells
 go_loopw [24] (fun i' wr=>Il [i,ge,ma,us] w0 i' wr) (fun i' _=>4 - (intOf i').toNat)
 case atStart=>exact⟨0,by omega,rfl,rfl,fun j hj=>absurd hj (Nat.not_lt_zero _)⟩
 case round=>
  obtain⟨k,hk,rfl,rfl,hyes⟩:=hrel;have HY:=zH hyes;clear hyes
  by_cases hlt:k<4
  ·have hc:=HI.out k hlt
   clear c0 c1 c2 d0 d1 d2 d3 d4 d5 d6 d7 d8;have HLT:=zH (show k< [i,ge,ma,us].length from hlt);generalize hx: [i,ge,ma,us].getD k 0=z at*;have HX:=zH hx;clear hx;have HIN:=zH (fun w=>nZ z 0 1099511627776 w);have hok:(decide ((0:Int)≤z)&&decide (z≤1099511627776))=ba z:=rfl;rw[hok]at HIN;clear hok;cases hz:ba z
   all_goals
    have HZ:=zH hz;rw[hz]at HIN;clear hz;go_wp2_with fail;go_at_call 83;refine(HIN.out _).mono ?_;rintro x w' ⟨rfl,rfl⟩;go_wp2_with fail
   ·go_ret
    refine⟨?_,HC.out.below⟩;rw[HR.out,Av HLT.out (by rw[HX.out];exact HZ.out)];simp
   ·go_roundw
    case rel=>
     refine⟨k+1,by omega,by go_num,rfl,fun j hj=>?_⟩
     by_cases e:j=k
     ·subst e
      rw[HX.out];exact HZ.out
     ·exact HY.out j oM
    case measure=>simp[intOf];omega
  ·have hk4:k=4:=by omega
   subst hk4;have hall:=wJ (L:=[i,ge,ma,us]) fun j hj=>HY.out j hj
   have hr2:=HR.out;rw[hall]at hr2;have HR:=zH hr2;clear hall HI HY hr2;go_wp2_with fail;go_at_call 46;refine(HL.out _).mono ?_;rintro x w' ⟨rfl,hb⟩;have HC:=zH (HC.out.keep hb);clear hb c0 c1 c2 d0 d1 d2 d3 d4 d5 d6 d7 d8;obtain⟨c0,c1,c2,d0,d1,d2,d3,d4,d5,d6,d7,d8⟩:=HC.out.cells;have h1:=H1.out;clear H1;cases b1
   ·go_wp2_with fail
    go_ret;exact⟨by rw[HR.out];first|rfl|simp,HC.out.below⟩
   have h2:=H2.out;clear H2;cases b2
   ·go_wp2_with fail
    go_ret;exact⟨by rw[HR.out];first|rfl|simp,HC.out.below⟩
   go_wp2_with fail;go_at_call 84;refine(HN1.out _).mono ?_;rintro x w' ⟨rfl,rfl⟩;cases b4
   ·go_wp2_with fail
    go_ret;exact⟨by rw[HR.out];first|rfl|simp,HC.out.below⟩
   go_wp2_with fail;go_at_call 84;refine(HN2.out _).mono ?_;rintro x w' ⟨rfl,rfl⟩;cases b5
   ·go_wp2_with fail
    go_ret;exact⟨by rw[HR.out];first|rfl|simp,HC.out.below⟩
   have h6:=H6.out;clear H6;cases b6
   ·go_wp2_with fail
    go_at_call 84;refine(HN3.out _).mono ?_;rintro x w' ⟨rfl,rfl⟩;cases b7
    ·go_wp2_with fail
     go_ret;exact⟨by rw[HR.out];first|rfl|simp,HC.out.below⟩
    have h7:=H7.out;have h8:=H8.out;clear H7 H8;cases b8
    all_goals
     go_wp2_with fail;go_ret;exact⟨by rw[HR.out];first|rfl|simp,HC.out.below⟩
   ·have h7:=H7.out
    have h8:=H8.out;clear H7 H8;cases b8
    all_goals
     go_wp2_with fail;go_ret;exact⟨by rw[HR.out];first|rfl|simp,HC.out.below⟩
theorem xA (e:Ev) (W:World) (hk:e.kind=2∨e.kind=3):
  Calls prog 142 #[aE e] W fun x w'=>x=.returned (.bool (dp e))∧Below W.heap.size W w':=by
 obtain⟨a,b,hab⟩: ∃ a b,((e.kind=2∧a=e.time∧b=e.id)∨(e.kind=3∧a=e.id∧b=e.time)):=by
  rcases hk with h|h
  ·exact⟨_,_,.inl ⟨h,rfl,rfl⟩⟩
  ·exact⟨_,_,.inr ⟨h,rfl,rfl⟩⟩
 have HR:=zH (uB e.kind a b e rfl hab);have HIN:=zH (fun w=>nZ b 0 1099511627776 w);rw[show(decide ((0:Int)≤b)&&decide (b≤1099511627776))=ba b from rfl]at HIN;clear hk;obtain⟨k,f,id,ti⟩:=e;dsimp only at hab HR;have hb:b=id∨b=ti:=by rcases hab with⟨-,-,h⟩|⟨-,-,h⟩<;>simp[h]
 cases hz:f.isZero
 ·have HX:=zH hz
  have hev:Hid (dp ⟨k,f,id,ti⟩=false):=zH (by rw[HR.out,hz];rfl);clear HR hz;generalize hX:dp ⟨k,f,id,ti⟩=X at*;clear hX;obtain⟨i,cl,su,sc,ge,ma,us,re,de⟩:=f;unfold aE ax;dsimp only;rcases hab with⟨rfl,rfl,rfl⟩|⟨rfl,rfl,rfl⟩
  all_goals
   go_enter Tryz.func142,Tryz.ntmps142;go_wp2_with fail
   all_goals first
    |(go_ret
      exact⟨by rw[hev.out];rfl,bZ _ _ _⟩)
    |exact(AL aS aS aS aS aS aS aS aS aS HX.out).elim
 ·obtain rfl:=an.isZero_iff.1 hz
  clear hz;have hz2:an.zero.isZero=true:=an.isZero_iff.2 rfl;rw[hz2]at HR;clear hz2;generalize hX:dp ⟨k,an.zero,id,ti⟩=X at*;clear hX;unfold aE ax an.zero;dsimp only
  by_cases h0:a=0
  ·have h0':decide (a=0)=true:=by simpa using h0
   rw[h0']at HR;rcases hab with⟨rfl,h1,rfl⟩|⟨rfl,h1,rfl⟩
   all_goals
    subst h1;subst h0;go_enter Tryz.func142,Tryz.ntmps142;go_wp2_with (go_at_call 83;refine(HIN.out _).mono ?_;rintro x w' ⟨rfl,rfl⟩);go_ret;exact⟨by rw[HR.out];rfl,bZ _ _ _⟩
  ·have h0':decide (a=0)=false:=by simpa using h0
   rw[h0']at HR;have h0b:(a == 0)=false:=by simpa using h0
   rcases hab with⟨rfl,rfl,rfl⟩|⟨rfl,rfl,rfl⟩
   all_goals
    go_enter Tryz.func142,Tryz.ntmps142;go_wp2_with fail;go_ret;exact⟨by rw[HR.out];rfl,bZ _ _ _⟩
theorem Gt (e:Ev) (W:World) (h1:e.kind≠1) (h2:e.kind≠2) (h3:e.kind≠3):
  Calls prog 142 #[aE e] W fun x w'=>x=.returned (.bool (dp e))∧Below W.heap.size W w':=by
 have HR:Hid (dp e=false):=zH (by unfold dp;rw[if_neg h1,if_neg h2,if_neg h3]);obtain⟨k,⟨i,cl,su,sc,ge,ma,us,re,de⟩,id,ti⟩:=e;dsimp only at h1 h2 h3;have e1:(k == 1)=false:=by simpa using h1
 have e2:(k == 2)=false:=by simpa using h2
 have e3:(k == 3)=false:=by simpa using h3
 clear h1 h2 h3;unfold aE ax;dsimp only;go_enter Tryz.func142,Tryz.ntmps142;go_wp2_with fail;go_ret;exact⟨by rw[HR.out];rfl,bZ _ _ _⟩
theorem Ar (e:Ev) (W:World) (hs:e.fam.short 5000):
  Calls prog 142 #[aE e] W fun x w'=>x=.returned (.bool (dp e))∧Below W.heap.size W w':=by
 by_cases h1:e.kind=1
 ·exact GE e W h1 hs
 ·by_cases h2:e.kind=2
  ·exact xA e W (.inl h2)
  ·by_cases h3:e.kind=3
   ·exact xA e W (.inr h3)
   ·exact Gt e W h1 h2 h3
theorem Az (f:an) (n:Int) (hf:ba f.id=true) (hn:ba n=true) (w:World):
  Calls prog 112 #[aO f,.int .i64 n] w fun e w'=>e=.returned (.int .i64 (f.id - n))∧Below w.heap.size w w':=by
 have h1:=az.1 hf;have h2:=az.1 hn;obtain⟨i,cl,su,sc,ge,ma,us,re,de⟩:=f;dsimp only at h1;unfold aO af;dsimp only;go_enter Tryz.func112,Tryz.ntmps112;go_wp2_with fail;go_ret;exact⟨rfl,(Below.refl _ _).alloc (Nat.le_refl _) _⟩
theorem aD.nine {w:World} {B g cap:Nat} {L:List an} (h:aD w B (.slice (some ⟨g,0,none⟩) L.length cap) L) {k:Nat} {i:Int} {cl su sc:ByteArray} {ge ma us:Int} {re:ByteArray} {de:Bool} (hk:L[k]?=some ⟨i,cl,su,sc,ge,ma,us,re,de⟩):
  w.cell? ⟨g,k*9,none⟩=some (.int .i64 i)∧w.cell? ⟨g,k*9+1,none⟩=some (.string cl)∧w.cell? ⟨g,k*9+2,none⟩=some (.string su)∧w.cell? ⟨g,k*9+3,none⟩=some (.string sc)∧w.cell? ⟨g,k*9+4,none⟩=some (.int .i64 ge)∧
  w.cell? ⟨g,k*9+5,none⟩=some (.int .i64 ma)∧w.cell? ⟨g,k*9+6,none⟩=some (.int .i64 us)∧w.cell? ⟨g,k*9+7,none⟩=some (.string re)∧w.cell? ⟨g,k*9+8,none⟩=some (.bool de):=
 ⟨h.at_ hk 0 dC,h.at_ hk 1 dC,h.at_ hk 2 dC,h.at_ hk 3 dC,h.at_ hk 4 dC,h.at_ hk 5 dC,h.at_ hk 6 dC,h.at_ hk 7 dC,h.at_ hk 8 dC⟩
structure FD (W:World) (B:Nat) (v:Value) (L:List an) (n:Int) (a b:Nat) (w:World):Prop where
 below:Below W.heap.size W w
 row:aD w B v L
 le:a≤b
 top:b≤L.length
 low: ∀ j f,j<a→L[j]?=some f→f.id<n
 high: ∀ j f,b≤j→L[j]?=some f→n≤f.id
def Gd (W:World) (B:Nat) (v:Value) (L:List an) (n:Int) (i j:Value) (wr:World):Prop:= ∃ a b:Nat,i=.int .i64 a∧j=.int .i64 b∧FD W B v L n a b wr
theorem sT (B g cap:Nat) (L:List an) (n:Int) (W:World) (h:aD W B (.slice (some ⟨g,0,none⟩) L.length cap) L) (hL:L.length≤1000000) (hA:mD L) (hids: ∀ f∈L,ba f.id=true) (hn:ba n=true):
  Calls prog 111 #[.slice (some ⟨g,0,none⟩) L.length cap,.int .i64 n,.func (.func 112) #[] #[]] W
   fun e w'=>e=.returned (.tuple #[.int .i64 (ahead L n),.bool (jw L n)])∧Below W.heap.size W w':=by
 have H0:=zH h;have HI:=zH hids;have HA:=zH hA;clear h hids hA;go_enter Tryz.func111,Tryz.ntmps111
 go_wp2
 go_loopw [9,10] (fun i j wr=>Gd W B (.slice (some ⟨g,0,none⟩) L.length cap) L n i j wr) (fun i j _=>(intOf j).toNat - (intOf i).toNat)
 case atStart=>exact⟨0,L.length,rfl,rfl,Below.refl _ _,H0.out,Nat.zero_le _,Nat.le_refl _,fun j f hj=>absurd hj (Nat.not_lt_zero _),fun j f hj hf=>by rw[List.getElem?_eq_none hj]at hf;cases hf⟩
 case round=>
  obtain⟨a,b,rfl,rfl,hd⟩:=hrel;have HD:=zH hd;have hab:=hd.le;have htop:=hd.top;clear hd
  by_cases hlt:a<b
  ·obtain⟨k,hk1,hk2,hk3,hk4⟩: ∃ k:Nat,((a:Int)+(b:Int)) / 2=(k:Int)∧(a+b) / 2=k∧a≤k∧k<b:=⟨(a+b) / 2,by omega,rfl,by omega,by omega⟩
   have hkL:k<L.length:=by omega
   obtain⟨f,hf⟩: ∃ f,L[k]?=some f:=⟨_,List.getElem?_eq_getElem hkL⟩;have hfo:=HI.out f (List.mem_of_getElem? hf);have HC:=zH (fun w=>Az f n hfo hn w);have hfr:=az.1 hfo;have hnr:=az.1 hn
   have hsh: ∀ j f',j<k+1→L[j]?=some f'→f'.id≤f.id:=by
    intro j f' hj hf';rcases Nat.lt_or_ge j k with hjk|hjk
    ·have:=List.pairwise_iff_getElem.1 HA.out j k oM hkL hjk
     rw[List.getElem?_eq_getElem oM]at hf' hf;cases hf';cases hf;omega
    ·obtain rfl:j=k:=by omega
     rw[hf]at hf';cases hf';exact Int.le_refl _
   have hsl: ∀ j f',k≤j→L[j]?=some f'→f.id≤f'.id:=by
    intro j f' hj hf';rcases Nat.lt_or_ge k j with hjk|hjk
    ·have hjl:=(List.getElem?_eq_some_iff.1 hf').1
     have:=List.pairwise_iff_getElem.1 HA.out k j hkL hjl hjk;rw[List.getElem?_eq_getElem oM]at hf' hf;cases hf';cases hf;omega
    ·obtain rfl:j=k:=by omega
     rw[hf]at hf';cases hf';exact Int.le_refl _
   have HSH:=zH hsh;have HSL:=zH hsl;obtain⟨i,cl,su,sc,ge,ma,us,re,de⟩:=f;obtain⟨c0,c1,c2,c3,c4,c5,c6,c7,c8⟩:=HD.out.row.nine hf;have HF:=zH hf;unfold aO af at HC;dsimp only at HC hfr hfo;clear hf hsh hsl hfo
   by_cases hc:i<n
   all_goals
    go_wp2_with fail;go_at_call 112;refine(HC.out _).mono ?_;rintro e w1 ⟨rfl,hb⟩;have HB:=zH hb;clear hb c0 c1 c2 c3 c4 c5 c6 c7 c8;go_wp2_with fail
   ·go_roundw
    case rel=>exact⟨k+1,b,by go_num,rfl,ae HD.out.below HB.out,HD.out.row.below HB.out,by omega,HD.out.top,fun j f' hj hf'=>by have:=HSH.out j f' hj hf';omega,HD.out.high⟩
    case measure=>simp[intOf];omega
   ·go_roundw
    case rel=>exact⟨a,k,rfl,rfl,ae HD.out.below HB.out,HD.out.row.below HB.out,hk3,by omega,HD.out.low,fun j f' hj hf'=>by have:=HSL.out j f' hj hf';omega⟩
    case measure=>simp[intOf];omega
  ·obtain rfl:a=b:=by omega
   have HE:=zH (Eu HA.out HD.out.top HD.out.low HD.out.high)
   by_cases haL:a<L.length
   ·obtain⟨f,hf⟩: ∃ f,L[a]?=some f:=⟨_,List.getElem?_eq_getElem haL⟩
    have hfo:=HI.out f (List.mem_of_getElem? hf);have HC:=zH (fun w=>Az f n hfo hn w);have HHB:=zH (lV (L:=L) (n:=n) (f:=f) (by rw[HE.out];exact hf));obtain⟨i,cl,su,sc,ge,ma,us,re,de⟩:=f;obtain⟨c0,c1,c2,c3,c4,c5,c6,c7,c8⟩:=HD.out.row.nine hf;have hz:(i - n == 0)=decide (i=n):=by rw[Bool.eq_iff_iff];simp;omega
    unfold aO af at HC;dsimp only at HC HHB;generalize decide (i=n)=bq at*;clear hf hfo;go_wp2_with fail;go_at_call 112;refine(HC.out _).mono ?_;rintro e w1 ⟨rfl,hb⟩;have HB:=zH hb;clear hb c0 c1 c2 c3 c4 c5 c6 c7 c8;go_wp2_with fail;go_ret2;exact⟨by rw[HE.out,HHB.out];rfl,ae HD.out.below HB.out⟩
   ·have HHB:=zH (o6 (L:=L) (n:=n) (by rw[HE.out];omega))
    go_wp2_with fail;go_ret2;exact⟨by rw[HE.out,HHB.out];rfl,HD.out.below⟩
theorem vC (n:Int) (W:World):
  Calls prog 111 #[.slice none 0 0,.int .i64 n,.func (.func 112) #[] #[]] W
   fun e w'=>e=.returned (.tuple #[.int .i64 0,.bool false])∧W=w':=by
 go_enter Tryz.func111,Tryz.ntmps111
 go_wp2
 go_loopw [9,10] (fun i j wr=>i=.int .i64 0∧j=.int .i64 0∧W=wr) (fun _ _ _=>0)
 case atStart=>exact⟨rfl,rfl,rfl⟩
 case round=>
  obtain⟨rfl,rfl,rfl⟩:=hrel;go_wp2_with fail;go_ret2;exact⟨rfl,rfl⟩
theorem Fr (B:Nat) (v:Value) (L:List an) (n:Int) (W:World) (h:aD W B v L) (hL:L.length≤1000000) (hA:mD L) (hids: ∀ f∈L,ba f.id=true) (hn:ba n=true):
  Calls prog 111 #[v,.int .i64 n,.func (.func 112) #[] #[]] W
   fun e w'=>e=.returned (.tuple #[.int .i64 (ahead L n),.bool (jw L n)])∧Below W.heap.size W w':=by
 rcases h.parts with⟨rfl,rfl⟩|⟨g,cap,rfl,_⟩
 ·exact(vC n W).mono fun e w' hh=>⟨hh.1,hh.2▸Below.refl _ _⟩
 ·exact sT B g cap L n W h hL hA hids hn
theorem vx (B vb:Nat) (v:Value) (L:List an) (n:Int) (W:World) (h:aD W B v L) (hv:W.cell? ⟨vb,0,none⟩=some v) (hL:L.length≤1000000) (hA:mD L) (hids: ∀ f∈L,ba f.id=true) (hn:ba n=true):
  Calls prog 110 #[.int .i64 n,.pointer (some ⟨vb,0,none⟩)] W fun e w'=>e=.returned (.tuple #[.int .i64 (ahead L n),.bool (jw L n)])∧Below W.heap.size W w':=by
 have H:=zH (Fr B v L n W h hL hA hids hn);clear hA hids hn;rcases h.parts with⟨rfl,rfl⟩|⟨g,cap,rfl,_⟩
 all_goals
  clear h;go_enter Tryz.func110,Tryz.ntmps110;go_wp2_with (go_at_call 111;refine H.out.mono ?_;rintro e w1 ⟨rfl,hb⟩;have HB:=zH hb;clear hb);go_ret2;exact⟨rfl,HB.out⟩
theorem aD.block {w:World} {B:Nat} {v:Value} {L:List an} (h:aD w B v L):(v=.slice none 0 0∧L=[])∨ ∃ g cap cur,v=.slice (some ⟨g,0,none⟩) L.length cap∧B≤g∧aj w g 95 cur∧L.length≤cap∧cap≤9223372036854775807∧cur.size=cap*9∧cur.toList.take (L.length*9)=aH L:=by
 rcases h.2 with⟨rfl,h0⟩|⟨g,cap,cur,rfl,hB,hb,hn,hm,hc,ht⟩
 ·exact .inl ⟨rfl,List.eq_nil_of_length_eq_zero h0⟩
 ·exact .inr ⟨g,cap,cur,rfl,hB,hb,hn,by unfold maxLen at hm;exact hm,hc,ht⟩
theorem aD.of_block {w:World} {B g cap:Nat} {cur:Array Value} {L:List an} (hB:B≤g) (hb:aj w g 95 cur) (hn:L.length≤cap) (hm:cap≤9223372036854775807) (hc:cur.size=cap*9) (ht:cur.toList.take (L.length*9)=aH L):aD w B (.slice (some ⟨g,0,none⟩) L.length cap) L:=
 ⟨bI L,.inr ⟨g,cap,cur,rfl,hB,hb,hn,by unfold maxLen;exact hm,hc,ht⟩⟩
theorem sr (B vb:Nat) (v:Value) (L:List an) (f:an) (w:World) (h:aD w B v L) (hL:L.length≤1000000) (hB:B≤w.heap.size) (hv:aj w vb 95 (af f)):
  Calls prog 113 #[v,.int .i64 L.length,.slice (some ⟨vb,0,none⟩) 1 1] w fun e w'=> ∃ v',e=.returned v'∧aD w' B v' (L++[f])∧w.grownBy w' v.ownBlock:=by
 obtain⟨i0,hii,hz0,hz1,hz2⟩:=info_parts kO
 have hnews: ∀ j u,(af f).toList[j]?=some u→w.cell? ((⟨vb,0,none⟩:Addr).add j)=some u:=by
  intro j u hj;rw[Addr.add_lit,Nat.zero_add,hv.cell j]
  rwa[Array.getElem?_toList]at hj
 have HN:=zH hnews;have HO:=zH h;have hone: ∀ u∈(af f).toList,u.oneCell'=true:=fun u hu=>dO (L:=[f]) (by simpa[aH]using hu)
 have HON:=zH hone;clear hnews hv hone;rcases h.parts with⟨rfl,rfl⟩|⟨g,cap,rfl,h1,h2,h3,h4,_⟩
 all_goals
  clear h;go_enter Tryz.func113,Tryz.ntmps113
  go_wp2_with
   (at_builtin;refine wpList_append_own _ rfl _ _ 81 rfl B 95 i0 (.agg (af an.zero)) 9 104 underlying81 hii hz0 hz1 hz2 rfl dC _ _ _ rfl HO.out ⟨vb,0,none⟩ 1 1 (af f).toList rfl rfl HN.out HON.out (by unfold maxLen;omega) oM hB ?_;intro v' w3 hown hgrow hnil
    have HO3:=zH hown;have HG:=zH hgrow;clear hown hgrow hnil)
 all_goals
  go_ret;refine⟨_,rfl,?_,HG.out⟩;have:=HO3.out
  first
   |(unfold aD
     rw[j2,List.length_append];simpa[aH]using this)
   |simpa[aD,aH]using this
theorem Af:(prog.info? 95).map (·.size)=some 9:=kR
theorem iT (w:World) (ty:TypeId) (g o dLen dCap:Nat) (a:Addr) (sLen sCap m:Nat) (cur:Array Value) (cs:List Value) (hg:aj w g 95 cur) (hm:Nat.min sLen dLen=m) (hl:cs.length=m*9)
  (hsrc: ∀ j v,cs[j]?=some v→w.cell? (a.add j)=some v) (hfit:o+cs.length≤cur.size) (h1: ∀ v∈cs,v.oneCell'=true):
  (Builtin.copy_ #[81,81] ty #[.slice (some ⟨g,o,none⟩) dLen dCap,.slice (some a) sLen sCap]).run prog w=
   .ok (goInt m) (w.setRow g (cur.toList.take o++cs++cur.toList.drop (o+cs.length)).toArray):=by
 have hld:=run_loadCells_list (P:=prog) w a cs hsrc;rw[hl]at hld;have hst:=run_storeCells_at prog g o _ cs 0 cur w hg (by simpa using hfit) h1
 obtain⟨i,hq,hi⟩: ∃ i,prog.info? 95=some i∧i.size=9:=by
  have h:=Af;cases hq:prog.info? 95 with
  |none=>rw[hq]at h;cases h
  |some i=>rw[hq]at h;exact⟨i,rfl,by simpa using h⟩
 simp[Builtin.copy_,run_underlying underlying81,Builtin.lenOf,Builtin.firstCells,sizeOf,typeInfo,hq,hi,hm,hld,hst]
theorem aj.row {w:World} {g:Nat} {T:TypeId} {cur new:Array Value} (h:aj w g T cur):aj (w.setRow g new) g T new:=setRow_heap w g cur new _ _ h
theorem dF (w:World) (g:Nat) (new:Array Value):w.grownBy (w.setRow g new) (some g):=
 ⟨rfl,rfl,rfl,by simp,fun i _ hne=>setRow_other w g i new (by intro e;exact hne (by rw[e]))⟩
theorem uA {w:World} {g:Nat} {T:TypeId} {cur:Array Value} (h:aj w g T cur):w.shape? g=some (T,cur.size):=by
 unfold aj at h;simp[World.shape?,h]
theorem DV (w:World):(Go.sizeOf 95).run prog w=.ok 9 w:=kR
theorem A8 {L:List an} {f:an} {xs:List Value} {i c:Nat} (hx:xs.length=c*9) (ht:xs.take (L.length*9)=aH L) (hi:i≤L.length) (hc:L.length+1≤c):
  let c1:=xs.take ((i+1)*9)++aH (L.drop i)++xs.drop ((i+1)*9+(aH (L.drop i)).length)
  let c2:=c1.take (i*9)++(af f).toList++c1.drop (i*9+(af f).toList.length)
  c1.length=c*9∧c2.length=c*9∧c2.take ((L.length+1)*9)=aH (L.take i++f::L.drop i):=by
 intro c1 c2;have hd:(aH (L.drop i)).length=(L.length - i)*9:=by rw[bI,List.length_drop]
 have hf:(af f).toList.length=9:=rfl
 have h1:c1.length=c*9:=by
  show(xs.take ((i+1)*9)++aH (L.drop i)++xs.drop ((i+1)*9+(aH (L.drop i)).length)).length=_
  simp only[List.length_append,List.length_take,List.length_drop,hd,hx];omega
 have ht1:c1.take (i*9)=aH (L.take i):=by
  show(xs.take ((i+1)*9)++aH (L.drop i)++xs.drop ((i+1)*9+(aH (L.drop i)).length)).take (i*9)=_
  rw[List.append_assoc,List.take_append_of_le_length (by rw[List.length_take,hx];omega),List.take_take,mi,←ht,List.take_take]
  congr 1
  omega
 have hd1:c1.drop (i*9+9)=aH (L.drop i)++xs.drop ((L.length+1)*9):=by
  show(xs.take ((i+1)*9)++aH (L.drop i)++xs.drop ((i+1)*9+(aH (L.drop i)).length)).drop (i*9+9)=_
  have hl:(xs.take ((i+1)*9)).length=i*9+9:=by rw[List.length_take,hx];omega
  rw[List.append_assoc,←hl,List.drop_left,hd]
  congr 2
  omega
 have hc2:c2=aH (L.take i)++(af f).toList++(aH (L.drop i)++xs.drop ((L.length+1)*9)):=by
  show c1.take (i*9)++(af f).toList++c1.drop (i*9+(af f).toList.length)=_
  rw[ht1,hf,hd1]
 refine⟨h1,?_,?_⟩
 ·rw[hc2]
  simp only[List.length_append,List.length_drop,hd,hx,hf,bI,List.length_take];omega
 ·have e:aH (L.take i++f::L.drop i)=aH (L.take i)++(af f).toList++aH (L.drop i):=by
   rw[j2,fR,List.append_assoc]
  rw[hc2,e,←List.append_assoc,List.take_append_of_le_length (by simp only[List.length_append,hd,hf,bI,List.length_take];omega),List.take_of_length_le (by simp only[List.length_append,hd,hf,bI,List.length_take];omega)]
theorem pY (B g cap vb i:Nat) (cur:Array Value) (L:List an) (f:an) (w:World) (hi:i<L.length) (hb:aj w g 95 cur) (hcap:L.length+1≤cap) (hm:cap≤9223372036854775807) (hc:cur.size=cap*9)
  (ht:cur.toList.take (L.length*9)=aH L) (hBg:B≤g) (hL:L.length≤1000000) (hv:aj w vb 95 (af f)) (hne:vb≠g):
  Calls prog 113 #[.slice (some ⟨g,0,none⟩) L.length cap,.int .i64 i,.slice (some ⟨vb,0,none⟩) 1 1] w fun e w'=> ∃ v',e=.returned v'∧aD w' B v' (L.take i++f::L.drop i)∧w.grownBy w' (some g):=by
 have hcl:cur.toList.length=cap*9:=by rw[Array.length_toList];exact hc
 obtain⟨k1,k2,k3⟩:=A8 (f:=f) hcl ht (Nat.le_of_lt hi) hcap;have hd:(aH (L.drop i)).length=(L.length - i)*9:=by rw[bI,List.length_drop]
 have hov: ∀ o lb cb,(callFunc 163 #[.slice (some ⟨vb,0,none⟩) 1 1,.slice (some ⟨g,o,none⟩) lb cb]).run prog w=.ok (.value (.bool false)) w:=fun o lb cb=>by
  rw[run_callFunc_extern Tryz.func163 kR kR kR (e:=Extern.SlicesOverlaps.overlaps #[81,81] #[4]) kR,
   Lib.run_overlaps_apart w 81 4 95 underlying81 9 DV ⟨vb,0,none⟩ ⟨g,o,none⟩ 1 1 lb cb hne _ _ _ _ (uA hv) (uA hb) (by rw[hc];omega) (hv.frozen 0) (hv.frozen _)]
  rfl
 have hsrc1: ∀ j v,(aH (L.drop i))[j]?=some v→w.drew.cell? ((⟨g,i*9,none⟩:Addr).add j)=some v:=by
  intro j v hj;have hjl:=(List.getElem?_eq_some_iff.1 hj).1;rw[Addr.add_lit]
  show w.cell? ⟨g,i*9+j,none⟩=some v
  rw[hb.cell,←hj,l9,List.getElem?_drop,←ht,List.getElem?_take,if_pos oM,Array.getElem?_toList]
 obtain⟨c1,hc1⟩: ∃ c1:Array Value,c1=(cur.toList.take ((i+1)*9)++aH (L.drop i)++cur.toList.drop ((i+1)*9+(aH (L.drop i)).length)).toArray:=⟨_,rfl⟩;have hc1l:c1.toList=cur.toList.take ((i+1)*9)++aH (L.drop i)++cur.toList.drop ((i+1)*9+(aH (L.drop i)).length):=by rw[hc1]
 have hcp1: ∀ ty,(Builtin.copy_ #[81,81] ty #[.slice (some ⟨g,(i+1)*9,none⟩) (L.length - i) (cap - (i+1)),.slice (some ⟨g,i*9,none⟩) (L.length+1 - i) (cap - i)]).run prog w.drew=.ok (goInt (L.length - i:Nat)) (w.drew.setRow g c1):=fun ty=>by
  rw[hc1];exact iT w.drew ty g _ _ _ _ _ _ (L.length - i) cur _ hb.drew (by simp only[Nat.min_def];split<;>omega) hd hsrc1 (by rw[hd,hc];omega) (fun v hv=>dO hv)
 have hb1':aj (w.drew.setRow g c1) g 95 c1:=hb.drew.row;obtain⟨W1,hW1⟩: ∃ W1,W1=w.drew.setRow g c1:=⟨_,rfl⟩;rw[←hW1]at hcp1 hb1';have hvW:aj W1 vb 95 (af f):=by rw[hW1];exact hv.drew.grown (dF _ _ _) (by simpa using hne)
 have hsrc2: ∀ j v,(af f).toList[j]?=some v→W1.cell? ((⟨vb,0,none⟩:Addr).add j)=some v:=by
  intro j v hj;rw[Addr.add_lit,Nat.zero_add,hvW.cell,←Array.getElem?_toList,hj]
 obtain⟨c2,hc2⟩: ∃ c2:Array Value,c2=(c1.toList.take (i*9)++(af f).toList++c1.toList.drop (i*9+(af f).toList.length)).toArray:=⟨_,rfl⟩;have hc1s:c1.size=cap*9:=by rw[←Array.length_toList,hc1l];exact k1
 have hcp2: ∀ ty dc,(Builtin.copy_ #[81,81] ty #[.slice (some ⟨g,i*9,none⟩) (L.length+1 - i) dc,.slice (some ⟨vb,0,none⟩) 1 1]).run prog W1=.ok (goInt (1:Nat)) (W1.setRow g c2):=fun ty dc=>by
  rw[hc2];exact iT W1 ty g _ _ _ _ _ _ 1 c1 _ hb1' (by simp only[Nat.min_def];split<;>omega) rfl hsrc2 (by rw[hc1s];show i*9+9≤_;omega) (fun v hv=>dO (L:=[f]) (by simpa[aH]using hv))
 have HFIN:=zH (show aD (W1.setRow g c2) B (.slice (some ⟨g,0,none⟩) (L.take i++f::L.drop i).length cap) (L.take i++f::L.drop i)∧w.grownBy (W1.setRow g c2) (some g)from by
  have hlen:(L.take i++f::L.drop i).length=L.length+1:=by simp;omega
  have hc2l:c2.toList=(c1.toList.take (i*9)++(af f).toList++c1.toList.drop (i*9+(af f).toList.length)):=by rw[hc2]
  rw[hc1l]at hc2l;refine⟨aD.of_block hBg hb1'.row oM hm ?_ ?_,?_⟩
  ·rw[←Array.length_toList,hc2l];exact k2
  ·rw[hlen,hc2l];exact k3
  ·rw[hW1]
   exact aU (aU (lZ (bT w (some g))) (dF w.drew g c1)) (dF _ g c2))
 have hlen:(L.take i++f::L.drop i).length=L.length+1:=by simp;omega
 rw[hlen]at HFIN;have hw1:IntKind.i64.wrap ((i:Int)+1)=(i:Int)+1:=by rw[IntKind.wrap_i64];omega
 have hz1:(0:Int)≤(i:Int)+1:=by omega
 have htn:((i:Int)+1).toNat=i+1:=by omega
 have hz2: ¬ (cap=i+1):=by omega
 have hz3:(i:Int)≤(L.length:Int)+1:=by omega
 have hz4: ¬ (cap=i):=by omega
 have hin:i≤L.length:=by omega
 have mixed:prog.follows .mixedOrders=true:=kR;have HW1:=zH hW1;clear k1 k2 k3 hd hcl ht hsrc1 hsrc2 hc1 hc1l hc1s hc2 hvW hb1' hW1 hb hv hlen;go_enter Tryz.func113,Tryz.ntmps113;go_wp2_with (simp only[hov])
 go_region_law_o (refine step_copy_runI rfl _ _ 81 81 rfl _ _ (by simp[Act.eval,Act.put]) (by simp[Act.eval,Act.put]) (hcp1 _) ?_)
 go_wp2_with (at_builtin;refine wpList_copy_runI _ rfl _ _ 81 81 rfl _ _ rfl rfl (hcp2 _ _) ?_);go_ret;exact⟨_,rfl,HFIN.out.1,HFIN.out.2⟩
end Go.Proofs.YtepjcdjpikbbjaaGreatDoor
