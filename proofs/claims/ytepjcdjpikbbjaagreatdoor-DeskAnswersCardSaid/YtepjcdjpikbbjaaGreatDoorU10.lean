/-
  event.within: whether numbers are from 0 to MaxNumber.
-/
import Derived.Test.YtepjcdjpikbbjaaGreatDoorU00
import Derived.Test.YtepjcdjpikbbjaaGreatDoorU05
import Derived.Test.YtepjcdjpikbbjaaGreatDoorU09
import Derived.Test.YtepjcdjpikbbjaaGreatDoorU06
import Derived.Test.YtepjcdjpikbbjaaGreatDoorU01
set_option maxHeartbeats 4000000
namespace Go.Proofs.YtepjcdjpikbbjaaGreatDoor
open Go.Proofs.Tryz
open Go.RowKit Go.Sort
theorem AC (x:Int) (w:World):Calls prog 237 #[.int .i64 x] w fun e w'=>e=.returned (.bool (!ba x))∧w=w':=by
 by_cases h0:0≤x
 ·go_enter Tryz.func237,Tryz.ntmps237
  go_wp2_with fail;go_ret;refine⟨?_,rfl⟩
  show Ending.returned _=_
  have e:(decide (x<0) || decide (1099511627776<x))= !ba x:=by
   rw[Bool.eq_iff_iff];simp[ba,h0];omega
  rw[←e];rfl
 ·have h1:x<0:=by omega
  go_enter Tryz.func237,Tryz.ntmps237;go_wp2_with fail;go_ret;refine⟨?_,rfl⟩
  show Ending.returned _=_
  simp[ba]
  try omega
def Hp (L:List Int) (w:World) (i:Value) (wr:World):Prop:= ∃ k q:Nat,k≤L.length∧i=.int .i64 k∧wr=w.drewN q∧ ∀ j,j<k→ba (L.getD j 0)=true
def Ik (L:List Int) (w:World) (e:Ending) (w':World):Prop:= ∃ (n:Int) (q:Nat),e=.returned (.int .i64 n)∧(!decide (0≤n))=L.all ba∧w'=w.drewN q
theorem Cd (g cap:Nat) (L:List Int) (w:World) (h:aJ w g L) (hL:L.length≤1000000):
  Calls prog 279 #[.slice (some ⟨g,0,none⟩) L.length cap,.func (.func 237) #[] #[]] w (Ik L w):=by
 have HR:=zH h;clear h;go_enter Tryz.func279,Tryz.ntmps279
 go_wp2
 go_loopw [8] (fun i wr=>Hp L w i wr) (fun i _=>L.length - (intOf i).toNat)
 case atStart=>exact⟨0,0,Nat.zero_le _,rfl,rfl,fun j hj=>absurd hj (Nat.not_lt_zero _)⟩
 case round=>
  obtain⟨k,q,hk,rfl,rfl,hno⟩:=hrel;have HN:=zH hno;clear hno
  by_cases hlt:k<L.length
  ·have hc:=(HR.out.drewN q) k hlt
   generalize hx:L.getD k 0=x at*;have HX:=zH hx;clear hx;cases hok:ba x
   ·have HO:=zH hok
    clear hok;have HBN:=zH (fun w=>(AC x w).mono (fun e w' (h:e=.returned (.bool (!ba x))∧w=w')=>(show e=.returned (.bool true)∧w=w' from⟨by rw[h.1,HO.out];rfl,h.2⟩)));go_wp2_with (go_at_call 237;refine(HBN.out _).mono ?_;rintro e w1 ⟨rfl,rfl⟩);go_ret;refine⟨k,q,rfl,?_,rfl⟩;rw[Av hlt (by rw[HX.out];exact HO.out)];simp
   ·have HO:=zH hok
    clear hok;have HBN:=zH (fun w=>(AC x w).mono (fun e w' (h:e=.returned (.bool (!ba x))∧w=w')=>(show e=.returned (.bool false)∧w=w' from⟨by rw[h.1,HO.out];rfl,h.2⟩)));go_wp2_with (go_at_call 237;refine(HBN.out _).mono ?_;rintro e w1 ⟨rfl,rfl⟩);go_roundw
    case rel=>
     refine⟨k+1,q,by omega,by go_num,rfl,fun j hj=>?_⟩
     by_cases e:j=k
     ·subst e
      rw[HX.out];exact HO.out
     ·exact HN.out j oM
    case measure=>simp[intOf];omega
  ·go_wp2
   go_ret;refine⟨-1,q,rfl,?_,rfl⟩;rw[wJ fun j hj=>HN.out j oM];rfl
theorem vm (g cap:Nat) (L:List Int) (w:World) (h:aJ w g L) (hL:L.length≤1000000):
  Calls prog 236 #[.slice (some ⟨g,0,none⟩) L.length cap,.func (.func 237) #[] #[]] w fun e w'=>e=.returned (.bool (!L.all ba))∧ ∃ q,w'=w.drewN q:=by
 have H:=zH (Cd g cap L w h hL);clear h;go_enter Tryz.func236,Tryz.ntmps236;go_wp2_with (go_at_call 279;refine H.out.mono ?_;rintro e w1 ⟨n,q,rfl,hn,rfl⟩;have HN:=zH hn;clear hn);go_ret;exact⟨by rw[←HN.out,Bool.not_not];rfl,q,rfl⟩
theorem ug (g cap:Nat) (L:List Int) (w:World) (h:aJ w g L) (hL:L.length≤1000000):
  Calls prog 205 #[.slice (some ⟨g,0,none⟩) L.length cap] w fun e w'=>e=.returned (.bool (L.all ba))∧Below w.heap.size w w':=by
 have H:=zH (vm g cap L w h hL);clear h;go_enter Tryz.func205,Tryz.ntmps205;go_wp2_with (go_at_call 236;refine H.out.mono ?_;rintro e w1 ⟨rfl,q,rfl⟩);go_ret;exact⟨by simp,aF (Below.refl _ _) q⟩
theorem mu (s:ByteArray) (W:World) (hs:s.size≤5000):
  Calls prog 46 #[.string s] W fun e w'=>e=.returned (.tuple #[.string (ah (aT s.data.toList)),.int .i64 (aw s.data.toList)])∧Below W.heap.size W w':=by
 have H:=zH (o0 s W hs);go_enter Tryz.func46,Tryz.ntmps46
 go_wp2_with
  (first
  |(go_at_call 94;refine H.out.mono ?_;rintro e w1 ⟨v,rfl,hr,hb⟩
    have HJ:=zH (qU hr);have HB:=zH hb;clear hr hb)
  |(go_at_call 50;refine HJ.out.mono ?_;rintro e w2 ⟨rfl,hb⟩
    have HB2:=zH (HB.out.trans (hb.mono HB.out.size));clear hb))
 go_ret2;exact⟨rfl,HB2.out⟩
theorem nZ (x lo hi:Int) (w:World):Calls prog 83 #[.int .i64 x,.int .i64 lo,.int .i64 hi] w fun e w'=>e=.returned (.bool (decide (lo≤x)&&decide (x≤hi)))∧w=w':=by
 by_cases h0:lo≤x
 ·go_enter Tryz.func83,Tryz.ntmps83
  go_wp2_with fail;go_ret;refine⟨?_,rfl⟩
  show Ending.returned _=_
  simp[h0]
 ·have h1:x<lo:=by omega
  go_enter Tryz.func83,Tryz.ntmps83;go_wp2_with fail;go_ret;refine⟨?_,rfl⟩
  show Ending.returned _=_
  simp;omega
theorem rE (s:ByteArray):bF s.data.toList=(decide (1≤(s.size:Int))&&decide ((s.size:Int)≤20)&&s.data.toList.all iO):=by
 unfold bF;rw[aq]
 congr 2<;>simp<;>omega
def Gs (s:ByteArray) (w:World) (i:Value) (wr:World):Prop:= ∃ k:Nat,k≤s.size∧i=.int .i64 k∧w=wr∧ ∀ j,j<k→ ∀ c,s.data.toList[j]?=some c→iO c=true
theorem DL {s:ByteArray} (h: ∀ j,j<s.size→ ∀ c,s.data.toList[j]?=some c→iO c=true):s.data.toList.all iO=true:=by
 rw[List.all_eq_true];intro c hc;obtain⟨j,e⟩:=List.mem_iff_getElem?.1 hc;have hj:=(List.getElem?_eq_some_iff.1 e).1;exact h j (by rw[aq]at hj;exact hj) c e
theorem C7 {s:ByteArray} {k:Nat} {c:UInt8} (h:s.data.toList[k]?=some c) (hc:iO c=false):s.data.toList.all iO=false:=by
 rw[List.all_eq_false];exact⟨c,List.mem_of_getElem? h,by rw[hc];decide⟩
theorem zk (n:Nat):(n<45∨(45<n∧n<48)∨(48≤n∧57<n∧n<97)∨(97≤n∧122<n))∨n=45∨(48≤n∧n≤57)∨(97≤n∧n≤122):=by omega
theorem kc (s:ByteArray) (W:World) (hs:s.size≤5000):Calls prog 84 #[.string s] W fun e w'=>e=.returned (.bool (bF s.data.toList))∧W=w':=by
 have HN:=zH (rE s);go_enter Tryz.func84,Tryz.ntmps84
 go_wp2
 go_loopw [7] (fun i wr=>Gs s W i wr) (fun i _=>s.size - (intOf i).toNat)
 case atStart=>exact⟨0,Nat.zero_le _,rfl,rfl,fun j hj=>absurd hj (Nat.not_lt_zero _)⟩
 case round=>
  obtain⟨k,hk,rfl,rfl,hyes⟩:=hrel;have HY:=zH hyes;clear hyes
  by_cases hlt:k<s.size
  ·have hbyte:=Ac s k hlt
   have HC:=zH (Cf s[k]);have HBY:=zH hbyte;clear hbyte;have hcl:=zk s[k].toNat;rcases hcl with(h|⟨h,h'⟩|⟨h,h',h''⟩|⟨h,h'⟩)|h|⟨h,h'⟩|⟨h,h'⟩
   all_goals
    have e45:((s[k].toNat:Int) == 45)=decide (s[k].toNat=45):=by
     rw[Bool.eq_iff_iff];simp;omega
    first
     |(have e45':decide (s[k].toNat=45)=true:=by simp;omega
       rw[e45']at e45;clear e45')
     |(have e45':decide (s[k].toNat=45)=false:=by simp;omega
       rw[e45']at e45;clear e45')
    go_wp2_with fail
   all_goals first
    |(have hc:iO s[k]=true:=by
       rw[HC.out];simp;omega
      go_roundw
      case rel=>
       refine⟨k+1,by omega,by go_num,rfl,fun j hj c hjc=>?_⟩
       by_cases e:j=k
       ·subst e
        rw[HBY.out]at hjc;cases hjc;exact hc
       ·exact HY.out j oM c hjc
      case measure=>simp[intOf];omega)
    |(have hc:iO s[k]=false:=by
       rw[HC.out];simp;omega
      go_ret;refine⟨?_,rfl⟩;rw[HN.out,C7 HBY.out hc,Bool.and_false];rfl)
    |(exfalso
      simp only[Bool.not_eq_eq_eq_not,Bool.not_false,decide_eq_true_eq]at*;omega)
  ·go_wp2_with (go_at_call 83;refine(nZ _ _ _ _).mono ?_;rintro e w2 ⟨rfl,rfl⟩)
   go_ret;refine⟨?_,rfl⟩;rw[HN.out,DL fun j hj=>HY.out j oM,Bool.and_true];rfl
end Go.Proofs.YtepjcdjpikbbjaaGreatDoor
