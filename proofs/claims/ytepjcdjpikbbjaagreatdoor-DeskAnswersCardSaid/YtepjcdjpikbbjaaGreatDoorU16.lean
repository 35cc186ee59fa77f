/-
  scope.Within: whether all words of a scope are in another one.
-/
import Derived.Test.YtepjcdjpikbbjaaGreatDoorU00
import Derived.Test.YtepjcdjpikbbjaaGreatDoorU07
import Derived.Sort.Walk0
import Derived.Test.YtepjcdjpikbbjaaGreatDoorU14
import Derived.Test.YtepjcdjpikbbjaaGreatDoorU15
import Derived.RegionTactic
import Derived.ChangeAlike
import Derived.Laws.ResultCell
set_option maxHeartbeats 8000000
set_option maxRecDepth 100000
namespace Go.Proofs.YtepjcdjpikbbjaaGreatDoor
open Go.Proofs.Tryz
open Go.RowKit Go.Sort
def iM (L:List (List UInt8)) (x:List UInt8) (t:Nat):Bool:=Op.bytesLess (ah (L.getD t [])).toList (ah x).toList
theorem o4 (L:List (List UInt8)) (x:List UInt8) (t:Nat):iM L x t=decide (L.getD t []<x):=by
 unfold iM;rw[bn,bn,Go.Proofs.bytesLess_eq]
theorem Hb {L:List (List UInt8)} (h:Up L) {i j:Nat} (hij:i≤j) (hj:j<L.length):L.getD i []≤L.getD j []:=by
 rcases Nat.eq_or_lt_of_le hij with rfl|hlt
 ·exact List.le_refl _
 ·have h1:=List.pairwise_iff_getElem.1 h i j oM hj hlt
  have h2:oU L[i] L[j]=true:=h1.1;simp only[oU,decide_eq_true_eq]at h2;simpa[List.getD,hj,show i<L.length by omega]using h2
theorem BQ {L:List (List UInt8)} (h:Up L) (x:List UInt8):
  decide (Lib.bsGo (iM L x) L.length 0 L.length<L.length∧ah (L.getD (Lib.bsGo (iM L x) L.length 0 L.length) [])=ah x)=L.contains x:=by
 obtain⟨k,hk,h1,h2⟩: ∃ k,k≤L.length∧(∀ t,t<k→iM L x t=true)∧(∀ t,k≤t→t<L.length→iM L x t=false):=by
  have key: ∀ n,n≤L.length→ ∃ k,k≤n∧(∀ t,t<k→iM L x t=true)∧(∀ t,k≤t→t<n→iM L x t=false):=by
   intro n
   induction n with
   |zero=>exact fun _=>⟨0,Nat.le_refl _,fun t ht=>absurd ht (Nat.not_lt_zero _),fun t _ ht=>absurd ht (Nat.not_lt_zero _)⟩
   |succ n ih=>
    intro hn;obtain⟨k,hk,a,b⟩:=ih oM
    by_cases hl:iM L x n=true
    ·refine⟨n+1,Nat.le_refl _,fun t ht=>?_,fun t h3 h4=>by omega⟩
     rw[o4,decide_eq_true_eq]at hl ⊢;exact List.lt_of_le_of_lt (Hb h oM oM) hl
    ·refine⟨k,by omega,a,fun t h3 h4=>?_⟩
     by_cases e:t=n
     ·subst e;simpa using hl
     ·exact b t h3 oM
  exact key _ (Nat.le_refl _)
 have hs:Lib.bsGo (iM L x) L.length 0 L.length=k:=by
  have hg: ∀ (f lo hi:Nat),hi - lo≤f→lo≤k→k≤hi→hi≤L.length→Lib.bsGo (iM L x) f lo hi=k:=by
   intro f
   induction f with
   |zero=>intro lo hi hf a b c;simp[Lib.bsGo];omega
   |succ f ih=>
    intro lo hi hf a b c;unfold Lib.bsGo
    by_cases hlt:lo<hi
    ·rw[if_pos hlt]
     by_cases hm:(lo+hi) / 2<k
     ·rw[h1 _ hm,if_pos rfl];exact ih _ _ oM oM b c
     ·rw[h2 _ oM oM];exact ih _ _ oM a oM oM
    ·rw[if_neg hlt];omega
  exact hg _ _ _ oM (Nat.zero_le _) hk (Nat.le_refl _)
 rw[hs,Bool.eq_iff_iff,decide_eq_true_eq,List.contains_iff_mem];constructor
 ·rintro⟨hlt,e⟩
  have:=Ge e;rw[←this];simp[List.getD,hlt]
 ·intro hm
  obtain⟨t,ht,rfl⟩:=List.mem_iff_getElem.1 hm
  have hkt:k≤t:=by
   rcases Nat.lt_or_ge t k with h3|h3
   ·have:=h1 t h3
    rw[o4,decide_eq_true_eq]at this;simp[List.getD,ht]at this;exact absurd this (List.lt_irrefl _)
   ·exact h3
  have hklt:k<L.length:=by omega
  refine⟨hklt,?_⟩;have a:=Hb h hkt ht;have b:=h2 k (Nat.le_refl _) hklt;rw[o4,decide_eq_false_iff_not]at b;have e1:L.getD t []=L[t]:=by simp[List.getD,ht]
  rw[e1]at a;rw[List.le_antisymm a (List.not_lt.1 b)]
theorem yV {B:Nat} {v:Value} {L:List (List UInt8)} {w:World} (h:cM w B v L) (hu:Up L) (hL:L.length≤1000000) (x:List UInt8):
  Calls prog 226 #[v,.string (ah x)] w fun e w'=>(∃ i:Nat,e=.returned (.tuple #[.int .i64 i,.bool (L.contains x)]))∧ ∃ q,w'=w.drewN q:=by
 rcases h with⟨rfl,rfl⟩|h
 ·refine(Any2.slices_BinarySearch_string_empty Tryz.bs26 none 0 (ah x) w).mono ?_
  rintro e w' ⟨rfl,rfl⟩;exact⟨⟨0,rfl⟩,0,rfl⟩
 ·obtain⟨g,cap,rfl,hg,hlt,hn,hm,hH⟩:=h.parts
  refine(Any2.slices_BinarySearch_string Tryz.bs26 g 0 L.length cap (fun t=>ah (L.getD t [])) (ah x) w oM (fun j hj=>by rw[Nat.zero_add];exact h.cell j hj)).mono ?_;rintro e w' ⟨rfl,q,rfl⟩;refine⟨⟨Lib.bsGo (iM L x) L.length 0 L.length,?_⟩,q,rfl⟩;rw[←BQ hu x];rfl
def FM (a b:List UInt8) (B1 B2 B:Nat) (W:World) (v u:Value) (i:Value) (wr:World):Prop:=
 ∃ k:Nat,k≤(aK a).length∧i=.int .i64 k∧cM wr B1 v (aK a)∧cM wr B2 u (aK b)∧Below B W wr∧ ∀ j,j<k→(aK b).contains ((aK a).getD j [])=true
theorem cM.below {w w':World} {B:Nat} {v:Value} {L:List (List UInt8)} (h:cM w B v L) (hb:Below w.heap.size w w'):cM w' B v L:=h.imp id fun h=>h.below hb
theorem cM.drewN {w:World} {B:Nat} {v:Value} {L:List (List UInt8)} (h:cM w B v L) (n:Nat):cM (w.drewN n) B v L:=h
theorem cM.slice {w:World} {B:Nat} {v:Value} {L:List (List UInt8)} (h:cM w B v L): ∃ A cap,v=.slice A L.length cap∧ ∀ j,j<L.length→ ∃ g,A=some ⟨g,0,none⟩∧w.cell? ⟨g,j,none⟩=some (.string (ah (L.getD j []))):=by
 rcases h with⟨rfl,rfl⟩|h
 ·exact⟨none,0,rfl,fun j hj=>absurd hj (Nat.not_lt_zero _)⟩
 ·obtain⟨g,cap,rfl,_⟩:=id h
  exact⟨_,cap,rfl,fun j hj=>⟨g,rfl,h.cell j hj⟩⟩
def lB (a b:List UInt8):Int:=if aw a=0 then aw b else aw a
def jr (a b:List UInt8):Bool:=decide (lB a b=0)&&jG a b
theorem mo {a b:List UInt8} (h:lB a b≠0):jr a b=false:=by simp[jr,h]
theorem AM {a b:List UInt8} (h:aw a≠0):lB a b=aw a:=by simp[lB,h]
theorem zP {a b:List UInt8} (h:aw a=0):lB a b=aw b:=by simp[lB,h]
theorem Er {a b:List UInt8} {k:Nat} (hk:k<(aK a).length) (h:(aK b).contains ((aK a).getD k [])=false):jr a b=false:=by
 have:jG a b=false:=by
  unfold jG;rw[List.all_eq_false];exact⟨(aK a)[k],List.getElem_mem hk,by simpa[List.getD,hk]using h⟩
 simp[jr,this]
theorem Cz {a b:List UInt8} (h0:lB a b=0) (h: ∀ j,j<(aK a).length→(aK b).contains ((aK a).getD j [])=true):jr a b=true:=by
 have:jG a b=true:=by
  unfold jG;rw[List.all_eq_true];intro x hx;obtain⟨j,hj,rfl⟩:=List.mem_iff_getElem.1 hx;have:=h j hj;simpa[List.getD,hj]using this
 simp[jr,this,h0]
theorem vo (a b:ByteArray) (W:World) (ha:a.size≤5000) (hb:b.size≤5000) (hm:dt W):
  Calls prog 185 #[.string a,.string b] W fun e w'=>e=.returned (.tuple #[.bool (jr a.data.toList b.data.toList),bV (lB a.data.toList b.data.toList)])∧Below W.heap.size W w':=by
 have H1:=zH (nd a W ha hm);have HM:=zH hm;have HB:=zH (fun w (h:dt w)=>nd b w hb h);clear hm
 by_cases h0:aw a.data.toList=0
 ·have E:=zH (show bV (aw a.data.toList)=.nilIface by rw[h0];rfl)
  have W2:=zH (zP (b:=b.data.toList) h0);clear h0
  by_cases h1:aw b.data.toList=0
  ·have E2:=zH (show bV (aw b.data.toList)=.nilIface by rw[h1];rfl)
   have W3:=zH (show lB a.data.toList b.data.toList=0 by rw[W2.out,h1]);clear h1;go_enter Tryz.func185,Tryz.ntmps185;go_wp2_with fail;go_at_call 182;refine H1.out.mono ?_;rintro e w1 ⟨v,rfl,hr1,hb1⟩;rw[E.out];have HR1:=zH hr1;have HB1:=zH hb1;clear hr1 hb1;go_wp2_with fail;go_at_call 182;refine(HB.out _ (HM.out.below' HB1.out)).mono ?_;rintro e w2 ⟨u,rfl,hr2,hb2⟩;rw[E2.out];have HR2:=zH (cM.below HR1.out hb2);have HR3:=zH hr2;have HB2:=zH (HB1.out.trans (hb2.mono HB1.out.size));have hl1:=(fd a.data.toList).1;have hl2:=(fd b.data.toList).1;obtain⟨A,cap,ev,_⟩:=HR2.out.slice;subst ev;clear hr2 hb2;go_wp2_with fail
   go_loopw [31] (fun i wr=>FM a.data.toList b.data.toList W.heap.size w1.heap.size W.heap.size W (.slice A (aK a.data.toList).length cap) u i wr) (fun i _=>(aK a.data.toList).length - (intOf i).toNat)
   case atStart=>exact⟨0,Nat.zero_le _,rfl,HR2.out,HR3.out,HB2.out,fun j hj=>absurd hj (Nat.not_lt_zero _)⟩
   case round=>
    clear HR1 HB1 HR2 HR3 HB2;obtain⟨k,hk,rfl,hr1,hr2,hb,hno⟩:=hrel;have HR1:=zH hr1;have HS:=zH (fun x=>yV hr2 (uf _) oM x);have HR2:=zH hr2;have HB:=zH hb;have HNO:=zH hno;clear hr2 hb hno
    by_cases hlt:k<(aK a.data.toList).length
    ·obtain⟨A',cap',ev,hcell⟩:=hr1.slice
     injection ev with ea _ ec
     subst ea;subst ec;obtain⟨g,rfl,hc⟩:=hcell k hlt;clear hcell hr1;generalize hx:(aK a.data.toList).getD k []=x at*
     by_cases hin:(aK b.data.toList).contains x=true
     ·have HX:=zH hx
      have HIN:=zH hin;clear hx hin
      go_wp2_with
       (go_at_call 226;refine(HS.out x).mono ?_;rintro e w3 ⟨⟨i,rfl⟩,q,rfl⟩
        rw[HIN.out])
      go_roundw
      case rel=>
       refine⟨k+1,by omega,by go_num,cM.drewN HR1.out q,cM.drewN HR2.out q,aF HB.out q,fun j hj=>?_⟩
       by_cases e:j=k
       ·subst e
        rw[HX.out];exact HIN.out
       ·exact HNO.out j oM
      case measure=>simp[intOf];omega
     ·have hin':(aK b.data.toList).contains x=false:=by simpa using hin
      have HW:=zH (Er hlt (by rw[hx];exact hin'));have HIN:=zH hin';clear hx hin hin'
      go_wp2_with
       (go_at_call 226;refine(HS.out x).mono ?_;rintro e w3 ⟨⟨i,rfl⟩,q,rfl⟩
        rw[HIN.out])
      go_ret2;exact⟨by rw[HW.out,W3.out];rfl,aF HB.out q⟩
    ·have HW:=zH (Cz W3.out fun j hj=>HNO.out j oM)
     clear hr1;go_wp2_with fail;go_ret2;exact⟨by rw[HW.out,W3.out];rfl,HB.out⟩
  ·have E2:=zH (qx h1)
   have W3:=zH (mo (a:=a.data.toList) (b:=b.data.toList) (by rw[W2.out];exact h1));clear h1;go_enter Tryz.func185,Tryz.ntmps185;go_wp2_with fail;go_at_call 182;refine H1.out.mono ?_;rintro e w1 ⟨v,rfl,hr1,hb1⟩;rw[E.out];have HB1:=zH hb1;clear hr1 hb1;go_wp2_with fail;go_at_call 182;refine(HB.out _ (HM.out.below' HB1.out)).mono ?_;rintro e w2 ⟨u,rfl,hr2,hb2⟩;rw[E2.out];have HB2:=zH (HB1.out.trans (hb2.mono HB1.out.size));clear hr2 hb2;go_wp2_with fail;go_ret2;exact⟨by rw[W3.out,W2.out,E2.out];rfl,HB2.out⟩
 ·have E:=zH (qx h0)
  have W2:=zH (AM (b:=b.data.toList) h0);have W3:=zH (mo (a:=a.data.toList) (b:=b.data.toList) (by rw[W2.out];exact h0));clear h0;go_enter Tryz.func185,Tryz.ntmps185;go_wp2_with fail;go_at_call 182;refine H1.out.mono ?_;rintro e w1 ⟨v,rfl,hr1,hb1⟩;rw[E.out];have HB1:=zH hb1;clear hr1 hb1;go_wp2_with fail;go_ret2;exact⟨by rw[W3.out,W2.out,E.out];rfl,HB1.out⟩
theorem ei {P:Program} {fn:Func} {p u:Tmp} {ty:TypeId} (h:fn.results=#[.cell p ty,.tmp u]) (tmps:Array Value) (w:World) (g:Nat) (t:TypeId) (cs:Array Value) (d:TypeDesc) (x:Value)
  (hp:tmps.getD p undef=.pointer (some ⟨g,0,none⟩)) (hx:tmps.getD u undef=x) (hg:aj w g t cs)
  (hu:P.underlying ty=some d) (hd:(match d with| .struct _| .array _ _=>true|_=>false)=true) (hi:(P.info? ty).map (·.size)=some cs.size):
  (results fn tmps).run P w=.ok (.tuple #[.agg cs,x]) w:=by
 rw[results_cell_tmp h,hp,hx];simp only[asAddr,Sem.run_pure,Result.andThen];rw[run_loadVar_row w g t ty cs (0,0) d hg hu hd hi]
structure RE (W:World) (rb eb:Nat) (st:Rd) (e:Ev) (w:World):Prop where
 rs:RS W rb st w
 res:aj w W.heap.size 116 (ax Ev.zero)
 ev:aj w eb 116 (ax e)
 n1:W.heap.size<rb
 n2:rb<eb
section
variable {W w w':World} {rb eb:Nat} {st st':Rd} {e e':Ev}
theorem RE.keep (h:RE W rb eb st e w) (hb:Below w.heap.size w w'):RE W rb eb st e w':=⟨h.rs.keep hb,h.res.below' hb,h.ev.below' hb,h.n1,h.n2⟩
theorem RE.turn (h:RE W rb eb st e w) (hr:RS W rb st' w') (hg:w.grownBy w' (some rb)):RE W rb eb st' e w':=
 ⟨hr,h.res.grown hg (by have:=h.n1;simp;omega),h.ev.grown hg (by have:=h.n2;simp;omega),h.n1,h.n2⟩
theorem RE.setBad (h:RE W rb eb st e w) (b:Bool):RE W rb eb (st.1,b) e (w.setCell ⟨rb,1,none⟩ (.bool b)):=h.turn (h.rs.setBad b) (ag (bT w (some rb)) (.inl rfl) _)
theorem RE.put (h:RE W rb eb st e w) (hb:aj w' eb 116 (ax e')) (hg:w.grownBy w' (some eb)):RE W rb eb st e' w':=
 ⟨⟨h.rs.base,h.rs.errs0,dm h.rs.below hg (by have:=h.n1;have:=h.n2;omega) h.rs.below.size,h.rs.le,h.rs.rd.other hg h.n2⟩,h.res.grown hg (by have:=h.n1;have:=h.n2;simp;omega),hb,h.n1,h.n2⟩
theorem RE.set (h:RE W rb eb st e w) (i:Nat) (u:Value) (he:(ax e).setIfInBounds i u=ax e'):RE W rb eb st e' (w.setCell ⟨eb,i,none⟩ u):=
 h.put (by have:=h.ev.set_ i u;rwa[he]at this) (ag (bT w (some eb)) (.inl rfl) _)
theorem RE.frozen (h:RE W rb eb st e w) (i:Nat):w.frozen? ⟨eb,i,none⟩=false:=h.ev.frozen i
theorem RE.fam {k id ti:Int} {f0:an} (h:RE W rb eb st ⟨k,f0,id,ti⟩ w) (f:an):RE W rb eb st ⟨k,f,id,ti⟩
  (((((((((w.setCell ⟨eb,1,none⟩ (.int .i64 f.id)).setCell ⟨eb,2,none⟩ (.string f.client)).setCell ⟨eb,3,none⟩ (.string f.subject)).setCell ⟨eb,4,none⟩ (.string f.scope)).setCell ⟨eb,5,none⟩ (.int .i64 f.gen)).setCell ⟨eb,6,none⟩ (.int .i64 f.made)).setCell ⟨eb,7,none⟩ (.int .i64 f.used)).setCell ⟨eb,8,none⟩ (.string f.request)).setCell ⟨eb,9,none⟩ (.bool f.dead)):=by
 have h1:=h.set 1 (.int .i64 f.id) (e':=⟨k,⟨f.id,f0.client,f0.subject,f0.scope,f0.gen,f0.made,f0.used,f0.request,f0.dead⟩,id,ti⟩) rfl;have h2:=h1.set 2 (.string f.client) (e':=⟨k,⟨f.id,f.client,f0.subject,f0.scope,f0.gen,f0.made,f0.used,f0.request,f0.dead⟩,id,ti⟩) rfl;have h3:=h2.set 3 (.string f.subject) (e':=⟨k,⟨f.id,f.client,f.subject,f0.scope,f0.gen,f0.made,f0.used,f0.request,f0.dead⟩,id,ti⟩) rfl;have h4:=h3.set 4 (.string f.scope) (e':=⟨k,⟨f.id,f.client,f.subject,f.scope,f0.gen,f0.made,f0.used,f0.request,f0.dead⟩,id,ti⟩) rfl;have h5:=h4.set 5 (.int .i64 f.gen) (e':=⟨k,⟨f.id,f.client,f.subject,f.scope,f.gen,f0.made,f0.used,f0.request,f0.dead⟩,id,ti⟩) rfl;have h6:=h5.set 6 (.int .i64 f.made) (e':=⟨k,⟨f.id,f.client,f.subject,f.scope,f.gen,f.made,f0.used,f0.request,f0.dead⟩,id,ti⟩) rfl;have h7:=h6.set 7 (.int .i64 f.used) (e':=⟨k,⟨f.id,f.client,f.subject,f.scope,f.gen,f.made,f.used,f0.request,f0.dead⟩,id,ti⟩) rfl;have h8:=h7.set 8 (.string f.request) (e':=⟨k,⟨f.id,f.client,f.subject,f.scope,f.gen,f.made,f.used,f.request,f0.dead⟩,id,ti⟩) rfl;exact h8.set 9 (.bool f.dead) (e':=⟨k,f,id,ti⟩) rfl
theorem RE.facts (h:RE W rb eb st e w):(∀ i,w.cell? ⟨eb,i,none⟩=(ax e)[i]?)∧(∀ i,w.frozen? ⟨eb,i,none⟩=false)∧(∀ i,w.cell? ⟨W.heap.size,i,none⟩=(ax Ev.zero)[i]?)∧(∀ i,w.frozen? ⟨W.heap.size,i,none⟩=false):=
 ⟨h.ev.cell,h.ev.frozen,h.res.cell,h.res.frozen⟩
theorem RE.words (h:RE W rb eb st e w): ∃ A cap,w.cell? ⟨rb,0,none⟩=some (.slice A st.1.length cap)∧w.cell? ⟨rb,1,none⟩=some (.bool st.2)∧w.frozen? ⟨rb,1,none⟩=false:=by
 obtain⟨⟨v,h1,g,o,cap,rfl,_⟩,_⟩:=h.rs.rd;exact⟨_,_,h1.cell 0,h1.cell 1,h1.frozen 1⟩
end
theorem RE.start {W w1:World} {v:Value} {L:List (List UInt8)} (h0:WB W W) (he:bf W) (hs: ∀ x∈L,x.length≤5000) (hr:gi w1 (W.heap.size+1) v L) (hb:Below (W.heap.size+1) (W.alloc (.cells (ax Ev.zero) 116)) w1):
  RE W w1.heap.size (w1.heap.size+1) (L,false) Ev.zero ((w1.alloc (.cells #[v,.bool false] 201)).alloc (.cells (ax Ev.zero) 116)):=by
 have hz:(W.alloc (.cells (ax Ev.zero) 116)).heap.size=W.heap.size+1:=by simp
 have b0:Below W.heap.size W (W.alloc (.cells (ax Ev.zero) 116)):=(Below.refl _ _).alloc (Nat.le_refl _) _;have b1:Below W.heap.size W w1:=b0.trans (hb.mono oM);have hlt:W.heap.size<w1.heap.size:=by have:=hb.size;rw[hz]at this;omega
 have b2:Below w1.heap.size w1 ((w1.alloc (.cells #[v,.bool false] 201)).alloc (.cells (ax Ev.zero) 116)):=bZ _ _ _;obtain⟨g,cap,rfl,h1,h2,h3,h4,_⟩:=hr.parts;have hw:gI w1 w1.heap.size (.slice (some ⟨g,0,none⟩) L.length cap) L:=⟨g,0,cap,rfl,h3,h4,h2,fun j hj=>by rw[Nat.zero_add];exact hr.cell j hj⟩;refine⟨⟨h0,he,b1.trans (b2.mono b1.size),Nat.le_of_lt hlt,⟨⟨_,(aj.new w1 _ _).alloc _,hw.below b2⟩,hs⟩⟩,?_,?_,hlt,Nat.lt_succ_self _⟩
 ·have h5:=(aj.new W 116 (ax Ev.zero)).below hb oM
  exact h5.below' b2
 ·have h6:=aj.new (w1.alloc (.cells #[.slice (some ⟨g,0,none⟩) L.length cap,.bool false] 201)) 116 (ax Ev.zero)
  simpa using h6
theorem mp {st:Rd} (h: ∀ x∈st.1,x.length≤5000):(ah (iP st)).size≤5000:=by
 rw[av];unfold iP nE;split
 ·simp
 ·exact tB h
theorem dX {st:Rd} (h: ∀ x∈st.1,x.length≤5000): ∀ x∈(cz st).1,x.length≤5000:=by
 obtain⟨ws,b⟩:=st;cases ws with
 |nil=>exact h
 |cons y r=>exact fun x hx=>h x (List.mem_cons_of_mem _ hx)
theorem yT {st:Rd} (h: ∀ x∈st.1,x.length≤5000):(yD st).short 5000:=by
 have a1:=dX h;have a2:=dX (st:=br st) a1;have a3:=dX (st:=aM (br st)) a2;have a4:=dX (st:=aM (aM (br st))) a3;have a5:=dX (st:=aM (aM (aM (br st)))) a4;have a6:=dX (st:=br (aM (aM (aM (br st))))) a5;have a7:=dX (st:=br (br (aM (aM (aM (br st)))))) a6;exact⟨mp (st:=br st) a1,mp (st:=aM (br st)) a2,mp (st:=aM (aM (br st))) a3,mp (st:=br (br (br (aM (aM (aM (br st))))))) a7⟩
theorem ny:an.zero.short 5000:=by unfold an.zero;exact⟨by decide,by decide,by decide,by decide⟩
theorem jK {st:Rd} (h: ∀ x∈st.1,x.length≤5000):(dB st).1.fam.short 5000:=by
 unfold dB;split
 ·exact yT (dX h)
 ·split
  ·exact ny
  ·split
   ·exact ny
   ·exact ny
def gF (st:Rd):Ev:=if eH st then(dB st).1 else Ev.zero
def gz (st:Rd):Int:=if eH st then 0 else 3
theorem oC {st:Rd} (h1:(dB st).2.2=false) (h2:(dB st).2.1.length=0) (h3:dp (dB st).1=true):gF st=(dB st).1∧gz st=0:=by
 have:eH st=true:=by
  unfold eH;rw[h1,h3,List.eq_nil_of_length_eq_zero h2];rfl
 unfold gF gz;rw[if_pos this,if_pos this];exact⟨rfl,rfl⟩
theorem qs {st:Rd} (h:(dB st).2.2=true∨(dB st).2.1.length≠0∨dp (dB st).1=false):gF st=Ev.zero∧gz st=3:=by
 have: ¬ eH st=true:=by
  unfold eH;rcases h with h|h|h
  ·rw[h];simp
  ·have: ¬ (dB st).2.1=[]:=fun e=>h (by rw[e];rfl)
   simp[this]
  ·rw[h];simp
 unfold gF gz;rw[if_neg this,if_neg this];exact⟨rfl,rfl⟩
def jA (W:World) (e:Ev) (n:Int) (x:Ending) (w':World):Prop:=x=.returned (.tuple #[aE e,bV n])∧Below W.heap.size W w'
theorem cV {W w:World} {A:Act} {e:Ev} {n:Int} (hb:Below W.heap.size W w) (hr:aj w W.heap.size 116 (ax e))
  (hp:A.tmps.getD 2 undef=.pointer (some ⟨W.heap.size,0,none⟩)) (hx:A.tmps.getD 3 undef=bV n) (hd:A.defers=[]):
  bodyPost prog Tryz.f106 (jA W e n) Exit.ret A w:=
 bodyPost_ret (ei rfl A.tmps w _ _ _ _ _ hp hx hr underlying116 rfl kR) hd ⟨rfl,hb⟩
theorem aj.at_ {w:World} {g:Nat} {T:TypeId} {cs cs':Array Value} (h:aj w g T cs) (i:Nat) (u:Value) (he:cs.setIfInBounds i u=cs'):aj (w.setCell ⟨g,i,none⟩ u) g T cs':=by
 have:=h.set_ i u
 rwa[he]at this
theorem cv {w:World} {g:Nat} {T:TypeId} {e e':Ev} (h:aj w g T (ax e)):aj (((((((((((((w.setCell ⟨g,0,none⟩ (.int .i64 e'.kind)).setCell ⟨g,1,none⟩ (.int .i64 e'.fam.id)).setCell ⟨g,2,none⟩ (.string e'.fam.client)).setCell ⟨g,3,none⟩ (.string e'.fam.subject)).setCell ⟨g,4,none⟩ (.string e'.fam.scope)).setCell ⟨g,5,none⟩ (.int .i64 e'.fam.gen)).setCell ⟨g,6,none⟩ (.int .i64 e'.fam.made)).setCell ⟨g,7,none⟩ (.int .i64 e'.fam.used)).setCell ⟨g,8,none⟩ (.string e'.fam.request)).setCell ⟨g,9,none⟩ (.bool e'.fam.dead)).setCell ⟨g,10,none⟩ (.int .i64 e'.id)).setCell ⟨g,11,none⟩ (.int .i64 e'.time))) g T (ax e'):=by
 have h1:=h.at_ 0 (.int .i64 e'.kind) (cs':=ax ⟨e'.kind,⟨e.fam.id,e.fam.client,e.fam.subject,e.fam.scope,e.fam.gen,e.fam.made,e.fam.used,e.fam.request,e.fam.dead⟩,e.id,e.time⟩) rfl;have h2:=h1.at_ 1 (.int .i64 e'.fam.id) (cs':=ax ⟨e'.kind,⟨e'.fam.id,e.fam.client,e.fam.subject,e.fam.scope,e.fam.gen,e.fam.made,e.fam.used,e.fam.request,e.fam.dead⟩,e.id,e.time⟩) rfl;have h3:=h2.at_ 2 (.string e'.fam.client) (cs':=ax ⟨e'.kind,⟨e'.fam.id,e'.fam.client,e.fam.subject,e.fam.scope,e.fam.gen,e.fam.made,e.fam.used,e.fam.request,e.fam.dead⟩,e.id,e.time⟩) rfl;have h4:=h3.at_ 3 (.string e'.fam.subject) (cs':=ax ⟨e'.kind,⟨e'.fam.id,e'.fam.client,e'.fam.subject,e.fam.scope,e.fam.gen,e.fam.made,e.fam.used,e.fam.request,e.fam.dead⟩,e.id,e.time⟩) rfl;have h5:=h4.at_ 4 (.string e'.fam.scope) (cs':=ax ⟨e'.kind,⟨e'.fam.id,e'.fam.client,e'.fam.subject,e'.fam.scope,e.fam.gen,e.fam.made,e.fam.used,e.fam.request,e.fam.dead⟩,e.id,e.time⟩) rfl;have h6:=h5.at_ 5 (.int .i64 e'.fam.gen) (cs':=ax ⟨e'.kind,⟨e'.fam.id,e'.fam.client,e'.fam.subject,e'.fam.scope,e'.fam.gen,e.fam.made,e.fam.used,e.fam.request,e.fam.dead⟩,e.id,e.time⟩) rfl;have h7:=h6.at_ 6 (.int .i64 e'.fam.made) (cs':=ax ⟨e'.kind,⟨e'.fam.id,e'.fam.client,e'.fam.subject,e'.fam.scope,e'.fam.gen,e'.fam.made,e.fam.used,e.fam.request,e.fam.dead⟩,e.id,e.time⟩) rfl;have h8:=h7.at_ 7 (.int .i64 e'.fam.used) (cs':=ax ⟨e'.kind,⟨e'.fam.id,e'.fam.client,e'.fam.subject,e'.fam.scope,e'.fam.gen,e'.fam.made,e'.fam.used,e.fam.request,e.fam.dead⟩,e.id,e.time⟩) rfl;have h9:=h8.at_ 8 (.string e'.fam.request) (cs':=ax ⟨e'.kind,⟨e'.fam.id,e'.fam.client,e'.fam.subject,e'.fam.scope,e'.fam.gen,e'.fam.made,e'.fam.used,e'.fam.request,e.fam.dead⟩,e.id,e.time⟩) rfl;have h10:=h9.at_ 9 (.bool e'.fam.dead) (cs':=ax ⟨e'.kind,⟨e'.fam.id,e'.fam.client,e'.fam.subject,e'.fam.scope,e'.fam.gen,e'.fam.made,e'.fam.used,e'.fam.request,e'.fam.dead⟩,e.id,e.time⟩) rfl;have h11:=h10.at_ 10 (.int .i64 e'.id) (cs':=ax ⟨e'.kind,⟨e'.fam.id,e'.fam.client,e'.fam.subject,e'.fam.scope,e'.fam.gen,e'.fam.made,e'.fam.used,e'.fam.request,e'.fam.dead⟩,e'.id,e.time⟩) rfl;have h12:=h11.at_ 11 (.int .i64 e'.time) (cs':=ax ⟨e'.kind,⟨e'.fam.id,e'.fam.client,e'.fam.subject,e'.fam.scope,e'.fam.gen,e'.fam.made,e'.fam.used,e'.fam.request,e'.fam.dead⟩,e'.id,e'.time⟩) rfl;exact h12
theorem bU {W w:World} {e':Ev} (h:Below W.heap.size W w):Below W.heap.size W (((((((((((((w.setCell ⟨W.heap.size,0,none⟩ (.int .i64 e'.kind)).setCell ⟨W.heap.size,1,none⟩ (.int .i64 e'.fam.id)).setCell ⟨W.heap.size,2,none⟩ (.string e'.fam.client)).setCell ⟨W.heap.size,3,none⟩ (.string e'.fam.subject)).setCell ⟨W.heap.size,4,none⟩ (.string e'.fam.scope)).setCell ⟨W.heap.size,5,none⟩ (.int .i64 e'.fam.gen)).setCell ⟨W.heap.size,6,none⟩ (.int .i64 e'.fam.made)).setCell ⟨W.heap.size,7,none⟩ (.int .i64 e'.fam.used)).setCell ⟨W.heap.size,8,none⟩ (.string e'.fam.request)).setCell ⟨W.heap.size,9,none⟩ (.bool e'.fam.dead)).setCell ⟨W.heap.size,10,none⟩ (.int .i64 e'.id)).setCell ⟨W.heap.size,11,none⟩ (.int .i64 e'.time))):=
 (((((((((((h.setCell (Nat.le_refl _) _).setCell (Nat.le_refl _) _).setCell (Nat.le_refl _) _).setCell (Nat.le_refl _) _).setCell (Nat.le_refl _) _).setCell (Nat.le_refl _) _).setCell (Nat.le_refl _) _).setCell (Nat.le_refl _) _).setCell (Nat.le_refl _) _).setCell (Nat.le_refl _) _).setCell (Nat.le_refl _) _).setCell (Nat.le_refl _) _
theorem kz (s:ByteArray) (W:World) (hs:s.size≤5000) (h:WB W W) (he:bf W):
  Calls prog 13 #[.string s,.string ⟨#[32]⟩] (W.alloc (.cells (ax Ev.zero) 116)) fun x w1=> ∃ g cap,x=.returned (.slice (some ⟨g,0,none⟩) (parts 32 s.data.toList).length cap)∧
   RE W w1.heap.size (w1.heap.size+1) (parts 32 s.data.toList,false) Ev.zero ((w1.alloc (.cells #[.slice (some ⟨g,0,none⟩) (parts 32 s.data.toList).length cap,.bool false] 201)).alloc (.cells (ax Ev.zero) 116)):=by
 have hz:(W.alloc (.cells (ax Ev.zero) 116)).heap.size=W.heap.size+1:=by simp
 have hb0:Below W.heap.size W (W.alloc (.cells (ax Ev.zero) 116)):=(Below.refl _ _).alloc (Nat.le_refl _) _;have hsm: ∀ x∈parts 32 s.data.toList,x.length≤5000:=be 32 _ _ (by rw[aq];exact hs);refine(fT 32 s (W.heap.size+1) (W.alloc (.cells (ax Ev.zero) 116)) oM (h.maxl.below hb0 h.maxl.lt) oM).mono ?_;rintro x w1 ⟨v,rfl,hr,hb⟩;obtain⟨g,cap,rfl,_⟩:=id hr;exact⟨g,cap,rfl,RE.start h he hsm hr (by rw[←hz];exact hb)⟩
theorem sN (x:List UInt8) (c:UInt8):((ah x).toList == [c])=decide (x=[c]):=by
 rw[bn,Bool.eq_iff_iff];simp
theorem IK (s:ByteArray) (W:World) (hs:s.size≤5000) (h:WB W W) (he:bf W) (hp:bp (parts 32 s.data.toList,false)=[112]):
  Calls prog 106 #[.string s] W (jA W (gF (parts 32 s.data.toList,false)) (gz (parts 32 s.data.toList,false))):=by
 have HSP:=zH (kz s W hs h he);have hE:dB (parts 32 s.data.toList,false)=(⟨1,yD (cz (parts 32 s.data.toList,false)),0,0⟩,wO (cz (parts 32 s.data.toList,false))):=by unfold dB;rw[if_pos hp]
 have HSH:=zH (jK (st:=(parts 32 s.data.toList,false)) (be 32 _ _ (by rw[aq];exact hs)));have HY:=zH (@oC (parts 32 s.data.toList,false));have HN:=zH (@qs (parts 32 s.data.toList,false));rw[hE]at HY HN HSH;clear h he hE;generalize gF (parts 32 s.data.toList,false)=eR at*;generalize gz (parts 32 s.data.toList,false)=nR at*;have HP:Hid (ah (bp (parts 32 s.data.toList,false))=⟨#[112]⟩):=zH (by rw[hp];rfl);clear hp;generalize parts 32 s.data.toList=L at*;unfold ax Ev.zero an.zero at HSP;dsimp only at HSP;go_enter Tryz.func106,Tryz.ntmps106;go_wp2_with fail;go_at_call 13;refine HSP.out.mono ?_;rintro x w1 ⟨g,cap,rfl,h1⟩;have H:=zH h1;clear h1;go_wp2_with fail;generalize ((w1.alloc (.cells #[.slice (some ⟨g,0,none⟩) L.length cap,.bool false] 201)).alloc (.cells #[.int .i64 0,.int .i64 0,.string ⟨#[]⟩,.string ⟨#[]⟩,.string ⟨#[]⟩,.int .i64 0,.int .i64 0,.int .i64 0,.string ⟨#[]⟩,.bool false,.int .i64 0,.int .i64 0] 116))=w2 at*;have hre:w1.heap.size+1=w1.heap.size+1:=rfl;generalize w1.heap.size+1=eb at H hre ⊢;generalize w1.heap.size=rb at*;go_at_call 156;refine(kw H.out.rs).mono ?_;rintro x w3 ⟨rfl,hr,hg⟩;have H:=zH (H.out.turn hr hg);clear hr hg;rw[HP.out];generalize cz (L,false)=st at*;have c0:=H.out.ev.cell 0;have f0:=H.out.ev.frozen 0;unfold ax at c0;go_wp2_with fail;have H:=zH (H.out.set 0 (.int .i64 1) (e':=⟨1,an.zero,0,0⟩) rfl);clear c0 f0;generalize w3.setCell ⟨eb,0,none⟩ (.int .i64 1)=w4 at*;go_at_call 157;refine(o8 H.out.rs).mono ?_;rintro x w5 ⟨rfl,hr,hg⟩;have H:=zH (H.out.turn hr hg);clear hr hg;go_wp2_with fail;go_at_call 158;refine(qi H.out.rs).mono ?_;rintro x w5 ⟨rfl,hr,hg⟩;have H:=zH (H.out.turn hr hg);clear hr hg;go_wp2_with fail;go_at_call 158;refine(qi H.out.rs).mono ?_;rintro x w5 ⟨rfl,hr,hg⟩;have H:=zH (H.out.turn hr hg);clear hr hg;go_wp2_with fail;go_at_call 158;refine(qi H.out.rs).mono ?_;rintro x w5 ⟨rfl,hr,hg⟩;have H:=zH (H.out.turn hr hg);clear hr hg;go_wp2_with fail;go_at_call 157;refine(o8 H.out.rs).mono ?_;rintro x w5 ⟨rfl,hr,hg⟩;have H:=zH (H.out.turn hr hg);clear hr hg;go_wp2_with fail;go_at_call 157;refine(o8 H.out.rs).mono ?_;rintro x w5 ⟨rfl,hr,hg⟩;have H:=zH (H.out.turn hr hg);clear hr hg;go_wp2_with fail;go_at_call 157;refine(o8 H.out.rs).mono ?_;rintro x w5 ⟨rfl,hr,hg⟩;have H:=zH (H.out.turn hr hg);clear hr hg;go_wp2_with fail;go_at_call 158;refine(qi H.out.rs).mono ?_;rintro x w5 ⟨rfl,hr,hg⟩;have H:=zH (H.out.turn hr hg);clear hr hg;have hfv:yD st=⟨jx st,ah (iP (br st)),ah (iP (aM (br st))),ah (iP (aM (aM (br st)))),jx (aM (aM (aM (br st)))),jx (br (aM (aM (aM (br st))))),jx (br (br (aM (aM (aM (br st)))))),ah (iP (br (br (br (aM (aM (aM (br st)))))))),decide (bp (aM (br (br (br (aM (aM (aM (br st))))))))=[49])⟩:=rfl;have hfs:wO st=((cz (aM (br (br (br (aM (aM (aM (br st))))))))).1,(cz (aM (br (br (br (aM (aM (aM (br st))))))))).2 || (!decide (bp (aM (br (br (br (aM (aM (aM (br st))))))))=[48])&& !decide (bp (aM (br (br (br (aM (aM (aM (br st))))))))=[49]))):=rfl;rw[hfv,hfs]at HY HN;rw[hfv]at HSH;clear hfv hfs;generalize aM (br (br (br (aM (aM (aM (br st)))))))=s8 at*;generalize jx st=v1 at*;generalize ah (iP (br st))=v2 at*;generalize ah (iP (aM (br st)))=v3 at*;generalize ah (iP (aM (aM (br st))))=v4 at*;generalize jx (aM (aM (aM (br st))))=v5 at*;generalize jx (br (aM (aM (aM (br st)))))=v6 at*;generalize jx (br (br (aM (aM (aM (br st))))))=v7 at*;generalize ah (iP (br (br (br (aM (aM (aM (br st))))))))=v8 at*;obtain⟨hc,hf,_,_⟩:=H.out.facts;have c1:=hc 1;have c2:=hc 2;have c3:=hc 3;have c4:=hc 4;have c5:=hc 5;have c6:=hc 6;have c7:=hc 7;have c8:=hc 8;have c9:=hc 9;have f1:=hf 1;have f2:=hf 2;have f3:=hf 3;have f4:=hf 4;have f5:=hf 5;have f6:=hf 6;have f7:=hf 7;have f8:=hf 8;have f9:=hf 9;clear hc hf;unfold ax an.zero at c1 c2 c3 c4 c5 c6 c7 c8 c9;dsimp only at c1 c2 c3 c4 c5 c6 c7 c8 c9;go_wp2_with fail;have H:=zH (H.out.fam ⟨v1,v2,v3,v4,v5,v6,v7,v8,false⟩);dsimp only at H;clear c1 c2 c3 c4 c5 c6 c7 c8 c9 f1 f2 f3 f4 f5 f6 f7 f8 f9;generalize (((((((((w5.setCell ⟨eb,1,none⟩ (.int .i64 v1)).setCell ⟨eb,2,none⟩ (.string v2)).setCell ⟨eb,3,none⟩ (.string v3)).setCell ⟨eb,4,none⟩ (.string v4)).setCell ⟨eb,5,none⟩ (.int .i64 v5)).setCell ⟨eb,6,none⟩ (.int .i64 v6)).setCell ⟨eb,7,none⟩ (.int .i64 v7)).setCell ⟨eb,8,none⟩ (.string v8)).setCell ⟨eb,9,none⟩ (.bool false))=w6 at*;go_at_call 156;refine(kw H.out.rs).mono ?_;rintro x w7 ⟨rfl,hr,hg⟩;have H:=zH (H.out.turn hr hg);clear hr hg;have e48:=sN (bp s8) 48;have e49:=sN (bp s8) 49;generalize decide (bp s8=[48])=d48 at*;generalize decide (bp s8=[49])=d49 at*;generalize ah (bp s8)=y at*;generalize cz s8=s9 at*;obtain⟨ws9,b9⟩:=s9;dsimp only at HY HN HSH;have hlt:=H.out.n2;have hlt1:=H.out.n1
 have hcases:(b9=true∨(b9=false∧d48=false∧d49=false))∨(b9=false∧d48=true)∨(b9=false∧d48=false∧d49=true):=by
  cases b9<;>cases d48<;>cases d49<;>simp
 rcases hcases with(rfl|⟨rfl,rfl,rfl⟩)|⟨rfl,rfl⟩|⟨rfl,rfl,rfl⟩
 ·obtain⟨rfl,rfl⟩:=HN.out (.inl (by simp))
  obtain⟨hc,hf,hrc,hrf⟩:=H.out.facts;obtain⟨A,cap2,k0,k1,k2⟩:=H.out.words;have c0:=hc 0;have f0:=hf 0;have r0:=hrc 0;have q0:=hrf 0;have c1:=hc 1;have f1:=hf 1;have r1:=hrc 1;have q1:=hrf 1;have c2:=hc 2;have f2:=hf 2;have r2:=hrc 2;have q2:=hrf 2;have c3:=hc 3;have f3:=hf 3;have r3:=hrc 3;have q3:=hrf 3;have c4:=hc 4;have f4:=hf 4;have r4:=hrc 4;have q4:=hrf 4;have c5:=hc 5;have f5:=hf 5;have r5:=hrc 5;have q5:=hrf 5;have c6:=hc 6;have f6:=hf 6;have r6:=hrc 6;have q6:=hrf 6;have c7:=hc 7;have f7:=hf 7;have r7:=hrc 7;have q7:=hrf 7;have c8:=hc 8;have f8:=hf 8;have r8:=hrc 8;have q8:=hrf 8;have c9:=hc 9;have f9:=hf 9;have r9:=hrc 9;have q9:=hrf 9;have c10:=hc 10;have f10:=hf 10;have r10:=hrc 10;have q10:=hrf 10;have c11:=hc 11;have f11:=hf 11;have r11:=hrc 11;have q11:=hrf 11;clear hc hf hrc hrf;unfold ax at c0 c1 c2 c3 c4 c5 c6 c7 c8 c9 c10 c11;unfold ax Ev.zero an.zero at r0 r1 r2 r3 r4 r5 r6 r7 r8 r9 r10 r11;dsimp only at c0 c1 c2 c3 c4 c5 c6 c7 c8 c9 c10 c11 r0 r1 r2 r3 r4 r5 r6 r7 r8 r9 r10 r11 k0 k1;go_wp2_with fail;have H:=zH (H.out.set 9 (.bool d49) (e':=⟨1,⟨v1,v2,v3,v4,v5,v6,v7,v8,d49⟩,0,0⟩) rfl);have H:=zH (H.out.setBad true);exact cV (e:=Ev.zero) (bU (e':=Ev.zero) H.out.rs.below) (cv (e':=Ev.zero) H.out.res) rfl rfl rfl
 ·obtain⟨rfl,rfl⟩:=HN.out (.inl (by simp))
  obtain⟨hc,hf,hrc,hrf⟩:=H.out.facts;obtain⟨A,cap2,k0,k1,k2⟩:=H.out.words;have c0:=hc 0;have f0:=hf 0;have r0:=hrc 0;have q0:=hrf 0;have c1:=hc 1;have f1:=hf 1;have r1:=hrc 1;have q1:=hrf 1;have c2:=hc 2;have f2:=hf 2;have r2:=hrc 2;have q2:=hrf 2;have c3:=hc 3;have f3:=hf 3;have r3:=hrc 3;have q3:=hrf 3;have c4:=hc 4;have f4:=hf 4;have r4:=hrc 4;have q4:=hrf 4;have c5:=hc 5;have f5:=hf 5;have r5:=hrc 5;have q5:=hrf 5;have c6:=hc 6;have f6:=hf 6;have r6:=hrc 6;have q6:=hrf 6;have c7:=hc 7;have f7:=hf 7;have r7:=hrc 7;have q7:=hrf 7;have c8:=hc 8;have f8:=hf 8;have r8:=hrc 8;have q8:=hrf 8;have c9:=hc 9;have f9:=hf 9;have r9:=hrc 9;have q9:=hrf 9;have c10:=hc 10;have f10:=hf 10;have r10:=hrc 10;have q10:=hrf 10;have c11:=hc 11;have f11:=hf 11;have r11:=hrc 11;have q11:=hrf 11;clear hc hf hrc hrf;unfold ax at c0 c1 c2 c3 c4 c5 c6 c7 c8 c9 c10 c11;unfold ax Ev.zero an.zero at r0 r1 r2 r3 r4 r5 r6 r7 r8 r9 r10 r11;dsimp only at c0 c1 c2 c3 c4 c5 c6 c7 c8 c9 c10 c11 r0 r1 r2 r3 r4 r5 r6 r7 r8 r9 r10 r11 k0 k1;go_wp2_with fail;have H:=zH (H.out.set 9 (.bool false) (e':=⟨1,⟨v1,v2,v3,v4,v5,v6,v7,v8,false⟩,0,0⟩) rfl);have H:=zH (H.out.setBad true);exact cV (e:=Ev.zero) (bU (e':=Ev.zero) H.out.rs.below) (cv (e':=Ev.zero) H.out.res) rfl rfl rfl
 ·obtain⟨hc,hf,hrc,hrf⟩:=H.out.facts
  obtain⟨A,cap2,k0,k1,k2⟩:=H.out.words;have c0:=hc 0;have f0:=hf 0;have r0:=hrc 0;have q0:=hrf 0;have c1:=hc 1;have f1:=hf 1;have r1:=hrc 1;have q1:=hrf 1;have c2:=hc 2;have f2:=hf 2;have r2:=hrc 2;have q2:=hrf 2;have c3:=hc 3;have f3:=hf 3;have r3:=hrc 3;have q3:=hrf 3;have c4:=hc 4;have f4:=hf 4;have r4:=hrc 4;have q4:=hrf 4;have c5:=hc 5;have f5:=hf 5;have r5:=hrc 5;have q5:=hrf 5;have c6:=hc 6;have f6:=hf 6;have r6:=hrc 6;have q6:=hrf 6;have c7:=hc 7;have f7:=hf 7;have r7:=hrc 7;have q7:=hrf 7;have c8:=hc 8;have f8:=hf 8;have r8:=hrc 8;have q8:=hrf 8;have c9:=hc 9;have f9:=hf 9;have r9:=hrc 9;have q9:=hrf 9;have c10:=hc 10;have f10:=hf 10;have r10:=hrc 10;have q10:=hrf 10;have c11:=hc 11;have f11:=hf 11;have r11:=hrc 11;have q11:=hrf 11;clear hc hf hrc hrf;unfold ax at c0 c1 c2 c3 c4 c5 c6 c7 c8 c9 c10 c11;unfold ax Ev.zero an.zero at r0 r1 r2 r3 r4 r5 r6 r7 r8 r9 r10 r11;dsimp only at c0 c1 c2 c3 c4 c5 c6 c7 c8 c9 c10 c11 r0 r1 r2 r3 r4 r5 r6 r7 r8 r9 r10 r11 k0 k1
  by_cases hw:ws9.length=0
  ·have HRT:=zH (fun w (hm:dt w)=>jv ⟨1,⟨v1,v2,v3,v4,v5,v6,v7,v8,d49⟩,0,0⟩ w HSH.out hm)
   have H8:=zH ((H.out.set 9 (.bool d49) (e':=⟨1,⟨v1,v2,v3,v4,v5,v6,v7,v8,d49⟩,0,0⟩) rfl).setBad false);generalize hbe:dp ⟨1,⟨v1,v2,v3,v4,v5,v6,v7,v8,d49⟩,0,0⟩=bE at*;unfold aE ax at HRT;dsimp only at HRT;clear hbe;go_wp2_with fail;generalize (w7.setCell ⟨eb,9,none⟩ (.bool d49)).setCell ⟨rb,1,none⟩ (.bool false)=w8 at*;go_at_call 159;refine(HRT.out _ H8.out.rs.wb.maxl).mono ?_;rintro x w9 ⟨rfl,hb⟩;have H:=zH (H8.out.keep hb);clear hb H8;clear c0 f0 r0 q0 c1 f1 r1 q1 c2 f2 r2 q2 c3 f3 r3 q3 c4 f4 r4 q4 c5 f5 r5 q5 c6 f6 r6 q6 c7 f7 r7 q7 c8 f8 r8 q8 c9 f9 r9 q9 c10 f10 r10 q10 c11 f11 r11 q11 k0 k1 k2;obtain⟨hc,hf,hrc,hrf⟩:=H.out.facts;obtain⟨A,cap2,k0,k1,k2⟩:=H.out.words;have c0:=hc 0;have f0:=hf 0;have r0:=hrc 0;have q0:=hrf 0;have c1:=hc 1;have f1:=hf 1;have r1:=hrc 1;have q1:=hrf 1;have c2:=hc 2;have f2:=hf 2;have r2:=hrc 2;have q2:=hrf 2;have c3:=hc 3;have f3:=hf 3;have r3:=hrc 3;have q3:=hrf 3;have c4:=hc 4;have f4:=hf 4;have r4:=hrc 4;have q4:=hrf 4;have c5:=hc 5;have f5:=hf 5;have r5:=hrc 5;have q5:=hrf 5;have c6:=hc 6;have f6:=hf 6;have r6:=hrc 6;have q6:=hrf 6;have c7:=hc 7;have f7:=hf 7;have r7:=hrc 7;have q7:=hrf 7;have c8:=hc 8;have f8:=hf 8;have r8:=hrc 8;have q8:=hrf 8;have c9:=hc 9;have f9:=hf 9;have r9:=hrc 9;have q9:=hrf 9;have c10:=hc 10;have f10:=hf 10;have r10:=hrc 10;have q10:=hrf 10;have c11:=hc 11;have f11:=hf 11;have r11:=hrc 11;have q11:=hrf 11;clear hc hf hrc hrf;unfold ax at c0 c1 c2 c3 c4 c5 c6 c7 c8 c9 c10 c11;unfold ax Ev.zero an.zero at r0 r1 r2 r3 r4 r5 r6 r7 r8 r9 r10 r11;dsimp only at c0 c1 c2 c3 c4 c5 c6 c7 c8 c9 c10 c11 r0 r1 r2 r3 r4 r5 r6 r7 r8 r9 r10 r11 k0 k1;cases bE
   ·obtain⟨rfl,rfl⟩:=HN.out (.inr (.inr rfl))
    go_wp2_with fail;exact cV (e:=Ev.zero) (bU (e':=Ev.zero) H.out.rs.below) (cv (e':=Ev.zero) H.out.res) rfl rfl rfl
   ·obtain⟨rfl,rfl⟩:=HY.out (by simp) hw rfl
    go_wp2_with fail;exact cV (e:=⟨1,⟨v1,v2,v3,v4,v5,v6,v7,v8,d49⟩,0,0⟩) (bU (e':=⟨1,⟨v1,v2,v3,v4,v5,v6,v7,v8,d49⟩,0,0⟩) H.out.rs.below) (cv (e':=⟨1,⟨v1,v2,v3,v4,v5,v6,v7,v8,d49⟩,0,0⟩) H.out.res) rfl rfl rfl
  ·obtain⟨rfl,rfl⟩:=HN.out (.inr (.inl hw))
   go_wp2_with fail;have H:=zH ((H.out.set 9 (.bool d49) (e':=⟨1,⟨v1,v2,v3,v4,v5,v6,v7,v8,d49⟩,0,0⟩) rfl).setBad false);exact cV (e:=Ev.zero) (bU (e':=Ev.zero) H.out.rs.below) (cv (e':=Ev.zero) H.out.res) rfl rfl rfl
 ·obtain⟨hc,hf,hrc,hrf⟩:=H.out.facts
  obtain⟨A,cap2,k0,k1,k2⟩:=H.out.words;have c0:=hc 0;have f0:=hf 0;have r0:=hrc 0;have q0:=hrf 0;have c1:=hc 1;have f1:=hf 1;have r1:=hrc 1;have q1:=hrf 1;have c2:=hc 2;have f2:=hf 2;have r2:=hrc 2;have q2:=hrf 2;have c3:=hc 3;have f3:=hf 3;have r3:=hrc 3;have q3:=hrf 3;have c4:=hc 4;have f4:=hf 4;have r4:=hrc 4;have q4:=hrf 4;have c5:=hc 5;have f5:=hf 5;have r5:=hrc 5;have q5:=hrf 5;have c6:=hc 6;have f6:=hf 6;have r6:=hrc 6;have q6:=hrf 6;have c7:=hc 7;have f7:=hf 7;have r7:=hrc 7;have q7:=hrf 7;have c8:=hc 8;have f8:=hf 8;have r8:=hrc 8;have q8:=hrf 8;have c9:=hc 9;have f9:=hf 9;have r9:=hrc 9;have q9:=hrf 9;have c10:=hc 10;have f10:=hf 10;have r10:=hrc 10;have q10:=hrf 10;have c11:=hc 11;have f11:=hf 11;have r11:=hrc 11;have q11:=hrf 11;clear hc hf hrc hrf;unfold ax at c0 c1 c2 c3 c4 c5 c6 c7 c8 c9 c10 c11;unfold ax Ev.zero an.zero at r0 r1 r2 r3 r4 r5 r6 r7 r8 r9 r10 r11;dsimp only at c0 c1 c2 c3 c4 c5 c6 c7 c8 c9 c10 c11 r0 r1 r2 r3 r4 r5 r6 r7 r8 r9 r10 r11 k0 k1
  by_cases hw:ws9.length=0
  ·have HRT:=zH (fun w (hm:dt w)=>jv ⟨1,⟨v1,v2,v3,v4,v5,v6,v7,v8,true⟩,0,0⟩ w HSH.out hm)
   have H8:=zH ((H.out.set 9 (.bool true) (e':=⟨1,⟨v1,v2,v3,v4,v5,v6,v7,v8,true⟩,0,0⟩) rfl).setBad false);generalize hbe:dp ⟨1,⟨v1,v2,v3,v4,v5,v6,v7,v8,true⟩,0,0⟩=bE at*;unfold aE ax at HRT;dsimp only at HRT;clear hbe;go_wp2_with fail;generalize (w7.setCell ⟨eb,9,none⟩ (.bool true)).setCell ⟨rb,1,none⟩ (.bool false)=w8 at*;go_at_call 159;refine(HRT.out _ H8.out.rs.wb.maxl).mono ?_;rintro x w9 ⟨rfl,hb⟩;have H:=zH (H8.out.keep hb);clear hb H8;clear c0 f0 r0 q0 c1 f1 r1 q1 c2 f2 r2 q2 c3 f3 r3 q3 c4 f4 r4 q4 c5 f5 r5 q5 c6 f6 r6 q6 c7 f7 r7 q7 c8 f8 r8 q8 c9 f9 r9 q9 c10 f10 r10 q10 c11 f11 r11 q11 k0 k1 k2;obtain⟨hc,hf,hrc,hrf⟩:=H.out.facts;obtain⟨A,cap2,k0,k1,k2⟩:=H.out.words;have c0:=hc 0;have f0:=hf 0;have r0:=hrc 0;have q0:=hrf 0;have c1:=hc 1;have f1:=hf 1;have r1:=hrc 1;have q1:=hrf 1;have c2:=hc 2;have f2:=hf 2;have r2:=hrc 2;have q2:=hrf 2;have c3:=hc 3;have f3:=hf 3;have r3:=hrc 3;have q3:=hrf 3;have c4:=hc 4;have f4:=hf 4;have r4:=hrc 4;have q4:=hrf 4;have c5:=hc 5;have f5:=hf 5;have r5:=hrc 5;have q5:=hrf 5;have c6:=hc 6;have f6:=hf 6;have r6:=hrc 6;have q6:=hrf 6;have c7:=hc 7;have f7:=hf 7;have r7:=hrc 7;have q7:=hrf 7;have c8:=hc 8;have f8:=hf 8;have r8:=hrc 8;have q8:=hrf 8;have c9:=hc 9;have f9:=hf 9;have r9:=hrc 9;have q9:=hrf 9;have c10:=hc 10;have f10:=hf 10;have r10:=hrc 10;have q10:=hrf 10;have c11:=hc 11;have f11:=hf 11;have r11:=hrc 11;have q11:=hrf 11;clear hc hf hrc hrf;unfold ax at c0 c1 c2 c3 c4 c5 c6 c7 c8 c9 c10 c11;unfold ax Ev.zero an.zero at r0 r1 r2 r3 r4 r5 r6 r7 r8 r9 r10 r11;dsimp only at c0 c1 c2 c3 c4 c5 c6 c7 c8 c9 c10 c11 r0 r1 r2 r3 r4 r5 r6 r7 r8 r9 r10 r11 k0 k1;cases bE
   ·obtain⟨rfl,rfl⟩:=HN.out (.inr (.inr rfl))
    go_wp2_with fail;exact cV (e:=Ev.zero) (bU (e':=Ev.zero) H.out.rs.below) (cv (e':=Ev.zero) H.out.res) rfl rfl rfl
   ·obtain⟨rfl,rfl⟩:=HY.out (by simp) hw rfl
    go_wp2_with fail;exact cV (e:=⟨1,⟨v1,v2,v3,v4,v5,v6,v7,v8,true⟩,0,0⟩) (bU (e':=⟨1,⟨v1,v2,v3,v4,v5,v6,v7,v8,true⟩,0,0⟩) H.out.rs.below) (cv (e':=⟨1,⟨v1,v2,v3,v4,v5,v6,v7,v8,true⟩,0,0⟩) H.out.res) rfl rfl rfl
  ·obtain⟨rfl,rfl⟩:=HN.out (.inr (.inl hw))
   go_wp2_with fail;have H:=zH ((H.out.set 9 (.bool true) (e':=⟨1,⟨v1,v2,v3,v4,v5,v6,v7,v8,true⟩,0,0⟩) rfl).setBad false);exact cV (e:=Ev.zero) (bU (e':=Ev.zero) H.out.rs.below) (cv (e':=Ev.zero) H.out.res) rfl rfl rfl
end Go.Proofs.YtepjcdjpikbbjaaGreatDoor
