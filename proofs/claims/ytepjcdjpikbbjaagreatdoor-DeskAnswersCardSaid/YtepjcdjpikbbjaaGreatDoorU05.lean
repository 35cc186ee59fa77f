/-
  What a text is as a token, in plain Lean: its body's kind and numbers; its tag.
-/
import Derived.Test.YtepjcdjpikbbjaaGreatDoorU00
import Derived.Test.YtepjcdjpikbbjaaGreatDoorU01
import Derived.Test.YtepjcdjpikbbjaaGreatDoorProg
import Derived.WalkKit
import Derived.Test.YtepjcdjpikbbjaaGreatDoorU04
import Derived.Lib.LaidTab
import Derived.Lib.ItoaLen
import Derived.Lib.AtoiErrMem
import Derived.Maps.AppendAt
import Derived.Deep.Onto
import Derived.Lib.SliceRun
import Derived.OrdersHeld
import Derived.Deep.RegionHeld3
set_option maxHeartbeats 2000000
set_option maxRecDepth 100000
namespace Go.Proofs.YtepjcdjpikbbjaaGreatDoor
open Go.Proofs.Tryz
def ia:List (List UInt8)→Option (Int×Int×Int×Int)
 |[h,x,y]=>if h=[114]∧fa x=true∧fa y=true then some (1,ab x,ab y,0)else none
 |[h,x,y,z]=>if h=[97]∧fa x=true∧fa y=true∧fa z=true then some (2,ab x,ab y,ab z)else none
 |_=>none
def jC (a b c d:Int):List UInt8:=
 if a=1 then[114,46]++Lib.itoa b++[46]++Lib.itoa c else[97,46]++Lib.itoa b++[46]++Lib.itoa c++[46]++Lib.itoa d
def ux (a b c d:Int):Prop:=((a=1∧d=0)∨(a=2∧ba d=true))∧ba b=true∧ba c=true
theorem lM {x:Int} (h:ba x=true):(46:UInt8) ∉ Lib.itoa x:=fU h dC
theorem rI {a b c d:Int} (h:ux a b c d):parts 46 (jC a b c d)=if a=1 then[[114],Lib.itoa b,Lib.itoa c]else[[97],Lib.itoa b,Lib.itoa c,Lib.itoa d]:=by
 obtain⟨h1,hb,hc⟩:=h;rcases h1 with⟨rfl,rfl⟩|⟨rfl,hd⟩
 ·have e:jC 1 b c 0=bM 46 [[114],Lib.itoa b,Lib.itoa c]:=by simp[jC,bM]
  rw[e,fI 46 _ (by simp),if_pos rfl];intro w hw;simp at hw;rcases hw with rfl|rfl|rfl
  ·decide
  ·exact lM hb
  ·exact lM hc
 ·have e:jC 2 b c d=bM 46 [[97],Lib.itoa b,Lib.itoa c,Lib.itoa d]:=by simp[jC,bM]
  rw[e,fI 46 _ (by simp),if_neg dC];intro w hw;simp at hw;rcases hw with rfl|rfl|rfl|rfl
  ·decide
  ·exact lM hb
  ·exact lM hc
  ·exact lM hd
theorem Bn {a b c d:Int} (h:ux a b c d):ia (parts 46 (jC a b c d))=some (a,b,c,d):=by
 rw[rI h];obtain⟨h1,hb,hc⟩:=h;rcases h1 with⟨rfl,rfl⟩|⟨rfl,hd⟩
 ·rw[if_pos rfl]
  simp[ia,j7 hb,j7 hc,bQ hb,bQ hc]
 ·rw[if_neg dC]
  simp[ia,j7 hb,j7 hc,j7 hd,bQ hb,bQ hc,bQ hd]
theorem AX {B:List UInt8} {a b c d:Int} (h:ia (parts 46 B)=some (a,b,c,d)):ux a b c d∧jC a b c d=B:=by
 have hg:=hJ 46 B;generalize parts 46 B=L at*;unfold ia at h;split at h
 ·rename_i x y z
  split at h
  ·rename_i hc
   obtain⟨rfl,hx,hy⟩:=hc;simp only[Option.some.injEq,Prod.mk.injEq]at h;obtain⟨rfl,rfl,rfl,rfl⟩:=h;rw[gq]at hx hy;refine⟨⟨.inl ⟨rfl,rfl⟩,hx.1,hy.1⟩,?_⟩;rw[←hg];simp[jC,bM,hx.2,hy.2]
  ·cases h
 ·rename_i x y z u
  split at h
  ·rename_i hc
   obtain⟨rfl,hx,hy,hz⟩:=hc;simp only[Option.some.injEq,Prod.mk.injEq]at h;obtain⟨rfl,rfl,rfl,rfl⟩:=h;rw[gq]at hx hy hz;refine⟨⟨.inr ⟨rfl,hz.1⟩,hx.1,hy.1⟩,?_⟩;rw[←hg];simp[jC,bM,hx.2,hy.2,hz.2]
  ·cases h
 ·cases h
def pl:List UInt8:=[48,49,50,51,52,53,54,55,56,57,97,98,99,100,101,102]
def lE (t:List UInt8):Bool:=decide (t.length=16)&&t.all (pl.contains ·)
def iV (T:List UInt8→List UInt8) (ps:List (List UInt8)):Int×Int×Int×Int×Int:=
 match ia ps.dropLast with
 |none=>(3,0,0,0,0)
 |some (a,b,c,d)=>if lE (ps.getLastD [])=true then(if ps.getLastD []=T (bM 46 ps.dropLast)then(0,a,b,c,d)else(5,0,0,0,0))else(3,0,0,0,0)
theorem Bt {L:List (List UInt8)} (h1:L.getD 0 []≠ [97]) (h2:L.getD 0 []≠ [114]):ia L.dropLast=none:=by
 rcases L with _|⟨a,_|⟨b,_|⟨c,_|⟨d,_|⟨e,_|⟨f,r⟩⟩⟩⟩⟩⟩
 all_goals first|rfl|(simp at h1 h2;simp[ia,h1,h2])
theorem Bf {L:List (List UInt8)} (h1:L.getD 0 []=[97]) (h2:L.length≠5):ia L.dropLast=none:=by
 rcases L with _|⟨a,_|⟨b,_|⟨c,_|⟨d,_|⟨e,_|⟨f,r⟩⟩⟩⟩⟩⟩
 all_goals first|rfl|(simp at h1 h2;done)|(simp at h1;simp[ia,h1])
theorem Cp {L:List (List UInt8)} (h1:L.getD 0 []=[114]) (h2:L.length≠4):ia L.dropLast=none:=by
 rcases L with _|⟨a,_|⟨b,_|⟨c,_|⟨d,_|⟨e,_|⟨f,r⟩⟩⟩⟩⟩⟩
 all_goals first|rfl|(simp at h1 h2;done)|(simp at h1;simp[ia,h1])
theorem vJ {T:List UInt8→List UInt8} {x y t:List UInt8} (hx:fa x=true) (hy:fa y=true):iV T [[114],x,y,t]=if lE t=true then(if t=T (bM 46 [[114],x,y])then(0,1,ab x,ab y,0)else(5,0,0,0,0))else(3,0,0,0,0):=by
 simp[iV,ia,hx,hy]
theorem u6 {T:List UInt8→List UInt8} {x y z t:List UInt8} (hx:fa x=true) (hy:fa y=true) (hz:fa z=true):iV T [[97],x,y,z,t]=if lE t=true then(if t=T (bM 46 [[97],x,y,z])then(0,2,ab x,ab y,ab z)else(5,0,0,0,0))else(3,0,0,0,0):=by
 simp[iV,ia,hx,hy,hz]
theorem we {t:List UInt8} (h: ¬ t.length=16): ¬ lE t=true:=by simp[lE,h]
theorem xV {t:List UInt8} (h:t.all (pl.contains ·)=false): ¬ lE t=true:=by unfold lE;rw[h];simp
theorem lG {t:List UInt8} (h1:t.length=16) (h2:t.all (pl.contains ·)=true):lE t=true:=by unfold lE;rw[h2];simp[h1]
theorem eW {T:List UInt8→List UInt8} {ps:List (List UInt8)} (h:ia ps.dropLast=none):iV T ps=(3,0,0,0,0):=by unfold iV;rw[h]
def mD (L:List an):Prop:=L.Pairwise fun a b=>a.id<b.id
def ahead (L:List an) (n:Int):Nat:=(L.takeWhile fun f=>decide (f.id<n)).length
def jw (L:List an) (n:Int):Bool:=match L[ahead L n]? with
 |some f=>decide (f.id=n)
 |none=>false
def lS (L:List an) (f:an):List an:=if jw L f.id then L.set (ahead L f.id) f else L.take (ahead L f.id)++f::L.drop (ahead L f.id)
def jN (L:List an) (n:Int):List an:=if jw L n then L.take (ahead L n)++L.drop (ahead L n+1)else L
structure St where
 clock:Int
 next:Int
 fams:List an
def am (s:St) (e:Ev):St:=
 if e.kind=1 then⟨s.clock,max s.next (e.fam.id+1),lS s.fams e.fam⟩
 else if e.kind=2 then⟨s.clock,s.next,jN s.fams e.id⟩
 else if e.kind=3 then⟨e.time,s.next,s.fams⟩
 else s
theorem lI (L:List an) (n:Int):ahead L n≤L.length:=(List.takeWhile_sublist _).length_le
theorem Co (n:Int):ahead [] n=0:=rfl
theorem na (f:an) (L:List an) (n:Int):ahead (f::L) n=if f.id<n then ahead L n+1 else 0:=by
 unfold ahead;rw[List.takeWhile_cons]
 by_cases h:f.id<n
 ·simp[h]
 ·simp[h]
theorem rP: ∀ {L:List an} {n:Int} {j:Nat},j<ahead L n→ ∃ f,L[j]?=some f∧f.id<n
 |[],n,j,h=>by simp[Co]at h
 |f::L,n,j,h=>by
  rw[na]at h;split at h
  ·rename_i hf
   cases j with
   |zero=>exact⟨f,rfl,hf⟩
   |succ j=>exact rP (L:=L) oM
  ·omega
theorem oH: ∀ {L:List an} {n:Int},mD L→ ∀ {j:Nat} {f:an},ahead L n≤j→L[j]?=some f→n≤f.id
 |[],n,_,j,f,_,h=>by simp at h
 |g::L,n,ha,j,f,hj,h=>by
  rw[na]at hj;obtain⟨h1,h2⟩:=List.pairwise_cons.1 ha;split at hj
  ·cases j with
   |zero=>omega
   |succ j=>exact oH h2 (j:=j) oM (by simpa using h)
  ·rename_i hg
   cases j with
   |zero=>
    simp at h;subst h;omega
   |succ j=>
    have hm:f∈L:=List.mem_of_getElem? (by simpa using h);have:=h1 f hm;omega
theorem Eu {L:List an} {n:Int} (ha:mD L) {k:Nat} (hk:k≤L.length) (h1: ∀ j f,j<k→L[j]?=some f→f.id<n) (h2: ∀ j f,k≤j→L[j]?=some f→n≤f.id):ahead L n=k:=by
 rcases Nat.lt_trichotomy (ahead L n) k with h|h|h
 ·obtain⟨f,hf⟩: ∃ f,L[ahead L n]?=some f:=⟨_,List.getElem?_eq_getElem oM⟩
  have a:=h1 _ f h hf;have b:=oH ha (Nat.le_refl _) hf;omega
 ·exact h
 ·obtain⟨f,hf,hlt⟩:=rP h
  have:=h2 k f (Nat.le_refl _) hf;omega
theorem lV {L:List an} {n:Int} {f:an} (h:L[ahead L n]?=some f):jw L n=decide (f.id=n):=by unfold jw;rw[h]
theorem o6 {L:List an} {n:Int} (h:ahead L n=L.length):jw L n=false:=by
 unfold jw;rw[List.getElem?_eq_none oM]
theorem l6 {L:List an} {n:Int} (h:jw L n=true):ahead L n<L.length:=by
 rcases Nat.lt_or_ge (ahead L n) L.length with h'|h'
 ·exact h'
 ·have:=lI L n
  rw[o6 oM]at h;cases h
theorem Eh (L:List an) (f:an):(lS L f).length≤L.length+1:=by
 unfold lS;split
 ·simp
 ·have:=lI L f.id
  simp;omega
theorem AT (L:List an) (n:Int):(jN L n).length≤L.length:=by
 unfold jN;split
 ·have:=lI L n
  simp;omega
 ·exact Nat.le_refl _
theorem rA {L:List an} {f g:an} (h:g∈lS L f):g=f∨g∈L:=by
 unfold lS at h;split at h
 ·rcases List.mem_or_eq_of_mem_set h with h|h
  ·exact .inr h
  ·exact .inl h
 ·rw[List.mem_append,List.mem_cons]at h
  rcases h with h|h|h
  ·exact .inr (List.mem_of_mem_take h)
  ·exact .inl h
  ·exact .inr (List.mem_of_mem_drop h)
theorem pu {L:List an} {n:Int} {g:an} (h:g∈jN L n):g∈L:=by
 unfold jN at h;split at h
 ·rcases List.mem_append.1 h with h|h
  ·exact List.mem_of_mem_take h
  ·exact List.mem_of_mem_drop h
 ·exact h
theorem im {L:List an} {n:Int} {g:an} (h:g∈L.take (ahead L n)):g.id<n:=by
 obtain⟨j,hj⟩:=List.mem_iff_getElem?.1 h;rw[List.getElem?_take]at hj;split at hj
 ·rename_i hlt
  obtain⟨f,hf,hid⟩:=rP hlt;rw[hf]at hj;cases hj;exact hid
 ·cases hj
theorem yk {L:List an} {n:Int} (ha:mD L) {g:an} (h:g∈L.drop (ahead L n)):n≤g.id:=by
 obtain⟨j,hj⟩:=List.mem_iff_getElem?.1 h;rw[List.getElem?_drop]at hj;exact oH ha (Nat.le_add_right _ _) hj
theorem mj {L:List an} {n:Int} (ha:mD L) (hb:jw L n=true) {g:an} (h:g∈L.drop (ahead L n+1)):n<g.id:=by
 have hlt:=l6 hb;have hd:=List.drop_eq_getElem_cons hlt;have hp:(L.drop (ahead L n)).Pairwise fun a b=>a.id<b.id:=ha.sublist (List.drop_sublist _ _)
 rw[hd]at hp;have h1:=(List.pairwise_cons.1 hp).1 g h;rw[lV (List.getElem?_eq_getElem hlt),decide_eq_true_eq]at hb;omega
theorem mU {L:List an} {n:Int} (ha:mD L) (hb:jw L n=false) {g:an} (h:g∈L.drop (ahead L n)):n<g.id:=by
 have h1:=yk ha h;rcases Int.lt_or_eq_of_le h1 with h2|h2
 ·exact h2
 ·exfalso
  rcases Nat.lt_or_ge (ahead L n) L.length with hlt|hge
  ·have hd:=List.drop_eq_getElem_cons hlt
   have hp:(L.drop (ahead L n)).Pairwise fun a b=>a.id<b.id:=ha.sublist (List.drop_sublist _ _)
   rw[hd]at hp h;have h3:n≤L[ahead L n].id:=oH ha (Nat.le_refl _) (List.getElem?_eq_getElem hlt);rw[lV (List.getElem?_eq_getElem hlt),decide_eq_false_iff_not]at hb;rcases List.mem_cons.1 h with rfl|h
   ·omega
   ·have:=(List.pairwise_cons.1 hp).1 g h
    omega
  ·rw[List.drop_eq_nil_of_le hge]at h
   simp at h
theorem pq {L:List an} {k:Nat} (h:k<L.length) (f:an):L.set k f=L.take k++f::L.drop (k+1):=by
 rw[List.set_eq_take_append_cons_drop,if_pos h]
theorem CA {a b:List an} {f:an} (ha:mD a) (hb:mD b) (h1: ∀ g∈a,g.id<f.id) (h2: ∀ g∈b,f.id<g.id):mD (a++f::b):=by
 refine List.pairwise_append.2 ⟨ha,List.pairwise_cons.2 ⟨h2,hb⟩,?_⟩;intro x hx y hy;have hx':=h1 x hx;rcases List.mem_cons.1 hy with rfl|hy
 ·exact hx'
 ·have:=h2 y hy
  omega
theorem zq (L:List an) (f:an): ∃ b,lS L f=L.take (ahead L f.id)++f::b∧(mD L→mD b∧ ∀ g∈b,f.id<g.id):=by
 unfold lS
 by_cases hb:jw L f.id=true
 ·rw[if_pos hb,pq (l6 hb)]
  exact⟨_,rfl,fun ha=>⟨ha.sublist (List.drop_sublist _ _),fun g hg=>mj ha hb hg⟩⟩
 ·rw[if_neg hb]
  exact⟨_,rfl,fun ha=>⟨ha.sublist (List.drop_sublist _ _),fun g hg=>mU ha (by simpa using hb) hg⟩⟩
theorem rG {L:List an} (ha:mD L) (f:an):mD (lS L f):=by
 obtain⟨b,e,h⟩:=zq L f;rw[e];exact CA (ha.sublist (List.take_sublist _ _)) (h ha).1 (fun g hg=>im hg) (h ha).2
theorem o5 {L:List an} (ha:mD L) (n:Int):mD (jN L n):=by
 unfold jN;split
 ·rename_i hb
  refine List.pairwise_append.2 ⟨ha.sublist (List.take_sublist _ _),ha.sublist (List.drop_sublist _ _),fun x hx y hy=>?_⟩;have:=im hx;have:=mj ha hb hy;omega
 ·exact ha
structure kn (s:St):Prop where
 asc:mD s.fams
 ids: ∀ f∈s.fams,ba f.id=true
 len:s.fams.length≤1000000
theorem sM (c:UInt8): ∀ ws:List (List UInt8),(bM c ws).length≤(ws.map fun w=>w.length+1).sum
 |[]=>by simp[bM]
 |[w]=>by simp[bM]
 |w::v::r=>by
  have:=sM c (v::r);rw[bM,List.length_append,List.length_cons,List.map_cons,List.sum_cons];omega
theorem zZ {l:List UInt8} (h:qF l=true):l.length≤20:=by
 unfold qF at h;rw[Bool.or_eq_true,decide_eq_true_eq]at h;rcases h with rfl|h
 ·simp
 ·exact cI h
theorem wU {l:List UInt8} {n:Nat} (h:l.length≤n) (hn:1≤n):(du l).length≤n:=by
 unfold du;split
 ·simpa using hn
 ·exact h
theorem mt {e:Ev} (h:dp e=true):(iy e).length≤180:=by
 unfold iy;refine Nat.le_trans (sM 32 _) ?_;rcases eV h with⟨hk,_,_,hf⟩|⟨hk,_,_,hn⟩|⟨hk,_,_,hn⟩
 ·obtain⟨h1,h2,h3,h4,h5,h6,h7,h8⟩:=bo hf
  have k1:=gQ h1;have k2:=gQ h2;have k3:=gQ h3;have k4:=gQ h4;have k5:=cI h5;have k6:=cI h6;have k7:=wU (zZ h7) dC;have k8:=wU (kL h8) dC;have k9:(mO e.fam.dead).length=1:=by unfold mO;split<;>rfl
  rw[vW hk];simp only[wQ,List.map_cons,List.map_nil,List.sum_cons,List.sum_nil,List.length_cons,List.length_nil];omega
 ·have:=gQ hn
  rw[yf hk];simp only[List.map_cons,List.map_nil,List.sum_cons,List.sum_nil,List.length_cons,List.length_nil];omega
 ·have:=gQ hn
  rw[t6 hk];simp only[List.map_cons,List.map_nil,List.sum_cons,List.sum_nil,List.length_cons,List.length_nil];omega
theorem uz {l:List UInt8} (h:(95:UInt8) ∉ l):nE (du l)=l:=by
 unfold du;split
 ·rename_i e
  rw[e];rfl
 ·unfold nE
  rw[if_neg];rintro rfl;simp at h
theorem zf (b:Bool):decide (mO b=[49])=b:=by cases b<;>decide
theorem EO {e:Ev} (h:dp e=true):iJ (vh e)=e:=by
 rcases eV h with⟨hk,hi,ht,hf⟩|⟨hk,hz,ht,hn⟩|⟨hk,hz,hi,hn⟩
 ·obtain⟨h1,h2,h3,h4,h5,h6,h7,h8⟩:=bo hf
  have n7:nE (du e.fam.request.data.toList)=e.fam.request.data.toList:=uz (ue h7 dC);have n8:nE (du e.fam.scope.data.toList)=e.fam.scope.data.toList:=uz (pF h8 dC dC);rw[vW hk];unfold wQ iJ;obtain⟨k,⟨a,b,c,d,g,m,u,r,de⟩,id,ti⟩:=e;dsimp only at*;subst hk hi ht;rw[n7,n8,bQ h1,bQ h2,bQ h3,bQ h4,bJ,bJ,bJ,bJ,zf]
 ·rw[yf hk]
  obtain⟨k,fam,id,ti⟩:=e;dsimp only at*;subst hk hz ht;simp only[iJ];rw[if_pos trivial,bQ hn]
 ·rw[t6 hk]
  obtain⟨k,fam,id,ti⟩:=e;dsimp only at*;subst hk hz hi;simp only[iJ];rw[if_neg dC,bQ hn]
theorem xt {e:Ev} (h:dp e=true):gK (iy e)=true∧fX (iy e)=e:=by
 have hc:iJ (parts 32 (iy e))=e:=by rw[tG h,EO h]
 have hr:gK (iy e)=true:=uk.2 (by rw[hc];exact⟨h,rfl⟩);refine⟨hr,?_⟩;unfold fX;rw[if_pos hr,hc]
theorem xJ {e:Ev} (h:e.kind=1) (s:St):am s e=⟨s.clock,max s.next (e.fam.id+1),lS s.fams e.fam⟩:=by unfold am;rw[if_pos h]
theorem Fu {e:Ev} (h:e.kind=2) (s:St):am s e=⟨s.clock,s.next,jN s.fams e.id⟩:=by unfold am;rw[if_neg oM,if_pos h]
theorem yG {s:St} (ha:mD s.fams) (e:Ev):mD (am s e).fams:=by
 unfold am;split
 ·exact rG ha _
 ·split
  ·exact o5 ha _
  ·split<;>exact ha
theorem yU {s:St} {e:Ev} (hs: ∀ f∈s.fams,ba f.id=true) (h1:e.kind=1→ba e.fam.id=true): ∀ f∈(am s e).fams,ba f.id=true:=by
 intro f;unfold am;split
 ·rename_i hk
  intro hf;rcases rA hf with rfl|hf
  ·exact h1 hk
  ·exact hs f hf
 ·split
  ·intro hf
   exact hs f (pu hf)
  ·split<;>exact hs f
theorem mS (s:St) (e:Ev):(am s e).fams.length≤s.fams.length+1:=by
 unfold am;split
 ·exact Eh _ _
 ·split
  ·have:=AT s.fams e.id
   show(jN s.fams e.id).length≤_
   omega
  ·split<;>simp
def kt (x:Int):Bool:=decide (0≤x)&&decide (x≤1099511627777)
theorem bO {x:Int}:kt x=true↔0≤x∧x≤1099511627777:=by simp[kt]
theorem o3 {x:Int} (h:kt x=true):ba x=true∨x=1099511627777:=by
 have:=bO.1 h
 by_cases hx:x≤1099511627776
 ·exact .inl (az.2 ⟨this.1,hx⟩)
 ·exact .inr oM
theorem wC {x:Int} (h:ba x=true):kt x=true:=by have:=az.1 h;exact bO.2 oM
theorem rU:Lib.itoa 1099511627777=[49,48,57,57,53,49,49,54,50,55,55,55,55]:=kR
theorem fY {x:Int} (h:kt x=true):(Lib.itoa x).length≤13:=by
 rcases o3 h with h|rfl
 ·exact gQ h
 ·rw[rU];decide
theorem fD {x:Int} (h:kt x=true) {c:UInt8} (hc: ¬ (48≤c.toNat∧c.toNat≤57)):c ∉ Lib.itoa x:=by
 rcases o3 h with h|rfl
 ·exact fU h hc
 ·rw[rU]
  intro hm;apply hc;simp only[List.mem_cons,List.not_mem_nil,or_false]at hm;rcases hm with rfl|rfl|rfl|rfl|rfl|rfl|rfl|rfl|rfl|rfl|rfl|rfl|rfl<;>decide
theorem pK {x:Int} (h:kt x=true):ab (Lib.itoa x)=x∧dL (Lib.itoa x)=true:=by
 rcases o3 h with h|rfl
 ·exact⟨bQ h,mV h⟩
 ·rw[rU]
  have:Lib.atoiAll [49,48,57,57,53,49,49,54,50,55,55,55,55]=.ok 1099511627777:=kR;unfold ab dL;rw[this];exact⟨rfl,rfl⟩
theorem Bd {x y:Int} (hx:kt x=true) (hy:kt y=true) (h:Lib.itoa x=Lib.itoa y):x=y:=by rw[←(pK hx).1,h,(pK hy).1]
def oD (s:List UInt8):List UInt8:=(s.reverse.takeWhile fun c=>c != 32).reverse
def kK (s:List UInt8):Option (List UInt8×List UInt8):=if 32∈s then some (s.take (s.length - (oD s).length - 1),oD s)else none
theorem jg {p:UInt8→Bool}: ∀ {a:List UInt8} {c:UInt8} {b:List UInt8},(∀ x∈a,p x=true)→p c=false→(a++c::b).takeWhile p=a
 |[],c,b,_,hc=>by simp[hc]
 |x::a,c,b,h,hc=>by
  rw[List.cons_append,List.takeWhile_cons,if_pos (h x (List.mem_cons_self ..)),jg (fun y hy=>h y (List.mem_cons_of_mem _ hy)) hc]
theorem xB {x t:List UInt8} (ht:32 ∉ t):oD (x++32::t)=t:=by
 unfold oD;rw[List.reverse_append,List.reverse_cons,List.append_assoc,List.singleton_append,jg,List.reverse_reverse]
 ·intro y hy
  have:y≠32:=fun e=>ht (by rw[←e];exact List.mem_reverse.1 hy)
  simpa using this
 ·simp
theorem qP {x t:List UInt8} (ht:32 ∉ t):kK (x++32::t)=some (x,t):=by
 unfold kK;rw[xB ht,if_pos (by simp)]
 congr 2
 rw[List.length_append,List.length_cons];have:x.length+(t.length+1) - t.length - 1=x.length:=by omega
 rw[this,List.take_left]
def dd (s:List UInt8):List UInt8:=s.takeWhile fun c=>c != 32
def bY (s:List UInt8):List UInt8:=(s.dropWhile fun c=>c != 32).drop 1
theorem oY {a b:List UInt8} (h:32 ∉ a):dd (a++32::b)=a∧bY (a++32::b)=b:=by
 have ha: ∀ x∈a,(x != 32)=true:=fun x hx=>by
  have:x≠32:=fun e=>h (by rw[←e];exact hx)
  simpa using this
 have h1:dd (a++32::b)=a:=jg ha (by simp);refine⟨h1,?_⟩;unfold bY;have h2:=List.takeWhile_append_dropWhile (p:=fun c:UInt8=>c != 32) (l:=a++32::b);unfold dd at h1;rw[h1]at h2;have h3:=List.append_cancel_left h2;rw[h3];rfl
structure pO (tg:Int→List UInt8→List UInt8):Prop where
 len: ∀ k l,(tg k l).length=16
 free: ∀ k l,(32:UInt8) ∉ tg k l
section
variable (tg:Int→List UInt8→List UInt8)
def kT (x:List UInt8):List UInt8:=x++32::tg 0 x
def eE (s:List UInt8):Option (List UInt8):=match kK s with
 |some (x,t)=>if t=tg 0 x then some x else none
 |none=>none
def gV (n:Int) (e:Ev):List UInt8:=kT tg (Lib.itoa n++32::iy e)
def kI (n:Int) (s:List UInt8):Option Ev:=match eE tg s with
 |some x=>if dd x=Lib.itoa n then(if gK (bY x)then some (fX (bY x))else none)else none
 |none=>none
def aW (f:an):Ev:=⟨1,f,0,0⟩
def eM (n from_:Int) (s:St) (all:List UInt8):List (List UInt8):=[Lib.itoa n,Lib.itoa from_,Lib.itoa s.clock,Lib.itoa s.next,Lib.itoa (s.fams.length:Int),tg 1 all]
def ew (L:List an):List UInt8:=L.flatMap fun f=>iy (aW f)++[10]
def gR (n from_:Int) (s:St):List UInt8:=kT tg (bM 32 (eM tg n from_ s (ew s.fams)))
def gd (w:List UInt8):Bool:=dL w&&kt (ab w)
def gY (blk:Nat→List UInt8) (at_:Nat) (s:St):Nat→Option (St×List UInt8)
 |0=>some (s,[])
 |n+1=>match gY blk at_ s n with
  |some (st,all)=>if gK (blk (at_+1+n))&&decide ((fX (blk (at_+1+n))).kind=1)then some (am st (fX (blk (at_+1+n))),all++blk (at_+1+n)++[10])else none
  |none=>none
def ay (k:Nat):Nat:=16+k % 2*21
def fh (blk:Nat→List UInt8) (k:Nat):Option (Int×Int×St):=match eE tg (blk (ay k))with
 |some x=>match parts 32 x with
  |[a,b,c,d,e,t]=>if gd a&&gd b&&gd c&&gd d&&gd e&&decide (ab e≤20)then
   (match gY blk (ay k) ⟨ab c,ab d,[]⟩ (ab e).toNat with
    |some (st,all)=>if tg 1 all=t∧ab a % 2=(k:Int)then some (ab a,ab b,st)else none
    |none=>none)else none
  |_=>none
 |none=>none
end
section
variable {tg:Int→List UInt8→List UInt8} (ht:pO tg)
include ht
theorem mm (x:List UInt8):eE tg (kT tg x)=some x:=by
 unfold eE kT;rw[qP (ht.free 0 x)];simp
theorem vd {n:Int} {e:Ev} (hn:kt n=true) (he:dp e=true):kI tg n (gV tg n e)=some e:=by
 unfold kI gV;rw[mm ht];obtain⟨h1,h2⟩:=oY (a:=Lib.itoa n) (b:=iy e) (fD hn dC);obtain⟨h3,h4⟩:=xt he;simp only[h1,h2,h3,h4,if_true]
theorem sW {n m:Int} {e:Ev} (hn:kt n=true) (hm:kt m=true) (hne:n≠m):kI tg n (gV tg m e)=none:=by
 unfold kI gV;rw[mm ht];obtain⟨h1,_⟩:=oY (a:=Lib.itoa m) (b:=iy e) (fD hm dC);simp only[h1];rw[if_neg fun h=>hne (Bd hn hm h.symm)]
end
section
variable {tg:Int→List UInt8→List UInt8}
theorem xG (n:Int):kI tg n []=none:=rfl
theorem oT {blk:Nat→List UInt8} {k:Nat} (hh:blk (ay k)=[]):fh tg blk k=none:=by
 unfold fh;rw[hh];rfl
end
theorem tI {l:List UInt8} (h:gK l=true):dp (fX l)=true:=by
 unfold fX;rw[if_pos h];exact(uk.1 h).1
structure iQ (s:St):Prop where
 asc:mD s.fams
 fams: ∀ f∈s.fams,gy f=true
 clock:ba s.clock=true
 next:kt s.next=true
 above: ∀ f∈s.fams,f.id<s.next
 len:s.fams.length≤20
theorem iQ.ok {s:St} (h:iQ s):kn s:=⟨h.asc,fun f hf=>(bo (h.fams f hf)).1,by have:=h.len;omega⟩
theorem iQ.start:iQ ⟨0,1,[]⟩:=⟨List.Pairwise.nil,fun f hf=>by simp at hf,by decide,by decide,fun f hf=>by simp at hf,Nat.zero_le _⟩
theorem jX {f:an} (h:gy f=true):dp (aW f)=true:=by unfold aW;rw[qw];exact h
theorem tF {n:Int}: ∀ L:List an,(∀ g∈L,g.id<n)→ahead L n=L.length
 |[],_=>rfl
 |g::L,h=>by rw[na,if_pos (h g (List.mem_cons_self ..)),tF L fun x hx=>h x (List.mem_cons_of_mem _ hx),List.length_cons]
theorem Fw {L:List an} {f:an} (h: ∀ g∈L,g.id<f.id):lS L f=L++[f]:=by
 have ha:ahead L f.id=L.length:=tF L h;unfold lS;rw[o6 ha,if_neg dC,ha,List.take_length,List.drop_length]
theorem iQ.apply {s:St} {e:Ev} (h:iQ s) (he:dp e=true) (hl:(am s e).fams.length≤20):iQ (am s e):=by
 rcases eV he with⟨hk,_,_,hf⟩|⟨hk,_,_,_⟩|⟨hk,_,_,hn⟩
 ·rw[xJ hk]at hl ⊢
  have hid:=az.1 (bo hf).1;have hnx:=bO.1 h.next;refine⟨rG h.asc _,fun g hg=>?_,h.clock,?_,fun g hg=>?_,hl⟩
  ·rcases rA hg with rfl|hg
   ·exact hf
   ·exact h.fams g hg
  ·rw[bO]
   show 0≤max s.next (e.fam.id+1)∧max s.next (e.fam.id+1)≤_
   omega
  ·show g.id<max s.next (e.fam.id+1)
   rcases rA hg with rfl|hg
   ·omega
   ·have:=h.above g hg
    omega
 ·rw[Fu hk]at hl ⊢
  exact⟨o5 h.asc _,fun g hg=>h.fams g (pu hg),h.clock,h.next,fun g hg=>h.above g (pu hg),hl⟩
 ·have e3:am s e=⟨e.time,s.next,s.fams⟩:=by unfold am;rw[if_neg oM,if_neg oM,if_pos hk]
  rw[e3];exact⟨h.asc,h.fams,hn,h.next,h.above,h.len⟩
theorem uF (L:List an) (f:an):ew (L++[f])=ew L++iy (aW f)++[10]:=by
 unfold ew;rw[List.flatMap_append];simp
theorem pS {blk:Nat→List UInt8} {at_:Nat} {s:St} (h:iQ s) (hb: ∀ i f,s.fams[i]?=some f→blk (at_+1+i)=iy (aW f)): ∀ n,n≤s.fams.length→gY blk at_ ⟨s.clock,s.next,[]⟩ n=some (⟨s.clock,s.next,s.fams.take n⟩,ew (s.fams.take n))
 |0,_=>by simp[gY,ew]
 |n+1,hn=>by
  have hlt:n<s.fams.length:=by omega
  have hf:=List.getElem?_eq_getElem hlt;have hfm:=List.getElem_mem hlt;have hfB:=h.fams _ hfm;obtain⟨h1,h2⟩:=xt (jX hfB);have hkd:(aW s.fams[n]).kind=1:=rfl;rw[gY,pS h hb n oM,hb n _ hf];dsimp only;rw[h1,h2,hkd];simp only[decide_true,Bool.and_self,if_true,Option.some.injEq,Prod.mk.injEq];have htk:s.fams.take (n+1)=s.fams.take n++[s.fams[n]]:=by rw[List.take_add_one,hf];rfl
  rw[htk];refine⟨?_,(uF _ _).symm⟩
  have hbelow: ∀ g∈s.fams.take n,g.id<s.fams[n].id:=by
   intro g hg;obtain⟨j,hj⟩:=List.mem_iff_getElem?.1 hg;rw[List.getElem?_take]at hj;split at hj
   ·rename_i hjn
    have hjl:j<s.fams.length:=by omega
    rw[List.getElem?_eq_getElem hjl]at hj;obtain rfl:=Option.some.inj hj;exact List.pairwise_iff_getElem.1 h.asc j n hjl hlt hjn
   ·cases hj
  rw[xJ (show(aW s.fams[n]).kind=1 from rfl)];dsimp only[aW];rw[Fw hbelow];have:=h.above _ hfm
  congr 1
  omega
section
variable {tg:Int→List UInt8→List UInt8} (ht:pO tg)
include ht
theorem rh {n f:Int} {s:St} (hn:kt n=true) (hf:kt f=true) (h:iQ s) (all:List UInt8): ∀ w∈eM tg n f s all,(32:UInt8) ∉ w:=by
 intro w hw;have hl:=h.len;simp only[eM,List.mem_cons,List.not_mem_nil,or_false]at hw;rcases hw with rfl|rfl|rfl|rfl|rfl|rfl
 ·exact fD hn dC
 ·exact fD hf dC
 ·exact fD (wC h.clock) dC
 ·exact fD h.next dC
 ·exact fD (bO.2 oM) dC
 ·exact ht.free 1 all
theorem qZ {blk:Nat→List UInt8} {k:Nat} {n f:Int} {s:St} (h:iQ s) (hn:kt n=true) (hf:kt f=true) (hk:n % 2=(k:Int)) (hh:blk (ay k)=gR tg n f s) (hb: ∀ i g,s.fams[i]?=some g→blk (ay k+1+i)=iy (aW g)):
  fh tg blk k=some (n,f,s):=by
 have hl:=h.len;have hlen:kt (s.fams.length:Int)=true:=bO.2 oM;have hw:=rh ht hn hf h (ew s.fams);have hp:parts 32 (bM 32 (eM tg n f s (ew s.fams)))=eM tg n f s (ew s.fams):=fI 32 _ (by simp[eM]) hw;unfold fh;rw[hh];unfold gR;rw[mm ht];dsimp only;rw[hp];unfold eM;dsimp only;obtain⟨a1,a2⟩:=pK hn;obtain⟨b1,b2⟩:=pK hf;obtain⟨c1,c2⟩:=pK (wC h.clock);obtain⟨d1,d2⟩:=pK h.next;obtain⟨e1,e2⟩:=pK hlen;have g1:gd (Lib.itoa n)=true:=by unfold gd;rw[a1,a2,hn];rfl
 have g2:gd (Lib.itoa f)=true:=by unfold gd;rw[b1,b2,hf];rfl
 have g3:gd (Lib.itoa s.clock)=true:=by unfold gd;rw[c1,c2,wC h.clock];rfl
 have g4:gd (Lib.itoa s.next)=true:=by unfold gd;rw[d1,d2,h.next];rfl
 have g5:gd (Lib.itoa (s.fams.length:Int))=true:=by unfold gd;rw[e1,e2,hlen];rfl
 rw[g1,g2,g3,g4,g5,a1,b1,c1,d1,e1];have hle:decide ((s.fams.length:Int)≤20)=true:=by rw[decide_eq_true_eq];omega
 rw[hle];simp only[Bool.and_self,if_true,Int.toNat_natCast];rw[pS h hb _ (Nat.le_refl _),List.take_length];simp[hk]
theorem xz {blk:Nat→List UInt8} {k:Nat} {n f m g:Int} {s st:St} (h:iQ s) (hn:kt n=true) (hf:kt f=true) (hh:blk (ay k)=gR tg n f s) (hl:fh tg blk k=some (m,g,st)):m=n:=by
 have hw:=rh ht hn hf h (ew s.fams);have hp:parts 32 (bM 32 (eM tg n f s (ew s.fams)))=eM tg n f s (ew s.fams):=fI 32 _ (by simp[eM]) hw;unfold fh at hl;rw[hh]at hl;unfold gR at hl;rw[mm ht]at hl;dsimp only at hl;rw[hp]at hl;unfold eM at hl;dsimp only at hl;split at hl
 ·split at hl
  ·split at hl
   ·obtain⟨h1,_⟩:=Prod.mk.inj (Option.some.inj hl)
    rw[←h1,(pK hn).1]
   ·cases hl
  ·cases hl
 ·cases hl
end
def A7 (blk:Nat→List UInt8) (k:Nat) (x:List UInt8):Nat→List UInt8:=fun j=>if j=k then x else blk j
theorem oG (blk:Nat→List UInt8) (k:Nat) (x:List UInt8):A7 blk k x k=x:=by simp[A7]
theorem eX (blk:Nat→List UInt8) {k j:Nat} (x:List UInt8) (h:j≠k):A7 blk k x j=blk j:=by simp[A7,h]
def jf:St:=⟨0,1,[]⟩
section
variable (tg:Int→List UInt8→List UInt8)
def fs (a:Int×Int×St):Option (Int×Int×St)→Int×Int×St
 |some b=>if b.1>a.1 then b else a
 |none=>a
theorem iA (a b:Int×Int×St):fs a (some b)=if b.1>a.1 then b else a:=rfl
def tM (blk:Nat→List UInt8):Int×Int×St:=fs (fs (0,0,jf) (fh tg blk 0)) (fh tg blk 1)
def mW (blk:Nat→List UInt8) (from_ n:Int):Option Ev:=if n - from_≥16 then none else kI tg n (blk (n % 16).toNat)
def oE (blk:Nat→List UInt8) (from_:Int):Nat→Int→St→St×Int
 |0,n,s=>(s,n)
 |fuel+1,n,s=>match mW tg blk from_ n with
  |some e=>oE blk from_ fuel (n+1) (am s e)
  |none=>(s,n)
structure dJ (blk:Nat→List UInt8) (n f x:Int) (s0:St) (es:List Ev):Prop where
 fit:iQ s0
 n0:0≤n
 n1:n≤1000000
 f0:0≤f
 x1:x≤1000000
 xe:x=f+es.length
 len:es.length≤16
 evs: ∀ e∈es,dp e=true
 log: ∀ (i:Nat) e,es[i]?=some e→blk ((f+i) % 16).toNat=gV tg (f+i) e
 old: ∀ j:Nat,j<16→blk j=[]∨ ∃ (m:Int) (e:Ev),0≤m∧m<x∧m % 16=(j:Int)∧blk j=gV tg m e
 none_:n=0→s0=jf∧f=0∧blk (ay 0)=[]
 here:0<n→blk (ay (n % 2).toNat)=gR tg n f s0∧ ∀ i g,s0.fams[i]?=some g→blk (ay (n % 2).toNat+1+i)=iy (aW g)
 other:blk (ay ((n+1) % 2).toNat)=[]∨ ∃ (m g:Int) (s:St),iQ s∧kt m=true∧kt g=true∧m<n∧blk (ay ((n+1) % 2).toNat)=gR tg m g s
end
theorem IX:ay 0=16:=rfl
theorem BG (tg:Int→List UInt8→List UInt8):dJ tg (fun _=>[]) 0 0 0 jf []:=
 ⟨iQ.start,Int.le_refl _,by decide,Int.le_refl _,by decide,rfl,Nat.zero_le _,fun e he=>by simp at he,fun i e he=>by simp at he,fun _ _=>.inl rfl,fun _=>⟨rfl,rfl,rfl⟩,fun h=>absurd h dC,.inl rfl⟩
section
variable {tg:Int→List UInt8→List UInt8} {blk:Nat→List UInt8} {n f x:Int} {s0:St} {es:List Ev}
theorem dJ.okn (h:dJ tg blk n f x s0 es):kt n=true:=by have:=h.n0;have:=h.n1;exact bO.2 oM
theorem dJ.okx (h:dJ tg blk n f x s0 es) {m:Int} (h0:0≤m) (h1:m≤x):kt m=true:=by have:=h.x1;exact bO.2 oM
theorem dJ.okf (h:dJ tg blk n f x s0 es):kt f=true:=h.okx h.f0 (by have:=h.xe;omega)
theorem dJ.pick (ht:pO tg) (h:dJ tg blk n f x s0 es):tM tg blk=(n,f,s0):=by
 have hn0:=h.n0;rcases Int.lt_or_eq_of_le hn0 with hn|hn
 ·obtain⟨hh,hb⟩:=h.here hn
  have hm:n % 2=0∨n % 2=1:=by omega
  have hother: ∀ k:Nat,k=((n+1) % 2).toNat→ ∀ b,fh tg blk k=some b→b.1<n:=by
   rintro k rfl ⟨m,g,st⟩ hb;rcases h.other with e|⟨m',g',s',hf,hm',hg',hlt,e⟩
   ·rw[oT e]at hb
    cases hb
   ·have:=xz ht hf hm' hg' e hb
    show m<n
    omega
  rcases hm with hm|hm
  ·rw[hm]at hh hb
   have h1:=qZ ht h.fit h.okn h.okf (k:=0) oM hh hb;unfold tM;rw[h1];have h2:fs (0,0,jf) (some (n,f,s0))=(n,f,s0):=by rw[iA,if_pos (by show n>0;omega)]
   rw[h2];rcases e:fh tg blk 1 with _|b
   ·rfl
   ·have:=hother 1 oM b e
    rw[iA,if_neg (by show ¬ b.1>n;omega)]
  ·rw[hm]at hh hb
   have h1:=qZ ht h.fit h.okn h.okf (k:=1) oM hh hb;unfold tM;rw[h1];rcases e:fh tg blk 0 with _|b
   ·show fs (0,0,jf) (some (n,f,s0))=_
    rw[iA,if_pos (by show n>0;omega)]
   ·have hbn:=hother 0 oM b e
    have h3:(fs (0,0,jf) (some b)).1<n:=by
     rw[iA];split
     ·exact hbn
     ·show(0:Int)<n
      omega
    generalize fs (0,0,jf) (some b)=c at*
    show fs c (some (n,f,s0))=_
    rw[iA,if_pos (by show n>c.1;omega)]
 ·obtain⟨hs,hf,h0⟩:=h.none_ hn.symm
  have h1:blk (ay 1)=[]:=by
   have ho:=h.other;rw[←hn]at ho;rcases ho with e|⟨m,g,s,_,hm,_,hlt,_⟩
   ·exact e
   ·have:=bO.1 hm
    omega
  unfold tM;rw[oT h0,oT h1,←hn,hs,hf];rfl
theorem dJ.event (ht:pO tg) (h:dJ tg blk n f x s0 es) {i:Nat} {e:Ev} (he:es[i]?=some e):mW tg blk f (f+i)=some e:=by
 have hl:=(List.getElem?_eq_some_iff.1 he).1;have hlen:=h.len;have hf:=h.f0;have hx:=h.xe;unfold mW;rw[if_neg oM,h.log i e he];exact vd ht (h.okx oM oM) (h.evs e (List.mem_of_getElem? he))
theorem dJ.stop (ht:pO tg) (h:dJ tg blk n f x s0 es):mW tg blk f x=none:=by
 unfold mW;split
 ·rfl
 ·have hf:=h.f0
  have hx:=h.xe;have hj:(x % 16).toNat<16:=by omega
  rcases h.old _ hj with e|⟨m,e,h0,h1,h2,h3⟩
  ·rw[e]
   exact xG x
  ·rw[h3]
   exact sW ht (h.okx oM (Int.le_refl _)) (h.okx h0 oM) oM
theorem dJ.replay (ht:pO tg) (h:dJ tg blk n f x s0 es): ∀ (k fuel i:Nat) (s:St),i+k=es.length→k<fuel→oE tg blk f fuel (f+i) s=((es.drop i).foldl am s,x)
 |0,0,_,_,_,hk=>absurd hk (Nat.not_lt_zero _)
 |0,fuel+1,i,s,hi,_=>by
  have e:f+(i:Int)=x:=by have:=h.xe;omega
  rw[e,oE,h.stop ht,List.drop_of_length_le oM];rfl
 |k+1,0,_,_,_,hk=>absurd hk (Nat.not_lt_zero _)
 |k+1,fuel+1,i,s,hi,hk=>by
  have hlt:i<es.length:=by omega
  have he:=List.getElem?_eq_getElem hlt;rw[oE,h.event ht he];dsimp only;have e:f+(i:Int)+1=f+((i+1:Nat):Int):=by omega
  rw[e,h.replay ht k fuel (i+1) _ oM oM,List.drop_eq_getElem_cons hlt,List.foldl_cons]
theorem dJ.opened (ht:pO tg) (h:dJ tg blk n f x s0 es):tM tg blk=(n,f,s0)∧oE tg blk f 17 f s0=(es.foldl am s0,x):=by
 refine⟨h.pick ht,?_⟩;have:=h.replay ht es.length 17 0 s0 oM (by have:=h.len;omega);simpa using this
theorem rK {n:Int} (_:0≤n):ay (n % 2).toNat≠ay ((n+1) % 2).toNat∧16≤ay (n % 2).toNat∧16≤ay ((n+1) % 2).toNat∧(ay (n % 2).toNat+21≤ay ((n+1) % 2).toNat∨ay ((n+1) % 2).toNat+21≤ay (n % 2).toNat):=by
 have:n % 2=0∧(n+1) % 2=1∨n % 2=1∧(n+1) % 2=0:=by omega
 rcases this with⟨a,b⟩|⟨a,b⟩
 ·rw[a,b];decide
 ·rw[a,b];decide
theorem dJ.add (h:dJ tg blk n f x s0 es) {e:Ev} (he:dp e=true) (hl:es.length<16) (hx:x<1000000):dJ tg (A7 blk (x % 16).toNat (gV tg x e)) n f (x+1) s0 (es++[e]):=by
 have hf:=h.f0;have hxe:=h.xe;have hj:(x % 16).toNat<16:=by omega
 obtain⟨h1,h2,h3,h4⟩:=rK h.n0;refine⟨h.fit,h.n0,h.n1,hf,by omega,by rw[List.length_append,List.length_singleton];omega,by rw[List.length_append,List.length_singleton];omega,fun g hg=>?_,fun i g hg=>?_,fun j hj'=>?_,fun h0=>?_,fun h0=>?_,?_⟩
 ·rw[List.mem_append,List.mem_singleton]at hg
  rcases hg with hg|rfl
  ·exact h.evs g hg
  ·exact he
 ·by_cases hi:i<es.length
  ·rw[List.getElem?_append_left hi]at hg
   rw[eX _ _ oM];exact h.log i g hg
  ·have hil:=(List.getElem?_eq_some_iff.1 hg).1
   rw[List.length_append,List.length_singleton]at hil;have hie:i=es.length:=by omega
   subst hie;rw[List.getElem?_append_right (Nat.le_refl _),Nat.sub_self]at hg;simp at hg;subst hg;rw[←hxe,oG]
 ·by_cases hje:j=(x % 16).toNat
  ·subst hje
   rw[oG];exact .inr ⟨x,e,by omega,by omega,by omega,rfl⟩
  ·rw[eX _ _ hje]
   rcases h.old j hj' with e'|⟨m,g,a,b,c,d⟩
   ·exact .inl e'
   ·exact .inr ⟨m,g,a,by omega,c,d⟩
 ·rw[eX _ _ (by rw[IX];omega)]
  exact h.none_ h0
 ·obtain⟨a,b⟩:=h.here h0
  refine⟨by rw[eX _ _ oM];exact a,fun i g hg=>by rw[eX _ _ oM];exact b i g hg⟩
 ·rw[eX _ _ oM]
  exact h.other
theorem dJ.part (h:dJ tg blk n f x s0 es) {blk':Nat→List UInt8} (hp: ∀ j,(j≤ay ((n+1) % 2).toNat∨ay ((n+1) % 2).toNat+21≤j)→blk' j=blk j):dJ tg blk' n f x s0 es:=by
 obtain⟨h1,h2,h3,h4⟩:=rK h.n0;have hlen:=h.fit.len;refine⟨h.fit,h.n0,h.n1,h.f0,h.x1,h.xe,h.len,h.evs,fun i g hg=>?_,fun j hj=>?_,fun h0=>?_,fun h0=>?_,?_⟩
 ·rw[hp _ oM]
  exact h.log i g hg
 ·rw[hp _ oM]
  exact h.old j hj
 ·rw[hp _ (by subst h0;exact .inl dC)]
  exact h.none_ h0
 ·obtain⟨a,b⟩:=h.here h0
  refine⟨by rw[hp _ oM];exact a,fun i g hg=>?_⟩;have:=(List.getElem?_eq_some_iff.1 hg).1;rw[hp _ oM];exact b i g hg
 ·rw[hp _ (.inl (Nat.le_refl _))]
  exact h.other
theorem dJ.saved (h:dJ tg blk n f x s0 es) (hfit:iQ (es.foldl am s0)) (hn:n<1000000) {blk':Nat→List UInt8} (hlow: ∀ j,(j<ay ((n+1) % 2).toNat∨ay ((n+1) % 2).toNat+21≤j)→blk' j=blk j)
  (hh:blk' (ay ((n+1) % 2).toNat)=gR tg (n+1) x (es.foldl am s0)) (hb: ∀ i g,(es.foldl am s0).fams[i]?=some g→blk' (ay ((n+1) % 2).toNat+1+i)=iy (aW g)):
  dJ tg blk' (n+1) x x (es.foldl am s0) []:=by
 obtain⟨h1,h2,h3,h4⟩:=rK h.n0;have hn0:=h.n0;have hf:=h.f0;have hxe:=h.xe;refine⟨hfit,by omega,by omega,by omega,h.x1,by simp,Nat.zero_le _,fun e he=>by simp at he,fun i e he=>by simp at he,fun j hj=>?_,fun h0=>by omega,fun _=>⟨hh,hb⟩,?_⟩
 ·rw[hlow _ oM]
  exact h.old j hj
 ·have e2:((n+1+1) % 2).toNat=(n % 2).toNat:=by omega
  rw[e2,hlow _ oM];rcases Int.lt_or_eq_of_le hn0 with hp|hp
  ·exact .inr ⟨n,f,s0,h.fit,h.okn,h.okf,by omega,(h.here hp).1⟩
  ·subst hp
   exact .inl (h.none_ rfl).2.2
end
def jh (at_:Nat):Nat→List an→List (Nat×List UInt8)
 |_,[]=>[]
 |i,f::r=>(at_+1+i,iy (aW f))::jh at_ (i+1) r
def gZ (blk:Nat→List UInt8) (ws:List (Nat×List UInt8)):Nat→List UInt8:=ws.foldl (fun b w=>A7 b w.1 w.2) blk
theorem lK (blk:Nat→List UInt8) (w:Nat×List UInt8) (ws:List (Nat×List UInt8)):gZ blk (w::ws)=gZ (A7 blk w.1 w.2) ws:=rfl
theorem vN (blk:Nat→List UInt8) (ws:List (Nat×List UInt8)) (w:Nat×List UInt8):gZ blk (ws++[w])=A7 (gZ blk ws) w.1 w.2:=by
 unfold gZ;rw[List.foldl_append];rfl
theorem kJ (at_ j:Nat): ∀ (L:List an) (i:Nat) (blk:Nat→List UInt8),(j<at_+1+i∨at_+1+i+L.length≤j)→gZ blk (jh at_ i L) j=blk j
 |[],_,_,_=>rfl
 |f::r,i,blk,h=>by
  rw[List.length_cons]at h;rw[jh,lK,kJ at_ j r (i+1) _ oM];exact eX _ _ oM
theorem tU (at_:Nat): ∀ (L:List an) (i k:Nat) (f:an) (blk:Nat→List UInt8),L[k]?=some f→gZ blk (jh at_ i L) (at_+1+(i+k))=iy (aW f)
 |[],_,_,_,_,h=>by simp at h
 |g::r,i,0,f,blk,h=>by
  simp at h;subst h;rw[jh,lK,kJ at_ _ r (i+1) _ oM,Nat.add_zero];exact oG _ _ _
 |g::r,i,k+1,f,blk,h=>by
  rw[jh,lK];have:=tU at_ r (i+1) k f (A7 blk (at_+1+i) (iy (aW g))) (by simpa using h);rw[show i+1+k=i+(k+1) by omega]at this;exact this
theorem o1 (at_:Nat): ∀ (m i:Nat) (L:List an),(jh at_ i L).take m=jh at_ i (L.take m)
 |0,_,_=>by simp[jh]
 |m+1,_,[]=>by simp[jh]
 |m+1,i,f::r=>by rw[jh,List.take_succ_cons,o1 at_ m (i+1) r,List.take_succ_cons,jh]
theorem wZ (at_:Nat): ∀ (L:List an) (i k:Nat) (f:an),L[k]?=some f→(jh at_ i L)[k]?=some (at_+1+(i+k),iy (aW f))
 |[],_,_,_,h=>by simp at h
 |g::r,i,0,f,h=>by
  simp at h;subst h;simp[jh]
 |g::r,i,k+1,f,h=>by
  have:=wZ at_ r (i+1) k f (by simpa using h);rw[jh,List.getElem?_cons_succ,this,show i+1+k=i+(k+1) by omega]
theorem AO (at_:Nat) (L:List an) (m:Nat) (f:an) (h:L[m]?=some f) (blk:Nat→List UInt8):gZ blk (jh at_ 0 (L.take (m+1)))=A7 (gZ blk (jh at_ 0 (L.take m))) (at_+1+m) (iy (aW f)):=by
 have h1:jh at_ 0 (L.take (m+1))=jh at_ 0 (L.take m)++[(at_+1+m,iy (aW f))]:=by
  rw[←o1,←o1,List.take_add_one,wZ at_ L 0 m f h,Nat.zero_add];rfl
 rw[h1,vN]
section
variable {tg:Int→List UInt8→List UInt8} {blk:Nat→List UInt8} {n f x:Int} {s0:St} {es:List Ev}
theorem dJ.cut (h:dJ tg blk n f x s0 es) (L:List an) (hl:L.length≤20):dJ tg (gZ blk (jh (ay ((n+1) % 2).toNat) 0 L)) n f x s0 es:=
 h.part fun j hj=>kJ _ j L 0 blk oM
theorem dJ.whole (h:dJ tg blk n f x s0 es) (hfit:iQ (es.foldl am s0)) (hn:n<1000000):
  dJ tg (A7 (gZ blk (jh (ay ((n+1) % 2).toNat) 0 (es.foldl am s0).fams)) (ay ((n+1) % 2).toNat) (gR tg (n+1) x (es.foldl am s0))) (n+1) x x (es.foldl am s0) []:=by
 have hl:=hfit.len;refine h.saved hfit hn (fun j hj=>?_) (oG _ _ _) (fun i g hg=>?_)
 ·rw[eX _ _ oM]
  exact kJ _ j _ 0 blk oM
 ·have:=tU (ay ((n+1) % 2).toNat) (es.foldl am s0).fams 0 i g blk hg
  rw[Nat.zero_add]at this;rw[eX _ _ oM];exact this
end
def bV (n:Int):Value:=if n=0 then .nilIface else .iface 57 (.int .i64 n)
open Go.RowKit Go.Sort
theorem lq (c:UInt8) {B:Nat} {v:Value} {L:List (List UInt8)} {w:World} (h:gi w B v L) (hL:L.length≤1000000) (hlen:(bM c L).length≤1000000):
  Calls prog 50 #[v,.string ⟨#[c]⟩] w fun e w'=>e=.returned (.string (ah (bM c L)))∧Below w.heap.size w w':=by
 obtain⟨g,cap,rfl,hg,hlt,hn,hm,hH⟩:=h.parts
 have hd:(L.map ah).map (·.data.toList)=L:=by
  rw[List.map_map];exact(List.map_congr_left fun x _=>ak x).trans (List.map_id L)
 have hj:Lib.join ((L.map ah).map (·.data.toList)) (⟨#[c]⟩:ByteArray).data.toList=bM c L:=by rw[hd];exact uG c L
 have:=Tryz.strings_Join g 0 cap (L.map ah) ⟨#[c]⟩ w (fun j x hx=>by
  rw[List.getElem?_map]at hx;rcases e:L[j]? with _|y
  ·rw[e]at hx;cases hx
  ·rw[e]at hx
   have hj:=(List.getElem?_eq_some_iff.1 e).1;have hc:=(hH j (by simpa using hj)).1;rw[hc];simp at hx;subst hx;simp[encStr,ah,List.getElem!_eq_getElem?_getD,e]) hlt (by rw[List.length_map];omega) (by rw[List.length_map];omega) (by rw[hj];omega)
 rw[List.length_map,hj]at this;exact this
def dW (l:List UInt8):Bool:=decide (8<l.length)
def cM (w:World) (B:Nat) (v:Value) (L:List (List UInt8)):Prop:=(v=.slice none 0 0∧L=[])∨gi w B v L
theorem iB {s:List UInt8} (h0:s≠ []) (h:(parts 43 s).all oN=false):aw s=3:=by
 unfold aw;rw[if_neg h0,h];rfl
theorem iU {s:List UInt8} (h0:s≠ []) (h:(parts 43 s).all oN=true) (h2:5<(j1 (parts 43 s)).length∨(j1 (parts 43 s)).any dW=true):aw s=4:=by
 unfold aw;rw[if_neg h0,if_pos h,if_neg];rintro⟨h3,h4⟩;rcases h2 with h2|h2
 ·omega
 ·obtain⟨x,hx,hl⟩:=List.any_eq_true.1 h2
  have:=List.all_eq_true.1 h4 x hx;simp[dW]at hl this;omega
theorem pJ {s:List UInt8} (h0:s≠ []) (h:(parts 43 s).all oN=true) (h2: ¬ 5<(j1 (parts 43 s)).length) (h3:(j1 (parts 43 s)).any dW=false):aw s=0∧aK s=j1 (parts 43 s):=by
 have h1:aw s=0:=by
  unfold aw;rw[if_neg h0,if_pos h,if_pos];refine⟨by omega,?_⟩;rw[List.all_eq_true];intro x hx;have:=List.any_eq_false.1 h3 x hx;simp[dW]at this;simpa using this
 exact⟨h1,by unfold aK;rw[if_neg h0,if_pos h1]⟩
theorem dv {s:List UInt8} (h:aw s≠0):aK s=[]:=by
 unfold aK;split
 ·rfl
 ·first|rfl|rw[if_neg h]
theorem C9 {B:Nat} {v:Value} {L:List (List UInt8)} {w W:World} (h:gi w B v L) (hB:Below B W w) (hs:B≤w.heap.size) (hL:L.length≤1000000):
  Calls prog 197 #[v] w fun e w'=>e=.returned (.tuple #[])∧gi w' B v (L.mergeSort oU)∧Below B W w':=by
 obtain⟨g,cap,rfl,hg,hlt,hn,hm,hH⟩:=h.parts;refine(Tryz.slices_Sort_string g 0 cap L w hH hlt oM).mono ?_;rintro e w' ⟨rfl,n,os,rfl⟩;refine⟨rfl,h.sorted (List.length_mergeSort L),?_⟩;exact hB.grown (grownBy_sorted _) hs (fun j hj=>by cases hj;exact hg)
theorem wI {B:Nat} {v:Value} {L:List (List UInt8)} {w W:World} (h:gi w B v L) (hB:Below B W w) (hs:B≤w.heap.size) (hL:L.length≤1000000):
  Calls prog 144 #[v] w fun e w'=>e=.returned (.tuple #[])∧gi w' B v (L.mergeSort oU)∧Below B W w':=by
 obtain⟨g,cap,rfl,hg,hlt,hn,hm,hH⟩:=h.parts;refine(Tryz.sort_Strings g 0 cap L w hH hlt oM).mono ?_;rintro e w' ⟨rfl,n,os,rfl⟩;refine⟨rfl,h.sorted (List.length_mergeSort L),?_⟩;exact hB.grown (grownBy_sorted _) hs (fun j hj=>by cases hj;exact hg)
def bH (w:World):Prop:=Lib.TabIs prog w "internal/strconv.uint64pow10" .u64 Lib.pow10Tab
theorem uP:prog.globalNamed "internal/strconv.uint64pow10"=some 7:=kR
theorem bH.below {B:Nat} {w w':World} (h:bH w) (hb:Below B w w') (hB:7<B):bH w':=by
 unfold bH Lib.TabIs at*;unfold World.var? at*;simp only[uP,Option.bind_some]at h ⊢;rw[hb.block _ hB];exact h
theorem bH.lt {w:World} (h:bH w):7<w.heap.size:=by
 have h1:=Lib.TabIs.cell h uP 0 dC;rcases Nat.lt_or_ge 7 w.heap.size with h'|h'
 ·exact h'
 ·simp[World.cell?,Array.getElem?_eq_none h']at h1
theorem jE (w:World) (k:Nat) (os:Array Obj):Below w.heap.size w (grow (w.drewN k) os):=by
 refine⟨rfl,rfl,rfl,?_,fun i hi=>?_⟩
 ·show w.heap.size≤(w.heap++os).size
  simp
 ·show(w.heap++os)[i]?=w.heap[i]?
  rw[Array.getElem?_append_left hi]
def aL (x:Int):ByteArray:=⟨(Lib.itoa x).toArray⟩
theorem cY (x:Int) (hx:ba x=true):(aL x).size≤21:=by
 have h:0≤x∧x≤1099511627776:=by simpa[ba]using hx
 show(Lib.itoa x).toArray.size≤21
 rw[List.size_toArray];exact Lib.itoa_length_le x oM oM
theorem hU (x:Int) (hx:ba x=true) (w:World) (hT:bH w):
  Calls prog 26 #[.int .i64 x] w fun e w'=>e=.returned (.string (aL x))∧Below w.heap.size w w':=by
 have h:0≤x∧x≤1099511627776:=by simpa[ba]using hx
 refine(Tryz.strconv_Itoa x oM oM w hT).mono ?_;rintro e w' ⟨rfl,k,os,rfl⟩;exact⟨rfl,jE w k os⟩
theorem mh {W w w':World} {x y z:Value} (h1:w.cell? ⟨W.heap.size,1,none⟩=some x) (h2:w.cell? ⟨W.heap.size,2,none⟩=some y) (h3:w.cell? ⟨W.heap.size,3,none⟩=some z)
  (hT:bH w) (hB:Below W.heap.size W w) (hb:Below w.heap.size w w'):
  w'.cell? ⟨W.heap.size,1,none⟩=some x∧w'.cell? ⟨W.heap.size,2,none⟩=some y∧w'.cell? ⟨W.heap.size,3,none⟩=some z∧bH w'∧Below W.heap.size W w':=by
 have hlt:W.heap.size<w.heap.size:=World.block_lt_of_cell? w _ h1;refine⟨?_,?_,?_,hT.below hb hT.lt,hB.trans (hb.mono hB.size)⟩
 ·rw[hb.cell (p:=⟨W.heap.size,1,none⟩) hlt];exact h1
 ·rw[hb.cell (p:=⟨W.heap.size,2,none⟩) hlt];exact h2
 ·rw[hb.cell (p:=⟨W.heap.size,3,none⟩) hlt];exact h3
def bf (w:World):Prop:=(∃ tp p,w.cell? ⟨5,0,none⟩=some (.iface tp p))∧(∃ tp p,w.cell? ⟨6,0,none⟩=some (.iface tp p))
theorem bf.lt {w:World} (h:bf w):5<w.heap.size∧6<w.heap.size:=by
 obtain⟨⟨_,_,h1⟩,_,_,h2⟩:=h;exact⟨World.block_lt_of_cell? w _ h1,World.block_lt_of_cell? w _ h2⟩
theorem bf.below {B:Nat} {w w':World} (h:bf w) (hb:Below B w w') (h1:5<B) (h2:6<B):bf w':=by
 obtain⟨⟨a,b,e1⟩,c,d,e2⟩:=h;exact⟨⟨a,b,(hb.cell (p:=⟨5,0,none⟩) h1).trans e1⟩,c,d,(hb.cell (p:=⟨6,0,none⟩) h2).trans e2⟩
theorem bf.below' {w w':World} (h:bf w) (hb:Below w.heap.size w w'):bf w':=h.below hb h.lt.1 h.lt.2
theorem j3 (s:ByteArray) (w:World) (hs:s.size≤1000000) (h:dL s.data.toList=true):
  Calls prog 51 #[.string s] w fun e w'=>e=.returned (.tuple #[.int .i64 (ab s.data.toList),.nilIface])∧Below w.heap.size w w':=by
 unfold dL at h;unfold ab;rcases ha:Lib.atoiAll s.data.toList with v|_|_
 ·refine(Tryz.strconv_Atoi_ok s oM v ha w).mono ?_
  rintro e w' ⟨rfl,hw⟩;refine⟨rfl,?_⟩;rcases hw with rfl|⟨t,rfl⟩
  ·exact Below.refl _ _
  ·exact Lib.bytesWorld_below w _ t
 ·rw[ha]at h;cases h
 ·rw[ha]at h;cases h
def Db (n:Int) (e:Ending):Prop:= ∃ te pe,e=.returned (.tuple #[.int .i64 n,.iface te pe])
theorem nW (s:ByteArray) (w:World) (hs:s.size≤1000000) (hv:bf w) (h:dL s.data.toList=false):
  Calls prog 51 #[.string s] w fun e w'=>Db (ab s.data.toList) e∧Below w.heap.size w w':=by
 unfold dL at h;unfold ab;obtain⟨⟨t1,p1,h1⟩,t2,p2,h2⟩:=hv;rcases ha:Lib.atoiAll s.data.toList with v|_|_
 ·rw[ha]at h;cases h
 ·refine(Tryz.strconv_Atoi_syntax s oM ha _ w h1 (.inr ⟨_,_,rfl⟩)).mono ?_
  rintro e w' ⟨N,rfl,_,_,hb⟩;exact⟨⟨_,_,rfl⟩,hb⟩
 ·refine(Tryz.strconv_Atoi_range s oM ha _ w h2 (.inr ⟨_,_,rfl⟩)).mono ?_
  rintro e w' ⟨N,rfl,_,_,hb⟩;exact⟨⟨_,_,rfl⟩,hb⟩
theorem iw (x:Int) (h0: -9223372036854775808≤x) (h1:x≤9223372036854775807) (w:World) (hT:bH w):
  Calls prog 26 #[.int .i64 x] w fun e w'=>e=.returned (.string (aL x))∧Below w.heap.size w w':=by
 refine(Tryz.strconv_Itoa x h0 h1 w hT).mono ?_;rintro e w' ⟨rfl,k,os,rfl⟩;exact⟨rfl,jE w k os⟩
theorem Cr (x:Int):(aL x).data.toList=Lib.itoa x:=by simp[aL]
theorem pm (x:Int):(aL x).toList=Lib.itoa x:=by rw[ByteArray.toList_eq];exact Cr x
def af (f:an):Array Value:=#[.int .i64 f.id,.string f.client,.string f.subject,.string f.scope,.int .i64 f.gen,.int .i64 f.made,.int .i64 f.used,.string f.request,.bool f.dead]
def ax (e:Ev):Array Value:=#[.int .i64 e.kind,.int .i64 e.fam.id,.string e.fam.client,.string e.fam.subject,.string e.fam.scope,.int .i64 e.fam.gen,.int .i64 e.fam.made,.int .i64 e.fam.used,.string e.fam.request,.bool e.fam.dead,.int .i64 e.id,.int .i64 e.time]
def aO (f:an):Value:=.agg (af f)
def aE (e:Ev):Value:=.agg (ax e)
def an.short (f:an) (n:Nat):Prop:=f.client.size≤n∧f.subject.size≤n∧f.scope.size≤n∧f.request.size≤n
theorem aA {w:World} {g:Nat} {T:TypeId} {i:Int} {cl su sc:ByteArray} {ge ma us:Int} {re:ByteArray} {de:Bool} (h:aj w g T (af ⟨i,cl,su,sc,ge,ma,us,re,de⟩)):
  w.cell? ⟨g,0,none⟩=some (.int .i64 i)∧w.cell? ⟨g,1,none⟩=some (.string cl)∧w.cell? ⟨g,2,none⟩=some (.string su)∧w.cell? ⟨g,3,none⟩=some (.string sc)∧w.cell? ⟨g,4,none⟩=some (.int .i64 ge)∧
  w.cell? ⟨g,5,none⟩=some (.int .i64 ma)∧w.cell? ⟨g,6,none⟩=some (.int .i64 us)∧w.cell? ⟨g,7,none⟩=some (.string re)∧w.cell? ⟨g,8,none⟩=some (.bool de):=
 ⟨h.cell 0,h.cell 1,h.cell 2,h.cell 3,h.cell 4,h.cell 5,h.cell 6,h.cell 7,h.cell 8⟩
theorem bg {w:World} {g:Nat} {T:TypeId} {k i:Int} {cl su sc:ByteArray} {ge ma us:Int} {re:ByteArray} {de:Bool} {id ti:Int} (h:aj w g T (ax ⟨k,⟨i,cl,su,sc,ge,ma,us,re,de⟩,id,ti⟩)):
  w.cell? ⟨g,0,none⟩=some (.int .i64 k)∧w.cell? ⟨g,1,none⟩=some (.int .i64 i)∧w.cell? ⟨g,2,none⟩=some (.string cl)∧w.cell? ⟨g,3,none⟩=some (.string su)∧w.cell? ⟨g,4,none⟩=some (.string sc)∧w.cell? ⟨g,5,none⟩=some (.int .i64 ge)∧
  w.cell? ⟨g,6,none⟩=some (.int .i64 ma)∧w.cell? ⟨g,7,none⟩=some (.int .i64 us)∧w.cell? ⟨g,8,none⟩=some (.string re)∧w.cell? ⟨g,9,none⟩=some (.bool de)∧w.cell? ⟨g,10,none⟩=some (.int .i64 id)∧w.cell? ⟨g,11,none⟩=some (.int .i64 ti):=
 ⟨h.cell 0,h.cell 1,h.cell 2,h.cell 3,h.cell 4,h.cell 5,h.cell 6,h.cell 7,h.cell 8,h.cell 9,h.cell 10,h.cell 11⟩
def aJ (w:World) (g:Nat) (L:List Int):Prop:= ∀ j,j<L.length→w.cell? ⟨g,j,none⟩=some (.int .i64 (L.getD j 0))
theorem aJ.drewN {w:World} {g:Nat} {L:List Int} (h:aJ w g L) (q:Nat):aJ (w.drewN q) g L:=h
structure MR (T:TypeId) (W:World) (e:Ev) (w:World):Prop where
 below:Below W.heap.size W w
 ev:aj w W.heap.size T (ax e)
 fam:aj w (W.heap.size+1) 95 (af e.fam)
theorem MR.keep {T:TypeId} {W w w':World} {e:Ev} (h:MR T W e w) (hb:Below w.heap.size w w'):MR T W e w':=
 ⟨ae h.below hb,h.ev.below' hb,h.fam.below' hb⟩
theorem MR.start {T:TypeId} {W:World} (e:Ev):MR T W e ((W.alloc (.cells (ax e) T)).alloc (.cells (af e.fam) 95)):=by
 have hb:Below W.heap.size W ((W.alloc (.cells (ax e) T)).alloc (.cells (af e.fam) 95)):=((Below.refl _ _).alloc (Nat.le_refl _) _).alloc (by simp) _;refine⟨hb,(aj.new W _ _).alloc _,?_⟩;have:=aj.new (W.alloc (.cells (ax e) T)) 95 (af e.fam);simpa using this
theorem MR.cells {T:TypeId} {W w:World} {k i:Int} {cl su sc:ByteArray} {ge ma us:Int} {re:ByteArray} {de:Bool} {id ti:Int} (h:MR T W ⟨k,⟨i,cl,su,sc,ge,ma,us,re,de⟩,id,ti⟩ w):
  w.cell? ⟨W.heap.size,0,none⟩=some (.int .i64 k)∧w.cell? ⟨W.heap.size,10,none⟩=some (.int .i64 id)∧w.cell? ⟨W.heap.size,11,none⟩=some (.int .i64 ti)∧
  w.cell? ⟨W.heap.size+1,0,none⟩=some (.int .i64 i)∧w.cell? ⟨W.heap.size+1,1,none⟩=some (.string cl)∧w.cell? ⟨W.heap.size+1,2,none⟩=some (.string su)∧w.cell? ⟨W.heap.size+1,3,none⟩=some (.string sc)∧w.cell? ⟨W.heap.size+1,4,none⟩=some (.int .i64 ge)∧
  w.cell? ⟨W.heap.size+1,5,none⟩=some (.int .i64 ma)∧w.cell? ⟨W.heap.size+1,6,none⟩=some (.int .i64 us)∧w.cell? ⟨W.heap.size+1,7,none⟩=some (.string re)∧w.cell? ⟨W.heap.size+1,8,none⟩=some (.bool de):=
 ⟨h.ev.cell 0,h.ev.cell 10,h.ev.cell 11,h.fam.cell 0,h.fam.cell 1,h.fam.cell 2,h.fam.cell 3,h.fam.cell 4,h.fam.cell 5,h.fam.cell 6,h.fam.cell 7,h.fam.cell 8⟩
theorem Aj (a b c d:Int): [a,b,c,d].all ba=(ba a&&ba b&&ba c&&ba d):=by simp[Bool.and_assoc]
theorem eI (w:World) (T:TypeId) (L:List Int):aJ (w.alloc (.cells (L.map fun x=>Value.int .i64 x).toArray T)) w.heap.size L:=by
 intro j hj;have h:=(aj.new w T (L.map fun x=>Value.int .i64 x).toArray).cell j;rw[h];simp[hj]
theorem hC {s:ByteArray}:s.toList.isEmpty=decide (s.data.toList=[]):=by
 rw[ByteArray.toList_eq];cases s.data.toList<;>simp
theorem xP (x s:ByteArray) (l:List UInt8) (hx:x=ah l):(x.toList == s.toList)=decide (l=s.data.toList):=by
 rw[hx,bn,ByteArray.toList_eq,Bool.eq_iff_iff];simp
def an.len (f:an):Nat:=f.client.size+f.subject.size+f.scope.size+f.request.size
theorem Hz (a:Int): [a].all ba=ba a:=by simp
theorem bZ (W:World) (o o':Obj):Below W.heap.size W ((W.alloc o).alloc o'):=((Below.refl _ _).alloc (Nat.le_refl _) _).alloc (by simp) _
theorem wN (f:an):f.isZero=(decide (f.id=0)&&decide (f.client.toList=[])&&decide (f.subject.toList=[])&&decide (f.scope.toList=[])&&decide (f.gen=0)&&decide (f.made=0)&&decide (f.used=0)&&decide (f.request.toList=[])&& !f.dead):=by
 unfold an.isZero;rw[ByteArray.toList_eq,ByteArray.toList_eq,ByteArray.toList_eq,ByteArray.toList_eq]
theorem Im {W w:World} (o o' o'':Obj) (h:Below (((W.alloc o).alloc o').alloc o'').heap.size (((W.alloc o).alloc o').alloc o'') w):Below W.heap.size W w:=
 ae ((bZ W o o').alloc (by simp;omega) o'') h
theorem AL {i ge ma us:Int} {cl su sc re:ByteArray} {de:Bool} (h1:i=0) (h2:cl.toList=[]) (h3:su.toList=[]) (h4:sc.toList=[]) (h5:ge=0) (h6:ma=0) (h7:us=0) (h8:re.toList=[]) (h9: ¬ de=true)
  (h:an.isZero ⟨i,cl,su,sc,ge,ma,us,re,de⟩=false):False:=by
 rw[wN]at h;have h9':de=false:=by simpa using h9
 dsimp only at h;rw[h2,h3,h4,h8,h1,h5,h6,h7,h9']at h;simp at h
theorem IJ (W:World) (o o':Obj) (T:TypeId) (b:Int):aJ (((W.alloc o).alloc o').alloc (.cells #[.int .i64 b] T)) (W.heap.size+1+1) [b]:=by
 have h:=eI ((W.alloc o).alloc o') T [b];simpa using h
theorem uB (T:Int) (a b:Int) (e:Ev) (hk:e.kind=T) (h:(T=2∧a=e.time∧b=e.id)∨(T=3∧a=e.id∧b=e.time)):dp e=(e.fam.isZero&&decide (a=0)&&ba b):=by
 rcases h with⟨rfl,rfl,rfl⟩|⟨rfl,rfl,rfl⟩
 ·unfold dp;rw[hk,if_neg dC,if_pos rfl]
 ·unfold dp;rw[hk,if_neg dC,if_neg dC,if_pos rfl]
theorem Av {L:List Int} {k:Nat} (hk:k<L.length) (h:ba (L.getD k 0)=false):L.all ba=false:=by
 rw[List.all_eq_false];refine⟨L[k],List.getElem_mem hk,?_⟩;simpa[List.getD,hk]using h
theorem wJ {L:List Int} (h: ∀ j,j<L.length→ba (L.getD j 0)=true):L.all ba=true:=by
 rw[List.all_eq_true];intro x hx;obtain⟨j,hj,rfl⟩:=List.mem_iff_getElem.1 hx;have:=h j hj;simpa[List.getD,hj]using this
def qy (o:List (List UInt8)) (w:List UInt8):List (List UInt8):=if o.contains w then o else o++[w]
def ef (d:List (List UInt8)):List (List UInt8):=d.foldl qy []
theorem lF (d:List (List UInt8)) (w:List UInt8):ef (d++[w])=qy (ef d) w:=by simp[ef]
theorem fZ: ∀ (n:Nat) (d:List (List UInt8)),d.length=n→(ef d).Nodup∧(∀ w,w∈ef d↔w∈d)∧(ef d).length≤d.length
 |0,d,h=>by obtain rfl:=List.eq_nil_of_length_eq_zero h;simp[ef]
 |n+1,d,h=>by
  rcases List.eq_nil_or_concat d with rfl|⟨r,x,rfl⟩
  ·simp at h
  ·rw[List.concat_eq_append]at h ⊢
   obtain⟨h1,h2,h3⟩:=fZ n r (by simpa using h);rw[lF];unfold qy
   by_cases hx:(ef r).contains x=true
   ·rw[if_pos hx]
    have hm:x∈r:=(h2 x).1 (by simpa using hx);refine⟨h1,fun w=>?_,by simp;omega⟩;rw[h2 w,List.mem_append,List.mem_singleton];exact⟨.inl,fun h=>h.elim id fun e=>e▸hm⟩
   ·rw[if_neg hx]
    have hm:x ∉ ef r:=by simpa using hx
    refine⟨?_,fun w=>?_,by simp;omega⟩
    ·rw[List.nodup_append]
     refine⟨h1,by simp,?_⟩;intro a ha b hb;rw[List.mem_singleton]at hb;subst hb;rintro rfl;exact hm ha
    ·rw[List.mem_append,List.mem_append,h2 w]
structure it (s:List UInt8) (k:Nat) (d:List (List UInt8)) (c:List UInt8):Prop where
 cuts:parts 43 (s.take k)=d++[c]
 ok: ∀ w∈d,oN w=true
 low:ro c=true
theorem it.start (s:List UInt8):it s 0 [] []:=⟨by simp[parts],by simp,rfl⟩
theorem qY {s:List UInt8} {k:Nat} {x:UInt8} (h:s[k]?=some x):s.take (k+1)=s.take k++[x]:=by
 rw[List.take_add_one,h];rfl
theorem it.seam {s:List UInt8} {k:Nat} {d:List (List UInt8)} {c:List UInt8} (h:it s k d c) (hx:s[k]?=some 43) (hc:c≠ []):it s (k+1) (d++[c]) []:=by
 refine⟨?_,?_,rfl⟩
 ·rw[qY hx,rn,h.cuts]
 ·intro w hw
  rcases List.mem_append.1 hw with hw|hw
  ·exact h.ok w hw
  ·rw[List.mem_singleton]at hw
   subst hw;simp[oN,h.low,hc]
theorem it.more {s:List UInt8} {k:Nat} {d:List (List UInt8)} {c:List UInt8} {x:UInt8} (h:it s k d c) (hx:s[k]?=some x) (h1:97≤x.toNat) (h2:x.toNat≤122):it s (k+1) d (c++[x]):=by
 have hne:x≠43:=by rintro rfl;simp at h1
 refine⟨?_,h.ok,?_⟩
 ·rw[qY hx]
  exact yW hne h.cuts
 ·have:=h.low
  simp only[ro,List.all_append,Bool.and_eq_true]at this ⊢;refine⟨this,?_⟩;simp[h1,h2]
theorem F1 {a b:List UInt8} (h:(parts 43 a).all oN=false):(parts 43 (a++43::b)).all oN=false:=by
 rw[iZ,List.all_append,h];rfl
theorem it.empty {s:List UInt8} {k:Nat} {d:List (List UInt8)} (h:it s k d []) (hk:k=s.length∨s[k]?=some 43):(parts 43 s).all oN=false:=by
 have h0:(parts 43 (s.take k)).all oN=false:=by
  rw[h.cuts,List.all_append];simp[oN]
 rcases hk with rfl|hk
 ·rwa[List.take_length]at h0
 ·have hlt:=(List.getElem?_eq_some_iff.1 hk).1
  have e:s=s.take k++43::s.drop (k+1):=by
   have hd:=List.drop_eq_getElem_cons hlt;rw[(List.getElem?_eq_some_iff.1 hk).2]at hd;rw[←hd,List.take_append_drop]
  rw[e];exact F1 h0
theorem pr {c x:UInt8} (hx:x≠c): ∀ (l:List UInt8),x∈l→ ∃ w∈parts c l,x∈w
 |[],h=>by simp at h
 |y::l,h=>by
  by_cases hy:y=c
  ·subst hy
   rw[fQ];rcases List.mem_cons.1 h with rfl|h
   ·exact absurd rfl hx
   ·obtain⟨w,hw,hxw⟩:=pr hx l h
    exact⟨w,List.mem_cons_of_mem _ hw,hxw⟩
  ·rcases e:parts c l with _|⟨v,r⟩
   ·exact absurd e (fk c l)
   ·rw[eO hy e]
    rcases List.mem_cons.1 h with rfl|h
    ·exact⟨x::v,by simp,by simp⟩
    ·obtain⟨w,hw,hxw⟩:=pr hx l h
     rw[e]at hw;rcases List.mem_cons.1 hw with rfl|hw
     ·exact⟨y::w,by simp,by simp[hxw]⟩
     ·exact⟨w,by simp[hw],hxw⟩
theorem Fg {s:List UInt8} {k:Nat} {x:UInt8} (hx:s[k]?=some x) (h43:x≠43) (h: ¬ (97≤x.toNat∧x.toNat≤122)):(parts 43 s).all oN=false:=by
 have hm:x∈s:=List.mem_of_getElem? hx;obtain⟨w,hw,hxw⟩:=pr h43 s hm;rw[List.all_eq_false];refine⟨w,hw,?_⟩;intro hok;simp only[oN,ro,Bool.and_eq_true]at hok;have:=List.all_eq_true.1 hok.2 x hxw;simp at this;omega
theorem it.done {s:List UInt8} {d:List (List UInt8)} {c:List UInt8} (h:it s s.length d c) (hc:c≠ []):parts 43 s=d++[c]∧(parts 43 s).all oN=true:=by
 have h0:=h.cuts;rw[List.take_length]at h0;refine⟨h0,?_⟩;rw[h0,List.all_append];simp only[Bool.and_eq_true];refine⟨List.all_eq_true.2 h.ok,?_⟩;simp[oN,h.low,hc]
def aH (L:List an):List Value:=L.flatMap fun f=>(af f).toList
theorem fM (f:an):(af f).toList.length=9:=rfl
theorem bI: ∀ L:List an,(aH L).length=L.length*9
 |[]=>rfl
 |f::L=>by
  have:=bI L;unfold aH at this ⊢;rw[List.flatMap_cons,List.length_append,this,fM,List.length_cons];omega
theorem fR (f:an) (L:List an):aH (f::L)=(af f).toList++aH L:=rfl
theorem j2 (a b:List an):aH (a++b)=aH a++aH b:=by simp[aH]
theorem sC: ∀ {L:List an} {i:Nat} {f:an},L[i]?=some f→ ∀ j,j<9→(aH L)[i*9+j]?=(af f)[j]?
 |[],i,f,h,_,_=>by simp at h
 |g::L,0,f,h,j,hj=>by
  simp at h;subst h;rw[fR,Nat.zero_mul,Nat.zero_add,List.getElem?_append_left (by rw[fM];exact hj),Array.getElem?_toList]
 |g::L,i+1,f,h,j,hj=>by
  rw[fR,List.getElem?_append_right (by rw[fM];omega),fM,show(i+1)*9+j - 9=i*9+j by omega];exact sC (by simpa using h) j hj
theorem mi (L:List an) (k:Nat):aH (L.take k)=(aH L).take (k*9):=by
 induction L generalizing k with
 |nil=>simp[aH]
 |cons f L ih=>
  cases k with
  |zero=>simp[aH]
  |succ k=>rw[List.take_succ_cons,fR,fR,ih,List.take_append,fM,List.take_of_length_le (l:=(af f).toList) (by rw[fM];omega),show(k+1)*9 - 9=k*9 by omega]
theorem l9 (L:List an) (k:Nat):aH (L.drop k)=(aH L).drop (k*9):=by
 induction L generalizing k with
 |nil=>simp[aH]
 |cons f L ih=>
  cases k with
  |zero=>simp[aH]
  |succ k=>rw[List.drop_succ_cons,fR,ih,List.drop_append,fM,List.drop_of_length_le (l:=(af f).toList) (by rw[fM];omega),show(k+1)*9 - 9=k*9 by omega,List.nil_append]
theorem dO {L:List an} {u:Value} (h:u∈aH L):u.oneCell'=true:=by
 obtain⟨f,_,hu⟩:=List.mem_flatMap.1 h;simp only[af,List.mem_cons,List.not_mem_nil,or_false]at hu;rcases hu with rfl|rfl|rfl|rfl|rfl|rfl|rfl|rfl|rfl<;>rfl
def aD (w:World) (B:Nat) (v:Value) (L:List an):Prop:=w.ownsRow B 95 9 v L.length (aH L)
theorem aD.nil (w:World) (B:Nat):aD w B (.slice none 0 0) []:=World.ownsRow_nil _ _ _ _
section
variable {w w':World} {B:Nat} {v:Value} {L:List an}
theorem aD.below (h:aD w B v L) (hb:Below w.heap.size w w'):aD w' B v L:=h.kept (aG hb (some w.heap.size)) (.inr (fun he=>by have:=(h.lt _ he).2;omega))
theorem aD.mono {B':Nat} (h:aD w B v L) (hB:B'≤B):aD w B' v L:=World.ownsRow.mono h hB
theorem aD.kept (h:aD w B v L) {row:Option Nat} (hg:w.grownBy w' row) (hne:v.ownBlock≠row):aD w' B v L:=World.ownsRow.kept h hg (.inr hne)
theorem aD.parts (h:aD w B v L):(v=.slice none 0 0∧L=[])∨ ∃ g cap,v=.slice (some ⟨g,0,none⟩) L.length cap∧B≤g∧g<w.heap.size∧L.length≤cap∧cap≤9223372036854775807∧
  (∀ j,w.frozen? ⟨g,j,none⟩=false)∧(∀ j,j<cap*9→(w.cell? ⟨g,j,none⟩).isSome=true)∧(∀ j,j<L.length*9→w.cell? ⟨g,j,none⟩=(aH L)[j]?):=by
 rcases h.2 with⟨rfl,h0⟩|⟨g,cap,cur,rfl,hB,hb,hn,hm,hc,ht⟩
 ·exact .inl ⟨rfl,List.eq_nil_of_length_eq_zero h0⟩
 ·have hlt:g<w.heap.size:=by
   rcases Nat.lt_or_ge g w.heap.size with h'|h'
   ·exact h'
   ·rw[Array.getElem?_eq_none h']at hb;cases hb
  refine .inr ⟨g,cap,rfl,hB,hlt,hn,by unfold maxLen at hm;exact hm,fun j=>by simp[World.frozen?,hb],fun j hj=>?_,fun j hj=>?_⟩
  ·rw[cell_of_row w g j cur _ (0,0) hb,Array.getElem?_eq_getElem oM]
   rfl
  ·rw[cell_of_row w g j cur _ (0,0) hb,←ht,List.getElem?_take,if_pos hj,Array.getElem?_toList]
theorem aD.at_ {g cap:Nat} (h:aD w B (.slice (some ⟨g,0,none⟩) L.length cap) L) {i:Nat} {f:an} (hi:L[i]?=some f) (j:Nat) (hj:j<9):w.cell? ⟨g,i*9+j,none⟩=(af f)[j]?:=by
 have hil:=(List.getElem?_eq_some_iff.1 hi).1;rcases h.parts with⟨e,_⟩|⟨g',cap',e,_,_,_,_,_,_,hc⟩
 ·simp at e
 ·simp only[Value.slice.injEq,Option.some.injEq,Addr.mk.injEq,and_true,true_and]at e
  obtain⟨rfl,rfl⟩:=e;rw[hc _ oM,sC hi j hj]
end
theorem kO:(prog.info? 95).map (fun i=>(i.zero,i.size,i.bytes))=some (some (.agg (af an.zero)),9,104):=kR
theorem hO (B:Nat) (v:Value) (L:List an) (w:World) (h:aD w B v L) (hL:L.length≤1000000):
  Calls prog 109 #[v] w fun e w'=> ∃ v',e=.returned v'∧aD w' w.heap.size v' L∧Below w.heap.size w w':=by
 obtain⟨i0,hii,hz0,hz1,hz2⟩:=info_parts kO;have q44: ∀ (w:World) (a:Option Addr) (n c n' c':Nat),(binOp .eql 81 (.slice a n c) (.slice none n' c')).run prog w=.ok (.bool a.isNone) w:=fun w a n c n' c'=>Lib.run_eql_slice_nil w _ _ a n c n' c' underlying81
 rcases h.parts with⟨rfl,rfl⟩|⟨g,cap,rfl,h1,h2,h3,h4,h5,h6,h7⟩
 ·go_enter Tryz.func109,Tryz.ntmps109
  go_wp2_with fail;go_ret;exact⟨_,rfl,aD.nil _ _,Below.refl _ _⟩
 ·have hown:(w.alloc (.cells #[] 95)).ownsRow w.heap.size 95 9 (.slice (some ⟨w.heap.size,0,none⟩) 0 0) 0 []:=
   ⟨rfl,.inr ⟨w.heap.size,0,#[],rfl,Nat.le_refl _,heap_alloc_new w _,Nat.le_refl _,Nat.zero_le _,rfl,rfl⟩⟩
  have hl:=bI L
  have hnews: ∀ j u,(aH L)[j]?=some u→(w.alloc (.cells #[] 95)).cell? ((⟨g,0,none⟩:Addr).add j)=some u:=by
   intro j u hj;have hjl:=(List.getElem?_eq_some_iff.1 hj).1;rw[Addr.add_lit,Nat.zero_add,World.cell?_alloc_past (w:=w) _ g j h2,h7 j oM,hj]
  have HO:=zH hown;have HN:=zH hnews;have HL:=zH hl;clear hown hnews hl h h5 h6 h7;go_enter Tryz.func109,Tryz.ntmps109
  go_wp2_with
   (at_builtin;refine wpList_append_own _ rfl _ _ 81 rfl w.heap.size 95 i0 (.agg (af an.zero)) 9 104 underlying81 hii hz0 hz1 hz2 rfl dC _ 0 [] rfl HO.out ⟨g,0,none⟩ L.length cap (aH L) rfl HL.out HN.out (fun x hx=>dO hx) (by unfold maxLen;omega) oM (by simp) ?_;intro v' w3 hown hgrow hnil
    have HO3:=zH hown;have HG:=zH hgrow;clear hown hgrow hnil)
  go_ret;refine⟨_,rfl,?_,?_⟩
  ·have:=HO3.out
   rw[Nat.zero_add,List.nil_append]at this;exact this
  ·have b1:Below w.heap.size w (w.alloc (.cells #[] 95)):=(Below.refl _ _).alloc (Nat.le_refl _) _
   exact dm b1 HG.out (Nat.le_refl _) b1.size
structure dH (a b:Nat) (w w':World):Prop where
 os:w'.os=w.os
 tape:w'.tape=w.tape
 output:w'.output=w.output
 size:w.heap.size≤w'.heap.size
 block: ∀ i,i<w.heap.size→i≠a→i≠b→w'.heap[i]?=w.heap[i]?
section
variable {a b:Nat} {w w' w'':World}
theorem dH.refl (a b:Nat) (w:World):dH a b w w:=⟨rfl,rfl,rfl,Nat.le_refl _,fun _ _ _ _=>rfl⟩
theorem dH.trans (h:dH a b w w') (k:dH a b w' w''):dH a b w w'':=
 ⟨k.os.trans h.os,k.tape.trans h.tape,k.output.trans h.output,Nat.le_trans h.size k.size,fun i hi h1 h2=>(k.block i (Nat.lt_of_lt_of_le hi h.size) h1 h2).trans (h.block i hi h1 h2)⟩
theorem dH.of_below (h:Below w.heap.size w w'):dH a b w w':=⟨h.os,h.tape,h.output,h.size,fun i hi _ _=>h.block i hi⟩
theorem dH.of_one (h:w.grownBy w' (some a)):dH a b w w':=⟨h.os,h.tape,h.output,h.size,fun i hi h1 _=>h.block i hi (by simpa using h1)⟩
theorem dH.of_two (h:w.grownBy w' (some b)):dH a b w w':=⟨h.os,h.tape,h.output,h.size,fun i hi _ h2=>h.block i hi (by simpa using h2)⟩
theorem dH.below {B:Nat} {W:World} (h:dH a b w w') (hW:Below B W w) (hB:B≤w.heap.size) (ha:B≤a) (hb:B≤b):Below B W w':=
 ⟨h.os.trans hW.os,h.tape.trans hW.tape,h.output.trans hW.output,Nat.le_trans hW.size h.size,fun i hi=>(h.block i oM oM oM).trans (hW.block i hi)⟩
theorem aj.two {g:Nat} {t:TypeId} {cs:Array Value} (h:aj w g t cs) (k:dH a b w w') (h1:g≠a) (h2:g≠b):aj w' g t cs:=(k.block g h.lt h1 h2).trans h
theorem dH.cell {p:Addr} {v:Value} (k:dH a b w w') (h:w.cell? p=some v) (h1:p.block≠a) (h2:p.block≠b):w'.cell? p=some v:=by
 have hlt:=World.block_lt_of_cell? w _ h;rw[World.cell?_of_block (w:=w) (k.block p.block hlt h1 h2)];exact h
theorem aD.two {B:Nat} {v:Value} {L:List an} (h:aD w B v L) (k:dH a b w w') (h1:v.ownBlock≠some a) (h2:v.ownBlock≠some b):aD w' B v L:=by
 refine⟨h.1,?_⟩;rcases h.2 with hn|⟨g,cap,cur,rfl,hb,hgg,rest⟩
 ·exact .inl hn
 ·refine .inr ⟨g,cap,cur,rfl,hb,?_,rest⟩
  have hg:=(Array.getElem?_eq_some_iff.1 hgg).1;rw[k.block g hg (by simpa[Value.ownBlock]using h1) (by simpa[Value.ownBlock]using h2)];exact hgg
end
open Go
def lU (md:Region.Mode) (ops:Array Oper) (i:Nat):Nat→Nat→Bool
 |0,_=>false
 |n+1,j=>match ops[j]? with
  |some o=>o.after.any fun e=>Region.binds md e&&(e.on == i || lU md ops i n e.on)
  |none=>false
def oZ (md:Region.Mode) (ops:Array Oper) (listed:Array Bool):Prop:= ∀ (j:Nat) (o:Oper),ops[j]?=some o→listed.getD j false=true→ ∀ e∈o.after,Region.binds md e=true→listed.getD e.on false=true
def DK (md:Region.Mode) (ops:Array Oper) (listed:Array Bool):Bool:=(List.range ops.size).all fun j=> !listed.getD j false || match ops[j]? with
 |some o=>o.after.all fun e=> !Region.binds md e || listed.getD e.on false
 |none=>true
theorem sG {md:Region.Mode} {ops:Array Oper} {listed:Array Bool} (h:DK md ops listed=true):oZ md ops listed:=by
 intro j o ho hj e he hb;have hlt:j<ops.size:=(Array.getElem?_eq_some_iff.1 ho).1;have h1:=List.all_eq_true.1 h j (List.mem_range.2 hlt);simp only[hj,ho,Bool.not_true,Bool.false_or]at h1;have h2:=Array.all_eq_true_iff_forall_mem.1 h1 e he;simpa[hb]using h2
theorem oZ.set {md:Region.Mode} {ops:Array Oper} {listed:Array Bool} (h:oZ md ops listed) {j:Nat} (hj:j∈Region.ready md ops listed):oZ md ops (listed.setIfInBounds j true):=by
 intro k o ho hk e he hb;obtain⟨_,oj,hoj,hall⟩:=mem_ready.1 hj
 by_cases hkj:j=k
 ·subst hkj
  rw[hoj]at ho;obtain rfl:=Option.some.inj ho;exact getD_set_true (hall e he hb)
 ·rw[getD_set_ne false hkj]at hk
  exact getD_set_true (h k o ho hk e he hb)
theorem ox {md:Region.Mode} {ops:Array Oper} {listed:Array Bool} (h:oZ md ops listed) {i:Nat}: ∀ (n j:Nat),lU md ops i n j=true→listed.getD j false=true→listed.getD i false=true
 |0,_,hw,_=>by cases hw
 |n+1,j,hw,hj=>by
  unfold lU at hw;split at hw
  ·rename_i o ho
   obtain⟨e,he,hb⟩:=Array.any_eq_true'.1 hw;simp only[Bool.and_eq_true,Bool.or_eq_true,beq_iff_eq]at hb;have h1:=h j o ho hj e he hb.1;rcases hb.2 with rfl|h2
   ·exact h1
   ·exact ox h n e.on h2 h1
  ·cases hw
section
variable {P:Program} {ops:Array Oper} {Q:Exit→Act→World→Prop} {md:Region.Mode} {S:World→Prop} {T:List Nat}
def fu (P:Program) (md:Region.Mode) (ops:Array Oper) (Q:Exit→Act→World→Prop) (S:World→Prop) (T:List Nat):Nat→Array Bool→Act→World→Prop
 |0,listed,a,w=>Region.ready md ops listed=[]∧Q .normal a w
 |fuel+1,listed,a,w=>
  (Region.ready md ops listed=[]→Q .normal a w)∧
  ∀ i∈Region.ready md ops listed,wpOp P ops Q i (fun a' w'=>(T.contains i=false→S w')∧fu P md ops Q S T fuel (listed.setIfInBounds i true) a' w') a w
theorem mP: ∀ (fuel:Nat) (listed:Array Bool) (a:Act) (w:World),fu P md ops Q S T fuel listed a w→wpAny P md ops Q fuel listed a w
 |0,_,_,_,h=>h
 |fuel+1,_,_,_,h=>⟨h.1,fun i hi=>wpOp_mono (fun a' w' h'=>mP fuel _ a' w' h'.2) (h.2 i hi)⟩
theorem se {i:Nat} {listed:Array Bool} (h:listed.getD i true=false):listed.getD i false=false:=by
 rcases Nat.lt_or_ge i listed.size with h'|h'
 ·simp[h']at h ⊢;exact h
 ·simp[Array.getElem?_eq_none h']
theorem oh {i:Nat} {oi:Oper} {v:Value} (hi:ops[i]?=some oi) (hsel: ∀ (j:Nat) (o:Oper) cs b,ops[j]?=some o→o.op≠.select cs b)
  (hQ: ∀ c a w,Q (.panic c) (a.put oi.dst v) w→Q (.panic c) a w) (n:Nat) (hT: ∀ j,T.contains j=true→lU md ops i n j=true):
  ∀ (fuel:Nat) (listed:Array Bool) (a:Act) (w:World),oZ md ops listed→
   (∀ j oj,ops[j]?=some oj→j≠i→listed.getD j true=false→(∀ e∈oj.after,Region.binds md e=true→e.on≠i)→oi.apart ops oj=true)→
   i∈Region.ready md ops listed→YieldsIf P ops S oi v a→S w→
   fu P md ops Q S T fuel (listed.setIfInBounds i true) (a.put oi.dst v) w→fu P md ops Q S T (fuel+1) listed a w:=by
 intro fuel
 induction fuel with
 |zero=>
  intro listed a w _ _ hr hy hS H;refine⟨fun h=>(by rw[h]at hr;cases hr),fun j hj=>?_⟩
  by_cases hji:j=i
  ·subst hji;exact hy.wpOp hi hS ⟨fun _=>hS,H⟩
  ·have:=ready_mono hj hji
   rw[H.1]at this;cases this
 |succ fuel ih=>
  intro listed a w hdown hfree hr hy hS H;refine⟨fun h=>(by rw[h]at hr;cases hr),fun j hj=>?_⟩
  by_cases hji:j=i
  ·subst hji;exact hy.wpOp hi hS ⟨fun _=>hS,H⟩
  ·have h1:=H.2 j (ready_mono hj hji)
   have hdown':=hdown.set hj;have hun:=(mem_ready.1 hr).1
   have hnoT:T.contains j=false:=by
    rcases hc:T.contains j with _|_
    ·rfl
    ·have hw:=hT j hc
     have hlj:(listed.setIfInBounds j true).getD j false=true:=by
      have hlt:j<listed.size:=by
       rcases Nat.lt_or_ge j listed.size with h'|h'
       ·exact h'
       ·have:=(mem_ready.1 hj).1
        simp[Array.getElem?_eq_none h']at this
      simp[hlt]
     have h2:=ox hdown' n j hw hlj;rw[getD_set_ne false hji,se hun]at h2;cases h2
   obtain⟨hjun,oj,hoj,hall⟩:=mem_ready.1 hj
   have hnot: ∀ e∈oj.after,Region.binds md e=true→e.on≠i:=fun e he hb heq=>by
    have h1:=hall e he hb;rw[heq,se hun]at h1;cases h1
   have h2:=wpOp_putIf hoj (hfree j oj hoj hji hjun hnot) (fun cs b=>hsel i oi cs b hi) (fun cs b=>hsel j oj cs b hoj) hQ hy h1
   have hfree': ∀ k ok,ops[k]?=some ok→k≠i→(listed.setIfInBounds j true).getD k true=false→
     (∀ e∈ok.after,Region.binds md e=true→e.on≠i)→oi.apart ops ok=true:=fun k ok hk hki hun hno=>by
    refine hfree k ok hk hki ?_ hno
    by_cases hjk:j=k
    ·subst hjk;exact hjun
    ·rw[getD_set_ne true hjk]at hun;exact hun
   refine wpOp_mono (fun a' w' h3=>⟨h3.2.1,ih (listed.setIfInBounds j true) a' w' hdown' hfree' (ready_mono hr (Ne.symm hji)) h3.1 (h3.2.1 hnoT) ?_⟩) h2;rw[Array.setIfInBounds_comm _ _ hji];exact h3.2.2
theorem aa (n:Nat) {i:Nat} {oi:Oper} {v:Value} {fuel:Nat} {listed:Array Bool} {a:Act} {w:World} (hi:ops[i]?=some oi)
  (hs:Region.noSelect ops=true) (hf:Region.free md ops listed i=true) (hr:(Region.ready md ops listed).contains i=true) (hd:DK md ops listed=true) (hT:(T.all fun j=>lU md ops i n j)=true)
  (hQ: ∀ c a w,Q (.panic c) (a.put oi.dst v) w→Q (.panic c) a w) (hw:Region.wanted oi (yielded ops a.tmps)=true) (hy: ∀ w,S w→(execOp a.eval oi).run P w=.ok (.value v) w) (hS:S w)
  (h:fu P md ops Q S T fuel (listed.setIfInBounds i true) (a.put oi.dst v) w):fu P md ops Q S T (fuel+1) listed a w:=
 oh hi (Region.noSelect_spec hs) hQ n (fun j hj=>List.all_eq_true.1 hT j (by simpa using hj)) fuel listed a w (sG hd) (Region.free_spec hi hf) (by simpa using hr) (.inl ⟨hw,hy⟩) hS h
theorem fV (n:Nat) {i:Nat} {oi:Oper} {fuel:Nat} {listed:Array Bool} {a:Act} {w:World} (hi:ops[i]?=some oi)
  (hs:Region.noSelect ops=true) (hf:Region.free md ops listed i=true) (hr:(Region.ready md ops listed).contains i=true) (hd:DK md ops listed=true) (hT:(T.all fun j=>lU md ops i n j)=true)
  (hQ: ∀ c a w,Q (.panic c) (a.put oi.dst undef) w→Q (.panic c) a w) (hw:Region.wanted oi (yielded ops a.tmps)=false) (hS:S w)
  (h:fu P md ops Q S T fuel (listed.setIfInBounds i true) (a.put oi.dst undef) w):fu P md ops Q S T (fuel+1) listed a w:=
 oh hi (Region.noSelect_spec hs) hQ n (fun j hj=>List.all_eq_true.1 hT j (by simpa using hj)) fuel listed a w (sG hd) (Region.free_spec hi hf) (by simpa using hr) (.inr ⟨hw,rfl⟩) hS h
theorem ai {i:Nat} {oi:Oper} {fuel:Nat} {listed:Array Bool} {a:Act} {w:World} (hr:Region.ready md ops listed=[i]) (hi:ops[i]?=some oi)
  (h: ∀ K':Act→World→Prop,Shut (∀ a w,(T.contains i=false→S w)→fu P md ops Q S T fuel (listed.setIfInBounds i true) a w→K' a w)→if Region.wanted oi (yielded ops a.tmps)=true then Oper.wp P oi a w K' Q else K' (a.put oi.dst undef) w):
  fu P md ops Q S T (fuel+1) listed a w:=by
 refine⟨fun h0=>(by rw[hr]at h0;cases h0),fun j hj=>?_⟩;rw[hr,List.mem_singleton]at hj;subst hj;exact wpOp_step hi fun K' hK=>h K' (fun a w h1 h2=>hK a w ⟨h1,h2⟩)
theorem fA {i j:Nat} {oi oj:Oper} {fuel:Nat} {listed:Array Bool} {a:Act} {w:World} (hr:Region.ready md ops listed=[i,j]) (hi:ops[i]?=some oi) (hj:ops[j]?=some oj)
  (h1: ∀ K':Act→World→Prop,Shut (∀ a w,(T.contains i=false→S w)→fu P md ops Q S T fuel (listed.setIfInBounds i true) a w→K' a w)→if Region.wanted oi (yielded ops a.tmps)=true then Oper.wp P oi a w K' Q else K' (a.put oi.dst undef) w)
  (h2: ∀ K':Act→World→Prop,Shut (∀ a w,(T.contains j=false→S w)→fu P md ops Q S T fuel (listed.setIfInBounds j true) a w→K' a w)→if Region.wanted oj (yielded ops a.tmps)=true then Oper.wp P oj a w K' Q else K' (a.put oj.dst undef) w):
  fu P md ops Q S T (fuel+1) listed a w:=by
 refine⟨fun h0=>(by rw[hr]at h0;cases h0),fun k hk=>?_⟩;rw[hr,List.mem_cons,List.mem_singleton]at hk;rcases hk with rfl|rfl
 ·exact wpOp_step hi fun K' hK=>h1 K' (fun a w h1 h2=>hK a w ⟨h1,h2⟩)
 ·exact wpOp_step hj fun K' hK=>h2 K' (fun a w h1 h2=>hK a w ⟨h1,h2⟩)
theorem aX {listed:Array Bool} {a:Act} {w:World} (hr:Region.ready md ops listed=[]) (h:Q .normal a w): ∀ fuel,fu P md ops Q S T fuel listed a w
 |0=>⟨hr,h⟩
 |_+1=>⟨fun _=>h,by rw[hr];simp⟩
theorem aR (S:World→Prop) (T:List Nat) {id:Nat} {a:Act} {w:World} (hm:P.follows .mixedOrders=true) (h:fu P .any ops Q S T ops.size (Array.replicate ops.size false) a w.drew):(Code.region id ops true).wp P Q a w:=
 wp_region_any hm (mP _ _ _ _ h)
end
end Go.Proofs.YtepjcdjpikbbjaaGreatDoor
