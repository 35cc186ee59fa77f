/- Part of the proof. -/
import Derived.Test.YtjligkmjlenofaaGreatDoorV00
import Derived.Conc.Beside
import Derived.Conc.CrowdStepW
import Derived.Conc.CrowdComm
import Derived.Test.YtjligkmjlenofaaGreatDoorV0C
set_option maxHeartbeats 1000000
open Go renaming World->aah,Value->aai,TypeId->aat,Goroutine->ane,Program->ag0,FuncId->ani,Addr->akr,stepG->ant,Event->anu,Code->anB,HappensBefore->an9,IntKind->aoh,seenCells->aoi,unsupported->aow,Question->aoy,shape->aoA,program->aoB,TypeInfo->aoC,TypeDesc->aoD,typeHandle->aoE,mayBeOne->aoG,BinOp->aoH,plainCell->ao5,newObj->apk,getObj->apm,choose->apn,newRow->apo,noView->apq,loadBytes->apr,movedPointer->apw,Unsupported->apy,movedNumber->apC,BoundsCode->apH,load->apL,stuck->apR
open Go.Sem renaming runT->anf,bind->anA,run->anE,choose->apG,runT_fst->apT
open Array renaming getElem?_setIfInBounds->ang,append_empty->ank,getElem?_eq_some_iff->akN,getElem?_push->ans,getElem?_eq_getElem->aht,range->aov,ext_getElem?->ao8,append_assoc->apj,foldl_toList->aps,replicate->apE
open Go.Builtin renaming unsafeAdd_->anq
open Nat renaming le_refl->ahP,le_of_succ_le->anz,lt_or_eq_of_le->anU,ne_of_lt->anV,le_of_not_lt->an',le_trans->aiC,lt_or_ge->af8,not_lt_zero->ah',lt_irrefl->aoI,lt_wfRel->apN
open Go.Instr renaming sliceBounds->anD,sliceBound->anH,fill->an3,buildSlice->aor,makeSlice->aos,indexAt->aoT,sliceAt->ao2,makeMap->ao4,slice->apz,index->ako,build->apA
open Go.World renaming farStore->anF,farLoad->anS,noCell->anW,frozen?->an_,freeze->aoq,seen->aoz,shape?->api,cell?->alr
open Go.ConcR renaming mk->anT
open Bool renaming eq_iff_iff->ahp,and_eq_true->aaB
open Go.Conc renaming served->aoj,touchAt->aok,touch_of->aop,g?_old->apD
open Option renaming map_eq_some_iff->amU
open List renaming mem_cons->ab',forIn_toArray->apu,forIn_cons->apI,mem_map->apS
open Go.Op renaming eqGuardIn->apv,twoPlaces->apx,stringOp->apB,equalIn->apJ,addrMod->apK,intDiv->apM,shift->apW
open Go.Trace renaming g?->apO
def Go.World.on(w:aah)(t:Nat->aoy->Nat):aah:={w with tape:=t}
namespace Go.gT
open Go.Proofs.YtjligkmjlenofaaGreatDoor(kR oM dC aS kS zH sP sO mL aP nR bR BL)
open Go Go.Conc
variable{M b i j:Nat}
inductive Tr:Type
 |leaf:Tr
 |node:(aah->Tr)->Tr
def Tr.Sub(a b:Tr):Prop:=∃f w,b=.node f/\a=f w
theorem Tr.wf:WellFounded Tr.Sub:=⟨fun a=>by
 induction a with
 |leaf=>exact⟨_,fun y ⟨f,w,h,_⟩=>by cases h⟩
 |node f ih=>exact⟨_,fun y ⟨f',w,h,e⟩=>by cases h;subst e;exact ih w⟩⟩
def Tr.nat:Nat->Tr
 |0=>.leaf
 |n+1=>.node fun _=>Tr.nat n
theorem Tr.QB(n:Nat):Tr.Sub (Tr.nat n) (Tr.nat (n+1)):=⟨_,default,rfl,rfl⟩
def Uv(M:Nat)(a b:Nat->Tr):Prop:=∃i,i<M/\Tr.Sub (a i) (b i)/\∀k,k≠i->a k=b k
theorem Uv.wf:∀M,WellFounded (Uv M)
 |0=>⟨fun a=>⟨_,fun y ⟨i,h,_⟩=>absurd h (ah' i)⟩⟩
 |M+1=>⟨by
  suffices H:∀x:Tr,∀a:Nat->Tr,a M=x->Acc (Uv (M+1)) a from fun a=>H _ a rfl
  intro x
  induction x using Tr.wf.induction with
  |_ x ihx=>
   intro a
   induction a using(Uv.wf M).induction with
   |_ a iha=>
    (intro ha;refine⟨_,fun y ⟨i,hi,hs,ho⟩=>?_⟩);by_cases e:i=M
    ·subst e
     exact ihx (y i) (ha▸hs) y rfl
    ·exact iha y ⟨i,by omega,hs,ho⟩ ((ho M fun k=>e k.symm).T ha)⟩
abbrev Mu:=Nat×(Nat->Tr)×(Tr×Nat)
def MJ(M:Nat):Mu->Mu->Prop:=Prod.Lex (· < ·) (Prod.Lex (Uv M) (Prod.Lex Tr.Sub (· < ·)))
theorem MJ.wf(M:Nat):WellFounded (MJ M):=(Prod.lex apN (Prod.lex ⟨_,Uv.wf M⟩ (Prod.lex ⟨_,Tr.wf⟩ apN))).wf
theorem MJ.stage{a:Nat}{x y}(h:a<b):MJ M (a,x) (b,y):=.left _ _ h
theorem MJ.other{a:Nat}{x y:Nat->Tr}{u v:Tr×Nat}(e:a<=b)(h:Uv M x y):MJ M (a,x,u) (b,y,v):=by
 rcases anU e with k|rfl
 ·exact .left _ _ k
 ·exact .right _ (.left _ _ h)
theorem MJ.mine{a:Nat}{x:Nat->Tr}{u v:Tr}(e:a<=b)(h:Tr.Sub u v):MJ M (a,x,(u,i)) (b,x,(v,j)):=by
 rcases anU e with k|rfl
 ·exact .left _ _ k
 ·exact .right _ (.right _ (.left _ _ h))
theorem MJ.flag{a:Nat}{x:Nat->Tr}{u:Tr}(e:a<=b)(h:i<j):MJ M (a,x,(u,i)) (b,x,(u,j)):=by
 rcases anU e with k|rfl
 ·exact .left _ _ k
 ·exact .right _ (.right _ (.right _ h))
theorem MJ.fst{a b:Mu}(h:MJ M a b):a.1<=b.1:=by
 cases h with
 |left _ _ h=>exact Nat.le_of_lt h
 |right _ _=>exact ahP _
theorem Uv.set{M:Nat}{x:Nat->Tr}{i:Nat}{t:Tr}(hi:i<M)(h:Tr.Sub t (x i)):Uv M (fun k=>if k=i then t else x k) x:=
 ⟨i,hi,by simpa using h,fun k hk=>by simp[hk]⟩
abbrev aD:=Nat->Prop
section
variable(P:ag0)(main:Bool)(R:aD->aah->aah->Prop)(D:aD->aD->aah->aah->Array anu->Prop)(Stop:aD->ane->aah->Prop)
def mm:Tr->aD->ane->aah->Prop
 | .leaf,S,g,w=>∀w1,R S w w1->Stop S g w1
 | .node f,S,g,w=>g.status=.running/\∀w1,R S w w1->∃S' g' w' es,ant P main g w1=.go g' w' es/\D S S' w1 w' es/\mm (f w1) S' g' w'
def Way(S:aD)(g:ane)(w:aah):Prop:=∃τ,mm P main R D Stop τ S g w
end
structure Terms(R:aD->aah->aah->Prop):Prop where
 refl:∀S w,R S w w
 T:∀{S a b d},R S a b->R S b d->R S a d
section
variable{P:ag0}{main:Bool}{R:aD->aah->aah->Prop}{D:aD->aD->aah->aah->Array anu->Prop}{Stop nA:aD->ane->aah->Prop}{S:aD}{g g':ane}{w w1:aah}
theorem mm.rely(T:Terms R){τ:Tr}(h:mm P main R D Stop τ S g w)(k:R S w w1):mm P main R D Stop τ S g w1:=by
 cases τ with
 |leaf=>exact fun w2 k2=>h w2 (T.T k k2)
 |node f=>exact⟨h.1,fun w2 k2=>h.2 w2 (T.T k k2)⟩
theorem Way.stop(h:∀w1,R S w w1->Stop S g w1):Way P main R D Stop S g w:=⟨.leaf,h⟩
theorem Way.step(hs:g.status=.running)(h:∀w1,R S w w1->∃S' g' w' es,ant P main g w1=.go g' w' es/\D S S' w1 w' es/\Way P main R D Stop S' g' w'):Way P main R D Stop S g w:=by
 have:∀w1,∃τ,R S w w1->∃S' g' w' es,ant P main g w1=.go g' w' es/\D S S' w1 w' es/\mm P main R D Stop τ S' g' w':=by
  intro w1
  by_cases hr:R S w w1
  ·obtain⟨S',g',w',es,h1,h2,τ,h3⟩:=h w1 hr
   exact⟨τ,fun _=>⟨S',g',w',es,h1,h2,h3⟩⟩
  ·exact⟨.leaf,fun k=>absurd k hr⟩
 obtain⟨f,hf⟩:=Classical.axiomOfChoice this;exact⟨.node f,hs,hf⟩
theorem Way.mono(h:Way P main R D Stop S g w)(k:∀S g w,Stop S g w->nA S g w):Way P main R D nA S g w:=by
 obtain⟨τ,h⟩:=h;refine⟨τ,?_⟩
 induction τ generalizing S g w with
 |leaf=>exact fun w1 hr=>k _ _ _ (h w1 hr)
 |node f ih=>
  refine⟨h.1,fun w1 hr=>?_⟩;obtain⟨S',g',w',es,h1,h2,h3⟩:=h.2 w1 hr;exact⟨S',g',w',es,h1,h2,ih w1 h3⟩
theorem Way.bind(T:Terms R)(h:Way P main R D Stop S g w)(k:∀S g w,Stop S g w->Way P main R D nA S g w):Way P main R D nA S g w:=by
 obtain⟨τ,h⟩:=h
 induction τ generalizing S g w with
 |leaf=>exact k _ _ _ (h w (T.refl _ _))
 |node f ih=>
  refine Way.step h.1 fun w1 hr=>?_
  obtain⟨S',g',w',es,h1,h2,h3⟩:=h.2 w1 hr;exact⟨S',g',w',es,h1,h2,ih w1 h3⟩
theorem Way.aj5{R':aD->aah->aah->Prop}{D':aD->aD->aah->aah->Array anu->Prop}(h:Way P main R D Stop S g w)(hR:∀S w w1,R' S w w1->R S w w1)(hD:∀S S' w w' es,D S S' w w' es->D' S S' w w' es)(hS:∀S g w,Stop S g w->nA S g w):Way P main R' D' nA S g w:=by
 obtain⟨τ,h⟩:=h;refine⟨τ,?_⟩
 induction τ generalizing S g w with
 |leaf=>exact fun w1 hr=>hS _ _ _ (h w1 (hR _ _ _ hr))
 |node f ih=>
  refine⟨h.1,fun w1 hr=>?_⟩;obtain⟨S',g',w',es,h1,h2,h3⟩:=h.2 w1 (hR _ _ _ hr);exact⟨S',g',w',es,h1,hD _ _ _ _ _ h2,ih w1 h3⟩
variable{H:aah->Prop}
theorem Way.vu{R':aah->aah->Prop}{D':aah->aah->Array anu->Prop}{Stp:ane->aah->Prop}{n:Nat}(h:Goes P main R' D' Stp n g w)(_:Terms R)(hR:∀a b,R S a b->R' a b)(hD:∀a b es,D' a b es->D S S a b es)(hS:∀g w,Stp g w->Stop S g w):Way P main R D Stop S g w:=by
 induction n generalizing g w with
 |zero=>exact .stop fun w1 k=>hS _ _ (h w1 (hR _ _ k))
 |succ n ih=>
  rcases h with h|⟨h1,h2⟩
  ·exact .stop fun w1 k=>hS _ _ (h w1 (hR _ _ k))
  ·refine .step h1 fun w1 k=>?_
   have:=h2 w1 (hR _ _ k)
   revert this
   cases hgo:ant P main g w1<;>simp only[GStep.goes,false_implies]
   rename_i g' w' es
   exact fun⟨d,x⟩=>⟨S,g',w',es,rfl,hD _ _ _ d,ih x⟩
end
open Go.ConcN (PermW fork_knows RelBy)
structure TL(Sh eM Rd:Loc->Prop)(own:Nat->Loc->Prop)(J:Nat->Prop)(a:akr)(B:Nat)(t:Trace):Prop where
 quiet:Quiet Sh t
 own:∀g,J g->∀l,own g l->Perm t g l
 rd:∀g,J g->∀l,Rd l->PermW t g l
 zero:∀l,Rd l->PermW t 0 l
 known:∀i x,aok t i=some x->x.loc.isMemory=true->Knows t 0 i\/((Sh x.loc\/eM x.loc)/\x.kind=.atomic)\/∃g,J g/\t.g? i=some g/\(x.kind=.atomic->Sh x.loc)
 nr:∀said,¬ Race said t
 over:∀i g,t.g? i=some g->g≠0->¬ J g->t.counts i->∃j,t.g? j=some 0/\an9 t i j
 seen:∀op∈t,op.act.low B
 norel:NoRelease a t
structure Apt(Sh Rd:Loc->Prop)(own:Nat->Loc->Prop)(J:Nat->Prop):Prop where
 one:∀g g' l,J g->J g'->own g l->own g' l->g=g'
 ownRd:∀g l,J g->own g l->¬ Rd l
 ownSh:∀g l,J g->own g l->¬ Sh l
 rdSh:∀l,Rd l->¬ Sh l
 mSh:∀l,Sh l->l.isMemory=true
 mRd:∀l,Rd l->l.isMemory=true
 ajx:∀g l,J g->own g l->l.isMemory=true
def OkG(Sh Rd:Loc->Prop)(own:Nat->Loc->Prop)(a:akr)(B:Nat)(g:Nat)(op:MemOp):Prop:=
 op.g=g/\op.act.low B/\op.act≠.mark (.release a)/\
 ∀x,op.act.touch?=some x->x.loc.isMemory=true->(Sh x.loc/\x.kind=.atomic)\/(own g x.loc/\x.kind=.plain)\/(Rd x.loc/\x.write=false/\x.kind=.plain)
def OkM(Sh Rd:Loc->Prop)(a:akr)(B:Nat)(op:MemOp):Prop:=
 op.g=0/\op.act.low B/\op.act≠.mark (.release a)/\
 ∀x,op.act.touch?=some x->x.loc.isMemory=true->(Sh x.loc/\x.kind≠.plain)\/(Rd x.loc/\x.write=false/\x.kind=.plain)
section
variable{Sh eM Rd:Loc->Prop}{own ajG:Nat->Loc->Prop}{J:Nat->Prop}{a:akr}{B B':Nat}{t u:Trace}
theorem uw{t:Trace}{B:Nat}(h:∀op∈t,op.act.low B){l:Loc}(hl:¬ l.low B)(i:Nat)(x:Touch)(hx:aok t i=some x):x.loc≠l:=by
 rintro rfl;obtain⟨op,ho,vU⟩:=aop hx;have:=h op (mem_of_getElem? ho)
 revert vU this
 cases op.act with
 |access e=>intro e1 e2;cases e1;exact hl e2
 |mark m=>cases m<;>intro e1 e2<;>first|(cases e1;done)|(cases e1;exact hl e2)
 |_=>intro e1;cases e1
theorem TL.grow(h:TL Sh eM Rd own J a B t)(hg:∀g,J g->∀l,ajG g l->own g l\/∀i x,aok t i=some x->x.loc≠l):TL Sh eM Rd ajG J a B t:=
 {h with own:=fun g j l hl=>(hg g j l hl).elim (h.own g j l) fun k i x hx e=>absurd e (k i x hx)}
theorem TL.mono(h:TL Sh eM Rd own J a B t)(hB:B<=B'):TL Sh eM Rd own J a B' t:={h with seen:=fun op ho=>MemAct.low_mono hB (h.seen op ho)}
theorem Da{J:Nat->Prop}{t u:Trace}(h:∀i g,t.g? i=some g->g≠0->¬ J g->t.counts i->∃j,t.g? j=some 0/\an9 t i j)(hu:∀op∈u,op.g=0\/J op.g\/op.act.touch?=none)(i g:Nat)(hg:(t++u).g? i=some g)(h0:g≠0)(hJ:¬ J g)(hc:(t++u).counts i):∃j,(t++u).g? j=some 0/\an9 (t++u) i j:=by
 rcases af8 i t.size with aE|Qk
 ·rw[apD aE]at hg
  obtain⟨j,hj,hb⟩:=h i g hg h0 hJ ((counts_old aE).1 hc)
  have Qm:j<t.size:=by
   unfold apO at hj;obtain⟨z,hz,_⟩:=amU.1 hj;exact lt_size_of_getElem? hz
  exact⟨j,by rw[apD Qm];exact hj,hb_app u hb⟩
 ·obtain⟨x,hx,_⟩:=hc
  obtain⟨op,a_,vU⟩:=aop hx;rcases getElem?_append_cases a_ with⟨hi,_⟩|⟨_,RY⟩
  ·omega
  ·have hgo:op.g=g:=by simpa[apO,a_]using hg
   (rcases hu op RY with k|k|k);(·exact absurd (hgo▸k) h0);(·exact absurd (hgo▸k) hJ);(·rw[k]at vU;cases vU)
theorem TL.appW(A:Apt Sh Rd own J){g:Nat}(hJ:J g)(h:TL Sh eM Rd own J a B t)(hu:∀op∈u,OkG Sh Rd own a B g op):TL Sh eM Rd own J a B (t++u):=by
 refine⟨h.quiet.app fun op a_ x hx hs=>?_,fun g' j' l hl=>(h.own g' j' l hl).app fun op a_ b hb e=>?_,fun g' j' l hl=>(h.rd g' j' l hl).app fun op a_ b hb e hw=>?_,
  fun l hl=>(h.zero l hl).app fun op a_ b hb e hw=>?_,fun i x hx hm=>?_,fun said=>?_,Da h.over fun op a_=>.inr (.inl ((hu op a_).1▸hJ)),seen_app h.seen fun op a_=>(hu op a_).2.1,h.norel.app fun op a_=>(hu op a_).2.2.1⟩
 ·rcases(hu op a_).2.2.2 x hx (A.mSh _ hs)with⟨_,k⟩|⟨k,_⟩|⟨k,_,_⟩
  ·rw[k];exact⟨by simp,by simp⟩
  ·exact absurd hs (A.ownSh g _ hJ k)
  ·exact absurd hs (A.rdSh _ k)
 ·rcases(hu op a_).2.2.2 b hb (e▸A.ajx g' l j' hl)with⟨k,_⟩|⟨k,_⟩|⟨k,_,_⟩
  ·exact absurd (e▸k) (A.ownSh g' l j' hl)
  ·rw[(hu op a_).1];exact A.one g g' l hJ j' (e▸k) hl
  ·exact absurd (e▸k) (A.ownRd g' l j' hl)
 ·rcases(hu op a_).2.2.2 b hb (e▸A.mRd l hl)with⟨k,_⟩|⟨k,_⟩|⟨_,k,_⟩
  ·exact absurd (e▸k) (A.rdSh l hl)
  ·exact absurd hl (A.ownRd g l hJ (e▸k))
  ·rw[k]at hw;cases hw
 ·rcases(hu op a_).2.2.2 b hb (e▸A.mRd l hl)with⟨k,_⟩|⟨k,_⟩|⟨_,k,_⟩
  ·exact absurd (e▸k) (A.rdSh l hl)
  ·exact absurd hl (A.ownRd g l hJ (e▸k))
  ·rw[k]at hw;cases hw
 ·obtain⟨op,a_,vU⟩:=aop hx
  rcases getElem?_append_cases a_ with⟨hi,aeW⟩|⟨_,RY⟩
  ·rcases h.known i x (by rw[touchAt_of aeW];exact vU) hm with k|k|⟨g',k1,k2,k3⟩
   ·exact .inl (k.app u)
   ·exact .inr (.inl k)
   ·exact .inr (.inr ⟨g',k1,by rw[apD hi];exact k2,k3⟩)
  ·refine .inr (.inr ⟨g,hJ,by simp[apO,a_,(hu op RY).1],fun k=>?_⟩)
   (rcases(hu op RY).2.2.2 x vU hm with⟨s,_⟩|⟨_,s⟩|⟨_,_,s⟩);(·exact s);(·rw[k]at s;cases s);(·rw[k]at s;cases s)
 ·refine noRace_append (h.nr said) (fun op a_=>(hu op a_).1) (fun i x hx op a_ b hb hc=>?_)
  rcases(hu op a_).2.2.2 b hb (hc.1▸hc.2.1)with⟨k,k2⟩|⟨k,_⟩|⟨k,k2,_⟩
  ·exact h.quiet.known k (by rw[k2];simp) (by rw[k2];simp) i x hx hc
  ·exact h.own g hJ b.loc k i x hx hc.1
  ·exact h.rd g hJ b.loc k i x hx hc.1 (hc.2.2.1.resolve_right (by simp[k2]))
theorem TL.alT(A:Apt Sh Rd own J)(h:TL Sh eM Rd own J a B t)(hu:∀op∈u,OkM Sh Rd a B op):TL Sh eM Rd own J a B (t++u):=by
 refine⟨h.quiet.app fun op a_ x hx hs=>?_,fun g' j' l hl=>(h.own g' j' l hl).app fun op a_ b hb e=>?_,fun g' j' l hl=>(h.rd g' j' l hl).app fun op a_ b hb e hw=>?_,
  fun l hl=>(h.zero l hl).app fun op a_ b hb e hw=>(hu op a_).1,fun i x hx hm=>?_,fun said=>?_,Da h.over fun op a_=>.inl (hu op a_).1,seen_app h.seen fun op a_=>(hu op a_).2.1,h.norel.app fun op a_=>(hu op a_).2.2.1⟩
 ·rcases(hu op a_).2.2.2 x hx (A.mSh _ hs)with⟨_,k⟩|⟨k,_,_⟩
  ·exact⟨k,fun _=>(hu op a_).1⟩
  ·exact absurd hs (A.rdSh _ k)
 ·rcases(hu op a_).2.2.2 b hb (e▸A.ajx g' l j' hl)with⟨k,_⟩|⟨k,_,_⟩
  ·exact absurd (e▸k) (A.ownSh g' l j' hl)
  ·exact absurd (e▸k) (A.ownRd g' l j' hl)
 ·rcases(hu op a_).2.2.2 b hb (e▸A.mRd l hl)with⟨k,_⟩|⟨_,k,_⟩
  ·exact absurd (e▸k) (A.rdSh l hl)
  ·rw[k]at hw;cases hw
 ·obtain⟨op,a_,vU⟩:=aop hx
  rcases getElem?_append_cases a_ with⟨hi,aeW⟩|⟨_,RY⟩
  ·rcases h.known i x (by rw[touchAt_of aeW];exact vU) hm with k|k|⟨g',k1,k2,k3⟩
   ·exact .inl (k.app u)
   ·exact .inr (.inl k)
   ·exact .inr (.inr ⟨g',k1,by rw[apD hi];exact k2,k3⟩)
  ·have:=knows_own a_
   rw[(hu op RY).1]at this;exact .inl this
 ·refine noRace_append (h.nr said) (fun op a_=>(hu op a_).1) (fun i x hx op a_ b hb hc=>?_)
  rcases(hu op a_).2.2.2 b hb (hc.1▸hc.2.1)with⟨k,k2⟩|⟨k,k2,_⟩
  ·exact h.quiet.known k k2 (fun _=>rfl) i x hx hc
  ·exact h.zero b.loc k i x hx hc.1 (hc.2.2.1.resolve_right (by simp[k2]))
theorem TL.adG(h:TL Sh eM Rd own J a B t)(hu:∀op∈u,op.act.touch?=none/\op.act.low B/\op.act≠.mark (.release a)):TL Sh eM Rd own J a B (t++u):=by
 have no:∀op∈u,∀b,op.act.touch?=some b->False:=fun op a_ b hb=>by rw[(hu op a_).1]at hb;cases hb
 have old:∀{i:Nat} {x:Touch},aok (t++u) i=some x->i<t.size/\aok t i=some x:=by
  intro i x hx;obtain⟨z,hz,hzx⟩:=aop hx;rcases getElem?_append_cases hz with⟨hi,hz'⟩|⟨_,hzu⟩
  ·exact⟨hi,by rw[touchAt_of hz'];exact hzx⟩
  ·exact(no z hzu x hzx).elim
 refine⟨h.quiet.app fun op a_ x hx _=>(no op a_ x hx).elim,fun g' j' l hl=>(h.own g' j' l hl).app fun op a_ b hb _=>(no op a_ b hb).elim,
  fun g' j' l hl=>(h.rd g' j' l hl).app fun op a_ b hb _ _=>(no op a_ b hb).elim,fun l hl=>(h.zero l hl).app fun op a_ b hb _ _=>(no op a_ b hb).elim,fun i x hx hm=>?_,fun said=>?_,
  Da h.over fun op a_=>.inr (.inr (hu op a_).1),seen_app h.seen fun op a_=>(hu op a_).2.1,h.norel.app fun op a_=>(hu op a_).2.2⟩
 ·obtain⟨hi,hx'⟩:=old hx
  rcases h.known i x hx' hm with k|k|⟨g',k1,k2,k3⟩
  ·exact .inl (k.app u)
  ·exact .inr (.inl k)
  ·exact .inr (.inr ⟨g',k1,by rw[apD hi];exact k2,k3⟩)
 ·rintro⟨i,j,hij,⟨x,y,hx,hy,hc⟩,n1,n2⟩
  obtain⟨hi,hx'⟩:=old hx;obtain⟨hj,hy'⟩:=old hy;exact h.nr said ⟨i,j,hij,⟨x,y,hx',hy',hc⟩,fun e=>n1 (hb_app u e),fun e=>n2 (hb_app u e)⟩
theorem TL.fork(h:TL Sh eM Rd own J a B t){k:Nat}{x y:MemOp}(hx:x.g=0/\x.act=.go k)(hy:y.g=k/\y.act=.start)(hk:¬ J k)(d0:Deaf t 0=0)(dk:Deaf t k=0)(eE:∀l,¬ own k l)(hov:∀i,t.g? i≠some k):TL Sh eM Rd own (fun g=>J g\/g=k) a B (t++#[x,y]):=by
 have hn:∀op∈#[x,y],op.act.touch?=none/\op.act.low B/\op.act≠.mark (.release a):=by
  intro op a_;simp only[List.mem_toArray,ab',List.not_mem_nil,or_false]at a_;rcases a_ with rfl|rfl
  ·rw[hx.2];exact⟨rfl,trivial,by simp⟩
  ·rw[hy.2];exact⟨rfl,trivial,by simp⟩
 have h1:=h.adG hn
 have old:∀{i:Nat} {z:Touch},aok (t++#[x,y]) i=some z->aok t i=some z:=by
  intro i z hz;obtain⟨o,ho,hoz⟩:=aop hz;rcases getElem?_append_cases ho with⟨hi,EA⟩|⟨_,Gr⟩
  ·rw[touchAt_of EA];exact hoz
  ·rw[(hn o Gr).1]at hoz;cases hoz
 exact {h1 with
  own:=fun g j l hl=>j.elim (fun j=>h1.own g j l hl) fun e=>absurd (e▸hl) (eE l)
  rd:=fun g j l hl=>j.elim (fun j=>h1.rd g j l hl) fun e i z hz e2 hw=>by subst e;exact fork_knows hx hy d0 dk (h.zero l hl i z (old hz) e2 hw)
  known:=fun i z hz hm=>(h1.known i z hz hm).imp id fun k=>k.imp id fun⟨g,a1,a2⟩=>⟨g,.inl a1,a2⟩
  over:=fun i g hg h0 hJ hc=>h1.over i g hg h0 (fun j=>hJ (.inl j)) hc}
theorem TL.join(h:TL Sh eM Rd own J a B t)(d0:Deaf t 0=0){q:Nat}(hq:t.act? q=some (.mark (.acquire a)))(hg:t.g? q=some 0)(hh:t.heard q)(hr:∀g,J g->∃r,RelBy a t g r/\r<q):Past (fun l=>eM l\/Sh l) B t:=by
 have ahN:∀{g r:Nat},RelBy a t g r->r<q->an9 t r q:=fun hr Y2=>.single (.inr ⟨.marked Y2 (.inr hr.act) hq (fun k _ _=>h.norel k),hr.heard,hh⟩)
 have key:∀{g r i:Nat},RelBy a t g r->r<q->t.g? i=some g->i<=r->an9 t i q:=by
  intro g r i hr Y2 hi hle;rcases anU hle with aE|rfl
  ·exact .T (.single (.inl ⟨aE,g,hi,hr.g⟩)) (ahN hr Y2)
  ·exact ahN hr Y2
 obtain⟨zq,hzq,hzg⟩:=amU.1 hg;refine⟨h.nr,fun i x hx hm=>?_,fun i g hi h0 hc=>?_,d0,h.seen⟩
 ·rcases h.known i x hx hm with k|⟨k,k2⟩|⟨g,j,k,k2⟩
  ·exact .inl k
  ·exact .inr ⟨k.symm,k2⟩
  ·obtain⟨r,hr,Y2⟩:=hr g j
   rcases af8 r i with aE|Qk
   ·have hn:=hr.after i aE k
    by_cases ha:x.kind=.atomic;(·exact .inr ⟨.inr (k2 ha),ha⟩);(·exact absurd ⟨x,hx,hm,.inl ha⟩ hn)
   ·exact .inl ⟨q,zq,hzq,hzg,.inr (key hr Y2 k Qk)⟩
 ·by_cases j:J g
  ·obtain⟨r,hr,Y2⟩:=hr g j
   refine⟨q,hg,key hr Y2 hi (an' fun aE=>hr.after i aE hi hc)⟩
  ·exact h.over i g hi h0 j hc
end
open Go.ConcN (WgLive)
open Go.ConcR (KK WgAt stA smA rd wr mk)
structure bw where
 P:ag0
 ty:aat
 wg:Nat
 ch:Nat
 oa:Nat
 n:Nat
 T:Nat
 L:Nat
 N0:Nat
 Y9:aat
 zero:aai
 val:Nat->aai
 Rd:aD
 W:aah
 eM:Loc->Prop
variable(E:bw)
structure bw.R(S:aD)(w w1:aah):Prop where
 blocks:∀b,S b->w1.heap[b]?=w.heap[b]?
 size:w.heap.size<=w1.heap.size
 os:w1.os=w.os
 live:WgLive E.ty E.wg w->WgLive E.ty E.wg w1
inductive AT(Rd S:aD):anu->Prop
 |read {a:akr}:S a.block->AT Rd S ⟨.cell a,false,false⟩
 |write {a:akr}:S a.block->¬ Rd a.block->AT Rd S ⟨.cell a,true,false⟩
 |obj {r:Nat}:S r->AT Rd S ⟨.obj r,false,false⟩
 |set {r:Nat}:S r->¬ Rd r->AT Rd S ⟨.obj r,true,false⟩
 |ext (f:ani):AT Rd S ⟨.mark (.extern f),false,true⟩
 |room:AT Rd S ⟨.mark .noRoom,false,true⟩
 |O:AT Rd S ⟨.output,true,false⟩
def EvM(Rd S:aD)(wg:Nat)(e:anu):Prop:=AT Rd S e\/∃a:akr,a.block=wg/\(e=⟨.mark (.read a),false,true⟩\/e=⟨.mark (.write a),false,true⟩)
structure DX(Rd:aD)(Ev:aD->anu->Prop)(S S':aD)(w w':aah)(es:Array anu):Prop where
 sub:∀b,S b->S' b
 new:∀b,S' b->S b\/(w.heap.size<=b/\b<w'.heap.size)
 size:w.heap.size<=w'.heap.size
 other:∀b,b<w.heap.size->(Rd b\/¬ S b)->w'.heap[b]?=w.heap[b]?
 os:w'.os=w.os
 O:w'.output=w.output
 tape:w'.tape=w.tape
 evs:∀e∈es,Ev S' e
def bw.DW:aD->aD->aah->aah->Array anu->Prop:=DX E.Rd (AT E.Rd)
def bw.DM:aD->aD->aah->aah->Array anu->Prop:=fun S S' w w' es=>S'=S/\w'=w/\∀e∈es,EvM E.Rd S E.wg e
def DQ:aD->aD->aah->aah->Array anu->Prop:=fun S S' w w' es=>S'=S/\w'=w/\es=#[]
variable{E}
theorem bw.R.refl(S:aD)(w:aah):E.R S w w:=⟨fun _ _=>rfl,ahP _,rfl,id⟩
theorem bw.R.T{S:aD}{a b d:aah}(h:E.R S a b)(k:E.R S b d):E.R S a d:=
 ⟨fun x e=>(k.blocks x e).T (h.blocks x e),aiC h.size k.size,k.os.T h.os,k.live ∘ h.live⟩
theorem bw.bg:Terms E.R:=⟨bw.R.refl,bw.R.T⟩
theorem bw.R.at(S:aD)(w:aah)(d:Nat):E.R S w (w.at d):=⟨fun _ _=>rfl,ahP _,rfl,id⟩
theorem DX.refl{Rd:aD}{Ev:aD->anu->Prop}(S:aD)(w:aah):DX Rd Ev S S w w #[]:=
 ⟨fun _=>id,fun _ h=>.inl h,ahP _,fun _ _ _=>rfl,rfl,rfl,rfl,fun e he=>by simp at he⟩
theorem bw.DM.refl(S:aD)(w:aah):E.DM S S w w #[]:=⟨rfl,rfl,fun e he=>by simp at he⟩
variable(E)
abbrev bw.pQ(Stop:aD->ane->aah->Prop):=Way E.P false E.R E.DW Stop
def bw.Wd4(_:aD)(g:ane)(w:aah):Prop:=
 g.status=.running/\mayWake E.P g=true/\(WgAt E.ty E.wg w 0 0->∃g',ant E.P false g w=.go g' (w.setCell (smA E.wg) (.int .u32 1)) (semEvents (smA E.wg))/\∃q,QuitsD E.P q 1 g')
def bw.Wd3(S:aD)(g:ane)(w:aah):Prop:=
 g.status=.running/\(WgAt E.ty E.wg w 1 0->∃g',ant E.P false g w=.go g' (w.setCell (stA E.wg) (.int .u64 0)) #[wr (stA E.wg)]/\Way E.P false E.R DQ E.Wd4 S g' (w.setCell (stA E.wg) (.int .u64 0)))
def bw.Wd2(S:aD)(g:ane)(w:aah):Prop:=
 g.status=.running/\(WgAt E.ty E.wg w 1 0->∃g',ant E.P false g w=.go g' w #[rd (stA E.wg)]/\Way E.P false E.R DQ E.Wd3 S g' w)
def bw.Wd1(S:aD)(g:ane)(w:aah):Prop:=
 g.status=.running/\∀v wt:Nat,wt<=1->v<2147483647->WgAt E.ty E.wg w ((v+1)*KK+wt) 0->
  ∃g',ant E.P false g w=.go g' (w.setCell (stA E.wg) (.int .u64 (v*KK+wt))) #[rd (stA E.wg),wr (stA E.wg)]/\
   ((v=0/\wt=1)->Way E.P false E.R DQ E.Wd2 S g' (w.setCell (stA E.wg) (.int .u64 (v*KK+wt))))/\(¬ (v=0/\wt=1)->∃q,QuitsD E.P q 1 g')
def bw.Wk1(S:aD)(g:ane)(w:aah):Prop:=
 g.status=.running/\∃g',ant E.P false g w=.go g' w #[anT .disable]/\Way E.P false E.R DQ E.Wd1 S g' w
def bw.Wr0(S:aD)(g:ane)(w:aah):Prop:=
 g.status=.running/\∃g',ant E.P false g w=.go g' w #[anT (.releaseMerge (stA E.wg))]/\Way E.P false E.R DQ E.Wk1 S g' w
def bw.Wst(i:Nat)(Next:aD->ane->aah->Prop)(S:aD)(g:ane)(w:aah):Prop:=
 g.status=.running/\(∀cs,w.heap[E.oa]?=some (.cells cs E.Y9)->cs.size=E.T->∃g',ant E.P false g w=.go g' (w.setCell ⟨E.oa,i,none⟩ (E.val i)) #[⟨.cell ⟨E.oa,i,none⟩,true,false⟩]/\E.pQ Next S g' (w.setCell ⟨E.oa,i,none⟩ (E.val i)))
def bw.BZ:Nat->aD->ane->aah->Prop
 |0,S,g,w=>g.status=.running/\g.offers=none/\ant E.P false g w=.comm g #[rcase E.ch E.zero] true (.recv true) w #[]/\E.pQ E.Wr0 S (aoj g (recvd true E.zero false)) w
 |f+1,S,g,w=>g.status=.running/\g.offers=none/\ant E.P false g w=.comm g #[rcase E.ch E.zero] true (.recv true) w #[]/\E.pQ E.Wr0 S (aoj g (recvd true E.zero false)) w/\
  ∀i,i<E.T->E.pQ (E.Wst i (bw.BZ f)) S (aoj g (recvd true (.int .i64 i) true)) w
abbrev bw.jg(Stop:aD->ane->aah->Prop):=Way E.P true E.R E.DM Stop E.Rd
section
variable(Fin:ane->Prop)(Anch:ane->aah->Prop)
def bw.gT(_:aD)(g:ane)(w:aah):Prop:=g.status=.running/\∃g',ant E.P true g w=.go g' w #[anT (.acquire (stA E.wg))]/\Fin g'
def bw.Mke(_:aD)(g:ane)(w:aah):Prop:=g.status=.running/\∃g',ant E.P true g w=.go g' w #[anT .enable]/\E.jg (E.gT Fin) g' w
def bw.Mw4(_:aD)(g:ane)(w:aah):Prop:=g.status=.running/\(WgAt E.ty E.wg w 0 0->∃g',ant E.P true g w=.go g' w #[rd (stA E.wg)]/\E.jg (E.Mke Fin) g' w)
def bw.Mw3(_:aD)(g:ane)(w:aah):Prop:=
 g.status=.running/\g.offers=none/\((∃st,WgAt E.ty E.wg w st 0)->ant E.P true g w=.go {g with status:=.blocked} w #[])/\
  (WgAt E.ty E.wg w 0 1->∃g',ant E.P true g w=.go g' (w.setCell (smA E.wg) (.int .u32 0)) (semEvents (smA E.wg))/\E.jg (E.Mw4 Fin) g' (w.setCell (smA E.wg) (.int .u32 0)))
def bw.Mw2(vs:Nat)(_:aD)(g:ane)(w:aah):Prop:=
 g.status=.running/\∀v:Nat,v<2147483648->WgAt E.ty E.wg w (v*KK) 0->
  (v=vs->∃g',ant E.P true g w=.go g' (w.setCell (stA E.wg) (.int .u64 (v*KK+1))) #[rd (stA E.wg),wr (stA E.wg)]/\E.jg (E.Mw3 Fin) g' (w.setCell (stA E.wg) (.int .u64 (v*KK+1))))/\
  (v≠vs->∃g',ant E.P true g w=.go g' w #[rd (stA E.wg)]/\E.jg (fun _=>Anch) g' w)
def bw.YT(_:aD)(g:ane)(w:aah):Prop:=
 g.status=.running/\∀v:Nat,v<2147483648->WgAt E.ty E.wg w (v*KK) 0->∃g',ant E.P true g w=.go g' w #[rd (stA E.wg)]/\
  (v=0->E.jg (E.Mke Fin) g' w)/\(v≠0->E.jg (E.Mw2 Fin Anch v) g' w)
def bw.Mkd(_:aD)(g:ane)(w:aah):Prop:=g.status=.running/\∃g',ant E.P true g w=.go g' w #[anT .disable]/\E.jg (fun _=>Anch) g' w
def bw.Mcl(_:aD)(g:ane)(w:aah):Prop:=
 g.status=.running/\mayWake E.P g=true/\∀s r tm,w.heap[E.ch]?=some (.chan 0 #[] false s r tm)->∃g',ant E.P true g w=.go g' (w.shut E.ch s r tm) #[⟨.obj E.ch,false,true⟩,⟨.obj E.ch,true,true⟩]/\E.jg (E.Mkd Anch) g' (w.shut E.ch s r tm)
def bw.Q6:Nat->aD->ane->aah->Prop
 |0=>E.Mcl Anch
 |k+1=>fun _ g w=>g.status=.running/\g.offers=none/\ant E.P true g w=.comm g #[scase E.ch (.int .i64 ((E.T - (k+1):Nat):Int)) undef] true .send w #[]/\E.jg (bw.Q6 k) (aoj g undef) w
def bw.Mgo(Next:aD->ane->aah->Prop)(_:aD)(g:ane)(w:aah):Prop:=
 g.status=.running/\∃g' child,ant E.P true g w=.spawn g' child w #[]/\child.status=.running/\E.pQ (E.BZ E.T) E.Rd child w/\E.jg Next g' w
def bw.ahn(Next:aD->ane->aah->Prop)(_:aD)(g:ane)(w:aah):Prop:=g.status=.running/\∃g',ant E.P true g w=.go g' w #[anT .enable]/\E.jg (E.Mgo Next) g' w
def bw.Ma1(Next:aD->ane->aah->Prop)(_:aD)(g:ane)(w:aah):Prop:=
 g.status=.running/\∀v:Nat,v<2147483647->WgAt E.ty E.wg w (v*KK) 0->
  ∃g',ant E.P true g w=.go g' (w.setCell (stA E.wg) (.int .u64 ((v+1)*KK))) #[rd (stA E.wg),wr (stA E.wg)]/\E.jg (E.ahn Next) g' (w.setCell (stA E.wg) (.int .u64 ((v+1)*KK)))
def bw.ady(Next:aD->ane->aah->Prop)(_:aD)(g:ane)(w:aah):Prop:=g.status=.running/\∃g',ant E.P true g w=.go g' w #[anT .disable]/\E.jg (E.Ma1 Next) g' w
def bw.Ue:Nat->aD->ane->aah->Prop
 |0=>E.Q6 Anch E.T
 |r+1=>E.ady (bw.Ue r)
end
end Go.gT
namespace Go.dO
open Go.Proofs.YtjligkmjlenofaaGreatDoor(kR oM dC aS kS zH sP sO mL aP nR bR BL)
open Go
variable{a b k k' a' b':akr}{n first:Nat}{v v':aai}{x y c c':Array aai}{e:anu}{es:Array anu}{u1:aah}
structure Ren where
 rel:Nat->Nat->Prop
 aR:Nat
 fn:∀{a b c},rel a b->rel a c->b=c
 inj:∀{a b c},rel a c->rel b c->a=b
 low:∀{a b},rel a b->(a<=aR\/b<=aR)->a=b
 self:rel aR aR
 eO:Nat->Option Nat
instance:CoeFun Ren fun _=>Nat->Nat->Prop:=⟨Ren.rel⟩
structure Ren.le(r s:Ren):Prop where
 to:∀{a b},r a b->s a b
 eq:r.aR=s.aR
 eO:r.eO=s.eO
theorem Ren.le_refl(r:Ren):r.le r:=⟨fun h=>h,rfl,rfl⟩
theorem Ren.le.E8{r s:Ren}(h:r.le s){a:Nat}(k:r.eO a=none):s.eO a=none:=h.eO▸k
theorem Ren.le_trans{r s t:Ren}(h:r.le s)(k:s.le t):r.le t:=⟨fun x=>k.to (h.to x),h.eq.T k.eq,h.eO.T k.eO⟩
theorem Ren.le.aR{r s:Ren}(h:r.le s)(k:r.aR=n):s.aR=n:=h.eq▸k
inductive AR(r:Ren):akr->akr->Prop
 |mk {b c:Nat} (o:Nat) (s:Option Nat):r b c->AR r ⟨b,o,s⟩ ⟨c,o,s⟩
theorem AR.mono{r s:Ren}(h:r.le s)(x:AR r a b):AR s a b:=by cases x with|mk o t y=>exact .mk o t (h.to y)
theorem AR.add{r:Ren}(x:AR r a b)(n:Nat):AR r (a.add n) (b.add n):=by
 cases x with|mk o t y=>by_cases h:n=0<;>simp only[Addr.add,h,if_true,if_false]<;>exact .mk _ _ y
theorem AR.block{r:Ren}(x:AR r a b):r a.block b.block:=by cases x with|mk o t y=>exact y
theorem AR.off{r:Ren}(x:AR r a b):a.off=b.off:=by cases x with|mk o t y=>rfl
theorem AR.spot{r:Ren}(x:AR r a b):a.spot=b.spot:=by cases x with|mk o t y=>rfl
theorem AR.at{r:Ren}(x:AR r a b)(o:Nat)(s:Option Nat):AR r ⟨a.block,o,s⟩ ⟨b.block,o,s⟩:=.mk _ _ x.block
inductive VR(F:ani->Prop)(r:Ren):aai->aai->Prop
 |bool (b:Bool):VR F r (.bool b) (.bool b)
 |int (k:aoh) (n:Int):VR F r (.int k n) (.int k n)
 |string (s:ByteArray):VR F r (.string s) (.string s)
 |gP:VR F r (.pointer none) (.pointer none)
 |ptr {a b:akr}:AR r a b->VR F r (.pointer (some a)) (.pointer (some b))
 |nj (l c:Nat):VR F r (.slice none l c) (.slice none l c)
 |slice {a b:akr} (l c:Nat):AR r a b->VR F r (.slice (some a) l c) (.slice (some b) l c)
 |wM:VR F r (.map none) (.map none)
 |map {a b:Nat}:r a b->VR F r (.map (some a)) (.map (some b))
 |Cj:VR F r (.chan none) (.chan none)
 |func {f:ani} {x x' y y':Array aai}:F f->x.size=x'.size->(∀(i:Nat) (h:i<x.size) (h':i<x'.size),VR F r x[i] x'[i])->y.size=y'.size->(∀(i:Nat) (h:i<y.size) (h':i<y'.size),VR F r y[i] y'[i])->VR F r (.func (.func f) x y) (.func (.func f) x' y')
 |yield {l l':Nat} {x x' y y':Array aai}:r l l'->x.size=x'.size->(∀(i:Nat) (h:i<x.size) (h':i<x'.size),VR F r x[i] x'[i])->y.size=y'.size->(∀(i:Nat) (h:i<y.size) (h':i<y'.size),VR F r y[i] y'[i])->VR F r (.func (.yield l) x y) (.func (.yield l') x' y')
 |nilFunc:VR F r .nilFunc .nilFunc
 |iface (t:aat) {v v':aai}:VR F r v v'->VR F r (.iface t v) (.iface t v')
 |nilIface:VR F r .nilIface .nilIface
 |agg {x x':Array aai}:x.size=x'.size->(∀(i:Nat) (h:i<x.size) (h':i<x'.size),VR F r x[i] x'[i])->VR F r (.agg x) (.agg x')
 |tuple {x x':Array aai}:x.size=x'.size->(∀(i:Nat) (h:i<x.size) (h':i<x'.size),VR F r x[i] x'[i])->VR F r (.tuple x) (.tuple x')
section
variable{F:ani->Prop}{r s:Ren}
theorem VR.mono(h:r.le s){w:aai}(x:VR F r v w):VR F s v w:=by
 induction x with
 |bool b=>exact .bool b
 |int k n=>exact .int k n
 |string b=>exact .string b
 |gP=>exact .gP
 |ptr a=>exact .ptr (a.mono h)
 |nj l c=>exact .nj l c
 |slice l c a=>exact .slice l c (a.mono h)
 |wM=>exact .wM
 |map a=>exact .map (h.to a)
 |Cj=>exact .Cj
 |func f a _ b _ ih ih'=>exact .func f a ih b ih'
 |yield f a _ b _ ih ih'=>exact .yield (h.to f) a ih b ih'
 |nilFunc=>exact .nilFunc
 |iface t _ ih=>exact .iface t ih
 |nilIface=>exact .nilIface
 |agg a _ ih=>exact .agg a ih
 |tuple a _ ih=>exact .tuple a ih
def vt:aai->Bool
 | .float .. | .complex .. =>false
 |_=>true
def bW(F:ani->Prop)(r:Ren)(x x':Array aai):Prop:=x.size=x'.size/\∀(i:Nat) (h:i<x.size) (h':i<x'.size),VR F r x[i] x'[i]
theorem bW.mono(h:r.le s)(k:bW F r x y):bW F s x y:=⟨k.1,fun i a b=>(k.2 i a b).mono h⟩
theorem bW.nil:bW F r #[] #[]:=⟨rfl,fun i h=>absurd h (ah' i)⟩
theorem VR.undef:VR F r Go.undef Go.undef:=.tuple rfl fun i h=>absurd h (ah' i)
theorem bW.get?(k:bW F r x y)(i:Nat):(x[i]?=none/\y[i]?=none)\/∃v w,x[i]?=some v/\y[i]?=some w/\VR F r v w:=by
 by_cases h:i<x.size
 ·right;have h':i<y.size:=k.1▸h
  exact⟨x[i],y[i],by simp[h],by simp[h'],k.2 i h h'⟩
 ·left;have h':¬ i<y.size:=k.1▸h
  exact⟨by simp[an' h],by simp[an' h']⟩
theorem bW.getD(k:bW F r x y)(i:Nat){d d':aai}(hd:VR F r d d'):VR F r (x.getD i d) (y.getD i d'):=by
 have e (z:Array aai) (c:aai):z.getD i c=(z[i]?).getD c:=by simp[Array.getD_eq_getD_getElem?]
 rw[e,e];rcases k.get? i with⟨a,b⟩|⟨v,w,a,b,c⟩
 ·rw[a,b];exact hd
 ·rw[a,b];exact c
theorem bW.rN(h:∀i:Nat,(x[i]?=none/\y[i]?=none)\/∃v w,x[i]?=some v/\y[i]?=some w/\VR F r v w):bW F r x y:=by
 have e:x.size=y.size:=by
  apply Nat.le_antisymm
  ·rcases h y.size with⟨a,_⟩|⟨v,w,_,b,_⟩
   ·simpa using a
   ·simp at b
  ·rcases h x.size with⟨_,a⟩|⟨v,w,a,_,_⟩
   ·simpa using a
   ·simp at a
 refine⟨e,fun i a b=>?_⟩;rcases h i with⟨c,_⟩|⟨v,w,c,d,k⟩
 ·simp at c;omega
 ·rw[aht a]at c;rw[aht b]at d
  cases c;cases d;exact k
theorem bW.push(k:bW F r x y){w:aai}(h:VR F r v w):bW F r (x.push v) (y.push w):=by
 refine .rN fun i=>?_
 rw[ans,ans,k.1]
 by_cases e:i=y.size
 ·right;exact⟨v,w,by simp[e],by simp[e],h⟩
 ·simpa[e]using k.get? i
theorem bW.append{x' y':Array aai}(k:bW F r x y)(k':bW F r x' y'):bW F r (x++x') (y++y'):=by
 refine .rN fun i=>?_
 rw[Array.getElem?_append,Array.getElem?_append,k.1];split
 ·exact k.get? i
 ·exact k'.get? _
theorem bW.extract(k:bW F r x y)(a b:Nat):bW F r (x.extract a b) (y.extract a b):=by
 refine .rN fun i=>?_
 rw[Array.getElem?_extract,Array.getElem?_extract,k.1];split
 ·exact k.get? _
 ·exact .inl ⟨rfl,rfl⟩
theorem bW.set{x y:Array aai}(k:bW F r x y)(j:Nat){v w:aai}(h:VR F r v w):bW F r (x.setIfInBounds j v) (y.setIfInBounds j w):=by
 refine .rN fun i=>?_
 rw[ang,ang,k.1];split
 ·split
  ·exact .inr ⟨_,_,rfl,rfl,h⟩
  ·exact .inl ⟨rfl,rfl⟩
 ·exact k.get? _
theorem bW.replicate(n:Nat){w:aai}(h:VR F r v w):bW F r (apE n v) (apE n w):=by
 refine⟨by simp,fun i a b=>by simpa using h⟩
theorem bW.map{α:Type}(xs:Array α){f g:α->aai}(h:∀a∈xs,VR F r (f a) (g a)):bW F r (xs.map f) (xs.map g):=by
 refine⟨by simp,fun i a b=>?_⟩;simp only[Array.getElem_map];exact h _ sP
theorem VR.AY(k:bW F r x y):VR F r (.agg x) (.agg y):=.agg k.1 k.2
theorem VR.tuple'(k:bW F r x y):VR F r (.tuple x) (.tuple y):=.tuple k.1 k.2
theorem bW.one{w:aai}(h:VR F r v w):bW F r #[v] #[w]:=bW.push .nil h
theorem bW.two{w w':aai}(h:VR F r v w)(h':VR F r v' w'):bW F r #[v,v'] #[w,w']:=bW.push (.one h) h'
theorem bW.three{w w' u x:aai}(h:VR F r v w)(h':VR F r v' w')(k:VR F r u x):bW F r #[v,v',u] #[w,w',x]:=bW.push (.two h h') k
theorem VR.cells{w:aai}(h:VR F r v w):bW F r v.cells w.cells:=by
 cases h with
 |agg a b=>exact⟨a,b⟩
 |bool b=>exact .one (.bool b)
 |int k n=>exact .one (.int k n)
 |string b=>exact .one (.string b)
 |gP=>exact .one .gP
 |ptr a=>exact .one (.ptr a)
 |nj l c=>exact .one (.nj l c)
 |slice l c a=>exact .one (.slice l c a)
 |wM=>exact .one .wM
 |map a=>exact .one (.map a)
 |Cj=>exact .one .Cj
 |func f a b c d=>exact .one (.func f a b c d)
 |yield f a b c d=>exact .one (.yield f a b c d)
 |nilFunc=>exact .one .nilFunc
 |iface t a=>exact .one (.iface t a)
 |nilIface=>exact .one .nilIface
 |tuple a b=>exact .one (.tuple a b)
inductive iC{α β:Type}(R:α->β->Prop):List α->List β->Prop
 |nil:iC R [] []
 |cons {a b l m}:R a b->iC R l m->iC R (a::l) (b::m)
theorem iC.mono{α β:Type}{R S:α->β->Prop}(h:∀a b,R a b->S a b){l:List α}{m:List β}(k:iC R l m):iC S l m:=by
 induction k with
 |nil=>exact .nil
 |cons a _ ih=>exact .cons (h _ _ a) ih
theorem iC.append{α β:Type}{R:α->β->Prop}{l l':List α}{m m':List β}(k:iC R l m)(k':iC R l' m'):iC R (l++l') (m++m'):=by
 induction k with
 |nil=>exact k'
 |cons a _ ih=>exact .cons a ih
theorem iC.length{α β:Type}{R:α->β->Prop}{l:List α}{m:List β}(k:iC R l m):l.length=m.length:=by
 induction k with
 |nil=>rfl
 |cons a _ ih=>simp[ih]
theorem iC.WN{α β γ:Type}{R:α->β->Prop}(l:List γ){f:γ->α}{g:γ->β}(h:∀c∈l,R (f c) (g c)):iC R (l.map f) (l.map g):=by
 induction l with
 |nil=>exact .nil
 |cons a l ih=>exact .cons (h a sP) (ih fun c hc=>h c (by simp[hc]))
theorem bW.toList(k:bW F r x y):iC (VR F r) x.toList y.toList:=by
 obtain⟨x⟩:=x;obtain⟨y⟩:=y;obtain⟨e,h⟩:=k;simp only[List.size_toArray]at e
 show iC (VR F r) x y
 induction x generalizing y with
 |nil=>cases y with
  |nil=>exact .nil
  |cons b y=>simp at e
 |cons a x ih=>cases y with
  |nil=>simp at e
  |cons b y=>
   refine .cons (by simpa using h 0 sP sP) (ih y (fun i p q=>?_) (by simpa using e));have:=h (i+1) (by simpa using p) (by simpa using q);simpa using this
theorem bW.abe{x y:List aai}(k:iC (VR F r) x y):bW F r x.toArray y.toArray:=by
 refine .rN fun i=>?_
 simp only[List.getElem?_toArray]
 induction k generalizing i with
 |nil=>exact .inl ⟨rfl,rfl⟩
 |cons a _ ih=>cases i with
  |zero=>exact .inr ⟨_,_,rfl,rfl,a⟩
  |succ i=>simpa using ih i
end
inductive TR(F:ani->Prop)(r:Ren):Target->Target->Prop
 |func {f:ani} {c c':Array aai}:F f->bW F r c c'->TR F r (.fn (.func f) c) (.fn (.func f) c')
 |yield {l l':Nat} {c c':Array aai}:r l l'->bW F r c c'->TR F r (.fn (.yield l) c) (.fn (.yield l') c')
 |nil:TR F r .nil .nil
 |collected {a b:Nat}:r a b->TR F r (.collected a) (.collected b)
structure DR(F:ani->Prop)(r:Ren)(d d':Deferred):Prop where
 target:TR F r d.target d'.target
 args:bW F r d.args d'.args
structure ER(F:ani->Prop)(r:Ren)(e e':MapEntry):Prop where
 key:VR F r e.key e'.key
 val:VR F r e.val e'.val
 born:e.born=e'.born
structure LR(F:ani->Prop)(C:anB->Prop)(r:Ren)(l l':Loop):Prop where
 state:l.state=l'.state
 pending:l.pending=l'.pending
 pend:∀c,l.pending=some c->C c
 fn:l.fn=l'.fn
 ok:F l.fn
 tmps:bW F r l.tmps l'.tmps
 params:l.params=l'.params
 assign:l.assign=l'.assign
 okA:C l.assign
 body:l.body=l'.body
 okB:C l.body
 defers:r l.defers l'.defers
inductive OR(P:ag0)(F:ani->Prop)(C:anB->Prop)(r:Ren):Obj->Obj->Prop
 |cells {c c':Array aai} (t:aat) (f:Nat×Nat):bW F r c c'->OR P F C r (.cells c t f) (.cells c' t f)
 |view {a a':akr} (t:aat):(∀o v,ao5 P P.depth t o=some v->vt v=true)->AR r a a'->OR P F C r (.view a t) (.view a' t)
 |number {a a':akr} (l:Bool):AR r a a'->OR P F C r (.number a l) (.number a' l)
 |map {es es':Array MapEntry} (k:Nat):iC (ER F r) es.toList es'.toList->OR P F C r (.map es k) (.map es' k)
 |iter (s:ByteArray) (p:Nat):OR P F C r (.stringIter s p) (.stringIter s p)
 |loop {l l':Loop}:LR F C r l l'->OR P F C r (.loop l) (.loop l')
 |taken:OR P F C r (.deferred none) (.deferred none)
 |deferred {l l':List Deferred}:iC (DR F r) l l'->OR P F C r (.deferred (some l)) (.deferred (some l'))
section
variable{P:ag0}{F:ani->Prop}{C:anB->Prop}{r s:Ren}
theorem TR.mono(h:r.le s){a b:Target}(k:TR F r a b):TR F s a b:=by
 cases k with
 |func f c=>exact .func f (c.mono h)
 |yield f c=>exact .yield (h.to f) (c.mono h)
 |nil=>exact .nil
 |collected a=>exact .collected (h.to a)
theorem DR.mono(h:r.le s){a b:Deferred}(k:DR F r a b):DR F s a b:=⟨k.target.mono h,k.args.mono h⟩
theorem ER.mono(h:r.le s){a b:MapEntry}(k:ER F r a b):ER F s a b:=⟨k.key.mono h,k.val.mono h,k.born⟩
theorem LR.mono(h:r.le s){a b:Loop}(k:LR F C r a b):LR F C s a b:=⟨k.state,k.pending,k.pend,k.fn,k.ok,k.tmps.mono h,k.params,k.assign,k.okA,k.body,k.okB,h.to k.defers⟩
theorem OR.mono(h:r.le s){a b:Obj}(k:OR P F C r a b):OR P F C s a b:=by
 cases k with
 |cells t f c=>exact .cells t f (c.mono h)
 |view t n a=>exact .view t n (a.mono h)
 |number l a=>exact .number l (a.mono h)
 |map k e=>exact .map k (e.mono fun _ _ x=>x.mono h)
 |iter s p=>exact .iter s p
 |loop l=>exact .loop (l.mono h)
 |taken=>exact .taken
 |deferred l=>exact .deferred (l.mono fun _ _ x=>x.mono h)
end
def isCells:Obj->Bool
 | .cells .. =>true
 |_=>false
def ry:Halt->Prop
 | .stuck _=>True
 | .unsupported (.initOrder _)=>False
 | .unsupported _=>True
 |_=>False
def Ia(P:ag0)(h:Halt):Prop:=ry h\/∃g,h=.unsupported (.initOrder g)/\P.stepOf g=none
def nD{α:Type}(s:Sem α):Prop:=∀(P:ag0) (w:aah),∃h w',s.run P w=.halt h w'/\ry h
inductive ShR(f:Option Nat):Option (aat×Nat)->Option (aat×Nat)->Prop
 |same (x:Option (aat×Nat)):f=none->ShR f x x
 |eO (t:aat) {n:Nat}:f=some n->n≠0->ShR f none (some (t,n))
inductive SR(P:ag0)(F:ani->Prop)(C:anB->Prop){α β:Type}(A:Ren->α->β->Prop):Ren->Sem α->Sem β->Prop
 |pure {r:Ren} {a:α} {b:β}:A r a b->SR P F C A r (.pure a) (.pure b)
 |load {r:Ren} {a a':akr} {k:aai->Sem α} {k':aai->Sem β}:AR r a a'->(∀v v',r.eO a.block=none->VR F r v v'->SR P F C A r (k v) (k' v'))->SR P F C A r (.load .plain a k) (.load .plain a' k')
 |store {r:Ren} {a a':akr} {v v':aai} {k:Sem α} {k':Sem β}:AR r a a'->VR F r v v'->SR P F C A r k k'->SR P F C A r (.store .plain a v k) (.store .plain a' v' k')
 |new {r:Ren} {o o':Obj} {k:Nat->Sem α} {k':Nat->Sem β}:OR P F C r o o'->(∀s a b,r.le s->s a b->s.eO a=none->SR P F C A s (k a) (k' b))->SR P F C A r (.new o k) (.new o' k')
 |shape {r:Ren} {a b:Nat} {k:Option (aat×Nat)->Sem α} {k':Option (aat×Nat)->Sem β}:r a b->(∀x y,ShR (r.eO a) x y->SR P F C A r (k x) (k' y))->SR P F C A r (.shape a k) (.shape b k')
 |zR {r:Ren} {a b:Nat} {k:Option (aat×Nat)->Sem α} {s':Sem β}:r a b->r.eO a≠none->SR P F C A r (k none) s'->SR P F C A r (.shape a k) s'
 |zQ {r:Ren} {b:Nat} {s:Sem α} {k':Option (aat×Nat)->Sem β}:(∀x,SR P F C A r s (k' x))->SR P F C A r s (.shape b k')
 |vm {r:Ren} {b:akr} {s:Sem α} {k':Bool->Sem β}:(∀x,SR P F C A r s (k' x))->SR P F C A r s (.frozen b k')
 |freeze {r:Ren} {a a':akr} {n:Nat} {k:Sem α} {k':Sem β}:AR r a a'->(r.eO a.block=none\/n=0)->SR P F C A r k k'->SR P F C A r (.freeze a n k) (.freeze a' n k')
 |frozen {r:Ren} {a a':akr} {k:Bool->Sem α} {k':Bool->Sem β}:AR r a a'->(∀x y,(y=true->x=true)->SR P F C A r (k x) (k' y))->SR P F C A r (.frozen a k) (.frozen a' k')
 |vn {r:Ren} {a b:Nat} {o:Nat} {k:Sem α} {k':Bool->Sem β}:r a b->r.eO a≠none->SR P F C A r k (k' false)->SR P F C A r k (.frozen ⟨b,o,none⟩ k')
 |o6 {r:Ren} {a b:Nat} {k:Obj->Sem α} {s':Sem β}:r a b->r.eO a≠none->(∀c t,r.eO a=some c.size->SR P F C A r (k (.pending c t)) s')->SR P F C A r (.getObj a k) s'
 |getObj {r:Ren} {a b:Nat} {k:Obj->Sem α} {k':Obj->Sem β}:r a b->(r.eO a=none\/∀c t,nD (k (.pending c t)))->(r.eO a=none->∀o o',OR P F C r o o'->isCells o=false->SR P F C A r (k o) (k' o'))->SR P F C A r (.getObj a k) (.getObj b k')
 |setObj {r:Ren} {a b:Nat} {o o':Obj} {k:Sem α} {k':Sem β}:r a b->r.eO a=none->OR P F C r o o'->isCells o=false->SR P F C A r k k'->SR P F C A r (.setObj a o k) (.setObj b o' k')
 |choose {r:Ren} (q:aoy) {k:Nat->Sem α} {k':Nat->Sem β}:(∀n,SR P F C A r (k n) (k' n))->SR P F C A r (.choose q k) (.choose q k')
 |lone {r:Ren} (q:aoy) (t:Nat) {k:Nat->Sem α} {s:Sem β}:q.forced=false->SR P F C A r (k (q.cut t)) s->SR P F C A r (.choose q k) s
 |program {r:Ren} {k:ag0->Sem α} {k':ag0->Sem β}:SR P F C A r (k P) (k' P)->SR P F C A r (.program k) (.program k')
 |ext {r:Ren} (f:ani) {k:Sem α} {k':Sem β}:SR P F C A r k k'->SR P F C A r (.mark (.extern f) k) (.mark (.extern f) k')
 |room {r:Ren} {k:Sem α} {k':Sem β}:SR P F C A r k k'->SR P F C A r (.mark .noRoom k) (.mark .noRoom k')
 |env {r:Ren} {k:SysRet->Sem α} {k':SysRet->Sem β}:(∀x,SR P F C A r (k x) (k' x))->SR P F C A r (.sys .env k) (.sys .env k')
 |panic {r:Ren} {v v':aai}:VR F r v v'->SR P F C A r (.halt (.panic v)) (.halt (.panic v'))
 |bad {r:Ren} {s:Sem α} {s':Sem β}:nD s->SR P F C A r s s'
section
variable{P:ag0}{F:ani->Prop}{C:anB->Prop}{α β γ δ:Type}
theorem run_bind(s:Sem α)(f:α->Sem γ)(w:aah):(s.bind f).run P w=match s.run P w with| .ok a w'=>(f a).run P w'| .halt h w'=>.halt h w':=by
 induction s generalizing w with
 |pure a=>rfl
 |load m a k ih=>
  simp only[anA,anE];split
  ·exact ih _ _
  ·split
   ·exact ih _ _
   ·rfl
 |store m a v k ih=>
  cases v<;>simp only[anA,anE]<;>(try rfl)<;>(split<;>(try split)<;>first|exact ih _|rfl)
 |new o k ih=>simp only[anA,anE];exact ih _ _
 |shape r k ih=>simp only[anA,anE];exact ih _ _
 |freeze a n k ih=>simp only[anA,anE];exact ih _
 |frozen a k ih=>simp only[anA,anE];exact ih _ _
 |getObj r k ih=>simp only[anA,anE];split<;>first|rfl|exact ih _ _
 |setObj r o k ih=>simp only[anA,anE];split<;>first|rfl|exact ih _
 |choose q k ih=>simp only[anA,anE];split<;>exact ih _ _
 |sys c k ih=>simp only[anA,anE];exact ih _ _
 |program k ih=>simp only[anA,anE];exact ih _ _
 |mark m k ih=>simp only[anA,anE];exact ih _
 |halt h=>rfl
theorem nD.bind{s:Sem α}(h:nD s)(f:α->Sem γ):nD (s.bind f):=fun P w=>by
 obtain⟨e,w',k,b⟩:=h P w;exact⟨e,w',by rw[run_bind,k],b⟩
theorem SR.Gw{A B:Ren->α->β->Prop}{r:Ren}{s:Sem α}{s':Sem β}(h:SR P F C A r s s')(hm:∀t a b,r.le t->A t a b->B t a b):SR P F C B r s s':=by
 induction h with
 |pure a=>exact .pure (hm _ _ _ (Ren.le_refl _) a)
 |load a _ ih=>exact .load a fun v v' n x=>ih v v' n x hm
 |store a v _ ih=>exact .store a v (ih hm)
 |new o _ ih=>exact .new o fun s a b l x n=>ih s a b l x n fun t y z l'=>hm t y z (Ren.le_trans l l')
 |shape a _ ih=>exact .shape a fun x y e=>ih x y e hm
 |zR a f _ ih=>exact .zR a f (ih hm)
 |zQ _ ih=>exact .zQ fun x=>ih x hm
 |vm _ ih=>exact .vm fun x=>ih x hm
 |freeze a n _ ih=>exact .freeze a n (ih hm)
 |frozen a _ ih=>exact .frozen a fun x y e=>ih x y e hm
 |vn a f _ ih=>exact .vn a f (ih hm)
 |o6 a f _ ih=>exact .o6 a f fun c t e=>ih c t e hm
 |getObj a n _ ih=>exact .getObj a n fun m o o' x e=>ih m o o' x e hm
 |setObj a n o e _ ih=>exact .setObj a n o e (ih hm)
 |choose q _ ih=>exact .choose q fun n=>ih n hm
 |lone q t e _ ih=>exact .lone q t e (ih hm)
 |program _ ih=>exact .program (ih hm)
 |ext f _ ih=>exact .ext f (ih hm)
 |room _ ih=>exact .room (ih hm)
 |env _ ih=>exact .env fun x=>ih x hm
 |panic v=>exact .panic v
 |bad b=>exact .bad b
theorem SR.bind{A:Ren->α->β->Prop}{B:Ren->γ->δ->Prop}{r:Ren}{s:Sem α}{s':Sem β}{f:α->Sem γ}{f':β->Sem δ}(h:SR P F C A r s s')(k:∀t a b,r.le t->A t a b->SR P F C B t (f a) (f' b)):SR P F C B r (s.bind f) (s'.bind f'):=by
 induction h with
 |pure a=>exact k _ _ _ (Ren.le_refl _) a
 |load a _ ih=>exact .load a fun v v' n x=>ih v v' n x k
 |store a v _ ih=>exact .store a v (ih k)
 |new o _ ih=>exact .new o fun s a b l x n=>ih s a b l x n fun t y z l'=>k t y z (Ren.le_trans l l')
 |shape a _ ih=>exact .shape a fun x y e=>ih x y e k
 |zR a f _ ih=>exact .zR a f (ih k)
 |zQ _ ih=>exact .zQ fun x=>ih x k
 |vm _ ih=>exact .vm fun x=>ih x k
 |freeze a n _ ih=>exact .freeze a n (ih k)
 |frozen a _ ih=>exact .frozen a fun x y e=>ih x y e k
 |vn a f _ ih=>exact .vn a f (ih k)
 |o6 a f _ ih=>exact .o6 a f fun c t e=>ih c t e k
 |getObj a n _ ih=>exact .getObj a (n.imp id fun n c t=>(n c t).bind f) fun m o o' x e=>ih m o o' x e k
 |setObj a n o e _ ih=>exact .setObj a n o e (ih k)
 |choose q _ ih=>exact .choose q fun n=>ih n k
 |lone q t e _ ih=>exact .lone q t e (ih k)
 |program _ ih=>exact .program (ih k)
 |ext f _ ih=>exact .ext f (ih k)
 |room _ ih=>exact .room (ih k)
 |env _ ih=>exact .env fun x=>ih x k
 |panic v=>exact .panic v
 |bad b=>exact .bad (b.bind f)
theorem SR.then{A:Ren->α->β->Prop}{B:Ren->γ->δ->Prop}{r:Ren}{s:Sem α}{s':Sem β}{f:α->Sem γ}{f':β->Sem δ}(h:SR P F C A r s s')(k:∀t a b,r.le t->A t a b->SR P F C B t (f a) (f' b)):SR P F C B r (s>>=f) (s'>>=f'):=h.bind k
theorem nD.then{s:Sem α}(h:nD s)(f:α->Sem γ):nD (s>>=f):=h.bind f
theorem nD.stuck(t:String):nD (apR t:Sem α):=fun _ w=>⟨_,w,rfl,trivial⟩
theorem nD.unsupported(u:apy)(h:∀g,u≠.initOrder g):nD (aow u:Sem α):=fun _ w=>⟨_,w,rfl,by cases u<;>first|trivial|exact absurd rfl (h _)⟩
theorem nD.mark(m:Mark){f:Unit->Sem α}(h:nD (f ())):nD (Go.mark m>>=f):=fun P w=>h P w
end
structure lC(n:Nat)(f f':Nat×Nat):Prop where
 lo:f.1=0
 hi:n<f.2
 eO:f'.2<=f.2
inductive HR(P:ag0)(F:ani->Prop)(C:anB->Prop)(r:Ren)(a:Nat)(g:Option Nat)(e:Prop):Obj->Obj->Prop
 |own {o o':Obj}:g=none->¬ e->OR P F C r o o'->HR P F C r a g e o o'
 |elder {c c':Array aai} (t:aat) (f f':Nat×Nat):g=none->e->bW F r c c'->lC c.size f f'->HR P F C r a g e (.cells c t f) (.cells c' t f')
 |eO {c c':Array aai} (t t':aat):g=some c.size->e->c'.size=c.size->c.size≠0->P.stepOf a=none->HR P F C r a g e (.pending c t) (.cells c' t' (0,0))
theorem HR.mono{P:ag0}{F:ani->Prop}{C:anB->Prop}{r s:Ren}{a:Nat}{g:Option Nat}{e:Prop}(h:r.le s){o o':Obj}(k:HR P F C r a g e o o'):HR P F C s a g e o o':=by
 cases k with
 |own m n k=>exact .own m n (k.mono h)
 |elder t f f' m n k a=>exact .elder t f f' m n (k.mono h) a
 |eO t t' m n z y x=>exact .eO t t' m n z y x
structure WR(P:ag0)(F:ani->Prop)(C:anB->Prop)(E:Nat->Prop)(r:Ren)(u w:aah):Prop where
 os:u.os=w.os
 aR:r.aR=P.globals.size
 nH:P.globals.size<u.heap.size/\P.globals.size<w.heap.size
 YV:∀a,E a->a<u.heap.size
 obj:∀{a b},r a b->∃o o',u.heap[a]?=some o/\w.heap[b]?=some o'/\HR P F C r a (r.eO a) (E a) o o'
 old:∀a,r.eO a≠none->a<u.heap.size
def MD(f f':Nat×Nat):Prop:=f=f'\/(f.2:Int) - f.1<(f'.2:Int) - f'.1
theorem MD.refl(f:Nat×Nat):MD f f:=.inl rfl
theorem MD.T{f g h:Nat×Nat}(x:MD f g)(y:MD g h):MD f h:=by
 rcases x with rfl|x
 ·exact y
 ·rcases y with rfl|y
  ·exact .inr x
  ·exact .inr oM
theorem MD.antisymm{f g:Nat×Nat}(x:MD f g)(y:MD g f):f=g:=by
 rcases x with rfl|x
 ·rfl
 ·rcases y with rfl|y
  ·rfl
  ·omega
structure Kept(E:Nat->Prop)(r s:Ren)(u w u' w':aah):Prop where
 le:r.le s
 usize:u.heap.size<=u'.heap.size
 size:w.heap.size<=w'.heap.size
 fresh:∀{a b},s a b->r a b\/(u.heap.size<=a/\w.heap.size<=b)
 made:∀b,w.heap.size<=b->b<w'.heap.size->∃a,s a b
 other:∀b,b<w.heap.size->(∀a,¬ r a b)->w'.heap[b]?=w.heap[b]?
 elder:∀a b,r a b->E a->∃c t f f',w.heap[b]?=some (.cells c t f)/\w'.heap[b]?=some (.cells c t f')
 fz:∀(b:Nat) (c:Array aai) (t:aat) (f:Nat×Nat),w.heap[b]?=some (Obj.cells c t f)->∃c' f',w'.heap[b]?=some (Obj.cells c' t f')/\MD f f'
 os:w'.os=w.os
 O:w'.output=w.output
 tape:w'.tape=w.tape
inductive yY(E:Nat->Prop)(r:Ren):anu->Prop
 |read {b:Nat} {a:akr}:r b a.block->yY E r ⟨.cell a,false,false⟩
 |write {b:Nat} {a:akr}:r b a.block->¬ E b->yY E r ⟨.cell a,true,false⟩
 |obj {b a:Nat}:r b a->yY E r ⟨.obj a,false,false⟩
 |set {b a:Nat}:r b a->¬ E b->yY E r ⟨.obj a,true,false⟩
 |ext (f:ani):yY E r ⟨.mark (.extern f),false,true⟩
 |room:yY E r ⟨.mark .noRoom,false,true⟩
 |O:yY E r ⟨.output,true,false⟩
theorem yY.mono{E:Nat->Prop}{r s:Ren}(h:r.le s)(k:yY E r e):yY E s e:=by
 cases k with
 |read a=>exact .read (h.to a)
 |write a n=>exact .write (h.to a) n
 |obj a=>exact .obj (h.to a)
 |set a n=>exact .set (h.to a) n
 |ext f=>exact .ext f
 |room=>exact .room
 |O=>exact .O
def iF(E:Nat->Prop)(r:Ren)(es:Array anu):Prop:=∀e∈es,yY E r e
theorem iF.nil{E:Nat->Prop}{r:Ren}:iF E r #[]:=fun e h=>by simp at h
theorem iF.mono{E:Nat->Prop}{r s:Ren}(h:r.le s)(k:iF E r es):iF E s es:=fun e x=>(k e x).mono h
theorem iF.push{E:Nat->Prop}{r:Ren}(k:iF E r es)(h:yY E r e):iF E r (es.push e):=fun x hx=>by
 rcases Array.mem_push.1 hx with a|rfl
 ·exact k _ a
 ·exact h
theorem iF.append{E:Nat->Prop}{r:Ren}{fs:Array anu}(k:iF E r es)(h:iF E r fs):iF E r (es++fs):=fun x hx=>by
 rcases Array.mem_append.1 hx with a|a
 ·exact k _ a
 ·exact h _ a
section
variable{P:ag0}{F:ani->Prop}{C:anB->Prop}{E:Nat->Prop}{r s t:Ren}{u w u' w' Q1 w'':aah}
theorem Kept.refl(h:WR P F C E r u w):Kept E r r u w u w where
 le:=Ren.le_refl _
 usize:=ahP _
 size:=ahP _
 fresh h:=.inl h
 made b h k:=absurd h (Nat.not_le_of_lt k)
 other _ _ _:=rfl
 elder a b x e:=by
  obtain⟨o,o',h1,h2,k⟩:=h.obj x;cases k with
  |own _ n _=>exact absurd e n
  |elder t f f' _ _ _ _=>exact⟨_,_,_,_,h2,h2⟩
  |eO t t' _ _ _ _ _=>exact⟨_,_,_,_,h2,h2⟩
 fz b c t f h:=⟨c,f,h,.refl f⟩
 os:=rfl
 O:=rfl
 tape:=rfl
theorem WR.lt(h:WR P F C E r u w){a b:Nat}(x:r a b):a<u.heap.size/\b<w.heap.size:=by
 obtain⟨o,o',h1,h2,_⟩:=h.obj x;exact⟨(akN.1 h1).1,(akN.1 h2).1⟩
theorem Kept.T(_:WR P F C E r u w)(h:Kept E r s u w u' w')(k:Kept E s t u' w' Q1 w''):Kept E r t u w Q1 w'' where
 le:=Ren.le_trans h.le k.le
 usize:=aiC h.usize k.usize
 size:=aiC h.size k.size
 fresh x:=by
  rcases k.fresh x with y|⟨y,z⟩
  ·exact h.fresh y
  ·exact .inr ⟨aiC h.usize y,aiC h.size z⟩
 made b x y:=by
  by_cases e:b<w'.heap.size
  ·obtain⟨a,z⟩:=h.made b x e;exact⟨a,k.le.to z⟩
  ·exact k.made b (an' e) y
 other b x y:=by
  rw[<-h.other b x y];refine k.other b (Nat.lt_of_lt_of_le x h.size) fun a z=>?_
  rcases h.fresh z with z|⟨_,z⟩
  ·exact y a z
  ·omega
 elder a b x e:=by
  obtain⟨c,t,f,f',h1,h2⟩:=h.elder a b x e;obtain⟨c',t',g,g',k1,k2⟩:=k.elder a b (h.le.to x) e;rw[h2]at k1;cases k1;exact⟨_,_,_,_,h1,k2⟩
 fz b c t f x:=by
  obtain⟨c1,f1,y,z⟩:=h.fz b c t f x;obtain⟨c2,f2,y',z'⟩:=k.fz b c1 t f1 y;exact⟨c2,f2,y',z.T z'⟩
 os:=k.os.T h.os
 O:=k.O.T h.O
 tape:=k.tape.T h.tape
theorem WR.tape(h:WR P F C E r u w){t1 t2:Nat->aoy->Nat}{d1 d2:Nat}:WR P F C E r {u with tape:=t1,drawn:=d1} {w with tape:=t2,drawn:=d2}:=
 ⟨h.os,h.aR,h.nH,h.YV,h.obj,h.old⟩
theorem WR.put(h:WR P F C E r u w){a b:Nat}(x:r a b){o o':Obj}(k:HR P F C r a (r.eO a) (E a) o o'):
  WR P F C E r {u with heap:=u.heap.setIfInBounds a o} {w with heap:=w.heap.setIfInBounds b o'} where
 os:=h.os
 aR:=h.aR
 nH:=by simpa using h.nH
 YV a e:=by simpa using h.YV a e
 old a e:=by simpa using h.old a e
 obj {c d} y:=by
  obtain⟨o1,o2,h1,h2,k1⟩:=h.obj y;have l:=h.lt x
  by_cases e:a=c
  ·subst e
   cases r.fn x y;exact⟨o,o',by simp[l.1],by simp[l.2],k⟩
  ·have e':b≠d:=fun q=>e (r.inj x (q▸y))
   exact⟨o1,o2,by simp[e,h1],by simp[e',h2],k1⟩
theorem Kept.put(h:WR P F C E r u w){a b:Nat}(x:r a b){o o':Obj}(n:E a->∃c t f f',w.heap[b]?=some (.cells c t f)/\o'=.cells c t f')(z:∀c t f,w.heap[b]?=some (.cells c t f)->∃c' f',o'=.cells c' t f'/\MD f f'):
  Kept E r r u w {u with heap:=u.heap.setIfInBounds a o} {w with heap:=w.heap.setIfInBounds b o'} where
 le:=Ren.le_refl _
 usize:=by simp
 size:=by simp
 fresh y:=.inl y
 made c y z:=by simp at z;omega
 other c y z:=by
  have e:b≠c:=fun q=>z a (q▸x)
  simp[e]
 elder c d y e:=by
  obtain⟨o1,o2,h1,h2,k1⟩:=h.obj y
  by_cases e':b=d
  ·subst e'
   obtain rfl:=r.inj x y;obtain⟨c,t,f,f',q1,q2⟩:=n e;exact⟨c,t,f,f',q1,by subst q2;simp[(h.lt x).2]⟩
  cases k1 with
  |own _ m _=>exact absurd e m
  |elder t f f' _ _ _ _=>exact⟨_,_,f',f',h2,by simp[e',h2]⟩
  |eO t t' _ _ _ _ _=>exact⟨_,_,(0,0),(0,0),h2,by simp[e',h2]⟩
 fz d c t f q:=by
  by_cases e':b=d
  ·subst e'
   obtain⟨c',f',q1,q2⟩:=z c t f q;exact⟨c',f',by subst q1;simp[(h.lt x).2],q2⟩
  ·exact⟨c,f,by simp[e',q],.refl f⟩
 os:=rfl
 O:=rfl
 tape:=rfl
def WR.more(h:WR P F C E r u w):Ren where
 rel x y:=r x y\/(x=u.heap.size/\y=w.heap.size)
 aR:=r.aR
 fn {a b c} x y:=by
  rcases x with x|⟨rfl,rfl⟩<;>rcases y with y|⟨y1,y2⟩
  ·exact r.fn x y
  ·have:=(h.lt x).1;omega
  ·have:=(h.lt y).1;omega
  ·exact y2.symm
 inj {a b c} x y:=by
  rcases x with x|⟨rfl,rfl⟩<;>rcases y with y|⟨y1,y2⟩
  ·exact r.inj x y
  ·have:=(h.lt x).2;omega
  ·have:=(h.lt y).2;omega
  ·exact y1.symm
 low {a b} x y:=by
  rcases x with x|⟨rfl,rfl⟩
  ·exact r.low x y
  ·have:=h.nH;have:=h.aR;omega
 self:=.inl r.self
 eO:=r.eO
theorem WR.Bt(h:WR P F C E r u w):r.le h.more:=⟨.inl,rfl,rfl⟩
theorem WR.push(h:WR P F C E r u w){o o':Obj}(k:OR P F C r o o'):
  WR P F C E h.more {u with heap:=u.heap.push o} {w with heap:=w.heap.push o'} where
 os:=h.os
 aR:=h.aR
 nH:=by simp;have:=h.nH;omega
 YV a e:=by have:=h.YV a e;simp;omega
 old a e:=by have:=h.old a e;simp;omega
 obj {a b} x:=by
  rcases x with x|⟨rfl,rfl⟩
  ·obtain⟨o1,o2,h1,h2,k1⟩:=h.obj x
   have l:=h.lt x;refine⟨o1,o2,?_,?_,k1.mono h.Bt⟩
   ·rw[ans];simp[anV l.1,h1]
   ·rw[ans];simp[anV l.2,h2]
  ·exact⟨o,o',by simp,by simp,.own (Classical.byContradiction fun e=>aoI _ (h.old _ e)) (fun e=>aoI _ (h.YV _ e)) (k.mono h.Bt)⟩
theorem Kept.push(h:WR P F C E r u w){o o':Obj}:
  Kept E r h.more u w {u with heap:=u.heap.push o} {w with heap:=w.heap.push o'} where
 le:=h.Bt
 usize:=by simp
 size:=by simp
 fresh {a b} x:=by rcases x with x|⟨rfl,rfl⟩;exact .inl x;exact .inr ⟨ahP _,ahP _⟩
 made b x y:=⟨u.heap.size,.inr ⟨rfl,by simp at y;omega⟩⟩
 other b x y:=by rw[ans];simp[anV x]
 elder a b x e:=by
  obtain⟨o1,o2,h1,h2,k1⟩:=h.obj x;have l:=h.lt x;cases k1 with
  |own _ m _=>exact absurd e m
  |elder t f f' _ _ _ _=>exact⟨_,_,f',f',h2,by rw[ans];simp[anV l.2,h2]⟩
  |eO t t' _ _ _ _ _=>exact⟨_,_,(0,0),(0,0),h2,by rw[ans];simp[anV l.2,h2]⟩
 fz b c t f q:=by
  have l:=(akN.1 q).1;exact⟨c,f,by rw[ans];simp[anV l,q],.refl f⟩
 os:=rfl
 O:=rfl
 tape:=rfl
end
abbrev Tape:=Nat->aoy->Nat
def nv(a b:Nat)(t s:Tape):Prop:=∀d,a<=d->d<b->t d=s d
section
variable{P:ag0}{F:ani->Prop}{C:anB->Prop}{E:Nat->Prop}{r s:Ren}{u w:aah}
theorem modify_eq{α:Type}(xs:Array α)(i:Nat)(f:α->α)(x:α)(h:xs[i]?=some x):xs.modify i f=xs.setIfInBounds i (f x):=by
 apply ao8;intro j;rw[Array.getElem?_modify,ang];have l:=(akN.1 h).1
 by_cases e:i=j
 ·subst e;rw[h];simp[l]
 ·simp[e]
theorem XN{α:Type}(xs:Array α)(i:Nat)(x:α)(h:xs[i]?=some x):xs.setIfInBounds i x=xs:=by
 apply ao8;intro j;rw[ang];have l:=(akN.1 h).1
 by_cases e:i=j
 ·subst e;rw[h];simp[l]
 ·simp[e]
theorem eY(h:WR P F C E r u w){a b:Nat}(x:r a b):
  (∃c c' t f f',u.heap[a]?=some (.cells c t f)/\w.heap[b]?=some (.cells c' t f')/\bW F r c c'/\((¬ E a/\f=f')\/(E a/\lC c.size f f'))/\r.eO a=none)\/
  (¬ E a/\r.eO a=none/\∃o o',u.heap[a]?=some o/\w.heap[b]?=some o'/\OR P F C r o o'/\isCells o=false/\isCells o'=false)\/
  (E a/\P.stepOf a=none/\∃c t c' t',u.heap[a]?=some (.pending c t)/\w.heap[b]?=some (.cells c' t' (0,0))/\r.eO a=some c.size/\c'.size=c.size/\c.size≠0):=by
 obtain⟨o,o',h1,h2,k⟩:=h.obj x;cases k with
 |elder t f f' g e v a=>exact .inl ⟨_,_,_,_,_,h1,h2,v,.inr ⟨e,a⟩,g⟩
 |eO t t' g e z y x=>exact .inr (.inr ⟨e,x,_,_,_,_,h1,h2,g,z,y⟩)
 |own g n k=>
  cases k with
  |cells t f v=>exact .inl ⟨_,_,_,_,_,h1,h2,v,.inl ⟨n,rfl⟩,g⟩
  |view t m a=>exact .inr (.inl ⟨n,g,_,_,h1,h2,.view t m a,rfl,rfl⟩)
  |number l a=>exact .inr (.inl ⟨n,g,_,_,h1,h2,.number l a,rfl,rfl⟩)
  |map k e=>exact .inr (.inl ⟨n,g,_,_,h1,h2,.map k e,rfl,rfl⟩)
  |iter s p=>exact .inr (.inl ⟨n,g,_,_,h1,h2,.iter s p,rfl,rfl⟩)
  |loop l=>exact .inr (.inl ⟨n,g,_,_,h1,h2,.loop l,rfl,rfl⟩)
  |taken=>exact .inr (.inl ⟨n,g,_,_,h1,h2,.taken,rfl,rfl⟩)
  |deferred l=>exact .inr (.inl ⟨n,g,_,_,h1,h2,.deferred l,rfl,rfl⟩)
theorem gM{w:aah}{o:Obj}(h:w.heap[a.block]?=some o)(k:isCells o=false):w.cell? a=none:=by
 unfold alr;rw[h];cases o<;>first|rfl|cases k
theorem J5(h:WR P F C E r u w)(x:AR r a b):
  u.cell? a=none\/∃v v',u.cell? a=some v/\w.cell? b=some v'/\VR F r v v':=by
 rcases eY h x.block with⟨c,c',t,f,f',h1,h2,v,_⟩|⟨_,_,o,o',h1,h2,_,k1,k2⟩|⟨_,_,c,t,c',t',h1,h2,_⟩
 ·unfold alr;rw[h1,h2,x.off,x.spot]
  by_cases e:b.spot.isSome
  ·left;simp[e]
  ·rcases v.get? b.off with⟨q,q'⟩|⟨y,z,q,q',k⟩
   ·left;simp[e,q]
   ·right;exact⟨y,z,by simp[e,q],by simp[e,q'],k⟩
 ·left;exact gM h1 k1
 ·left;exact gM h1 rfl
theorem l8{w:aah}{a:Nat}{o:Obj}(h:w.heap[a]?=some o)(k:isCells o=false):w.shape? a=none:=by
 unfold api;rw[h];cases o<;>first|rfl|cases k
theorem S_(h:WR P F C E r u w){a b:Nat}(x:r a b):ShR (r.eO a) (u.shape? a) (w.shape? b):=by
 rcases eY h x with⟨c,c',t,f,f',h1,h2,v,_,n⟩|⟨_,n,o,o',h1,h2,_,k1,k2⟩|⟨_,_,c,t,c',t',h1,h2,g,z,y⟩
 ·unfold api;simp only[h1,h2,v.1];exact .same _ n
 ·rw[l8 h1 k1,l8 h2 k2];exact .same _ n
 ·rw[l8 h1 rfl];unfold api;simp only[h2];rw[z];exact .eO t' g y
theorem frozen_far(h:WR P F C E r u w){a b:Nat}(x:r a b)(f:r.eO a≠none)(o:Nat):w.frozen? ⟨b,o,none⟩=false:=by
 rcases eY h x with⟨c,c',t,f',f'',h1,h2,v,_,n⟩|⟨_,n,o,o',h1,h2,_,k1,k2⟩|⟨_,_,c,t,c',t',h1,h2,_⟩
 ·exact absurd n f
 ·exact absurd n f
 ·unfold an_;simp only[h2];simp
theorem CG(h:WR P F C E r u w)(x:AR r a b):w.frozen? b=true->u.frozen? a=true:=by
 rcases eY h x.block with⟨c,c',t,⟨l,m⟩,⟨l',m'⟩,h1,h2,v,k,_⟩|⟨_,_,o,o',h1,h2,_,k1,k2⟩|⟨_,_,c,t,c',t',h1,h2,_⟩
 ·unfold an_;rw[h1,h2,x.off]
  rcases k with⟨_,k⟩|⟨_,⟨k1,k2,k3⟩⟩
  ·cases k;exact id
  ·simp only[aaB,decide_eq_true_eq]at*;omega
 ·unfold an_;rw[h2];cases o'<;>first|(intro q;cases q)|cases k2
 ·unfold an_;rw[h2];intro q;simp at q
def Qc(f:Nat×Nat)(o n:Nat):Nat×Nat:=if f.1 == f.2 then(o,o+n)else(min f.1 o,max f.2 (o+n))
theorem MD.Qc(f:Nat×Nat)(o:Nat)(h:n≠0):MD f (Qc f o n):=by
 obtain⟨a,b⟩:=f;simp only[MD,dO.Qc,beq_iff_eq]
 by_cases e:a=b
 ·subst e;right;simp;omega
 ·simp only[e,if_false,Prod.mk.injEq];omega
theorem lC.Qc{f f':Nat×Nat}(h:lC n f f')(o m:Nat):lC n (Qc f o m) (Qc f' o m):=by
 obtain⟨a,b⟩:=f;obtain⟨a',b'⟩:=f';obtain⟨h1,h2,h3⟩:=h;simp only at h1 h2 h3;subst h1;have e:(0 == b)=false:=by simp;omega
 have e1:dO.Qc (0,b) o m=(min 0 o,max b (o+m)):=by simp[dO.Qc,e]
 rw[e1];refine⟨by simp,by show n<max b (o+m);omega,?_⟩
 show(dO.Qc (a',b') o m).2<=max b (o+m)
 unfold dO.Qc;split<;>simp<;>omega
theorem gO{w:aah}(hn:n≠0){t:aat}{f:Nat×Nat}(h:w.heap[a.block]?=some (.cells c t f)):
  w.freeze a n={w with heap:=w.heap.setIfInBounds a.block (.cells c t (Qc f a.off n))}:=by
 unfold aoq;rw[if_neg hn,modify_eq _ _ _ _ h];obtain⟨l,m⟩:=f;simp only[Qc]
theorem xQ{w:aah}{o:Obj}(h:w.heap[a.block]?=some o)(k:isCells o=false):w.freeze a n=w:=by
 unfold aoq;split
 ·rfl
 ·rw[modify_eq _ _ _ _ h]
  cases o<;>first|(cases k;done)|(simp only[XN _ _ _ h])
theorem lZ{w:aah}(hs:a.spot.isSome=false){t:aat}{f:Nat×Nat}(h:w.heap[a.block]?=some (.cells c t f)):
  w.setCell a v={w with heap:=w.heap.setIfInBounds a.block (.cells (c.setIfInBounds a.off v) t f)}:=by
 unfold World.setCell;rw[modify_eq _ _ _ _ h,hs];rfl
theorem FY{w:aah}(h:w.cell? a=some v):a.spot.isSome=false/\∃c t f,w.heap[a.block]?=some (.cells c t f)/\c[a.off]?=some v:=by
 unfold alr at h;split at h
 ·rename_i c t f e
  split at h
  ·cases h
  ·rename_i q;exact⟨by simpa using q,c,t,f,e,h⟩
 ·cases h
end
section
variable{P:ag0}{F:ani->Prop}{C:anB->Prop}{E:Nat->Prop}{r s:Ren}{u w:aah}
theorem VR.bytes(h:VR F r v v'):v.bytes?=v'.bytes?:=by cases h<;>rfl
theorem VR.ofBytes(h:VR F r v v')(bs:BL):v.ofBytes bs=v'.ofBytes bs:=by cases h<;>rfl
theorem VR.Li{x:aai}{bs:BL}(h:v.ofBytes bs=some x)(n:vt v=true):VR F r x x:=by
 cases v<;>simp only[Value.ofBytes,reduceCtorEq]at h
 ·split at h<;>first|(cases h;exact .bool _)|cases h
 ·split at h<;>first|(cases h;exact .int _ _)|cases h
 ·cases n
 ·cases n
theorem qc(h:bW F r c c')(e:aat):∀f x stop,aoi P c e f x stop=aoi P c' e f x stop
 |0,_,_=>rfl
 |f+1,x,stop=>by
  unfold aoi;split
  ·rfl
  ·simp only[]
   split
   ·rfl
   ·split
    ·rfl
    ·rename_i i s _
     (rcases h.get? i with⟨q,q'⟩|⟨y,z,q,q',k⟩);(·rw[q,q'])
     ·rw[q,q'];simp only[k.bytes]
      split
      ·rfl
      ·rfl
      ·rw[qc h e f]
theorem yq{e:aat}:∀{f x stop:Nat} {l:List (Nat×Nat×BL)},aoi P c e f x stop=.ok l->∀y∈l,y.1<c.size
 |0,_,_,l,h=>by simp[aoi]at h
 |f+1,x,stop,l,h=>by
  unfold aoi at h;split at h
  ·cases h;intro y hy;cases hy
  ·simp only[]at h
   split at h;(·cases h)
   ·split at h
    ·cases h
    ·rename_i i s _
     split at h;(·cases h)
     ·rename_i v hv
      (have hl:=(akN.1 hv).1;split at h);(·cases h);(·cases h)
      ·cases k:aoi P c e f (s+_) stop with
       |error t=>rw[k]at h;cases h
       |ok m=>
        (rw[k]at h;cases h;intro y hy;rcases ab'.1 hy with rfl|hy);(·exact hl);(·exact yq k y hy)
theorem seen_none{u:aah}{o:Obj}(h1:u.heap[a.block]?=some o)(k1:isCells o=false)(t:aat)(k:akr){z:Array aai×aat×(Nat×Nat)×Nat×aai×List (Nat×Nat×BL)}(hs:u.seen P a t k false=.ok z):False:=by
 unfold aoz at hs;have n:∀c e f,some o≠some (.cells c e f):=by intro c e f q;cases q;cases k1
 simp only[bind,Except.bind,h1]at hs
 repeat' (split at hs<;>try cases hs)
 all_goals exact absurd ‹some o=some (.cells _ _ _)› (n _ _ _)
theorem LW(h:WR P F C E r u w)(x:AR r a b)(t:aat)(k:akr){e:aat}{f:Nat×Nat}{K3:aai}{l:List (Nat×Nat×BL)}(hs:u.seen P a t k false=.ok (c,e,f,first,K3,l)):
  ∃c' f',w.seen P b t k false=.ok (c',e,f',first,K3,l)/\u.heap[a.block]?=some (.cells c e f)/\w.heap[b.block]?=some (.cells c' e f')/\bW F r c c'/\
   ((¬ E a.block/\f=f')\/(E a.block/\lC c.size f f'))/\r.eO a.block=none/\(∀y∈l,y.1<c.size)/\ao5 P P.depth t k.off=some K3:=by
 rcases eY h x.block with⟨c0,c',t0,f0,f',h1,h2,v,kf,nf⟩|⟨_,_,o,o',h1,h2,_,k1,k2⟩|⟨_,_,_,t',c',t1,h1,h2,_⟩
 ·unfold aoz at hs ⊢
  simp only[bind,Except.bind,pure,Except.pure,h1,h2,x.off,x.spot,qc v]at hs ⊢;generalize R6:ao5 P P.depth t k.off=x1 at hs ⊢;generalize byteOfCell P P.depth t k.off=x3 at hs ⊢;generalize byteOfCell P P.depth t0 (b.off % P.cellsOf t0)=x4 at hs ⊢;cases x1 with
  |none=>simp only[]at hs;split at hs<;>cases hs
  |some ajs=>
  simp only[]at hs ⊢;generalize Option.map (fun x=>List.length x) ajs.bytes?=x2 at hs ⊢;cases x2 with
  |none=>simp only[]at hs;split at hs<;>cases hs
  |some size=>
  cases x3 with
  |none=>simp only[]at hs;split at hs<;>cases hs
  |some be=>
  cases x4 with
  |none=>simp only[]at hs;repeat' (split at hs<;>try cases hs)
  |some b0=>
  simp only[]at hs ⊢;split at hs
  ·cases hs
  rename_i q0
  rw[if_neg q0];split at hs
  ·cases hs
  rename_i q1
  rw[if_neg q1];split at hs
  ·cases hs
  rename_i m q2
  simp only[Bool.false_eq_true,if_false]at hs ⊢;cases hs;exact⟨_,_,rfl,rfl,rfl,v,kf,nf,fun y hy=>yq (c:=c) (by rw[qc v];exact q2) y hy,rfl⟩
 ·exact(seen_none h1 k1 t k hs).elim
 ·exact(seen_none h1 rfl t k hs).elim
theorem Jl(h:WR P F C E r u w)(x:AR r a b)(t:aat)(nf:∀o v,ao5 P P.depth t o=some v->dO.vt v=true)(hk:k.off=k'.off/\k.spot=k'.spot){l:List akr}(hs:u.viewLoad P a t k false=.ok (v,l)):VR F r v v/\∃l',w.viewLoad P b t k' false=.ok (v,l')/\∀y∈l',y.block=b.block:=by
 have e:∀(w:aah) (c:akr),w.seen P c t k' false=w.seen P c t k false:=by intro w c;unfold aoz;rw[hk.1,hk.2]
 unfold World.viewLoad at hs ⊢;simp only[bind,Except.bind,pure,Except.pure,e]at hs ⊢;cases q:u.seen P a t k false with
 |error z=>rw[q]at hs;cases hs
 |ok z=>
  obtain⟨c,e1,f,first,K3,cells⟩:=z;obtain⟨c',f',q',_,_,_,_,_,_,hl⟩:=LW h x t k q;rw[q]at hs;rw[q'];simp only[]at hs ⊢;split at hs
  ·rename_i v0 q1
   cases hs;refine⟨VR.Li q1 (nf _ _ hl),_,rfl,fun y hy=>?_⟩;obtain⟨p,_,rfl⟩:=apS.1 hy;rfl
  ·cases hs
theorem VR.Jg{w:aai}(h:VR F r v w):dO.vt w=true:=by cases h<;>rfl
def yL(bytes:BL)(first:Nat)(f:Nat×Nat)(c:Array aai)(y:Nat×Nat×BL):Except String (Array aai):=do
 if y.2.1<first || y.2.1+y.2.2.length>first+bytes.length then MonadExcept.throw "memory seen as another type: a part of a cell written"
 if f.1<=y.1&&y.1<f.2 then MonadExcept.throw "a write to bytes that a string shares"
 let some old:=c[y.1]?|MonadExcept.throw "memory seen as another type: no such cell"
 let some new:=old.ofBytes ((bytes.drop (y.2.1 - first)).take y.2.2.length)|MonadExcept.throw "memory seen as another type: a bool from a byte other than 0 or 1"
 pure (c.setIfInBounds y.1 new)
theorem nQ(u:aah)(a:akr)(t:aat)(k:akr)(v:aai):u.viewStore P a t k v false=(do
 if !tight P P.depth t then MonadExcept.throw "memory seen as another type: a store through a type with padding"
 let (c,e,frozen,first,K3,cells)<-u.seen P a t k false
 let some bytes:=v.bytes?|MonadExcept.throw "memory seen as another type: a value that is no plain data"
 if some bytes.length≠K3.bytes?.map (·.length)then MonadExcept.throw "memory seen as another type: a value of another size"
 let c<-cells.foldlM (init:=c) (yL bytes first frozen)
 pure ({u with heap:=u.heap.setIfInBounds a.block (.cells c e frozen)},cells.map fun(i,_,_)=>{block:=a.block,off:=i})):=rfl
theorem TY{bytes:BL}{f:Nat×Nat}{d:Array aai}{y:Nat×Nat×BL}(h:bW F r c c')(k:yL bytes first f c y=.ok d):
  ∃d',yL bytes first f c' y=.ok d'/\bW F r d d'/\d.size=c.size/\¬ (f.1<=y.1/\y.1<f.2):=by
 unfold yL at k ⊢;simp only[bind,Except.bind,pure,Except.pure]at k ⊢;split at k
 ·cases k
 rename_i q1;rw[if_neg q1]
 split at k
 ·cases k
 rename_i q2;rw[if_neg q2]
 rcases h.get? y.1 with⟨p,p'⟩|⟨v,v',p,p',kv⟩
 ·rw[p]at k;cases k
 ·rw[p]at k;rw[p']
  simp only[kv.ofBytes]at k ⊢;split at k
  ·cases k
   exact⟨_,rfl,h.set _ (VR.Li ‹_› kv.Jg),by simp,by simpa using q2⟩
  ·cases k
theorem Hu{bytes:BL}{f:Nat×Nat}:∀{l:List (Nat×Nat×BL)} {c c' d:Array aai},bW F r c c'->l.foldlM (m:=Except String) (yL bytes first f) c=.ok d->
  ∃d',l.foldlM (m:=Except String) (yL bytes first f) c'=.ok d'/\bW F r d d'/\d.size=c.size/\∀y∈l,¬ (f.1<=y.1/\y.1<f.2)
 |[],c,c',d,h,k=>by cases k;exact⟨c',rfl,h,rfl,fun y hy=>by cases hy⟩
 |y::l,c,c',d,h,k=>by
  simp only[List.foldlM_cons,bind,Except.bind]at k ⊢;cases q:yL bytes first f c y with
  |error z=>rw[q]at k;cases k
  |ok c1=>
   rw[q]at k;obtain⟨c1',q',h',e',n⟩:=TY h q;obtain⟨d',q2,h2,e2,n2⟩:=Hu h' k;rw[q']
   exact⟨d',q2,h2,e2.T e',fun z hz=>by
    rcases ab'.1 hz with rfl|hz
    ·exact n
    ·exact n2 z hz⟩
theorem FH(h:WR P F C E r u w)(x:AR r a b)(t:aat)(hk:k.off=k'.off/\k.spot=k'.spot)(hv:VR F r v v'){l:List akr}(hs:u.viewStore P a t k v false=.ok (u1,l)):
  ∃c c' d d' e f f' l',u1={u with heap:=u.heap.setIfInBounds a.block (.cells d e f)}/\w.viewStore P b t k' v' false=.ok ({w with heap:=w.heap.setIfInBounds b.block (.cells d' e f')},l')/\
   u.heap[a.block]?=some (.cells c e f)/\w.heap[b.block]?=some (.cells c' e f')/\HR P F C r a.block (r.eO a.block) (E a.block) (.cells d e f) (.cells d' e f')/\(E a.block->d'=c')/\(¬ E a.block\/l'=[])/\∀y∈l',y.block=b.block:=by
 have e:∀(w:aah) (c:akr),w.seen P c t k' false=w.seen P c t k false:=by intro w c;unfold aoz;rw[hk.1,hk.2]
 rw[nQ]at hs;rw[nQ];simp only[bind,Except.bind,pure,Except.pure,e]at hs ⊢;split at hs
 ·cases hs
 rename_i q0;rw[if_neg q0]
 cases q:u.seen P a t k false with
 |error z=>rw[q]at hs;cases hs
 |ok z=>
  obtain⟨c,e1,f,first,K3,cells⟩:=z;obtain⟨c',f',q',h1,h2,vs,kf,ng,lt,_⟩:=LW h x t k q;rw[q]at hs;rw[q'];simp only[<-hv.bytes]at hs ⊢;split at hs
  rotate_left
  ·cases hs
  rename_i bytes q1
  split at hs
  ·cases hs
  rename_i q2
  cases q3:cells.foldlM (m:=Except String) (yL bytes first f) c with
  |error z=>rw[q3]at hs;cases hs
  |ok d=>
   rw[q3]at hs;cases hs;obtain⟨d',q4,vd,sz,nf⟩:=Hu vs q3;rw[if_neg q2];rcases kf with⟨ne,rfl⟩|⟨ye,⟨k1,k2,k3⟩⟩
   ·rw[q4]
    refine⟨c,c',d,d',e1,f,f,_,rfl,rfl,h1,h2,.own ng ne (.cells _ _ vd),fun y=>absurd y ne,.inl ne,fun y hy=>?_⟩;obtain⟨p,_,rfl⟩:=apS.1 hy;rfl
   ·have:cells=[]:=by
     cases cells with
     |nil=>rfl
     |cons y l=>exact absurd ⟨by rw[k1];exact Nat.zero_le _,Nat.lt_trans (lt y sP) k2⟩ (nf y sP)
    subst this;cases q3;refine⟨c,c',c,c',e1,f,f',_,rfl,rfl,h1,h2,.elder _ _ _ ng ye vs ⟨k1,k2,k3⟩,fun _=>rfl,.inr rfl,fun y hy=>?_⟩;simp at hy
end
section
variable{P:ag0}{F:ani->Prop}{C:anB->Prop}{E:Nat->Prop}{α β:Type}{A:Ren->α->β->Prop}
def M6(P:ag0)(u:aah)(s:Sem α):Prop:=
 ∃t:Tape,∃d,u.drawn<=d/\∀t2,nv u.drawn d t t2->∀es,∃h u' es',s.runT P (u.on t2) es=(.halt h u',es')/\Ia P h
structure ahr(P:ag0)(F:ani->Prop)(C:anB->Prop)(E:Nat->Prop)(A:Ren->α->β->Prop)(r:Ren)(u w:aah)(s:Sem α)(s':Sem β)
  (t:Tape) (q:Ren) (u' w':aah) (n:Array anu):Prop where
 kept:Kept E r q u w u' w'
 rel:WR P F C E q u' w'
 evs:iF E q n
 up:u.drawn<=u'.drawn
 fH:(∃a b,A q a b/\(∀es,s'.runT P w es=(.ok b w',es++n))/\∀t2,nv u.drawn u'.drawn t t2->∀es,∃es',s.runT P (u.on t2) es=(.ok a (u'.on t2),es'))\/
  (∃v v',VR F q v v'/\(∀es,s'.runT P w es=(.halt (.panic v') w',es++n))/\∀t2,nv u.drawn u'.drawn t t2->∀es,∃es',s.runT P (u.on t2) es=(.halt (.panic v) (u'.on t2),es'))
def y_(P:ag0)(F:ani->Prop)(C:anB->Prop)(E:Nat->Prop)(A:Ren->α->β->Prop)(r:Ren)(u w:aah)(s:Sem α)(s':Sem β):Prop:=
 M6 P u s\/∃t q u' w' n,ahr P F C E A r u w s s' t q u' w' n
theorem M6.now{u:aah}{s:Sem α}(h:∀t,∀es,∃h u' es',s.runT P (u.on t) es=(.halt h u',es')/\Ia P h):M6 P u s:=
 ⟨fun _ _=>0,u.drawn,ahP _,fun t2 _=>h t2⟩
theorem y_.step{r q0:Ren}{u w w1:aah}{s k:Sem α}{s' k':Sem β}(n0:Array anu)(hw:WR P F C E r u w)(hd:u1.drawn=u.drawn)(hk:Kept E r q0 u w u1 w1)(hn:iF E q0 n0)(e1:∀t es,∃es',s.runT P (u.on t) es=k.runT P (u1.on t) es')(e2:∀es,s'.runT P w es=k'.runT P w1 (es++n0))(h:y_ P F C E A q0 u1 w1 k k'):y_ P F C E A r u w s s':=by
 rcases h with⟨t,d,l,hb⟩|⟨t,q,u',w',n,⟨kept,rel,evs,up,fH⟩⟩
 ·refine .inl ⟨t,d,hd▸l,fun t2 a es=>?_⟩
  obtain⟨es',e⟩:=e1 t2 es;rw[e];exact hb t2 (hd.symm▸a) es'
 ·refine .inr ⟨t,q,u',w',n0++n,⟨hk.T hw kept,rel,(hn.mono kept.le).append evs,hd▸up,?_⟩⟩
  rcases fH with⟨a,b,x,y,z⟩|⟨a,b,x,y,z⟩
  ·refine .inl ⟨a,b,x,fun es=>by rw[e2,y,apj],fun t2 g es=>?_⟩
   obtain⟨es',e⟩:=e1 t2 es;rw[e];exact z t2 (hd.symm▸g) es'
  ·refine .inr ⟨a,b,x,fun es=>by rw[e2,y,apj],fun t2 g es=>?_⟩
   obtain⟨es',e⟩:=e1 t2 es;rw[e];exact z t2 (hd.symm▸g) es'
theorem iF.one{r:Ren}(h:yY E r e):iF E r #[e]:=iF.push .nil h
theorem rU(es:Array anu)(e:anu):es.push e=es++#[e]:=by simp
theorem bc:(Mode.plain == Mode.atomic)=false:=rfl
def oh:aai->Bool
 | .agg _| .tuple _=>true
 |_=>false
theorem gQ{α:Type}{m:Mode}(h:oh v=false)(k:Sem α)(w:aah)(es:Array anu):
  (Sem.store m a v k).runT P w es=match w.cell? a with
   |some _=>
    if w.frozen? a then(.halt (.unsupported (.unsafePointer "a write to bytes that a string shares")) w,es)
    else k.runT P (w.setCell a v) (es.push ⟨.cell a,true,m == .atomic⟩)
   |none=>match w.farStore P a v (m == .atomic)with
    | .ok (w,abY)=>k.runT P w (es++abY.toArray.map (⟨.cell ·,true,m == .atomic⟩))
    | .error h=>(.halt h w,es):=by
 cases v<;>first|rfl|cases h
theorem VR.oh{r:Ren}(h:VR F r v v'):dO.oh v=dO.oh v':=by cases h<;>rfl
theorem yK(u:aah)(s:Tape)(a:akr)(t:aat)(k:akr)(v:aai):(u.on s).viewStore P a t k v false=match u.viewStore P a t k v false with| .ok (x,l)=>.ok (x.on s,l)| .error z=>.error z:=by
 rw[nQ,nQ];simp only[bind,Except.bind,pure,Except.pure,show(u.on s).seen P a t k false=u.seen P a t k false from rfl];split
 ·rfl
 cases u.seen P a t k false with
 |error z=>rfl
 |ok z=>
  obtain⟨c,e,f,first,K3,l⟩:=z;simp only[];split
  ·split
   ·rfl
   ·cases l.foldlM (m:=Except String) (yL _ first f) c with
    |error z=>rfl
    |ok z=>rfl
  ·rfl
theorem VC{u:aah}{t:aat}(h:u.heap[a.block]?=some (.pending c t)):u.farLoad P a false=.error (.unsupported (.initOrder a.block)):=by
 unfold anS anW;simp only[h]
theorem RJ{u:aah}{t:aat}(h:u.heap[a.block]?=some (.pending c t)):u.farStore P a v false=.error (.unsupported (.initOrder a.block)):=by
 unfold anF anW;simp only[h]
theorem nM{r:Ren}{s:Sem α}{s':Sem β}(h:SR P F C A r s s'):∀{u w:aah},WR P F C E r u w->y_ P F C E A r u w s s':=by
 induction h with
 | @pure r a b x=>
   intro u w hw;exact .inr ⟨fun _ _=>0,r,u,w,#[],.refl hw,hw,.nil,ahP _,.inl ⟨a,b,x,fun es=>by simp[anf],fun t2 _ es=>⟨es,rfl⟩⟩⟩
 | @load r a a' k k' x _ ih=>
   intro u w hw;rcases J5 hw x with e|⟨v,v',e,e',kv⟩
   ·
    rcases eY hw x.block with⟨c,c',t,f,f',h1,h2,_⟩|⟨ne,nf0,o,o',h1,h2,ho,k1,k2⟩|⟨_,gX,c,t,c',t',h1,h2,_⟩
    ·refine .inl (.now fun t2 es=>?_)
     have e0:(u.on t2).cell? a=none:=e
     have:(u.on t2).farLoad P a false=.error (.stuck "load: no such cell"):=by
      unfold anS anW;rw[show(u.on t2).heap=u.heap from rfl,h1]
     simp only[anf,e0,bc,this];exact⟨_,_,_,rfl,.inl trivial⟩
    ·have e':w.cell? a'=none:=gM h2 k2
     cases ho with
     | @view at_ at' t nf xa=>
       cases q:u.viewLoad P at_ t a false with
       |error z=>
        refine .inl (.now fun t2 es=>?_);have e0:(u.on t2).cell? a=none:=e
        have:(u.on t2).farLoad P a false=.error (.unsupported (.unsafePointer z)):=by
         unfold anS;rw[show(u.on t2).heap=u.heap from rfl,h1];simp only[show(u.on t2).viewLoad P at_ t a false=u.viewLoad P at_ t a false from rfl,q]
        simp only[anf,e0,bc,this];exact⟨_,_,_,rfl,.inl trivial⟩
       |ok z=>
        obtain⟨v,l⟩:=z;obtain⟨hv,l',q',hl⟩:=Jl hw xa t nf ⟨x.off,x.spot⟩ q;refine .step (l'.toArray.map (⟨.cell ·,false,false⟩)) hw rfl (.refl hw) (fun ev he=>?_) (fun t2 es=>⟨es++l.toArray.map (⟨.cell ·,false,false⟩),?_⟩) (fun es=>?_) (ih v v nf0 hv hw)
        ·simp only[Array.mem_map]at he
         obtain⟨y,hy,rfl⟩:=he;refine .read (b:=at_.block) ?_;rw[hl y (by simpa using hy)];exact xa.block
        ·have e0:(u.on t2).cell? a=none:=e
         have:(u.on t2).farLoad P a false=.ok (v,l):=by
          unfold anS;rw[show(u.on t2).heap=u.heap from rfl,h1];simp only[show(u.on t2).viewLoad P at_ t a false=u.viewLoad P at_ t a false from rfl,q]
         simp only[anf,e0,bc,this]
        ·have:w.farLoad P a' false=.ok (v,l'):=by
          unfold anS;rw[h2];simp only[q']
         simp only[anf,e',bc,this]
     |_=>
      refine .inl (.now fun t2 es=>?_);have e0:(u.on t2).cell? a=none:=e
      have:(u.on t2).farLoad P a false=.error (.stuck "load: no such cell"):=by
       unfold anS anW;rw[show(u.on t2).heap=u.heap from rfl,h1]
      simp only[anf,e0,bc,this];exact⟨_,_,_,rfl,.inl trivial⟩
    ·refine .inl (.now fun t2 es=>?_)
     have e0:(u.on t2).cell? a=none:=e;simp only[anf,e0,bc,VC (P:=P) (u:=u.on t2) (a:=a) h1];exact⟨_,_,_,rfl,.inr ⟨_,rfl,gX⟩⟩
   ·have nf0:r.eO a.block=none:=by
     (rcases eY hw x.block with⟨_,_,_,_,_,_,_,_,_,n⟩|⟨_,n,_⟩|⟨_,_,c,t,c',t',h1,h2,_⟩);(·exact n);(·exact n);(·rw[gM h1 rfl]at e;cases e)
    (refine .step #[⟨.cell a',false,false⟩] hw rfl (.refl hw) (.one (.read x.block)) (fun t2 es=>⟨es.push ⟨.cell a,false,false⟩,?_⟩) (fun es=>?_) (ih v v' nf0 kv hw));(·simp only[anf,show(u.on t2).cell? a=some v from e,bc]);(·simp only[anf,e',bc,rU])
 | @store r a a' v v' k k' x hv _ ih=>
   intro u w hw;cases hc:oh v with
   |true=>
    refine .inl (.now fun t2 es=>?_);cases v<;>first|(cases hc;done)|exact⟨_,_,_,rfl,.inl trivial⟩
   |false=>
   have ML:oh v'=false:=hv.oh▸hc;rcases eY hw x.block with⟨c,c',t,f,f',h1,h2,vs,kf,ng⟩|⟨ne,ng,o,o',h1,h2,ho,k1,k2⟩|⟨_,gX,c,t,c',t',h1,h2,_⟩
   rotate_right
   ·refine .inl (.now fun t2 es=>?_)
    have e0:(u.on t2).cell? a=none:=gM h1 rfl;simp only[gQ hc,e0,bc,RJ (P:=P) (u:=u.on t2) (a:=a) (v:=v) h1];exact⟨_,_,_,rfl,.inr ⟨_,rfl,gX⟩⟩
   ·rcases J5 hw x with e|⟨z,z',e,e',_⟩
    ·refine .inl (.now fun t2 es=>?_)
     have e0:(u.on t2).cell? a=none:=e
     have:(u.on t2).farStore P a v false=.error (.stuck "store: no such cell"):=by
      unfold anF anW;rw[show(u.on t2).heap=u.heap from rfl,h1]
     simp only[gQ hc,e0,bc,this];exact⟨_,_,_,rfl,.inl trivial⟩
    ·obtain⟨sp,c0,t0,f0,g1,g2⟩:=FY e
     (obtain⟨sp',c0',t0',f0',g1',g2'⟩:=FY e';rw[h1]at g1;cases g1;rw[h2]at g1';cases g1';have lt:=(akN.1 g2).1);by_cases fr:u.frozen? a=true
     ·refine .inl (.now fun t2 es=>?_)
      simp only[gQ hc,show(u.on t2).cell? a=some z from e,show(u.on t2).frozen? a=true from fr,if_true];exact⟨_,_,_,rfl,.inl trivial⟩
     ·have ne:¬ E a.block:=by
       (rintro ye;rcases kf with⟨n,_⟩|⟨_,⟨l1,l2,_⟩⟩);(·exact n ye)
       ·apply fr
        obtain⟨lo,hi⟩:=f;simp only[]at l1 l2;unfold an_;rw[h1];simp only[aaB,decide_eq_true_eq];omega
      have cV:w.frozen? a'=false:=by
       cases q:w.frozen? a' with
       |false=>rfl
       |true=>exact absurd (CG hw x q) fr
      (obtain rfl:f=f':=by rcases kf with⟨_,q⟩|⟨q,_⟩;exact q;exact absurd q ne);have ho:OR P F C r (.cells (c.setIfInBounds a.off v) t f) (.cells (c'.setIfInBounds a'.off v') t f):=.cells t f (by rw[x.off];exact vs.set _ hv);refine .step (u1:=u.setCell a v) (w1:=w.setCell a' v') #[⟨.cell a',true,false⟩] hw rfl ?_ (.one (.write x.block ne)) (fun t2 es=>⟨es.push ⟨.cell a,true,false⟩,?_⟩) (fun es=>?_) (ih ?_)
      ·rw[lZ sp h1,lZ sp' h2]
       exact .put hw x.block (fun y=>absurd y ne) fun c1 t1 f1 q=>by rw[h2]at q;cases q;exact⟨_,_,rfl,.refl _⟩
      ·simp only[gQ hc,show(u.on t2).cell? a=some z from e,show(u.on t2).frozen? a=u.frozen? a from rfl,fr,bc]
       rfl
      ·simp only[gQ ML,e',cV,bc,rU]
       rfl
      ·rw[lZ sp h1,lZ sp' h2]
       exact hw.put x.block (.own ng ne ho)
   ·have e:u.cell? a=none:=gM h1 k1
    have e':w.cell? a'=none:=gM h2 k2;cases ho with
    | @view at_ at' t nf xa=>
      cases q:u.viewStore P at_ t a v false with
      |error z=>
       refine .inl (.now fun t2 es=>?_);have e0:(u.on t2).cell? a=none:=e
       have hz:(u.on t2).viewStore P at_ t a v false=.error z:=by
        rw[yK,q]
       have:(u.on t2).farStore P a v false=.error (.unsupported (.unsafePointer z)):=by
        unfold anF;rw[show(u.on t2).heap=u.heap from rfl,h1];simp only[hz]
       simp only[gQ hc,e0,bc,this];exact⟨_,_,_,rfl,.inl trivial⟩
      |ok z=>
       (obtain⟨u1,l⟩:=z;obtain⟨d,d',c,c',e1,f,f',l',rfl,q',h3,h4,hr,el,nl,hl⟩:=FH hw xa t ⟨x.off,x.spot⟩ hv q;refine .step (u1:={u with heap:=u.heap.setIfInBounds at_.block (.cells c e1 f)}) (w1:={w with heap:=w.heap.setIfInBounds at'.block (.cells c' e1 f')}) (l'.toArray.map (⟨.cell ·,true,false⟩)) hw rfl (.put hw xa.block ?_ ?_) (fun ev he=>?_) (fun t2 es=>⟨es++l.toArray.map (⟨.cell ·,true,false⟩),?_⟩) (fun es=>?_) (ih (hw.put xa.block hr)));(·intro y;exact⟨_,_,_,_,h4,by rw[el y]⟩);(·intro c1 t1 f1 y;rw[h4]at y;cases y;exact⟨_,_,rfl,.refl _⟩)
       ·simp only[Array.mem_map]at he
        (obtain⟨y,hy,rfl⟩:=he;have hy:y∈l':=by simpa using hy);rcases nl with ne|rfl
        ·refine .write (b:=at_.block) ?_ ne
         rw[hl y hy];exact xa.block
        ·cases hy
       ·have e0:(u.on t2).cell? a=none:=e
        have hz:(u.on t2).viewStore P at_ t a v false=.ok ({u.on t2 with heap:=u.heap.setIfInBounds at_.block (.cells c e1 f)},l):=by
         rw[yK,q];rfl
        have:(u.on t2).farStore P a v false=.ok ({u.on t2 with heap:=u.heap.setIfInBounds at_.block (.cells c e1 f)},l):=by
         unfold anF;rw[show(u.on t2).heap=u.heap from rfl,h1];simp only[hz]
        simp only[gQ hc,e0,bc,this];rfl
       ·have:w.farStore P a' v' false=.ok ({w with heap:=w.heap.setIfInBounds at'.block (.cells c' e1 f')},l'):=by
         unfold anF;rw[h2];simp only[q']
        simp only[gQ ML,e',bc,this]
    |_=>
     refine .inl (.now fun t2 es=>?_);have e0:(u.on t2).cell? a=none:=e
     have:(u.on t2).farStore P a v false=.error (.stuck "store: no such cell"):=by
      unfold anF anW;rw[show(u.on t2).heap=u.heap from rfl,h1]
     simp only[gQ hc,e0,bc,this];exact⟨_,_,_,rfl,.inl trivial⟩
 | @new r o o' k k' ho _ ih=>
   intro u w hw
   refine .step (u1:={u with heap:=u.heap.push o}) (w1:={w with heap:=w.heap.push o'}) #[] hw rfl (.push hw) .nil (fun t2 es=>⟨es,rfl⟩) (fun es=>?_)
    (ih _ u.heap.size w.heap.size hw.Bt (.inr ⟨rfl,rfl⟩) (Classical.byContradiction fun y=>aoI _ (hw.old _ y)) (hw.push ho))
   simp only[anf,ank]
 | @shape r a b k k' x _ ih=>
   intro u w hw;refine .step (k:=k (u.shape? a)) (k':=k' (w.shape? b)) #[] hw rfl (.refl hw) .nil (fun t2 es=>⟨es,rfl⟩) (fun es=>?_) (ih _ _ (S_ hw x) hw);simp only[anf,ank]
 | @zR r a b k s' x y _ ih=>
   intro u w hw
   have e:u.shape? a=none:=by
    (rcases eY hw x with⟨_,_,_,_,_,_,_,_,_,n⟩|⟨_,n,_⟩|⟨_,_,c,t,c',t',h1,h2,g,_⟩);(·exact absurd n y);(·exact absurd n y);(·exact l8 h1 rfl)
   refine .step (k:=k none) (k':=s') #[] hw rfl (.refl hw) .nil (fun t2 es=>⟨es,?_⟩) (fun es=>?_) (ih hw)
   ·simp only[anf,show(u.on t2).shape? a=u.shape? a from rfl,e]
   ·simp
 | @zQ r b s k' _ ih=>
   intro u w hw;refine .step (k:=s) (k':=k' (w.shape? b)) #[] hw rfl (.refl hw) .nil (fun t2 es=>⟨es,rfl⟩) (fun es=>?_) (ih _ hw);simp only[anf,ank]
 | @vm r b s k' _ ih=>
   intro u w hw;refine .step (k:=s) (k':=k' (w.frozen? b)) #[] hw rfl (.refl hw) .nil (fun t2 es=>⟨es,rfl⟩) (fun es=>?_) (ih _ hw);simp only[anf,ank]
 | @freeze r a a' n k k' x hnf _ ih=>
   intro u w hw;by_cases hn:n=0
   ·refine .step #[] hw rfl (.refl hw) .nil (fun t2 es=>⟨es,?_⟩) (fun es=>?_) (ih hw)
    ·simp only[anf,aoq,hn,if_true]
    ·simp only[anf,aoq,hn,if_true,ank]
   ·rcases eY hw x.block with⟨c,c',t,f,f',h1,h2,vs,kf,ng⟩|⟨ne,ng,o,o',h1,h2,ho,k1,k2⟩|⟨_,_,c,t,c',t',h1,h2,y,_⟩
    rotate_right
    ·rcases hnf with q|q
     (·rw[q]at y;cases y);(·exact absurd q hn)
    ·refine .step (u1:=u.freeze a n) (w1:=w.freeze a' n) #[] hw ?_ ?_ .nil (fun t2 es=>⟨es,?_⟩) (fun es=>?_) (ih ?_)
     ·rw[gO hn h1]
     ·rw[gO hn h1,gO hn h2]
      exact .put hw x.block (fun y=>⟨_,_,_,_,h2,rfl⟩) fun c1 t1 f1 q=>by rw[h2]at q;cases q;exact⟨_,_,rfl,.Qc _ _ hn⟩
     ·simp only[anf]
      rw[gO hn h1,gO (w:=u.on t2) hn h1];rfl
     ·simp only[anf,ank]
     ·rw[gO hn h1,gO hn h2]
      (refine hw.put x.block ?_;rcases kf with⟨ne,rfl⟩|⟨ye,af⟩);(·rw[x.off];exact .own ng ne (.cells _ _ vs));(·rw[x.off];exact .elder _ _ _ ng ye vs (af.Qc _ _))
    ·refine .step #[] hw rfl (.refl hw) .nil (fun t2 es=>⟨es,?_⟩) (fun es=>?_) (ih hw)
     ·simp only[anf]
      rw[xQ (w:=u.on t2) h1 k1]
     ·simp only[anf,ank]
      rw[xQ h2 k2]
 | @frozen r a a' k k' x _ ih=>
   intro u w hw;refine .step (k:=k (u.frozen? a)) (k':=k' (w.frozen? a')) #[] hw rfl (.refl hw) .nil (fun t2 es=>⟨es,rfl⟩) (fun es=>?_) (ih _ _ (CG hw x) hw);simp only[anf,ank]
 | @vn r a b o k k' x y _ ih=>
   intro u w hw;refine .step (k:=k) (k':=k' false) #[] hw rfl (.refl hw) .nil (fun t2 es=>⟨es,rfl⟩) (fun es=>?_) (ih hw);simp only[anf,ank,frozen_far hw x y]
 | @o6 r a b k s' x y _ ih=>
   intro u w hw;rcases eY hw x with⟨_,_,_,_,_,_,_,_,_,n⟩|⟨_,n,_⟩|⟨_,_,c,t,c',t',h1,h2,g,_⟩
   ·exact absurd n y
   ·exact absurd n y
   ·refine .step (k:=k (.pending c t)) (k':=s') #[] hw rfl (.refl hw) .nil (fun t2 es=>⟨es.push ⟨.obj a,false,false⟩,?_⟩) (fun es=>?_) (ih c t g hw)
    ·simp only[anf,show(u.on t2).heap=u.heap from rfl,h1];rfl
    ·simp
 | @getObj r a b k k' x cT _ ih=>
   intro u w hw;rcases eY hw x with⟨c,c',t,f,f',h1,h2,vs,kf⟩|⟨ne,ng,o,o',h1,h2,ho,k1,k2⟩|⟨_,_,c,t,c',t',h1,h2,y,_⟩
   rotate_right
   ·rcases cT with n|hb
    (·rw[n]at y;cases y);refine .inl (.now fun t2 es=>?_);obtain⟨h,w',e,bh⟩:=hb c t P (u.on t2);have q:=apT P (k (.pending c t)) (u.on t2) (es.push ⟨.obj a,false,false⟩);simp only[anf,show(u.on t2).heap=u.heap from rfl,h1];exact⟨h,w',((k (.pending c t)).runT P (u.on t2) (es.push ⟨.obj a,false,false⟩)).2,Prod.ext (q.T e) rfl,.inl bh⟩
   ·refine .inl (.now fun t2 es=>?_)
    simp only[anf,show(u.on t2).heap=u.heap from rfl,h1];exact⟨_,_,_,rfl,.inl trivial⟩
   ·refine .step #[⟨.obj b,false,false⟩] hw rfl (.refl hw) (.one (.obj x)) (fun t2 es=>⟨es.push ⟨.obj a,false,false⟩,?_⟩) (fun es=>?_) (ih ng o o' ho k1 hw)
    ·simp only[anf,show(u.on t2).heap=u.heap from rfl,h1]
     cases ho<;>first|rfl|cases k1
    ·simp only[anf,h2,rU]
     cases ho<;>first|rfl|cases k1
 | @setObj r a b o o' k k' x hng ho hc _ ih=>
   intro u w hw;rcases eY hw x with⟨c,c',t,f,f',h1,h2,vs,kf⟩|⟨ne,ng,z,z',h1,h2,hz,k1,k2⟩|⟨_,_,c,t,c',t',h1,h2,y,_⟩
   rotate_right
   ·rw[hng]at y;cases y
   ·refine .inl (.now fun t2 es=>?_)
    simp only[anf,show(u.on t2).heap=u.heap from rfl,h1];exact⟨_,_,_,rfl,.inl trivial⟩
   ·refine .step (u1:={u with heap:=u.heap.setIfInBounds a o}) (w1:={w with heap:=w.heap.setIfInBounds b o'}) #[⟨.obj b,true,false⟩] hw rfl (.put hw x (fun y=>absurd y ne) ?_) (.one (.set x ne))
     (fun t2 es=>⟨es.push ⟨.obj a,true,false⟩,?_⟩) (fun es=>?_) (ih (hw.put x (.own ng ne ho)))
    ·intro c1 t1 f1 q;rw[h2]at q;cases q;cases k2
    ·simp only[anf,show(u.on t2).heap=u.heap from rfl,h1]
     cases hz<;>first|(cases k1;done)|(cases ho<;>first|rfl|cases hc)
    ·simp only[anf,h2,rU]
     cases hz<;>first|(cases k1;done)|(cases ho<;>first|rfl|cases hc)
 | @choose r q k k' _ ih=>
   intro u w hw;by_cases hq:q.forced=true
   ·refine .step #[] hw rfl (.refl hw) .nil (fun t2 es=>⟨es,?_⟩) (fun es=>?_) (ih 0 hw)
    ·simp only[anf,hq,if_true]
    ·simp only[anf,hq,if_true,ank]
   ·have MR:WR P F C E r {u with drawn:=u.drawn+1} {w with drawn:=w.drawn+1}:=hw.tape
    have e2:∀es,(apG q k').runT P w es=(k' (q.cut (w.tape w.drawn q))).runT P {w with drawn:=w.drawn+1} es:=fun es=>by simp only[anf,hq];rfl
    have e1:∀(t t2:Tape) d,u.drawn+1<=d->nv u.drawn d (fun x=>if x=u.drawn then w.tape w.drawn else t x) t2->
      (∀es,(apG q k).runT P (u.on t2) es=(k (q.cut (w.tape w.drawn q))).runT P ({u with drawn:=u.drawn+1}.on t2) es)/\nv (u.drawn+1) d t t2:=by
     intro t t2 d l g;refine⟨fun es=>?_,fun x hx hy=>?_⟩
     ·have:=g u.drawn nR l
      simp only[if_true]at this;simp only[anf,hq,show(u.on t2).drawn=u.drawn from rfl,show(u.on t2).tape=t2 from rfl,<-this];rfl
     ·have:=g x (anz hx) hy
      rw[<-this];simp only[];rw[if_neg oM]
    rcases ih (q.cut (w.tape w.drawn q)) MR with⟨t,d,l,hb⟩|⟨t,q1,u',w',n,⟨kept,rel,evs,up,fH⟩⟩
    ·refine .inl ⟨fun x=>if x=u.drawn then w.tape w.drawn else t x,d,anz l,fun t2 g es=>?_⟩
     obtain⟨y1,y2⟩:=e1 t t2 d l g;rw[y1];exact hb t2 y2 es
    ·refine .inr ⟨fun x=>if x=u.drawn then w.tape w.drawn else t x,q1,u',w',n,⟨⟨kept.le,kept.usize,kept.size,kept.fresh,kept.made,kept.other,kept.elder,kept.fz,kept.os,kept.O,kept.tape⟩,rel,evs,anz up,?_⟩⟩
     rcases fH with⟨a,b,x,y,z⟩|⟨a,b,x,y,z⟩
     ·refine .inl ⟨a,b,x,fun es=>by rw[e2];exact y es,fun t2 g es=>?_⟩
      obtain⟨y1,y2⟩:=e1 t t2 _ up g;rw[y1];exact z t2 y2 es
     ·refine .inr ⟨a,b,x,fun es=>by rw[e2];exact y es,fun t2 g es=>?_⟩
      obtain⟨y1,y2⟩:=e1 t t2 _ up g;rw[y1];exact z t2 y2 es
 | @lone r q n k s' hq _ ih=>
   intro u w hw;have MR:WR P F C E r {u with drawn:=u.drawn+1} w:=hw.tape
   have e1:∀(t t2:Tape) d,u.drawn+1<=d->nv u.drawn d (fun x=>if x=u.drawn then(fun _=>n)else t x) t2->
     (∀es,(apG q k).runT P (u.on t2) es=(k (q.cut n)).runT P ({u with drawn:=u.drawn+1}.on t2) es)/\nv (u.drawn+1) d t t2:=by
    intro t t2 d l g;refine⟨fun es=>?_,fun x hx hy=>?_⟩
    ·have:=g u.drawn nR l
     simp only[if_true]at this;simp only[anf,hq,show(u.on t2).drawn=u.drawn from rfl,show(u.on t2).tape=t2 from rfl,<-this];rfl
    ·have:=g x (anz hx) hy
     rw[<-this];simp only[];rw[if_neg oM]
   rcases ih MR with⟨t,d,l,hb⟩|⟨t,q1,u',w',m,⟨kept,rel,evs,up,fH⟩⟩
   ·refine .inl ⟨fun x=>if x=u.drawn then(fun _=>n)else t x,d,anz l,fun t2 g es=>?_⟩
    obtain⟨y1,y2⟩:=e1 t t2 d l g;rw[y1];exact hb t2 y2 es
   ·refine .inr ⟨fun x=>if x=u.drawn then(fun _=>n)else t x,q1,u',w',m,⟨⟨kept.le,kept.usize,kept.size,kept.fresh,kept.made,kept.other,kept.elder,kept.fz,kept.os,kept.O,kept.tape⟩,rel,evs,anz up,?_⟩⟩
    rcases fH with⟨a,b,x,y,z⟩|⟨a,b,x,y,z⟩
    ·refine .inl ⟨a,b,x,y,fun t2 g es=>?_⟩
     obtain⟨y1,y2⟩:=e1 t t2 _ up g;rw[y1];exact z t2 y2 es
    ·refine .inr ⟨a,b,x,y,fun t2 g es=>?_⟩
     obtain⟨y1,y2⟩:=e1 t t2 _ up g;rw[y1];exact z t2 y2 es
 | @program r k k' _ ih=>
   intro u w hw;refine .step (k:=k P) (k':=k' P) #[] hw rfl (.refl hw) .nil (fun t2 es=>⟨es,rfl⟩) (fun es=>?_) (ih hw);simp only[anf,ank]
 | @ext r f k k' _ ih=>
   intro u w hw;refine .step (k:=k) (k':=k') #[⟨.mark (.extern f),false,true⟩] hw rfl (.refl hw) (.one (.ext f)) (fun t2 es=>⟨_,rfl⟩) (fun es=>?_) (ih hw);simp only[anf,rU]
 | @room r k k' _ ih=>
   intro u w hw;refine .step (k:=k) (k':=k') #[⟨.mark .noRoom,false,true⟩] hw rfl (.refl hw) (.one .room) (fun t2 es=>⟨_,rfl⟩) (fun es=>?_) (ih hw);simp only[anf,rU]
 | @env r k k' _ ih=>
   intro u w hw;have e (w:aah):w.sys .env=(.strings w.os.env,w):=rfl;refine .step (k:=k (.strings u.os.env)) (k':=k' (.strings u.os.env)) #[⟨.output,true,false⟩] hw rfl (.refl hw) (.one .O) (fun t2 es=>⟨es.push ⟨.output,true,false⟩,?_⟩) (fun es=>?_) (ih _ hw)
   ·simp only[anf,e];rfl
   ·simp only[anf,rU,e,hw.os]
 | @panic r v v' x=>
   intro u w hw;exact .inr ⟨fun _ _=>0,r,u,w,#[],.refl hw,hw,.nil,ahP _,.inr ⟨v,v',x,fun es=>by simp[anf],fun t2 _ es=>⟨es,rfl⟩⟩⟩
 | @bad r s s' hb=>
   intro u w hw;refine .inl (.now fun t2 es=>?_);obtain⟨h,w',e,b⟩:=hb P (u.on t2);have q:=apT P s (u.on t2) es;exact⟨h,w',(s.runT P (u.on t2) es).2,Prod.ext (q.T e) rfl,.inl b⟩
end
def iq{α:Type}:Ren->α->α->Prop:=fun _ a b=>a=b
def dB(F:ani->Prop):Ren->aai->aai->Prop:=fun r v w=>VR F r v w
def Zb:Ren->akr->akr->Prop:=fun r v w=>AR r v w
def UK(F:ani->Prop):Ren->Array aai->Array aai->Prop:=fun r v w=>bW F r v w
section
variable{P:ag0}{F:ani->Prop}{C:anB->Prop}{α β γ δ:Type}{A:Ren->α->β->Prop}{B:Ren->γ->δ->Prop}{r:Ren}
theorem SR.pure'{a:α}{b:β}(h:A r a b):SR P F C A r (Pure.pure a:Sem α) (Pure.pure b:Sem β):=.pure h
theorem SR.ai{s s':Sem α}{f:α->Sem γ}{f':α->Sem δ}(h:SR P F C iq r s s')(k:∀t a,r.le t->SR P F C B t (f a) (f' a)):SR P F C B r (s>>=f) (s'>>=f'):=
 h.bind fun t a b l e=>by cases e;exact k t a l
theorem SR.dr{s s':Sem aai}{f:aai->Sem γ}{f':aai->Sem δ}(h:SR P F C (dB F) r s s')(k:∀t v v',r.le t->VR F t v v'->SR P F C B t (f v) (f' v')):SR P F C B r (s>>=f) (s'>>=f'):=h.bind k
theorem SR.gr{s s':Sem akr}{f:akr->Sem γ}{f':akr->Sem δ}(h:SR P F C Zb r s s')(k:∀t v v',r.le t->AR t v v'->SR P F C B t (f v) (f' v')):SR P F C B r (s>>=f) (s'>>=f'):=h.bind k
theorem SR.og{s s':Sem (Array aai)}{f:Array aai->Sem γ}{f':Array aai->Sem δ}(h:SR P F C (UK F) r s s')(k:∀t v v',r.le t->bW F t v v'->SR P F C B t (f v) (f' v')):SR P F C B r (s>>=f) (s'>>=f'):=h.bind k
theorem SR.bP{a:α}{b:β}{f:α->Sem γ}{f':β->Sem δ}(h:SR P F C B r (f a) (f' b)):SR P F C B r ((Pure.pure a:Sem α)>>=f) ((Pure.pure b:Sem β)>>=f'):=h
theorem SR.ite{c:Prop}[Decidable c]{s t:Sem α}{s' t':Sem β}(h:c->SR P F C A r s s')(k:¬ c->SR P F C A r t t'):SR P F C A r (if c then s else t) (if c then s' else t'):=by
 by_cases e:c
 ·rw[if_pos e,if_pos e];exact h e
 ·rw[if_neg e,if_neg e];exact k e
theorem ah(t:String)(s:Sem β):SR P F C A r (apR t:Sem α) s:=.bad (.stuck t)
theorem aA(u:apy)(h:∀g,u≠.initOrder g)(s:Sem β):SR P F C A r (aow u:Sem α) s:=.bad (.unsupported u h)
theorem cm(u:apy)(h:∀g,u≠.initOrder g)(f:γ->Sem α)(s:Sem β):SR P F C A r ((aow u:Sem γ)>>=f) s:=.bad ((nD.unsupported u h).then f)
theorem dL(t:String)(f:γ->Sem α)(s:Sem β):SR P F C A r ((apR t:Sem γ)>>=f) s:=.bad ((nD.stuck t).then f)
theorem fC(h:VR F r v v'):SR P F C A r (goPanic v:Sem α) (goPanic v':Sem β):=.panic h
theorem yB(h:AR r a a'):SR P F C (dB F) r (apL a) (apL a'):=.load h fun _ _ _ k=>.pure k
theorem X4(h:AR r a a'):SR P F C (fun s v w=>VR F s v w/\r.eO a.block=none) r (apL a) (apL a'):=.load h fun _ _ n k=>.pure ⟨k,n⟩
theorem X7(h:AR r a a')(k:VR F r v v'):SR P F C iq r (Go.store a v) (Go.store a' v'):=.store h k (.pure rfl)
theorem iZ{o o':Obj}(h:OR P F C r o o'):SR P F C (fun s a b=>s a b) r (apk o) (apk o'):=.new h fun _ _ _ _ k _=>.pure k
theorem OV{o o':Obj}(h:OR P F C r o o'):SR P F C (fun s a b=>s a b/\s.eO a=none) r (apk o) (apk o'):=.new h fun _ _ _ _ k n=>.pure ⟨k,n⟩
theorem SR.sJ{a b:Nat}{f:Option (aat×Nat)->Sem γ}{f':Option (aat×Nat)->Sem δ}(h:r a b)(k:∀x,r.eO a=none->SR P F C B r (f x) (f' x))(kf:∀t n,r.eO a=some n->n≠0->SR P F C B r (f none) (f' (some (t,n)))):
  SR P F C B r (aoA a>>=f) (aoA b>>=f'):=.shape h fun x y e=>by
 cases e with
 |same x n=>exact k x n
 |eO t m z=>exact kf t _ m z
theorem SR.ahA{a b:Nat}{f:Option (aat×Nat)->Sem γ}{s':Sem δ}(h:r a b)(n:r.eO a≠none)(k:SR P F C B r (f none) s'):SR P F C B r (aoA a>>=f) s':=.zR h n k
theorem GW(h:AR r a b)(n:Nat)(k:r.eO a.block=none\/n=0):SR P F C iq r (Go.freeze a n) (Go.freeze b n):=.freeze h k (.pure rfl)
theorem SR.Cf{a b:Nat}{f:Obj->Sem γ}{f':Obj->Sem δ}(h:r a b)(hb:∀c t,nD (f (.pending c t)))(k:r.eO a=none->∀o o',OR P F C r o o'->isCells o=false->SR P F C B r (f o) (f' o')):
 SR P F C B r (apm a>>=f) (apm b>>=f'):=.getObj h (.inr hb) k
theorem SR.Ni{a b:Nat}{f:Obj->Sem γ}{f':Obj->Sem δ}(h:r a b)(hn:r.eO a=none)(k:∀o o',OR P F C r o o'->isCells o=false->SR P F C B r (f o) (f' o')):
 SR P F C B r (apm a>>=f) (apm b>>=f'):=.getObj h (.inl hn) fun _=>k
theorem jN{a b:Nat}{o o':Obj}(h:r a b)(n:r.eO a=none)(k:OR P F C r o o')(e:isCells o=false):SR P F C iq r (Go.setObj a o) (Go.setObj b o'):=.setObj h n k e (.pure rfl)
theorem fo(q:aoy):SR P F C iq r (apn q) (apn q):=.choose q fun _=>.pure rfl
theorem SR.f_{f:ag0->Sem γ}{f':ag0->Sem δ}(k:SR P F C B r (f P) (f' P)):SR P F C B r (aoB>>=f) (aoB>>=f'):=
 .program k
theorem SR.j4{f:aoC->Sem γ}{f':aoC->Sem δ}{t:aat}(k:∀i,P.info? t=some i->SR P F C B r (f i) (f' i)):SR P F C B r (typeInfo t>>=f) (typeInfo t>>=f'):=by
 show SR P F C B r ((aoB>>=fun p=>_)>>=f) _
 cases h:P.info? t with
 |none=>exact .program (by show SR P F C B r ((match P.info? t with|some i=>Pure.pure i|none=>stuck "no such type":Sem aoC)>>=f) _;rw[h];exact dL _ _ _)
 |some i=>exact .program (by show SR P F C B r ((match P.info? t with|some i=>Pure.pure i|none=>stuck "no such type":Sem aoC)>>=f) ((match P.info? t with|some i=>Pure.pure i|none=>stuck "no such type":Sem aoC)>>=f');rw[h];exact k i h)
theorem SR.cD{f:aoD->Sem γ}{f':aoD->Sem δ}{t:aat}(k:∀i,P.underlying t=some i->SR P F C B r (f i) (f' i)):SR P F C B r (underlying t>>=f) (underlying t>>=f'):=by
 show SR P F C B r ((aoB>>=fun p=>_)>>=f) _
 cases h:P.underlying t with
 |none=>exact .program (by show SR P F C B r ((match P.underlying t with|some i=>Pure.pure i|none=>stuck "no such type":Sem aoD)>>=f) _;rw[h];exact dL _ _ _)
 |some i=>exact .program (by show SR P F C B r ((match P.underlying t with|some i=>Pure.pure i|none=>stuck "no such type":Sem aoD)>>=f) ((match P.underlying t with|some i=>Pure.pure i|none=>stuck "no such type":Sem aoD)>>=f');rw[h];exact k i h)
theorem bN(t:aat):SR P F C iq r (sizeOf t) (sizeOf t):=.j4 fun _ _=>.pure' rfl
theorem Mb(t:aat):SR P F C iq r (isAgg t) (isAgg t):=.cD fun i _=>by cases i<;>exact .pure' rfl
theorem vC(t:aat):SR P F C iq r (elemOf t) (elemOf t):=.cD fun i _=>by cases i<;>first|exact .pure' rfl|exact ah _ _
theorem Ds(n:String):SR P F C iq r (cutType n) (cutType n):=.f_ (by
 cases h:P.cutTypes.find? (·.1 == n)with
 |none=>exact ah _ _
 |some i=>exact .pure' rfl)
theorem wX(t:aat):SR P F C iq r (typeStr t) (typeStr t):=.j4 fun i _=>by
 simp only[];split
 ·exact aA _ sP _
 ·exact .pure' rfl
def lE(P:ag0)(F:ani->Prop)(t:aat):Prop:=∀i v,P.info? t=some i->i.zero=some v->∀r,VR F r v v
theorem me{t:aat}(h:lE P F t):SR P F C (dB F) r (zeroValue t) (zeroValue t):=.j4 fun i e=>by
 cases q:i.zero with
 |none=>exact aA _ sP _
 |some v=>exact .pure' (h i v e q r)
theorem qW:∀(n i:Nat) {r:Ren} {x x':Array aai},AR r a a'->bW F r x x'->SR P F C (UK F) r (loadCellsFrom a i n x) (loadCellsFrom a' i n x')
 |0,_,_,_,_,_,k=>.pure' k
 |n+1,i,_,_,_,h,k=>.dr (yB (h.add i)) fun _ _ _ l e=>qW n (i+1) (h.mono l) ((k.mono l).push e)
theorem sC(h:AR r a a')(n:Nat):SR P F C (UK F) r (loadCells a n) (loadCells a' n):=qW n 0 h .nil
theorem l_:∀{l l':List aai} {r:Ren} (i:Nat),AR r a a'->iC (VR F r) l l'->SR P F C iq r (storeCells a l i) (storeCells a' l' i):=by
 intro l
 induction l with
 |nil=>intro l' r i h k;cases k;exact .pure' rfl
 |cons v l ih=>
  intro l' r i h k;cases k with
  |cons e k=>exact .ai (X7 (h.add i) e) fun t _ le=>ih (i+1) (h.mono le) (k.mono fun _ _ x=>x.mono le)
theorem iM(t:aat)(h:AR r a a'):SR P F C (dB F) r (loadVar t a) (loadVar t a'):=.ai (Mb t) fun s b l=>by
 cases b with
 |true=>exact .ai (bN t) fun s' n l'=>.og (sC ((h.mono l).mono l') n) fun q x y l k=>.pure' (.AY k)
 |false=>exact yB (h.mono l)
theorem bQ(t:aat)(h:AR r a a')(k:VR F r v v'):SR P F C iq r (storeVar t a v) (storeVar t a' v'):=.ai (bN t) fun s n l=>by
 have kc:=(k.mono l).cells;rw[kc.1];split
 ·exact dL _ _ _
 ·exact l_ 0 (h.mono l) kc.toList
theorem n_(e:aat)(h:bW F r x y):SR P F C Zb r (apo e x) (apo e y):=(iZ (.cells e (0,0) h)).then fun _ _ _ _ k=>.pure' (.mk 0 none k)
theorem OW(e:aat)(h:bW F r x y):SR P F C (fun s a b=>AR s a b/\s.eO a.block=none) r (apo e x) (apo e y):=(OV (.cells e (0,0) h)).then fun _ _ _ _ k=>.pure' ⟨.mk 0 none k.1,k.2⟩
theorem oc(e:aat){w:aai}(h:VR F r v w):SR P F C Zb r (newVar e v) (newVar e w):=n_ e h.cells
theorem i_(t:aat)(h:bW F r x y)(o:Nat):SR P F C (dB F) r (part t x o) (part t y o):=.ai (Mb t) fun s b l=>by
 cases b with
 |true=>exact .ai (bN t) fun s' n l'=>.pure' (.AY (((h.mono l).mono l').extract _ _))
 |false=>
  rcases(h.mono l).get? o with⟨p,q⟩|⟨v,w,p,q,k⟩
  ·simp only[p,q];exact ah _ _
  ·simp only[p,q];exact .pure' k
theorem VR.handle(P:ag0)(h:r.aR=P.globals.size)(t:aat):VR F r (aoE P t) (aoE P t):=.ptr (.mk _ _ (h▸r.self))
end
section
variable{P:ag0}{F:ani->Prop}{C:anB->Prop}{α β γ δ:Type}{A:Ren->α->β->Prop}{B:Ren->γ->δ->Prop}{r:Ren}
theorem aT(e:RuntimeError)(h:r.aR=P.globals.size):SR P F C A r (runtimePanic e:Sem α) (runtimePanic e:Sem β):=by
 refine .f_ ?_;cases e with
 |bounds x y s c=>exact fC (.iface _ (.AY (.push (.three (.int _ _) (.int _ _) (.bool _)) (.int _ _))))
 |error m=>exact fC (.iface _ (.string _))
 |plain m=>exact fC (.iface _ (.string _))
 |nilDeref=>exact fC (.iface _ (.string _))
 |typeAssertion i c a m=>
  have hd (t:Option aat):VR F r (match t with|some t=>aoE P t|none=>.pointer none) (match t with|some t=>aoE P t|none=>.pointer none):=by
   cases t with
   |none=>exact .gP
   |some t=>exact .handle P h t
  refine .ai (vC _) fun t n l=>.gr (oc _ (.AY (.push (.three ((hd i).mono l) ((hd c).mono l) ((hd (some a)).mono l)) (.string _)))) fun q x y l2 k=>?_
  exact fC (.iface _ (.ptr k))
 |panicNil=>exact .ai (vC _) fun t n l=>.gr (oc _ (.AY .nil)) fun q x y l2 k=>fC (.iface _ (.ptr k))
 |unhashable t=>exact fC (.iface _ (.AY (.one (.handle P h t))))
theorem bF(e:RuntimeError)(f:γ->Sem α)(f':δ->Sem β)(h:r.aR=P.globals.size):SR P F C A r ((runtimePanic e:Sem γ)>>=f) ((runtimePanic e:Sem δ)>>=f'):=
 (aT (A:=fun _ (_:γ) (_:δ)=>False) e h).bind fun _ _ _ _ k=>k.elim
theorem gy(k:aoh)(x y:Int)(c:apH)(h:r.aR=P.globals.size):SR P F C A r (boundsPanic k x y c:Sem α) (boundsPanic k x y c:Sem β):=by
 unfold boundsPanic;dsimp only;split
 ·exact((fo _).ai fun t s l=>.pure' rfl:SR P F C iq r _ _).ai fun t s l=>aT _ (l.aR h)
 ·exact(.pure' rfl:SR P F C iq r _ _).ai fun t s l=>aT _ (l.aR h)
theorem kN(m:String):SR P F C A r (panicString m:Sem α) (panicString m:Sem β):=.f_ (fC (.iface _ (.string _)))
theorem sr{w:aai}(h:VR F r v w):SR P F C iq r (asIntOf v) (asIntOf w):=by
 cases h<;>first|exact .pure' rfl|exact ah _ _|exact aA _ sP _
theorem oF{w:aai}(h:VR F r v w):SR P F C iq r (asInt v) (asInt w):=(sr h).ai fun _ _ _=>.pure' rfl
theorem zT{w:aai}(h:VR F r v w):SR P F C iq r (asBool v) (asBool w):=by
 cases h<;>first|exact .pure' rfl|exact ah _ _
theorem XW{w:aai}(h:VR F r v w):SR P F C (UK F) r (asAgg v) (asAgg w):=by
 cases h with
 |agg a b=>exact .pure' ⟨a,b⟩
 |_=>exact ah _ _
theorem qV{w:aai}(h:VR F r v w)(hl:r.aR=P.globals.size):SR P F C Zb r (asAddr v) (asAddr w):=by
 cases h with
 |ptr a=>exact .pure' a
 |gP=>exact aT (α:=akr) (β:=akr) .nilDeref hl
 |_=>exact ah _ _
theorem mN{w:aai}(h:VR F r v w):SR P F C Zb r (Instr.sureAddr v) (Instr.sureAddr w):=by
 cases h with
 |ptr a=>exact .pure' a
 |_=>exact ah _ _
theorem vE{a b:Nat}(h:r a b):SR P F C (fun s x y=>(x=none/\y=none)\/∃a b t,x=some (a,t)/\y=some (b,t)/\AR s a b) r (viewAt a) (viewAt b):=by
 refine SR.sJ h (fun s hn=>?_) fun ty n y z=>?_
 ·cases s with
  |some _=>exact .pure' (.inl ⟨rfl,rfl⟩)
  |none=>
   refine SR.Ni h hn fun o o' k e=>?_
   cases k with
   |cells t f c=>cases e
   |view t nf x=>exact .pure' (.inr ⟨_,_,_,rfl,rfl,x⟩)
   |number l a=>exact .pure' (.inl ⟨rfl,rfl⟩)
   |map k e=>exact .pure' (.inl ⟨rfl,rfl⟩)
   |iter s p=>exact .pure' (.inl ⟨rfl,rfl⟩)
   |loop l=>exact .pure' (.inl ⟨rfl,rfl⟩)
   |taken=>exact .pure' (.inl ⟨rfl,rfl⟩)
   |deferred l=>exact .pure' (.inl ⟨rfl,rfl⟩)
 ·exact .o6 h (by simp[y]) fun c t _=>.pure' (.inl ⟨rfl,rfl⟩)
theorem AK{a b:Nat}(h:r a b):SR P F C (fun s x y=>(x=none/\y=none)\/∃c d l,x=some (c,l)/\y=some (d,l)/\AR s c d) r (numberAt a) (numberAt b):=by
 refine SR.sJ h (fun s hn=>?_) fun ty n y z=>?_
 ·cases s with
  |some _=>exact .pure' (.inl ⟨rfl,rfl⟩)
  |none=>
   refine SR.Ni h hn fun o o' k e=>?_
   cases k with
   |cells t f c=>cases e
   |number l x=>exact .pure' (.inr ⟨_,_,_,rfl,rfl,x⟩)
   |view t nf x=>exact .pure' (.inl ⟨rfl,rfl⟩)
   |map k e=>exact .pure' (.inl ⟨rfl,rfl⟩)
   |iter s p=>exact .pure' (.inl ⟨rfl,rfl⟩)
   |loop l=>exact .pure' (.inl ⟨rfl,rfl⟩)
   |taken=>exact .pure' (.inl ⟨rfl,rfl⟩)
   |deferred l=>exact .pure' (.inl ⟨rfl,rfl⟩)
 ·exact .o6 h (by simp[y]) fun c t _=>.pure' (.inl ⟨rfl,rfl⟩)
def NbR:Ren->akr×Bool->akr×Bool->Prop:=fun s x y=>AR s x.1 y.1/\x.2=y.2
theorem dN(h:AR r a b):SR P F C NbR r (behindNumber a) (behindNumber b):=
 (AK h.block).then fun t x y l k=>by
  rcases k with⟨rfl,rfl⟩|⟨c,d,m,rfl,rfl,e⟩
  ·exact .pure' ⟨h.mono l,rfl⟩
  ·exact .pure' ⟨e,rfl⟩
theorem qX(h:AR r a b):SR P F C iq r (apq a) (apq b):=(vE h.block).then fun t x y l k=>by
 rcases k with⟨rfl,rfl⟩|⟨a,b,t,rfl,rfl,_⟩
 ·exact .pure' rfl
 ·exact aA _ sP _
theorem lR(h:AR r a b):SR P F C iq r (byteOf a) (byteOf b):=by
 cases h with| @mk b c o s x=>
 unfold byteOf;cases s with
 |some s=>exact .pure' rfl
 |none=>
  refine .f_ ?_;refine(qX (.mk o none x)).ai fun t _ l=>?_
  refine SR.sJ (l.to x) (fun s _=>?_) fun ty n y z=>ah _ _
  cases s with
  |none=>exact ah _ _
  |some s=>
   obtain⟨e,n⟩:=s;simp only[];split;(·exact .pure' rfl)
   ·cases byteOfCell P P.depth e (o % P.cellsOf e)with
    |none=>exact ah _ _
    |some b=>exact .pure' rfl
theorem Tl(h:AR r a b)(n m:Nat):SR P F C Zb r (partAt a n m) (partAt b n m):=by
 have hp:AR r {block:=a.block,off:=a.off+n} {block:=b.block,off:=b.off+n}:=by rw[h.off];exact h.at _ _
 refine(lR h).ai fun t x l=>(lR (hp.mono l)).ai fun t2 y l2=>.pure' ?_
 split
 ·exact(hp.mono l).mono l2
 ·rw[h.off];exact((h.at _ _).mono l).mono l2
theorem qh(h:AR r a b)(f:Field):SR P F C Zb r (fieldPlace a f) (fieldPlace b f):=(bN _).ai fun t n l=>by
 split
 ·exact Tl (h.mono l) _ _
 ·exact .pure' ((h.mono l).add _)
theorem uP(h:AR r a b)(u:aat)(n:Nat):SR P F C (fun _ x y=>x=y\/(r.eO a.block≠none/\x=false)) r (variablesAt a u n) (variablesAt b u n):=.f_ (SR.sJ h.block (fun s hn=>by
 cases s with
 |none=>exact .pure' (.inl rfl)
 |some s=>obtain⟨e,m⟩:=s;exact .pure' (.inl (by rw[h.off]))) fun ty n y z=>.pure' (.inr ⟨by simp[y],rfl⟩))
theorem I6:∀(n:Nat) {r:Ren} (_:AR r a b) (x:ByteArray),SR P F C iq r (apr a x n) (apr b x n):=by
 intro n
 induction n generalizing a b with
 |zero=>intro r h x;exact .pure' rfl
 |succ n ih=>
  intro r h x;refine(yB h).dr fun t v w l k=>?_
  cases k with
  |int k m=>cases k<;>first|exact ah _ _|exact ih ((h.mono l).add 1) _
  |_=>exact ah _ _
theorem Fs(n:Nat){r:Ren}(h:AR r a b)(x:ByteArray):SR P F C (fun _ c d=>c=d/\(r.eO a.block=none\/n=0)) r (apr a x n) (apr b x n):=by
 cases n with
 |zero=>exact .pure' ⟨rfl,.inr rfl⟩
 |succ n=>
  refine(X4 h).then fun t v w l k=>?_
  obtain⟨k,hn⟩:=k;cases k with
  |int k m=>
   cases k with
   |u8=>exact(I6 n ((h.mono l).add 1) _).Gw fun _ _ _ _ e=>⟨e,.inl hn⟩
   |_=>exact ah _ _
  |_=>exact ah _ _
end
section
variable{P:ag0}{F:ani->Prop}{C:anB->Prop}{α β γ δ:Type}{A:Ren->α->β->Prop}{B:Ren->γ->δ->Prop}{r:Ren}
theorem XV{e:aat}(h:lE P F e):SR P F C (dB F) r (Instr.alloc e true (.tuple #[])) (Instr.alloc e true (.tuple #[])):=
 (me h).dr fun _ _ _ _ k=>(oc e k).gr fun _ _ _ _ k=>.pure' (.ptr k)
theorem Ti(t:aat){w:aai}(h:VR F r v w):SR P F C (dB F) r (Instr.loadAt t v) (Instr.loadAt t w):=(mN h).gr fun _ _ _ _ k=>iM t k
theorem OZ(t:aat){w x y:aai}(h:VR F r v w)(k:VR F r x y):SR P F C iq r (Instr.storeAt t v x) (Instr.storeAt t w y):=(mN h).gr fun _ _ _ l q=>bQ t q (k.mono l)
theorem OS(t:aat){w:aai}(h:VR F r v w)(f:Nat):SR P F C (dB F) r (Instr.fieldAt t v f) (Instr.fieldAt t w f):=.cD fun i _=>by
 cases i with
 |struct fs=>
  simp only[];cases fs[f]? with
  |none=>exact ah _ _
  |some f=>exact(mN h).gr fun s a b l k=>(qh k f).gr fun q x y l k=>.pure' (.ptr k)
 |_=>exact ah _ _
theorem OT(t:aat){w x y:aai}(h:VR F r v w)(k:VR F r x y)(hl:r.aR=P.globals.size):SR P F C (dB F) r (aoT t v x) (aoT t w y):=by
 unfold aoT;refine(sr k).ai fun s n l=>?_
 obtain⟨kd,i⟩:=n;refine .cD fun d hd=>?_
 have hh:=h.mono l;have MO:=l.aR hl;cases d with
 |array n e=>
  refine(mN hh).gr fun q a b l2 ka=>.bP ?_
  dsimp only;refine .cD fun d' VS=>?_
  exact .ite (fun _=>(bN _).ai fun t n l=>.pure' (.ptr ((ka.mono l).add _))) fun _=>.ite (fun _=>aA _ sP _) fun _=>gy _ _ _ _ (l2.aR MO)
 |slice e=>
  cases hh with
  |slice n c ka=>
   (refine .bP ?_;dsimp only;refine .cD fun d' VS=>?_);exact .ite (fun _=>(bN _).ai fun t n l=>.pure' (.ptr ((ka.mono l).add _))) fun _=>.ite (fun _=>aA _ sP _) fun _=>gy _ _ _ _ MO
  |nj n c=>
   refine .bP ?_;dsimp only;exact .cD fun d' VS=>gy _ _ _ _ MO
  |_=>exact dL _ _ _
 |_=>exact dL _ _ _
theorem fZ{x x':aai}(h:VR F r x x')(n:Nat)(c:apH)(hl:r.aR=P.globals.size):SR P F C iq r (anH x n c) (anH x' n c):=by
 unfold anH;refine(sr h).ai fun s m l=>?_
 obtain⟨k,i⟩:=m;dsimp only;split
 ·exact .pure' rfl
 ·exact gy _ _ _ _ (l.aR hl)
def M4(F:ani->Prop)(r:Ren):Option aai->Option aai->Prop
 |none,none=>True
 |some a,some b=>VR F r a b
 |_,_=>False
theorem M4.mono{s:Ren}(l:r.le s){x y:Option aai}(h:M4 F r x y):M4 F s x y:=by cases x<;>cases y<;>first|exact h|exact VR.mono l h
theorem iO(b:Bool)(len cap:Nat){x x' y y' z z':Option aai}(hx:M4 F r x x')(hy:M4 F r y y')(hz:M4 F r z z')(hl:r.aR=P.globals.size):
  SR P F C iq r (anD b len cap x y z) (anD b len cap x' y' z'):=by
 have low:∀{q:Ren} {x x':Option aai} (n:Nat) (c:apH),q.aR=P.globals.size->M4 F q x x'->SR P F C iq q (match x with|some v=>anH v n c|none=>pure 0) (match x' with|some v=>anH v n c|none=>pure 0):=by
  intro q x x' n c hq h;cases x<;>cases x'<;>first|exact absurd h id|exact .pure' rfl|exact fZ h _ _ hq
 unfold anD;cases z with
 |none=>
  cases z' with
  |some _=>exact absurd hz id
  |none=>
   refine .bP ?_;cases y<;>cases y'<;>first|exact absurd hy id|skip
   ·refine .bP ?_
    (cases x<;>cases x'<;>first|exact absurd hx id|skip);(·exact .bP (.pure' rfl));(·exact(fZ hx _ _ hl).ai fun t n l=>.pure' rfl)
   ·refine(fZ hy _ _ hl).ai fun t n l=>?_
    (cases x<;>cases x'<;>first|exact absurd hx id|skip);(·exact .bP (.pure' rfl));(·exact(fZ (hx.mono l) _ _ (l.aR hl)).ai fun t n l=>.pure' rfl)
 |some z=>
  cases z' with
  |none=>exact absurd hz id
  |some z'=>
   refine(fZ hz _ _ hl).ai fun t m l=>?_
   have MO:=l.aR hl;cases y<;>cases y'<;>first|exact absurd hy id|skip
   ·exact dL _ _ _
   ·refine(fZ (hy.mono l) _ _ MO).ai fun t n l2=>?_
    (cases x<;>cases x'<;>first|exact absurd hx id|skip);(·exact .bP (.pure' rfl));(·exact(fZ ((hx.mono l).mono l2) _ _ (l2.aR MO)).ai fun t n l=>.pure' rfl)
end
section
variable{P:ag0}{F:ani->Prop}{C:anB->Prop}{α β γ δ:Type}{A:Ren->α->β->Prop}{B:Ren->γ->δ->Prop}{r:Ren}
theorem X6(t:aat){v w x x' y y' z z':_}(h:VR F r v w)(hx:M4 F r x x')(hy:M4 F r y y')(hz:M4 F r z z')(hl:r.aR=P.globals.size):
  SR P F C (dB F) r (apz t v x y z) (apz t w x' y' z'):=by
 unfold apz;refine .cD fun d hd=>?_
 cases d with
 |string=>
  cases h with
  |string s=>
   (have:z.isSome=z'.isSome:=by cases z<;>cases z'<;>first|rfl|exact absurd hz id);(simp only[this];refine .ite (fun _=>dL _ _ _) fun _=>.bP ?_);exact(iO _ _ _ hx hy (z:=none) (z':=none) trivial hl).ai fun t n l=>.pure' (.string _)
  |_=>exact ah _ _
 |slice e=>
  cases h with
  |slice n c ka=>
   exact(iO _ _ _ hx hy hz hl).ai fun t m l=>(bN _).ai fun t2 k l2=>.pure' (by
    obtain⟨a,b,c⟩:=m;dsimp only;split;(·exact .slice _ _ ((ka.mono l).mono l2))
    ·exact .slice _ _ (((ka.mono l).mono l2).add _))
  |nj n c=>
   exact(iO _ _ _ hx hy hz hl).ai fun t m l=>(bN _).ai fun t2 k l2=>.pure' (by
    obtain⟨a,b,c⟩:=m;dsimp only;split<;>exact .nj _ _)
  |_=>exact ah _ _
 |pointer e=>
  have key:SR P F C (dB F) r (do
    let a<-asAddr v
    let .array n elem<-underlying e|stuck "Slice: array type expected"
    let (l,h,m)<-anD false n n x y z
    let size<-sizeOf elem
    pure (.slice (some (if m=l then a else a.add (l*size))) (h - l) (m - l))) (do
    let a<-asAddr w
    let .array n elem<-underlying e|stuck "Slice: array type expected"
    let (l,h,m)<-anD false n n x' y' z'
    let size<-sizeOf elem
    pure (.slice (some (if m=l then a else a.add (l*size))) (h - l) (m - l))):=by
   refine(qV h hl).gr fun q a b l ka=>.cD fun d2 hd2=>?_
   cases d2 with
   |array n e2=>
    exact(iO _ _ _ (hx.mono l) (hy.mono l) (hz.mono l) (l.aR hl)).ai fun t m l=>(bN _).ai fun t2 k l2=>.pure' (by
     obtain⟨a,b,c⟩:=m;dsimp only;split;(·exact .slice _ _ ((ka.mono l).mono l2))
     ·exact .slice _ _ (((ka.mono l).mono l2).add _))
   |_=>exact ah _ _
  cases h<;>exact key
 |_=>exact ah _ _
theorem OY(t:aat){v w x x' y y' z z':_}(h:VR F r v w)(hx:M4 F r x x')(hy:M4 F r y y')(hz:M4 F r z z')(hl:r.aR=P.globals.size):
  SR P F C (dB F) r (ao2 t v x y z) (ao2 t w x' y' z'):=by
 unfold ao2;refine .cD fun d hd=>?_
 cases d with
 |array n e=>
  refine(mN h).gr fun q a b l ka=>?_
  exact(iO _ _ _ (hx.mono l) (hy.mono l) (hz.mono l) (l.aR hl)).ai fun t m l=>(bN _).ai fun t2 k l2=>.pure' (by
   obtain⟨a,b,c⟩:=m;dsimp only;split;(·exact .slice _ _ ((ka.mono l).mono l2))
   ·exact .slice _ _ (((ka.mono l).mono l2).add _))
 |_=>exact X6 t h hx hy hz hl
theorem X1(t:aat){w:aai}(h:VR F r v w)(f:Nat):SR P F C (dB F) r (Instr.field t v f) (Instr.field t w f):=.cD fun i _=>by
 cases i with
 |struct fs=>
  dsimp only;cases fs[f]? with
  |none=>exact ah _ _
  |some f=>exact(XW h).og fun s a b l k=>i_ _ k _
 |_=>exact ah _ _
theorem X2(t:aat){w x y:aai}(h:VR F r v w)(k:VR F r x y)(hl:r.aR=P.globals.size):SR P F C (dB F) r (ako t v x) (ako t w y):=by
 unfold ako;refine(sr k).ai fun s n l=>?_
 obtain⟨kd,i⟩:=n;have hh:=h.mono l;have MO:=l.aR hl;refine .cD fun d hd=>?_
 cases d with
 |array n e=>
  cases hh with
  |agg a b=>exact .ite (fun _=>(bN _).ai fun t n l=>i_ _ (bW.mono l ⟨a,b⟩) _) fun _=>gy _ _ _ _ MO
  |_=>exact ah _ _
 |string=>
  cases hh with
  |string s=>
   dsimp only;cases (if 0<=i then s[i.toNat]? else none)with
   |none=>exact gy _ _ _ _ MO
   |some b=>exact .pure' (.int _ _)
  |_=>exact ah _ _
 |_=>exact ah _ _
theorem zW(t:aat){w:aai}(h:VR F r v w):SR P F C (dB F) r (Instr.makeInterface t v) (Instr.makeInterface t w):=.cD fun i _=>by
 cases i<;>first|exact ah _ _|exact .pure' (.iface _ h)
theorem OU(t:aat){x x':Option aai}(h:M4 F r x x'):SR P F C (dB F) r (ao4 t x) (ao4 t x'):=by
 unfold ao4
 have last:∀q,SR P F C (dB F) q (do pure (.map (some (<-apk (.map #[] 0))))) (do pure (.map (some (<-apk (.map #[] 0))))):=fun q=>
  (iZ (.map 0 .nil)).then fun t a b l k=>.pure' (.map k)
 cases x<;>cases x'<;>first|exact absurd h id|skip
 ·exact .bP (last _)
 ·refine .cD fun d hd=>?_
  cases d with
  |map k e=>exact(oF h).ai fun t n l=>last _
  |_=>exact dL _ _ _
theorem bW.Q3(n:Nat)(h:bW F r x y):bW F r ((aov n).map (x[·% x.size]!)) ((aov n).map (y[·% y.size]!)):=by
 refine .map _ fun i _=>?_
 have e (z:Array aai) (c:Nat):z[c]! =(z[c]?).getD default:=by simp[getElem!_def];cases z[c]?<;>rfl
 rw[e,e,h.1];rcases h.get? (i % y.size)with⟨a,b⟩|⟨v,w,a,b,c⟩
 ·rw[a,b];exact .bool _
 ·rw[a,b];exact c
theorem I7{t:aat}{w x y:aai}(hz:∀e,P.underlying t=some (.slice e)->lE P F e)(h:VR F r v w)(k:VR F r x y)(hl:r.aR=P.globals.size):
  SR P F C (dB F) r (aos t v x) (aos t w y):=by
 unfold aos;refine .cD fun d hd=>?_
 cases d with
 |slice e=>
  have hz:=hz e hd;refine(oF h).ai fun s1 n l1=>(oF (k.mono l1)).ai fun s2 m l2=>.j4 fun i hi=>?_
  have Y0:=l2.aR (l1.aR hl);dsimp only;refine .ite (fun _=>?_) (fun _=>?_)
  ·refine .ite (fun _=>bF _ _ _ Y0) fun _=>.ite (fun _=>bF _ _ _ Y0) fun _=>?_
   exact(fo _).ai fun t n l=>bF _ _ _ (l.aR Y0)
  ·have room:SR P F C iq s2 (askRoom ((IntKind.i64.wrap m).toNat*i.bytes)) (askRoom ((IntKind.i64.wrap m).toNat*i.bytes)):=by
    unfold askRoom;exact .ite (fun _=>.room (.pure rfl)) fun _=>.pure' rfl
   (refine room.ai fun t _ l=>(bN _).ai fun t2 n2 l'=>?_);(refine .ite (fun _=>?_) fun _=>?_);(·exact .bP ((n_ e (.Q3 _ .nil)).gr fun q a b l k=>.pure' (.slice _ _ k)));(·exact(me hz).dr fun q v w l k=>.bP ((n_ e (.Q3 _ k.cells)).gr fun q a b l k=>.pure' (.slice _ _ k)))
 |_=>exact ah _ _
theorem bW.afN{cs ds:Array aai}(o:Nat):∀{l m:List aai} (j:Nat),iC (VR F r) l m->bW F r cs ds->bW F r ((l.zipIdx j).foldl (fun cs (c,j)=>cs.setIfInBounds (o+j) c) cs) ((m.zipIdx j).foldl (fun cs (c,j)=>cs.setIfInBounds (o+j) c) ds):=by
 intro l
 induction l generalizing cs ds with
 |nil=>intro m j h k;cases h;exact k
 |cons a l ih=>
  intro m j h k;cases h with
  |cons e h=>exact ih (j+1) h (k.set _ e)
theorem CE{place:Nat->Option (Nat×Nat)}:∀{l m:List (Nat×aai)} {cs ds:Array aai},iC (fun x y=>x.1=y.1/\VR F r x.2 y.2) l m->bW F r cs ds->
  (an3 place cs l=none/\an3 place ds m=none)\/∃x y,an3 place cs l=some x/\an3 place ds m=some y/\bW F r x y:=by
 intro l
 induction l with
 |nil=>intro m cs ds h k;cases h;exact .inr ⟨_,_,rfl,rfl,k⟩
 |cons a l ih=>
  intro m cs ds h k;cases h with
  | @cons _ b _ m e h=>
    obtain⟨i,v⟩:=a;obtain⟨i',w⟩:=b;obtain⟨e1,e2⟩:=e;simp only at e1 e2;subst e1;unfold an3;cases place i with
    |none=>exact .inl ⟨rfl,rfl⟩
    |some p=>
     obtain⟨o,z⟩:=p;dsimp only;rw[e2.cells.1,k.1];split;(·exact .inl ⟨rfl,rfl⟩)
     ·refine ih h ?_
      have:=bW.afN (F:=F) (r:=r) o (cs:=cs) (ds:=ds) 0 e2.cells.toList k;rw[<-aps,<-aps,Array.toList_zipIdx,Array.toList_zipIdx];exact this
theorem I8{ε ζ:Type}(f:ε->Sem ζ)(h:∀x (q:Ren),SR P F C iq q (f x) (f x)):∀(l:List ε) (q:Ren),SR P F C iq q (l.mapM f) (l.mapM f):=by
 intro l
 induction l with
 |nil=>intro q;rw[List.mapM_nil];exact .pure' rfl
 |cons a l ih=>intro q;rw[List.mapM_cons];exact(h a q).ai fun t x _=>(ih t).ai fun t2 y _=>.pure' rfl
end
section
variable{P:ag0}{F:ani->Prop}{C:anB->Prop}{α β γ δ:Type}{A:Ren->α->β->Prop}{B:Ren->γ->δ->Prop}{r:Ren}
theorem Fu{ε ζ:Type}(f:ε->Sem ζ)(h:∀x (q:Ren),SR P F C iq q (f x) (f x))(xs:Array ε)(q:Ren):SR P F C iq q (xs.mapM f) (xs.mapM f):=by
 obtain⟨l⟩:=xs;rw[List.mapM_toArray]
 show SR P F C iq q ((List.toArray)<$>l.mapM f) ((List.toArray)<$>l.mapM f)
 exact(I8 f h l q).bind fun t a b _ e=>by cases e;exact .pure rfl
theorem y9.lists{l m:List (Nat×aai)}(h:iC (fun x y=>x.1=y.1/\VR F r x.2 y.2) l m){s:Ren}(k:r.le s):iC (fun x y=>x.1=y.1/\VR F s x.2 y.2) l m:=h.mono fun _ _ x=>⟨x.1,x.2.mono k⟩
theorem XY{t:aat}(hz:lE P F t){x y:Array (Nat×aai)}(h:iC (fun x y=>x.1=y.1/\VR F r x.2 y.2) x.toList y.toList):SR P F C (dB F) r (apA t x) (apA t y):=by
 unfold apA;refine(me hz).dr fun q v w l k=>?_
 refine .cD fun d hd=>?_
 cases d with
 |struct fs=>
  refine(Fu _ (fun f q=>(bN _).ai fun t n l=>.pure' rfl) fs q).ai fun q2 places l2=>?_
  rcases CE (place:=fun i=>places[i]?) (y9.lists (y9.lists h l) l2) (k.cells.mono l2)with⟨e1,e2⟩|⟨x,y,e1,e2,e3⟩
  ·simp only[e1,e2];exact ah _ _
  ·simp only[e1,e2];exact .pure' (.AY e3)
 |array n e=>
  refine(bN _).ai fun q2 size l2=>?_
  rcases CE (place:=fun i=>some (i*size,size)) (y9.lists (y9.lists h l) l2) (k.cells.mono l2)with⟨e1,e2⟩|⟨x,y,e1,e2,e3⟩
  ·simp only[e1,e2];exact ah _ _
  ·simp only[e1,e2];exact .pure' (.AY e3)
 |_=>exact ah _ _
theorem Fg{t:aat}(hz:∀e,P.underlying t=some (.slice e)->lE P F e)(n:Nat){x y:Array (Nat×aai)}(h:iC (fun x y=>x.1=y.1/\VR F r x.2 y.2) x.toList y.toList):
  SR P F C (dB F) r (aor t n x) (aor t n y):=by
 unfold aor;refine .cD fun d hd=>?_
 cases d with
 |slice e=>
  have hz:=hz e hd;refine(bN _).ai fun q size l=>?_
  refine .ite (fun _=>cm _ sP _ _) fun _=>?_
  have last:∀{s:Ren} {v w:Array aai},q.le s->bW F s v w->SR P F C (dB F) s (do
    let some cells:=an3 (fun i=>some (i*size,size)) ((aov (n*size)).map (v[·% v.size]!)) x.toList
     |stuck "buildSlice: a part of the wrong size"
    pure (.slice (some (<-apo e cells)) n n)) (do
    let some cells:=an3 (fun i=>some (i*size,size)) ((aov (n*size)).map (w[·% w.size]!)) y.toList
     |stuck "buildSlice: a part of the wrong size"
    pure (.slice (some (<-apo e cells)) n n)):=by
   intro s v w l2 k;rcases CE (place:=fun i=>some (i*size,size)) (y9.lists (y9.lists h l) l2) (k.Q3 (n*size))with⟨e1,e2⟩|⟨x,y,e1,e2,e3⟩
   ·simp only[e1,e2];exact ah _ _
   ·simp only[e1,e2];exact(n_ _ e3).gr fun t a b l k=>.pure' (.slice _ _ k)
  refine .ite (fun _=>.bP (last (Ren.le_refl _) .nil)) fun _=>?_
  exact(me hz).dr fun s v w l2 k=>.bP (last l2 k.cells)
 |_=>exact ah _ _
theorem Fo{ε σ:Type}(f g:ε->σ->Sem (ForInStep σ))(Inv:Ren->σ->σ->Prop)(_:∀q t a b,Ren.le q t->Inv q a b->Inv t a b)(h:∀x q a b,r.le q->Inv q a b->SR P F C (fun t c d=>(∃x y,c=.yield x/\d=.yield y/\Inv t x y)\/∃x y,c=.done x/\d=.done y/\Inv t x y) q (f x a) (g x b)):
  ∀(l:List ε) (q:Ren) (a b:σ),r.le q->Inv q a b->SR P F C Inv q (forIn l a f) (forIn l b g):=by
 intro l
 induction l with
 |nil=>intro q a b _ k;rw[List.forIn_nil,List.forIn_nil];exact .pure' k
 |cons x l ih=>
  intro q a b hq k;rw[apI,apI];refine(h x q a b hq k).then fun t c d l2 e=>?_
  rcases e with⟨y,z,rfl,rfl,i⟩|⟨y,z,rfl,rfl,i⟩
  ·exact ih t y z (Ren.le_trans hq l2) i
  ·exact .pure' i
def adu:Ren->Bool->Bool->Prop:=fun _ x y=>y=true->x=true
theorem n9(h:AR r a b):SR P F C adu r (Go.frozen a) (Go.frozen b):=.frozen h fun _ _ e=>.pure e
theorem yD(h:AR r a b):SR P F C adu r (stringish a) (stringish b):=by
 refine(n9 h).then fun t x y l e=>?_
 cases y with
 |true=>cases e rfl;exact .pure' fun _=>rfl
 |false=>
  cases x with
  |true=>
   refine .zQ fun s=>?_
   cases s with
   |none=>exact .pure fun _=>rfl
   |some s=>obtain⟨t,n⟩:=s;exact .vm fun x=>.pure fun _=>rfl
  |false=>
   refine SR.sJ (l.to h.block) (fun s _=>?_) fun ty n y z=>.vn (l.to h.block) (by simp[y]) (.pure fun q=>q)
   cases s with
   |none=>exact .pure' (fun q=>q)
   |some s=>obtain⟨t,n⟩:=s;exact n9 ((h.mono l).at n none)
theorem AJ(h:AR r a a')(k:AR r b b'):SR P F C adu r (aoG a b) (aoG a' b'):=by
 have none {q:Ren} {x y:akr} (e:AR q x y):SR P F C iq q (do pure ((<-aoA x.block) matches some (_,0)):Sem Bool) (do pure ((<-aoA y.block) matches some (_,0)):Sem Bool):=
  SR.sJ e.block (fun s _=>.pure' rfl) fun ty n _ z=>by
   cases n with
   |zero=>exact absurd rfl z
   |succ n=>exact .pure' rfl
 unfold aoG;refine(yD h).then fun t sa sa' l e=>(yD (k.mono l)).then fun t2 sb BB l2 e'=>?_
 refine .bP ?_;dsimp only;refine(none ((h.mono l).mono l2)).ai fun t3 na l3=>(none (((k.mono l).mono l2).mono l3)).ai fun t4 nb l4=>.pure' ?_
 intro q;simp only[Bool.or_eq_true,aaB]at q ⊢;rcases q with(⟨q1,q2⟩|⟨q1,q2⟩)|⟨q1,q2⟩
 ·exact .inl (.inl ⟨e q1,e' q2⟩)
 ·exact .inl (.inr ⟨e q1,q2⟩)
 ·exact .inr ⟨e' q1,q2⟩
theorem AR.eq_iff(h:AR r a a')(k:AR r b b'):(a=b↔a'=b'):=by
 cases h with|mk o s x=>
 cases k with|mk o' s' y=>
 constructor
 ·intro e;cases e;rw[r.fn x y]
 ·intro e;cases e;rw[r.inj x y]
theorem AR.Rk(h:AR r a a')(k:AR r b b'):(a.block=b.block↔a'.block=b'.block):=
 ⟨fun e=>r.fn h.block (e▸k.block),fun e=>r.inj h.block (e▸k.block)⟩
theorem AR.beq(h:AR r a a')(k:AR r b b'):(a == b)=(a' == b'):=by
 rw[ahp];simpa using h.eq_iff k
theorem AR.qy(h:AR r a a')(k:AR r b b'):(a.block == b.block)=(a'.block == b'.block):=by
 rw[ahp];simpa using h.Rk k
theorem AN(h:AR r a a')(k:AR r b b'):SR P F C iq r (sameAddr a b) (sameAddr a' b'):=by
 unfold sameAddr;rw[h.qy k];refine .ite (fun _=>.pure' (h.beq k)) fun _=>?_
 have rest:∀{q:Ren},r.le q->SR P F C iq q (do
   apq a
   apq b
   if<-aoG a b then return (<-apn (.extern "sameAddr.stringBytes" 2)) == 1
   pure false) (do
   apq a'
   apq b'
   if<-aoG a' b' then return (<-apn (.extern "sameAddr.stringBytes" 2)) == 1
   pure false):=by
  intro q l;refine(qX (h.mono l)).ai fun t _ l2=>(qX ((k.mono l).mono l2)).ai fun t2 _ l3=>?_
  refine(AJ (((h.mono l).mono l2).mono l3) (((k.mono l).mono l2).mono l3)).then fun t3 x y l4 e=>?_
  cases y with
  |true=>cases e rfl;exact(fo _).ai fun t n l=>.pure' rfl
  |false=>
   cases x with
   |false=>exact .pure' rfl
   |true=>exact .lone _ 0 rfl (.pure rfl)
 refine(n9 h).then fun t x y l e=>(n9 (k.mono l)).then fun t2 x' y' l2 e'=>?_
 dsimp only;cases x with
 |true=>
  cases x' with
  |true=>exact cm _ sP _ _
  |false=>
   (have:y'=false:=by cases y' with|false=>rfl|true=>exact absurd (e' rfl) sP);subst this;cases y<;>exact rest (Ren.le_trans l l2)
 |false=>
  have:y=false:=by cases y with|false=>rfl|true=>exact absurd (e rfl) sP
  subst this;exact rest (Ren.le_trans l l2)
theorem kO{x y x' y':Option akr}(h:(x=none/\x'=none)\/∃a b,x=some a/\x'=some b/\AR r a b)(k:(y=none/\y'=none)\/∃a b,y=some a/\y'=some b/\AR r a b):SR P F C iq r (samePointer x y) (samePointer x' y'):=by
 rcases h with⟨rfl,rfl⟩|⟨a,a',rfl,rfl,h⟩<;>rcases k with⟨rfl,rfl⟩|⟨b,b',rfl,rfl,k⟩
 ·exact .pure' rfl
 ·exact .pure' rfl
 ·exact .pure' rfl
 ·exact AN h k
end
section
variable{P:ag0}{F:ani->Prop}{C:anB->Prop}{α β γ δ:Type}{A:Ren->α->β->Prop}{B:Ren->γ->δ->Prop}{r:Ren}
def MT(P:ag0)(F:ani->Prop)(C:anB->Prop)(n:Nat):Prop:=∀(t:aat) {r:Ren} {v w v' w':aai},r.aR=P.globals.size->VR F r v v'->VR F r w w'->SR P F C iq r (apJ n t v w) (apJ n t v' w')
theorem nZ{ε σ ζ:Type}{f g:ε->σ->Sem (ForInStep σ)}(h:∀x q s,r.le q->SR P F C iq q (f x s) (g x s))(l:List ε)(s0:σ){k k':σ->Sem ζ}(hk:∀t s,r.le t->SR P F C iq t (k s) (k' s)):
  SR P F C iq r (forIn l s0 f>>=k) (forIn l s0 g>>=k'):=by
 refine(Fo f g iq (fun _ _ _ _ _ e=>e) (fun x q a b l e=>?_) l r s0 s0 (Ren.le_refl _) rfl).ai fun t s l=>hk t s l
 cases e
 exact(h x q a l).Gw fun t c d _ e=>by
  cases e;cases c with
  |yield y=>exact .inl ⟨y,y,rfl,rfl,rfl⟩
  |done y=>exact .inr ⟨y,y,rfl,rfl,rfl⟩
theorem Fi(ih:MT P F C n):MT P F C (n+1):=by
 intro t r v w v' w' hl h k;unfold apJ;refine .cD fun d hd=>?_
 cases d with
 |bool=>cases h<;>cases k<;>first|exact .pure' rfl|exact ah _ _
 |int kk=>
  cases h with
  |int k1 n1=>
   cases k with
   |int k2 n2=>exact .ite (fun _=>.pure' rfl) fun _=>ah _ _
   |ptr a=>
    cases n1 with
    |ofNat m=>cases m with
     |zero=>exact .pure' rfl
     |succ m=>exact aA _ sP _
    |negSucc m=>exact aA _ sP _
   |gP=>exact aA _ sP _
   |_=>exact ah _ _
  | @ptr a a' ha=>
    cases k with
    |int k2 n2=>
     cases n2 with
     |ofNat m=>cases m with
      |zero=>exact .pure' rfl
      |succ m=>exact aA _ sP _
     |negSucc m=>exact aA _ sP _
    | @ptr b b' hb=>
      (refine(dN ha).then fun t1 x y l e=>(dN (hb.mono l)).then fun t2 x' y' l2 e'=>?_);obtain⟨x,xl⟩:=x;obtain⟨y,yl⟩:=y;obtain⟨z,zl⟩:=x';obtain⟨u,ul⟩:=y';obtain⟨ea,_⟩:=e;obtain⟨eb,_⟩:=e';have ea:AR t1 x y:=ea;have eb:AR t2 z u:=eb;refine .f_ ?_;have ea':=ea.mono l2;have eb':=eb
      have hd:decide (x.block<P.globals.size)=decide (y.block<P.globals.size):=by
       (have:=t1.low ea.block;rw[l.aR hl]at this;rw[ahp];simp only[decide_eq_true_eq];constructor);(·intro q;rw[<-this (.inl oM)];exact q);(·intro q;rw[this (.inr oM)];exact q)
      (rw[ea'.qy eb',hd];refine .ite (fun _=>(lR ea').ai fun t3 x l3=>(lR (eb'.mono l3)).ai fun t4 y l4=>.pure' rfl) fun _=>?_);(refine .j4 fun i hi=>?_);rw[ea'.beq eb'];dsimp only;split;(·exact .ite (fun _=>.pure' rfl) fun _=>aA _ sP _);(·exact aA _ sP _)
    |_=>exact aA _ sP _
  |gP=>cases k<;>exact aA _ sP _
  |_=>cases k<;>first|exact ah _ _|exact aA _ sP _
 |float kk=>cases h<;>cases k<;>first|exact ah _ _|exact .ite (fun _=>.pure' rfl) fun _=>ah _ _
 |complex kk=>cases h<;>cases k<;>first|exact ah _ _|exact .ite (fun _=>.pure' rfl) fun _=>ah _ _
 |string=>cases h<;>cases k<;>first|exact .pure' rfl|exact ah _ _
 |pointer e=>
  cases h with
  |gP=>cases k<;>first|exact .pure' rfl|exact ah _ _
  |ptr a=>
   cases k with
   |gP=>exact .pure' rfl
   |ptr b=>
    (refine(bN _).ai fun q m l=>.ite (fun _=>AN (a.mono l) (b.mono l)) fun _=>?_);rw[a.beq b];exact .ite (fun _=>.pure' rfl) fun _=>(fo _).ai fun t n l=>.pure' rfl
   |_=>exact ah _ _
  |_=>cases k<;>exact ah _ _
 |unsafePointer=>
  cases h with
  |gP=>
   cases k with
   |gP=>exact kO (.inl ⟨rfl,rfl⟩) (.inl ⟨rfl,rfl⟩)
   |ptr b=>exact kO (.inl ⟨rfl,rfl⟩) (.inr ⟨_,_,rfl,rfl,b⟩)
   |_=>exact ah _ _
  |ptr a=>
   cases k with
   |gP=>exact kO (.inr ⟨_,_,rfl,rfl,a⟩) (.inl ⟨rfl,rfl⟩)
   |ptr b=>exact kO (.inr ⟨_,_,rfl,rfl,a⟩) (.inr ⟨_,_,rfl,rfl,b⟩)
   |_=>exact ah _ _
  |_=>cases k<;>exact ah _ _
 |interface ms=>
  cases h with
  |nilIface=>cases k<;>first|exact .pure' rfl|exact ah _ _
  |iface tx a=>
   cases k with
   |nilIface=>exact .pure' rfl
   |iface ty b=>
    (refine .ite (fun _=>.pure' rfl) fun _=>.j4 fun i hi=>?_);(refine .ite (fun _=>?_) fun _=>ih tx hl a b);refine .f_ (.f_ (.ite (fun _=>cm _ sP _ _) fun _=>?_));exact(wX _).ai fun t s l=>aT _ (l.aR hl)
   |_=>exact ah _ _
  |_=>cases k<;>exact ah _ _
 |struct fs=>
  cases h with
  |agg a b=>
   cases k with
   |agg a' b'=>
    (refine .f_ ?_;refine .ite (fun _=>cm _ sP _ _) fun _=>?_);(obtain⟨fs⟩:=fs;dsimp only;simp only[apu];refine nZ (fun f q s l=>?_) fs _ fun t s l=>by obtain⟨s,_⟩:=s;cases s<;>exact .pure' rfl);(refine .ite (fun _=>?_) fun _=>.pure' rfl);(refine(i_ _ (bW.mono l ⟨a,b⟩) _).dr fun t1 x y l1 e1=>(i_ _ (bW.mono (Ren.le_trans l l1) ⟨a',b'⟩) _).dr fun t2 x' y' l2 e2=>?_);(refine(ih _ (l2.aR (l1.aR (l.aR hl))) (e1.mono l2) e2).ai fun t3 b l3=>?_);exact .ite (fun _=>.pure' rfl) fun _=>.pure' rfl
   |_=>exact ah _ _
  |_=>cases k<;>exact ah _ _
 |array len e=>
  cases h with
  |agg a b=>
   cases k with
   |agg a' b'=>
    (refine(bN _).ai fun q0 m l0=>?_);(dsimp only;simp only[Std.Legacy.Range.forIn_eq_forIn_range'];refine nZ (fun f q s l=>?_) _ _ fun t s l=>by obtain⟨s,_⟩:=s;cases s<;>exact .pure' rfl);(have l:=Ren.le_trans l0 l;refine(i_ _ (bW.mono l ⟨a,b⟩) _).dr fun t1 x y l1 e1=>(i_ _ (bW.mono (Ren.le_trans l l1) ⟨a',b'⟩) _).dr fun t2 x' y' l2 e2=>?_);(refine(ih _ (l2.aR (l1.aR (l.aR hl))) (e1.mono l2) e2).ai fun t3 b l3=>?_);exact .ite (fun _=>.pure' rfl) fun _=>.pure' rfl
   |_=>exact ah _ _
  |_=>cases k<;>exact ah _ _
 |slice e=>cases h<;>cases k<;>first|exact .pure' rfl|exact ah _ _
 |map kk e=>cases h<;>cases k<;>first|exact .pure' rfl|exact ah _ _
 |func a b c=>cases h<;>cases k<;>first|exact .pure' rfl|exact ah _ _
 |chan a b=>cases h<;>cases k<;>first|exact .pure' rfl|exact ah _ _
 |_=>cases h<;>cases k<;>exact ah _ _
theorem Du:∀n,MT P F C n
 |0=>fun _ _ _ _ _ _ _ _ _=>aA _ sP _
 |n+1=>Fi (Du n)
theorem Dt(t:aat){w w':aai}(hl:r.aR=P.globals.size)(h:VR F r v v')(k:VR F r w w'):SR P F C iq r (Op.equal t v w) (Op.equal t v' w'):=Du _ t hl h k
end
section
variable{P:ag0}{F:ani->Prop}{C:anB->Prop}{α β γ δ:Type}{A:Ren->α->β->Prop}{B:Ren->γ->δ->Prop}{r:Ren}
theorem sB:∀(n:Nat) (t:aat) {r:Ren} {v w v' w':aai},VR F r v v'->VR F r w w'->SR P F C iq r (apv n t v w) (apv n t v' w')
 |0,t,r,v,w,v',w',h,k=>aA _ sP _
 |n+1,t,r,v,w,v',w',h,k=>by
  have ih:=fun t {r v w v' w'}=>sB n t (r:=r) (v:=v) (w:=w) (v':=v') (w':=w')
  unfold apv;refine .cD fun d hd=>?_
  cases d with
  |interface ms=>cases h<;>cases k<;>exact .pure' rfl
  |struct fs=>
   cases h with
   |agg a b=>
    cases k with
    |agg a' b'=>
     (obtain⟨fs⟩:=fs;dsimp only;simp only[apu];refine nZ (fun f q s l=>?_) fs _ fun t s l=>by obtain⟨s,_⟩:=s;cases s<;>exact .pure' rfl);(refine .ite (fun _=>?_) fun _=>.pure' rfl);(refine(i_ _ (bW.mono l ⟨a,b⟩) _).dr fun t1 x y l1 e1=>(i_ _ (bW.mono (Ren.le_trans l l1) ⟨a',b'⟩) _).dr fun t2 x' y' l2 e2=>?_);(refine(ih _ (e1.mono l2) e2).ai fun t3 b l3=>?_);exact .ite (fun _=>.pure' rfl) fun _=>.pure' rfl
    |_=>exact .pure' rfl
   |_=>cases k<;>exact .pure' rfl
  |array len e=>
   cases h with
   |agg a b=>
    cases k with
    |agg a' b'=>
     (refine(bN _).ai fun q0 m l0=>?_);(dsimp only;simp only[Std.Legacy.Range.forIn_eq_forIn_range'];refine nZ (fun f q s l=>?_) _ _ fun t s l=>by obtain⟨s,_⟩:=s;cases s<;>exact .pure' rfl);(have l:=Ren.le_trans l0 l;refine(i_ _ (bW.mono l ⟨a,b⟩) _).dr fun t1 x y l1 e1=>(i_ _ (bW.mono (Ren.le_trans l l1) ⟨a',b'⟩) _).dr fun t2 x' y' l2 e2=>?_);(refine(ih _ (e1.mono l2) e2).ai fun t3 b l3=>?_);exact .ite (fun _=>.pure' rfl) fun _=>.pure' rfl
    |_=>exact .pure' rfl
   |_=>cases k<;>exact .pure' rfl
  |_=>cases h<;>cases k<;>exact .pure' rfl
theorem OP(op:aoH)(t:aat)(x y:Operand){w w':aai}(h:VR F r v v')(k:VR F r w w'):SR P F C iq r (eqGuard op t x y v w) (eqGuard op t x y v' w'):=by
 unfold eqGuard;refine .ite (fun _=>.pure' rfl) fun _=>?_
 cases h with
 |nilIface=>
  cases k with
  |nilIface=>
   refine .ite (fun _=>.pure' rfl) fun _=>(sB _ _ .nilIface .nilIface).ai fun t b l=>.ite (fun _=>aA _ sP _) fun _=>.pure' rfl
  |_=>exact .pure' rfl
 |agg a b=>
  cases k with
  |agg a' b'=>
   refine .f_ (.f_ ?_);refine .ite (fun _=>.pure' rfl) fun _=>(sB _ _ (.agg a b) (.agg a' b')).ai fun t b l=>.ite (fun _=>aA _ sP _) fun _=>.pure' rfl
  |_=>exact .pure' rfl
 |_=>cases k<;>exact .pure' rfl
theorem AI(op:aoH)(k:aoh)(x y:Int):SR P F C (dB F) r (Op.intArith op k x y) (Op.intArith op k x y):=by
 cases op<;>first|exact .pure' (.int _ _)|exact ah _ _
theorem Tg(op:aoH)(k:aoh)(x y:Int)(hl:r.aR=P.globals.size):SR P F C (dB F) r (apM op k x y) (apM op k x y):=by
 unfold apM;refine .ite (fun _=>aT _ hl) fun _=>?_
 cases op<;>first|exact .pure' (.int _ _)|exact ah _ _
theorem Dy(op:aoH)(k:aoh)(x y:Int):SR P F C (dB F) r (Op.intBits op k x y) (Op.intBits op k x y):=by
 cases op<;>first|exact .pure' (.int _ _)|exact ah _ _
theorem Me(op:aoH)(k:aoh)(x:Int)(j:aoh)(y:Int)(hl:r.aR=P.globals.size):SR P F C (dB F) r (apW op k x j y) (apW op k x j y):=by
 unfold apW;refine .ite (fun _=>aT _ hl) fun _=>?_
 cases op<;>first|exact .pure' (.int _ _)|exact ah _ _
theorem Tf(op:aoH)(x y:Int):SR P F C (dB F) r (Op.intCmp op x y) (Op.intCmp op x y):=by
 cases op<;>first|exact .pure' (.bool _)|exact ah _ _
theorem uN(op:aoH)(x y:ByteArray):SR P F C (dB F) r (apB op x y) (apB op x y):=by
 unfold apB;cases op<;>first|exact .pure' (.bool _)|exact .ite (fun _=>aA _ sP _) (fun _=>.pure' (.string _))|exact ah _ _
theorem X9(op:UnOp){w:aai}(h:VR F r v w):SR P F C (dB F) r (Op.unary op v) (Op.unary op w):=by
 cases h with
 |int k n=>
  cases op with
  |neg=>exact AI .sub k 0 n
  |xor=>exact Dy .xor k (if k.signed then -1 else k.max) n
  |not=>exact ah _ _
  |plus=>exact ah _ _
 |bool b=>cases op<;>first|exact .pure' (.bool _)|exact ah _ _
 |ptr a=>cases op<;>first|exact aA _ sP _|exact ah _ _
 |_=>cases op<;>exact ah _ _
theorem nO(ts:Array aat)(t:aat){w x y:aai}(h:VR F r v w)(k:VR F r x y):SR P F C (dB F) r (anq ts t #[v,x]) (anq ts t #[w,y]):=by
 unfold anq
 have part:∀{a b:Option akr},VR F r (.pointer a) (.pointer b)->((a=none/\b=none)\/∃c d,a=some c/\b=some d/\AR r c d):=by
  intro a b h;cases h with
  |gP=>exact .inl ⟨rfl,rfl⟩
  |ptr h=>exact .inr ⟨_,_,rfl,rfl,h⟩
 have all:∀{a b:Option akr},VR F r (.pointer a) (.pointer b)->SR P F C (dB F) r (anq ts t #[.pointer a,x]) (anq ts t #[.pointer b,y]):=by
  intro a b h;unfold anq;refine(oF k).ai fun t n l=>?_
  rcases part h with⟨rfl,rfl⟩|⟨c,d,rfl,rfl,hc⟩
  ·exact .ite (fun _=>aA _ sP _) fun _=>.ite (fun _=>cm _ sP _ _) fun _=>aA _ sP _
  ·refine .ite (fun _=>?_) fun _=>.ite (fun _=>cm _ sP _ _) fun _=>?_
   ·refine(vE (l.to hc.block)).then fun t2 p q l2 e=>?_
    (rcases e with⟨rfl,rfl⟩|⟨a,b,t,rfl,rfl,_⟩);(·exact .pure' (.ptr ((hc.mono l).mono l2)));(·exact cm _ sP _ _)
   ·refine SR.sJ (l.to hc.block) (fun s _=>?_) fun ty n y z=>aA _ sP _
    cases s with
    |none=>exact aA _ sP _
    |some s=>
     obtain⟨e,cells⟩:=s;refine .f_ ?_;rw[hc.off];cases cellAtBytes P P.depth e (cells / P.cellsOf e) d.off n with
     |none=>exact aA _ sP _
     |some o=>
      refine .pure' (.ptr ?_);cases hc.mono l with|mk _ s x=>exact .mk _ _ x
 cases h with
 |gP=>exact all .gP
 |ptr a=>exact all (.ptr a)
 |_=>exact ah _ _
theorem L6(h:AR r a b)(l:Bool):SR P F C (dB F) r (asNumber a l) (asNumber b l):=(iZ (.number l h)).then fun _ _ _ _ k=>.pure' (.ptr (.mk _ _ k))
theorem gz(t:aat){w x y:aai}(h:VR F r v w)(k:VR F r x y):SR P F C (dB F) r (apC t v x) (apC t w y):=by
 unfold apC;have other:SR P F C (dB F) r (anq #[] t #[v,x]) (anq #[] t #[w,y]):=nO _ _ h k;refine .cD fun d hd=>?_
 refine .ite (fun _=>cm _ sP _ _) fun _=>?_
 cases h with
 |ptr a=>
  refine(dN a).then fun t1 p q l e=>?_
  obtain⟨p,lo⟩:=p;obtain⟨q,lo'⟩:=q;obtain⟨e1,e2⟩:=e;simp only at e1 e2;subst e2;refine(nO _ _ (.ptr e1) (k.mono l)).dr fun t2 v w l2 k2=>?_
  cases k2 with
  |ptr c=>exact L6 c lo
  |bool b=>exact .pure' (.bool b)
  |int k n=>exact .pure' (.int k n)
  |string b=>exact .pure' (.string b)
  |gP=>exact .pure' .gP
  |nj l c=>exact .pure' (.nj l c)
  |slice l c a=>exact .pure' (.slice l c a)
  |wM=>exact .pure' .wM
  |map a=>exact .pure' (.map a)
  |Cj=>exact .pure' .Cj
  |func f a b c d=>exact .pure' (.func f a b c d)
  |yield f a b c d=>exact .pure' (.yield f a b c d)
  |nilFunc=>exact .pure' .nilFunc
  |iface t a=>exact .pure' (.iface t a)
  |nilIface=>exact .pure' .nilIface
  |agg a b=>exact .pure' (.agg a b)
  |tuple a b=>exact .pure' (.tuple a b)
 |_=>exact other
theorem sW(t:aat){w x y:aai}(h:VR F r v w)(k:VR F r x y):SR P F C (dB F) r (apw t v x) (apw t w y):=by
 unfold apw;have other:SR P F C (dB F) r (anq #[] t #[v,x]) (anq #[] t #[w,y]):=nO _ _ h k;cases h with
 |ptr a=>
  refine(AK a.block).then fun t1 p q l e=>?_
  rcases e with⟨rfl,rfl⟩|⟨c,d,m,rfl,rfl,e⟩
  ·exact nO #[] t (.ptr (a.mono l)) (k.mono l)
  ·exact cm _ sP _ _
 |_=>exact other
theorem yE(hl:r.aR=P.globals.size)(h:AR r a a')(k:AR r b b'):SR P F C iq r (apx a b) (apx a' b'):=by
 unfold apx;refine .f_ ?_;have e1:(a.block != b.block)=(a'.block != b'.block):=by unfold bne;rw[h.qy k]
 have e2:decide (a.block>=P.globals.size)=decide (a'.block>=P.globals.size):=by
  have:=r.low h.block;rw[hl]at this;rw[ahp];simp only[decide_eq_true_eq];constructor
  ·intro q;rcases af8 a'.block P.globals.size with z|z
   ·rw[this (.inr oM)]at q;exact q
   ·exact z
  ·intro q;rcases af8 a.block P.globals.size with z|z
   ·rw[<-this (.inl oM)]at q;exact q
   ·exact z
 rw[e1,e2];exact .ite (fun _=>cm _ sP _ _) fun _=>(lR h).ai fun t x l=>(lR (k.mono l)).ai fun t y l=>.pure' rfl
theorem OK(j:aoh)(hl:r.aR=P.globals.size)(h:AR r a a')(k:AR r b b'):SR P F C (dB F) r (Op.addrSub j a b) (Op.addrSub j a' b'):=
 (yE hl h k).ai fun _ _ _=>.pure' (.int _ _)
theorem sj(op:aoH)(hl:r.aR=P.globals.size)(h:AR r a a')(k:AR r b b'):SR P F C (dB F) r (Op.addrCmp op a b) (Op.addrCmp op a' b'):=
 (yE hl h k).ai fun t p l=>by
  obtain⟨x,y⟩:=p;cases op<;>first|exact .pure' (.bool _)|exact aA _ sP _
theorem wU(j:aoh)(h:AR r a a')(n:Int):SR P F C (dB F) r (apK j a n) (apK j a' n):=by
 unfold apK;refine SR.sJ h.block (fun s _=>?_) fun ty n y z=>aA _ sP _
 cases s with
 |none=>exact aA _ sP _
 |some s=>
  obtain⟨e,c⟩:=s;refine .j4 fun i hi=>?_
  exact .ite (fun _=>cm _ sP _ _) fun _=>(lR h).ai fun t b l=>.pure' (.int _ _)
end
end Go.dO
