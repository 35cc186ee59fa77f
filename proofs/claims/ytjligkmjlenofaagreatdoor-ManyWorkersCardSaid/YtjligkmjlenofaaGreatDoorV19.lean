/- Part of the proof. -/
import Derived.Test.YtjligkmjlenofaaGreatDoorV18
import Derived.Test.YtjligkmjlenofaaGreatDoorChecked
import Derived.Conc.WgLib
set_option maxHeartbeats 4000000
open Go renaming Goroutine->ane,TypeId->aat,Value->aai,World->aah,FuncId->ani,deafBehind->ap8,Program->ag0,Addr->akr,Code->anB,Trace->aqt,zeroValue->aqx,strVal->aqA,stepG->ant,mayWake->aqF,behindNumber->apU,newObj->apk,Event->anu,Operand->aqR,undef->agp,PanicEntry->aqT,elemOf->aq2,Place->aq4,MapEntry->apQ,receiverAt->ari,callMethod->arj,plainCell->ao5,FrameMode->ark,shape->aoA
open Bool renaming and_eq_true->aaB,false_eq_true->akg,eq_iff_iff->ahp
open Go.MemAct renaming ofEvent->apZ,touch?->ap_
open Go.Extern.SlicesOverlaps renaming overlaps->ap0
open Go.ConcN.Mode renaming retag->ap1,last->aqv
open Array renaming all_eq_true_iff_forall_mem->ap3,getElem?_setIfInBounds_ne->ap4,getElem?_toList->ahb,getElem?_setIfInBounds_self_of_lt->aqi,mem_of_getElem?->aqs,getElem?_modify->aqP,length_toList->ahh,foldl_toList->aps,mem_append->aq_
open Go.Extern.BytealgMakeNoZero renaming makeNoZero->ap5
open Go.ConcN renaming Mode->ap6,Deaf_still->aqX
open Go.Conc renaming woken->ap7,served->aoj,mem_ofEvents->ap9,parked->aqf,aside_setCell->aqj,semEvents->aqk,Deaf->aqo,offersAt_parked_send->aqu,rcase->aqC,offersAt->aqG,Deaf_other->are,finishComm_recv->arf
open Option.some renaming injEq->akk,inj->ahK
open Go.Builtin renaming ssaWrapNilChk_->ap',unsafeString_->aqb,zeroCells->ahi,append_->aqL,clear_->aj8,copy_->aip,firstCells->akh,len_->aqY,cap_->aqZ,max_->aq0,min_->aq1,lenOf->arl
open Go.Conv renaming unsafePointer->aqa,bytesToString->aqh,stringToBytes->aqw,seenAt->aq5
open Go.MemOp renaming ofEvents->aqc
open Go.Instr renaming sameBits->aqd,checkKey->aqm,findNow->aqq,keyThatStays->aqy,takeDeferred->aqz,findKey->aqB,findAsking->aqI,typeAssert->aqJ,beginRound->aqK,mapUpdate->aqM,enterLoop->aqN,endRound->aqQ,extract->aqU,getLoop->aqV,endLoop->aqW,lookup->aq3,range->aq6,panic->aq7,yield->aq8,next->arh
open Nat renaming le_of_eq->aqe,lt_of_lt_of_le->ae7,not_lt_zero->ah',le_trans->aiC
open Option renaming map_some->aqg
open Go.Extern.Rtype renaming directlyAssignable->aql,implements->aqS,ofHandle->ara
open Go.Extern.AbiNoEscape renaming same->aqn
open Go.Extern.BytealgIndexByte renaming indexByte->aqp
open Go.ConcN.RelBy renaming appNot->aqr
open Go.Extern.BytealgCount renaming count->aqD
open Go.Extern.BytealgIndex renaming index->aqE
open Go.Op renaming equal->aqH
open Go.ConcR renaming g_of_ofEvents->aqO
open List renaming forIn_toArray->apu,foldlM_cons->aq',forIn_cons->apI
open Go.Frame renaming enter->aq9
open Go.Extern.ReflectliteValue renaming partsAny->arb
open Go.Deferred renaming ofValue->arc
namespace Go.gT
open Go.Proofs.Tryz
open Go.Proofs.YtjligkmjlenofaaGreatDoor(kR oM dC aS kS zH sP sO mL aP nR bR BL)
open Go Go.Conc
open Go.ConcN (WgLive WD CTag Mode RelBy sumTo)
open Go.ConcR (KK WgAt stA smA rd wr)
variable{f i k b B r r':Nat}{a' g' g2:ane}{fn:ani}{es:Array anu}{tm:Bool}
structure WX where
 stage:Nat
 cW:Nat
 deaf:Nat
 fuel:Nat
 cur:Option Nat
 cP:aD
inductive aM where
 |sp (r s:Nat)|snd (k:Nat)|ni (k:Nat)|cl|kd|anch|w1|w2 (vs:Nat)|w3|blk|w4|ke|acq
def aM.c:aM->CTag
 | .sp r s=>.sp r s
 | .snd _| .ni _| .cl| .kd=>.kd
 | .anch=>.anch| .w1=>.w1| .w2 vs=>.w2 vs| .w3=>.w3| .blk=>.blk| .w4=>.w4| .ke=>.ke| .acq=>.acq
def aM.j(n:Nat):aM->Nat
 | .sp r _=>n - (r+1)
 |_=>n
def aM.s(T:Nat):aM->Nat
 | .sp _ _=>0
 | .snd k| .ni k=>T - k
 |_=>T
def aM.shut:aM->Bool
 | .sp _ _| .snd _| .ni _| .cl=>false
 |_=>true
def aM.np:aM->Bool
 | .ni _=>true
 |t=>t.shut
def aM.phi(n T v:Nat):aM->Nat
 | .sp r s=>9*n+16+2*T+16*(r+1)+s
 | .snd k=>9*n+12+2*k+1
 | .ni k=>9*n+12+2*k
 | .cl=>9*n+10
 | .kd=>8*n+7
 | .anch=>8*v+6
 | .w1=>8*v+5
 | .w2 vs=>8*vs+4
 | .w3=>5
 | .blk=>5
 | .w4=>4
 | .ke=>3
 | .acq=>2
def aM.fl:aM->Nat
 | .w3=>1
 |_=>0
variable(E:bw)
inductive bw.WSit:WX->Tr->ane->aah->Prop
 |recv {f:Nat} {S:aD} {τ:Tr} {g:ane} {w:aah}:mm E.P false E.R E.DW (E.BZ f) τ S g w->bw.WSit ⟨7,9,0,f,none,S⟩ τ g w
 |again {f:Nat} {S:aD} {τ:Tr} {g:ane} {w:aah}:(∀w1,E.R S w w1->E.BZ f S g w1)->bw.WSit ⟨7,9,0,f,none,S⟩ τ {aqf g #[aqC E.ch E.zero] (.recv true)with status:=.running} w
 |Xr {f:Nat} {S:aD} {τ:Tr} {g:ane} {w:aah}:(∀w1,E.R S w w1->E.BZ f S g w1)->bw.WSit ⟨7,8,0,f,none,S⟩ τ (aqf g #[aqC E.ch E.zero] (.recv true)) w
 |store {f i:Nat} {S:aD} {τ:Tr} {g:ane} {w:aah}:mm E.P false E.R E.DW (E.Wst i (E.BZ f)) τ S g w->bw.WSit ⟨7,11,0,f,some i,S⟩ τ g w
 |done {f:Nat} {S:aD} {τ:Tr} {g:ane} {w:aah}:mm E.P false E.R E.DW E.Wr0 τ S g w->bw.WSit ⟨7,7,0,f,none,S⟩ τ g w
 |k1 {f:Nat} {S:aD} {τ:Tr} {g:ane} {w:aah}:mm E.P false E.R DQ E.Wk1 τ S g w->bw.WSit ⟨6,6,0,f,none,S⟩ τ g w
 |d1 {f:Nat} {S:aD} {τ:Tr} {g:ane} {w:aah}:mm E.P false E.R DQ E.Wd1 τ S g w->bw.WSit ⟨5,5,1,f,none,S⟩ τ g w
 |d2 {f:Nat} {S:aD} {τ:Tr} {g:ane} {w:aah}:mm E.P false E.R DQ E.Wd2 τ S g w->bw.WSit ⟨4,4,1,f,none,S⟩ τ g w
 |d3 {f:Nat} {S:aD} {τ:Tr} {g:ane} {w:aah}:mm E.P false E.R DQ E.Wd3 τ S g w->bw.WSit ⟨3,3,1,f,none,S⟩ τ g w
 |d4 {f:Nat} {S:aD} {τ:Tr} {g:ane} {w:aah}:mm E.P false E.R DQ E.Wd4 τ S g w->bw.WSit ⟨2,2,1,f,none,S⟩ τ g w
 |quit {f q d:Nat} {S:aD} {g:ane} {w:aah}:QuitsD E.P q d g->bw.WSit ⟨1,1,d,f,none,S⟩ (Tr.nat q) g w
section
variable(Fin:ane->Prop)(Anch:ane->aah->Prop)
inductive bw.fq:aM->Nat->Tr->ane->aah->Prop
 |skd {r:Nat} {τ:Tr} {g:ane} {w:aah}:r<E.n->mm E.P true E.R E.DM (E.ady (E.Ue Anch r)) τ E.Rd g w->bw.fq (.sp r 5) 0 τ g w
 |sa1 {r:Nat} {τ:Tr} {g:ane} {w:aah}:r<E.n->mm E.P true E.R E.DM (E.Ma1 (E.Ue Anch r)) τ E.Rd g w->bw.fq (.sp r 4) 1 τ g w
 |ske {r:Nat} {τ:Tr} {g:ane} {w:aah}:r<E.n->mm E.P true E.R E.DM (E.ahn (E.Ue Anch r)) τ E.Rd g w->bw.fq (.sp r 3) 1 τ g w
 |sgo {r:Nat} {τ:Tr} {g:ane} {w:aah}:r<E.n->mm E.P true E.R E.DM (E.Mgo (E.Ue Anch r)) τ E.Rd g w->bw.fq (.sp r 2) 0 τ g w
 |snd {k:Nat} {τ:Tr} {g:ane} {w:aah}:k<E.T->mm E.P true E.R E.DM (E.Q6 Anch (k+1)) τ E.Rd g w->bw.fq (.snd (k+1)) 0 τ g w
 |ni {k:Nat} {τ:Tr} {g:ane} {w:aah}:k<E.T->(∀w1,E.R E.Rd w w1->E.Q6 Anch (k+1) E.Rd g w1)->
  bw.fq (.ni (k+1)) 0 τ (aqf g #[scase E.ch (.int .i64 ((E.T - (k+1):Nat):Int)) agp] .send) w
 |cl {τ:Tr} {g:ane} {w:aah}:mm E.P true E.R E.DM (E.Mcl Anch) τ E.Rd g w->bw.fq .cl 0 τ g w
 |kd {τ:Tr} {g:ane} {w:aah}:mm E.P true E.R E.DM (E.Mkd Anch) τ E.Rd g w->bw.fq .kd 0 τ g w
 |anch {τ:Tr} {g:ane} {w:aah}:mm E.P true E.R E.DM (fun _=>Anch) τ E.Rd g w->bw.fq .anch 1 τ g w
 |w1 {τ:Tr} {g:ane} {w:aah}:mm E.P true E.R E.DM (E.YT Fin Anch) τ E.Rd g w->bw.fq .w1 1 τ g w
 |w2 {vs:Nat} {τ:Tr} {g:ane} {w:aah}:mm E.P true E.R E.DM (E.Mw2 Fin Anch vs) τ E.Rd g w->bw.fq (.w2 vs) 1 τ g w
 |w3 {τ:Tr} {g:ane} {w:aah}:mm E.P true E.R E.DM (E.Mw3 Fin) τ E.Rd g w->bw.fq .w3 1 τ g w
 |blk {g:ane} {w:aah}:(∀w1,E.R E.Rd w w1->E.Mw3 Fin E.Rd g w1)->bw.fq .blk 1 .leaf {g with status:=.blocked} w
 |w4 {τ:Tr} {g:ane} {w:aah}:mm E.P true E.R E.DM (E.Mw4 Fin) τ E.Rd g w->bw.fq .w4 1 τ g w
 |ke {τ:Tr} {g:ane} {w:aah}:mm E.P true E.R E.DM (E.Mke Fin) τ E.Rd g w->bw.fq .ke 1 τ g w
 |acq {τ:Tr} {g:ane} {w:aah}:mm E.P true E.R E.DM (E.gT Fin) τ E.Rd g w->bw.fq .acq 0 τ g w
end
def Ik:Loc->Option Nat
 | .cell a=>some a.block
 | .obj r=>some r
 |_=>none
def bw.Sh:Loc->Prop:=fun l=>(∃a:akr,l=.cell a/\a.block=E.wg)\/l=.obj E.ch
def bw.M5:Loc->Prop:=fun l=>∃b,Ik l=some b/\E.Rd b
def bw.own(j:Nat)(X:Nat->WX)(gq:Nat->Option Nat):Nat->Loc->Prop:=fun g l=>
 ∃k,k<j/\g=E.L+k/\((∃b,Ik l=some b/\(X k).cP b/\¬ E.Rd b)\/∃i,l=.cell ⟨E.oa,i,none⟩/\gq i=some k)
def bw.J(j:Nat):Nat->Prop:=fun g=>∃k,k<j/\g=E.L+k
structure bw.Geo:Prop where
 L1:1<=E.L
 rd:∀b,E.Rd b->b<E.N0/\b≠E.wg/\b≠E.ch/\b≠E.oa
 wg:E.wg<E.N0
 ch:E.ch<E.N0
 oa:E.oa<E.N0
 d1:E.wg≠E.ch
 d2:E.wg≠E.oa
 d3:E.ch≠E.oa
 n1:E.n<2147483648
 L0:E.L>=1
structure bw.Mem(tag:aM)(X:Nat->WX)(st sm:Int)(w:aah):Prop where
 old:∀b,b<E.N0->b≠E.wg->b≠E.ch->b≠E.oa->w.heap[b]?=E.W.heap[b]?
 size:E.N0<=w.heap.size
 os:w.os=E.W.os
 O:w.output=E.W.output
 tape:w.tape=E.W.tape
 wg:WgAt E.ty E.wg w st sm
 ch:∃s r tm,w.heap[E.ch]?=some (.chan 0 #[] tag.shut s r tm)
 oa:0<E.T->∃cs,w.heap[E.oa]?=some (.cells cs E.Y9)/\cs.size=E.T/\∀i,i<tag.s E.T->(∀k,k<tag.j E.n->(X k).cur≠some i)->cs[i]?=some (E.val i)
structure bw.sI(tag:aM)(X:Nat->WX)(gq:Nat->Option Nat)(w:aah)(t:aqt):Prop where
 rd:∀k,k<tag.j E.n->∀b,E.Rd b->(X k).cP b
 low:∀k,k<tag.j E.n->∀b,(X k).cP b->E.Rd b\/E.N0<=b
 up:∀k,k<tag.j E.n->∀b,(X k).cP b->b<w.heap.size
 apart:∀k k' b,k<tag.j E.n->k'<tag.j E.n->(X k).cP b->(X k').cP b->k=k'\/E.Rd b
 U3:∀i k,gq i=some k->i<tag.s E.T/\k<tag.j E.n
 cur:∀k i,k<tag.j E.n->(X k).cur=some i->gq i=some k
 fuel:∀k,k<tag.j E.n->8<=(X k).cW->E.T - tag.s E.T<=(X k).fuel
 fresh:∀i,gq i=none->∀p x,touchAt t p=some x->x.loc≠.cell ⟨E.oa,i,none⟩
 tl:TL E.Sh E.eM E.M5 (E.own (tag.j E.n) X gq) (E.J (tag.j E.n)) (stA E.wg) w.heap.size t
def wd(X:Nat->WX):Nat->WD:=fun k=>⟨(X k).stage,0,(X k).deaf⟩
def bw.rel(t:aqt)(k:Nat)(x:WX):Prop:=x.stage<=6->∃r,RelBy (stA E.wg) t (E.L+k) r
structure bw.Com(tag:aM)(d0:Nat)(X:Nat->WX)(τ:Nat->Tr)(gs:Array ane)(w:aah)(t:aqt):Prop where
 size:gs.size=E.L+tag.j E.n
 lv:∀i,0<i->i<E.L->∃g q,gs[i]?=some g/\τ i=Tr.nat q/\QuitsD E.P q (aqo t i) g
 wk:∀k,k<tag.j E.n->∃g,gs[E.L+k]?=some g/\E.WSit (X k) (τ (E.L+k)) g w
 deaf0:aqo t 0=d0
 deafW:∀k,k<tag.j E.n->aqo t (E.L+k)=(X k).deaf
 none:∀g,gs.size<=g->∀i,t.g? i≠some g
 rel:∀k,k<tag.j E.n->E.rel t k (X k)
 open_:tag.np=true->∀k,k<tag.j E.n->(X k).cW≠8
 live:tag.shut=false->∀k,k<tag.j E.n->8<=(X k).cW
def BW(j:Nat)(X:Nat->WX):Nat:=sumTo j fun k=>(X k).cW
def bw.Inv(Fin:ane->Prop)(Anch:ane->aah->Prop)(μ:Mu)(m:Machine)(t:aqt):Prop:=
 ∃(gs:Array ane) (w:aah) (sl:Option (Nat×Nat)) (tag:aM) (d0:Nat) (X:Nat->WX) (gq:Nat->Option Nat) (τ:Nat->Tr) (kV:Tr) (a:ane) (st sm:Int),
  m=crowd gs w sl/\gs[0]?=some a/\E.fq Fin Anch tag d0 kV a w/\E.Com tag d0 X τ gs w t/\E.Mem tag X st sm w/\E.sI tag X gq w t/\ap6 (tag.j E.n) (wd X) tag.c st sm/\
  μ=(tag.phi E.n E.T (Go.ConcN.Vc (tag.j E.n) (wd X))+4*(E.T - tag.s E.T)+BW (tag.j E.n) X,τ,(kV,tag.fl))
open Go.ConcN (WgLive WD CTag RelBy sumTo upd)
open Go.ConcR (KK WgAt stA smA rd wr again_blocked)
section
variable{P:ag0}{main:Bool}{R:aD->aah->aah->Prop}{D:aD->aD->aah->aah->Array anu->Prop}{Stop:aD->ane->aah->Prop}{S:aD}{τ:Tr}{g:ane}{w:aah}
theorem mm.running(T:Terms R)(hS:∀S g w,Stop S g w->g.status=.running)(h:mm P main R D Stop τ S g w):g.status=.running:=by
 cases τ with
 |leaf=>exact hS _ _ _ (h w (T.refl _ _))
 |node f=>exact h.1
theorem mm.cases(T:Terms R)(h:mm P main R D Stop τ S g w):
  (τ=.leaf/\∀w1,R S w w1->Stop S g w1)\/∃gi S' g' w' es,Tr.Sub gi τ/\g.status=.running/\ant P main g w=.go g' w' es/\D S S' w w' es/\mm P main R D Stop gi S' g' w':=by
 cases τ with
 |leaf=>exact .inl ⟨rfl,h⟩
 |node f=>
  obtain⟨S',g',w',es,h1,h2,h3⟩:=h.2 w (T.refl _ _);exact .inr ⟨f w,S',g',w',es,⟨f,w,rfl,rfl⟩,h.1,h1,h2,h3⟩
end
variable{E:bw}
theorem bw.BZ.running{S:aD}{g:ane}{w:aah}(h:E.BZ f S g w):g.status=.running:=by
 cases f<;>exact h.1
theorem bw.BZ.step{S:aD}{g:ane}{w:aah}(h:E.BZ f S g w):ant E.P false g w=.comm g #[aqC E.ch E.zero] true (.recv true) w #[]:=by
 cases f<;>exact h.2.2.1
theorem bw.BZ.shut{S:aD}{g:ane}{w:aah}(h:E.BZ f S g w):E.pQ E.Wr0 S (aoj g (recvd true E.zero false)) w:=by
 cases f with
 |zero=>exact h.2.2.2
 |succ f=>exact h.2.2.2.1
theorem bw.BZ.item{S:aD}{g:ane}{w:aah}(h:E.BZ (f+1) S g w)(hi:i<E.T):E.pQ (E.Wst i (E.BZ f)) S (aoj g (recvd true (.int .i64 i) true)) w:=h.2.2.2.2 i hi
section
variable{X:WX}{τ:Tr}{g:ane}{w w1:aah}
theorem bw.WSit.rely(h:E.WSit X τ g w)(k:E.R X.cP w w1):E.WSit X τ g w1:=by
 cases h with
 |recv h=>exact .recv (h.rely E.bg k)
 |again h=>exact .again fun w2 k2=>h w2 (k.T k2)
 |Xr h=>exact .Xr fun w2 k2=>h w2 (k.T k2)
 |store h=>exact .store (h.rely E.bg k)
 |done h=>exact .done (h.rely E.bg k)
 |k1 h=>exact .k1 (h.rely E.bg k)
 |d1 h=>exact .d1 (h.rely E.bg k)
 |d2 h=>exact .d2 (h.rely E.bg k)
 |d3 h=>exact .d3 (h.rely E.bg k)
 |d4 h=>exact .d4 (h.rely E.bg k)
 |quit h=>exact .quit h
theorem bw.WSit.status(h:E.WSit X τ g w):(g.status=.running/\X.cW≠8)\/(g.status=.finished/\X.cW=1)\/(X.cW=8/\∃f S g2,X=⟨7,8,0,f,none,S⟩/\g=aqf g2 #[aqC E.ch E.zero] (.recv true)/\∀w1,E.R S w w1->E.BZ f S g2 w1):=by
 cases h with
 |recv h=>exact .inl ⟨h.running E.bg fun _ _ _ x=>bw.BZ.running x,by simp⟩
 |again h=>exact .inl ⟨rfl,by simp⟩
 |Xr h=>exact .inr (.inr ⟨rfl,_,_,_,rfl,rfl,h⟩)
 |store h=>exact .inl ⟨h.running E.bg fun _ _ _ x=>x.1,by simp⟩
 |done h=>exact .inl ⟨h.running E.bg fun _ _ _ x=>x.1,by simp⟩
 |k1 h=>exact .inl ⟨h.running E.bg fun _ _ _ x=>x.1,by simp⟩
 |d1 h=>exact .inl ⟨h.running E.bg fun _ _ _ x=>x.1,by simp⟩
 |d2 h=>exact .inl ⟨h.running E.bg fun _ _ _ x=>x.1,by simp⟩
 |d3 h=>exact .inl ⟨h.running E.bg fun _ _ _ x=>x.1,by simp⟩
 |d4 h=>exact .inl ⟨h.running E.bg fun _ _ _ x=>x.1,by simp⟩
 |quit h=>exact h.status.elim (fun x=>.inl ⟨x,by simp⟩) fun x=>.inr (.inl ⟨x,rfl⟩)
theorem bw.WSit.awake(h:E.WSit X τ g w):Go.Conc.awake g:=by
 rcases h.status with⟨h,_⟩|⟨h,_⟩|⟨_,_,_,_,_,h,_⟩<;>intro tm
 ·rw[h];simp
 ·rw[h];simp
 ·rw[h];simp[aqf]
theorem bw.WSit.woken(h:E.WSit X τ g w)(a a':ane)(w':aah)(hc:X.cW≠8\/∃s r tm,w'.heap[E.ch]?=some (.chan 0 #[] false s r tm)):ap7 E.P a a' w' g=g:=by
 rcases h.status with⟨k,_⟩|⟨k,_⟩|⟨k,_,_,_,_,e,_⟩
 ·unfold ap7;split
  ·exact again_running _ (.inl k)
  ·rfl
 ·unfold ap7;split
  ·exact again_running _ (.inr k)
  ·rfl
 ·rcases hc with hc|⟨s,r,tm,hc⟩
  ·exact absurd k hc
  ·rw[e];exact woken_recv_open a a' hc
theorem bw.WSit.T0(h:E.WSit X τ g w){a:ane}{w':aah}(hm:aqF E.P a=true)(ha:a'.status=.running)(hc:∃s r tm,w'.heap[E.ch]?=some (.chan 0 #[] true s r tm)):
  ∃r',E.WSit {X with cW:=r'} τ (ap7 E.P a a' w' g) w/\r'<=X.cW+1/\r'≠8/\(8<=r'->8<=X.cW):=by
 by_cases e:X.cW=8
 ·rcases h.status with⟨_,k⟩|⟨_,k⟩|⟨_,f,S,g2,rfl,rfl,k⟩
  ·exact absurd e k
  ·omega
  ·obtain⟨s,r,tm,hc⟩:=hc
   refine⟨9,?_,by simp,by simp,by simp⟩
   have:ap7 E.P a a' w' (aqf g2 #[aqC E.ch E.zero] (.recv true))={aqf g2 #[aqC E.ch E.zero] (.recv true)with status:=.running}:=by
    unfold ap7;rw[if_pos (by rw[hm,ha];rfl)];exact again_recv_closed hc
   rw[this];exact .again k
 ·exact⟨X.cW,by rw[h.woken a a' w' (.inl e)];exact h,by omega,e,id⟩
end
section
variable{Fin:ane->Prop}{Anch:ane->aah->Prop}{tag:aM}{d0:Nat}{τ:Tr}{a:ane}{w w1:aah}
theorem bw.Q6.running{S:aD}{g:ane}{w:aah}(h:E.Q6 Anch k S g w):g.status=.running:=by
 cases k<;>exact h.1
theorem bw.fq.rely(h:E.fq Fin Anch tag d0 τ a w)(k:E.R E.Rd w w1):E.fq Fin Anch tag d0 τ a w1:=by
 cases h with
 |skd hr h=>exact .skd hr (h.rely E.bg k)
 |sa1 hr h=>exact .sa1 hr (h.rely E.bg k)
 |ske hr h=>exact .ske hr (h.rely E.bg k)
 |sgo hr h=>exact .sgo hr (h.rely E.bg k)
 |snd hr h=>exact .snd hr (h.rely E.bg k)
 |ni hr h=>exact .ni hr fun w2 k2=>h w2 (k.T k2)
 |cl h=>exact .cl (h.rely E.bg k)
 |kd h=>exact .kd (h.rely E.bg k)
 |anch h=>exact .anch (h.rely E.bg k)
 |w1 h=>exact .w1 (h.rely E.bg k)
 |w2 h=>exact .w2 (h.rely E.bg k)
 |w3 h=>exact .w3 (h.rely E.bg k)
 |blk h=>exact .blk fun w2 k2=>h w2 (k.T k2)
 |w4 h=>exact .w4 (h.rely E.bg k)
 |ke h=>exact .ke (h.rely E.bg k)
 |acq h=>exact .acq (h.rely E.bg k)
theorem bw.fq.status(o7:∀g w,Anch g w->g.status=.running)(h:E.fq Fin Anch tag d0 τ a w):
  (a.status=.running/\tag≠.blk/\∀k,tag≠.ni k)\/(∃k g,k<E.T/\tag=.ni (k+1)/\a=aqf g #[scase E.ch (.int .i64 ((E.T - (k+1):Nat):Int)) agp] .send/\∀w1,E.R E.Rd w w1->E.Q6 Anch (k+1) E.Rd g w1)\/
   (tag=.blk/\∃g,a={g with status:=.blocked}/\∀w1,E.R E.Rd w w1->E.Mw3 Fin E.Rd g w1):=by
 cases h with
 |skd hr h=>exact .inl ⟨h.running E.bg fun _ _ _ x=>x.1,by simp,by simp⟩
 |sa1 hr h=>exact .inl ⟨h.running E.bg fun _ _ _ x=>x.1,by simp,by simp⟩
 |ske hr h=>exact .inl ⟨h.running E.bg fun _ _ _ x=>x.1,by simp,by simp⟩
 |sgo hr h=>exact .inl ⟨h.running E.bg fun _ _ _ x=>x.1,by simp,by simp⟩
 |snd hr h=>exact .inl ⟨h.running E.bg fun _ _ _ x=>bw.Q6.running x,by simp,by simp⟩
 |ni hr h=>exact .inr (.inl ⟨_,_,hr,rfl,rfl,h⟩)
 |cl h=>exact .inl ⟨h.running E.bg fun _ _ _ x=>x.1,by simp,by simp⟩
 |kd h=>exact .inl ⟨h.running E.bg fun _ _ _ x=>x.1,by simp,by simp⟩
 |anch h=>exact .inl ⟨h.running E.bg fun _ g w x=>o7 g w x,by simp,by simp⟩
 |w1 h=>exact .inl ⟨h.running E.bg fun _ _ _ x=>x.1,by simp,by simp⟩
 |w2 h=>exact .inl ⟨h.running E.bg fun _ _ _ x=>x.1,by simp,by simp⟩
 |w3 h=>exact .inl ⟨h.running E.bg fun _ _ _ x=>x.1,by simp,by simp⟩
 |blk h=>exact .inr (.inr ⟨rfl,_,rfl,h⟩)
 |w4 h=>exact .inl ⟨h.running E.bg fun _ _ _ x=>x.1,by simp,by simp⟩
 |ke h=>exact .inl ⟨h.running E.bg fun _ _ _ x=>x.1,by simp,by simp⟩
 |acq h=>exact .inl ⟨h.running E.bg fun _ _ _ x=>x.1,by simp,by simp⟩
theorem bw.fq.awake(o7:∀g w,Anch g w->g.status=.running)(h:E.fq Fin Anch tag d0 τ a w):Go.Conc.awake a:=by
 rcases h.status o7 with⟨h,_⟩|⟨_,_,_,_,h,_⟩|⟨_,_,h,_⟩<;>intro tm
 ·rw[h];simp
 ·rw[h];simp[aqf]
 ·rw[h];simp
theorem bw.fq.U6(h:E.fq Fin Anch tag d0 τ a w)(e:tag=.blk):d0=1:=by
 cases h<;>first|rfl|cases e
theorem bw.fq.wokenBy(o7:∀g w,Anch g w->g.status=.running)(h:E.fq Fin Anch tag d0 τ a w)(g g':ane)(w':aah)(hc:(∀k,tag≠.ni k)\/∃s r tm,w'.heap[E.ch]?=some (.chan 0 #[] false s r tm)):
  ∃tag' gi,E.fq Fin Anch tag' d0 gi (ap7 E.P g g' w' a) w/\(tag'=tag\/(tag=.blk/\tag'=.w3))/\(aqF E.P g=true->g'.status=.running->tag'≠.blk):=by
 rcases h.status o7 with⟨k,k1,_⟩|⟨k,g2,_,e,ea,_⟩|⟨rfl,g2,rfl,k⟩
 ·refine⟨tag,τ,?_,.inl rfl,fun _ _=>k1⟩
  rw[woken_running k];exact h
 ·refine⟨tag,τ,?_,.inl rfl,fun _ _=>by rw[e];simp⟩
  rcases hc with hc|⟨s,r,tm,hc⟩
  ·exact absurd e (hc _)
  ·have:ap7 E.P g g' w' a=a:=by rw[ea];exact woken_send_open g g' hc
   rw[this];exact h
 ·by_cases hw:(aqF E.P g&&g'.status != .blocked&&g'.status != .waiting)=true
  ·refine⟨.w3,.leaf,?_,.inr ⟨rfl,rfl⟩,by simp⟩
   have h3:=k w (bw.R.refl _ _)
   have:ap7 E.P g g' w' {g2 with status:=.blocked}=g2:=by
    unfold ap7;rw[if_pos hw];have:=h3.1;have ho:=h3.2.1;obtain⟨f,c,s,d,o⟩:=g2;simp only at this ho;subst this ho;rfl
   rw[this];have hd:=h.U6 rfl;subst hd;exact .w3 (τ:=.leaf) k
  ·refine⟨.blk,τ,?_,.inl rfl,fun h1 h2=>?_⟩
   ·have:ap7 E.P g g' w' {g2 with status:=.blocked}={g2 with status:=.blocked}:=by
     unfold ap7;rw[if_neg hw]
    rw[this];exact h
   ·exact absurd (by rw[h1,h2];rfl) hw
end
open Go.ConcN (WgLive WD CTag RelBy sumTo upd upd_same upd_ne)
open Go.ConcR (KK WgAt stA smA rd wr)
theorem wL{l:Loc}(h:Ik l=some b):l.isMemory=true:=by
 cases l<;>first|rfl|cases h
theorem ZI{l:Loc}(h:Ik l=some b)(hl:l.low B):b<B:=by
 cases l<;>first|(cases h;exact hl)|cases h
variable{E:bw}
theorem bw.apt(G:E.Geo){j:Nat}{X:Nat->WX}{gq:Nat->Option Nat}(low:∀k,k<j->∀b,(X k).cP b->E.Rd b\/E.N0<=b)(ap:∀k k' b,k<j->k'<j->(X k).cP b->(X k').cP b->k=k'\/E.Rd b):Apt E.Sh E.M5 (E.own j X gq) (E.J j):=by
 have hb:∀k,k<j->∀b,(X k).cP b->¬ E.Rd b->E.N0<=b:=fun k hk b hf hr=>(low k hk b hf).resolve_left hr
 refine⟨?_,?_,?_,?_,?_,?_,?_⟩
 ·rintro g g' l - - ⟨k,hk,rfl,h⟩ ⟨k',gU,rfl,h'⟩
  rcases h with⟨b,h1,h2,h3⟩|⟨i,rfl,h1⟩<;>rcases h' with⟨b',zm,Um,h3'⟩|⟨i',e,zm⟩
  ·rw[h1]at zm;cases zm
   rcases ap k k' b hk gU h2 Um with rfl|h
   ·rfl
   ·exact absurd h h3
  ·subst e;cases h1
   have:=hb k hk _ h2 h3;have:=G.oa;simp only at*;omega
  ·cases zm
   have:=hb k' gU _ Um h3';have:=G.oa;simp only at*;omega
  ·cases e
   rw[h1]at zm;cases zm;rfl
 ·rintro g l - ⟨k,hk,rfl,h⟩ ⟨b,h1,h2⟩
  rcases h with⟨b',zm,Um,h3'⟩|⟨i,rfl,_⟩
  ·rw[h1]at zm;cases zm;exact h3' h2
  ·cases h1;exact(G.rd _ h2).2.2.2 rfl
 ·rintro g l - ⟨k,hk,rfl,h⟩ (⟨a,rfl,ha⟩|rfl)
  ·rcases h with⟨b',zm,Um,h3'⟩|⟨i,e,_⟩
   ·cases zm
    have:=hb k hk _ Um h3';have:=G.wg;omega
   ·cases e;exact G.d2 ha.symm
  ·rcases h with⟨b',zm,Um,h3'⟩|⟨i,e,_⟩
   ·cases zm
    have:=hb k hk _ Um h3';have:=G.ch;omega
   ·cases e
 ·rintro l ⟨b,h1,h2⟩ (⟨a,rfl,ha⟩|rfl)
  ·cases h1;exact(G.rd _ h2).2.1 ha
  ·cases h1;exact(G.rd _ h2).2.2.1 rfl
 ·rintro l (⟨a,rfl,_⟩|rfl)<;>rfl
 ·rintro l ⟨b,h,_⟩;exact wL h
 ·rintro g l - ⟨k,_,_,h⟩
  rcases h with⟨b',zm,_⟩|⟨i,rfl,_⟩
  ·exact wL zm
  ·rfl
section
variable{tag tag':aM}{X:Nat->WX}{gq:Nat->Option Nat}{w w':aah}{t u:aqt}
theorem bw.sI.apt(G:E.Geo)(h:E.sI tag X gq w t):Apt E.Sh E.M5 (E.own (tag.j E.n) X gq) (E.J (tag.j E.n)):=bw.apt G h.low h.apart
theorem TX(G:E.Geo){j:Nat}{g:Nat}{op:MemOp}(low:∀k,k<j->∀b,(X k).cP b->E.Rd b\/E.N0<=b)(ho:OkG E.Sh E.M5 (E.own j X gq) (stA E.wg) B g op)(hi:gq i=none){x:Touch}(hx:op.act.touch?=some x):x.loc≠.cell ⟨E.oa,i,none⟩:=by
 intro e;rcases ho.2.2.2 x hx (by rw[e];rfl)with⟨⟨a,h1,h2⟩|h1,_⟩|⟨⟨k,hk,_,h⟩,_⟩|⟨⟨b,h1,h2⟩,_⟩
 ·rw[e]at h1;cases h1;exact G.d2 h2.symm
 ·rw[e]at h1;cases h1
 ·rcases h with⟨b,h1,h2,h3⟩|⟨i',h1,h2⟩
  ·rw[e]at h1;cases h1
   have:=(low k hk _ h2).resolve_left h3;have:=G.oa;simp only at*;omega
  ·rw[e]at h1;cases h1;rw[hi]at h2;cases h2
 ·rw[e]at h1;cases h1;exact(G.rd _ h2).2.2.2 rfl
theorem bw.sI.worker(G:E.Geo)(h:E.sI tag X gq w t)(ej:tag'.j E.n=tag.j E.n)(es:tag'.s E.T=tag.s E.T)(hk:k<tag.j E.n){x':WX}(iS:w.heap.size<=w'.heap.size)(sub:∀b,(X k).cP b->x'.cP b)(new:∀b,x'.cP b->(X k).cP b\/(w.heap.size<=b/\b<w'.heap.size))(hN:E.N0<=w.heap.size)(RU:∀i,x'.cur=some i->(X k).cur=some i)(acH:8<=x'.cW->E.T - tag.s E.T<=x'.fuel)(hu:∀op∈u,OkG E.Sh E.M5 (E.own (tag.j E.n) (upd X k x') gq) (stA E.wg) w'.heap.size (E.L+k) op):E.sI tag' (upd X k x') gq w' (t++u):=by
 have cP:∀k' b,(upd X k x' k').cP b->(X k').cP b\/(k'=k/\w.heap.size<=b/\b<w'.heap.size):=by
  intro k' b hb
  by_cases e:k'=k
  ·subst e;rw[upd_same]at hb
   exact(new b hb).imp id fun x=>⟨rfl,x⟩
  ·rw[upd_ne X _ e]at hb;exact .inl hb
 have ahT:∀k' b,(X k').cP b->(upd X k x' k').cP b:=by
  intro k' b hb
  by_cases e:k'=k
  ·subst e;rw[upd_same];exact sub b hb
  ·rw[upd_ne X _ e];exact hb
 have low:∀k',k'<tag.j E.n->∀b,(upd X k x' k').cP b->E.Rd b\/E.N0<=b:=fun k' gU b hb=>(cP k' b hb).elim (h.low k' gU b) fun x=>.inr (aiC hN x.2.1)
 have ap:∀k1 k2 b,k1<tag.j E.n->k2<tag.j E.n->(upd X k x' k1).cP b->(upd X k x' k2).cP b->k1=k2\/E.Rd b:=by
  intro k1 k2 b h1 h2 f1 f2;rcases cP k1 b f1 with g1|⟨rfl,g1,_⟩<;>rcases cP k2 b f2 with g2|⟨e2,g2,_⟩
  ·exact h.apart k1 k2 b h1 h2 g1 g2
  ·have:=h.up k1 h1 b g1;omega
  ·have:=h.up k2 h2 b g2;omega
  ·exact .inl e2.symm
 have A:Apt E.Sh E.M5 (E.own (tag.j E.n) (upd X k x') gq) (E.J (tag.j E.n)):=bw.apt G low ap;refine⟨?_,?_,?_,?_,?_,?_,?_,?_,?_⟩
 ·rw[ej];exact fun k' gU b hb=>ahT k' b (h.rd k' gU b hb)
 ·rw[ej];exact low
 ·rw[ej];exact fun k' gU b hb=>(cP k' b hb).elim (fun x=>ae7 (h.up k' gU b x) iS) fun x=>x.2.2
 ·rw[ej];exact ap
 ·rw[ej,es];exact h.U3
 ·rw[ej]
  intro k' i gU hc
  by_cases e:k'=k
  ·subst e;rw[upd_same]at hc;exact h.cur k' i gU (RU i hc)
  ·rw[upd_ne X _ e]at hc;exact h.cur k' i gU hc
 ·rw[ej,es]
  intro k' gU hr
  by_cases e:k'=k
  ·subst e;rw[upd_same]at hr ⊢;exact acH hr
  ·rw[upd_ne X _ e]at hr ⊢;exact h.fuel k' gU hr
 ·intro i hi p x hx
  obtain⟨op,ho,vU⟩:=touch_of hx;rcases getElem?_append_cases ho with⟨_,EA⟩|⟨_,Gr⟩
  ·exact h.fresh i hi p x (by rw[touchAt_of EA];exact vU)
  ·exact TX G low (hu op Gr) hi vU
 ·rw[ej]
  refine((h.tl.mono iS).grow fun g hg l hl=>?_).appW A ⟨k,hk,rfl⟩ hu;obtain⟨k',gU,rfl,hl⟩:=hl;rcases hl with⟨b,h1,h2,h3⟩|hl
  ·rcases cP k' b h2 with f|⟨_,f,_⟩
   ·exact .inl ⟨k',gU,rfl,.inl ⟨b,h1,f,h3⟩⟩
   ·exact .inr (uw h.tl.seen fun KP=>by have:=ZI h1 KP;omega)
  ·exact .inl ⟨k',gU,rfl,.inr hl⟩
theorem bw.sI.main(G:E.Geo)(h:E.sI tag X gq w t)(ej:tag'.j E.n=tag.j E.n)(es:tag'.s E.T=tag.s E.T){X':Nat->WX}(hX:∀k,k<tag.j E.n->(X' k).cP=(X k).cP/\(X' k).cur=(X k).cur/\(X' k).fuel=(X k).fuel/\(8<=(X' k).cW->8<=(X k).cW))(iS:w'.heap.size=w.heap.size)(hu:∀op∈u,OkM E.Sh E.M5 (stA E.wg) w.heap.size op):E.sI tag' X' gq w' (t++u):=by
 have ho:∀g l,E.own (tag.j E.n) X' gq g l->E.own (tag.j E.n) X gq g l:=by
  rintro g l ⟨k,hk,rfl,hl⟩;rcases hl with⟨b,h1,h2,h3⟩|hl
  ·exact⟨k,hk,rfl,.inl ⟨b,h1,(hX k hk).1▸h2,h3⟩⟩
  ·exact⟨k,hk,rfl,.inr hl⟩
 refine⟨?_,?_,?_,?_,?_,?_,?_,?_,?_⟩
 ·rw[ej];exact fun k hk b hb=>by rw[(hX k hk).1];exact h.rd k hk b hb
 ·rw[ej];exact fun k hk b hb=>h.low k hk b ((hX k hk).1▸hb)
 ·rw[ej,iS];exact fun k hk b hb=>h.up k hk b ((hX k hk).1▸hb)
 ·rw[ej];exact fun k k' b hk gU f f'=>h.apart k k' b hk gU ((hX k hk).1▸f) ((hX k' gU).1▸f')
 ·rw[ej,es];exact h.U3
 ·rw[ej];exact fun k i hk hc=>h.cur k i hk ((hX k hk).2.1▸hc)
 ·rw[ej,es];exact fun k hk hr=>by rw[(hX k hk).2.2.1];exact h.fuel k hk ((hX k hk).2.2.2 hr)
 ·intro i hi p x hx
  obtain⟨op,ho,vU⟩:=touch_of hx;rcases getElem?_append_cases ho with⟨_,EA⟩|⟨_,Gr⟩
  ·exact h.fresh i hi p x (by rw[touchAt_of EA];exact vU)
  ·intro e
   (rcases(hu op Gr).2.2.2 x vU (by rw[e];rfl)with⟨⟨a,h1,h2⟩|h1,_⟩|⟨⟨b,h1,h2⟩,_⟩);(·rw[e]at h1;cases h1;exact G.d2 h2.symm);(·rw[e]at h1;cases h1);(·rw[e]at h1;cases h1;exact(G.rd _ h2).2.2.2 rfl)
 ·rw[ej,iS]
  exact(h.tl.alT (h.apt G) hu).grow fun g _ l hl=>.inl (ho g l hl)
theorem bw.sI.item(_:E.Geo)(h:E.sI tag X gq w t)(ej:tag'.j E.n=tag.j E.n)(es:tag'.s E.T=tag.s E.T+1)(hk:k<tag.j E.n){x':WX}(iS:w'.heap.size=w.heap.size)(hf:x'.cP=(X k).cP)(hc:x'.cur=some (tag.s E.T))(acH:E.T - tag.s E.T<=x'.fuel+1)(hu:∀op∈u,op.act.touch?=none/\op.act.low w.heap.size/\op.act≠.mark (.release (stA E.wg))):E.sI tag' (upd X k x') (upd gq (tag.s E.T) (some k)) w' (t++u):=by
 have acZ:gq (tag.s E.T)=none:=by
  cases e:gq (tag.s E.T)with
  |none=>rfl
  |some k'=>have:=(h.U3 _ _ e).1;omega
 have cP:∀k',(upd X k x' k').cP=(X k').cP:=by
  intro k'
  by_cases e:k'=k
  ·subst e;rw[upd_same];exact hf
  ·rw[upd_ne X _ e]
 have nt:∀p x,touchAt (t++u) p=some x->touchAt t p=some x:=by
  intro p x hx;obtain⟨op,ho,vU⟩:=touch_of hx;rcases getElem?_append_cases ho with⟨_,EA⟩|⟨_,Gr⟩
  ·rw[touchAt_of EA];exact vU
  ·rw[(hu op Gr).1]at vU;cases vU
 refine⟨?_,?_,?_,?_,?_,?_,?_,?_,?_⟩
 ·rw[ej];exact fun k' gU b hb=>by rw[cP];exact h.rd k' gU b hb
 ·rw[ej];exact fun k' gU b hb=>h.low k' gU b (cP k'▸hb)
 ·rw[ej,iS];exact fun k' gU b hb=>h.up k' gU b (cP k'▸hb)
 ·rw[ej];exact fun k1 k2 b h1 h2 f1 f2=>h.apart k1 k2 b h1 h2 (cP k1▸f1) (cP k2▸f2)
 ·rw[ej,es]
  intro i k' hi
  by_cases e:i=tag.s E.T
  ·subst e;rw[upd_same]at hi;cases hi;exact⟨by omega,hk⟩
  ·rw[upd_ne gq _ e]at hi;have:=h.U3 i k' hi;exact⟨by omega,this.2⟩
 ·rw[ej]
  intro k' i gU hi
  by_cases e:k'=k
  ·subst e;rw[upd_same,hc]at hi;cases hi;rw[upd_same]
  ·rw[upd_ne X _ e]at hi
   (have:=h.cur k' i gU hi;have e2:i≠tag.s E.T:=fun e=>by rw[e,acZ]at this;cases this);rw[upd_ne gq _ e2];exact this
 ·rw[ej,es]
  intro k' gU hr
  by_cases e:k'=k
  ·subst e;rw[upd_same];omega
  ·rw[upd_ne X _ e]at hr ⊢;have:=h.fuel k' gU hr;omega
 ·intro i hi p x hx
  have e:i≠tag.s E.T:=fun e=>by rw[e,upd_same]at hi;cases hi
  rw[upd_ne gq _ e]at hi;exact h.fresh i hi p x (nt p x hx)
 ·rw[ej,iS]
  refine(h.tl.grow fun g _ l hl=>?_).adG hu;obtain⟨k',gU,rfl,hl⟩:=hl;rcases hl with⟨b,h1,h2,h3⟩|⟨i,rfl,hi⟩
  ·exact .inl ⟨k',gU,rfl,.inl ⟨b,h1,cP k'▸h2,h3⟩⟩
  ·by_cases e:i=tag.s E.T
   ·subst e;exact .inr (h.fresh _ acZ)
   ·rw[upd_ne gq _ e]at hi;exact .inl ⟨k',gU,rfl,.inr ⟨i,rfl,hi⟩⟩
end
open Go.ConcN (WgLive WD CTag RelBy sumTo upd upd_same upd_ne get_map_set get_map_set_same)
open Go.ConcR (KK WgAt stA smA rd wr)
variable{E:bw}{tag tag':aM}{d0 d0':Nat}{X:Nat->WX}{τ:Nat->Tr}{gs:Array ane}{w w':aah}{t u:aqt}{st sm:Int}
theorem bw.Com.rH(hu:∀op∈u,op.g≠i):aqo (t++u) i=aqo t i:=by
 have:=Deaf_append t i u.toList;simp only[Array.toArray_toList]at this;rw[this]
 have key:∀(l:List MemOp) (d:Nat),(∀op∈l,op.g≠i)->l.foldl (deafStep i) d=d:=by
  intro l
  induction l with
  |nil=>intro _ _;rfl
  |cons y l ih=>
   intro d hl
   have hy:deafStep i d y=d:=by
    have:=hl y sP;unfold deafStep;split<;>simp[this]
   rw[List.foldl_cons,hy];exact ih d fun op a_=>hl op (by simp[a_])
 exact key _ _ fun op a_=>hu op (by simpa using a_)
theorem C8{g:Nat}(h:∀i,t.g? i≠some g)(hu:∀op∈u,op.g≠g):∀i,(t++u).g? i≠some g:=by
 intro i e;obtain⟨op,ho,KR⟩:=Option.map_eq_some_iff.1 e;rcases getElem?_append_cases ho with⟨hi,EA⟩|⟨_,Gr⟩
 ·exact h i (by simp[Trace.g?,EA,KR])
 ·exact hu op Gr KR
theorem bw.Com.next(h:E.Com tag d0 X τ gs w t)(ej:tag'.j E.n=tag.j E.n){X':Nat->WX}{gi:Nat->Tr}{gs':Array ane}(iS:gs'.size=gs.size)(hlv:∀i g,0<i->i<E.L->gs[i]?=some g->gs[i]?=gs'[i]?/\gi i=τ i)(hu:∀op∈u,op.g=0\/(∃k,k<tag.j E.n/\op.g=E.L+k))(Y7:∀k,k<tag.j E.n->(∃g,gs'[E.L+k]?=some g/\E.WSit (X' k) (gi (E.L+k)) g w')/\aqo (t++u) (E.L+k)=(X' k).deaf/\E.rel (t++u) k (X' k)/\(tag'.np=true->(X' k).cW≠8)/\(tag'.shut=false->8<=(X' k).cW))(hd:aqo (t++u) 0=d0')(hL:1<=E.L):E.Com tag' d0' X' gi gs' w' (t++u):=by
 refine⟨by rw[iS,h.size,ej],fun i h0 hi=>?_,?_,hd,?_,fun g hg=>?_,?_,?_,?_⟩
 ·obtain⟨g,q,hg,hq,hQ⟩:=h.lv i h0 hi
  obtain⟨e1,e2⟩:=hlv i g h0 hi hg;refine⟨g,q,by rw[<-e1];exact hg,e2.T hq,?_⟩;rw[bw.Com.rH fun op a_=>by rcases hu op a_ with e|⟨k,_,e⟩<;>omega];exact hQ
 ·rw[ej];exact fun k hk=>(Y7 k hk).1
 ·rw[ej];exact fun k hk=>(Y7 k hk).2.1
 ·refine C8 (h.none g oM) fun op a_=>?_
  rw[iS,h.size]at hg;rcases hu op a_ with e|⟨k,hk,e⟩<;>omega
 ·rw[ej];exact fun k hk=>(Y7 k hk).2.2.1
 ·rw[ej];exact fun hs k hk=>(Y7 k hk).2.2.2.1 hs
 ·rw[ej];exact fun hs k hk=>(Y7 k hk).2.2.2.2 hs
theorem bw.Com.still(h:E.Com tag d0 X τ gs w t)(hk:k<tag.j E.n){gs':Array ane}{f:ane->ane}(hgs:gs'[E.L+k]?=(gs[E.L+k]?).map f)(hf:∀g,E.WSit (X k) (τ (E.L+k)) g w->f g=g)(hR:E.R (X k).cP w w')(hu:∀op∈u,op.g≠E.L+k)(hs:tag'.np=true->(X k).cW≠8)(es:tag'.shut=tag.shut):
  (∃g,gs'[E.L+k]?=some g/\E.WSit (X k) (τ (E.L+k)) g w')/\aqo (t++u) (E.L+k)=(X k).deaf/\E.rel (t++u) k (X k)/\(tag'.np=true->(X k).cW≠8)/\(tag'.shut=false->8<=(X k).cW):=by
 obtain⟨g,hg,hW⟩:=h.wk k hk;refine⟨⟨g,by rw[hgs,hg,aqg,hf g hW],hW.rely hR⟩,(bw.Com.rH hu).T (h.deafW k hk),fun Jx=>?_,hs,fun e=>h.live (es▸e) k hk⟩
 ·obtain⟨r,hr⟩:=h.rel k hk Jx
  exact⟨r,aqr hr hu⟩
def wT(τ:Nat->Tr)(i:Nat)(x:Tr):Nat->Tr:=fun k=>if k=i then x else τ k
theorem vB(τ:Nat->Tr)(i:Nat)(x:Tr):wT τ i x i=x:=by simp[wT]
theorem pK(τ:Nat->Tr)(x:Tr)(h:k≠i):wT τ i x k=τ k:=by simp[wT,h]
theorem x_(h:E.Com tag d0 X τ gs w t){g:ane}(h0:0<i)(hi:i<E.L)(hg:gs[i]?=some g)(a a':ane)(w1:aah):ap7 E.P a a' w1 g=g:=by
 obtain⟨g2,q,Ez,_,hQ⟩:=h.lv i h0 hi;rw[hg]at Ez;cases Ez;exact woken_quitsD hQ
theorem wP{tag:aM}(h:tag.shut=true):tag.np=true:=by cases tag<;>first|exact h|rfl
theorem bw.Com.worker(G:E.Geo)(h:E.Com tag d0 X τ gs w t)(ej:tag'.j E.n=tag.j E.n)(es:tag'.shut=tag.shut)(en:tag'.np=tag.np)(hk:k<tag.j E.n){x':WX}{gi:Tr}{g:ane}{f:ane->ane}(hf:f=ap7 E.P g g' w'\/f=id)(tc:∃s r tm,w'.heap[E.ch]?=some (.chan 0 #[] tag.shut s r tm))(hR:∀k',k'<tag.j E.n->k'≠k->E.R (X k').cP w w')(hs:E.WSit x' gi g' w')(hu:∀op∈u,op.g=E.L+k)(hd:aqo (t++u) (E.L+k)=x'.deaf)(hr:E.rel (t++u) k x')(ho:tag.np=true->x'.cW≠8)(hl:tag.shut=false->8<=x'.cW):E.Com tag' d0 (upd X k x') (wT τ (E.L+k) gi) ((gs.map f).setIfInBounds (E.L+k) g') w' (t++u):=by
 have hL:=G.L1
 have hfw:∀k',k'<tag.j E.n->∀x,E.WSit (X k') (τ (E.L+k')) x w->f x=x:=by
  rintro k' gU x hx;rcases hf with rfl|rfl
  ·refine hx.woken _ _ _ ?_
   cases e:tag.shut with
   |true=>exact .inl (h.open_ (wP e) k' gU)
   |false=>rw[e]at tc;exact .inr tc
  ·rfl
 refine h.next ej sP (fun i x h0 hi hx=>⟨?_,pK _ _ oM⟩) (fun op a_=>.inr ⟨k,hk,hu op a_⟩) (fun k' gU=>?_) ?_ hL
 ·rw[get_map_set _ _ _ _ oM,hx]
  rcases hf with rfl|rfl
  ·rw[aqg,x_ h h0 hi hx]
  ·rfl
 ·by_cases e:k'=k
  ·subst e
   rw[upd_same,vB];exact⟨⟨g',get_map_set_same _ _ _ (by rw[h.size];omega),hs⟩,hd,hr,fun x=>ho (en▸x),fun x=>hl (es▸x)⟩
  ·rw[upd_ne X _ e,pK _ _ oM]
   exact h.still gU (get_map_set _ _ _ _ oM) (hfw k' gU) (hR k' gU e) (fun op a_=>by rw[hu op a_];omega) (fun x=>h.open_ (en▸x) k' gU) es
 ·rw[bw.Com.rH fun op a_=>by rw[hu op a_];omega];exact h.deaf0
theorem bw.Com.main(G:E.Geo)(h:E.Com tag d0 X τ gs w t)(ej:tag'.j E.n=tag.j E.n)(es:tag'.shut=tag.shut)(en:tag'.np=true->∀k,k<tag.j E.n->(X k).cW≠8){a:ane}{f:ane->ane}(hf:f=ap7 E.P a a' w'\/f=id)(tc:∃s r tm,w'.heap[E.ch]?=some (.chan 0 #[] tag.shut s r tm))(hR:∀k',k'<tag.j E.n->E.R (X k').cP w w')(hu:∀op∈u,op.g=0)(hd:aqo (t++u) 0=d0'):E.Com tag' d0' X τ ((gs.map f).setIfInBounds 0 a') w' (t++u):=by
 have hL:=G.L1
 have hfw:∀k',k'<tag.j E.n->∀x,E.WSit (X k') (τ (E.L+k')) x w->f x=x:=by
  rintro k' gU x hx;rcases hf with rfl|rfl
  ·refine hx.woken _ _ _ ?_
   cases e:tag.shut with
   |true=>exact .inl (h.open_ (wP e) k' gU)
   |false=>rw[e]at tc;exact .inr tc
  ·rfl
 refine h.next ej sP (fun i x h0 hi hx=>⟨?_,rfl⟩) (fun op a_=>.inl (hu op a_)) (fun k' gU=>?_) hd hL
 ·rw[get_map_set _ _ _ _ oM,hx]
  rcases hf with rfl|rfl
  ·rw[aqg,x_ h h0 hi hx]
  ·rfl
 ·exact h.still gU (get_map_set _ _ _ _ oM) (hfw k' gU) (hR k' gU) (fun op a_=>by rw[hu op a_];omega) (fun x=>en x k' gU) es
theorem bw.Com.close(G:E.Geo)(h:E.Com tag d0 X τ gs w t)(ej:tag'.j E.n=tag.j E.n)(es:tag'.shut=true){a:ane}(hm:aqF E.P a=true)(ha:a'.status=.running)(tc:∃s r tm,w'.heap[E.ch]?=some (.chan 0 #[] true s r tm))(hR:∀k',k'<tag.j E.n->E.R (X k').cP w w')(hu:∀op∈u,op.g=0)(hd:aqo (t++u) 0=d0'):
  ∃rk:Nat->Nat,(∀k,k<tag.j E.n->rk k<=(X k).cW+1/\(8<=rk k->8<=(X k).cW))/\E.Com tag' d0' (fun k=>{X k with cW:=rk k}) τ ((gs.map (ap7 E.P a a' w')).setIfInBounds 0 a') w' (t++u):=by
 have hL:=G.L1
 have key:∀k,∃r',k<tag.j E.n->(∃g,((gs.map (ap7 E.P a a' w')).setIfInBounds 0 a')[E.L+k]?=some g/\E.WSit {X k with cW:=r'} (τ (E.L+k)) g w')/\r'<=(X k).cW+1/\r'≠8/\(8<=r'->8<=(X k).cW):=by
  intro k
  by_cases hk:k<tag.j E.n
  ·obtain⟨g,hg,hW⟩:=h.wk k hk
   obtain⟨r',h1,h2,h3,h4⟩:=hW.T0 hm ha tc;exact⟨r',fun _=>⟨⟨_,by rw[get_map_set _ _ _ _ oM,hg,aqg],h1.rely (hR k hk)⟩,h2,h3,h4⟩⟩
  ·exact⟨0,fun x=>absurd x hk⟩
 obtain⟨rk,hrk⟩:=Classical.axiomOfChoice key;refine⟨rk,fun k hk=>⟨(hrk k hk).2.1,(hrk k hk).2.2.2⟩,?_⟩;refine h.next ej sP (fun i x h0 hi hx=>⟨?_,rfl⟩) (fun op a_=>.inl (hu op a_)) (fun k hk=>?_) hd hL
 ·rw[get_map_set _ _ _ _ oM,hx,aqg,x_ h h0 hi hx]
 ·refine⟨(hrk k hk).1,(bw.Com.rH fun op a_=>by rw[hu op a_];omega).T (h.deafW k hk),fun Jx=>?_,fun _=>(hrk k hk).2.2.1,fun x=>by rw[es]at x;cases x⟩
  obtain⟨r,hr⟩:=h.rel k hk Jx;exact⟨r,aqr hr fun op a_=>by rw[hu op a_];omega⟩
theorem bw.Com.afh(G:E.Geo)(h:E.Com tag d0 X τ gs w t)(ej:tag'.j E.n=tag.j E.n)(es:tag'.shut=tag.shut)(en:tag'.np=tag.np)(h0:0<i)(hi:i<E.L){g:ane}{q:Nat}{es':Array anu}{pos:String}(tc:∃s r tm,w.heap[E.ch]?=some (.chan 0 #[] tag.shut s r tm))(hq:QuitsD E.P q (ap8 (aqo t i) es') g'):
  E.Com tag' d0 X (wT τ i (Tr.nat q)) ((gs.map (ap7 E.P g g' w)).setIfInBounds i g') w (t++aqc i fn pos es'):=by
 have hL:=G.L1;have KR:∀op∈aqc i fn pos es',op.g=i:=aqO;refine⟨by simp[h.size,ej],fun i' h0' V0=>?_,?_,?_,?_,fun x hx=>?_,?_,?_,?_⟩
 ·by_cases e:i'=i
  ·subst e
   exact⟨g',q,get_map_set_same _ _ _ (by rw[h.size];omega),vB _ _ _,by rw[Deaf_own];exact hq⟩
  ·obtain⟨x,q',hx,KT,hQ⟩:=h.lv i' h0' V0
   exact⟨x,q',by rw[get_map_set _ _ _ _ (fun e2=>e e2.symm),hx,aqg,x_ h h0' V0 hx],by rw[pK _ _ e];exact KT,by rw[are t (fun e2=>e e2.symm) _ KR];exact hQ⟩
 ·rw[ej]
  intro k hk;rw[pK _ _ oM]
  exact(h.still (w':=w) (u:=aqc i fn pos es') (tag':=tag') hk (get_map_set _ _ _ _ oM) (fun x hx=>hx.woken _ _ _ (by
   cases e:tag.shut with
   |true=>exact .inl (h.open_ (wP e) k hk)
   |false=>rw[e]at tc;exact .inr tc)) (bw.R.refl _ _) (fun op a_=>by rw[KR op a_];omega) (fun x=>h.open_ (en▸x) k hk) es).1
 ·rw[are t oM _ KR];exact h.deaf0
 ·rw[ej];intro k hk;rw[are t oM _ KR];exact h.deafW k hk
 ·rw[Array.size_setIfInBounds,Array.size_map]at hx
  exact C8 (h.none x hx) fun op a_=>by rw[KR op a_];have:=h.size;omega
 ·rw[ej];intro k hk Jx
  obtain⟨r,hr⟩:=h.rel k hk Jx;exact⟨r,aqr hr fun op a_=>by rw[KR op a_];omega⟩
 ·rw[ej];intro e k hk;exact h.open_ (en▸e) k hk
 ·rw[ej];intro e k hk;exact h.live (es▸e) k hk
open Go.ConcN (WgLive WD CTag RelBy Vc cnt sumTo sumTo_upd upd upd_same upd_ne isW3 isOpen pend OpenSt Vc_upd phi_mono others_uncounted le_sumTo)
open Go.ConcR (KK WgAt stA smA rd wr deafBehind_cons deafBehind_one)
variable{E:bw}{tag tag':aM}{d0 d0':Nat}{X:Nat->WX}{gq:Nat->Option Nat}{τ:Nat->Tr}{kV:Tr}{gs:Array ane}{w w':aah}{t u:aqt}{st sm st' sm':Int}{a:ane}{sl:Option (Nat×Nat)}{Fin:ane->Prop}{Anch:ane->aah->Prop}
theorem bw.Mem.at(h:E.Mem tag X st sm w)(d:Nat):E.Mem tag X st sm (w.at d):=⟨h.old,h.size,h.os,h.O,h.tape,h.wg,h.ch,h.oa⟩
theorem bw.sI.at(h:E.sI tag X gq w t)(d:Nat):E.sI tag X gq (w.at d) t:=⟨h.rd,h.low,h.up,h.apart,h.U3,h.cur,h.fuel,h.fresh,h.tl⟩
theorem bw.Com.at(h:E.Com tag d0 X τ gs w t)(d:Nat):E.Com tag d0 X τ gs (w.at d) t:=
 ⟨h.size,h.lv,fun k hk=>let ⟨g,hg,hs⟩:=h.wk k hk;⟨g,hg,hs.rely (bw.R.at _ w d)⟩,h.deaf0,h.deafW,h.none,h.rel,h.open_,h.live⟩
theorem gD(X:Nat->WX)(k:Nat)(x:WX):wd (upd X k x)=upd (wd X) k ⟨x.stage,0,x.deaf⟩:=by
 funext i
 by_cases e:i=k
 ·subst e;simp[wd,upd_same]
 ·simp[wd,upd_ne _ _ e]
theorem aM.phi_mono(n T:Nat){v v':Nat}(h:v'<=v)(tag:aM):tag.phi n T v'<=tag.phi n T v:=by
 cases tag<;>simp only[aM.phi]<;>omega
def bw.Steps(E:bw)(Fin:ane->Prop)(Anch:ane->aah->Prop)(gs:Array ane)(w:aah)(sl:Option (Nat×Nat))(i:Nat)(t:aqt)(μ:Mu):Prop:=
 ∃m' ops MC,runT E.P (crowd gs w sl) i=(.next m',ops)/\MJ (E.L+E.n) MC μ/\E.Inv Fin Anch MC m' (t++ops)
def bw.mu(E:bw)(tag:aM)(X:Nat->WX)(τ:Nat->Tr)(kV:Tr):Mu:=(tag.phi E.n E.T (Vc (tag.j E.n) (wd X))+4*(E.T - tag.s E.T)+BW (tag.j E.n) X,τ,(kV,tag.fl))
theorem ajo(n:Nat)(tag:aM):tag.j n<=n:=by cases tag<;>simp[aM.j]
theorem retag(h:tag'=tag\/(tag=.blk/\tag'=.w3))(n T v:Nat):tag'.j n=tag.j n/\tag'.s T=tag.s T/\tag'.shut=tag.shut/\tag'.np=tag.np/\tag'.phi n T v=tag.phi n T v/\(tag'.c=tag.c\/(tag.c=.blk/\tag'.c=.w3)):=by
 rcases h with rfl|⟨rfl,rfl⟩
 ·exact⟨rfl,rfl,rfl,rfl,rfl,.inl rfl⟩
 ·exact⟨rfl,rfl,rfl,rfl,rfl,.inr ⟨rfl,rfl⟩⟩
theorem workerStep(G:E.Geo)(o7:∀g w,Anch g w->g.status=.running)(ha:gs[0]?=some a)(hm:E.fq Fin Anch tag d0 kV a w)(hc:E.Com tag d0 X τ gs w t)(ay:E.Mem tag X st sm w)(hk:k<tag.j E.n){g:ane}{x':WX}{gi:Tr}(hg:gs[E.L+k]?=some g)(hgo:ant E.P false g w=.go g' w' es)(sN:∀tag',tag'.j E.n=tag.j E.n->tag'.s E.T=tag.s E.T->tag'.shut=tag.shut->E.Mem tag' (upd X k x') st' sm' w')(hR0:E.R E.Rd w w')(hR:∀k',k'<tag.j E.n->k'≠k->E.R (X k').cP w w')(hs:E.WSit x' gi g' w')(aO:∀tag',tag'.j E.n=tag.j E.n->tag'.s E.T=tag.s E.T->E.sI tag' (upd X k x') gq w' (t++aqc (E.L+k) g.frame.fn g.frame.place es))(hd:ap8 (X k).deaf es=x'.deaf)(hr:E.rel (t++aqc (E.L+k) g.frame.fn g.frame.place es) k x')(ho:tag.np=true->x'.cW≠8)(hl:tag.shut=false->8<=x'.cW)(aU:∀tag',(tag'=tag\/(tag=.blk/\tag'=.w3))->(aqF E.P g=true->g'.status=.running->tag'≠.blk)->ap6 (tag.j E.n) (wd (upd X k x')) tag'.c st' sm')(aE:(x'.cW<(X k).cW/\cnt (wd (upd X k x') k)<=cnt (wd X k))\/(x'.cW=(X k).cW/\x'.stage=(X k).stage/\Tr.Sub gi (τ (E.L+k)))):
  E.Steps Fin Anch gs w sl (E.L+k) t (E.mu tag X τ kV):=by
 have hL:=G.L1;have tc:∃s r tm,w'.heap[E.ch]?=some (.chan 0 #[] tag.shut s r tm):=(sN tag rfl rfl rfl).ch
 obtain⟨tag',qs,Bq,ug,Y7⟩:=hm.wokenBy o7 g g' w' (by
  cases tag<;>first|(left;simp;done)|(right;exact tc))
 obtain⟨e1,e2,e3,e4,e5,e6⟩:=retag ug E.n E.T (Vc (tag.j E.n) (wd (upd X k x')));have dI:=runT_crowd_go (P:=E.P) (sl:=sl) (i:=E.L+k) hg (by rw[show(E.L+k == 0)=false by simp;omega];exact hgo);have mw:=hc.worker (g:=g) (f:=ap7 E.P g g' w') G e1 e3 e4 hk (.inl rfl) tc hR hs aqO (by rw[Deaf_own,hc.deafW k hk];exact hd) hr ho hl
 refine⟨_,_,E.mu tag' (upd X k x') (wT τ (E.L+k) gi) qs,dI,?_,
  _,w',sl,tag',d0,upd X k x',gq,wT τ (E.L+k) gi,qs,ap7 E.P g g' w' a,st',sm',rfl,by rw[Go.ConcN.get_map_set _ _ _ _ oM,ha];rfl,Bq.rely hR0,mw,sN tag' e1 e2 e3,aO tag' e1 e2,by rw[e1];exact aU tag' ug Y7,rfl⟩
 simp only[bw.mu,e1,e2,e5];have r1:=sumTo_upd X x' WX.cW hk;have r2:=Vc_upd (wd X) (⟨x'.stage,0,x'.deaf⟩:WD) hk;simp only[BW]at*;rcases aE with⟨h1,h2⟩|⟨h1,h2,h3⟩
 ·refine .stage ?_
  have Um:cnt (⟨x'.stage,0,x'.deaf⟩:WD)<=cnt (wd X k):=by rw[gD,upd_same]at h2;exact h2
  have:=aM.phi_mono E.n E.T (v':=Vc (tag.j E.n) (wd (upd X k x'))) (v:=Vc (tag.j E.n) (wd X)) (by rw[gD];omega) tag;omega
 ·have ev:Vc (tag.j E.n) (wd (upd X k x'))=Vc (tag.j E.n) (wd X):=by
   have:cnt (⟨x'.stage,0,x'.deaf⟩:WD)=cnt (wd X k):=by
    (show(if 5<=x'.stage then 1 else 0)=(if 5<=(X k).stage then 1 else 0));rw[h2]
   rw[gD];omega
  rw[ev];refine .other oM ?_;exact Uv.set (by have:=ajo E.n tag;omega) h3
open Go.ConcN (WgLive WD CTag RelBy Vc cnt sumTo sumTo_upd upd upd_same upd_ne isW3 isOpen pend OpenSt Vc_upd phi_mono others_uncounted le_sumTo)
open Go.ConcR (KK WgAt stA smA rd wr deafBehind_cons deafBehind_one Bk bk_of_mute ofEvent_loc_mark ofEvent_cell)
variable{E:bw}{tag tag':aM}{d0 d0':Nat}{X:Nat->WX}{gq:Nat->Option Nat}{τ:Nat->Tr}{kV:Tr}{gs:Array ane}{w w':aah}{t u:aqt}{st sm st' sm':Int}{a:ane}{sl:Option (Nat×Nat)}{Fin:ane->Prop}{Anch:ane->aah->Prop}
theorem DX.low{Ev:aD->anu->Prop}{S S':aD}(_:E.Geo)(h:DX E.Rd Ev S S' w w' es)(hS:∀b,S b->E.Rd b\/E.N0<=b)(hN:E.N0<=w.heap.size):∀b,b<E.N0->w'.heap[b]?=w.heap[b]?:=by
 intro b hb;refine h.other b oM ?_
 by_cases hr:E.Rd b
 ·exact .inl hr
 ·exact .inr fun hs=>(hS b hs).elim hr oM
theorem RF{Rd S:aD}(h:∀e∈es,AT Rd S e)(d:Nat):ap8 d es=d:=
 deafBehind_still (fun e he=>by cases h e he<;>simp) d
theorem afx{j:Nat}{S:aD}{e:anu}{pos:String}(hk:k<j)(hS:(X k).cP=S)(hB:∀b,S b->b<B)(h:AT E.Rd S e):
  OkG E.Sh E.M5 (E.own j X gq) (stA E.wg) B (E.L+k) {g:=E.L+k,fn,pos,act:=.ofEvent e}:=by
 subst hS
 have rdo:∀{l:Loc} {b:Nat},Ik l=some b->(X k).cP b->∀wr:Bool,(wr=true->¬ E.Rd b)->(E.own j X gq (E.L+k) l)\/(E.M5 l/\wr=false):=by
  intro l b h1 h2 wr h3
  by_cases hr:E.Rd b
  ·refine .inr ⟨⟨b,h1,hr⟩,?_⟩
   cases wr with
   |true=>exact absurd hr (h3 rfl)
   |false=>rfl
  ·exact .inl ⟨k,hk,rfl,.inl ⟨b,h1,h2,hr⟩⟩
 cases h with
 | @read a h=>
   refine⟨rfl,hB _ h,by simp[apZ],fun x hx _=>?_⟩;simp only[apZ,ap_,akk]at hx;subst hx;exact .inr ((rdo (l:=.cell a) rfl h false sP).imp (fun y=>⟨y,rfl⟩) fun y=>⟨y.1,rfl,rfl⟩)
 | @write a h hr=>
   refine⟨rfl,hB _ h,by simp[apZ],fun x hx _=>?_⟩;simp only[apZ,ap_,akk]at hx;subst hx;exact .inr (.inl ⟨(rdo (l:=.cell a) rfl h true (fun _=>hr)).resolve_right sP,rfl⟩)
 | @obj r h=>
   refine⟨rfl,hB _ h,by simp[apZ],fun x hx _=>?_⟩;simp only[apZ,ap_,akk]at hx;subst hx;exact .inr ((rdo (l:=.obj r) rfl h false sP).imp (fun y=>⟨y,rfl⟩) fun y=>⟨y.1,rfl,rfl⟩)
 | @set r h hr=>
   refine⟨rfl,hB _ h,by simp[apZ],fun x hx _=>?_⟩;simp only[apZ,ap_,akk]at hx;subst hx;exact .inr (.inl ⟨(rdo (l:=.obj r) rfl h true (fun _=>hr)).resolve_right sP,rfl⟩)
 |ext f=>exact⟨rfl,trivial,by simp[apZ],fun x hx=>by simp[apZ,ap_]at hx⟩
 |room=>exact⟨rfl,trivial,by simp[apZ],fun x hx=>by simp[apZ,ap_]at hx⟩
 |O=>
  refine⟨rfl,trivial,by simp[apZ],fun x hx hm=>?_⟩;simp only[apZ,ap_,akk]at hx;subst hx;cases hm
theorem aaS(h:WgAt E.ty E.wg w st sm)(e:w'.heap[E.wg]?=w.heap[E.wg]?):WgLive E.ty E.wg w':=⟨st,sm,e.T h⟩
theorem Zt(G:E.Geo){Ev:aD->anu->Prop}{S':aD}(aO:E.sI tag X gq w t)(ay:E.Mem tag X st sm w)(hk:k<tag.j E.n)(h:DX E.Rd Ev (X k).cP S' w w' es):
  E.R E.Rd w w'/\∀k',k'<tag.j E.n->k'≠k->E.R (X k').cP w w':=by
 have lo:=h.low G (aO.low k hk) ay.size;have hl:=aaS (E:=E) ay.wg (lo _ G.wg);refine⟨⟨fun b hb=>lo b (G.rd b hb).1,h.size,h.os,fun _=>hl⟩,fun k' gU eZ=>⟨fun b hb=>?_,h.size,h.os,fun _=>hl⟩⟩;refine h.other b (aO.up k' gU b hb) ?_
 by_cases hr:E.Rd b
 ·exact .inl hr
 ·exact .inr fun hs=>(aO.apart k k' b hk gU hs hb).elim (fun e=>eZ e.symm) hr
theorem El(G:E.Geo)(o7:∀g w,Anch g w->g.status=.running)(ha:gs[0]?=some a)(hm:E.fq Fin Anch tag d0 kV a w)(hc:E.Com tag d0 X τ gs w t)(ay:E.Mem tag X st sm w)(aO:E.sI tag X gq w t)(aU:ap6 (tag.j E.n) (wd X) tag.c st sm)(hk:k<tag.j E.n){g:ane}{S':aD}{gi:Tr}(hg:gs[E.L+k]?=some g)(hgo:ant E.P false g w=.go g' w' es)(hd:E.DW (X k).cP S' w w' es)(hs:E.WSit {X k with cP:=S'} gi g' w')(h7:(X k).stage=7)(dR:Tr.Sub gi (τ (E.L+k))):E.Steps Fin Anch gs w sl (E.L+k) t (E.mu tag X τ kV):=by
 obtain⟨hR0,hR⟩:=Zt G aO ay hk hd;have lo:=hd.low G (aO.low k hk) ay.size
 have cur:∀k',(upd X k {X k with cP:=S'} k').cur=(X k').cur:=by
  intro k'
  by_cases e:k'=k
  ·subst e;rw[upd_same]
  ·rw[upd_ne _ _ e]
 have sN:∀tag',tag'.j E.n=tag.j E.n->tag'.s E.T=tag.s E.T->tag'.shut=tag.shut->E.Mem tag' (upd X k {X k with cP:=S'}) st sm w':=by
  intro tag' e1 e2 e3;refine⟨fun b h1 h2 h3 h4=>(lo b h1).T (ay.old b h1 h2 h3 h4),aiC ay.size hd.size,hd.os.T ay.os,hd.O.T ay.O,hd.tape.T ay.tape,(lo _ G.wg).T ay.wg,?_,fun hT=>?_⟩
  ·rw[e3,lo _ G.ch];exact ay.ch
  ·obtain⟨cs,h1,h2,h3⟩:=ay.oa hT
   exact⟨cs,(lo _ G.oa).T h1,h2,by rw[e1,e2];exact fun i hi hn=>h3 i hi fun k' gU=>by have:=hn k' gU;rwa[cur]at this⟩
 refine workerStep (gq:=gq) G o7 ha hm hc ay hk hg hgo sN hR0 hR hs (fun tag' e1 e2=>?_) (RF hd.evs _) (fun h6=>?_) (fun e=>hc.open_ e k hk) (fun e=>hc.live e k hk) (fun tag' ht _=>?_) (.inr ⟨rfl,rfl,dR⟩)
 ·refine aO.worker G e1 e2 hk hd.size hd.sub hd.new ay.size (fun i=>id) (aO.fuel k hk) fun op a_=>?_
  obtain⟨e,he,rfl⟩:=ap9 a_;exact afx hk (by rw[upd_same]) (fun b hb=>(hd.new b hb).elim (fun x=>ae7 (aO.up k hk b x) hd.size) fun x=>x.2) (hd.evs e he)
 ·simp only[h7]at h6;omega
 ·refine ap1 ?_ (retag ht 0 0 0).2.2.2.2.2
  exact aU.congr fun i _=>by
   by_cases e:i=k;(·subst e;simp[wd,upd_same]);(·simp[wd,upd_ne _ _ e])
theorem J1(G:E.Geo)(o7:∀g w,Anch g w->g.status=.running)(ha:gs[0]?=some a)(hm:E.fq Fin Anch tag d0 kV a w)(hc:E.Com tag d0 X τ gs w t)(ay:E.Mem tag X st sm w)(aO:E.sI tag X gq w t)(hk:k<tag.j E.n){g:ane}{x':WX}{gi:Tr}(hg:gs[E.L+k]?=some g)(hgo:ant E.P false g w=.go g' w' es)(hA:Aside E.wg w w')(rL:WgAt E.ty E.wg w' st' sm')(E0:∀e∈es,Bk E.wg e\/e.loc=.mark (.releaseMerge (stA E.wg)))(hs:E.WSit x' gi g' w')(hf:x'.cP=(X k).cP)(Qh:x'.cur=none)(aeq:(X k).cur=none)(hd:ap8 (X k).deaf es=x'.deaf)(hr:E.rel (t++aqc (E.L+k) g.frame.fn g.frame.place es) k x')(h8:x'.cW<8)(mQ:tag.shut=true)(aU:∀tag',(tag'=tag\/(tag=.blk/\tag'=.w3))->(aqF E.P g=true->g'.status=.running->tag'≠.blk)->ap6 (tag.j E.n) (wd (upd X k x')) tag'.c st' sm')(aE:(x'.cW<(X k).cW/\cnt (wd (upd X k x') k)<=cnt (wd X k))\/(x'.cW=(X k).cW/\x'.stage=(X k).stage/\Tr.Sub gi (τ (E.L+k)))):
  E.Steps Fin Anch gs w sl (E.L+k) t (E.mu tag X τ kV):=by
 have ne:∀b,(E.Rd b\/E.N0<=b)->b≠E.wg:=fun b h=>h.elim (fun h=>(G.rd b h).2.1) fun h=>by have:=G.wg;omega
 have cur:∀k',(upd X k x' k').cur=(X k').cur:=by
  intro k'
  by_cases e:k'=k
  ·subst e;rw[upd_same,Qh,aeq]
  ·rw[upd_ne _ _ e]
 refine workerStep (gq:=gq) G o7 ha hm hc ay hk hg hgo (fun tag' e1 e2 e3=>?_) ⟨fun b hb=>hA.block b (ne b (.inl hb)),aqe hA.size.symm,hA.os,fun _=>⟨_,_,rL⟩⟩ (fun k' gU _=>⟨fun b hb=>hA.block b (ne b (aO.low k' gU b hb)),aqe hA.size.symm,hA.os,fun _=>⟨_,_,rL⟩⟩)
  hs (fun tag' e1 e2=>?_) hd hr (fun _=>by omega) (fun e=>by rw[mQ]at e;cases e) aU aE
 ·refine⟨fun b h1 h2 h3 h4=>(hA.block b h2).T (ay.old b h1 h2 h3 h4),by rw[hA.size];exact ay.size,hA.os.T ay.os,hA.output.T ay.O,hA.tape.T ay.tape,rL,?_,fun hT=>?_⟩
  ·rw[e3,hA.block _ (Ne.symm G.d1)];exact ay.ch
  ·obtain⟨cs,h1,h2,h3⟩:=ay.oa hT
   exact⟨cs,(hA.block _ (Ne.symm G.d2)).T h1,h2,by rw[e1,e2];exact fun i hi hn=>h3 i hi fun k' gU=>by have:=hn k' gU;rwa[cur]at this⟩
 ·refine aO.worker G e1 e2 hk (aqe hA.size.symm) (fun b hb=>by rw[hf];exact hb) (fun b hb=>.inl (hf▸hb)) ay.size (fun i hi=>by rw[Qh]at hi;cases hi) (fun h=>by omega) fun op a_=>?_
  obtain⟨e,he,rfl⟩:=ap9 a_;have Qs:E.wg<w'.heap.size:=by rw[hA.size];have:=G.wg;have:=ay.size;omega
  rcases E0 e he with(h1|h1|⟨b,wr,rfl,hb⟩)|h1
  ·rw[ofEvent_loc_mark h1];exact⟨rfl,trivial,by simp,fun x hx=>by cases hx⟩
  ·rw[ofEvent_loc_mark h1];exact⟨rfl,trivial,by simp,fun x hx=>by cases hx⟩
  ·rw[ofEvent_cell]
   refine⟨rfl,by show b.block<_;rw[hb];exact Qs,by simp,fun x hx _=>?_⟩;simp only[ap_,akk]at hx;subst hx;exact .inl ⟨.inl ⟨b,rfl,hb⟩,rfl⟩
  ·rw[ofEvent_loc_mark h1];exact⟨rfl,Qs,by simp,fun x hx=>by cases hx⟩
open Go.ConcN (WgLive WD CTag RelBy Vc cnt sumTo sumTo_upd upd upd_same upd_ne isW3 isOpen pend OpenSt Vc_upd phi_mono others_uncounted le_sumTo)
open Go.ConcR (KK WgAt stA smA rd wr deafBehind_cons deafBehind_one Bk bk_of_mute ofEvent_loc_mark ofEvent_cell)
variable{E:bw}{tag tag':aM}{d0 d0':Nat}{X:Nat->WX}{gq:Nat->Option Nat}{τ:Nat->Tr}{kV:Tr}{gs gs':Array ane}{w w':aah}{t u:aqt}{st sm st' sm':Int}{a:ane}{sl:Option (Nat×Nat)}{Fin:ane->Prop}{Anch:ane->aah->Prop}
theorem dK{g:ane}(h:g.status=.running\/g.status=.finished)(c:Nat)(b:Bool):aqG g c b=[]:=offersAt_of_not_blocked (by rcases h with h|h<;>rw[h]<;>simp) c b
theorem pG(hc:E.Com tag d0 X τ gs w t){g:ane}(h0:i≠0)(hg:gs[i]?=some g):(i<E.L/\∃q,QuitsD E.P q (aqo t i) g)\/∃k,k<tag.j E.n/\i=E.L+k/\E.WSit (X k) (τ (E.L+k)) g w:=by
 have aE:=(Array.getElem?_eq_some_iff.1 hg).1;rw[hc.size]at aE;rcases Nat.lt_or_ge i E.L with h|h
 ·obtain⟨g2,q,Ez,_,hQ⟩:=hc.lv i oM h
  rw[hg]at Ez;cases Ez;exact .inl ⟨h,q,hQ⟩
 ·obtain⟨k,rfl⟩:∃k,i=E.L+k:=⟨i - E.L,by omega⟩
  obtain⟨g2,Ez,hs⟩:=hc.wk k oM;rw[hg]at Ez;cases Ez;exact .inr ⟨k,by omega,rfl,hs⟩
theorem zP(hc:E.Com tag d0 X τ gs w t){g:ane}(h0:i≠0)(hg:gs[i]?=some g):aqG g E.ch true=[]:=by
 rcases pG hc h0 hg with⟨_,q,hQ⟩|⟨k,_,_,hs⟩
 ·exact dK hQ.status _ _
 ·rcases hs.status with⟨h,_⟩|⟨h,_⟩|⟨_,f,S,g2,_,rfl,_⟩
  ·exact dK (.inl h) _ _
  ·exact dK (.inr h) _ _
  ·exact offersAt_parked_recv' _ _ _ _ _
theorem Sk(o7:∀g w,Anch g w->g.status=.running)(hm:E.fq Fin Anch tag d0 kV a w)(h:∀k,tag≠.ni k):aqG a E.ch true=[]:=by
 rcases hm.status o7 with⟨h1,_⟩|⟨k,g,_,e,_⟩|⟨_,g,rfl,h3⟩
 ·exact dK (.inl h1) _ _
 ·exact absurd e (h _)
 ·have:=(h3 w (bw.R.refl _ _)).2.1
  simp[aqG,this]
theorem LI(hc:E.Com tag d0 X τ gs w t){k':Nat}{g:ane}(h0:i≠0)(hg:gs[i]?=some g)(hk:k'∈aqG g E.ch false):
  k'=0/\∃k f S g2,k<tag.j E.n/\i=E.L+k/\X k=⟨7,8,0,f,none,S⟩/\g=aqf g2 #[aqC E.ch E.zero] (.recv true)/\∀w1,E.R S w w1->E.BZ f S g2 w1:=by
 rcases pG hc h0 hg with⟨_,q,hQ⟩|⟨k,E3,e,hs⟩
 ·rw[dK hQ.status]at hk;cases hk
 ·rcases hs.status with⟨h,_⟩|⟨h,_⟩|⟨_,f,S,g2,e2,rfl,h⟩
  ·rw[dK (.inl h)]at hk;cases hk
  ·rw[dK (.inr h)]at hk;cases hk
  ·rw[offersAt_parked_recv]at hk
   simp at hk;exact⟨hk,k,f,S,g2,E3,e,e2,rfl,h⟩
theorem Va{w:aah}{c s s':Nat}(h:w.heap[c]?=some (.chan 0 #[] false s r tm))(d:Nat):((w.at d).setChan c 0 #[] false s' r' tm).heap[c]?=some (.chan 0 #[] false s' r' tm):=
 heap_put (w:=w.at d) h
theorem Nh(w:aah)(d c s r:Nat)(tm:Bool):Aside c w ((w.at d).setChan c 0 #[] false s r tm):=(Aside.at c w d).T (Aside.put c (w.at d) _)
theorem ajz(G:E.Geo)(hc:E.Com tag d0 X τ gs w t)(ay:E.Mem tag X st sm w)(aO:E.sI tag X gq w t)(aU:ap6 (tag.j E.n) (wd X) tag.c st sm){kk:Nat}(ug:tag=.snd (kk+1)\/tag=.ni (kk+1))(hkk:kk<E.T)(hd0:d0=0){a2:ane}(aiE:E.jg (E.Q6 Anch kk) (aoj a2 agp) w){r0:Nat}{S:aD}(hk:k<tag.j E.n)(hx:X k=⟨7,r0,0,f,none,S⟩)(hr0:r0=8\/r0=9)(hW:E.BZ f S g2 w)(iS:gs'.size=gs.size)(h0:gs'[0]?=some (aoj a2 agp))(hkg:gs'[E.L+k]?=some (aoj g2 (recvd true (.int .i64 ((E.T - (kk+1):Nat):Int)) true)))(E4:∀i,i≠0->i≠E.L+k->gs'[i]?=gs[i]?)(hu:∀op∈u,(op.g=0\/op.g=E.L+k)/\op.act.touch?=none/\op.act.low w.heap.size/\op.act≠.mark (.release (stA E.wg))/\op.act≠.mark .disable/\op.act≠.mark .enable){d s:Nat}(tc:w.heap[E.ch]?=some (.chan 0 #[] false s r tm)):
  ∃MC,MJ (E.L+E.n) MC (E.mu tag X τ kV)/\E.Inv Fin Anch MC (crowd gs' ((w.at d).setChan E.ch 0 #[] false (s+1) (r+1) tm) sl) (t++u):=by
 have hL:=G.L1;obtain⟨w',hw'⟩:∃w',w'=(w.at d).setChan E.ch 0 #[] false (s+1) (r+1) tm:=⟨_,rfl⟩;have hA:Aside E.ch w w':=hw'▸Nh w d E.ch _ _ tm;have aaf:w'.heap[E.ch]?=some (.chan 0 #[] false (s+1) (r+1) tm):=hw'▸Va tc d;rw[<-hw'];have hs:tag.s E.T=E.T - (kk+1):=by rcases ug with rfl|rfl<;>rfl
 have hj:tag.j E.n=E.n:=by rcases ug with rfl|rfl<;>rfl
 have mQ:tag.shut=false:=by rcases ug with rfl|rfl<;>rfl
 have htc:tag.c=.kd:=by rcases ug with rfl|rfl<;>rfl
 obtain⟨tag',YY,ID,aiW,anx,an8,aeX,hM⟩:∃tag':aM,tag'.j E.n=E.n/\tag'.s E.T=E.T - kk/\tag'.shut=false/\tag'.np=false/\tag'.c=.kd/\(∀v,tag'.phi E.n E.T v<tag.phi E.n E.T v)/\∀qs,mm E.P true E.R E.DM (E.Q6 Anch kk) qs E.Rd (aoj a2 agp) w->E.fq Fin Anch tag' 0 qs (aoj a2 agp) w:=by
  cases kk with
  |zero=>exact⟨.cl,rfl,rfl,rfl,rfl,rfl,fun v=>by rcases ug with rfl|rfl<;>simp only[aM.phi]<;>omega,fun _ h=>.cl h⟩
  |succ kk=>exact⟨.snd (kk+1),rfl,rfl,rfl,rfl,rfl,fun v=>by rcases ug with rfl|rfl<;>simp only[aM.phi]<;>omega,fun _ h=>.snd oM h⟩
 obtain⟨Za,aon⟩:=aiE;have live:WgLive E.ty E.wg w':=⟨st,sm,(hA.block _ G.d1).T ay.wg⟩;have neS:∀b,(E.Rd b\/E.N0<=b)->b≠E.ch:=fun b h=>h.elim (fun h=>(G.rd b h).2.2.1) fun h=>by have:=G.ch;omega
 have rel:∀k',k'<tag.j E.n->E.R (X k').cP w w':=fun k' gU=>⟨fun b hb=>hA.block b (neS b (aO.low k' gU b hb)),aqe hA.size.symm,hA.os,fun _=>live⟩
 have aoK:E.R E.Rd w w':=⟨fun b hb=>hA.block b (neS b (.inl hb)),aqe hA.size.symm,hA.os,fun _=>live⟩;have hf:E.T - tag.s E.T<=f:=by have:=aO.fuel k hk (by rw[hx];rcases hr0 with rfl|rfl<;>simp);rw[hx]at this;exact this
 obtain⟨f',rfl⟩:∃f',f=f'+1:=⟨f - 1,by omega⟩;obtain⟨YP,aom⟩:=hW.item (i:=E.T - (kk+1)) oM;have dst:∀i,aqo (t++u) i=aqo t i:=fun i=>aqX t i u fun op a_=>⟨(hu op a_).2.2.2.2.1,(hu op a_).2.2.2.2.2⟩
 let x':WX:=⟨7,11,0,f',some (E.T - (kk+1)),S⟩
 have mw:E.Com tag' 0 (upd X k x') (wT τ (E.L+k) YP) gs' w' (t++u):=by
  refine hc.next (YY.T hj.symm) iS (fun i x i0 hi hx=>⟨(E4 i oM oM).symm,pK _ _ oM⟩) (fun op a_=>(hu op a_).1.imp id fun e=>⟨k,hk,e⟩) (fun k' gU=>?_) ((dst 0).T (hc.deaf0.T hd0)) hL
  by_cases e:k'=k
  ·subst e
   rw[upd_same,vB];refine⟨⟨_,hkg,.store (mm.rely E.bg aom (by have:=rel k' hk;rw[hx]at this;exact this))⟩,(dst _).T ((hc.deafW k' hk).T (by rw[hx])),fun h=>by simp[x']at h,fun h=>by simp[x'],fun _=>by simp[x']⟩
  ·rw[upd_ne X _ e,pK _ _ oM]
   refine hc.still gU (f:=id) (by rw[E4 _ oM oM,Option.map_id];rfl) (fun _ _=>rfl) (rel k' gU) (fun op a_=>by rcases(hu op a_).1 with h|h<;>omega) (fun h=>by rw[anx]at h;cases h) (aiW.T mQ.symm)
 have RU:∀k' i,(upd X k x' k').cur=some i↔((k'=k/\i=E.T - (kk+1))\/(k'≠k/\(X k').cur=some i)):=by
  intro k' i
  by_cases e:k'=k
  ·subst e;rw[upd_same];simp[x',eq_comm]
  ·rw[upd_ne X _ e];simp[e]
 have sN:E.Mem tag' (upd X k x') st sm w':=by
  refine⟨fun b h1 h2 h3 h4=>(hA.block b h3).T (ay.old b h1 h2 h3 h4),by rw[hA.size];exact ay.size,hA.os.T ay.os,hA.output.T ay.O,hA.tape.T ay.tape,(hA.block _ G.d1).T ay.wg,⟨_,_,_,by rw[aiW];exact aaf⟩,fun hT=>?_⟩;obtain⟨cs,h1,h2,h3⟩:=ay.oa hT;refine⟨cs,(hA.block _ (Ne.symm G.d3)).T h1,h2,?_⟩;rw[ID,YY];intro i hi hn;have e1:i≠E.T - (kk+1):=fun e=>hn k (hj▸hk) (by rw[RU];exact .inl ⟨rfl,e⟩)
  refine h3 i (by rw[hs];omega) fun k' gU e=>?_
  by_cases e2:k'=k
  ·subst e2;rw[hx]at e;cases e
  ·exact hn k' (hj▸gU) (by rw[RU];exact .inr ⟨e2,e⟩)
 have xU:E.sI tag' (upd X k x') (upd gq (tag.s E.T) (some k)) w' (t++u):=
  aO.item G (YY.T hj.symm) (by rw[ID,hs];omega) hk hA.size (by rw[hx]) (by rw[hs]) oM fun op a_=>⟨(hu op a_).2.1,(hu op a_).2.2.1,(hu op a_).2.2.2.1⟩
 refine⟨E.mu tag' (upd X k x') (wT τ (E.L+k) YP) Za,?_,gs',w',sl,tag',0,upd X k x',upd gq (tag.s E.T) (some k),wT τ (E.L+k) YP,Za,_,st,sm,rfl,h0,(hM Za aon).rely aoK,mw,sN,xU,?_,rfl⟩
 ·refine .stage ?_
  have r1:=sumTo_upd X x' WX.cW hk
  have ev:wd (upd X k x')=wd X:=by
   funext i
   by_cases e:i=k;(·subst e;simp[wd,upd_same,hx,x']);(·simp[wd,upd_ne _ _ e])
  have:=aeX (Vc E.n (wd X));have e1:E.T - tag.s E.T=kk+1:=by omega
  have e2:E.T - tag'.s E.T=kk:=by omega
  simp only[BW,hj,YY,ev,e1,e2]at*;have e3:(X k).cW=r0:=by rw[hx]
  have e4:x'.cW=11:=rfl;omega
 ·rw[YY,an8]
  rw[hj,htc]at aU
  exact aU.congr fun i _=>by
   by_cases e:i=k;(·subst e;simp[wd,upd_same,hx,x']);(·simp[wd,upd_ne _ _ e])
open Go.ConcN (WgLive WD CTag RelBy Vc cnt sumTo sumTo_upd upd upd_same upd_ne isW3 isOpen pend OpenSt Vc_upd phi_mono others_uncounted le_sumTo)
open Go.ConcR (KK WgAt stA smA rd wr deafBehind_cons deafBehind_one Bk bk_of_mute ofEvent_loc_mark ofEvent_cell)
variable{E:bw}{tag tag':aM}{d0 d0':Nat}{X:Nat->WX}{gq:Nat->Option Nat}{τ:Nat->Tr}{kV:Tr}{gs gs':Array ane}{w w':aah}{t u:aqt}{st sm st' sm':Int}{a:ane}{sl:Option (Nat×Nat)}{Fin:ane->Prop}{Anch:ane->aah->Prop}
theorem aM.OI(tag:aM):(∀k,tag≠.ni k)\/∃k,tag=.ni k:=by cases tag<;>first|exact .inr ⟨_,rfl⟩|(left;simp)
theorem aa_(_:E.Geo)(o7:∀g w,Anch g w->g.status=.running)(ha:gs[0]?=some a)(hm:E.fq Fin Anch tag d0 kV a w)(hc:E.Com tag d0 X τ gs w t)(h:∀k,tag≠.ni k)(i:Nat):partners (gs.setIfInBounds i ph) E.ch true=[]:=by
 refine partners_nil fun j g hg=>?_
 rcases getElem?_stand gs i j g hg with⟨_,rfl⟩|⟨_,hg⟩
 ·exact offersAt_ph _ _
 ·by_cases h0:j=0
  ·subst h0;rw[ha]at hg;cases hg;exact Sk o7 hm h
  ·exact zP hc h0 hg
theorem J7(G:E.Geo)(ha:gs[0]?=some a)(hm:E.fq Fin Anch tag d0 kV a w)(hc:E.Com tag d0 X τ gs w t)(ay:E.Mem tag X st sm w)(aO:E.sI tag X gq w t)(aU:ap6 (tag.j E.n) (wd X) tag.c st sm){S:aD}(hk:k<tag.j E.n)(hx:X k=⟨7,r,0,f,none,S⟩)(hr:r'<r)(h9:8<=r){gi:Tr}(hs:E.WSit ⟨7,r',0,f,none,S⟩ gi g' w)(ho:tag.np=true->r'≠8)(hl:tag.shut=false->8<=r')(dI:runT E.P (crowd gs w sl) (E.L+k)=(.next (crowd (gs.setIfInBounds (E.L+k) g') w sl),u))(hu:∀op∈u,op.g=E.L+k/\op.act.touch?=none/\op.act.low w.heap.size/\op.act≠.mark (.release (stA E.wg))/\op.act≠.mark .disable/\op.act≠.mark .enable):
  E.Steps Fin Anch gs w sl (E.L+k) t (E.mu tag X τ kV):=by
 have hL:=G.L1;have dst:∀i,aqo (t++u) i=aqo t i:=fun i=>aqX t i u fun op a_=>⟨(hu op a_).2.2.2.2.1,(hu op a_).2.2.2.2.2⟩
 have mw:=hc.worker (tag':=tag) (u:=u) (w':=w) (g:=g') (f:=id) G rfl rfl rfl hk (.inr rfl) ay.ch (fun _ _ _=>bw.R.refl _ _) hs (fun op a_=>(hu op a_).1) ((dst _).T ((hc.deafW k hk).T (by rw[hx]))) (fun h=>by simp at h) ho hl;rw[Array.map_id]at mw
 have cur:∀k',(upd X k ⟨7,r',0,f,none,S⟩ k').cur=(X k').cur:=by
  intro k'
  by_cases e:k'=k
  ·subst e;rw[upd_same,hx]
  ·rw[upd_ne _ _ e]
 have ev:wd (upd X k ⟨7,r',0,f,none,S⟩)=wd X:=by
  funext i
  by_cases e:i=k
  ·subst e;simp[wd,upd_same,hx]
  ·simp[wd,upd_ne _ _ e]
 refine⟨_,_,E.mu tag (upd X k ⟨7,r',0,f,none,S⟩) (wT τ (E.L+k) gi) kV,dI,?_,_,w,sl,tag,d0,_,gq,_,kV,a,st,sm,rfl,by rw[ap4 oM];exact ha,hm,mw,
  ⟨ay.old,ay.size,ay.os,ay.O,ay.tape,ay.wg,ay.ch,fun hT=>?_⟩,?_,by rw[ev];exact aU,rfl⟩
 ·refine .stage ?_
  have r1:=sumTo_upd X (⟨7,r',0,f,none,S⟩:WX) WX.cW hk;have e3:(X k).cW=r:=by rw[hx]
  simp only[BW,ev]at*;omega
 ·obtain⟨cs,h1,h2,h3⟩:=ay.oa hT
  exact⟨cs,h1,h2,fun i hi hn=>h3 i hi fun k' gU=>by have:=hn k' gU;rwa[cur]at this⟩
 ·refine aO.worker G rfl rfl hk nR (fun b hb=>by rw[hx]at hb;exact hb) (fun b hb=>.inl (by rw[hx];exact hb)) ay.size (fun i hi=>by cases hi) (fun _=>?_) fun op a_=>⟨(hu op a_).1,(hu op a_).2.2.1,(hu op a_).2.2.2.1,fun x hx=>by rw[(hu op a_).2.1]at hx;cases hx⟩
  have:=aO.fuel k hk (by rw[hx];exact h9);rw[hx]at this;exact this
theorem Oo{g g0:ane}{c:Nat}{v v0 z z0:aai}{sh sh0:CommShape}(h:aqf g #[scase c v z] sh=aqf g0 #[scase c v0 z0] sh0):v=v0/\sh=sh0/\∀x,aoj g x=aoj g0 x:=by
 obtain⟨f1,c1,s1,d1,o1⟩:=g;obtain⟨f2,c2,s2,d2,o2⟩:=g0;simp only[aqf,scase,Goroutine.mk.injEq,akk,Prod.mk.injEq,true_and]at h;obtain⟨rfl,rfl,rfl,h1,rfl⟩:=h
 have h2:(some v)=some v0:=by
  have:=congrArg (fun(x:Array CommCase)=>(x[0]?).bind (·.send)) h1;simpa using this
 exact⟨ahK h2,rfl,fun x=>rfl⟩
theorem LH(G:E.Geo)(o7:∀g w,Anch g w->g.status=.running)(ha:gs[0]?=some a)(hm:E.fq Fin Anch tag d0 kV a w)(hc:E.Com tag d0 X τ gs w t)(ay:E.Mem tag X st sm w)(aO:E.sI tag X gq w t)(aU:ap6 (tag.j E.n) (wd X) tag.c st sm){S:aD}{g:ane}(hk:k<tag.j E.n)(hx:X k=⟨7,9,0,f,none,S⟩)(hg:gs[E.L+k]?=some g)(qF:ant E.P false g w=.comm g2 #[aqC E.ch E.zero] true (.recv true) w #[])(hW:∀w1,E.R S w w1->E.BZ f S g2 w1):E.Steps Fin Anch gs w sl (E.L+k) t (E.mu tag X τ kV):=by
 have hL:=G.L1;have gX:ant E.P (E.L+k == 0) g w=.comm g2 #[aqC E.ch E.zero] true (.recv true) w #[]:=by rw[show(E.L+k == 0)=false by simp;omega];exact qF
 obtain⟨s,r,tm,tc⟩:=ay.ch;have aag:E.ch<w.heap.size:=by have:=G.ch;have:=ay.size;omega
 rcases tag.OI with hn|⟨kk,rfl⟩
 ·have hp:=aa_ G o7 ha hm hc hn (E.L+k)
  cases mQ:tag.shut with
  |true=>
   (rw[mQ]at tc;obtain⟨gi,aol⟩:=(hW w (bw.R.refl _ _)).shut;have dI:=crowd_recv_closed (sl:=sl) hg gX tc hp;rw[arf]at dI;refine J7 G ha hm hc ay aO aU hk hx (r':=7) oM oM (.done aol) (fun _=>by simp) (fun e=>by rw[mQ]at e;cases e) dI fun op a_=>?_);(rcases aq_.1 a_ with h|h);(·obtain⟨e,he,_⟩:=ap9 h;simp at he);(·simp at h;subst h;exact⟨rfl,rfl,aag,by simp,by simp,by simp⟩)
  |false=>
   rw[mQ]at tc
   have dI:=crowd_waits (sl:=sl) hg gX (fun cc hcc=>by
    simp at hcc;subst hcc;exact⟨made_recv _ tc,by simp[ways,aqC,tc,hp]⟩)
   refine J7 G ha hm hc ay aO aU hk hx (r':=8) oM oM (.Xr (τ:=.leaf) hW) (fun e=>?_) (fun _=>by simp) dI fun op a_=>?_
   ·cases tag<;>first|(simp[aM.np,aM.shut]at e mQ;done)|exact absurd rfl (hn _)|(rw[aM.np]at e;rw[mQ]at e;cases e;done)|(exfalso;simp_all[aM.np,aM.shut])
   ·obtain⟨e,he,_⟩:=ap9 a_;simp at he
 ·rcases hm.status o7 with⟨_,_,h⟩|⟨k2,g0,Gp,e,ea,hM⟩|⟨h,_⟩
  ·exact absurd rfl (h kk)
  ·cases e
   have hd0:d0=0:=by
    generalize ug:aM.ni (k2+1)=tg at hm;cases hm<;>first|rfl|cases ug
   have ha0:a=aqf g0 #[scase E.ch (.int .i64 ((E.T - (k2+1):Nat):Int)) agp] .send:=ea;have off:0∈aqG a E.ch true:=by rw[ha0,aqu,if_pos rfl];simp
   have eZ:partners (gs.setIfInBounds (E.L+k) ph) E.ch true≠ []:=by
    intro e;have:((0:Nat),(0:Nat))∈partners (gs.setIfInBounds (E.L+k) ph) E.ch true:=mem_partners.2 ⟨a,by rw[ap4 oM];exact ha,off⟩;rw[e]at this;cases this
   obtain⟨j,gj,vj,zj,shj,d,hij,hj,dI⟩:=crowd_recv_meets_some (sl:=sl) hg gX (show w.heap[E.ch]?=some (.chan 0 #[] false s r tm)from tc) eZ (fun j k' Uo=>by
    obtain⟨x,R7,Y8⟩:=mem_partners.1 Uo;rcases getElem?_stand gs (E.L+k) j x R7 with⟨_,rfl⟩|⟨aeR,R7⟩
    ·rw[offersAt_ph]at Y8;cases Y8
    ·by_cases h0:j=0
     ·subst h0;rw[ha]at R7;cases R7
      rw[ha0,aqu,if_pos rfl]at Y8;exact⟨by simpa using Y8,by omega,g0,_,_,_,by rw[ha,ha0]⟩
     ·rw[zP hc h0 R7]at Y8;cases Y8)
   have j0:j=0:=by
    by_cases h0:j=0;(·exact h0)
    ·have:=zP hc h0 hj
     rw[aqu,if_pos rfl]at this;cases this
   subst j0;rw[ha,ha0]at hj;obtain⟨hv,anY,hsv⟩:=Oo (ahK hj).symm;subst hv anY;rw[arf,finishComm_send,hsv]at dI;have hMs:=hM w (bw.R.refl _ _)
   have hu:∀op∈aqc (E.L+k) g.frame.fn g.frame.place #[]++#[({g:=0,fn:=gj.frame.fn,pos:=gj.frame.place,act:=.send E.ch s}:MemOp),{g:=E.L+k,fn:=g2.frame.fn,pos:=g2.frame.place,act:=.recv E.ch r 0},
     {g:=0,fn:=gj.frame.fn,pos:=gj.frame.place,act:=.sendDone E.ch s},{g:=E.L+k,fn:=g2.frame.fn,pos:=g2.frame.place,act:=.recvDone E.ch r}],
     (op.g=0\/op.g=E.L+k)/\op.act.touch?=none/\op.act.low w.heap.size/\op.act≠.mark (.release (stA E.wg))/\op.act≠.mark .disable/\op.act≠.mark .enable:=by
    intro op a_;rcases aq_.1 a_ with h|h
    ·obtain⟨e,he,_⟩:=ap9 h;simp at he
    ·simp at h
     rcases h with rfl|rfl|rfl|rfl<;>exact⟨by simp,rfl,aag,by simp,by simp,by simp⟩
   obtain⟨MC,h1,h2⟩:=ajz (sl:=sl) (gs':=(gs.setIfInBounds 0 (aoj g0 agp)).setIfInBounds (E.L+k) (aoj g2 (recvd true (.int .i64 ((E.T - (k2+1):Nat):Int)) true))) (Fin:=Fin) (τ:=τ) (kV:=kV) (d:=d) G hc ay aO aU (.inr rfl) Gp hd0 hMs.2.2.2 hk hx (.inr rfl) (hW w (bw.R.refl _ _)) sP
    (by rw[ap4 oM];exact aqi (by have:=hc.size;omega)) (by rw[aqi (by have:=hc.size;simp;omega)]) (fun i h0 hi=>by rw[ap4 oM,ap4 oM])
    (u:=_) hu tc
   exact⟨_,_,MC,dI,h1,h2⟩
  ·cases h
open Go.ConcN (WgLive WD CTag RelBy Vc cnt sumTo sumTo_upd upd upd_same upd_ne isW3 isOpen pend OpenSt Vc_upd phi_mono others_uncounted le_sumTo bk_cell RelBy.book)
open Go.ConcR (KK WgAt stA smA rd wr deafBehind_cons deafBehind_one Bk bk_of_mute ofEvent_loc_mark ofEvent_cell)
variable{E:bw}{tag tag':aM}{d0 d0':Nat}{X:Nat->WX}{gq:Nat->Option Nat}{τ:Nat->Tr}{kV:Tr}{gs gs':Array ane}{w w':aah}{t u:aqt}{st sm st' sm':Int}{a:ane}{sl:Option (Nat×Nat)}{Fin:ane->Prop}{Anch:ane->aah->Prop}
theorem I1(hc:E.Com tag d0 X τ gs w t)(hk:k<tag.j E.n)(h:(X k).cW<8):tag.shut=true:=by
 cases e:tag.shut with
 |true=>rfl
 |false=>have:=hc.live e k hk;omega
theorem lX(h:tag'=tag\/(tag=.blk/\tag'=.w3)):tag'.c=tag.c\/(tag.c=.blk/\tag'.c=.w3):=(retag h 0 0 0).2.2.2.2.2
theorem Q5(hm:E.fq Fin Anch tag d0 kV a w):tag.j E.n+pend tag.c<=E.n:=by
 cases hm<;>simp only[aM.j,aM.c,pend]<;>(try simp)<;>omega
theorem Tt(G:E.Geo)(o7:∀g w,Anch g w->g.status=.running)(ha:gs[0]?=some a)(hm:E.fq Fin Anch tag d0 kV a w)(hc:E.Com tag d0 X τ gs w t)(ay:E.Mem tag X st sm w)(aO:E.sI tag X gq w t)(aU:ap6 (tag.j E.n) (wd X) tag.c st sm){S:aD}{g:ane}{gi:Tr}{cs:Array aai}(hk:k<tag.j E.n)(hx:X k=⟨7,11,0,f,some i,S⟩)(hg:gs[E.L+k]?=some g)(hgo:ant E.P false g w=.go g' (w.setCell ⟨E.oa,i,none⟩ (E.val i)) #[⟨.cell ⟨E.oa,i,none⟩,true,false⟩])(hi:i<tag.s E.T)(hiT:i<E.T)(h1:w.heap[E.oa]?=some (.cells cs E.Y9))(h2:cs.size=E.T)(h3:∀i,i<tag.s E.T->(∀k,k<tag.j E.n->(X k).cur≠some i)->cs[i]?=some (E.val i))(hs:E.WSit ⟨7,9,0,f,none,S⟩ gi g' (w.setCell ⟨E.oa,i,none⟩ (E.val i))):E.Steps Fin Anch gs w sl (E.L+k) t (E.mu tag X τ kV):=by
 obtain⟨w',hw'⟩:∃w',w'=w.setCell ⟨E.oa,i,none⟩ (E.val i):=⟨_,rfl⟩;have hA:Aside E.oa w w':=hw'▸aqj w ⟨E.oa,i,none⟩ (E.val i)
 have zm:w'.heap[E.oa]?=some (.cells (cs.setIfInBounds i (E.val i)) E.Y9):=by
  subst hw';rw[setCell_eq_setRow w E.oa i _ E.Y9 (0,0) _ h1,setRow_heap w E.oa _ _ E.Y9 _ h1]
 rw[<-hw']at hgo hs;have neS:∀b,(E.Rd b\/E.N0<=b)->b≠E.oa:=fun b h=>h.elim (fun h=>(G.rd b h).2.2.2) fun h=>by have:=G.oa;omega
 have live:WgLive E.ty E.wg w':=⟨st,sm,(hA.block _ G.d2).T ay.wg⟩
 have RU:∀k' i',(upd X k ⟨7,9,0,f,none,S⟩ k').cur=some i'↔(k'≠k/\(X k').cur=some i'):=by
  intro k' i'
  by_cases e:k'=k
  ·subst e;rw[upd_same];simp
  ·rw[upd_ne X _ e];simp[e]
 refine workerStep (gq:=gq) G o7 ha hm hc ay hk hg hgo (st':=st) (sm':=sm) (fun tag' e1 e2 e3=>?_) ⟨fun b hb=>hA.block b (neS b (.inl hb)),aqe hA.size.symm,hA.os,fun _=>live⟩
  (fun k' gU _=>⟨fun b hb=>hA.block b (neS b (aO.low k' gU b hb)),aqe hA.size.symm,hA.os,fun _=>live⟩) hs (fun tag' e1 e2=>?_) (by rw[hx];rfl) (fun h=>by simp at h) (fun _=>by simp) (fun _=>by simp) (fun tag' ht _=>?_) (.inl ⟨by rw[hx];simp,?_⟩)
 ·refine⟨fun b h1 h2 h3 h4=>(hA.block b h4).T (ay.old b h1 h2 h3 h4),by rw[hA.size];exact ay.size,hA.os.T ay.os,hA.output.T ay.O,hA.tape.T ay.tape,(hA.block _ G.d2).T ay.wg,?_,fun _=>⟨_,zm,by simp[h2],?_⟩⟩
  ·rw[e3,hA.block _ G.d3];exact ay.ch
  ·rw[e1,e2]
   intro i' V0 hn;by_cases e:i'=i;(·subst e;simp[h2,hiT])
   ·rw[ap4 (fun x=>e x.symm)]
    (refine h3 i' V0 fun k' gU ec=>?_);by_cases e2:k'=k;(·subst e2;rw[hx]at ec;cases ec;exact e rfl);(·exact hn k' gU ((RU k' i').2 ⟨e2,ec⟩))
 ·refine aO.worker G e1 e2 hk (aqe hA.size.symm) (fun b hb=>by rw[hx]at hb;exact hb) (fun b hb=>.inl (by rw[hx];exact hb)) ay.size (fun i hi=>by cases hi) (fun _=>?_) fun op a_=>?_
  ·have:=aO.fuel k hk (by rw[hx];simp)
   rw[hx]at this;exact this
  ·obtain⟨e,he,rfl⟩:=ap9 a_
   simp at he;subst he;refine⟨rfl,by show E.oa<_;rw[hA.size];have:=G.oa;have:=ay.size;omega,by simp[apZ],fun x hx' _=>?_⟩;simp only[apZ,ap_,akk]at hx';subst hx';exact .inr (.inl ⟨⟨k,hk,rfl,.inr ⟨i,rfl,aO.cur k i hk (by rw[hx])⟩⟩,rfl⟩)
 ·refine ap1 ?_ (lX ht)
  exact aU.congr fun i' _=>by
   by_cases e:i'=k;(·subst e;simp[wd,upd_same,hx]);(·simp[wd,upd_ne _ _ e])
 ·rw[gD,upd_same];simp[cnt,wd,hx]
theorem stepWorker(G:E.Geo)(o7:∀g w,Anch g w->g.status=.running)(ha:gs[0]?=some a)(hm:E.fq Fin Anch tag d0 kV a w)(hc:E.Com tag d0 X τ gs w t)(ay:E.Mem tag X st sm w)(aO:E.sI tag X gq w t)(aU:ap6 (tag.j E.n) (wd X) tag.c st sm){g:ane}(hk:k<tag.j E.n)(hg:gs[E.L+k]?=some g)(dI:g.status=.running):E.Steps Fin Anch gs w sl (E.L+k) t (E.mu tag X τ kV):=by
 have hL:=G.L1;obtain⟨g1,As,hs⟩:=hc.wk k hk;obtain rfl:g=g1:=by rw[hg]at As;exact ahK As
 have MM:=hc.deafW k hk;have hrel:=hc.rel k hk;have mQ:=I1 hc hk;have hpe:=Q5 hm;have hVj:Vc (tag.j E.n) (wd X)<=tag.j E.n:=Go.ConcN.Vc_le _ _;have Wp:∀x:WX,X k=x->wd X k=⟨x.stage,0,x.deaf⟩:=fun x e=>by simp[wd,e]
 have book:∀{x x':WX} {g':ane} {w':aah} {es:Array anu} {st' sm':Int} {gi:Tr},X k=x->ant E.P false g w=.go g' w' es->Aside E.wg w w'->WgAt E.ty E.wg w' st' sm'->(∀e∈es,Bk E.wg e)->
   (∀jx e,es[jx]?=some e->(apZ e).touch?=none\/0<ap8 x.deaf (es.extract 0 jx))->E.WSit x' gi g' w'->x'.cP=x.cP->x'.cur=none->x.cur=none->ap8 x.deaf es=x'.deaf->x.stage<=6->x.cW<8->x'.cW<8->
   (∀tag',(tag'=tag\/(tag=.blk/\tag'=.w3))->(aqF E.P g=true->g'.status=.running->tag'≠.blk)->ap6 (tag.j E.n) (wd (upd X k x')) tag'.c st' sm')->
   ((x'.cW<x.cW/\cnt (wd (upd X k x') k)<=cnt (wd X k))\/(x'.cW=x.cW/\x'.stage=x.stage/\Tr.Sub gi (τ (E.L+k))))->E.Steps Fin Anch gs w sl (E.L+k) t (E.mu tag X τ kV):=by
  intro x x' g' w' es st' sm' gi hx hgo hA rL E0 hd ID hf Qh aeq KG h6 h8 h8' CL aE;obtain⟨r,hr⟩:=hrel (by rw[hx];exact h6);exact J1 G o7 ha hm hc ay aO hk hg hgo hA rL (fun e he=>.inl (E0 e he)) ID (by rw[hx];exact hf) Qh (by rw[hx];exact aeq) (by rw[hx];exact KG) (fun _=>⟨r,Go.ConcN.RelBy.book hr (MM.T (by rw[hx])) _ _ E0 hd⟩) h8' (mQ (by rw[hx];exact h8)) CL (by rw[hx];exact aE)
 have same:∀{x':WX},x'.stage=(X k).stage->x'.deaf=(X k).deaf->∀tag',(tag'=tag\/(tag=.blk/\tag'=.w3))->ap6 (tag.j E.n) (wd (upd X k x')) tag'.c st sm:=by
  intro x' e1 e2 tag' ht;refine ap1 ?_ (lX ht)
  exact aU.congr fun i _=>by
   by_cases e:i=k;(·subst e;simp[wd,upd_same,e1]);(·simp[wd,upd_ne _ _ e])
 have idle:∀{x x':WX} {g':ane} {gi:Tr},X k=x->ant E.P false g w=.go g' w #[]->E.WSit x' gi g' w->x'=x->x.cur=none->x.stage<=6->x.cW<8->Tr.Sub gi (τ (E.L+k))->E.Steps Fin Anch gs w sl (E.L+k) t (E.mu tag X τ kV):=by
  intro x x' g' gi hx hgo ID e Qh h6 h8 dR;subst e;exact book hx hgo (.refl _ w) ay.wg sP sP ID rfl Qh Qh rfl h6 h8 h8 (fun tag' ht _=>same (by rw[hx]) (by rw[hx]) tag' ht) (.inr ⟨rfl,rfl,dR⟩)
 generalize hx:X k=x at hs;generalize hτ:τ (E.L+k)=YP at hs;cases hs with
 |recv h=>
  rcases h.cases E.bg with⟨-,hW⟩|⟨gi,S',g',w',es,dR,_,hgo,hd,h'⟩
  ·exact LH G o7 ha hm hc ay aO aU hk hx hg (hW w (bw.R.refl _ _)).step hW
  ·exact El G o7 ha hm hc ay aO aU hk hg hgo (S':=S') (by rw[hx];exact hd) (by rw[hx];exact .recv h') (by rw[hx]) (by rw[hτ];exact dR)
 |again h=>
  rename_i f S g2
  have hW:=h w (bw.R.refl _ _);refine LH (g2:=g2) G o7 ha hm hc ay aO aU hk hx hg ?_ h;rw[stepG_tries]
  have:({g2 with status:=.running}:ane)=g2:=by
   have:=hW.running;obtain⟨f1,c1,s1,d1,o1⟩:=g2;simp only at this;subst this;rfl
  rw[this];exact hW.step
 |Xr h=>exact absurd dI (by simp[aqf])
 |store h=>
  rename_i f i S
  rcases h.cases E.bg with⟨-,hW⟩|⟨gi,S',g',w',es,dR,_,hgo,hd,h'⟩
  ·have Qh:(X k).cur=some i:=by rw[hx]
   have hi:=(aO.U3 i k (aO.cur k i hk Qh)).1
   have hiT:i<E.T:=by have:tag.s E.T<=E.T:=by cases tag<;>simp[aM.s]
                      omega
   obtain⟨cs,h1,h2,h3⟩:=ay.oa oM;obtain⟨_,hgo⟩:=hW w (bw.R.refl _ _);obtain⟨g',hgo,gi,h'⟩:=hgo cs h1 h2;exact Tt G o7 ha hm hc ay aO aU hk hx hg hgo hi hiT h1 h2 h3 (.recv h')
  ·exact El G o7 ha hm hc ay aO aU hk hg hgo (S':=S') (by rw[hx];exact hd) (by rw[hx];exact .store h') (by rw[hx]) (by rw[hτ];exact dR)
 |done h=>
  rename_i f S
  rcases h.cases E.bg with⟨-,hW⟩|⟨gi,S',g',w',es,dR,_,hgo,hd,h'⟩
  ·obtain⟨_,g',hgo,gi,h'⟩:=hW w (bw.R.refl _ _)
   have aiY:=mQ (by rw[hx];simp);refine J1 G o7 ha hm hc ay aO hk hg hgo (.refl _ w) ay.wg (by intro e he;simp at he;subst he;exact .inr rfl) (.k1 (f:=f) h') (by rw[hx]) rfl (by rw[hx]) (by rw[hx];rfl) (fun _=>⟨t.size,Go.ConcN.RelBy.new (by rw[MM,hx]) _ _⟩) sP aiY (fun tag' ht _=>?_) (.inl ⟨by rw[hx];simp,?_⟩)
   ·refine ap1 ?_ (lX ht)
    rw[gD];exact aU.counted hk (by rw[Wp _ hx];simp) (.inl rfl) _ _
   ·rw[gD,upd_same,Wp _ hx];simp[cnt]
  ·exact El G o7 ha hm hc ay aO aU hk hg hgo (S':=S') (by rw[hx];exact hd) (by rw[hx];exact .done h') (by rw[hx]) (by rw[hτ];exact dR)
 |k1 h=>
  rename_i f S
  rcases h.cases E.bg with⟨-,hW⟩|⟨gi,S',g',w',es,dR,_,hgo,⟨rfl,rfl,rfl⟩,h'⟩
  ·obtain⟨_,g',hgo,gi,h'⟩:=hW w (bw.R.refl _ _)
   refine book hx hgo (.refl _ w) ay.wg (by intro e he;simp at he;subst he;exact .inl rfl) (by intro jx e he;exact .inl (by have:=aqs he;simp at this;subst this;rfl)) (.d1 (f:=f) h') rfl rfl rfl rfl sP sP sP (fun tag' ht _=>?_) (.inl ⟨by simp,?_⟩)
   ·refine ap1 ?_ (lX ht)
    rw[gD];exact aU.counted hk (by rw[Wp _ hx];simp) (.inr rfl) _ _
   ·rw[gD,upd_same,Wp _ hx];simp[cnt]
  ·exact idle hx hgo (.k1 h') rfl rfl sP sP (by rw[hτ];exact dR)
 |d1 h=>
  rename_i f S
  rcases h.cases E.bg with⟨-,hW⟩|⟨gi,S',g',w',es,dR,_,hgo,⟨rfl,rfl,rfl⟩,h'⟩
  ·obtain⟨_,kD⟩:=hW w (bw.R.refl _ _)
   (have rL:=ay.wg;have hn:=G.n1;have gX:(wd X k).stage=5:=by rw[Wp _ hx]);(have Qf:cnt (wd X k)=1:=by simp[cnt,gX]);(have hV1:1<=Vc (tag.j E.n) (wd X):=by have:=le_sumTo (f:=fun x=>cnt (wd X x)) hk;simp only[Vc];omega);have bk2:∀e∈#[rd (stA E.wg),wr (stA E.wg)],Bk E.wg e:=by intro e he;simp at he;rcases he with rfl|rfl<;>exact bk_cell _ _ rfl
   have df2:∀jx e,(#[rd (stA E.wg),wr (stA E.wg)]:Array anu)[jx]?=some e->(apZ e).touch?=none\/0<ap8 1 ((#[rd (stA E.wg),wr (stA E.wg)]:Array anu).extract 0 jx):=by
    intro jx e he
    match jx,he with
    |0,_=>exact .inr (by simp[ap8])
    |1,_=>exact .inr (by simp[ap8,rd])
    |jx+2,he=>simp at he
   have opq:OpenSt (tag.j E.n) (wd X)->OpenSt (tag.j E.n) (upd (wd X) k ⟨1,0,1⟩):=fun h a ha=>by
    by_cases e:a=k;(·subst e;rw[upd_same];simp);(·rw[upd_ne _ _ e];exact h a ha)
   have aE:∀x':WX,x'.cW<5->x'.stage<5->(x'.cW<5/\cnt (wd (upd X k x') k)<=cnt (wd X k)):=fun x' h1 h2=>⟨h1,by
    rw[gD,upd_same];show(if 5<=x'.stage then 1 else 0)<=_
    rw[if_neg oM];exact Nat.zero_le _⟩
   have hVq:=Vc_upd (wd X) (⟨1,0,1⟩:WD) hk;have c0:cnt (⟨1,0,1⟩:WD)=0:=rfl;generalize hct:tag.c=ct at aU hpe;cases aU with
   |opn h1 h2 h3=>
    (obtain⟨v,hv⟩:∃v,Vc (tag.j E.n) (wd X)+pend ct=v+1:=⟨Vc (tag.j E.n) (wd X)+pend ct - 1,by omega⟩;rw[hv]at rL;have MR:WgAt E.ty E.wg w (((v:Nat)+1)*KK+((0:Nat):Int)) 0:=by simpa using rL);(obtain⟨g',hgo,_,hq⟩:=kD v 0 oM oM MR;obtain⟨q,hq⟩:=hq oM;have Y6:Vc (tag.j E.n) (upd (wd X) k ⟨1,0,1⟩)+pend ct=v:=by omega);(refine book hx hgo (aqj w (stA E.wg) _) (rL.setSt _) bk2 df2 (.quit (f:=f) (S:=S) hq) rfl rfl rfl rfl sP sP sP (fun tag' ht _=>ap1 ?_ (hct▸lX ht)) (.inl (aE _ sP sP));have e:((v:Nat):Int)*KK+((0:Nat):Int)=((Vc (tag.j E.n) (upd (wd X) k ⟨1,0,1⟩)+pend ct:Nat):Int)*KK:=by rw[Y6];simp);rw[e,gD];(show ap6 (tag.j E.n) (upd (wd X) k ⟨1,0,1⟩) ct _ 0);exact .opn h1 (opq h2) (fun vs ev=>by have:=h3 vs ev;omega)
   |reg h1 h2 h3=>
    (obtain⟨v,hv⟩:∃v,Vc (tag.j E.n) (wd X)=v+1:=⟨Vc (tag.j E.n) (wd X) - 1,by omega⟩;rw[hv]at rL;have MR:WgAt E.ty E.wg w (((v:Nat)+1)*KK+((1:Nat):Int)) 0:=by simpa using rL);(obtain⟨g',hgo,hl,hq⟩:=kD v 1 oM (by have:=ajo E.n tag;omega) MR);by_cases hv0:v=0
    ·subst hv0
     obtain⟨gi,h'⟩:=hl ⟨rfl,rfl⟩;refine book hx hgo (aqj w (stA E.wg) _) (rL.setSt _) bk2 df2 (.d2 (f:=f) h') rfl rfl rfl rfl sP sP sP (fun tag' ht _=>ap1 ?_ (hct▸lX ht)) (.inl (aE _ sP sP))
     have E4:∀a,a<tag.j E.n->a≠k->(wd X a).stage=1:=fun a ha e=>by
      have c0:=others_uncounted hk hv Qf a ha e;have:=h2 a ha;simp only[cnt]at c0;split at c0<;>omega
     rw[gD];have:=aqv (j:=tag.j E.n) (D:=upd (wd X) k ⟨4,0,1⟩) (tag:=ct) k h1 hk (by rw[upd_same];simp) (fun a ha e=>by rw[upd_ne _ _ e];exact E4 a ha e);rw[upd_same]at this;simpa using this
    ·obtain⟨q,hq⟩:=hq oM
     (have Y6:Vc (tag.j E.n) (upd (wd X) k ⟨1,0,1⟩)=v:=by omega);(refine book hx hgo (aqj w (stA E.wg) _) (rL.setSt _) bk2 df2 (.quit (f:=f) (S:=S) hq) rfl rfl rfl rfl sP sP sP (fun tag' ht _=>ap1 ?_ (hct▸lX ht)) (.inl (aE _ sP sP));have e:((v:Nat):Int)*KK+((1:Nat):Int)=((Vc (tag.j E.n) (upd (wd X) k ⟨1,0,1⟩):Nat):Int)*KK+1:=by rw[Y6];simp);rw[e,gD];(show ap6 (tag.j E.n) (upd (wd X) k ⟨1,0,1⟩) ct _ 0);exact .reg h1 (opq h2) oM
   |last L _ h2 h3 h4=>
    by_cases e:k=L;(·subst e;omega);(·have:=h4 k hk e;omega)
   |sema h2=>have:=h2 k hk;omega
   |fin _ h2=>have:=h2 k hk;omega
  ·exact idle hx hgo (.d1 h') rfl rfl sP sP (by rw[hτ];exact dR)
 |d2 h=>
  rename_i f S
  rcases h.cases E.bg with⟨-,hW⟩|⟨gi,S',g',w',es,dR,_,hgo,⟨rfl,rfl,rfl⟩,h'⟩
  ·obtain⟨_,hy⟩:=hW w (bw.R.refl _ _)
   (have gX:(wd X k).stage=4:=by rw[Wp _ hx]);obtain⟨hW3,E4,rfl,rfl⟩:=aU.isLast hk oM;have rL:=ay.wg;simp only[gX]at rL;obtain⟨g',hgo,gi,h'⟩:=hy (by simpa using rL)
   refine book hx hgo (.refl _ w) rL (by intro e he;simp at he;subst he;exact bk_cell _ _ rfl) (by intro jx e he;match jx,he with|0,_=>exact .inr (by simp[ap8])|jx+1,he=>simp at he) (.d3 (f:=f) h') rfl rfl rfl rfl sP sP sP (fun tag' ht _=>ap1 ?_ (lX ht))
    (.inl ⟨by simp,by rw[gD,upd_same,Wp _ hx];simp[cnt]⟩)
   rw[gD];have:=aqv (j:=tag.j E.n) (D:=upd (wd X) k ⟨3,0,1⟩) (tag:=tag.c) k hW3 hk (by rw[upd_same];simp) (fun a ha e=>by rw[upd_ne _ _ e];exact E4 a ha e);rw[upd_same]at this;simpa using this
  ·exact idle hx hgo (.d2 h') rfl rfl sP sP (by rw[hτ];exact dR)
 |d3 h=>
  rename_i f S
  rcases h.cases E.bg with⟨-,hW⟩|⟨gi,S',g',w',es,dR,_,hgo,⟨rfl,rfl,rfl⟩,h'⟩
  ·obtain⟨_,hy⟩:=hW w (bw.R.refl _ _)
   (have gX:(wd X k).stage=3:=by rw[Wp _ hx]);obtain⟨hW3,E4,rfl,rfl⟩:=aU.isLast hk oM;have rL:=ay.wg;simp only[gX]at rL;obtain⟨g',hgo,gi,h'⟩:=hy (by simpa using rL)
   refine book hx hgo (aqj w (stA E.wg) _) (rL.setSt 0) (by intro e he;simp at he;subst he;exact bk_cell _ _ rfl) (by intro jx e he;match jx,he with|0,_=>exact .inr (by simp[ap8])|jx+1,he=>simp at he) (.d4 (f:=f) h') rfl rfl rfl rfl sP sP sP (fun tag' ht _=>ap1 ?_ (lX ht))
    (.inl ⟨by simp,by rw[gD,upd_same,Wp _ hx];simp[cnt]⟩)
   rw[gD];have:=aqv (j:=tag.j E.n) (D:=upd (wd X) k ⟨2,0,1⟩) (tag:=tag.c) k hW3 hk (by rw[upd_same];simp) (fun a ha e=>by rw[upd_ne _ _ e];exact E4 a ha e);rw[upd_same]at this;simpa using this
  ·exact idle hx hgo (.d3 h') rfl rfl sP sP (by rw[hτ];exact dR)
 |d4 h=>
  rename_i f S
  rcases h.cases E.bg with⟨-,hW⟩|⟨gi,S',g',w',es,dR,_,hgo,⟨rfl,rfl,rfl⟩,h'⟩
  ·obtain⟨_,hmw,hy⟩:=hW w (bw.R.refl _ _)
   (have gX:(wd X k).stage=2:=by rw[Wp _ hx]);obtain⟨hW3,E4,rfl,rfl⟩:=aU.isLast hk oM;have rL:=ay.wg;simp only[gX]at rL;obtain⟨g',hgo,q,hq⟩:=hy (by simpa using rL)
   have aiU:g'.status=.running:=by
    cases q with
    |zero=>exact absurd hq.2 dC
    |succ q=>exact hq.elim (fun x=>absurd x.2 dC) (fun x=>x.1)
   refine book hx hgo (aqj w (smA E.wg) _) (rL.setSm 1) (es:=aqk (smA E.wg)) ?_ ?_ (.quit (f:=f) (S:=S) hq) rfl rfl rfl (by simp[ap8,aqk]) sP sP sP ?_ (.inl ⟨by simp,by rw[gD,upd_same,Wp _ hx];simp[cnt]⟩)
   ·intro e he
    (simp[aqk]at he;rcases he with rfl|rfl|rfl|rfl);(·exact .inl rfl);(·exact bk_cell _ _ rfl);(·exact bk_cell _ _ rfl);(·exact .inr (.inl rfl))
   ·intro jx e he
    match jx,he with
    |0,he=>simp[aqk]at he;subst he;exact .inl rfl
    |1,_=>exact .inr (by simp[ap8,aqk])
    |2,_=>exact .inr (by simp[ap8,aqk])
    |3,he=>simp[aqk]at he;subst he;exact .inl rfl
    |jx+4,he=>simp[aqk]at he
   ·intro tag' ht hw
    have hnb:=hw hmw aiU
    have e3:tag'=.w3:=by
     (rcases ht with rfl|⟨_,rfl⟩);(·cases tag'<;>first|rfl|exact hW3.elim|exact absurd rfl hnb)
     ·rfl
    subst e3;simp only[if_true];rw[gD]
    exact .sema fun a ha=>by
     by_cases e:a=k;(·subst e;rw[upd_same]);(·rw[upd_ne _ _ e];exact E4 a ha e)
  ·exact idle hx hgo (.d4 h') rfl rfl sP sP (by rw[hτ];exact dR)
 |quit h=>
  rename_i f q dd S
  cases q with
  |zero=>rw[h.1]at dI;cases dI
  |succ q=>
   rcases h with⟨hf,_⟩|⟨_,g',es,CM,qF,hq⟩
   ·rw[hf]at dI;cases dI
   ·have E0:∀e∈es,Bk E.wg e:=fun e he=>bk_of_mute (CM e he)
    have nJ:∀jx e,es[jx]?=some e->(apZ e).touch?=none\/0<ap8 dd (es.extract 0 jx):=fun jx e he=>.inl (by
     (rcases bk_of_mute (Wg:=E.wg) (CM e (aqs he))with h1|h1|⟨a,wr,rfl,_⟩);(·rw[ofEvent_loc_mark h1];rfl);(·rw[ofEvent_loc_mark h1];rfl)
     ·have:=CM _ (aqs he);simp[Event.mute]at this)
    refine book hx (qF w) (.refl _ w) ay.wg E0 nJ (.quit (f:=f) (S:=S) hq) rfl rfl rfl rfl sP sP sP (fun tag' ht _=>?_) (.inr ⟨rfl,rfl,by rw[hτ];exact Tr.QB q⟩);refine ap1 ?_ (lX ht)
    exact aU.congr fun i _=>by
     by_cases e:i=k;(·subst e;simp[wd,upd_same,hx]);(·simp[wd,upd_ne _ _ e])
end Go.gT
namespace Go.dO
open Go.Proofs.Tryz
open Go.Proofs.YtjligkmjlenofaaGreatDoor(kR oM dC aS kS zH sP sO mL aP nR bR BL)
open Go
variable{v w v' w':aai}{a b:Nat}{d t:aat}{x y:Array aai}{k:anB}{f f':Frame}
section
variable{P:ag0}{F:ani->Prop}{C:anB->Prop}{α β γ δ:Type}{A:Ren->α->β->Prop}{B:Ren->γ->δ->Prop}{r:Ren}
def kindOf:aai->Nat
 | .int .. =>1
 | .float .. =>2
 | .complex .. =>3
 | .string _=>4
 | .pointer _=>5
 |_=>0
def served(a b:Nat):Bool:=a != 0&&b != 0&&(a == b || (a == 1&&b == 5) || (a == 5&&b == 1))
theorem VR.kindOf(h:VR F r v w):dO.kindOf v=dO.kindOf w:=by cases h<;>rfl
theorem PV(t:aat)(x y:aai)(h:served (kindOf x) (kindOf y)=false\/kindOf x=5\/kindOf y=5):binOp .eql t x y=(do pure (.bool (<-aqH t x y))):=by
 cases x<;>cases y<;>first|rfl|(exfalso;simp[served,dO.kindOf]at h;done)
theorem PW(t:aat)(x y:aai)(h:served (kindOf x) (kindOf y)=false\/kindOf x=5\/kindOf y=5):binOp .neq t x y=(do pure (.bool (!(<-aqH t x y)))):=by
 cases x<;>cases y<;>first|rfl|(exfalso;simp[served,dO.kindOf]at h;done)
theorem ZH(op:BinOp)(t:aat)(x y:aai)(n:op≠.eql/\op≠.neq)(h:served (kindOf x) (kindOf y)=false):nD (binOp op t x y):=by
 cases x with
 |pointer o=>
  cases o<;>cases y<;>first
   |(exfalso;simp[served,dO.kindOf]at h;done)
   |(cases op<;>first|exact nD.stuck _|exact nD.unsupported _ sP|exact absurd rfl n.1|exact absurd rfl n.2)
 |_=>
  cases y with
  |pointer o=>
   cases o<;>first
    |(exfalso;simp[served,dO.kindOf]at h;done)
    |(cases op<;>first|exact nD.stuck _|exact nD.unsupported _ sP|exact absurd rfl n.1|exact absurd rfl n.2)
  |_=>first
   |(exfalso;simp[served,dO.kindOf]at h;done)
   |(cases op<;>first|exact nD.stuck _|exact nD.unsupported _ sP|exact absurd rfl n.1|exact absurd rfl n.2)
theorem iX(t:aat)(hl:r.aR=P.globals.size)(h:VR F r v v')(k:VR F r w w'):SR P F C (dB F) r (do pure (.bool (<-aqH t v w))) (do pure (.bool (<-aqH t v' w'))):=
 (Dt t hl h k).ai fun _ b _=>.pure' (.bool b)
theorem iY(t:aat)(hl:r.aR=P.globals.size)(h:VR F r v v')(k:VR F r w w'):SR P F C (dB F) r (do pure (.bool (!(<-aqH t v w)))) (do pure (.bool (!(<-aqH t v' w')))):=
 (Dt t hl h k).ai fun _ _ _=>.pure' (.bool _)
theorem XX(op:BinOp)(t:aat)(hl:r.aR=P.globals.size)(h:VR F r v v')(k:VR F r w w'):SR P F C (dB F) r (binOp op t v w) (binOp op t v' w'):=by
 by_cases hs:served (kindOf v) (kindOf w)=false
 ·have ID:served (kindOf v') (kindOf w')=false:=by rw[<-h.kindOf,<-k.kindOf];exact hs
  by_cases e:op=.eql
  ·subst e;rw[PV _ _ _ (.inl hs),PV _ _ _ (.inl ID)];exact iX t hl h k
  by_cases e':op=.neq
  ·subst e';rw[PW _ _ _ (.inl hs),PW _ _ _ (.inl ID)];exact iY t hl h k
  exact .bad (ZH op t v w ⟨e,e'⟩ hs)
 ·cases h with
  |int j n=>
   cases k with
   |int i m=>
    cases op with
    |shl=>exact Me .shl j n i m hl
    |shr=>exact Me .shr j n i m hl
    |_=>first
     |exact .ite (fun _=>ah _ _) (fun _=>AI _ _ _ _)
     |exact .ite (fun _=>ah _ _) (fun _=>Tg _ _ _ _ hl)
     |exact .ite (fun _=>ah _ _) (fun _=>Dy _ _ _ _)
     |exact .ite (fun _=>ah _ _) (fun _=>Tf _ _ _)
   |ptr b=>
    have hi:VR F r (.int j n) (.int j n):=.int j n;have hp:=VR.ptr (F:=F) b;cases op with
    |add=>exact gz t hp hi
    |and=>exact(dN b).then fun t p q l e=>wU _ e.1 _
    |eql=>exact iX t hl hi hp
    |neq=>exact iY t hl hi hp
    |_=>exact aA _ sP _
   |gP=>
    have hi:VR F r (.int j n) (.int j n):=.int j n;have hp:VR F r (.pointer none) (.pointer none):=.gP;cases op with
    |add=>exact gz t hp hi
    |eql=>exact iX t hl hi hp
    |neq=>exact iY t hl hi hp
    |_=>exact aA _ sP _
   |_=>exact absurd rfl hs
  |string s=>
   cases k with
   |string s'=>
    (have e:binOp op t (.string s) (.string s')=Op.stringOp op s s':=by cases op<;>rfl);rw[e];exact uN op s s'
   |_=>exact absurd rfl hs
  |ptr a=>
   have hp:=VR.ptr (F:=F) a;cases k with
   |int i m=>
    have hi:VR F r (.int i m) (.int i m):=.int i m;cases op with
    |add=>exact .cD fun d hd=>by cases d<;>first|exact sW t hp hi|exact gz t hp hi
    |sub=>exact gz t hp (.int i (-m))
    |rem=>exact(dN a).then fun t p q l e=>wU _ e.1 _
    |and=>exact(dN a).then fun t p q l e=>wU _ e.1 _
    |eql=>exact iX t hl hp hi
    |neq=>exact iY t hl hp hi
    |_=>exact aA _ sP _
   |ptr b=>
    have hq:=VR.ptr (F:=F) b
    have two:∀(f:akr->akr->Sem aai) (g:akr->akr->Sem aai),(∀q x x' y y',r.le q->AR q x x'->AR q y y'->SR P F C (dB F) q (f x y) (g x' y'))->
      SR P F C (dB F) r (do f (<-apU _).1 (<-apU _).1) (do g (<-apU _).1 (<-apU _).1):=fun f g hfg=>
     (dN a).then fun t1 p q l e=>(dN (b.mono l)).then fun t2 p' q' l2 e'=>hfg t2 _ _ _ _ (Ren.le_trans l l2) (e.1.mono l2) e'.1
    cases op with
    |sub=>exact two _ _ fun q x x' y y' l h k=>OK _ (l.aR hl) h k
    |lss=>exact two _ _ fun q x x' y y' l h k=>sj _ (l.aR hl) h k
    |leq=>exact two _ _ fun q x x' y y' l h k=>sj _ (l.aR hl) h k
    |gtr=>exact two _ _ fun q x x' y y' l h k=>sj _ (l.aR hl) h k
    |geq=>exact two _ _ fun q x x' y y' l h k=>sj _ (l.aR hl) h k
    |eql=>exact iX t hl hp hq
    |neq=>exact iY t hl hp hq
    |_=>exact aA _ sP _
   |gP=>
    have hq:VR F r (.pointer none) (.pointer none):=.gP;cases op with
    |eql=>exact iX t hl hp hq
    |neq=>exact iY t hl hp hq
    |_=>exact aA _ sP _
   |_=>exact absurd rfl hs
  |gP=>
   have hp:VR F r (.pointer none) (.pointer none):=.gP;cases k with
   |int i m=>
    have hi:VR F r (.int i m) (.int i m):=.int i m;cases op with
    |add=>exact .cD fun d hd=>by cases d<;>first|exact sW t hp hi|exact gz t hp hi
    |sub=>exact gz t hp (.int i (-m))
    |eql=>exact iX t hl hp hi
    |neq=>exact iY t hl hp hi
    |_=>exact aA _ sP _
   |ptr b=>
    have hq:=VR.ptr (F:=F) b;cases op with
    |eql=>exact iX t hl hp hq
    |neq=>exact iY t hl hp hq
    |_=>exact aA _ sP _
   |gP=>
    cases op with
    |eql=>exact iX t hl hp hp
    |neq=>exact iY t hl hp hp
    |_=>exact aA _ sP _
   |_=>exact absurd rfl hs
  |_=>exact absurd rfl hs
end
section
variable{P:ag0}{F:ani->Prop}{C:anB->Prop}{α β γ δ:Type}{A:Ren->α->β->Prop}{B:Ren->γ->δ->Prop}{r:Ren}
def uv(p:ag0):(depth:Nat)->aat->Bool
 |0,_=>true
 |d+1,t=>
  match p.underlying t with
  |some (.struct fs)=>fs.all fun f=>uv p d f.type
  |some (.array _ e)=>uv p d e
  |some (.float _)|some (.complex _)=>false
  |_=>true
theorem qb(p:ag0):∀(d:Nat) (t:aat) (o:Nat) (v:aai),uv p d t=true->ao5 p d t o=some v->vt v=true
 |0,t,o,v,h,k=>by cases k
 |d+1,t,o,v,h,k=>by
  unfold ao5 at k;unfold uv at h;cases e:p.underlying t with
  |none=>rw[e]at k;cases k
  |some u=>
   rw[e]at k h;cases u with
   |struct fs=>
    simp only[]at k h;obtain⟨f,hf,hk⟩:=Array.exists_of_findSome?_eq_some k;split at hk;(·exact qb p d f.type _ v (ap3.1 h f hf) hk);(·cases hk)
   |array n el=>
    simp only[]at k h;split at k;(·cases k);(·exact qb p d el _ v h k)
   |bool=>simp only[]at k;split at k<;>cases k;rfl
   |int j=>simp only[]at k;split at k<;>cases k;rfl
   |float j=>cases h
   |complex j=>cases h
   |_=>cases k
theorem zX{a b:akr}(h:AR r a b)(hn:r.eO a.block=none):SR P F C iq r (markStringish a) (markStringish b):=SR.sJ h.block (kf:=fun ty n y z=>by rw[hn]at y;cases y) fun s _=>by
 cases s with
 |none=>exact .pure' rfl
 |some s=>obtain⟨e,n⟩:=s;exact GW (h.at n none) 1 (.inl hn)
theorem bW.bytes(s:ByteArray):bW F r (s.data.map fun b=>Value.int .u8 b.toNat) (s.data.map fun b=>Value.int .u8 b.toNat):=.map _ fun _ _=>.int _ _
theorem zY(e:aat)(s:ByteArray):SR P F C (dB F) r (aqw e s) (aqw e s):=by
 unfold aqw;refine(fo _).ai fun t cap l=>?_
 refine(OW e ((bW.bytes s).append (.replicate _ (.int _ _)))).then fun q a b l k=>?_
 obtain⟨k,hn⟩:=k;exact(zX k hn).ai fun t _ l2=>.pure' (.slice _ _ (k.mono l2))
theorem zU(h:VR F r v w):SR P F C (dB F) r (aqh v) (aqh w):=by
 unfold aqh;cases h with
 |nj l c=>exact .pure' (.string _)
 |slice n c k=>
  refine(sC k n).og fun t x y l hx=>?_
  obtain⟨x⟩:=x;obtain⟨y⟩:=y
  replace hx:iC (VR F t) x y:=hx.toList
  dsimp only;simp only[apu];generalize ByteArray.empty=s0;clear k l
  induction hx generalizing s0 with
  |nil=>exact .pure' (.string _)
  | @cons a b x y e _ ih=>
    rw[apI,apI];cases e with
    |int k m=>
     cases k with
     |u8=>exact ih (s0.push (UInt8.ofNat m.toNat))
     |_=>exact .bad ((((nD.stuck _).then _).then _).then _)
    |_=>exact .bad ((((nD.stuck _).then _).then _).then _)
 |_=>exact ah _ _
theorem uL(n:Int):SR P F C (dB F) r (Conv.intToString n) (Conv.intToString n):=.pure' (.string _)
theorem Ma(k:IntKind)(n:Int):SR P F C (dB F) r (Conv.intToInt k n) (Conv.intToInt k n):=.pure' (.int _ _)
theorem OM(h:r a b):SR P F C iq r (cellsIn a) (cellsIn b):=by
 unfold cellsIn;refine SR.sJ h (fun s hn=>?_) fun ty n y z=>.o6 h (by simp[y]) fun c t e=>.pure' ?_
 ·cases s with
  |some s=>obtain⟨e,n⟩:=s;exact .pure' rfl
  |none=>
   (refine SR.Ni h hn fun o o' k e=>?_);cases k<;>first|exact .pure' rfl|cases e
 ·rw[y]at e;cases e;rfl
theorem GY{a b:akr}(h:AR r a b):SR P F C Zb r (aq5 a) (aq5 b):=by
 unfold aq5;refine(vE h.block).then fun t x y l e=>?_
 rcases e with⟨rfl,rfl⟩|⟨c,d,u,rfl,rfl,hc⟩
 ·exact .pure' (h.mono l)
 ·rw[h.off,h.spot]
  cases hc with|mk co cs ML=>
  have hc:AR t ⟨_,co,cs⟩ ⟨_,co,cs⟩:=.mk co cs ML;dsimp only;refine .ite (fun _=>.pure' hc) fun _=>.ite (fun _=>cm _ sP _ _) fun _=>.f_ ?_
  cases byteOfCell P P.depth u b.off with
  |none=>exact aA _ sP _
  |some be=>
   refine SR.sJ hc.block (fun s _=>?_) fun ty n y z=>aA _ sP _
   cases s with
   |none=>exact aA _ sP _
   |some s=>
    obtain⟨e,cells⟩:=s;refine .ite (fun _=>cm _ sP _ _) fun _=>?_
    cases cellAtBytes P P.depth e (cells / P.cellsOf e) co be with
    |none=>exact aA _ sP _
    |some o=>
     refine .pure' ?_;cases hc with|mk _ s x=>exact .mk _ _ x
def Zq(P:ag0)(t:aat):Prop:=∀o v,ao5 P P.depth t o=some v->vt v=true
theorem DF{s:aat}(hs:P.underlying s=some (.pointer t))(hd:P.underlying d=some .unsafePointer)(nf:Zq P t)(h:VR F r v w):SR P F C (dB F) r (aqa s d v) (aqa s d w):=by
 unfold aqa;refine .cD fun x hx=>?_
 rw[hs]at hx;cases hx;refine .cD fun x hx=>?_
 rw[hd]at hx;cases hx;cases h with
 |gP=>exact .pure' .gP
 |ptr a=>
  refine(GY a).gr fun t1 x y l k=>(OM k.block).ai fun t2 n l2=>(bN _).ai fun t3 m l3=>?_
  have k':=(k.mono l2).mono l3;rw[k'.off,k'.spot];refine .ite (fun _=>(iZ (.view t nf k')).then fun t4 a b l4 e=>.pure' (.ptr (.mk _ _ e))) fun _=>.pure' (.ptr k')
 |_=>exact ah _ _
theorem DL{s:aat}(hs:P.underlying s=some .unsafePointer)(hd:P.underlying d=some (.pointer t))(nf:Zq P t)(h:VR F r v w):SR P F C (dB F) r (aqa s d v) (aqa s d w):=by
 unfold aqa;refine .cD fun x hx=>?_
 rw[hs]at hx;cases hx;refine .cD fun x hx=>?_
 rw[hd]at hx;cases hx;cases h with
 |gP=>exact .pure' .gP
 |ptr a=>
  refine(GY a).gr fun t1 x y l k=>(bN _).ai fun t2 n l2=>?_
  have k2:=k.mono l2
  have last:∀{q:Ren},t2.le q->SR P F C (dB F) q (do
    match<-aoA x.block with
    |some (e,_)=>
     if (<-program).holdsStoodIn (<-program).depth e then unsupported (.unsafePointer "memory that holds a struct of a package that the model stands in for, seen as another type")
    |none=>unsupported (.unsafePointer "memory that has no shape (a package-level variable that still waits for its initialiser), seen as another type")
    pure (.pointer (some ⟨<-apk (.view x t),0,none⟩))) (do
    match<-aoA y.block with
    |some (e,_)=>
     if (<-program).holdsStoodIn (<-program).depth e then unsupported (.unsafePointer "memory that holds a struct of a package that the model stands in for, seen as another type")
    |none=>unsupported (.unsafePointer "memory that has no shape (a package-level variable that still waits for its initialiser), seen as another type")
    pure (.pointer (some ⟨<-apk (.view y t),0,none⟩))):=by
   intro q l;refine SR.sJ (k2.mono l).block (fun s _=>?_) fun ty n y z=>cm _ sP _ _
   cases s with
   |none=>exact cm _ sP _ _
   |some s=>
    obtain⟨e,c⟩:=s;refine .f_ (.f_ (.ite (fun _=>cm _ sP _ _) fun _=>?_));exact(iZ (.view t nf (k2.mono l))).then fun t4 a b l4 e=>.pure' (.ptr (.mk _ _ e))
  refine(uP k2 _ _).then fun t3 b b' l e=>?_
  rcases e with rfl|⟨hf,rfl⟩
  ·exact .ite (fun _=>.pure' (.ptr (k2.mono l))) fun _=>last l
  ·dsimp only
   by_cases z:n=0;(·rw[if_pos (by simp[z]),if_pos (by simp[z])];exact .pure' (.ptr (k2.mono l)))
   ·rw[if_neg (by simp[z])]
    exact SR.ahA (k2.mono l).block (by rw[<-l.eO];exact hf) (cm _ sP _ _)
 |_=>exact ah _ _
end
section
variable{P:ag0}{F:ani->Prop}{C:anB->Prop}{α β γ δ:Type}{A:Ren->α->β->Prop}{B:Ren->γ->δ->Prop}{r:Ren}
theorem Dz(h:VR F r v w):SR P F C iq r (arl v) (arl w):=by
 cases h<;>first|exact .pure' rfl|exact ah _ _
theorem jo(s n:Nat)(h:VR F r v w):SR P F C (UK F) r (akh s n v) (akh s n w):=by
 cases h with
 |slice l c k=>exact sC k _
 |nj l c=>exact .pure' .nil
 |string s=>exact .pure' (.map _ fun _ _=>.int _ _)
 |_=>exact ah _ _
theorem bW.zeroCells(n:Nat)(h:bW F r x y):bW F r (ahi x n) (ahi y n):=by
 unfold ahi;rw[h.1];have:=h.Q3 (n*y.size);simpa[h.1]using this
theorem afU(ts:Array aat)(t:aat)(h:bW F r x y):SR P F C (dB F) r (aqY ts t x) (aqY ts t y):=by
 unfold aqY;rcases h.get? 0 with⟨e,e'⟩|⟨v,w,e,e',k⟩
 ·rw[e,e'];cases ts[0]?<;>exact ah _ _
 ·rw[e,e']
  cases ts[0]? with
  |none=>exact ah _ _
  |some t=>
   refine .cD fun d hd=>?_
   cases d with
   |string=>cases k<;>first|exact .pure' (.int _ _)|exact ah _ _
   |array n e=>cases k<;>exact .pure' (.int _ _)
   |pointer e=>
    have key:SR P F C (dB F) r (do
      let .array n _<-underlying e|stuck "len: pointer to array expected"
      pure (goInt n)) (do
      let .array n _<-underlying e|stuck "len: pointer to array expected"
      pure (goInt n)):=
     .cD fun d hd=>by cases d<;>first|exact .pure' (.int _ _)|exact ah _ _
    cases k<;>exact key
   |slice e=>cases k<;>first|exact .pure' (.int _ _)|exact ah _ _
   |map kk e=>
    cases k with
    |wM=>exact .pure' (.int _ _)
    |map a=>
     refine SR.Cf a (fun _ _=>by first|exact .stuck _|exact(nD.stuck _).then _) fun nf o o' k e=>?_
     have l2:=Ren.le_refl r;cases k with
     |map c es=>rename_i x y;exact .pure' (by have:=es.length;simp only[ahh]at this;rw[this];exact .int _ _)
     |cells t f c=>cases e
     |_=>exact ah _ _
    |_=>exact ah _ _
   |chan dd e=>cases k<;>first|exact .pure' (.int _ _)|exact ah _ _
   |_=>cases k<;>exact ah _ _
theorem afT(ts:Array aat)(t:aat)(h:bW F r x y):SR P F C (dB F) r (aqZ ts t x) (aqZ ts t y):=by
 unfold aqZ;rcases h.get? 0 with⟨e,e'⟩|⟨v,w,e,e',k⟩
 ·rw[e,e'];cases ts[0]?<;>exact ah _ _
 ·rw[e,e']
  cases ts[0]? with
  |none=>exact ah _ _
  |some t=>
   refine .cD fun d hd=>?_
   cases d with
   |array n e=>cases k<;>exact .pure' (.int _ _)
   |pointer e=>
    have key:SR P F C (dB F) r (do
      let .array n _<-underlying e|stuck "cap: pointer to array expected"
      pure (goInt n)) (do
      let .array n _<-underlying e|stuck "cap: pointer to array expected"
      pure (goInt n)):=
     .cD fun d hd=>by cases d<;>first|exact .pure' (.int _ _)|exact ah _ _
    cases k<;>exact key
   |slice e=>cases k<;>first|exact .pure' (.int _ _)|exact ah _ _
   |chan dd e=>cases k<;>first|exact .pure' (.int _ _)|exact ah _ _
   |_=>cases k<;>exact ah _ _
theorem XZ(ts:Array aat)(t:aat)(hz:∀u e,ts[0]?=some u->P.underlying u=some (.slice e)->lE P F e)(h:bW F r x y):SR P F C (dB F) r (aj8 ts t x) (aj8 ts t y):=by
 unfold aj8;have fin:∀q,SR P F C (dB F) q (pure (.tuple #[]):Sem aai) (pure (.tuple #[])):=fun q=>.pure' (.tuple' .nil)
 rcases h.get? 0 with⟨e,e'⟩|⟨v,w,e,e',k⟩
 ·rw[e,e'];cases ts[0]?<;>exact ah _ _
 ·rw[e,e']
  cases ht:ts[0]? with
  |none=>exact ah _ _
  |some u=>
   refine .cD fun d hd=>?_
   cases k with
   |wM=>cases d<;>exact .bP (fin _)
   |nj l c=>cases d<;>exact .bP (fin _)
   | @map ma mb a=>
     have key:SR P F C (dB F) r (do
       let .map _ clock<-Go.getObj ma|stuck "clear: map expected"
       Go.setObj ma (.map #[] clock)
       pure (.tuple #[])) (do
       let .map _ clock<-Go.getObj mb|stuck "clear: map expected"
       Go.setObj mb (.map #[] clock)
       pure (.tuple #[])):=by
      refine SR.Cf a (fun _ _=>by first|exact .stuck _|exact(nD.stuck _).then _) fun nf o o' k e=>?_
      have l2:=Ren.le_refl r;cases k with
      |map c es=>exact(jN (l2.to a) nf (.map c .nil) rfl).ai fun t _ l=>fin _
      |cells t f c=>cases e
      |_=>exact ah _ _
     cases d<;>exact key
   | @slice a b n c ka=>
     cases n with
     |zero=>cases d<;>exact .bP (fin _)
     |succ n=>
      cases d with
      |slice el=>exact(me (hz u el ht hd)).dr fun t2 v w l kz=>(l_ 0 (ka.mono l) (kz.cells.zeroCells (n+1)).toList).ai fun t3 _ l3=>fin _
      |_=>exact dL _ _ _
   |_=>cases d<;>exact dL _ _ _
theorem abI(ts:Array aat)(t:aat)(h:bW F r x y):SR P F C (dB F) r (aip ts t x) (aip ts t y):=by
 unfold aip;rcases h.get? 0 with⟨e,e'⟩|⟨v,w,e,e',k⟩
 ·rw[e,e'];cases ts[0]?<;>exact ah _ _
 rcases h.get? 1 with⟨f,f'⟩|⟨v1,w1,f,f',k1⟩
 ·rw[f,f',e,e'];cases ts[0]?<;>exact ah _ _
 rw[f,f',e,e'];cases ts[0]? with
 |none=>exact ah _ _
 |some u=>
  refine .cD fun d hd=>?_
  cases d with
  |slice el=>
   cases k with
   |slice n c ka=>
    (refine(Dz k1).ai fun q m l=>(bN _).ai fun q2 z l2=>(jo _ _ ((k1.mono l).mono l2)).og fun q3 x y l3 kc=>?_);exact(l_ 0 (((ka.mono l).mono l2).mono l3) kc.toList).ai fun t _ l=>.pure' (.int _ _)
   |nj n c=>
    exact(Dz k1).ai fun q m l=>(bN _).ai fun q2 z l2=>(jo _ _ ((k1.mono l).mono l2)).og fun q3 x y l3 kc=>.pure' (.int _ _)
   |_=>exact ah _ _
  |_=>exact ah _ _
def OaR(r:Ren)(a b:Option akr):Prop:=(a=none/\b=none)\/∃x y,a=some x/\b=some y/\AR r x y
theorem OaR.mono{s:Ren}(l:r.le s){a b:Option akr}(h:OaR r a b):OaR s a b:=by
 rcases h with h|⟨x,y,e,f,k⟩
 ·exact .inl h
 ·exact .inr ⟨x,y,e,f,k.mono l⟩
def EG(s:Sem α):Prop:=∀(P:ag0) (w:aah),(∃a w',s.run P w=.ok a w')\/∃h w',s.run P w=.halt h w'/\ry h
theorem nW(a:α):EG (Pure.pure a:Sem α):=fun _ w=>.inl ⟨a,w,rfl⟩
theorem vi{s:Sem α}{f:α->Sem γ}(h:EG s)(k:∀a,EG (f a)):EG (s>>=f):=fun P w=>by
 rcases h P w with⟨a,w',e⟩|⟨e,w',e',b⟩
 ·rw[show(s>>=f).run P w=_ from run_bind s f w,e];exact k a P w'
 ·rw[show(s>>=f).run P w=_ from run_bind s f w,e'];exact .inr ⟨e,w',rfl,b⟩
theorem nD.after{s:Sem α}{f:α->Sem γ}(h:EG s)(k:∀a,nD (f a)):nD (s>>=f):=fun P w=>by
 rcases h P w with⟨a,w',e⟩|⟨e,w',e',b⟩
 ·rw[show(s>>=f).run P w=_ from run_bind s f w,e];exact k a P w'
 ·rw[show(s>>=f).run P w=_ from run_bind s f w,e'];exact⟨e,w',rfl,b⟩
theorem NE(b:Nat):EG (aoA b):=fun _ w=>.inl ⟨_,w,rfl⟩
theorem Kw(b:akr):EG (Go.frozen b):=fun _ w=>.inl ⟨_,w,rfl⟩
theorem CF(a:akr)(n:Nat):EG (Builtin.holdsCells a n):=vi (NE _) fun s=>by
 cases s with
 |none=>exact nW _
 |some s=>obtain⟨e,m⟩:=s;exact nW _
theorem EY(size n m:Nat)(a:Option akr)(v:aai):EG (Builtin.mayShare size n m a v):=by
 have last:∀there:Bool,EG (do
   if !there then return true
   match v with
   | .slice (some b) _ _=>do pure (!(<-Builtin.holdsCells b (m*size)) || a.any (·.block == b.block))
   |_=>pure false:Sem Bool):=by
  intro t;cases t with
  |false=>exact nW _
  |true=>
   cases v with
   |slice o l c=>
    cases o with
    |none=>exact nW _
    |some a=>exact vi (CF _ _) fun _=>nW _
   |_=>exact nW _
 unfold Builtin.mayShare;cases a with
 |none=>exact last true
 |some a=>exact vi (CF _ _) fun b=>vi (Kw _) fun c=>last _
theorem Dr(n:Nat):SR P F C iq r (askRoom n) (askRoom n):=by
 unfold askRoom;exact .ite (fun _=>.room (.pure rfl)) fun _=>.pure' rfl
theorem SR.GL{b:Bool}{f:Bool->Sem γ}{f':Bool->Sem δ}(h:∀b,SR P F C B r (f b) (f' b)):SR P F C B r ((Pure.pure b:Sem Bool)>>=f) ((Pure.pure b:Sem Bool)>>=f'):=.bP (h b)
def ag1(P:ag0)(F:ani->Prop)(ts:Array aat):Prop:=∀u e,ts[0]?=some u->P.underlying u=some (.slice e)->lE P F e
theorem Tc(ts:Array aat)(t:aat)(hz:ag1 P F ts)(hl:r.aR=P.globals.size)(h:bW F r x y):SR P F C (dB F) r (aqL ts t x) (aqL ts t y):=by
 unfold aqL;rcases h.get? 0 with⟨e,e'⟩|⟨v,w,e,e',k⟩
 ·rw[e,e'];cases ts[0]?<;>exact ah _ _
 rcases h.get? 1 with⟨f,f'⟩|⟨v1,w1,f,f',k1⟩
 ·rw[f,f',e,e'];cases ts[0]?<;>exact ah _ _
 rw[f,f',e,e'];cases ht:ts[0]? with
 |none=>exact ah _ _
 |some u=>
  refine .cD fun d hd=>?_
  cases d with
  |slice el=>
   have sQ:=hz u el ht hd;have k0:=k;cases k
   case slice|nj=>
    (dsimp only;refine(bN _).ai fun q z LE=>?_);have hl0:=LE.aR hl;cases ht1:ts[1]?
    case' none=>
     refine .GL fun zb=>?_
    case' some xt=>
     (refine .cD fun d1 hd1=>?_);refine .GL fun zb=>?_
    all_goals cases zb
    all_goals first
     |(show SR P F C (dB F) q (asInt v1>>=_) (asInt w1>>=_)
       (refine(oF (k1.mono LE)).ai fun q1 m l1=>?_);(refine .ite (fun _=>bF _ _ _ (l1.aR hl0)) fun _=>?_);(refine .j4 fun i0 hi0=>?_);refine .ite (fun _=>(fo _).ai fun _ _ l9=>bF _ _ _ (l9.aR (l1.aR hl0))) fun _=>?_
       refine .bP ?_)
     |refine(Dz (k1.mono LE)).ai fun q1 m l1=>?_
    (all_goals have L1:=Ren.le_trans LE l1);(all_goals refine .ite (fun _=>?_) fun _=>.j4 fun i hi=>.ite (fun _=>bF _ _ _ (L1.aR hl)) fun _=>.j4 fun i2 hi2=>.ite (fun _=>?_) fun _=>?_);all_goals simp only[Bool.not_true,Bool.not_false,akg,if_true,if_false]
    all_goals first
     |exact bF _ _ _ (L1.aR hl)
     |(refine .bad (nD.then ?_ _)
       (refine nD.after (EY _ _ _ _ _) fun b=>?_);cases b;(·exact nD.mark _ (nD.unsupported _ sP))
       ·exact nD.unsupported _ sP)
     |((first
        |refine(jo _ _ (k1.mono L1)).og fun q2 x y l2 kc=>?_
        |refine SR.og (SR.ite (fun _=>SR.pure' bW.nil) fun _=>(me sQ).dr fun _ _ _ _ k=>SR.pure' (bW.zeroCells _ k.cells)) fun q2 x y l2 kc=>?_)
       first
        |exact(l_ 0 (((‹AR r _ _›.mono L1).mono l2).add _) kc.toList).ai fun t _ l=>.pure' (.slice _ _ (((‹AR r _ _›.mono L1).mono l2).mono l))
        |exact .pure' (.nj _ _))
     |(refine(fo _).ai fun q2 cap l2=>.j4 fun i3 hi3=>(Dr _).ai fun q3 _ l3=>?_
       have L3:=Ren.le_trans (Ren.le_trans L1 l2) l3;refine(jo _ _ (k0.mono L3)).og fun q4 x4 y4 l4 k4=>?_
       (first
        |refine(jo _ _ (k1.mono (Ren.le_trans L3 l4))).og fun q5 x5 y5 l5 k5=>?_
        |refine SR.og (SR.ite (fun _=>SR.pure' bW.nil) fun _=>(me sQ).dr fun _ _ _ _ k=>SR.pure' (bW.zeroCells _ k.cells)) fun q5 x5 y5 l5 k5=>?_)
       refine(me sQ).dr fun q6 v6 w6 l6 k6=>?_
       refine(n_ _ ((((k4.mono l5).mono l6).append (k5.mono l6)).append (k6.cells.zeroCells _))).gr fun q7 a7 b7 l7 k7=>.pure' (.slice _ _ k7))
   all_goals exact ah _ _
  |_=>exact ah _ _
end
section
variable{P:ag0}{F:ani->Prop}{C:anB->Prop}{α β γ δ:Type}{A:Ren->α->β->Prop}{B:Ren->γ->δ->Prop}{r:Ren}
theorem abJ(h:VR F r v v')(k:VR F r w w'):SR P F C (dB F) r (Builtin.max2 v w) (Builtin.max2 v' w'):=by
 cases h with
 |int j n=>cases k<;>first|exact .pure' (.int _ _)|exact aA _ sP _|exact ah _ _
 |string s=>
  cases k with
  |string s'=>exact(uN .geq s s').dr fun t x y l e=>(zT e).ai fun t2 b l2=>.pure' (.string _)
  |ptr a=>exact aA _ sP _
  |_=>exact ah _ _
 |ptr a=>cases k<;>exact aA _ sP _
 |_=>cases k<;>first|exact ah _ _|exact aA _ sP _
theorem abK(h:VR F r v v')(k:VR F r w w'):SR P F C (dB F) r (Builtin.min2 v w) (Builtin.min2 v' w'):=by
 cases h with
 |int j n=>cases k<;>first|exact .pure' (.int _ _)|exact aA _ sP _|exact ah _ _
 |string s=>
  cases k with
  |string s'=>exact(uN .leq s s').dr fun t x y l e=>(zT e).ai fun t2 b l2=>.pure' (.string _)
  |ptr a=>exact aA _ sP _
  |_=>exact ah _ _
 |ptr a=>cases k<;>exact aA _ sP _
 |_=>cases k<;>first|exact ah _ _|exact aA _ sP _
theorem L_(f g:aai->aai->Sem aai)(hf:∀q v v' w w',VR F q v v'->VR F q w w'->SR P F C (dB F) q (f v w) (g v' w')):∀{l m:List aai} {r:Ren} {v v':aai},iC (VR F r) l m->VR F r v v'->SR P F C (dB F) r (l.foldlM f v) (m.foldlM g v'):=by
 intro l
 induction l with
 |nil=>intro m r v v' h k;cases h;exact .pure' k
 |cons a l ih=>
  intro m r v v' h k;cases h with
  |cons e h=>
   rw[aq',aq'];exact(hf _ _ _ _ _ k e).dr fun t x y l2 q=>ih (h.mono fun _ _ z=>z.mono l2) q
theorem afV(ts:Array aat)(t:aat)(h:bW F r x y):SR P F C (dB F) r (aq0 ts t x) (aq0 ts t y):=by
 unfold aq0;have:=h.toList
 revert this
 generalize x.toList=l;generalize y.toList=m;intro h;cases h with
 |nil=>exact ah _ _
 |cons e h=>exact L_ _ _ (fun q v v' w w' a b=>abJ a b) h e
theorem afW(ts:Array aat)(t:aat)(h:bW F r x y):SR P F C (dB F) r (aq1 ts t x) (aq1 ts t y):=by
 unfold aq1;have:=h.toList
 revert this
 generalize x.toList=l;generalize y.toList=m;intro h;cases h with
 |nil=>exact ah _ _
 |cons e h=>exact L_ _ _ (fun q v v' w w' a b=>abK a b) h e
theorem bW.list(h:bW F r x y):∃l m,x=⟨l⟩/\y=⟨m⟩/\iC (VR F r) l m:=by
 obtain⟨l⟩:=x;obtain⟨m⟩:=y;exact⟨l,m,rfl,rfl,h.toList⟩
theorem Be(ts:Array aat)(t:aat)(hl:r.aR=P.globals.size)(h:bW F r x y):SR P F C (dB F) r (aqb ts t x) (aqb ts t y):=by
 obtain⟨l,m,rfl,rfl,hL⟩:=h.list;clear h
 have two:∀{a b:Option akr} {v w:aai},OaR r a b->VR F r v w->SR P F C (dB F) r (aqb ts t #[.pointer a,v]) (aqb ts t #[.pointer b,w]):=by
  intro a b v w ha hv;unfold aqb;refine(oF hv).ai fun q n l=>?_
  have MO:=l.aR hl;have ha:=ha.mono l;cases ts[0]? with
  |none=>exact ah _ _
  |some pt=>
   dsimp only;refine .ite (fun _=>bF _ _ _ MO) fun _=>.ite (fun _=>cm _ sP _ _) fun _=>?_
   rcases ha with⟨rfl,rfl⟩|⟨c,d,rfl,rfl,hc⟩
   ·exact .ite (fun _=>.pure' (.string _)) fun _=>aT _ MO
   ·refine .ite (fun _=>.pure' (.string _)) fun _=>?_
    (refine(vC _).ai fun q2 e l2=>(uP (hc.mono l2) _ _).then fun q3 b b' l3 e=>?_);have hc3:=(hc.mono l2).mono l3;rcases e with rfl|⟨_,rfl⟩
    ·refine .ite (fun _=>?_) fun _=>aA _ sP _
     (refine(Fs _ hc3 _).then fun q4 s s' l4 e=>?_);obtain⟨rfl,e⟩:=e;exact(GW (hc3.mono l4) _ (by rw[<-l4.eO];exact e)).ai fun q5 _ l5=>.pure' (.string _)
    ·exact aA _ sP _
 cases hL with
 |nil=>exact ah _ _
 |cons a h=>
  cases h with
  |nil=>exact ah _ _
  |cons b h=>
   cases h with
   |nil=>
    cases a with
    |gP=>exact two (.inl ⟨rfl,rfl⟩) b
    |ptr a=>exact two (.inr ⟨_,_,rfl,rfl,a⟩) b
    |_=>exact ah _ _
   |cons c h=>exact ah _ _
theorem wY(ts:Array aat)(t:aat)(nf:∀e,P.underlying t=some (.pointer e)->Zq P e)(h:bW F r x y):SR P F C (dB F) r (Builtin.unsafeSliceData_ ts t x) (Builtin.unsafeSliceData_ ts t y):=by
 obtain⟨l,m,rfl,rfl,hL⟩:=h.list;clear h;cases hL with
 |nil=>exact ah _ _
 |cons a h=>
  cases h with
  |cons b h=>exact ah _ _
  |nil=>
   cases a with
   |nj l c=>exact .pure' .gP
   | @slice a b l c k=>
     have:SR P F C (dB F) r (do
       if c≠0 then pure (.pointer (some a))
       else if (<-viewAt a.block).isSome then pure (.pointer (some a))
       else pure (.pointer (some ⟨<-apk (.view a (<-aq2 t)),0,none⟩)):Sem aai) (do
       if c≠0 then pure (.pointer (some b))
       else if (<-viewAt b.block).isSome then pure (.pointer (some b))
       else pure (.pointer (some ⟨<-apk (.view b (<-aq2 t)),0,none⟩)):Sem aai):=by
      (refine .ite (fun _=>.pure' (.ptr k)) fun _=>?_);refine(vE k.block).then fun q x y l e=>?_
      have last:SR P F C (dB F) q (do pure (.pointer (some ⟨<-apk (.view a (<-aq2 t)),0,none⟩)):Sem aai) (do pure (.pointer (some ⟨<-apk (.view b (<-aq2 t)),0,none⟩))):=by
       (have he:SR P F C (fun _ x y=>x=y/\P.underlying t=some (.pointer x)) q (aq2 t) (aq2 t):=.cD fun i hi=>by cases i<;>first|exact .pure' ⟨rfl,hi⟩|exact ah _ _);(refine he.then fun q1 e e' l1 h1=>?_);obtain⟨rfl,hd⟩:=h1;exact(iZ (.view e (nf e hd) ((k.mono l).mono l1))).then fun q2 a b l2 k2=>.pure' (.ptr (.mk _ _ k2))
      (rcases e with⟨rfl,rfl⟩|⟨a',b',u,rfl,rfl,_⟩);(·exact last);(·exact .pure' (.ptr (k.mono l)))
     exact this
   |_=>exact ah _ _
theorem uK:∀(n:Nat) (b:Bool) (t:aat) {r:Ren} {v w:aai},r.aR=P.globals.size->VR F r v w->SR P F C iq r (aqm b n t v) (aqm b n t w)
 |0,b,t,r,v,w,hl,h=>aA _ sP _
 |n+1,b,t,r,v,w,hl,h=>by
  have ih:=fun t {r v w}=>uK n b t (r:=r) (v:=v) (w:=w)
  unfold aqm;refine .cD fun d hd=>?_
  cases d with
  |interface ms=>
   cases h with
   |iface t k=>
    (refine .j4 fun i hi=>.ite (fun _=>?_) fun _=>ih _ hl k);(refine .ite (fun _=>bF _ _ _ hl) fun _=>?_);exact(wX _).ai fun q s l=>bF _ _ _ (l.aR hl)
   |nilIface=>exact .pure' rfl
   |_=>exact ah _ _
  |array len e=>
   cases h with
   |agg a c=>
    simp only[Std.Legacy.Range.forIn_eq_forIn_range']
    exact nZ (fun i q s l=>(bN _).ai fun q1 m l1=>(i_ _ (bW.mono (Ren.le_trans l l1) ⟨a,c⟩) _).dr fun q2 x y l2 e2=>
     (ih _ (l2.aR (l1.aR (l.aR hl))) e2).ai fun q3 _ l3=>.pure' rfl) _ _ fun q s l=>.pure' rfl
   |_=>exact ah _ _
  |struct fs=>
   cases h with
   |agg a c=>
    obtain⟨fs⟩:=fs;simp only[apu];refine nZ (fun f q s l=>?_) _ _ fun q s l=>.pure' rfl
    exact .ite (fun _=>(i_ _ (bW.mono l ⟨a,c⟩) _).dr fun q2 x y l2 e2=>
     (ih _ (l2.aR (l.aR hl)) e2).ai fun q3 _ l3=>.pure' rfl) fun _=>.pure' rfl
   |_=>exact ah _ _
  |_=>cases h<;>exact .pure' rfl
end
section
variable{P:ag0}{F:ani->Prop}{C:anB->Prop}{α β γ δ:Type}{A:Ren->α->β->Prop}{B:Ren->γ->δ->Prop}{r:Ren}
theorem LP(d:TypeDesc)(h:VR F r v v')(k:VR F r w w'):Instr.sameNow d v w=Instr.sameNow d v' w':=by
 cases h<;>cases k<;>first|rfl|(cases d<;>rfl)
def FnR(F:ani->Prop):Ren->Option (Nat×aai)->Option (Nat×aai)->Prop:=fun r x y=>(x=none/\y=none)\/∃i v w,x=some (i,v)/\y=some (i,w)/\VR F r v w
theorem Fj(t:aat):∀{es es':List apQ} (i:Nat) {r:Ren},r.aR=P.globals.size->VR F r v w->iC (ER F r) es es'->SR P F C (FnR F) r (aqI t v es i) (aqI t w es' i):=by
 intro es
 induction es with
 |nil=>intro es' i r hl h k;cases k;exact .pure' (.inl ⟨rfl,rfl⟩)
 |cons e es ih=>
  intro es' i r hl h k;cases k with
  |cons k ks=>
   (unfold aqI;refine(Dt t hl h k.key).ai fun q b l=>?_);exact .ite (fun _=>.pure' (.inr ⟨i,_,_,rfl,rfl,k.val.mono l⟩)) fun _=>ih (i+1) (l.aR hl) (h.mono l) (ks.mono fun _ _ x=>x.mono l)
theorem Ku(d:TypeDesc)(h:VR F r v w):∀{es es':List apQ} (i:Nat),iC (ER F r) es es'->
  (aqq d v es i=none/\aqq d w es' i=none)\/∃x y,aqq d v es i=some x/\aqq d w es' i=some y/\FnR F r x y:=by
 intro es
 induction es with
 |nil=>intro es' i k;cases k;exact .inr ⟨_,_,rfl,rfl,.inl ⟨rfl,rfl⟩⟩
 |cons e es ih=>
  intro es' i k;cases k with
  |cons k ks=>
   unfold aqq;rw[LP d h k.key];split;(·exact .inr ⟨_,_,rfl,rfl,.inr ⟨i,_,_,rfl,rfl,k.val⟩⟩);(·exact ih (i+1) ks);(·exact .inl ⟨rfl,rfl⟩)
theorem Dv(t:aat)(hl:r.aR=P.globals.size)(h:VR F r v w){es es':List apQ}(k:iC (ER F r) es es'):SR P F C (FnR F) r (aqB t v es) (aqB t w es'):=.cD fun d hd=>by
 rcases Ku d h 0 k with⟨e,e'⟩|⟨x,y,e,e',f⟩
 ·simp only[e,e'];exact Fj t 0 hl h k
 ·simp only[e,e'];exact .pure' f
theorem Tj(t:aat)(hz:∀k e,P.underlying t=some (.map k e)->lE P F e)(hl:r.aR=P.globals.size){x y:aai}(h:VR F r v w)(k:VR F r x y)(ok:Bool):SR P F C (dB F) r (aq3 t v x ok) (aq3 t w y ok):=by
 unfold aq3;refine .cD fun d hd=>?_
 cases d with
 |map kt et=>
  have hz:=hz kt et hd
  have fin:∀{q:Ren} {v w:aai} (b:Bool),VR F q v w->SR P F C (dB F) q (pure (if ok then .tuple #[v,.bool b]else v):Sem aai) (pure (if ok then .tuple #[w,.bool b]else w)):=by
   intro q v w b e;refine .pure' ?_;cases ok;(·exact e);(·exact .tuple' (.two e (.bool _)))
  have last:∀{q:Ren} {es es':Array apQ},r.le q->iC (ER F q) es.toList es'.toList->SR P F C (dB F) q (do
    aqm es.isEmpty 10000 kt x
    let (v,b)<-match<-aqB kt x es.toList with
     |some (_,v)=>pure (v,true)
     |none=>pure (<-aqx et,false)
    pure (if ok then .tuple #[v,.bool b]else v)) (do
    aqm es'.isEmpty 10000 kt y
    let (v,b)<-match<-aqB kt y es'.toList with
     |some (_,v)=>pure (v,true)
     |none=>pure (<-aqx et,false)
    pure (if ok then .tuple #[v,.bool b]else v)):=by
   intro q es es' l hes
   have hem:es.isEmpty=es'.isEmpty:=by
    have:=hes.length;simp only[ahh]at this;simp only[Array.isEmpty,this]
   (rw[hem];refine(uK _ _ _ (l.aR hl) (k.mono l)).ai fun q1 _ l1=>(Dv _ (l1.aR (l.aR hl)) ((k.mono l).mono l1) (hes.mono fun _ _ z=>z.mono l1)).then fun q2 f f' l2 e=>?_);(rcases e with⟨rfl,rfl⟩|⟨i,v,w,rfl,rfl,e⟩);(·exact(me hz).dr fun q3 v w l3 e=>.bP (fin false e));(·exact .bP (fin true e))
  cases h with
  |wM=>exact .bP (last (es:=#[]) (es':=#[]) (Ren.le_refl _) .nil)
  |map a=>
   refine SR.Cf a (fun _ _=>by first|exact .stuck _|exact(nD.stuck _).then _) fun nf o o' k2 e=>?_
   have l2:=Ren.le_refl r;cases k2 with
   |map c es=>exact .bP (last l2 es)
   |cells t f c=>cases e
   |_=>exact dL _ _ _
  |_=>exact dL _ _ _
 |_=>exact ah _ _
end
section
variable{P:ag0}{F:ani->Prop}{C:anB->Prop}{α β γ δ:Type}{A:Ren->α->β->Prop}{B:Ren->γ->δ->Prop}{r:Ren}
theorem Pv{R:aai->aai->Prop}(f:aai->aai->Bool)(hf:∀v w v' w',R v v'->R w w'->f v w=f v' w'):∀{l l' m m':List aai},iC R l l'->iC R m m'->(l.zip m).all (fun x=>f x.1 x.2)=(l'.zip m').all (fun x=>f x.1 x.2):=by
 intro l
 induction l with
 |nil=>intro l' m m' h k;cases h;rfl
 |cons a l ih=>
  intro l' m m' h k;cases h with
  |cons e h=>
   cases k with
   |nil=>rfl
   |cons e' k=>simp only[List.zip_cons_cons,List.all_cons,hf _ _ _ _ e e',ih h k]
theorem r_:∀(n:Nat) {v w v' w':aai},VR F r v v'->VR F r w w'->aqd n v w=aqd n v' w'
 |0,v,w,v',w',h,k=>by
  cases h with
  |ptr a=>
   cases k with
   |ptr b=>simp only[aqd];rw[ahp];simp[a.eq_iff b]
   |_=>rfl
  |_=>cases k<;>rfl
 |n+1,v,w,v',w',h,k=>by
  cases h with
  |iface t a=>
   cases k with
   |iface u b=>simp only[aqd,r_ n a b]
   |_=>rfl
  |agg a b=>
   cases k with
   |agg a' b'=>
    have h1:bW F r _ _:=⟨a,b⟩;have h2:bW F r _ _:=⟨a',b'⟩;simp only[aqd,a,a']
    congr 1
    exact Pv (R:=VR F r) (aqd n) (fun v w v' w' x y=>r_ n x y) h1.toList h2.toList
   |_=>rfl
  |ptr a=>
   cases k with
   |ptr b=>simp only[aqd];rw[ahp];simp[a.eq_iff b]
   |_=>rfl
  |_=>cases k<;>rfl
theorem Bb(h:VR F r v v')(k:VR F r w w'):SR P F C (dB F) r (aqy v w) (aqy v' w'):=by
 unfold aqy;rw[r_ 10000 h k]
 exact .ite (fun _=>.pure' k) fun _=>(fo _).ai fun q n l=>.pure' (by
  split
  ·exact k.mono l
  ·exact h.mono l)
theorem iC.get?{R:α->β->Prop}{l:List α}{m:List β}(h:iC R l m)(i:Nat):(l[i]?=none/\m[i]?=none)\/∃a b,l[i]?=some a/\m[i]?=some b/\R a b:=by
 induction h generalizing i with
 |nil=>exact .inl ⟨rfl,rfl⟩
 |cons e _ ih=>
  cases i with
  |zero=>exact .inr ⟨_,_,rfl,rfl,e⟩
  |succ i=>simpa using ih i
theorem iC.rN{R:α->β->Prop}{l:List α}{m:List β}(h:∀i:Nat,(l[i]?=none/\m[i]?=none)\/∃a b,l[i]?=some a/\m[i]?=some b/\R a b):iC R l m:=by
 induction l generalizing m with
 |nil=>
  cases m with
  |nil=>exact .nil
  |cons b m=>rcases h 0 with⟨_,e⟩|⟨_,_,e,_⟩<;>simp at e
 |cons a l ih=>
  cases m with
  |nil=>rcases h 0 with⟨e,_⟩|⟨_,_,_,e,_⟩<;>simp at e
  |cons b m=>
   refine .cons ?_ (ih fun i=>by simpa using h (i+1));rcases h 0 with⟨e,_⟩|⟨_,_,e,e',k⟩
   ·simp at e
   ·simp at e e';rw[e,e'];exact k
theorem yC(t:aat)(hl:r.aR=P.globals.size){m m' k k':aai}(hm:VR F r m m')(hk:VR F r k k')(hv:VR F r v v'):SR P F C iq r (aqM t m k v) (aqM t m' k' v'):=by
 unfold aqM;refine .cD fun d hd=>?_
 cases d with
 |map kt et=>
  cases hm with
  |wM=>exact aT _ hl
  | @map a b ha=>
    dsimp only;refine SR.Cf ha (fun _ _=>by first|exact .stuck _|exact(nD.stuck _).then _) fun nf o o' k2 e=>?_
    have l:=Ren.le_refl r;cases k2 with
    |cells t f c=>cases e
    | @map es es' c hes=>
      (refine(uK _ _ _ (l.aR hl) (hk.mono l)).ai fun q1 _ l1=>(Dv _ (l1.aR (l.aR hl)) ((hk.mono l).mono l1) (hes.mono fun _ _ z=>z.mono l1)).then fun q2 f f' l2 e=>?_);(have L2:=Ren.le_trans (Ren.le_trans l l1) l2;have aet:iC (ER F q2) es.toList es'.toList:=hes.mono fun _ _ z=>(z.mono l1).mono l2);rcases e with⟨rfl,rfl⟩|⟨i,x,y,rfl,rfl,e⟩
      ·refine jN (L2.to ha) (L2.E8 nf) (.map _ ?_) rfl
       rw[Array.toList_push,Array.toList_push];exact aet.append (.cons ⟨hk.mono L2,hv.mono L2,rfl⟩ .nil)
      ·have NS:VR F q2 (((es[i]?).map (·.key)).getD k) (((es'[i]?).map (·.key)).getD k'):=by
        (rcases aet.get? i with⟨e1,e2⟩|⟨a,b,e1,e2,e3⟩);(·rw[ahb]at e1 e2;rw[e1,e2];exact hk.mono L2);(·rw[ahb]at e1 e2;rw[e1,e2];exact e3.key)
       (refine(Bb NS (hk.mono L2)).dr fun q3 x y l3 kk=>?_);(refine jN (l3.to (L2.to ha)) (l3.E8 (L2.E8 nf)) (.map _ ?_) rfl;refine .rN fun j=>?_);rw[ahb,ahb,aqP,aqP];have:=aet.get? j;rw[ahb,ahb]at this;rcases this with⟨e1,e2⟩|⟨a,b,e1,e2,e3⟩
       ·left;rw[e1,e2];split<;>exact⟨rfl,rfl⟩
       ·right
        rw[e1,e2];split;(·exact⟨_,_,rfl,rfl,⟨kk,hv.mono (Ren.le_trans L2 l3),e3.born⟩⟩);(·exact⟨_,_,rfl,rfl,e3.mono l3⟩)
    |_=>exact ah _ _
  |_=>exact ah _ _
 |_=>exact ah _ _
theorem DG(ht:∀k e,P.underlying t≠some (.map k e))(h:VR F r v w):SR P F C (dB F) r (aq6 t v) (aq6 t w):=by
 unfold aq6;refine .cD fun d hd=>?_
 cases d with
 |string=>
  cases h with
  |string s=>exact .bP ((iZ (.iter s 0)).then fun q a b l k=>.pure' (.ptr (.mk _ _ k)))
  |_=>exact dL _ _ _
 |map k e=>exact absurd hd (ht k e)
 |_=>exact dL _ _ _
theorem abL(b:Bool)(t:aat)(h:VR F r v w):SR P F C (dB F) r (arh v b t) (arh w b t):=by
 unfold arh;cases h with
 |ptr a=>
  cases a with|mk o s x=>
  cases o with
  |succ o=>exact ah _ _
  |zero=>
   dsimp only;refine SR.Cf x (fun _ _=>by first|exact .stuck _|exact(nD.stuck _).then _) fun nf o o' k e=>?_
   have l:=Ren.le_refl r;cases k with
   |cells t f c=>cases e
   |iter s p=>
    cases b with
    |true=>
     (refine .ite (fun _=>?_) fun _=>.pure' (.tuple' (.one (.bool _))));exact(jN (l.to x) nf (.iter s _) rfl).ai fun q1 _ l1=>.pure' (.tuple' (.three (.bool _) (.int _ _) (.int _ _)))
    |false=>exact ah _ _
   |_=>exact ah _ _
 |_=>exact ah _ _
theorem Fx(s t:aat)(hz:lE P F t)(hl:r.aR=P.globals.size)(ok:Bool)(h:VR F r v w):SR P F C (dB F) r (aqJ v s t ok) (aqJ w s t ok):=by
 unfold aqJ;refine .cD fun d hd=>?_
 have holds:∀{q:Ren} {v w:aai},VR F q v w->SR P F C (dB F) q (pure (if ok then .tuple #[v,.bool true]else v):Sem aai) (pure (if ok then .tuple #[w,.bool true]else w)):=by
  intro q v w e;refine .pure' ?_;cases ok
  ·exact e
  ·exact .tuple' (.two e (.bool _))
 have Vx:∀(a b:Option aat) (m:String),SR P F C (dB F) r (do
   if ok then pure (.tuple #[<-aqx t,.bool false])
   else runtimePanic (.typeAssertion a b t m):Sem aai) (do
   if ok then pure (.tuple #[<-aqx t,.bool false])
   else runtimePanic (.typeAssertion a b t m)):=fun a b m=>
  .ite (fun _=>(me hz).dr fun q v w l e=>.pure' (.tuple' (.two e (.bool _)))) fun _=>aT _ hl
 cases h with
 |nilIface=>cases d<;>exact Vx _ _ _
 |iface t' k=>
  have concrete:SR P F C (dB F) r (if t'=t then(pure (if ok then .tuple #[_,.bool true]else _):Sem aai)else do
   if ok then pure (.tuple #[<-aqx t,.bool false])
   else runtimePanic (.typeAssertion (some s) (some t') t "")) (if t'=t then(pure (if ok then .tuple #[_,.bool true]else _):Sem aai)else do
   if ok then pure (.tuple #[<-aqx t,.bool false])
   else runtimePanic (.typeAssertion (some s) (some t') t "")):=.ite (fun _=>holds k) fun _=>Vx _ _ _
  cases d with
  |interface want=>
   refine .j4 fun i hi=>?_
   cases Instr.missingMethod want i.methods with
   |none=>exact holds (.iface t' k)
   |some m=>exact Vx _ _ _
  |_=>exact concrete
 |_=>cases d<;>exact ah _ _
theorem OQ(i:Nat)(h:VR F r v w):SR P F C (dB F) r (aqU v i) (aqU w i):=by
 cases h with
 |tuple a b=>
  unfold aqU;rcases bW.get? ⟨a,b⟩ i with⟨e,e'⟩|⟨v,w,e,e',k⟩
  ·simp only[e,e'];exact ah _ _
  ·simp only[e,e'];exact .pure' k
 |_=>exact ah _ _
theorem Md:SR P F C iq r Instr.panicnil Instr.panicnil:=by
 refine .env fun x=>?_
 cases x<;>first|exact .program (.pure rfl)|exact ah _ _
theorem X5(hl:r.aR=P.globals.size)(h:VR F r v w):SR P F C (dB F) r (aq7 v) (aq7 w):=by
 unfold aq7;cases h with
 |iface t k=>exact fC (.iface t k)
 |nilIface=>exact Md.ai fun q n l=>.ite (fun _=>fC .nilIface) fun _=>aT _ (l.aR hl)
 |_=>exact ah _ _
end
section
variable{P:ag0}{F:ani->Prop}{C:anB->Prop}{α β γ δ:Type}{A:Ren->α->β->Prop}{B:Ren->γ->δ->Prop}{r:Ren}
def DsR(F:ani->Prop):Ren->List Deferred->List Deferred->Prop:=fun r x y=>iC (DR F r) x y
theorem DsR.mono{s:Ren}(l:r.le s){x y:List Deferred}(h:DsR F r x y):DsR F s x y:=iC.mono (fun _ _ z=>DR.mono l z) h
def LpR(F:ani->Prop)(C:anB->Prop):Ren->Loop->Loop->Prop:=fun r x y=>LR F C r x y
theorem oG(h:r a b):SR P F C (fun s x y=>LpR F C s x y/\s.eO a=none) r (aqV a) (aqV b):=by
 unfold aqV;refine SR.Cf h (fun _ _=>by first|exact .stuck _|exact(nD.stuck _).then _) fun nf o o' k e=>?_
 have l:=Ren.le_refl r;cases k with
 |loop x=>exact .pure' ⟨x,nf⟩
 |cells t f c=>cases e
 |_=>exact ah _ _
theorem I4(f:ani)(hf:F f)(h:bW F r x y)(ps:Array Tmp)(a b:anB)(ha:C a)(hb:C b){o o':Option Nat}(ho:(o=none/\o'=none)\/∃m n,o=some m/\o'=some n/\r m n):
  SR P F C (fun s p q=>s p.1 q.1/\DsR F s p.2 q.2) r (aqN f x ps a b o) (aqN f y ps a b o'):=by
 unfold aqN
 have last:∀{q:Ren} {d d':Nat} {m m':List Deferred},r.le q->q d d'->DsR F q m m'->SR P F C (fun s p q=>s p.1 q.1/\DsR F s p.2 q.2) q
   (do pure (<-apk (.loop {state:=.ready,pending:=none,fn:=f,tmps:=x,params:=ps,assign:=a,body:=b,defers:=d}),m))
   (do pure (<-apk (.loop {state:=.ready,pending:=none,fn:=f,tmps:=y,params:=ps,assign:=a,body:=b,defers:=d'}),m')):=by
  intro q d d' m m' l hd hm
  have e':LR F C q {state:=.ready,pending:=none,fn:=f,tmps:=x,params:=ps,assign:=a,body:=b,defers:=d} {state:=.ready,pending:=none,fn:=f,tmps:=y,params:=ps,assign:=a,body:=b,defers:=d'}:=
   ⟨rfl,rfl,(fun c e=>by cases e),rfl,hf,h.mono l,rfl,rfl,ha,rfl,hb,hd⟩
  exact(iZ (.loop e')).then fun t a b l k=>.pure' ⟨k,hm.mono l⟩
 rcases ho with⟨rfl,rfl⟩|⟨m,n,rfl,rfl,hmn⟩
 ·refine(iZ (.deferred .nil)).then fun q c d l k=>.bP (last l k (.cons ⟨.collected k,.nil⟩ .nil))
 ·exact(oG hmn).then fun q c d l k=>.bP (last l k.1.defers .nil)
inductive Zr(F:ani->Prop)(C:anB->Prop)(r:Ren):Next->Next->Prop
 |value {v w:aai}:VR F r v w->Zr F C r (.value v) (.value w)
 |skip:Zr F C r .skip .skip
 |enter {f:ani} {x y:Array aai}:F f->bW F r x y->Zr F C r (.enter f x) (.enter f y)
 |round {l l':Nat} {f:ani} {x y:Array aai} {a b:anB}:r l l'->F f->bW F r x y->C a->C b->Zr F C r (.round l f x a b) (.round l' f y a b)
 |defer {d d':Deferred}:DR F r d d'->Zr F C r (.defer d) (.defer d')
 |recover:Zr F C r .recover .recover
def PO(F:ani->Prop)(C:anB->Prop):Ren->Next->Next->Prop:=fun r x y=>Zr F C r x y
theorem SJ:∀{l:List Tmp} {v w:List aai} {x y:Array aai},iC (VR F r) v w->bW F r x y->bW F r ((l.zip v).foldl (fun t (p:Tmp×aai)=>t.setIfInBounds p.1 p.2) x) ((l.zip w).foldl (fun t (p:Tmp×aai)=>t.setIfInBounds p.1 p.2) y):=by
 intro l
 induction l with
 |nil=>intro v w x y h k;exact k
 |cons a l ih=>
  intro v w x y h k;cases h with
  |nil=>exact k
  |cons e h=>exact ih h (k.set _ e)
theorem Ya(h:r a b)(k:bW F r x y):SR P F C (PO F C) r (aq8 a x) (aq8 b y):=by
 unfold aq8;refine(oG h).then fun q o o' l e=>?_
 obtain⟨e,nf⟩:=e;rw[k.1,<-e.params];refine .ite (fun _=>dL _ _ _) fun _=>?_
 rw[<-e.fn,<-e.assign,<-e.body];refine .pure' (.round (l.to h) e.ok ?_ e.okA e.okB);have:=SJ (F:=F) (r:=q) (l:=o.params.toList) (k.mono l).toList e.tmps;rw[<-aps,<-aps,Array.toList_zip,Array.toList_zip];exact this
theorem Ff(hl:r.aR=P.globals.size)(h:r a b):SR P F C iq r (aqK a) (aqK b):=by
 unfold aqK;refine(oG h).then fun q o o' l e=>?_
 obtain⟨e,nf⟩:=e;have e':LR F C q {o with state:=.busy} {o' with state:=.busy}:=⟨rfl,e.pending,e.pend,e.fn,e.ok,e.tmps,e.params,e.assign,e.okA,e.body,e.okB,e.defers⟩;refine(jN (l.to h) nf (.loop e') rfl).ai fun q2 _ l2=>?_
 rw[<-e.state];cases o.state<;>first|exact .pure' rfl|exact aT _ (l2.aR (l.aR hl))
theorem L9(h:r a b)(j:Option anB)(hj:∀c,j=some c->C c):SR P F C (dB F) r (aqQ a j) (aqQ b j):=by
 unfold aqQ;refine(oG h).then fun q o o' l e=>?_
 obtain⟨e,nf⟩:=e;have e':LR F C q {o with state:=if j.isNone then .ready else .done,pending:=j} {o' with state:=if j.isNone then .ready else .done,pending:=j}:=⟨rfl,rfl,hj,e.fn,e.ok,e.tmps,e.params,e.assign,e.okA,e.body,e.okB,e.defers⟩;exact(jN (l.to h) nf (.loop e') rfl).ai fun q2 _ l2=>.pure' (.bool _)
theorem OO(hl:r.aR=P.globals.size)(h:r a b):SR P F C (fun _ x y=>x=y/\∀c,x=some c->C c) r (aqW a) (aqW b):=by
 unfold aqW;refine(oG h).then fun q o o' l e=>?_
 obtain⟨e,nf⟩:=e;have e':LR F C q {o with state:=.exhausted} {o' with state:=.exhausted}:=⟨rfl,e.pending,e.pend,e.fn,e.ok,e.tmps,e.params,e.assign,e.okA,e.body,e.okB,e.defers⟩;rw[<-e.state];refine .ite (fun _=>bF _ _ _ (l.aR hl)) fun _=>?_
 exact(jN (l.to h) nf (.loop e') rfl).ai fun q2 _ l2=>.pure' ⟨e.pending,e.pend⟩
theorem Bc(h:r a b):SR P F C (DsR F) r (aqz a) (aqz b):=by
 unfold aqz;refine SR.Cf h (fun _ _=>by first|exact .stuck _|exact(nD.stuck _).then _) fun nf x y k e=>?_
 have l:=Ren.le_refl r;cases k with
 |cells t f c=>cases e
 |deferred ds=>exact(jN (l.to h) nf .taken rfl).ai fun q2 _ l2=>.pure' (DsR.mono l2 ds)
 |_=>exact ah _ _
end
section
variable{P:ag0}{F:ani->Prop}{C:anB->Prop}{α β γ δ:Type}{A:Ren->α->β->Prop}{B:Ren->γ->δ->Prop}{r:Ren}
theorem Ba{a b:akr}:∀(n:Nat) {r:Ren} (_:AR r a b) (x:ByteArray),SR P F C iq r (Extern.Bytes.loadBytes a n x) (Extern.Bytes.loadBytes b n x):=by
 intro n
 induction n generalizing a b with
 |zero=>intro r h x;exact .pure' rfl
 |succ n ih=>
  intro r h x;refine(yB h).dr fun t v w l k=>?_
  cases k with
  |int k m=>cases k<;>first|exact ah _ _|exact ih ((h.mono l).add 1) _
  |_=>exact ah _ _
theorem sA(h:VR F r v w):SR P F C iq r (Extern.Bytes.bytesOf v) (Extern.Bytes.bytesOf w):=by
 cases h with
 |string s=>exact .pure' rfl
 |nj l c=>exact .pure' rfl
 |slice n c k=>exact Ba _ k _
 |_=>exact ah _ _
theorem GV(h:VR F r v w):SR P F C iq r (Extern.Bytes.asByte v) (Extern.Bytes.asByte w):=by
 cases h with
 |int k n=>cases k<;>first|exact .pure' rfl|exact ah _ _
 |_=>exact ah _ _
theorem pF{f:Array aai->Sem α}{A:Ren->α->α->Prop}(h0:nD (f #[]))(h2:∀a b l,nD (f ⟨a::b::l⟩))(e:∀a b,VR F r a b->SR P F C A r (f #[a]) (f #[b]))(h:bW F r x y):SR P F C A r (f x) (f y):=by
 obtain⟨l,m,rfl,rfl,hL⟩:=h.list;clear h;cases hL with
 |nil=>exact .bad h0
 |cons a h=>
  cases h with
  |nil=>exact e _ _ a
  |cons b h=>exact .bad (h2 _ _ _)
theorem rj{f:Array aai->Sem α}{A:Ren->α->α->Prop}(h0:nD (f #[]))(h1:∀a,nD (f #[a]))(h3:∀a b c l,nD (f ⟨a::b::c::l⟩))(e:∀a b c d,VR F r a c->VR F r b d->SR P F C A r (f #[a,b]) (f #[c,d]))(h:bW F r x y):SR P F C A r (f x) (f y):=by
 obtain⟨l,m,rfl,rfl,hL⟩:=h.list;clear h;cases hL with
 |nil=>exact .bad h0
 |cons a h=>
  cases h with
  |nil=>exact .bad (h1 _)
  |cons b h=>
   cases h with
   |nil=>exact e _ _ _ _ a b
   |cons c h=>exact .bad (h3 _ _ _ _)
theorem X0(h:bW F r x y):SR P F C (dB F) r (aqD x) (aqD y):=
 rj (.stuck _) (fun _=>.stuck _) (fun _ _ _ _=>.stuck _) (fun _ _ _ _ h k=>(sA h).ai fun _ _ l=>(GV (k.mono l)).ai fun _ _ _=>.pure' (.int _ _)) h
theorem I5(h:bW F r x y):SR P F C (dB F) r (aqp x) (aqp y):=
 rj (.stuck _) (fun _=>.stuck _) (fun _ _ _ _=>.stuck _) (fun a b c d h k=>(sA h).ai fun t x l=>(GV (k.mono l)).ai fun t2 z l2=>by
  cases (List.range x.size).find? fun i=>x[i]! == z with
  |none=>exact .pure' (.int _ _)
  |some i=>exact .pure' (.int _ _)) h
def BO(P:ag0)(r:Ren)(n:String):Prop:=∀g,P.globals.findIdx? (·.name == n)=some g->r g g
theorem Fp(n:String)(hg:BO P r n):SR P F C Zb r (globalAddr n) (globalAddr n):=.f_ (by
 cases h:P.globals.findIdx? (·.name == n)with
 |none=>exact ah _ _
 |some g=>exact .pure' (.mk 0 none (hg g h)))
theorem Fq(hg:BO P r "internal/bytealg.MaxLen")(h:bW F r x y):SR P F C (dB F) r (aqE x) (aqE y):=
 rj (.stuck _) (fun _=>.stuck _) (fun _ _ _ _=>.stuck _) (fun a b c d h k=>(sA h).ai fun t x l=>(sA (k.mono l)).ai fun t2 z l2=>by
  have max:SR P F C iq t2 Extern.BytealgIndex.maxLen Extern.BytealgIndex.maxLen:=
   (Fp _ fun g e=>l2.to (l.to (hg g e))).gr fun q a b l k=>(yB k).dr fun q2 v w l2 k2=>oF k2
  refine max.ai fun t3 m l3=>?_
  refine .ite (fun _=>cm _ sP _ _) fun _=>.ite (fun _=>cm _ sP _ _) fun _=>?_
  cases (List.range (x.size+1 - z.size)).find? fun i=>x.extract i (i+z.size) == z with
  |none=>exact .pure' (.int _ _)
  |some i=>exact .pure' (.int _ _)) h
theorem bW.digits:∀(n t:Nat) {x y:Array aai},bW F r x y->bW F r (Extern.BytealgMakeNoZero.digits n t x) (Extern.BytealgMakeNoZero.digits n t y)
 |0,_,_,_,h=>h
 |n+1,_,_,_,h=>bW.digits n _ (h.push (.int _ _))
theorem Ft(ps rs:Array aat)(hl:r.aR=P.globals.size)(h:bW F r x y):SR P F C (dB F) r (ap5 ps rs x) (ap5 ps rs y):=by
 have other:∀{v:aai},(∀n,v≠.int .i64 n)->nD (ap5 ps rs #[v]):=by
  intro v hv;cases v with
  |int k n=>cases k<;>first|exact .stuck _|exact absurd rfl (hv n)
  |_=>exact .stuck _
 refine pF (f:=ap5 ps rs) (.stuck _) (fun _ _ _=>.stuck _) (fun a b k=>?_) h
 by_cases e:∃n,a=.int .i64 n
 ·obtain⟨n,rfl⟩:=e
  cases k;unfold ap5;dsimp only;cases rs[0]? with
  |none=>exact ah _ _
  |some t=>
   refine .cD fun d hd=>?_
   cases d with
   |slice e=>
    (refine .ite (fun _=>bF _ _ _ hl) fun _=>(fo _).ai fun q c l=>(Dr _).ai fun q2 _ l2=>(fo _).ai fun q3 b l3=>?_);exact(n_ e (.digits _ _ .nil)).gr fun q a b l k=>.pure' (.slice _ _ k)
   |_=>exact ah _ _
 ·exact .bad (other fun n q=>e ⟨n,q⟩)
theorem abM(h:bW F r x y):SR P F C (dB F) r (aqn x) (aqn y):=
 pF (f:=aqn) (.stuck _) (fun _ _ _=>.stuck _) (fun _ _ k=>.pure' k) h
theorem Mc(ps rs:Array aat)(h:bW F r x y):SR P F C (dB F) r (ap0 ps rs x) (ap0 ps rs y):=by
 have bad:∀a b,(∀c l m,a≠.slice c l m)\/(∀c l m,b≠.slice c l m)->nD (ap0 ps rs #[a,b]):=by
  intro a b e;cases a<;>first|exact .stuck _|(cases b<;>first|exact .stuck _|(exfalso;rcases e with e|e<;>exact e _ _ _ rfl))
 refine rj (f:=ap0 ps rs) (.stuck _) (fun a=>by cases a<;>exact .stuck _) (fun a b c l=>by cases a<;>first|exact .stuck _|(cases b<;>exact .stuck _)) (fun a b c d k k2=>?_) h
 have key:∀{a b a' b':Option akr} (la ca lb cb:Nat),OaR r a a'->OaR r b b'->SR P F C (dB F) r (ap0 ps rs #[.slice a la ca,.slice b lb cb]) (ap0 ps rs #[.slice a' la ca,.slice b' lb cb]):=by
  intro a b a' b' la ca lb cb ha hb;unfold ap0;dsimp only;cases ps[0]? with
  |none=>exact ah _ _
  |some t=>
   refine .cD fun d hd=>?_
   cases d with
   |slice e=>
    (refine(bN _).ai fun q size l=>?_);(rcases ha.mono l with⟨rfl,rfl⟩|⟨a,a',rfl,rfl,hA⟩);(·exact .pure' (.bool _));(rcases hb.mono l with⟨rfl,rfl⟩|⟨b,b',rfl,rfl,hB⟩);(·exact .pure' (.bool _));(refine .ite (fun _=>.pure' (.bool _)) fun _=>?_);have e1:(a.block != b.block)=(a'.block != b'.block):=by unfold bne;rw[hA.qy hB]
    have last:∀{q2:Ren},q.le q2->SR P F C (dB F) q2 (do
      if a.block != b.block then do
       noView a;noView b
       if<-mayBeOne a b then return .bool ((<-Go.choose (.extern "sameAddr.stringBytes" 2)) == 1)
      pure (.bool (a.block == b.block&&a.off<b.off+lb*size&&b.off<a.off+la*size))) (do
      if a'.block != b'.block then do
       noView a';noView b'
       if<-mayBeOne a' b' then return .bool ((<-Go.choose (.extern "sameAddr.stringBytes" 2)) == 1)
      pure (.bool (a'.block == b'.block&&a'.off<b'.off+lb*size&&b'.off<a'.off+la*size))):=by
     (intro q2 l2;rw[e1,hA.qy hB,hA.off,hB.off];refine .ite (fun ne=>?_) fun _=>.pure' (.bool _));(refine(qX (hA.mono l2)).ai fun t _ l3=>(qX ((hB.mono l2).mono l3)).ai fun t2 _ l4=>?_);refine(AJ (((hA.mono l2).mono l3).mono l4) (((hB.mono l2).mono l3).mono l4)).then fun t3 x y l4 e=>?_
     cases y with
     |true=>cases e rfl;exact(fo _).ai fun t n l=>.pure' (.bool _)
     |false=>
      cases x with
      |false=>exact .pure' (.bool _)
      |true=>
       (refine .lone _ 0 rfl ?_;have:(a'.block == b'.block)=false:=by simpa[bne]using ne);rw[this];exact .pure (.bool _)
    refine(n9 hA).then fun t1 x y l1 ex=>(n9 (hB.mono l1)).then fun t2 x' y' l2 ex'=>?_
    have L:=Ren.le_trans l1 l2;rw[e1];cases eZ:(a'.block != b'.block)with
    |false=>
     have:=last L;rw[e1,eZ]at this;exact this
    |true=>
     have:=last L;rw[e1,eZ]at this;cases x with
     |true=>
      cases x' with
      |true=>exact aA _ sP _
      |false=>
       (have hy:y'=false:=by cases y' with|false=>rfl|true=>exact absurd (ex' rfl) sP);subst hy;cases y<;>exact this
     |false=>
      (have hy:y=false:=by cases y with|false=>rfl|true=>exact absurd (ex rfl) sP);subst hy;exact this
   |_=>exact ah _ _
 cases k with
 |nj la ca=>
  cases k2 with
  |nj lb cb=>exact key _ _ _ _ (.inl ⟨rfl,rfl⟩) (.inl ⟨rfl,rfl⟩)
  |slice lb cb h=>exact key _ _ _ _ (.inl ⟨rfl,rfl⟩) (.inr ⟨_,_,rfl,rfl,h⟩)
  |_=>exact .bad (bad _ _ (.inr fun _ _ _ e=>by cases e))
 |slice la ca h1=>
  cases k2 with
  |nj lb cb=>exact key _ _ _ _ (.inr ⟨_,_,rfl,rfl,h1⟩) (.inl ⟨rfl,rfl⟩)
  |slice lb cb h=>exact key _ _ _ _ (.inr ⟨_,_,rfl,rfl,h1⟩) (.inr ⟨_,_,rfl,rfl,h⟩)
  |_=>exact .bad (bad _ _ (.inr fun _ _ _ e=>by cases e))
 |_=>exact .bad (bad _ _ (.inl fun _ _ _ e=>by cases e))
end
open Go.Extern.Rtype Go.Extern
section
variable{P:ag0}{F:ani->Prop}{C:anB->Prop}{α β γ δ:Type}{A:Ren->α->β->Prop}{B:Ren->γ->δ->Prop}{r:Ren}
theorem NL(hl:r.aR=P.globals.size)(h:r a b):(a == P.globals.size)=(b == P.globals.size):=by
 have:=r.low h;rw[hl]at this;rw[ahp];simp only[beq_iff_eq];constructor
 ·intro e;rw[<-this (.inl oM)];exact e
 ·intro e;rw[this (.inr oM)];exact e
theorem uM(hl:r.aR=P.globals.size)(h:VR F r v w):SR P F C iq r (ara v) (ara w):=by
 refine .f_ ?_
 have e:handleType P v=handleType P w:=by
  cases h with
  |ptr a=>cases a with|mk o s x=>simp only[handleType,NL hl x]
  |_=>rfl
 rw[e];cases handleType P w with
 |none=>exact ah _ _
 |some t=>exact .pure' rfl
theorem GX(hl:r.aR=P.globals.size)(t:aat):SR P F C (dB F) r (handle t) (handle t):=.f_ (.pure' (.handle P hl t))
theorem vD(w:String)(t:aat):SR P F C iq r (noPack w t) (noPack w t):=.f_ (.ite (fun _=>aA _ sP _) fun _=>.pure' rfl)
theorem DC(w:String)(t:aat):SR P F C iq r (noPackNamed w t) (noPackNamed w t):=.f_ (.f_ (.ite (fun _=>aA _ sP _) fun _=>.pure' rfl))
theorem gA(w:String)(t:aat):SR P F C iq r (noPackMethods w t) (noPackMethods w t):=.f_ (.f_ (.ite (fun _=>aA _ sP _) fun _=>.pure' rfl))
theorem DK(t:aat):SR P F C iq r (spelt t) (spelt t):=(DC _ _).ai fun _ _ _=>wX _
theorem qY(t:aat):SR P F C iq r (Rtype.under t) (Rtype.under t):=.j4 fun i hi=>by
 obtain⟨d,_,_,_,_,_,_,_,_,_⟩:=i;cases d with
 |named n u=>exact .j4 fun j hj=>.pure' rfl
 |_=>exact .pure' rfl
theorem BC(t:aat):SR P F C iq r (kind t) (kind t):=(qY t).ai fun q p l=>by
 obtain⟨u,i⟩:=p;obtain⟨d,_,_,_,_,_,_,_,_,_⟩:=i;cases d with
 |int k=>cases k<;>exact .pure' rfl
 |float k=>cases k<;>exact .pure' rfl
 |complex k=>cases k<;>exact .pure' rfl
 |_=>first|exact .pure' rfl|exact ah _ _
theorem Dw(t:aat):SR P F C iq r (hasName t) (hasName t):=.j4 fun i hi=>by
 obtain⟨d,_,_,_,_,_,_,_,_,_⟩:=i;cases d<;>exact .pure' rfl
theorem L8(t:aat):SR P F C iq r (elem? t) (elem? t):=(qY t).ai fun q p l=>by
 obtain⟨u,i⟩:=p;obtain⟨d,_,_,_,_,_,_,_,_,_⟩:=i;cases d<;>exact .pure' rfl
theorem qi(u t:aat):SR P F C iq r (aqS u t) (aqS u t):=by
 refine(gA _ _).ai fun _ _ _=>(gA _ _).ai fun _ _ _=>(qY _).ai fun q p l=>(qY _).ai fun q2 p2 l2=>?_
 obtain⟨u,i⟩:=p;obtain⟨d,_,_,_,_,_,_,_,_,_⟩:=i;obtain⟨u2,i2⟩:=p2;obtain⟨d2,_,_,_,_,_,_,_,_,_⟩:=i2;cases d with
 |interface w=>cases d2<;>first|exact .pure' rfl|exact .j4 fun j hj=>.pure' rfl
 |_=>cases d2<;>exact .pure' rfl
theorem lz(u t:aat):SR P F C iq r (aql u t) (aql u t):=by
 refine .ite (fun _=>.pure' rfl) fun _=>(Dw _).ai fun q b l=>(Dw _).ai fun q2 b2 l2=>.ite (fun _=>.pure' rfl) fun _=>?_
 refine(qY _).ai fun q p l=>(qY _).ai fun q2 p2 l2=>?_
 obtain⟨u,i⟩:=p;obtain⟨d,_,_,_,_,_,_,_,_,_⟩:=i;obtain⟨u2,i2⟩:=p2;obtain⟨d2,_,_,_,_,_,_,_,_,_⟩:=i2;cases d with
 |chan a e=>cases d2 with
  |chan b f=>cases b<;>exact .pure' rfl
  |_=>exact .pure' rfl
 |_=>cases d2<;>exact .pure' rfl
theorem zZ(hl:r.aR=P.globals.size)(t:aat):SR P F C (dB F) r (ReflectliteType.toType t) (ReflectliteType.toType t):=
 (Ds _).ai fun _ _ l=>(GX (l.aR hl) t).dr fun _ _ _ _ k=>.pure' (.iface _ (.AY (.one k)))
theorem wV(hl:r.aR=P.globals.size)(h:VR F r v w):SR P F C iq r (ReflectliteType.ofRtype v) (ReflectliteType.ofRtype w):=by
 cases h with
 |agg a b=>
  refine pF (P:=P) (F:=F) (C:=C) (f:=fun x=>ReflectliteType.ofRtype (.agg x)) (.stuck _) (fun _ _ _=>.stuck _) (fun a b k=>?_) ⟨a,b⟩;exact(uM hl k).ai fun q t l=>(vD _ _).ai fun _ _ _=>.pure' rfl
 |_=>exact ah _ _
theorem Tm(hl:r.aR=P.globals.size)(h:bW F r x y):SR P F C (dB F) r (ReflectliteType.typeOf x) (ReflectliteType.typeOf y):=
 pF (f:=ReflectliteType.typeOf) (.stuck _) (fun a b l=>by cases a<;>exact .stuck _) (fun a b k=>by
  cases k with
  |nilIface=>exact .pure' .nilIface
  |iface t k=>exact zZ hl t
  |_=>exact ah _ _) h
theorem OX(hl:r.aR=P.globals.size){f:aat->Sem aai}(hf:∀t q,r.le q->SR P F C (dB F) q (f t) (f t))(h:bW F r x y):SR P F C (dB F) r (ReflectliteType.method f x) (ReflectliteType.method f y):=
 pF (f:=ReflectliteType.method f) (.stuck _) (fun _ _ _=>.stuck _) (fun _ _ k=>(wV hl k).ai fun q t l=>hf t q l) h
theorem X8(hl:r.aR=P.globals.size)(t:aat):SR P F C (dB F) r (ReflectliteType.elem t) (ReflectliteType.elem t):=(L8 t).ai fun q o l=>by
 cases o with
 |some e=>exact zZ (l.aR hl) e
 |none=>exact(DK _).ai fun q2 s l2=>kN _
theorem AM(hl:r.aR=P.globals.size)(n:String){f:aat->aat->Sem Bool}(hf:∀t u q,r.le q->SR P F C iq q (f t u) (f t u))(h:bW F r x y):SR P F C (dB F) r (ReflectliteType.relation n f x) (ReflectliteType.relation n f y):=
 rj (f:=ReflectliteType.relation n f) (.stuck _) (fun a=>.stuck _) (fun a b c l=>by cases b<;>exact .stuck _) (fun a b c d k k2=>by
  cases k2 with
  |nilIface=>exact kN _
  |iface t k2=>exact(wV hl k2).ai fun q u l=>(wV (l.aR hl) (k.mono l)).ai fun q2 u2 l2=>(hf _ _ q2 (Ren.le_trans l l2)).ai fun q3 b l3=>.pure' (.bool b)
  |_=>exact ah _ _) h
theorem Dx(u t:aat):SR P F C iq r (ReflectliteType.implements_ u t) (ReflectliteType.implements_ u t):=by
 refine(BC _).ai fun q k l=>.ite (fun _=>?_) fun _=>?_
 ·exact(kN (A:=fun _ (_:Unit) (_:Unit)=>False) _).bind fun _ _ _ _ k=>k.elim
 ·exact(gA _ _).ai fun _ _ _=>(vD _ _).ai fun _ _ _=>qi _ _
theorem A_(u t:aat):SR P F C iq r (ReflectliteType.assignableTo u t) (ReflectliteType.assignableTo u t):=by
 have last:∀q,SR P F C iq q (do pure ((<-aql u t) || (<-aqS u t)):Sem Bool) (do pure ((<-aql u t) || (<-aqS u t))):=fun q=>
  (lz _ _).ai fun _ _ _=>(qi _ _).ai fun _ _ _=>.pure' rfl
 refine .ite (fun _=>?_) fun _=>last _
 exact(gA _ _).ai fun _ _ _=>(gA _ _).ai fun _ _ _=>last _
theorem I3(hl:r.aR=P.globals.size){f:aat->Sem aai}(hf:∀t q,r.le q->SR P F C (dB F) q (f t) (f t))(h:bW F r x y):SR P F C (dB F) r (ReflectliteType.abiMethod f x) (ReflectliteType.abiMethod f y):=
 pF (f:=ReflectliteType.abiMethod f) (.stuck _) (fun _ _ _=>.stuck _) (fun _ _ k=>(uM hl k).ai fun _ t l=>(vD _ _).ai fun q2 _ l2=>hf t q2 (Ren.le_trans l l2)) h
end
open Go.Extern.ReflectliteValue
section
variable{P:ag0}{F:ani->Prop}{C:anB->Prop}{α β γ δ:Type}{A:Ren->α->β->Prop}{B:Ren->γ->δ->Prop}{r:Ren}
theorem ac8(hl:r.aR=P.globals.size)(t:aat){a b:akr}(h:AR r a b)(f:Nat):SR P F C (dB F) r (ReflectliteValue.mk t a f) (ReflectliteValue.mk t b f):=
 (GX hl t).dr fun _ _ _ l k=>(BC _).ai fun _ _ l2=>.pure' (.AY (.three (k.mono l2) (.ptr ((h.mono l).mono l2)) (.int _ _)))
theorem VR.zeroV:VR F r zeroV zeroV:=.AY (.three .gP .gP (.int _ _))
theorem GZ(hl:r.aR=P.globals.size)(h:VR F r v w):SR P F C (dB F) r (ReflectliteValue.unpack v) (ReflectliteValue.unpack w):=by
 cases h with
 |nilIface=>exact .pure' .zeroV
 |iface t k=>exact(oc t k).gr fun q a b l k=>ac8 (l.aR hl) t k 0
 |_=>exact ah _ _
theorem ic(m:String)(k:Nat):SR P F C A r (valueError m k:Sem α) (valueError m k:Sem β):=
 (Ds _).ai fun _ _ _=>(vC _).ai fun _ e _=>(oc e (.AY (.two (.string _) (.int _ _)))).gr fun _ _ _ _ k=>fC (.iface _ (.ptr k))
def PtR:Ren->Option (aat×akr×Nat)->Option (aat×akr×Nat)->Prop:=fun r x y=>(x=none/\y=none)\/∃t a b f,x=some (t,a,f)/\y=some (t,b,f)/\AR r a b
theorem AL(hl:r.aR=P.globals.size)(h:VR F r v w):SR P F C PtR r (arb v) (arb w):=by
 cases h with
 |agg a b=>
  obtain⟨l,m,e1,e2,hL⟩:=bW.list ⟨a,b⟩;subst e1;subst e2
  have full:∀{h h' p p' f f':aai},VR F r h h'->VR F r p p'->VR F r f f'->SR P F C PtR r (arb (.agg #[h,p,f])) (arb (.agg #[h',p',f'])):=by
   intro h h' p p' f f' k1 k2 k3
   have ac7:∀{a b:akr} (n:Int),AR r a b->n≠0\/True->SR P F C PtR r (do pure (some (<-ara h,a,n.toNat)):Sem (Option (aat×akr×Nat))) (do pure (some (<-ara h',b,n.toNat))):=fun n ha _=>
    (uM hl k1).ai fun q t l=>.pure' (.inr ⟨t,_,_,_,rfl,rfl,ha.mono l⟩)
   cases k3 with
   |int j n=>
    cases j with
    |u64=>
     cases n with
     |ofNat n=>
      cases n with
      |zero=>cases k2<;>exact .pure' (.inl ⟨rfl,rfl⟩)
      |succ n=>cases k2 with
       |ptr ha=>exact ac7 _ ha (.inr trivial)
       |_=>exact ah _ _
     |negSucc n=>cases k2 with
      |ptr ha=>exact ac7 _ ha (.inr trivial)
      |_=>exact ah _ _
    |_=>cases k2<;>exact ah _ _
   |_=>cases k2<;>exact ah _ _
  cases hL with
  |nil=>exact ah _ _
  |cons x1 h=>cases h with
   |nil=>exact ah _ _
   |cons x2 h=>cases h with
    |nil=>exact ah _ _
    |cons x3 h=>cases h with
     |nil=>exact full x1 x2 x3
     |cons d h=>exact ah _ _
 |_=>exact ah _ _
theorem DD(hl:r.aR=P.globals.size)(h:VR F r v w):SR P F C PtR r (ReflectliteValue.parts v) (ReflectliteValue.parts w):=
 (AL hl h).then fun q x y l k=>by
  rcases k with⟨rfl,rfl⟩|⟨t,a,b,f,rfl,rfl,k⟩
  ·exact .pure' (.inl ⟨rfl,rfl⟩)
  ·exact(vD _ _).ai fun q2 _ l2=>.pure' (.inr ⟨_,_,_,_,rfl,rfl,k.mono l2⟩)
theorem wZ(hl:r.aR=P.globals.size){z:Sem aai}{f:aat->akr->Nat->Nat->Sem aai}(hz:∀q,r.le q->SR P F C (dB F) q z z)(hf:∀t a b n m q,r.le q->AR q a b->SR P F C (dB F) q (f t a n m) (f t b n m))(h:bW F r x y):
  SR P F C (dB F) r (ReflectliteValue.method z f x) (ReflectliteValue.method z f y):=
 pF (f:=ReflectliteValue.method z f) (.stuck _) (fun a b l=>.stuck _) (fun a b k=>(DD hl k).then fun q x y l k=>by
  rcases k with⟨rfl,rfl⟩|⟨t,a,b,f,rfl,rfl,k⟩
  ·exact hz _ l
  ·exact hf _ _ _ _ _ _ l k) h
theorem Fy(hl:r.aR=P.globals.size){z:Sem aai}{f:aat->akr->Nat->Nat->Sem aai}(hz:∀q,r.le q->SR P F C (dB F) q z z)(hf:∀t a b n m q,r.le q->AR q a b->SR P F C (dB F) q (f t a n m) (f t b n m))(h:bW F r x y):
  SR P F C (dB F) r (ReflectliteValue.methodAny z f x) (ReflectliteValue.methodAny z f y):=
 pF (f:=ReflectliteValue.methodAny z f) (.stuck _) (fun a b l=>.stuck _) (fun a b k=>(AL hl k).then fun q x y l k=>by
  rcases k with⟨rfl,rfl⟩|⟨t,a,b,f,rfl,rfl,k⟩
  ·exact hz _ l
  ·exact hf _ _ _ _ _ _ l k) h
theorem uO(m:String)(k:Nat)(f:γ->Sem α)(f':δ->Sem β):SR P F C A r ((valueError m k:Sem γ)>>=f) ((valueError m k:Sem δ)>>=f'):=
 (ic (A:=fun _ (_:γ) (_:δ)=>False) m k).bind fun _ _ _ _ k=>k.elim
theorem X3(t:aat){a b:akr}(h:AR r a b)(n k:Nat):SR P F C (dB F) r (ReflectliteValue.isNil t a n k) (ReflectliteValue.isNil t b n k):=by
 unfold ReflectliteValue.isNil;refine .ite (fun _=>uO _ _ _ _) fun _=>(iM t h).dr fun q v w l k=>?_
 cases k<;>exact .pure' (.bool _)
theorem X_(hl:r.aR=P.globals.size)(t:aat){a b:akr}(h:AR r a b)(n k:Nat):SR P F C (dB F) r (ReflectliteValue.elem t a n k) (ReflectliteValue.elem t b n k):=by
 unfold ReflectliteValue.elem;refine .ite (fun _=>uO _ _ _ _) fun hk=>(iM t h).dr fun q v w l kv=>(L8 _).ai fun q2 o l2=>?_
 have kv:=kv.mono l2;have Y0:=l2.aR (l.aR hl)
 by_cases h20:k=20
 ·subst h20;exact GZ Y0 kv
 by_cases h22:k=22
 ·subst h22
  cases kv with
  |gP=>exact .pure' .zeroV
  |ptr ka=>cases o with
   |some e=>exact ac8 Y0 e ka _
   |none=>exact ic _ _
  |_=>cases o<;>exact ic _ _
 ·exfalso;apply hk;simp[h20,h22]
theorem afX(hl:r.aR=P.globals.size)(h:bW F r x y):SR P F C (dB F) r (ReflectliteValue.set x) (ReflectliteValue.set y):=
 rj (f:=ReflectliteValue.set) (.stuck _) (fun a=>.stuck _) (fun a b c l=>.stuck _) (fun a b c d k k2=>by
  unfold ReflectliteValue.set;refine(DD hl k).then fun q x y l e=>(DD (l.aR hl) (k2.mono l)).then fun q2 x' y' l2 e'=>?_
  have Y0:=l2.aR (l.aR hl);rcases e with⟨rfl,rfl⟩|⟨t,a,b,f,rfl,rfl,ka⟩
  ·rcases e' with⟨rfl,rfl⟩|⟨t',a',b',f',rfl,rfl,kb⟩<;>exact aA _ sP _
  rcases e' with⟨rfl,rfl⟩|⟨t',a',b',f',rfl,rfl,kb⟩
  ·exact aA _ sP _
  have ka:=ka.mono l2;refine .ite (fun _=>cm _ sP _ _) fun _=>?_
  have fin:∀q,SR P F C (dB F) q (pure (.tuple #[]):Sem aai) (pure (.tuple #[])):=fun q=>.pure' (.tuple' .nil)
  refine(iM t' kb).dr fun q3 v w l3 kv=>(lz _ _).ai fun q4 c l4=>?_
  have ka4:=(ka.mono l3).mono l4;refine .ite (fun _=>(bQ t ka4 (kv.mono l4)).ai fun q5 _ l5=>fin _) fun _=>(qi _ _).ai fun q5 c2 l5=>?_
  refine .ite (fun _=>(BC _).ai fun q6 kk l6=>?_) fun _=>?_
  ·have KV:=(ka4.mono l5).mono l6
   have kv6:=((kv.mono l4).mono l5).mono l6;refine .ite (fun _=>?_) fun _=>(bQ t KV (.iface t' kv6)).ai fun q7 _ l7=>fin _
   cases kv6 with
   |nilIface=>exact cm _ sP _ _
   |int k n=>exact(bQ t KV (.int k n)).ai fun q7 _ l7=>fin _
   |bool b=>exact(bQ t KV (.bool b)).ai fun q7 _ l7=>fin _
   |string s=>exact(bQ t KV (.string s)).ai fun q7 _ l7=>fin _
   |gP=>exact(bQ t KV .gP).ai fun q7 _ l7=>fin _
   |ptr e=>exact(bQ t KV (.ptr e)).ai fun q7 _ l7=>fin _
   |nj a b=>exact(bQ t KV (.nj a b)).ai fun q7 _ l7=>fin _
   |slice a b c=>exact(bQ t KV (.slice a b c)).ai fun q7 _ l7=>fin _
   |wM=>exact(bQ t KV .wM).ai fun q7 _ l7=>fin _
   |map e=>exact(bQ t KV (.map e)).ai fun q7 _ l7=>fin _
   |Cj=>exact(bQ t KV .Cj).ai fun q7 _ l7=>fin _
   |func a b c d e=>exact(bQ t KV (.func a b c d e)).ai fun q7 _ l7=>fin _
   |yield a b c d e=>exact(bQ t KV (.yield a b c d e)).ai fun q7 _ l7=>fin _
   |nilFunc=>exact(bQ t KV .nilFunc).ai fun q7 _ l7=>fin _
   |iface a b=>exact(bQ t KV (.iface a b)).ai fun q7 _ l7=>fin _
   |agg a b=>exact(bQ t KV (.agg a b)).ai fun q7 _ l7=>fin _
   |tuple a b=>exact(bQ t KV (.tuple a b)).ai fun q7 _ l7=>fin _
  ·refine(DK _).ai fun q6 s1 l6=>(DK _).ai fun q7 s2 l7=>?_
   exact(kN (A:=fun _ (_:Unit) (_:Unit)=>False) _).bind fun _ _ _ _ k=>k.elim) h
end
section
variable{P:ag0}{F:ani->Prop}{C:anB->Prop}{α β γ δ:Type}{A:Ren->α->β->Prop}{B:Ren->γ->δ->Prop}{r:Ren}
inductive PcR(F:ani->Prop)(r:Ren):aq4->aq4->Prop
 |val {v w:aai}:VR F r v w->PcR F r (.val v) (.val w)
 |var {a b:akr}:AR r a b->PcR F r (.var a) (.var b)
theorem iN(t:aat){x y:aq4}(h:PcR F r x y):SR P F C (dB F) r (x.get t) (y.get t):=by
 cases h with
 |val k=>exact .pure' k
 |var k=>exact iM t k
def FlR(F:ani->Prop):Ren->aat×aq4->aat×aq4->Prop:=fun r x y=>x.1=y.1/\PcR F r x.2 y.2
theorem Te:∀(l:List FieldStep) (t:aat) {r:Ren} {x y:aq4},r.aR=P.globals.size->PcR F r x y->SR P F C (FlR F) r (follow l t x) (follow l t y):=by
 intro l
 induction l with
 |nil=>intro t r x y hl h;exact .pure' ⟨rfl,h⟩
 |cons s rest ih=>
  intro t r x y hl h;unfold follow;refine .cD fun d hd=>?_
  cases d with
  |struct fs=>
   dsimp only;cases fs[s.index]? with
   |none=>exact ah _ _
   |some f=>
    dsimp only;refine .ite (fun _=>?_) fun _=>?_
    ·refine(iN t h).dr fun q v w l kv=>(qV kv (l.aR hl)).gr fun q2 a b l2 ka=>(qh ka f).gr fun q3 a b l3 kb=>?_
     exact ih f.type (l3.aR (l2.aR (l.aR hl))) (.var kb)
    ·cases h with
     |var ka=>exact(qh ka f).gr fun q3 a b l3 kb=>ih f.type (l3.aR hl) (.var kb)
     |val kv=>
      cases kv with
      |agg a b=>exact(i_ _ ⟨a,b⟩ _).dr fun q v w l kv=>ih f.type (l.aR hl) (.val kv)
      |_=>exact ah _ _
  |_=>exact ah _ _
theorem O0(hl:r.aR=P.globals.size)(ts:Array aat)(t:aat)(s m:String)(h:VR F r v w):SR P F C (dB F) r (ap' ts t #[v,aqA s,aqA m]) (ap' ts t #[w,aqA s,aqA m]):=by
 cases h with
 |ptr a=>exact .pure' (.ptr a)
 |gP=>
  unfold ap' aqA;dsimp only;refine(fo _).ai fun q n l=>.ite (fun _=>bF _ _ _ (l.aR hl)) fun _=>?_
  cases ts[0]? with
  |none=>exact ah _ _
  |some pt=>
   refine .cD fun d hd=>?_
   cases d with
   |pointer e=>
    (refine .j4 fun i hi=>?_);split
    ·split
     ·split
      (·exact aT _ (l.aR hl));(·exact aA _ sP _)
     ·exact ah _ _
    ·exact ah _ _
   |_=>exact ah _ _
 |_=>exact ah _ _
theorem Fv(hl:r.aR=P.globals.size)(t:aat){x y:aq4}(h:PcR F r x y)(p:Bool)(w:Option String):SR P F C (dB F) r (ari t x p w) (ari t y p w):=by
 unfold ari;refine .cD fun d hd=>?_
 cases d with
 |pointer e=>
  cases p with
  |true=>cases h with
   |val k=>exact iN t (.val k)
   |var k=>exact iN t (.var k)
  |false=>
   have key:SR P F C (dB F) r (do
     let ptr<-x.get t
     let ptr<-match w with
      |some name=>ap' #[t] t #[ptr,aqA "",aqA name]
      |none=>pure ptr
     loadVar e (<-asAddr ptr)) (do
     let ptr<-y.get t
     let ptr<-match w with
      |some name=>ap' #[t] t #[ptr,aqA "",aqA name]
      |none=>pure ptr
     loadVar e (<-asAddr ptr)):=by
    refine(iN t h).dr fun q v v' l kv=>?_
    cases w with
    |none=>exact(qV kv (l.aR hl)).gr fun q2 a b l2 ka=>iM e ka
    |some n=>exact(O0 (l.aR hl) _ _ _ _ kv).dr fun q1 v w l1 kv=>(qV kv (l1.aR (l.aR hl))).gr fun q2 a b l2 ka=>iM e ka
   cases h with
   |val k=>exact key
   |var k=>exact key
 |_=>
  cases p with
  |true=>cases h with
   |val k=>exact ah _ _
   |var k=>exact .pure' (.ptr k)
  |false=>cases h with
   |val k=>exact iN t (.val k)
   |var k=>exact iN t (.var k)
def Ii(P:ag0)(F:ani->Prop)(name:String):Prop:=∀t i m f p,P.info? t=some i->i.methods.find? (·.name == name)=some m->m.func=some (f,p)->F f
def MtR(F:ani->Prop):Ren->ani×aai->ani×aai->Prop:=fun r x y=>x.1=y.1/\F x.1/\VR F r x.2 y.2
theorem Tk{name:String}(hn:Ii P F name):∀(n:Nat) (t:aat) {r:Ren} {v w:aai},r.aR=P.globals.size->VR F r v w->SR P F C (MtR F) r (method n t v name) (method n t w name):=by
 intro n
 induction n with
 |zero=>intro t r v w hl h;exact aA _ sP _
 |succ n ih=>
  intro t r v w hl h;unfold method;refine .j4 fun i hi=>?_
  cases hm:i.methods.find? (·.name == name)with
  |none=>exact ah _ _
  |some m=>
   dsimp only;refine(Te _ _ hl (.val h)).then fun q x y l k=>?_
   obtain⟨t1,x⟩:=x;obtain⟨t2,y⟩:=y;obtain⟨rfl,k⟩:=k;dsimp only;have hl:=l.aR hl;cases hf:m.func with
   |none=>
    refine(iN _ k).dr fun q2 v w l2 kv=>?_
    cases kv with
    |iface t' k'=>exact ih t' (l2.aR hl) k'
    |nilIface=>exact aT _ (l2.aR hl)
    |_=>exact ah _ _
   |some fp=>
    obtain⟨f,p⟩:=fp;exact(Fv hl _ k p _).dr fun q2 v w l2 kv=>.pure' ⟨rfl,hn t i m f p hi hm hf,kv⟩
def tG(P:ag0)(F:ani->Prop)(C:anB->Prop)(ρ:Ren->Prop)(f:ani):Prop:=∀(r:Ren) (x y:Array aai),ρ r->bW F r x y->SR P F C (PO F C) r (callFunc f x) (callFunc f y)
theorem J3{ρ:Ren->Prop}{f:ani}{fn:Func}(h:P.funcs[f]?=some fn)(hb:fn.body.isSome=true)(hn:(fn.name == "runtime.NumGoroutine")=false)(hf:F f):tG P F C ρ f:=fun r x y _ k=>.f_ (by
 rw[h];have Ex:fn.body.isNone=false:=by cases hx:fn.body<;>simp_all
 simp only[hn,Ex,akg,if_false];exact SR.pure' (Zr.enter hf k))
theorem cL{ρ:Ren->Prop}{f:ani}{fn:Func}{e:Array aai->Sem aai}(h:P.funcs[f]?=some fn)(hb:fn.body.isNone=true)(hn:(fn.name == "runtime.NumGoroutine")=false)(h1:Extern.findNext fn=none)(h2:Extern.find fn=some e)(he:∀(r:Ren) (x y:Array aai),ρ r->bW F r x y->SR P F C (dB F) r (e x) (e y)):tG P F C ρ f:=fun r x y hr k=>.f_ (by
 rw[h];simp only[hn,hb,akg,if_false,if_true,h1,h2];refine .ext f ?_;exact(he r x y hr k).then fun q v w l kv=>SR.pure' (Zr.value kv))
theorem Fh{ρ:Ren->Prop}(hρ:∀r s:Ren,r.le s->ρ r->ρ s)(hF:∀f,F f->tG P F C ρ f){name:String}(hn:Ii P F name)(hl:r.aR=P.globals.size)(hr:ρ r)(h:VR F r v w)(k:bW F r x y):
  SR P F C (PO F C) r (arj v name x) (arj w name y):=by
 unfold arj;cases h with
 |iface t kv=>
  refine .f_ ?_;refine(Tk hn _ _ hl kv).then fun q a b l e=>?_
  obtain⟨f,a⟩:=a;obtain⟨f',b⟩:=b;obtain⟨e1,e2,e3⟩:=e;simp only at e1 e2 e3;subst e1;exact hF f e2 q _ _ (hρ _ _ l hr) ((bW.one e3).append (k.mono l))
 |nilIface=>exact aT _ hl
 |_=>exact ah _ _
end
structure iQ where
 P:ag0
 fs:ani->Bool
 gs:Nat->Bool
 ms:String->Bool
def uB:Nat->aai->Bool
 |_,.bool _|_,.int .. |_,.string _|_,.pointer none|_,.slice none _ _|_,.map none|_,.chan none|_,.nilFunc|_,.nilIface=>true
 |n+1,.iface _ v=>uB n v
 |n+1,.agg cs|n+1,.tuple cs=>cs.all (uB n)
 |_,_=>false
theorem GJ{F:ani->Prop}:∀(n:Nat) (v:aai),uB n v=true->∀r,VR F r v v:=by
 have base:∀n v,(match v with| .iface .. | .agg _| .tuple _=>False|_=>True)->uB n v=true->∀r,VR F r v v:=by
  intro n v h k r;cases v with
  |bool b=>exact .bool b
  |int j n=>exact .int j n
  |string s=>exact .string s
  |pointer o=>cases o with
   |none=>exact .gP
   |some a=>cases n<;>cases k
  |slice o l c=>cases o with
   |none=>exact .nj l c
   |some a=>cases n<;>cases k
  |map o=>cases o with
   |none=>exact .wM
   |some a=>cases n<;>cases k
  |chan o=>cases o with
   |none=>exact .Cj
   |some a=>cases n<;>cases k
  |nilFunc=>exact .nilFunc
  |nilIface=>exact .nilIface
  |iface t v=>exact h.elim
  |agg cs=>exact h.elim
  |tuple cs=>exact h.elim
  |float j b=>cases n<;>cases k
  |complex j a b=>cases n<;>cases k
  |func f x y=>cases n<;>cases k
 intro n
 induction n with
 |zero=>
  intro v h r;cases v with
  |iface t v=>cases h
  |agg cs=>cases h
  |tuple cs=>cases h
  |_=>exact base 0 _ trivial h r
 |succ n ih=>
  intro v h r;cases v with
  |iface t v=>exact .iface t (ih v h r)
  |agg cs=>
   have h:cs.all (uB n)=true:=h;exact .agg rfl fun i hi _=>ih _ (by rw[Array.all_eq_true]at h;exact h i hi) r
  |tuple cs=>
   have h:cs.all (uB n)=true:=h;exact .tuple rfl fun i hi _=>ih _ (by rw[Array.all_eq_true]at h;exact h i hi) r
  |_=>exact base (n+1) _ trivial h r
namespace iQ
variable(c:iQ)
def F(f:ani):Prop:=c.fs f=true
structure Ok(r:Ren):Prop where
 aR:r.aR=c.P.globals.size
 gl:∀g,c.gs g=true->r g g
theorem Ok.mono{c:iQ}{r s:Ren}(l:r.le s)(h:c.Ok r):c.Ok s:=⟨l.aR h.aR,fun g e=>l.to (h.gl g e)⟩
def Eo(t:aat):Bool:=match c.P.info? t with
 |some i=>match i.zero with
  |some v=>uB 64 v
  |none=>true
 |none=>true
def lF(t:aat):Bool:=match c.P.underlying t with
 |some (.slice e)=>c.Eo e
 |_=>true
def C3(t:aat):Bool:=match c.P.underlying t with
 |some (.map _ e)=>c.Eo e
 |_=>true
def ij:aqR->Bool
 | .tmp _=>true
 | .const v=>uB 64 v
 | .global g=>c.gs g
 | .func f=>c.fs f
def QE(t:aat):Bool:=uv c.P c.P.depth t
def Vd(s d:aat):Bool:=match c.P.underlying s,c.P.underlying d with
 |some (.int _),some (.int _)|some (.int _),some .string=>true
 |some .string,some (.slice e)=>match c.P.underlying e with|some (.int .u8)=>true|_=>false
 |some (.slice e),some .string=>match c.P.underlying e with|some (.int .u8)=>true|_=>false
 |some (.pointer t),some .unsafePointer=>c.QE t
 |some .unsafePointer,some (.pointer t)=>c.QE t
 |_,_=>false
def Cg(b:Builtin)(ts:Array aat)(t:aat):Bool:=match b with
 | .append=>(match ts[0]? with|some u=>c.lF u|none=>true)
 | .clear=>(match ts[0]? with|some u=>c.lF u|none=>true)
 | .unsafeSliceData=>(match c.P.underlying t with|some (.pointer e)=>c.QE e|_=>true)
 | .cap| .copy| .len| .max| .min| .unsafeString| .recover=>true
 |_=>false
def PY:Callee->Bool
 | .value f=>c.ij f
 | .invoke r n=>c.ij r&&c.ms n
 | .builtin _=>true
def J2(k:Call)(t:aat):Bool:=c.PY k.callee&&k.args.all c.ij&&(match k.callee with| .builtin b=>c.Cg b k.argTypes t|_=>true)
def Vh(k:Call):Bool:=(match k.callee with| .value f=>c.ij f|_=>false)&&k.args.all c.ij
def AD(aR:Bool)(o:Oper):Bool:=match o.op with
 | .move x| .assign x| .box _ x| .load _ x| .nilCheck x| .unOp _ _ x| .makeInterface _ x| .fieldAddr _ x _| .field _ x _| .next x _| .extract x _| .panic x=>c.ij x
 | .pick a b d=>c.ij a&&c.ij b&&c.ij d
 | .alloc e=>c.Eo e
 | .build t ps=>c.Eo t&&ps.all fun p=>c.ij p.2
 | .buildSlice t _ ps=>c.lF t&&ps.all fun p=>c.ij p.2
 | .insert _ m k v| .mapUpdate _ m k v=>c.ij m&&c.ij k&&c.ij v
 | .store _ a v| .binOp _ _ a v _| .indexAddr _ a v| .index _ a v=>c.ij a&&c.ij v
 | .convert s d x=>c.Vd s d&&c.ij x
 | .makeFunc fn x y=>(match fn with| .func f=>c.fs f|_=>false)&&x.all c.ij&&y.all c.ij
 | .makeMap _ r=>r.all c.ij
 | .makeSlice t a b=>c.lF t&&c.ij a&&c.ij b
 | .slice _ x l h m=>c.ij x&&l.all c.ij&&h.all c.ij&&m.all c.ij
 | .lookup t a b _=>c.C3 t&&c.ij a&&c.ij b
 | .range t x=>(match c.P.underlying t with|some (.map ..)=>false|_=>true)&&c.ij x
 | .typeAssert x _ t _=>c.Eo t&&c.ij x
 | .call k=>c.J2 k o.type
 | .defer k=>aR&&c.Vh k
 |_=>false
def eB(aR:Bool):anB->Bool
 | .skip| .exit _| .label _| .goto _| .ret| .refuse _=>true
 | .region _ ops _=>ops.all (c.AD aR)
 | .seq a b=>eB aR a&&eB aR b
 | .cond x a b=>c.ij x&&eB aR a&&eB aR b
 | .block _ b| .loop b| .scope b=>eB aR b
 | .rangeFunc f _ a b=>c.ij f&&eB false a&&eB false b&&eB aR a&&eB aR b
def C(k:anB):Prop:=c.eB false k=true
theorem yQ(h:c.Eo t=true):lE c.P c.F t:=by
 intro i v hi hv r;unfold Eo at h;rw[hi]at h;simp only[hv]at h;exact GJ _ _ h r
theorem tU(h:c.lF t=true):∀e,c.P.underlying t=some (.slice e)->lE c.P c.F e:=by
 intro e he;unfold lF at h;rw[he]at h;exact c.yQ h
theorem Oe(h:c.C3 t=true):∀k e,c.P.underlying t=some (.map k e)->lE c.P c.F e:=by
 intro k e he;unfold C3 at h;rw[he]at h;exact c.yQ h
theorem IP(h:c.QE t=true):Zq c.P t:=fun _ _ k=>qb _ _ _ _ _ h k
end iQ
section
variable{c:iQ}{r:Ren}
abbrev CR(c:iQ){α β:Type}(A:Ren->α->β->Prop)(r:Ren)(s:Sem α)(s':Sem β):Prop:=SR c.P c.F c.C A r s s'
abbrev NR(c:iQ):Ren->Next->Next->Prop:=PO c.F c.C
theorem jq{s s':Sem aai}(h:CR c (dB c.F) r s s'):CR c (NR c) r (do pure (.value (<-s))) (do pure (.value (<-s'))):=h.then fun _ _ _ _ k=>.pure' (.value k)
theorem abN{s s':Sem Unit}(h:CR c iq r s s'):CR c (NR c) r (do s;pure .skip) (do s';pure .skip):=h.then fun _ _ _ _ _=>.pure' .skip
theorem wW{f g:aai}(h:VR c.F r f g)(k:bW c.F r x y):CR c (fun s d d'=>DR c.F s d d') r (arc f x) (arc g y):=by
 cases h with
 |func hf a b d e=>exact .pure' ⟨.func hf ⟨d,e⟩,bW.append ⟨a,b⟩ k⟩
 |yield hf a b d e=>exact .pure' ⟨.yield hf ⟨d,e⟩,bW.append ⟨a,b⟩ k⟩
 |nilFunc=>exact .pure' ⟨.nil,k⟩
 |_=>exact ah _ _
theorem zV(hF:∀f,c.fs f=true->tG c.P c.F c.C c.Ok f)(hr:c.Ok r){t t':Target}(h:TR c.F r t t')(k:bW c.F r x y):CR c (NR c) r (invoke t x) (invoke t' y):=by
 cases h with
 |func hf hc=>exact hF _ hf r _ _ hr (k.append hc)
 |yield hl hc=>exact Ya hl k
 |nil=>exact aT (α:=Next) (β:=Next) .nilDeref hr.aR
 |collected a=>exact ah _ _
theorem OL(hr:c.Ok r)(b:Builtin)(ts:Array aat)(t:aat)(cs:Array Bool)(hb:c.Cg b ts t=true)(k:bW c.F r x y):CR c (NR c) r (builtin b ts t cs x) (builtin b ts t cs y):=by
 have zs:∀u e,(match ts[0]? with|some u=>c.lF u|none=>true)=true->ts[0]?=some u->c.P.underlying u=some (.slice e)->lE c.P c.F e:=by
  intro u e h hu he;rw[hu]at h;exact c.tU h e he
 cases b with
 |append=>
  exact jq (Tc ts t (fun u e=>zs u e hb) hr.aR k)
 |cap=>exact jq (afT ts t k)
 |clear=>exact jq (XZ ts t (fun u e=>zs u e hb) k)
 |copy=>exact jq (abI ts t k)
 |len=>exact jq (afU ts t k)
 |max=>exact jq (afV ts t k)
 |min=>exact jq (afW ts t k)
 |recover=>exact .pure' .recover
 |unsafeString=>exact jq (Be ts t hr.aR k)
 |unsafeSliceData=>
  refine jq (wY ts t (fun e he=>?_) k);simp only[iQ.Cg,he]at hb;exact c.IP hb
 |_=>cases hb
theorem ON(s d:aat)(h:c.Vd s d=true)(k:VR c.F r v w):CR c (dB c.F) r (convert s d v) (convert s d w):=by
 unfold convert;refine .cD fun x hx=>.cD fun y hy=>?_
 unfold iQ.Vd at h;rw[hx,hy]at h;cases x with
 |int i=>
  cases y with
  |int j=>cases k<;>first|exact Ma _ _|exact aA _ sP _
  |string=>cases k<;>first|exact uL _|exact .pure' (.string _)|exact aA _ sP _
  |_=>cases h
 |string=>
  cases y with
  |slice e=>
   cases k with
   |string b=>
    refine .cD fun z hz=>?_
    simp only[hz]at h;cases z with
    |int i=>cases i<;>first|exact zY _ _|cases h
    |_=>cases h
   |_=>exact aA _ sP _
  |_=>cases h
 |slice e=>
  cases y with
  |string=>
   have key:CR c (dB c.F) r (do
     match<-underlying e with
     | .int .u8=>aqh v
     | .int .i32=>Conv.runesToString v
     |_=>stuck "Convert: a slice of what to string?") (do
     match<-underlying e with
     | .int .u8=>aqh w
     | .int .i32=>Conv.runesToString w
     |_=>stuck "Convert: a slice of what to string?"):=by
    refine .cD fun z hz=>?_
    simp only[hz]at h;cases z with
    |int i=>cases i<;>first|exact zU k|cases h
    |_=>cases h
   cases k with
   |int i n=>exact uL _
   |string b=>exact .pure' (.string _)
   |_=>exact key
  |_=>cases h
 |pointer t=>
  cases y with
  |unsafePointer=>
   have key:=DF (C:=c.C) hx hy (c.IP h) k;cases k<;>exact key
  |_=>cases h
 |unsafePointer=>
  cases y with
  |pointer t=>
   have key:=DL (C:=c.C) hx hy (c.IP h) k;cases k<;>exact key
  |_=>cases h
 |_=>cases y<;>cases h
variable(hF:∀f,c.fs f=true->tG c.P c.F c.C c.Ok f)(hM:∀n,c.ms n=true->Ii c.P c.F n)
include hF hM
theorem abH(hr:c.Ok r){ev P6:aqR->aai}(he:∀o,c.ij o=true->VR c.F r (ev o) (P6 o))(k:Call)(t:aat)(hk:c.J2 k t=true):
  CR c (NR c) r (do let d<-resolve ev k t;invoke d.target d.args) (do let d<-resolve P6 k t;invoke d.target d.args):=by
 obtain⟨f,xs,ts⟩:=k;simp only[iQ.J2,aaB]at hk;obtain⟨⟨h1,h2⟩,h3⟩:=hk;have ha:bW c.F r (xs.map ev) (xs.map P6):=.map _ fun o ho=>he o (by rw[ap3]at h2;exact h2 o ho)
 unfold resolve;cases f with
 |value f=>
  refine(wW (he f h1) ha).then fun q d d' l kd=>?_
  exact zV hF (hr.mono l) kd.target kd.args
 |invoke o n=>
  simp only[iQ.PY,aaB]at h1;refine .bP ?_;unfold invoke;dsimp only;have kD:bW c.F r (#[ev o]++xs.map ev) (#[P6 o]++xs.map P6):=(bW.one (he o h1.1)).append ha;rcases kD.get? 0 with⟨e,e'⟩|⟨v,w,e,e',kv⟩
  ·simp only[e,e'];exact ah _ _
  ·simp only[e,e',kD.1]
   exact Fh (fun _ _ l h=>h.mono l) hF (hM n h1.2) hr.aR hr kv (kD.extract _ _)
 |builtin b=>
  refine .bP ?_;exact OL hr b ts t _ h3 ha
theorem Td(hr:c.Ok r){ev P6:aqR->aai}(he:∀o,c.ij o=true->VR c.F r (ev o) (P6 o))(aR:Bool)(o:Oper)(ho:c.AD aR o=true):CR c (NR c) r (execOp ev o) (execOp P6 o):=by
 have hl:=hr.aR;obtain⟨dst,op,t,pos,after,guard⟩:=o
 have a_:∀x:Option aqR,x.all c.ij=true->M4 c.F r (x.map ev) (x.map P6):=by
  intro x hx;cases x with
  |none=>trivial
  |some x=>exact he x hx
 have Ur:∀ps:Array (Nat×aqR),(ps.all fun p=>c.ij p.2)=true->iC (fun x y=>x.1=y.1/\VR c.F r x.2 y.2) (ps.map fun(i,x)=>(i,ev x)).toList (ps.map fun(i,x)=>(i,P6 x)).toList:=by
  intro ps hp;rw[Array.toList_map,Array.toList_map];refine .WN _ fun p hp'=>⟨rfl,he _ ?_⟩
  rw[ap3]at hp;exact hp p (by simpa using hp')
 unfold execOp;cases op with
 |move x=>exact .pure' (.value (he x ho))
 |assign x=>exact .pure' (.value (he x ho))
 |pick a b d=>
  simp only[iQ.AD,aaB]at ho;refine(zT (he a ho.1.1)).ai fun q x l=>.pure' (.value ?_)
  cases x
  ·exact(he d ho.2).mono l
  ·exact(he b ho.1.2).mono l
 |alloc e=>exact jq (XV (c.yQ ho))
 |box e x=>exact jq ((oc e (he x ho)).gr fun q a b l k=>.pure' (.ptr k))
 |build u ps=>
  simp only[iQ.AD,aaB]at ho;exact jq (XY (c.yQ ho.1) (Ur ps ho.2))
 |buildSlice u n ps=>
  simp only[iQ.AD,aaB]at ho;exact jq (Fg (c.tU ho.1) n (Ur ps ho.2))
 |load u a=>exact jq (Ti u (he a ho))
 |store u a x=>
  simp only[iQ.AD,aaB]at ho;exact abN (OZ u (he a ho.1) (he x ho.2))
 |nilCheck x=>
  have hx:=he x ho;dsimp only
  revert hx
  generalize ev x=a;generalize P6 x=b;intro hx;cases hx with
  |gP=>exact aT _ hl
  |nilIface=>exact aT _ hl
  |nilFunc=>exact aT _ hl
  |bool b=>exact .pure' (.value (.bool b))
  |int k n=>exact .pure' (.value (.int k n))
  |string s=>exact .pure' (.value (.string s))
  |ptr a=>exact .pure' (.value (.ptr a))
  |nj a b=>exact .pure' (.value (.nj a b))
  |slice a b d=>exact .pure' (.value (.slice a b d))
  |wM=>exact .pure' (.value .wM)
  |map a=>exact .pure' (.value (.map a))
  |Cj=>exact .pure' (.value .Cj)
  |func a b d e f=>exact .pure' (.value (.func a b d e f))
  |yield a b d e f=>exact .pure' (.value (.yield a b d e f))
  |iface t a=>exact .pure' (.value (.iface t a))
  |agg a b=>exact .pure' (.value (.agg a b))
  |tuple a b=>exact .pure' (.value (.tuple a b))
 |binOp op u a b yt=>
  simp only[iQ.AD,aaB]at ho;refine jq ((OP op u a b (he a ho.1) (he b ho.2)).ai fun q _ l=>?_);exact XX op u (l.aR hl) ((he a ho.1).mono l) ((he b ho.2).mono l)
 |unOp op u x=>exact jq (X9 op (he x ho))
 |convert s d x=>
  simp only[iQ.AD,aaB]at ho;exact jq (ON s d ho.1 (he x ho.2))
 |makeInterface u x=>exact jq (zW u (he x ho))
 |makeFunc fn a b=>
  simp only[iQ.AD,aaB]at ho;obtain⟨⟨h1,h2⟩,h3⟩:=ho;rw[ap3]at h2 h3;cases fn with
  |func f=>
   (have k1:bW c.F r (a.map ev) (a.map P6):=.map _ fun o ho=>he o (h2 o ho));(have k2:bW c.F r (b.map ev) (b.map P6):=.map _ fun o ho=>he o (h3 o ho));exact jq (.pure' (.func h1 k1.1 k1.2 k2.1 k2.2))
  |_=>cases h1
 |makeMap u x=>exact jq (OU u (a_ x ho))
 |makeSlice u a b=>
  simp only[iQ.AD,aaB]at ho;exact jq (I7 (c.tU ho.1.1) (he a ho.1.2) (he b ho.2) hl)
 |slice u x lo hi mx=>
  simp only[iQ.AD,aaB]at ho;obtain⟨⟨⟨h1,h2⟩,h3⟩,h4⟩:=ho;exact jq (OY u (he x h1) (a_ lo h2) (a_ hi h3) (a_ mx h4) hl)
 |fieldAddr u x f=>exact jq (OS u (he x ho) f)
 |field u x f=>exact jq (X1 u (he x ho) f)
 |indexAddr u a b=>
  simp only[iQ.AD,aaB]at ho;exact jq (OT u (he a ho.1) (he b ho.2) hl)
 |index u a b=>
  simp only[iQ.AD,aaB]at ho;exact jq (X2 u (he a ho.1) (he b ho.2) hl)
 |lookup u a b ok=>
  simp only[iQ.AD,aaB]at ho;exact jq (Tj u (c.Oe ho.1.1) hl (he a ho.1.2) (he b ho.2) ok)
 |insert u m k x=>
  simp only[iQ.AD,aaB]at ho;exact abN (yC u hl (he m ho.1.1) (he k ho.1.2) (he x ho.2))
 |mapUpdate u m k x=>
  simp only[iQ.AD,aaB]at ho;exact abN (yC u hl (he m ho.1.1) (he k ho.1.2) (he x ho.2))
 |range u x=>
  simp only[iQ.AD,aaB]at ho;refine jq (DG (fun k e h=>?_) (he x ho.2));have:=ho.1;rw[h]at this;cases this
 |next x b=>exact jq (abL b t (he x ho))
 |typeAssert x s u ok=>
  simp only[iQ.AD,aaB]at ho;exact jq (Fx s u (c.yQ ho.1) hl ok (he x ho.2))
 |extract x i=>exact jq (OQ i (he x ho))
 |call k=>exact abH hF hM hr he k t ho
 |defer k=>
  simp only[iQ.AD,aaB,iQ.Vh]at ho;obtain⟨_,h1,h2⟩:=ho;obtain⟨f,xs,ts⟩:=k;have ha:bW c.F r (xs.map ev) (xs.map P6):=.map _ fun o ho=>he o (by rw[ap3]at h2;exact h2 o ho)
  cases f with
  |value f=>exact(wW (he f h1) ha).then fun q d d' l kd=>.pure' (.defer kd)
  |_=>cases h1
 |panic x=>exact jq (X5 hl (he x ho))
 |_=>cases ho
end
inductive FP(c:iQ)(aR:Bool)(r:Ren):Item->Item->Prop
 |code (k:anB):c.eB aR k=true->FP c aR r (.code k) (.code k)
 |inBlock (i:Nat):FP c aR r (.inBlock i) (.inBlock i)
 |inLoop (k:anB):c.eB aR k=true->FP c aR r (.inLoop k) (.inLoop k)
 |inScope (k:anB):c.eB aR k=true->FP c aR r (.inScope k) (.inScope k)
 |inRegion (ops:Array Oper) (l:List Nat):ops.all (c.AD aR)=true->FP c aR r (.inRegion ops l) (.inRegion ops l)
 |xX {a b:Nat}:r a b->FP c aR r (.inRangeFunc a) (.inRangeFunc b)
 |qA {a b:Nat}:r a b->FP c aR r (.endRangeFunc a) (.endRangeFunc b)
 |beginRound:FP c aR r .beginRound .beginRound
structure PeR(F:ani->Prop)(r:Ren)(e e':aqT):Prop where
 v:VR F r e.v e'.v
 recovered:e.recovered=e'.recovered
 goexit:e.goexit=e'.goexit
inductive MdR(F:ani->Prop)(r:Ren):ark->ark->Prop
 |run:MdR F r .run .run
 |returning:MdR F r .returning .returning
 |panicking {l m:List aqT}:iC (PeR F r) l m->MdR F r (.panicking l) (.panicking m)
inductive RdR(r:Ren):Option Nat->Option Nat->Prop
 |none:RdR r none none
 |some {a b:Nat}:r a b->RdR r (some a) (some b)
structure FR(c:iQ)(r:Ren)(f f':Frame):Prop where
 fn:f.fn=f'.fn
 ok:c.fs f.fn=true
 tmps:bW c.F r f.tmps f'.tmps
 todo:iC (FP c f.roundOf.isNone r) f.todo f'.todo
 defers:iC (DR c.F r) f.defers f'.defers
 mode:MdR c.F r f.mode f'.mode
 kind:f.kind=f'.kind
 Jz:f.kind=.normal\/f.kind=.deferred
 round:RdR r f.roundOf f'.roundOf
section
variable{c:iQ}{r s:Ren}
theorem FP.mono{aR:Bool}(l:r.le s){x y:Item}(h:FP c aR r x y):FP c aR s x y:=by
 cases h with
 |code k e=>exact .code k e
 |inBlock i=>exact .inBlock i
 |inLoop k e=>exact .inLoop k e
 |inScope k e=>exact .inScope k e
 |inRegion ops k e=>exact .inRegion ops k e
 |xX a=>exact .xX (l.to a)
 |qA a=>exact .qA (l.to a)
 |beginRound=>exact .beginRound
theorem PeR.mono{F:ani->Prop}(l:r.le s){x y:aqT}(h:PeR F r x y):PeR F s x y:=⟨h.v.mono l,h.recovered,h.goexit⟩
theorem MdR.mono{F:ani->Prop}(l:r.le s){x y:ark}(h:MdR F r x y):MdR F s x y:=by
 cases h with
 |run=>exact .run
 |returning=>exact .returning
 |panicking k=>exact .panicking (k.mono fun _ _ z=>z.mono l)
theorem RdR.mono(l:r.le s){x y:Option Nat}(h:RdR r x y):RdR s x y:=by
 cases h with
 |none=>exact .none
 |some a=>exact .some (l.to a)
theorem FR.mono(l:r.le s)(h:FR c r f f'):FR c s f f':=
 ⟨h.fn,h.ok,h.tmps.mono l,h.todo.mono fun _ _ z=>z.mono l,h.defers.mono fun _ _ z=>z.mono l,h.mode.mono l,h.kind,h.Jz,h.round.mono l⟩
theorem FR.eval(h:FR c r f f')(hr:c.Ok r)(o:aqR)(ho:c.ij o=true):VR c.F r (f.eval o) (f'.eval o):=by
 cases o with
 |tmp t=>exact h.tmps.getD t .undef
 |const v=>exact GJ _ _ ho r
 |global g=>exact .ptr (.mk 0 none (hr.gl g ho))
 |func f=>exact .func ho rfl (fun i h=>absurd h (ah' i)) rfl (fun i h=>absurd h (ah' i))
theorem FR.finish(h:FR c r f f')(k:VR c.F r v w):FR c r (f.finish v) (f'.finish w):=by
 obtain⟨fn,tmps,todo,defers,mode,kind,round⟩:=f;obtain⟨fn',aj2,Mo,ZQ,ajA,ajq,afJ⟩:=f';obtain⟨h1,h2,h3,h4,h5,h6,h7,h8,h9⟩:=h;simp only at h1 h2 h3 h4 h5 h6 h7 h8 h9;cases h4 with
 |nil=>exact⟨h1,h2,h3,.nil,h5,h6,h7,h8,h9⟩
 |cons e t=>
  cases e with
  |inRegion ops l e=>
   cases l with
   |nil=>exact⟨h1,h2,h3,.cons (.inRegion ops [] e) t,h5,h6,h7,h8,h9⟩
   |cons i l=>
    refine⟨h1,h2,?_,.cons (.inRegion ops l e) t,h5,h6,h7,h8,h9⟩;simp only[Frame.finish];cases (ops[i]?).bind (·.dst)with
    |none=>exact h3
    |some d=>exact h3.set d k
  |xX a=>exact⟨h1,h2,h3,.cons (.qA a) t,h5,h6,h7,h8,h9⟩
  |beginRound=>exact⟨h1,h2,h3,t,h5,h6,h7,h8,h9⟩
  |code k e=>exact⟨h1,h2,h3,.cons (.code k e) t,h5,h6,h7,h8,h9⟩
  |inBlock i=>exact⟨h1,h2,h3,.cons (.inBlock i) t,h5,h6,h7,h8,h9⟩
  |inLoop k e=>exact⟨h1,h2,h3,.cons (.inLoop k e) t,h5,h6,h7,h8,h9⟩
  |inScope k e=>exact⟨h1,h2,h3,.cons (.inScope k e) t,h5,h6,h7,h8,h9⟩
  |qA a=>exact⟨h1,h2,h3,.cons (.qA a) t,h5,h6,h7,h8,h9⟩
theorem FR.raise(h:FR c r f f'){l m:List aqT}(k:iC (PeR c.F r) l m):FR c r (f.raise l) (f'.raise m):=by
 obtain⟨fn,tmps,todo,defers,mode,kind,round⟩:=f;obtain⟨fn',aj2,Mo,ZQ,ajA,ajq,afJ⟩:=f';obtain⟨h1,h2,h3,h4,h5,h6,h7,h8,h9⟩:=h;simp only at h1 h2 h3 h4 h5 h6 h7 h8 h9;cases h6 with
 |run=>exact⟨h1,h2,h3,h4,h5,.panicking k,h7,h8,h9⟩
 |returning=>exact⟨h1,h2,h3,h4,h5,.panicking k,h7,h8,h9⟩
 |panicking k'=>exact⟨h1,h2,h3,h4,h5,.panicking (k.append k'),h7,h8,h9⟩
theorem FR.enter(hc:∀f b,c.fs f=true->(c.P.funcs[f]?).bind (·.body)=some b->c.eB true b=true){f:ani}(hf:c.fs f=true){x y:Array aai}(k:bW c.F r x y)(kd:CallKind)(hk:kd=.normal\/kd=.deferred):FR c r (aq9 c.P f x kd) (aq9 c.P f y kd):=by
 refine⟨rfl,hf,?_,?_,.nil,.run,rfl,hk,.none⟩
 ·unfold aq9
  dsimp only;rw[k.1];exact k.append (.replicate _ .undef)
 ·refine .cons (.code _ ?_) .nil
  cases h:(c.P.funcs[f]?).bind (·.body)with
  |none=>rfl
  |some b=>exact hc f b hf h
theorem SC{o:Oper}(h:c.AD false o=true):c.AD true o=true:=by
 obtain⟨dst,op,t,pos,after,guard⟩:=o;cases op<;>first|exact h|(simp[iQ.AD]at h;done)
theorem J6(h:c.eB false k=true):c.eB true k=true:=by
 induction k with
 |region id ops d=>
  simp only[iQ.eB,ap3]at h ⊢;exact fun o ho=>SC (h o ho)
 |seq a b ia ib=>simp only[iQ.eB,aaB]at h ⊢;exact⟨ia h.1,ib h.2⟩
 |cond x a b ia ib=>simp only[iQ.eB,aaB]at h ⊢;exact⟨⟨h.1.1,ia h.1.2⟩,ib h.2⟩
 |block i b ib=>exact ib h
 |loop b ib=>exact ib h
 |scope b ib=>exact ib h
 |rangeFunc f ps a b ia ib=>simp only[iQ.eB,aaB]at h ⊢;exact⟨⟨⟨⟨h.1.1.1.1,h.1.1.1.2⟩,h.1.1.2⟩,ia h.1.2⟩,ib h.2⟩
 |_=>rfl
theorem Rn(h:c.eB false k=true)(aR:Bool):c.eB aR k=true:=by
 cases aR
 ·exact h
 ·exact J6 h
theorem FR.Dh{l l':Nat}{f:ani}(hl:r l l')(hf:c.fs f=true)(k:bW c.F r x y){a b:anB}(ha:c.C a)(hb:c.C b)(kd:CallKind)(hk:kd=.normal\/kd=.deferred):
  FR c r (Frame.round l f x a b kd) (Frame.round l' f y a b kd):=
 ⟨rfl,hf,k,.cons (.code a ha) (.cons .beginRound (.cons (.code b hb) .nil)),.nil,.run,rfl,hk,.some hl⟩
end
end Go.dO
namespace Go.Proofs.YtjligkmjlenofaaGreatDoor
open Go.Proofs.Tryz
open Go
abbrev lk:Go.Conc.Lib.WgLink:={add:=7,done:=9,wait:=10,relMerge:=17,disable:=18,enable:=19,inBubble:=20,associate:=21,fatal:=22,uOr:=23,uAdd:=24,raceRead:=25,uLoad:=26,uStore:=27,disassociate:=28,semrelease:=29,acquire:=30,isAssociated:=31,uCas:=32,raceWrite:=33,semacquire:=34,orU64:=48,addU64:=49,loadU64:=50,storeU64:=51,casU64:=52,tWgP:=64,tUP:=66,tAssoc:=68,tWg:=41,tAU:=38,tU64:=36,tUint:=43,tU32:=39,tPU32:=72,tPAU:=99,tPU64:=101,tNoCopy:=33,tANoCopy:=34,tAlign64:=35}
theorem wl:Go.Conc.Lib.WgLib prog lk:=
 ⟨func7,func9,func10,func17,func18,func19,func20,func21,func22,func23,func24,func25,func26,func27,func28,func29,func30,func31,func32,func33,func34,func48,func49,func50,func51,func52,underlying64,runUnderlying64,sizeOf64,isAgg64,zeroValue64,underlying66,runUnderlying66,sizeOf66,isAgg66,zeroValue66,underlying68,runUnderlying68,sizeOf68,isAgg68,zeroValue68,underlying41,runUnderlying41,sizeOf41,isAgg41,zeroValue41,underlying38,runUnderlying38,sizeOf38,isAgg38,zeroValue38,underlying36,runUnderlying36,sizeOf36,isAgg36,zeroValue36,underlying43,runUnderlying43,sizeOf43,isAgg43,zeroValue43,underlying39,runUnderlying39,sizeOf39,isAgg39,zeroValue39,underlying72,runUnderlying72,sizeOf72,isAgg72,zeroValue72,underlying99,runUnderlying99,sizeOf99,isAgg99,zeroValue99,underlying101,runUnderlying101,sizeOf101,isAgg101,zeroValue101,underlying0,runUnderlying0,sizeOf0,isAgg0,zeroValue0,underlying3,runUnderlying3,sizeOf3,isAgg3,zeroValue3,underlying4,runUnderlying4,sizeOf4,isAgg4,zeroValue4,underlying9,runUnderlying9,sizeOf9,isAgg9,zeroValue9,underlying20,runUnderlying20,sizeOf20,isAgg20,zeroValue20,underlying21,runUnderlying21,sizeOf21,isAgg21,zeroValue21,by kernel_rfl,by kernel_rfl⟩
end Go.Proofs.YtjligkmjlenofaaGreatDoor
