/- Part of the proof. -/
import Derived.Test.YtjligkmjlenofaaGreatDoorV20
import Derived.Conc.CompanyDraw
import Derived.Conc.TokenWalk
import Derived.Stop.LaidTwo
set_option maxHeartbeats 8000000
set_option maxRecDepth 100000
open Go renaming undef->agp,World->aah,Goroutine->ane,execOp->af',Value->aai,Frame->ary,stepG->ant,Addr->akr,yielded->adf,mem_ready->af_,Oper->aer,Event->anu,Code->anB,Program->ag0,results->al6,TypeId->aat,madeCells->atr,Trace->aqt,runNT->asI,TypeInfo->aoC,unwind->arB,getD_set_ne->agf,goexitEntry->atJ,doReturn->arA,underlying->atS
open Go.Conc renaming stepG_region_end->arw,stepG_seq->arx,Goes->asZ,stepG_block->as5,stepG_skip->arC,stepG_value->atb,served->aoj,stepG_inBlock->atf,goes_go->atg,stepG_inLoop->atj,stepG_ret'->arJ,stepG_loop->atu,goes_exit->atw,aside_setCell->aqj,stepG_none->atN,seen_eq->atQ
open Option renaming getD_some->alV,bind_eq_some_iff->as1,bind_eq_bind->atn,any_eq_true->att,map_eq_some_iff->amU,bind_some->agh
open Nat renaming lt_of_lt_of_le->ae7,le_of_ble_eq_true->asY,le_refl->ahP,blt->ath,not_lt_zero->ah',le_trans->aiC,le_of_eq->aqe,not_lt->atM,lt_or_ge->af8
open Go.Region renaming wanted->ab9,ready->aaA,binds->ad6,schedule->atP
open Array renaming getElem?_setIfInBounds_ne->ap4,getD_eq_getD_getElem?->asX,getElem?_eq_some_iff->akN,getElem?_eq_getElem->aht,mem_toList_iff->as0,replicate->apE,mem_singleton->atc,getElem?_setIfInBounds_self_of_lt->aqi,size_push->ate,not_mem_empty->atq,getElem?_eq_none->adm,getElem?_push->ans,ext_getElem?->ao8
open Go.Frame renaming enter->aq9,finish_at->as7
open Go.Region.linearise renaming go->asW
open List renaming all_eq_true->aaJ,getElem?_cons_zero->as2,getElem?_cons_succ->as3,getElem?_toArray->akD,not_mem_nil->adn,mem_cons->ab',range->ati,mem_toArray->asC,getElem?_eq_getElem->ag8,mem_range->atz,getElem?_eq_none->aj3,elem_iff->atC,any_eq_true->atK
open Option.some renaming injEq->akk,inj->ahK
open Go.IntKind renaming wrap_i64->aks,wrap->agE
open Go.RowKit renaming Below->aae
open Go.World renaming cell?->alr,frozen?->an_
open Go.Extern.ReflectliteValue renaming valueError->as_,method->atd
open Bool renaming and_eq_true->aaB,false_eq_true->akg,eq_false_iff->atF,or_eq_true->aeu
open Go.Proofs.Tryz renaming underlying31->atk
open Go.GStep renaming after->arO
open Go.Act renaming eval->agl
open Go.Extern renaming findNext->atv,find->atG
open Int renaming emod_nonneg->atx,ofNat->atE
open Go.MemAct renaming ofEvent->apZ
open Go.Addr renaming add->atB
open Go.ConcR.Gen renaming body_done->atD
open Go.Builtin renaming len_->aqY
open Go.Made renaming reckon->atH
open Go.Deferred renaming ofValue->arc
open Go.Instr renaming makeSlice->aos
open Go.Op renaming equalIn->apJ
namespace Go.gT
open Go.Proofs.Tryz
open Go.Proofs.YtjligkmjlenofaaGreatDoor(kR oM dC aS kS zH sP sO mL aP nR bR BL)
open Go Go.Conc
open Go.dO (iQ bW)
open Go.RowKit (Below)
open Go.ConcR (DC0)
variable{e:anu}{B m:Nat}{u:aqt}
theorem Way.keep{P:ag0}{main:Bool}{R:aD->aah->aah->Prop}{D:aD->aD->aah->aah->Array anu->Prop}{Stop:aD->ane->aah->Prop}{Inv:aD->aah->Prop}{S:aD}{g:ane}{w:aah}(h:Way P main R D Stop S g w)(hR:∀S w w1,R S w w1->Inv S w->Inv S w1)(hD:∀S S' w w' es,D S S' w w' es->Inv S w->Inv S' w')(hi:Inv S w):
  Way P main R (fun S S' w w' es=>D S S' w w' es/\Inv S w/\Inv S' w') (fun S g w=>Stop S g w/\Inv S w) S g w:=by
 obtain⟨τ,h⟩:=h;refine⟨τ,?_⟩
 induction τ generalizing S g w with
 |leaf=>exact fun w1 hr=>⟨h w1 hr,hR _ _ _ hr hi⟩
 |node f ih=>
  refine⟨h.1,fun w1 hr=>?_⟩;obtain⟨S',g',w',es,h1,hd,hn⟩:=h.2 w1 hr;have i1:=hR _ _ _ hr hi;have i2:=hD _ _ _ _ _ hd i1;exact⟨S',g',w',es,h1,⟨hd,i1,i2⟩,ih w1 i2 hn⟩
def AtR(_:aD)(w w1:aah):Prop:=AtRel w w1
theorem jG:Terms AtR:=⟨fun _=>atRel_refl,fun {_}=>atRel_trans _ _ _⟩
structure DB(Sb:Nat->Prop)(w w':aah)(es:Array anu):Prop where
 size:w.heap.size<=w'.heap.size
 os:w'.os=w.os
 O:w'.output=w.output
 tape:w'.tape=w.tape
 evs:∀e∈es,AT (fun _=>False) (fun b=>b<w'.heap.size/\¬ Sb b) e
theorem DB.refl{Sb:Nat->Prop}(w:aah):DB Sb w w #[]:=⟨ahP _,rfl,rfl,rfl,by simp⟩
abbrev tM(P:ag0)(Sb:Nat->Prop)(Stop:ane->aah->Prop)(g:ane)(w:aah):Prop:=Way P true AtR (fun _ _ w w' es=>DB Sb w w' es) (fun _ g w=>Stop g w) (fun _=>True) g w
theorem Way.wR{P:ag0}{D:aah->aah->Array anu->Prop}{Stop:ane->aah->Prop}{S S':aD}{g:ane}{w:aah}(h:Way P true AtR (fun _ _ w w' es=>D w w' es) (fun _ g w=>Stop g w) S g w):
  Way P true AtR (fun _ _ w w' es=>D w w' es) (fun _ g w=>Stop g w) S' g w:=by
 obtain⟨τ,h⟩:=h;refine⟨τ,?_⟩;cases τ with
 |leaf=>exact h
 |node f=>exact h
theorem Bn{P:ag0}{Sb:Nat->Prop}{Stop:ane->aah->Prop}{n:Nat}{g:ane}{w:aah}(h:asZ P true AtRel DC0 (fun g w=>tM P Sb Stop g w) n g w):tM P Sb Stop g w:=
 Way.bind jG (Way.vu (Stop:=fun _ g w=>tM P Sb Stop g w) (S:=fun _=>True) h jG (fun _ _ r=>r) (fun a b es d=>by obtain⟨rfl,rfl⟩:=d;exact DB.refl _) fun _ _ h=>h) fun _ _ _ h=>h.wR
section
variable{c:iQ}{z:Nat->Bool}{fr:Nat->Option Nat}{w:aah}{cs:List ary}{Sb:Nat->Prop}
theorem gV{N:Nat}{W w w1:aah}(h:aae N W w)(r:AtRel w w1):aae N W w1:=by
 obtain⟨d,rfl⟩:=r;exact⟨h.os,h.tape,h.output,h.size,h.block⟩
theorem J2(hS:c.rE)(h:Std c z fr w)(hz:∀b,z b=true->¬ Sb b)(hb:∀b,Sb b->b<w.heap.size){k:FuncId}{args:Array aai}{s:ByteArray}(hk:c.F k)(ha:bW c.F (idR z fr _ h.aR) args args)(hl:Lone c z fr k args (.string s) w):
  tM c.P Sb (fun g w'=>(∃f,g=Go.dO.go f cs/\f.leaving c.P w' (.returned (.string s))/\f.fn=k)/\aae w.heap.size w w') (Go.dO.go (aq9 c.P k args .normal) cs) w:=by
 let E:bw:={P:=c.P,ty:=0,wg:=0,ch:=0,oa:=0,n:=0,T:=0,L:=0,N0:=w.heap.size,Y9:=0,zero:=agp,val:=fun _=>agp,Rd:=fun b=>b<w.heap.size/\¬ Sb b,W:=w,eM:=fun _=>False}
 have key:=aco (E:=E) (main:=true) (cs:=cs) hS h (fun b hb=>⟨h.lt hb,hz b hb⟩) (fun b hb=>hb.1) nR hk ha hl (S:=E.Rd) (fun _=>id) fun b hb=>hb.1
 have k1:=Way.aj5 (R':=AtR) key (fun S a b r=>by obtain⟨d,rfl⟩:=r;exact bw.R.at S a d) (fun _ _ _ _ _ d=>d) fun _ _ _ x=>x
 have k2:=Way.keep (Inv:=fun S w'=>aae w.heap.size w w'/\∀b,S b->b<w'.heap.size/\¬ Sb b) k1
  (fun S a b r hi=>⟨gV hi.1 r,by obtain⟨d,rfl⟩:=r;exact hi.2⟩) ?_ ⟨Below.refl _ _,fun b hb=>hb⟩
 ·refine Way.wR (S:=E.Rd) (Way.aj5 k2 (fun _ _ _ r=>r) ?_ fun _ _ _ x=>⟨x.1,x.2.1⟩)
  rintro S S' a b es ⟨d,i1,i2⟩;refine⟨d.size,d.os,d.O,d.tape,fun e he=>?_⟩;cases d.evs e he with
  |read x=>exact .read (i2.2 _ x)
  |write x _=>exact .write (i2.2 _ x) id
  |obj x=>exact .obj (i2.2 _ x)
  |set x _=>exact .set (i2.2 _ x) id
  |ext f=>exact .ext f
  |room=>exact .room
  |O=>exact .O
 ·intro S S' a b es d hi
  refine⟨⟨d.os.T hi.1.os,d.tape.T hi.1.tape,d.O.T hi.1.output,aiC hi.1.size d.size,fun k hk=>?_⟩,fun k hk=>?_⟩
  ·refine(d.other k (ae7 hk hi.1.size) ?_).T (hi.1.block k hk)
   by_cases hs:Sb k;(·exact .inr fun x=>(hi.2 k x).2 hs);(·exact .inl ⟨hk,hs⟩)
  ·rcases d.new k hk with x|⟨x,y⟩
   ·exact⟨ae7 (hi.2 k x).1 d.size,(hi.2 k x).2⟩
   ·exact⟨y,fun q=>by have:=hb k q;have:=hi.1.size;omega⟩
end
open Go.ConcR (stA)
def Uf(Sb:Nat->Prop)(l:Loc):Prop:=∃b,Ik l=some b/\Sb b
theorem F_{S:aD}{x:Touch}(h:AT (fun _=>False) S e)(hx:(apZ e).touch?=some x):∀b,Ik x.loc=some b->S b:=by
 intro b hb;cases h with
 |read a=>cases hx;cases hb;exact a
 |write a _=>cases hx;cases hb;exact a
 |obj a=>cases hx;cases hb;exact a
 |set a _=>cases hx;cases hb;exact a
 |ext f=>cases hx
 |room=>cases hx
 |O=>cases hx;cases hb
theorem ZV{Rd S:aD}(h:AT Rd S e)(hB:∀b,S b->b<B):(apZ e).low B:=by
 cases h with
 |read a=>exact hB _ a
 |write a _=>exact hB _ a
 |obj a=>exact hB _ a
 |set a _=>exact hB _ a
 |ext f=>trivial
 |room=>trivial
 |O=>trivial
theorem Ct{Rd S:aD}(h:AT Rd S e):e.loc≠.mark .disable/\e.loc≠.mark .enable/\∀a,apZ e≠.mark (.release a):=by
 cases h<;>refine⟨by simp,by simp,fun a=>?_⟩<;>exact fun x=>by cases x
theorem gG{Sb:Nat->Prop}(h:AT (fun _=>False) (fun b=>b<B/\¬ Sb b) e):EvL (Uf Sb) B e:=
 ⟨fun _ hx ⟨b,hb,hs⟩=>absurd hs (F_ h hx b hb).2,(Ct h).1,(Ct h).2.1,ZV h fun _ k=>k.1⟩
theorem GH{Sh Sh':Loc->Prop}{t:aqt}(h:Past Sh B t)(k:∀l,Sh l->Sh' l):Past Sh' B t:=⟨h.clean,fun i a x y=>(h.known i a x y).imp id fun z=>⟨k _ z.1,z.2⟩,h.over,h.hears,h.seen⟩
section
variable{P:ag0}{Sb Sb':Nat->Prop}{gs:Array ane}{a:ane}{w:aah}{sl:Option (Nat×Nat)}{t:aqt}{Stop:ane->aah->Prop}
theorem Mt(F:Fr P (Uf Sb') gs a t w.heap.size)(hS:∀b,Sb' b->Sb b)(h:tM P Sb Stop a w):
  ∃(N:Nat) (gs':Array ane) (a':ane) (w':aah) (QS:Option (Nat×Nat)) (u:aqt),asI P N (crowd gs w sl) t=(.next (crowd gs' w' QS),t++u)/\gs'.size=gs.size/\Stop a' w'/\Fr P (Uf Sb') gs' a' (t++u) w'.heap.size/\Came (AT (fun _=>False) fun b=>¬ Sb b) u:=by
 obtain⟨q,hL⟩:=F.lv;obtain⟨τ,hW⟩:=h
 obtain⟨N,S',gs',a',w',QS,u,h1,h2,h3,h4,h5⟩:=beside (Shun:=Uf Sb') (Ev:=AT (fun _=>False) fun b=>¬ Sb b) (Bd:=fun w=>w.heap.size) jG (fun _ w d=>⟨d,rfl⟩) (fun _ _=>rfl)
  (fun S S' w w' es d=>⟨d.size,fun e he=>⟨gG (Cu (d.evs e he) fun b hb=>⟨hb.1,fun x=>hb.2 (hS b x)⟩),Cu (d.evs e he) fun b hb=>hb.2⟩⟩) (_,τ) _ gs a w sl t q rfl F.a0 hL F.past F.new hW
 exact⟨N,gs',a',w',QS,u,h1,h2,h3,h4,h5⟩
theorem No{S:aD}(h:Came (AT (fun _=>False) S) u){op:MemOp}(ho:op∈u){x:Touch}(hx:op.act.touch?=some x):∀b,Ik x.loc=some b->S b:=by
 rcases h op ho with⟨k,_⟩|⟨fn,pos,e,rfl,he⟩
 ·rw[k]at hx;cases hx
 ·exact F_ he hx
theorem U8{S:aD}(h:Came (AT (fun _=>False) S) u){op:MemOp}(ho:op∈u)(l:akr):op.act≠.mark (.release l):=by
 rcases h op ho with⟨_,k⟩|⟨fn,pos,e,rfl,he⟩
 ·intro e
  have:=k 0;rw[e]at this;exact ah' _ this
 ·exact(Ct he).2.2 l
end
open Go.ConcN Go.RowKit Go.Conc.Lib Go.ConcR.Gen Go.ConcN.Gen
open Go.ConcR (KK WgAt stA smA rd wr mk DC0 Payload)
section
variable{P:ag0}{main:Bool}{R R':aah->aah->Prop}{D:aah->aah->Array anu->Prop}{Stop Q:ane->aah->Prop}
theorem ajS(tr:∀a b c,R' a b->R' b c->R' a c)(_:∀a,R a a)(hR:∀a b,R a b->R' a b)(x:∀g w g',Stop g w->ant P main g w≠.go g' w #[]):∀{m n:Nat} {g:ane} {w:aah},asZ P main R DC0 Q m g w->asZ P main R' D Stop n g w->
  asZ P main R DC0 (fun g w=>Q g w/\∃n,asZ P main R' D Stop n g w) m g w:=by
 intro m
 induction m with
 |zero=>intro n g w h k w1 r;exact⟨h w1 r,n,k.rely tr (hR _ _ r)⟩
 |succ m ih=>
  intro n g w h k;rcases h with h|⟨hr,h⟩
  ·exact .inl fun w1 r=>⟨h w1 r,n,k.rely tr (hR _ _ r)⟩
  ·refine .inr ⟨hr,fun w1 r=>?_⟩
   have h1:=h w1 r;cases hs:ant P main g w1 with
   |go g' w' es=>
    rw[hs,atg]at h1;obtain⟨⟨rfl,rfl⟩,h2⟩:=h1;rw[atg];refine⟨⟨rfl,rfl⟩,?_⟩;cases n with
    |zero=>exact absurd hs (x _ _ _ (k _ (hR _ _ r)))
    |succ n=>
     (rcases k with k|⟨_,k⟩);(·exact absurd hs (x _ _ _ (k _ (hR _ _ r))))
     ·have k1:=k _ (hR _ _ r)
      rw[hs,atg]at k1;exact ih h2 k1.2
   |_=>rw[hs]at h1;exact h1.elim
end
theorem Tb{P:ag0}{main:Bool}{R:aah->aah->Prop}{D:aah->aah->Array anu->Prop}{Q:ane->aah->Prop}(rf:∀a,R a a):∀{m:Nat} {g:ane} {w:aah},asZ P main R D Q m g w->∃g w,Q g w:=by
 intro m
 induction m with
 |zero=>intro g w h;exact⟨g,w,h w (rf w)⟩
 |succ m ih=>
  intro g w h;rcases h with h|⟨_,h⟩
  ·exact⟨g,w,h w (rf w)⟩
  ·have h1:=h w (rf w)
   cases hs:ant P main g w with
   |go g' w' es=>rw[hs,atg]at h1;exact ih h1.2
   |_=>rw[hs]at h1;exact h1.elim
theorem Goes.WU{P:ag0}{main:Bool}{R:aah->aah->Prop}{D:aah->aah->Array anu->Prop}{Q Q':ane->aah->Prop}(k:∀g w,Q g w->Q' g w):∀{m:Nat} {g:ane} {w:aah},asZ P main R D Q m g w->asZ P main R D Q' m g w:=by
 intro m
 induction m with
 |zero=>intro g w h w1 r;exact k _ _ (h w1 r)
 |succ m ih=>
  intro g w h;rcases h with h|⟨hr,h⟩
  ·exact .inl fun w1 r=>k _ _ (h w1 r)
  ·refine .inr ⟨hr,fun w1 r=>?_⟩
   have h1:=h w1 r;cases hs:ant P main g w1 with
   |go g' w' es=>rw[hs,atg]at h1;rw[atg];exact⟨h1.1,ih h1.2⟩
   |_=>rw[hs]at h1;exact h1.elim
local instance:Payload:=⟨0⟩
variable{E:bw}{L:WgLink}{S:aD}{w w1:aah}{g:ane}{C i n k:Nat}{val:aai}
theorem fG{a:akr}(h:w1.heap[a.block]?=w.heap[a.block]?):w1.cell? a=w.cell? a:=by unfold alr;rw[h]
theorem yo(hC:S C)(h:E.R S w w1):RW E.ty E.wg C n 0 i w w1:=
 ⟨fun b hb=>absurd hb (ah' b),h.live,fun⟨cs,e,hs⟩=>⟨cs,(h.blocks C hC).T e,hs⟩,fG (h.blocks C hC)⟩
theorem LO(a b c:aah)(h:RW E.ty E.wg C n 0 i a b)(k:RW E.ty E.wg C n 0 i b c):RW E.ty E.wg C n 0 i a c:=
 ⟨fun b hb=>absurd hb (ah' b),k.live ∘ h.live,k.pay ∘ h.pay,k.cell.T h.cell⟩
theorem goK{Stop:aD->ane->aah->Prop}(h:asZ E.P false (E.R S) DC0 (Stop S) m g w):E.pQ Stop S g w:=
 Way.vu h bw.bg (fun _ _ x=>x) (fun _ _ _ ⟨e1,e2⟩=>by subst e1;subst e2;exact DX.refl _ _) fun _ _ x=>x
theorem VI{Stop:aD->ane->aah->Prop}(h:asZ E.P false (E.R S) DC0 (fun g w=>E.pQ Stop S g w) m g w):E.pQ Stop S g w:=
 Way.bind (Stop:=fun S' g w=>S'=S/\E.pQ Stop S g w) bw.bg (Way.vu h bw.bg (fun _ _ x=>x) (fun _ _ _ ⟨e1,e2⟩=>by subst e1;subst e2;exact DX.refl _ _) fun _ _ x=>⟨rfl,x⟩) fun _ _ _ ⟨e,x⟩=>by subst e;exact x
theorem goQ{St:ane->aah->Prop}{Stop:aD->ane->aah->Prop}(hC:S C)(h:asZ E.P false (RW E.ty E.wg C n 0 i) DC0 St m g w)(k:∀g w,St g w->Stop S g w):Way E.P false E.R DQ Stop S g w:=
 Way.vu h bw.bg (fun _ _ x=>yo hC x) (fun _ _ _ ⟨e1,e2⟩=>⟨rfl,e1,e2⟩) k
theorem wd4(h:AtD4 E.P E.ty E.wg g w):E.Wd4 S g w:=h
theorem wd3(hC:S C)(h:AtD3 E.P E.ty E.wg C n 0 k g w):E.Wd3 S g w:=⟨h.1,fun x=>let ⟨g',e,_,y⟩:=h.2 x;⟨g',e,goQ hC y fun _ _=>wd4⟩⟩
theorem wd2(hC:S C)(h:AtD2 E.P E.ty E.wg C n 0 k g w):E.Wd2 S g w:=⟨h.1,fun x=>let ⟨g',e,_,y⟩:=h.2 x;⟨g',e,goQ hC y fun _ _=>wd3 hC⟩⟩
theorem wd1(hC:S C)(h:AtD1 E.P E.ty E.wg C n 0 k g w):E.Wd1 S g w:=
 ⟨h.1,fun v wt h1 h2 x=>let ⟨g',e,y,z⟩:=h.2 v wt h1 h2 x;⟨g',e,fun q=>let ⟨_,y⟩:=y q;goQ hC y fun _ _=>wd2 hC,z⟩⟩
theorem wk1(hC:S C)(h:AtK1 E.P E.ty E.wg C n 0 k g w):E.Wk1 S g w:=⟨h.1,let ⟨g',e,_,y⟩:=h.2;⟨g',e,goQ hC y fun _ _=>wd1 hC⟩⟩
theorem wr0(hC:S C)(h:AtR0 E.P E.ty E.wg C n 0 k val g w):E.Wr0 S g w:=⟨h.1,let ⟨g',e,_,y⟩:=h.2.2;⟨g',e,goQ hC y fun _ _=>wk1 hC⟩⟩
theorem ahJ{qt:Nat}{c:ary}{cs:List ary}(H:WgLib E.P L)(ht:E.ty=L.tWg)(hC:S C)(hc:w.cell? ⟨C,i,none⟩=some val)(hl:WgLive L.tWg E.wg w)(hcm:c.mode=.returning)(hT:QuitsD E.P qt 0 (G c cs)):
  E.pQ E.Wr0 S (G ((baseD L.done).at ⟨#[.pointer (some ⟨E.wg,0,none⟩),agp,agp,agp],[]⟩ [.code (atD L)]) (c::cs)) w:=by
 have hG:=doneN H (Own:=fun _ _=>False) (Rd:=fun _ _=>False) (Wg:=E.wg) (C:=C) (n:=0) (Low:=0) (k:=i+1) hcm hT w ⟨hl,hc⟩;rw[<-ht]at hG
 have x0:∀g w g',AtR0 E.P E.ty E.wg C 0 0 (i+1) val g w->ant E.P false g w≠.go g' w #[]:=by
  rintro g w g' ⟨_,_,g2,e,_⟩ h;rw[e]at h;cases h
 have hF:KM E L S w w:=.start hl;have r {a b:aah}:= @KM.rl E L S w a b ht
 have key:asZ E.P false (E.R S) DC0 (fun g w=>∃g',ant E.P false g w=.go g' w #[mk (.releaseMerge (stA E.wg))]/\asZ E.P false (E.R S) DC0 (fun g w=>∃g',ant E.P false g w=.go g' w #[mk .disable]) 10 g' w) 30
   (G ((baseD L.done).at ⟨#[.pointer (some ⟨E.wg,0,none⟩),agp,agp,agp],[]⟩ [.code (atD L)]) (c::cs)) w:=by
  clear hG
  lib_facts
  simp only[atD,doneFn,alV]
  u_reg r hF;u_op r hF
  u_call H.f_add (nm_add L) addFn r hF
  u_c arx r hF;u_cond true r hF;u_c arx r hF;u_c arx r hF;u_reg r hF;u_op r hF;u_op r hF;u_c arw r hF;u_cond true r hF;u_reg r hF;u_op r hF
  u_in r hF
  refine goes_oper_k rfl rfl (by k_ne) (fun Kx Qd=>?_);have hcv:=run_convert_to_unsafe (P:=E.P) H.underlying_tWgP H.underlying_tUP H.room_tWg (WgLive.cell0 hF.live).choose_spec;have Qg:=fun es=>events_convert_to_unsafe (P:=E.P) H.underlying_tWgP H.underlying_tUP H.room_tWg (WgLive.cell0 hF.live).choose_spec es
  go_simp;refine Qd _ _ ⟨?_,?_⟩
  ·u_none
   intro ex hex;have RX:=mem_listed hex;simp[go_sem,Qg]at RX
  clear Qd Kx hcv Qg;refine Goes.stop (fun cG aJ=>?_)
  replace hF:=r hF aJ
  clear aJ;refine⟨_,stepG_markAt .releaseMerge sP rfl rfl (by k_ne) rfl H.f_relMerge (x_relMerge_n L) (x_relMerge_b L) (x_relMerge_x L) (x_relMerge_f L) (by simp[agl,stA]),?_⟩
  walk_nrm
  u_c arw r hF;u_c arx r hF;u_reg r hF
  exact Goes.stop (fun fQ bl=>⟨_,stepG_mark0 .disable sP rfl rfl (by k_ne) rfl H.f_disable (x_disable_n L) (x_disable_b L) (x_disable_x L) (x_disable_f L)⟩)
 have both:=ajS LO (fun _=>.refl _ _) (fun _ _=>yo hC) x0 key hG
 have fin:∀g w,((∃g',ant E.P false g w=.go g' w #[mk (.releaseMerge (stA E.wg))]/\asZ E.P false (E.R S) DC0 (fun g w=>∃g',ant E.P false g w=.go g' w #[mk .disable]) 10 g' w)/\∃n,asZ E.P false (RW E.ty E.wg C 0 0 (i+1 - 1)) (DWs E.wg (fun _ _=>False) (fun _ _=>False) C 0 (i+1)) (AtR0 E.P E.ty E.wg C 0 0 (i+1) val) n g w)->AtR0 E.P E.ty E.wg C 0 0 (i+1) val g w:=by
  rintro g w ⟨⟨g',e,hB⟩,m,k⟩;cases m with
  |zero=>exact k w (yo hC (.refl _ _))
  |succ m=>
   rcases k with k|⟨_,k⟩
   ·exact k w (yo hC (.refl _ _))
   ·have k1:=k w (yo hC (.refl _ _))
    rw[e,atg]at k1;obtain⟨g2,w2,⟨g3,e3⟩,m3,k3⟩:=Tb (fun _=>.refl _ _) (ajS LO (fun _=>.refl _ _) (fun _ _=>yo hC) x0 hB k1.2);have no:¬ AtR0 E.P E.ty E.wg C 0 0 (i+1) val g2 w2:=fun⟨_,_,g5,e5,_⟩=>by rw[e3]at e5;cases e5
    cases m3 with
    |zero=>exact(no (k3 w2 (yo hC (.refl _ _)))).elim
    |succ m3=>
     (rcases k3 with k3|⟨_,k3⟩);(·exact(no (k3 w2 (yo hC (.refl _ _)))).elim)
     ·have k4:=k3 w2 (yo hC (.refl _ _))
      rw[e3,atg]at k4;exact absurd rfl (k4.1.2 (mk .disable) sP).2.1
 exact Way.mono (goK (Stop:=fun S' g w=>S'=S/\AtR0 E.P E.ty E.wg C 0 0 (i+1) val g w) (Goes.WU (fun g w h=>⟨rfl,fin g w h⟩) both)) fun S' g w ⟨e,h⟩=>by subst e;exact wr0 hC h
end Go.gT
namespace Go.Proofs.YtjligkmjlenofaaGreatDoor
open Go.Proofs.Tryz
open Go Go.dO
variable{f j:Nat}{P:ag0}{t:aat}{x y:Operand}{v:aai}
noncomputable def fsL:List Nat:=[6,11,12,13,14,15,16]++(ati 13).map (· +35)++(ati 194).map (· +53)++[260,261,268,270,273,275,276]
noncomputable def fsB(f:Nat):Bool:=fsL.elem f
noncomputable def msL:List String:=["AssignableTo","Elem","Kind","As","Unwrap","Implements"]
noncomputable def Es:iQ:=⟨prog,fsB,fun g=>ath g 9,fun s=>msL.elem s⟩
noncomputable def adX:List Nat:=[62,135,137,138,139,142,177,178,179,180,202,208,260,261,270,273,275,276]
theorem adL:(fsL.all fun f=>adX.elem f || (match prog.funcs[f]? with|some fn=>fn.body.isSome&& !(fn.name == "runtime.NumGoroutine")|none=>false))=true:=kR
theorem ahE:(fsL.all fun f=>match (prog.funcs[f]?).bind (·.body)with|some b=>Es.eB true b|none=>true)=true:=kR
theorem VH(h:Es.fs f=true):f∈fsL:=atC.1 h
theorem UR{p:Nat->Bool}(h:fsL.all p=true)(k:f∈fsL):p f=true:=aaJ.1 h f k
theorem has(h:fsB f=true):Es.F f:=h
theorem ajF{r:Ren}(h:Es.Ok r):BO Es.P r "internal/bytealg.MaxLen":=by
 intro g hg;have e:Es.P.globals.findIdx? (·.name == "internal/bytealg.MaxLen")=some 3:=kR;rw[e]at hg;cases hg;exact h.gl 3 kR
theorem J4{F:FuncId->Prop}{C:anB->Prop}{ρ:Ren->Prop}{f:FuncId}{fn:Func}(h:P.funcs[f]?=some fn)(hb:fn.body.isNone=true)(hn:(fn.name == "runtime.NumGoroutine")=false)(h1:(atv fn).isNone=true)(h2:(atG fn).isNone=true)(h3:(fn.name.endsWith ".init"&& !fn.name.startsWith "("&& !fn.name.startsWith "gosem.")=false):tG P F C ρ f:=fun r x y hr k=>.f_ (by
 rw[h];have e1:atv fn=none:=by cases hx:atv fn<;>simp_all
 have e2:atG fn=none:=by cases hx:atG fn<;>simp_all
 simp only[hn,hb,akg,if_false,if_true,e1,e2,h3];exact .ext f (aA _ sP _))
theorem adY(f:Nat)(h:f∈adX):tG Es.P Es.F Es.C Es.Ok f:=by
 simp only[adX,ab',adn,or_false]at h;rcases h with rfl|rfl|rfl|rfl|rfl|rfl|rfl|rfl|rfl|rfl|rfl|rfl|rfl|rfl|rfl|rfl|rfl|rfl
 ·exact cL func62 kR kR kR (e:=Extern.AbiNoEscape.same) kR fun r x y _ k=>abM k
 ·exact cL func135 kR kR kR (e:=Extern.SlicesOverlaps.overlaps #[105,105] #[4]) kR fun r x y _ k=>Mc _ _ k
 ·exact cL func137 kR kR kR (e:=fun args=>Extern.ReflectliteValue.unpack (args.getD 0 (.tuple #[]))) kR fun r x y h k=>GZ h.aR (k.getD 0 .undef)
 ·exact cL func138 kR kR kR (e:=Extern.ReflectliteValue.methodAny (as_ "reflectlite.Value.Type" 0) fun t _ _ _=>Extern.ReflectliteType.toType t) kR fun r x y h k=>Fy h.aR (fun q l=>ic _ _) (fun t a b n m q l _=>zZ (l.aR h.aR) t) k
 ·exact cL func139 kR kR kR (e:=atd (as_ "reflectlite.Value.IsNil" 0) Extern.ReflectliteValue.isNil) kR fun r x y h k=>wZ h.aR (fun q l=>ic _ _) (fun t a b n m q l ab=>X3 t ab n m) k
 ·exact cL func142 kR kR kR (e:=Extern.BytealgIndex.index) kR fun r x y h k=>Fq (ajF h) k
 ·exact cL func177 kR kR kR (e:=Extern.ReflectliteType.typeOf) kR fun r x y h k=>Tm h.aR k
 ·exact cL func178 kR kR kR (e:=atd (as_ "reflectlite.Value.Elem" 0) Extern.ReflectliteValue.elem) kR fun r x y h k=>wZ h.aR (fun q l=>ic _ _) (fun t a b n m q l ab=>X_ (l.aR h.aR) t ab n m) k
 ·exact cL func179 kR kR kR (e:=Extern.ReflectliteValue.set) kR fun r x y h k=>afX h.aR k
 ·exact cL func180 kR kR kR (e:=Extern.BytealgIndexByte.indexByte) kR fun r x y _ k=>I5 k
 ·exact cL func202 kR kR kR (e:=Extern.BytealgCount.count) kR fun r x y _ k=>X0 k
 ·exact cL func208 kR kR kR (e:=Extern.BytealgMakeNoZero.makeNoZero #[3] #[54]) kR fun r x y h k=>Ft _ _ h.aR k
 ·exact J4 func260 kR kR kR kR kR
 ·exact cL func261 kR kR kR (e:=Extern.ReflectliteType.abiMethod fun t=>do pure (.int .u8 (<-Extern.Rtype.kind t))) kR fun r x y h k=>I3 h.aR (fun t q l=>(BC t).ai fun q2 p l2=>.pure' (.int _ _)) k
 ·exact cL func270 kR kR kR (e:=atd (pure (.int .u8 0)) fun _ _ _ k=>pure (.int .u8 (atE k))) kR fun r x y h k=>wZ (f:=fun _ _ _ k=>pure (.int .u8 (atE k))) (z:=pure (.int .u8 0)) h.aR (fun q l=>.pure' (.int _ _)) (fun t a b n m q l ab=>.pure' (.int _ _)) k
 ·exact cL func273 kR kR kR (e:=Extern.ReflectliteType.relation "AssignableTo" Extern.ReflectliteType.assignableTo) kR fun r x y h k=>AM h.aR _ (fun t u q l=>A_ t u) k
 ·exact cL func275 kR kR kR (e:=Extern.ReflectliteType.method Extern.ReflectliteType.elem) kR fun r x y h k=>OX h.aR (fun t q l=>X8 (l.aR h.aR) t) k
 ·exact cL func276 kR kR kR (e:=Extern.ReflectliteType.relation "Implements" Extern.ReflectliteType.implements_) kR fun r x y h k=>AM h.aR _ (fun t u q l=>Dx t u) k
theorem types_size:prog.types.size=325:=kR
theorem methods:(msL.all fun n=>(ati 325).all fun t=>match prog.info? t with|some i=>(match i.methods.find? (·.name == n)with|some m=>(match m.func with|some (f,_)=>fsB f|none=>true)|none=>true)|none=>true)=true:=kR
theorem DU{afc:aat->Option aoC}{fs:Array Field}{i:aoC}(h:Made.reckonStruct afc fs=some i):i.methods=#[]:=by
 unfold Made.reckonStruct at h;simp only[atn,as1,Option.pure_def]at h;obtain⟨s,_,h⟩:=h;split at h<;>(injection h with h;subst h;rfl)
theorem De{afc:aat->Option aoC}{d:TypeDesc}{i:aoC}(h:atH afc d=some i):i.methods=#[]:=by
 cases d with
 |struct fs=>exact DU h
 |pointer e=>
  simp only[atH,atn,as1]at h;obtain⟨j,_,h⟩:=h;split at h
  ·cases h
  ·split at h
   ·cases h
   ·obtain⟨_,_,h⟩:=as1.1 h;cases h;rfl
  ·obtain⟨_,_,h⟩:=as1.1 h;cases h;rfl
 |_=>
  simp only[atH,atn,as1,Option.pure_def,akk,reduceCtorEq]at h
  try (first
   |(obtain⟨_,_,h⟩:=h;subst h;rfl)
   |(obtain⟨_,_,_,_,h⟩:=h;subst h;rfl)
   |(obtain⟨_,_,_,_,_,_,h⟩:=h;subst h;rfl)
   |(obtain⟨_,_,_,_,_,_,_,_,h⟩:=h;subst h;rfl))
theorem IL{T:Tables}{i:aoC}(Qk:T.types.size<=t)(h:T.info? t=some i):i.methods=#[]:=by
 unfold Tables.info? at h;rw[if_neg (atM.2 Qk)]at h;unfold Made.depth Made.infoAt at h;rw[if_neg (atM.2 Qk)]at h;obtain⟨d,_,h⟩:=as1.1 h;exact De h
theorem served:Es.rE where
 calls f h:=by
  have hb:=UR adL (VH h);simp only[aeu]at hb;rcases hb with hb|hb
  ·exact adY f (atC.1 hb)
  ·cases hf:prog.funcs[f]? with
   |none=>rw[hf]at hb;cases hb
   |some fn=>
    rw[hf]at hb;simp only[aaB,Bool.not_eq_true']at hb;exact J3 hf hb.1 hb.2 h
 acX n h:=by
  intro t i m f p hi hm hf;rcases af8 t prog.types.size with aE|Qk
  ·have h1:=aaJ.1 methods n (atC.1 h)
   have h2:=aaJ.1 h1 t (atz.2 (by rw[<-types_size];exact aE));have V0:prog.info? t=some i:=hi;simp only[V0,hm,hf]at h2;exact h2
  ·have e:i.methods=#[]:=IL (T:=prog.toTables) Qk hi
   rw[e]at hm;cases hm
 code f b h hb:=by
  have hc:=UR ahE (VH h);have Ex:(prog.funcs[f]?).bind (·.body)=some b:=hb;rw[Ex]at hc;exact hc
 XB:=kR
 ahead:=kR
open Go.gT Go.Conc Go.ConcN Go.RowKit Go.Conc.Lib Go.ConcR.Gen Go.ConcN.Gen
open Go.ConcR (KK WgAt stA smA rd wr mk DC0)
structure mS where
 a0:Option akr
 n:Nat
 cap:Nat
 L:Nat->ByteArray
 oS:ByteArray->ByteArray
 N:Nat
 z:Nat->Bool
 fr:Nat->Option Nat
 W0:aah
 sh:Nat->Prop
noncomputable def mS.text(J:mS):aai:=.slice J.a0 J.n J.cap
noncomputable def mS.O(J:mS):aai:=.slice (some ⟨J.N+1,0,none⟩) J.n J.n
def mS.ro(J:mS):aD:=fun b=>b<J.N+6/\b≠J.N+5/\b≠J.N+3/\b≠J.N+1/\¬ (b<J.N/\J.sh b)
theorem mS.hi{J:mS}{b:Nat}(h:J.N<=b)(h1:b<J.N+6)(h2:b≠J.N+5)(h3:b≠J.N+3)(h4:b≠J.N+1):J.ro b:=⟨h1,h2,h3,h4,fun k=>absurd k.1 (atM.2 h)⟩
theorem mS.lo{J:mS}{b:Nat}(h:b<J.N)(k:¬ J.sh b):J.ro b:=⟨by omega,by omega,by omega,by omega,fun x=>k x.2⟩
theorem mS.ro0{J:mS}:J.ro J.N:=J.hi oM oM oM oM oM
theorem mS.ro2{J:mS}:J.ro (J.N+2):=J.hi oM oM oM oM oM
theorem mS.ro4{J:mS}:J.ro (J.N+4):=J.hi oM oM oM oM oM
noncomputable def mS.qB(J:mS)(m gH:Nat)(W:aah)(eM:Loc->Prop):bw:=
 {P:=prog,ty:=41,wg:=J.N+5,ch:=J.N+3,oa:=J.N+1,n:=m,T:=J.n,L:=gH,N0:=J.N+6,Y9:=9,zero:=.int .i64 0,val:=fun i=>.string (J.oS (J.L i)),Rd:=J.ro,W,eM}
structure mS.Ok(J:mS):Prop where
 el:∀i,i<J.n->∃ad,J.a0=some ad/\ad.block<J.N/\¬ J.sh ad.block/\J.W0.cell? (ad.add i)=some (.string (J.L i))
 small:J.n<=5
 G_:Std Es J.z J.fr J.W0
 zN:∀b,J.z b=true->b<J.N/\¬ J.sh b
 lone:∀w i,i<J.n->(∀b,J.z b=true->w.heap[b]?=J.W0.heap[b]?)->Lone Es J.z J.fr 6 #[.string (J.L i)] (.string (J.oS (J.L i))) w
structure MV(J:mS)(w:aah):Prop where
 tb:w.cell? ⟨J.N,0,none⟩=some J.text
 ob:w.cell? ⟨J.N+2,0,none⟩=some J.O
 cb:w.cell? ⟨J.N+4,0,none⟩=some (.chan (some (J.N+3)))
 old:∀b,b<J.N->¬ J.sh b->w.heap[b]?=J.W0.heap[b]?
 size:J.N+6<=w.heap.size
 live:WgLive 41 (J.N+5) w
section
variable{J:mS}{m gH:Nat}{W:aah}{eM:Loc->Prop}{S:aD}{w w1:aah}
theorem MV.rl(hS:∀b,J.ro b->S b)(h:MV J w)(r:(J.qB m gH W eM).R S w w1):MV J w1 where
 tb:=(fG (r.blocks J.N (hS _ J.ro0))).T h.tb
 ob:=(fG (r.blocks (J.N+2) (hS _ J.ro2))).T h.ob
 cb:=(fG (r.blocks (J.N+4) (hS _ J.ro4))).T h.cb
 old b hb k:=(r.blocks b (hS _ (J.lo hb k))).T (h.old b hb k)
 size:=aiC h.size r.size
 live:=r.live h.live
theorem MV.el(hJ:J.Ok)(h:MV J w){i:Nat}(hi:i<J.n):∃ad,J.a0=some ad/\J.ro (ad.add i).block/\w.cell? (ad.add i)=some (.string (J.L i)):=by
 obtain⟨ad,e,hb,hk,hc⟩:=hJ.el i hi;have Ex:(ad.add i).block=ad.block:=by unfold atB;split<;>rfl
 exact⟨ad,e,by rw[Ex];exact J.lo hb hk,(fG (by rw[Ex];exact h.old _ hb hk)).T hc⟩
theorem MV.G_(hJ:J.Ok)(h:MV J w):Std Es J.z J.fr w:=hJ.G_.keep fun b hb=>h.old b (hJ.zN b hb).1 (hJ.zN b hb).2
end
noncomputable def o5:anB:=Tryz.f8.body.getD .skip
noncomputable def mH:anB:=match o5 with| .seq _ (.seq _ (.block _ (.loop c)))=>c|c=>c
noncomputable def fW:Array aer:=match mH with| .seq _ (.seq _ (.block _ (.seq _ (.region _ ops _))))=>ops|_=>#[]
theorem Xl:fW[0]?=some {dst:=some 9,op:=.load 22 (.tmp 3),type:=22,pos:= "many.go:24",after:=#[],guard:=none}:=kR
theorem yd:(prog.funcs[8]?).any (·.norace)=false:=kR
section
variable{main:Bool}{b:ary}{a:Act}{kk:List Item}{cs:List ary}{w:aah}{ops:Array aer}{i:Nat}{rest:List Nat}{o:aer}
theorem fI{d:TypeDesc}(hd:prog.underlying t=some d)(hg:(match d with| .struct _| .array .. =>false|_=>true)=true)(ho:ops[i]?=some o)(hw:ab9 o (adf ops a.tmps)=true)(hk:b.kind≠.early)(a_:o.op=.load t x){ad:akr}(hx:a.eval x=.pointer (some ad))(hc:w.cell? ad=some v)(hq:(prog.funcs[b.fn]?).any (·.norace)=false):
  ant prog main (G (b.at a (.inRegion ops (i::rest)::kk)) cs) w=.go (G (b.at (a.put o.dst v) (.inRegion ops rest::kk)) cs) w #[⟨.cell ad,false,false⟩]:=by
 have hr:(af' a.eval o).run prog w=.ok (.value v) w:=by
  unfold af';simp only[a_,hx];cases d<;>first|(cases hg;done)|simp[go_sem,loadVar,isAgg,atS,hc,hd]
 have he:(af' a.eval o).events prog w #[]=#[⟨.cell ad,false,false⟩]:=by
  unfold af';simp only[a_,hx];cases d<;>first|(cases hg;done)|simp[go_sem,loadVar,isAgg,atS,hc,hd]
 rw[atb ho hw hk hr];unfold listed;rw[he,atQ hq sP]
end
structure mU(J:mS)(S:aD)(w:aah):Prop where
 mv:MV J w
 sub:∀b,J.ro b->S b
 only:∀b,S b->(J.ro b\/J.N+6<=b)/\b<w.heap.size
section
variable{J:mS}{m gH:Nat}{W:aah}{eM:Loc->Prop}{S S':aD}{w w1 w':aah}{es:Array anu}
theorem mU.rl(h:mU J S w)(r:(J.qB m gH W eM).R S w w1):mU J S w1:=⟨h.mv.rl h.sub r,h.sub,fun b hb=>⟨(h.only b hb).1,ae7 (h.only b hb).2 r.size⟩⟩
theorem mU.Gz(h:mU J S w)(hs:w.heap.size<=w'.heap.size)(dR:∀b,S b->S' b)(aeS:∀b,S' b->S b\/(w.heap.size<=b/\b<w'.heap.size))(hb:∀b,b<w.heap.size->(J.ro b\/b=J.N+5)->w'.heap[b]?=w.heap[b]?):mU J S' w' where
 mv:=by
  have k:=h.mv;have hz:=k.size;have key:∀b,J.ro b->w'.heap[b]?=w.heap[b]?:=fun b hr=>hb b (by have:=hr.1;omega) (.inl hr)
  refine⟨(fG (key J.N J.ro0)).T k.tb,(fG (key (J.N+2) J.ro2)).T k.ob,(fG (key (J.N+4) J.ro4)).T k.cb,
   fun b aE hk=>(key b (J.lo aE hk)).T (k.old b aE hk),aiC hz hs,?_⟩
  obtain⟨st,sm,hl⟩:=k.live;exact⟨st,sm,hl.of_block (hb _ oM (.inr rfl))⟩
 sub b hr:=dR b (h.sub b hr)
 only b Ex:=by
  rcases aeS b Ex with x|⟨x,y⟩
  ·exact⟨(h.only b x).1,ae7 (h.only b x).2 hs⟩
  ·exact⟨.inr (aiC h.mv.size x),y⟩
theorem mU.dx(h:mU J S w)(d:(J.qB m gH W eM).DW S S' w w' es):mU J S' w':=h.Gz d.size d.sub d.new fun b hb ho=>d.other b hb (ho.imp id fun e hS=>by
 subst e;rcases(h.only _ hS).1 with hr|hr
 ·exact hr.2.1 rfl
 ·omega)
end
theorem Way.inv{main:Bool}{R:aD->aah->aah->Prop}{D:aD->aD->aah->aah->Array anu->Prop}{Stop:aD->ane->aah->Prop}{Inv:aD->aah->Prop}{S:aD}{g:ane}{w:aah}(h:gT.Way P main R D Stop S g w)(hR:∀S w w1,R S w w1->Inv S w->Inv S w1)(hD:∀S S' w w' es,D S S' w w' es->Inv S w->Inv S' w')(hi:Inv S w):gT.Way P main R D (fun S g w=>Stop S g w/\Inv S w) S g w:=by
 obtain⟨τ,h⟩:=h;refine⟨τ,?_⟩
 induction τ generalizing S g w with
 |leaf=>exact fun w1 hr=>⟨h w1 hr,hR _ _ _ hr hi⟩
 |node f ih=>
  refine⟨h.1,fun w1 hr=>?_⟩;obtain⟨S',g',w',es,h1,hd,hn⟩:=h.2 w1 hr;exact⟨S',g',w',es,h1,hd,ih w1 (hD _ _ _ _ _ hd (hR _ _ _ hr hi)) hn⟩
noncomputable def b8:ary:=baseD 8
noncomputable def QT(J:mS)(i:Nat)(ad:akr):Nat->aai
 |0=>J.O
 |1=>.int .i64 i
 |2=>J.text
 |3=>.int .i64 i
 |4=>.pointer (some (ad.add i))
 |5=>.string (J.L i)
 |6=>.string (J.oS (J.L i))
 |_=>.pointer (some ((⟨J.N+1,0,none⟩:akr).add i))
structure T8(J:mS)(T:Array aai):Prop where
 sz:T.size=17
 t0:T[0]?=some (.pointer (some ⟨J.N+5,0,none⟩))
 t1:T[1]?=some (.pointer (some ⟨J.N+4,0,none⟩))
 t2:T[2]?=some (.pointer (some ⟨J.N,0,none⟩))
 t3:T[3]?=some (.pointer (some ⟨J.N+2,0,none⟩))
 t5:T[5]?=some (.chan (some (J.N+3)))
structure TI(J:mS)(i:Nat)(ad:akr)(l:Array Bool)(T:Array aai):Prop where
 t8:T8 J T
 t4:T[4]?=some (.int .i64 i)
 val:∀j,j<8->l.getD j false=true->T[9+j]?=some (QT J i ad j)
theorem T8.put{J:mS}{T:Array aai}(h:T8 J T)(hj:4<=j)(h5:j≠5)(v:aai):T8 J (T.setIfInBounds j v) where
 sz:=by simpa using h.sz
 t0:=by rw[ap4 oM];exact h.t0
 t1:=by rw[ap4 oM];exact h.t1
 t2:=by rw[ap4 oM];exact h.t2
 t3:=by rw[ap4 oM];exact h.t3
 t5:=by rw[ap4 h5];exact h.t5
theorem TI.put{J:mS}{i:Nat}{ad:akr}{l:Array Bool}{T:Array aai}(h:TI J i ad l T)(hj:j<8):TI J i ad (l.setIfInBounds j true) (T.setIfInBounds (9+j) (QT J i ad j)) where
 t8:=h.t8.put oM oM _
 t4:=by rw[ap4 oM];exact h.t4
 val k hk hl:=by
  by_cases e:k=j
  ·subst e;rw[aqi (by rw[h.t8.sz];omega)]
  ·rw[ap4 oM]
   refine h.val k hk ?_;rw[agf false (Ne.symm e)]at hl;exact hl
theorem Xm:fW[1]?=some {dst:=some 10,op:=.move (.tmp 4),type:=3,pos:= "many.go:24",after:=#[],guard:=none}:=kR
theorem Xn:fW[2]?=some {dst:=some 11,op:=.load 22 (.tmp 2),type:=22,pos:= "many.go:24",after:=#[],guard:=none}:=kR
theorem Xo:fW[3]?=some {dst:=some 12,op:=.move (.tmp 4),type:=3,pos:= "many.go:24",after:=#[],guard:=none}:=kR
theorem Oj:fW[4]?=some {dst:=some 13,op:=.indexAddr 22 (.tmp 11) (.tmp 12),type:=0,pos:= "many.go:24",after:=#[{on:=2,ground:=.data},{on:=3,ground:=.data}],guard:=none}:=kR
theorem Ol:fW[5]?=some {dst:=some 14,op:=.load 9 (.tmp 13),type:=9,pos:= "many.go:24",after:=#[{on:=4,ground:=.data}],guard:=none}:=kR
theorem IV:fW[6]?=some {dst:=some 15,op:=.call {callee:=.value (.func 6),args:=#[.tmp 14],argTypes:=#[9]},type:=9,pos:= "many.go:24",after:=#[{on:=5,ground:=.data}],guard:=none}:=kR
noncomputable def B_:Array Edge:=((fW[7]?).map (·.after)).getD #[]
noncomputable def Ca:Array Edge:=((fW[8]?).map (·.after)).getD #[]
theorem Om:fW[7]?=some {dst:=some 16,op:=.indexAddr 22 (.tmp 9) (.tmp 10),type:=0,pos:= "many.go:24",after:=B_,guard:=none}:=kR
theorem On:fW[8]?=some {dst:=none,op:=.store 9 (.tmp 16) (.tmp 15),type:=0,pos:= "many.go:24",after:=Ca,guard:=none}:=kR
theorem GC:fW.size=9:=kR
theorem ahH:∀j,j<7->∃e∈B_.toList,e.on=j/\ad6 .any e=true:=by
 have h:((ati 7).all fun j=>B_.toList.any fun e=>e.on == j&&ad6 .any e)=true:=kR;intro j hj;have:=aaJ.1 h j (atz.2 hj);obtain⟨e,he,k⟩:=atK.1 this;simp only[aaB,beq_iff_eq]at k;exact⟨e,he,k⟩
theorem ahI:∀j,j<8->∃e∈Ca.toList,e.on=j/\ad6 .any e=true:=by
 have h:((ati 8).all fun j=>Ca.toList.any fun e=>e.on == j&&ad6 .any e)=true:=kR;intro j hj;have:=aaJ.1 h j (atz.2 hj);obtain⟨e,he,k⟩:=atK.1 this;simp only[aaB,beq_iff_eq]at k;exact⟨e,he,k⟩
theorem ajw:∀e∈B_.toList,e.on<7:=by
 have h:(B_.toList.all fun e=>ath e.on 7)=true:=kR;intro e he;exact ae7 (asY (aaJ.1 h e he)) nR
theorem aox:∀e∈Ca.toList,e.on<8:=by
 have h:(Ca.toList.all fun e=>ath e.on 8)=true:=kR;intro e he;exact ae7 (asY (aaJ.1 h e he)) nR
theorem SL{l:Array Bool}(h:j∈aaA .any fW l):l.getD j true=false/\j<9/\(j=4->l.getD 2 false=true/\l.getD 3 false=true)/\(j=5->l.getD 4 false=true)/\(j=6->l.getD 5 false=true)/\
  (j=7->∀k,k<7->l.getD k false=true)/\(j=8->∀k,k<8->l.getD k false=true):=by
 obtain⟨h1,o,ho,h2⟩:=af_.1 h;have aE:j<9:=by rw[<-GC];exact(akN.1 ho).1
 refine⟨h1,aE,?_,?_,?_,?_,?_⟩
 ·rintro rfl;rw[Oj]at ho;cases ho;exact⟨h2 ⟨2,.data⟩ sP rfl,h2 ⟨3,.data⟩ sP rfl⟩
 ·rintro rfl;rw[Ol]at ho;cases ho;exact h2 ⟨4,.data⟩ sP rfl
 ·rintro rfl;rw[IV]at ho;cases ho;exact h2 ⟨5,.data⟩ sP rfl
 ·rintro rfl k hk;rw[Om]at ho;cases ho
  obtain⟨e,he,rfl,hb⟩:=ahH k hk;exact h2 e (as0.1 he) hb
 ·rintro rfl k hk;rw[On]at ho;cases ho
  obtain⟨e,he,rfl,hb⟩:=ahI k hk;exact h2 e (as0.1 he) hb
theorem Oy{l:Array Bool}(hs:l.size=9)(h:l.getD 8 true=false):aaA .any fW l≠ []:=by
 have key:∃j,j∈aaA .any fW l:=by
  have f2t:∀j,j<9->l.getD j true≠false->l.getD j false=true:=fun j hj hn=>by
   rw[asX,aht oM]at hn ⊢;simp only[alV]at hn ⊢;cases hx:l[j]with
   |true=>rfl
   |false=>exact absurd hx hn
  by_cases c0:l.getD 0 true=false
  ·exact⟨0,af_.2 ⟨c0,_,Xl,by simp⟩⟩
  by_cases c1:l.getD 1 true=false
  ·exact⟨1,af_.2 ⟨c1,_,Xm,by simp⟩⟩
  by_cases c2:l.getD 2 true=false
  ·exact⟨2,af_.2 ⟨c2,_,Xn,by simp⟩⟩
  by_cases c3:l.getD 3 true=false
  ·exact⟨3,af_.2 ⟨c3,_,Xo,by simp⟩⟩
  by_cases c4:l.getD 4 true=false
  ·exact⟨4,af_.2 ⟨c4,_,Oj,by intro e he _;simp only[asC,ab',adn,or_false]at he;rcases he with rfl|rfl<;>exact f2t _ sP aS⟩⟩
  by_cases c5:l.getD 5 true=false
  ·exact⟨5,af_.2 ⟨c5,_,Ol,by intro e he _;simp only[asC,ab',adn,or_false]at he;subst he;exact f2t _ sP aS⟩⟩
  by_cases c6:l.getD 6 true=false
  ·exact⟨6,af_.2 ⟨c6,_,IV,by intro e he _;simp only[asC,ab',adn,or_false]at he;subst he;exact f2t _ sP aS⟩⟩
  have all:∀k,k<7->l.getD k true≠false:=fun k hk=>by
   match k,hk with
   |0,_=>exact c0
   |1,_=>exact c1
   |2,_=>exact c2
   |3,_=>exact c3
   |4,_=>exact c4
   |5,_=>exact c5
   |6,_=>exact c6
  by_cases c7:l.getD 7 true=false
  ·exact⟨7,af_.2 ⟨c7,_,Om,fun e he _=>f2t _ (by have:=ajw e (as0.2 he);omega) (all _ (ajw e (as0.2 he)))⟩⟩
  ·exact⟨8,af_.2 ⟨h,_,On,fun e he _=>by
   (have aE:=aox e (as0.2 he);refine f2t _ oM ?_);by_cases e7:e.on=7;(·rw[e7];exact c7)
   ·exact all _ oM⟩⟩
 obtain⟨j,hj⟩:=key;intro e;rw[e]at hj;cases hj
theorem aa0{l:Array Bool}(hs:l.size=9)(h:l.getD 8 true=false)(fuel t:Nat):∃j t',j∈aaA .any fW l/\asW .any fW (fuel+1) t l []=j::asW .any fW fuel t' (l.setIfInBounds j true) []:=by
 have hr:=Oy hs h;have KS:0<(aaA .any fW l).length:=List.length_pos_iff.2 hr;have aE:t % (aaA .any fW l).length<(aaA .any fW l).length:=Nat.mod_lt _ KS;refine⟨_,t / (aaA .any fW l).length,List.getElem_mem aE,?_⟩
 have e:asW .any fW (fuel+1) t l []=match (aaA .any fW l)[t % (aaA .any fW l).length]? with
  |some i=>asW .any fW fuel (t / (aaA .any fW l).length) (l.setIfInBounds i true) [i]
  |none=>[]:=rfl
 rw[e,ag8 aE];simp only[];rw[linearise_go_acc];rfl
section
variable{main:Bool}{b:ary}{a:Act}{kk:List Item}{cs:List ary}{w:aah}{ops:Array aer}{i:Nat}{rest:List Nat}{o:aer}
theorem He(ho:ops[i]?=some o)(hw:ab9 o (adf ops a.tmps)=true)(hk:b.kind≠.early)(a_:o.op=.move x):
  ant prog main (G (b.at a (.inRegion ops (i::rest)::kk)) cs) w=.go (G (b.at (a.put o.dst (a.eval x)) (.inRegion ops rest::kk)) cs) w #[]:=by
 have hr:(af' a.eval o).run prog w=.ok (.value (a.eval x)) w:=by
  unfold af';simp[go_sem,a_]
 have he:(af' a.eval o).events prog w #[]=#[]:=by
  unfold af';simp[go_sem,a_]
 rw[atb ho hw hk hr,listed,he,Conc.seen_none]
theorem lS(ho:ops[i]?=some o)(hw:ab9 o (adf ops a.tmps)=true)(hk:b.kind≠.early)(a_:o.op=.indexAddr 22 x y){ad:akr}{len cap k:Nat}(hx:a.eval x=.slice (some ad) len cap)(hy:a.eval y=.int .i64 k)(aE:k<len):
  ant prog main (G (b.at a (.inRegion ops (i::rest)::kk)) cs) w=.go (G (b.at (a.put o.dst (.pointer (some (ad.add k)))) (.inRegion ops rest::kk)) cs) w #[]:=by
 have h0:(0:Int)<=(k:Int):=by omega
 have h1:(k:Int)<(len:Int):=by omega
 have hr:(af' a.eval o).run prog w=.ok (.value (.pointer (some (ad.add k)))) w:=by
  unfold af';simp only[a_,hx,hy];simp[go_sem,h0,h1,underlying22]
 have he:(af' a.eval o).events prog w #[]=#[]:=by
  unfold af';simp only[a_,hx,hy];simp[go_sem,h0,h1,underlying22]
 rw[atb ho hw hk hr,listed,he,Conc.seen_none]
theorem Mg(ho:ops[i]?=some o)(hw:ab9 o (adf ops a.tmps)=true)(hk:b.kind≠.early)(a_:o.op=.store 9 x y){ad:akr}{s:ByteArray}{u:aai}(hx:a.eval x=.pointer (some ad))(hy:a.eval y=.string s)(hc:w.cell? ad=some u)(hz:w.frozen? ad=false)(hq:(prog.funcs[b.fn]?).any (·.norace)=false):
  ant prog main (G (b.at a (.inRegion ops (i::rest)::kk)) cs) w=.go (G (b.at (a.put o.dst agp) (.inRegion ops rest::kk)) cs) (w.setCell ad (.string s)) #[⟨.cell ad,true,false⟩]:=by
 have hr:(af' a.eval o).run prog w=.ok .skip (w.setCell ad (.string s)):=by
  unfold af';simp only[a_,hx,hy];simp[go_sem,stored,hc,hz]
 have he:(af' a.eval o).events prog w #[]=#[⟨.cell ad,true,false⟩]:=by
  unfold af';simp only[a_,hx,hy];simp[go_sem,events_store prog w #[] ad (.string s) .plain rfl,hc,hz]
 rw[atN ho hw hk hr];unfold listed;rw[he,atQ hq sP]
end
theorem Ch{main:Bool}{b:ary}{a:Act}{kk:List Item}{cs:List ary}{w:aah}{ops:Array aer}{i:Nat}{rest:List Nat}{o:aer}{ats:Array aat}(ho:ops[i]?=some o)(hw:ab9 o (adf ops a.tmps)=true)(hk:b.kind≠.early)(a_:o.op=.call {callee:=.value (.func 6),args:=#[x],argTypes:=ats}):
  ant prog main (G (b.at a (.inRegion ops (i::rest)::kk)) cs) w=.go (G (aq9 prog 6 #[a.eval x] .normal) (b.at a (.inRegion ops (i::rest)::kk)::cs)) w #[]:=by
 have hb:Tryz.f6.body.isNone=false:=kR;rw[stepG_enter ho hw hk (run_call_body a_ func6 kR hb)];have e:listed prog b.fn a o w=#[]:=by unfold listed;rw[events_call_body a_ func6 kR hb];exact seen_none _ _
 rw[e];simp
theorem x8{main:Bool}{f c:ary}{cs:List ary}{w:aah}{fn:Func}{t:Tmp}{w0:aah}(hl:f.leaving P w0 (.returned v))(hf:P.funcs[f.fn]?=some fn)(hr:fn.results=#[.tmp t]):
  ant P main (G f (c::cs)) w=.go (G (c.finish v) cs) w #[]:=by
 obtain⟨h1,h2,h3,fn',h4,h5⟩:=hl;rw[hf]at h4;cases h4
 have h5':(al6 fn f.tmps).run P w=.ok v w:=by
  rw[results_tmp hr]at h5 ⊢;injection h5 with h5 _
  rw[h5]
 have he:=events_results_tmp (P:=P) (w:=w) hr f.tmps #[];obtain⟨a,b,c,d,m,k,r⟩:=f;simp only at h1 h2 h3 hf h5' he;subst h1 h2 h3;simp[G,ant,arB,arA,hf,h5',he,seen,arO]
section
variable{J:mS}{m gH:Nat}{W:aah}{eM:Loc->Prop}{i:Nat}{ad:akr}{cs:List ary}{kk:List Item}{ds:List Deferred}{Next:aD->ane->aah->Prop}
theorem gW{a:Act}{t:Tmp}(h:a.tmps[t]?=some v):a.eval (.tmp t)=v:=by simp[agl,h]
theorem drawn(hJ:J.Ok)(hi:i<J.n)(ha:J.a0=some ad)(hb:J.ro (ad.add i).block)(Gq:∀T' w' S',T8 J T'->mU J S' w'->(J.qB m gH W eM).pQ Next S' (G (b8.at ⟨T',ds⟩ (.inRegion fW []::kk)) cs) w'):
  ∀(fuel t:Nat) (l:Array Bool) (T:Array aai) (w:aah) (S:aD),l.size=9->l.getD 8 true=false->l.toList.count false=fuel->TI J i ad l T->mU J S w->
   (J.qB m gH W eM).pQ ((J.qB m gH W eM).Wst i Next) S (G (b8.at ⟨T,ds⟩ (.inRegion fW (asW .any fW fuel t l [])::kk)) cs) w:=by
 intro fuel
 induction fuel with
 |zero=>
  intro t l T w S hs h8 hc hT hO;exfalso
  have:l[8]?=some false:=by
   rw[asX,aht oM]at h8;rw[aht oM];simpa using h8
  have hm:false∈l.toList:=by
   rw[as0];exact Array.mem_of_getElem? this
  have:=List.count_pos_iff.2 hm;omega
 |succ fuel ih=>
  intro t l T w S hs h8 hc hT hO;obtain⟨j,t',hj,e⟩:=aa0 hs h8 fuel t;rw[e];obtain⟨hl,aE,d4,d5,d6,d7,d8⟩:=SL hj;have ID:(l.setIfInBounds j true).size=9:=by simpa using hs
  have ML:(l.setIfInBounds j true).toList.count false=fuel:=by
   rw[Array.toList_setIfInBounds,List.count_set (by simpa[hs]using aE)]
   have e1:l.toList[j]'(by simpa[hs]using aE)=false:=by
    rw[asX,aht oM]at hl;simpa using hl
   rw[e1];have e2:((false:Bool) == false)=true:=rfl;have e3:((true:Bool) == false)=false:=rfl;rw[e2,e3,hc];rfl
  have h8':j≠8->(l.setIfInBounds j true).getD 8 true=false:=fun eZ=>by rw[agf true eZ];exact h8
  have xm:∀(es:Array anu),j<8->(∀w1,mU J S w1->ant prog false (G (b8.at ⟨T,ds⟩ (.inRegion fW (j::asW .any fW fuel t' (l.setIfInBounds j true) [])::kk)) cs) w1=
     .go (G (b8.at ⟨T.setIfInBounds (9+j) (QT J i ad j),ds⟩ (.inRegion fW (asW .any fW fuel t' (l.setIfInBounds j true) [])::kk)) cs) w1 es)->(∀e∈es,AT J.ro S e)->
    (J.qB m gH W eM).pQ ((J.qB m gH W eM).Wst i Next) S (G (b8.at ⟨T,ds⟩ (.inRegion fW (j::asW .any fW fuel t' (l.setIfInBounds j true) [])::kk)) cs) w:=by
   (intro es hj8 gX yT;refine Way.step rfl fun w1 hr=>⟨S,_,w1,es,gX w1 (hO.rl hr),⟨fun _=>id,fun _ h=>.inl h,ahP _,fun _ _ _=>rfl,rfl,rfl,rfl,yT⟩,?_⟩);exact ih t' _ _ w1 S ID (h8' oM) ML (hT.put hj8) (hO.rl hr)
  have WL:∀a:akr,J.ro a.block->∀e∈(#[⟨.cell a,false,false⟩]:Array anu),AT J.ro S e:=fun a h e he=>by
   rw[atc]at he;subst he;exact .read (hO.sub _ h)
  have iS:=hT.t8.sz
  match j,aE with
  |0,_=>exact xm _ oM (fun w1 h=>fI (d:=.slice 9) underlying22 rfl Xl rfl dC rfl (gW hT.t8.t3) h.mv.ob yd) (WL _ J.ro2)
  |1,_=>exact xm _ oM (fun w1 h=>by rw[He Xm rfl dC rfl,gW hT.t4];rfl) sP
  |2,_=>exact xm _ oM (fun w1 h=>fI (d:=.slice 9) underlying22 rfl Xn rfl dC rfl (gW hT.t8.t2) h.mv.tb yd) (WL _ J.ro0)
  |3,_=>exact xm _ oM (fun w1 h=>by rw[He Xo rfl dC rfl,gW hT.t4];rfl) sP
  |4,_=>
   obtain⟨q2,q3⟩:=d4 rfl;exact xm _ oM (fun w1 h=>lS Oj rfl dC rfl (gW ((hT.val 2 oM q2).T (by rw[QT,mS.text,ha]))) (gW (hT.val 3 oM q3)) hi) sP
  |5,_=>
   exact xm _ oM (fun w1 h=>fI (d:=.string) underlying9 rfl Ol rfl dC rfl (gW (hT.val 4 oM (d5 rfl))) (by
    obtain⟨ad',e1,_,e2⟩:=h.mv.el hJ hi;rw[ha]at e1;cases e1;exact e2) yd) (WL _ hb)
  |6,_=>
   (refine Way.step rfl fun w1 hr=>⟨S,_,w1,#[],Ch IV rfl dC rfl,⟨fun _=>id,fun _ h=>.inl h,ahP _,fun _ _ _=>rfl,rfl,rfl,rfl,by simp⟩,?_⟩);have RN:=hO.rl hr;rw[gW (hT.val 5 oM (d6 rfl))];have hN6:(J.qB m gH W eM).N0=J.N+6:=rfl;have G_:=RN.mv.G_ hJ
   have key:=aco (E:=J.qB m gH W eM) (main:=false) (cs:=b8.at ⟨T,ds⟩ (.inRegion fW (6::asW .any fW fuel t' (l.setIfInBounds 6 true) [])::kk)::cs) served G_ (fun b hz=>J.lo (hJ.zN b hz).1 (hJ.zN b hz).2) (fun b h=>h.1) RN.mv.size
    (has kR) (.one (.string _)) (hJ.lone w1 i hi fun b hz=>RN.mv.old b (hJ.zN b hz).1 (hJ.zN b hz).2) RN.sub (fun b hb=>(RN.only b hb).2)
   (refine Way.bind bw.bg (Way.inv (Inv:=fun S w=>mU J S w) key (fun _ _ _ r h=>h.rl r) (fun _ _ _ _ _ d h=>h.dx d) RN) ?_;rintro S2 g2 w2 ⟨⟨f,rfl,hlv,E1⟩,hO2⟩;refine Way.step rfl fun w3 E5=>⟨S2,_,w3,#[],x8 hlv (by rw[E1];exact func6) (show Tryz.f6.results=#[.tmp 2] by kernel_rfl),⟨fun _=>id,fun _ h=>.inl h,ahP _,fun _ _ _=>rfl,rfl,rfl,rfl,by simp⟩,?_⟩);rw[as7,IV];exact ih t' _ _ w3 S2 ID (h8' oM) ML (hT.put (j:=6) oM) (hO2.rl E5)
  |7,_=>
   exact xm _ oM (fun w1 h=>lS Om rfl dC rfl (gW (hT.val 0 oM (d7 rfl 0 oM))) (gW (hT.val 1 oM (d7 rfl 1 oM))) hi) sP
  |8,_=>
   have e0:asW .any fW fuel t' (l.setIfInBounds 8 true) []=[]:=by
    cases fuel with
    |zero=>rfl
    |succ fuel=>
     exfalso;have hm:=List.count_pos_iff.1 (show 0<(l.setIfInBounds 8 true).toList.count false by omega);rw[as0]at hm;obtain⟨k,hk,e⟩:=Array.mem_iff_getElem.1 hm;have hk9:k<9:=by rw[ID]at hk;exact hk
     have:(l.setIfInBounds 8 true).getD k false=true:=by
      by_cases e8:k=8;(·subst e8;rw[asX,aqi oM];rfl);(·rw[agf false (Ne.symm e8)];exact d8 rfl k oM)
     rw[asX,aht hk,e]at this;cases this
   (rw[e0];refine Way.stop fun w1 hr=>⟨rfl,fun cl Un iS=>?_⟩);have RN:=hO.rl hr;have hv7:=hT.val 7 oM (d8 rfl 7 oM);have hv6:=hT.val 6 oM (d8 rfl 6 oM)
   have ead:(⟨J.N+1,0,none⟩:akr).add i=⟨J.N+1,i,none⟩:=by
    unfold atB;split
    ·rename_i h;rw[h]
    ·simp
   (have an4:cl.size=J.n:=iS;have aib:w1.heap[J.N+1]?=some (.cells cl 9):=Un;have qD:w1.cell? ⟨J.N+1,i,none⟩=some (cl[i]'oM):=by simp[alr,aib,an4,hi]);(have hz:w1.frozen? ⟨J.N+1,i,none⟩=false:=by simp[an_,aib]);(refine⟨_,Mg (s:=J.oS (J.L i)) On rfl dC rfl (gW (hv7.T (congrArg some (show Value.pointer (some ((⟨J.N+1,0,none⟩:akr).add i))=.pointer (some ⟨J.N+1,i,none⟩) by rw[ead])))) (gW hv6) qD hz yd,?_⟩;refine Gq _ _ S hT.t8 ?_;have A:=aqj w1 ⟨J.N+1,i,none⟩ (.string (J.oS (J.L i)));refine RN.Gz (aqe A.size.symm) (fun _=>id) (fun _ h=>.inl h) fun b hb V3=>A.block b ?_);(rintro rfl;rcases V3 with hr|hn);(·exact hr.2.2.2.1 rfl);(·exact absurd hn (by show J.N+1≠J.N+5;omega))
end
open Go.ConcR (KK WgAt stA smA rd wr mk DC0)
noncomputable def za:ary:={(default:ary)with fn:=prog.funcs.size,defers:=[],mode:=.panicking [atJ]}
def gE(J:mS):aai:=.pointer (some ⟨J.N+5,0,none⟩)
def call8(J:mS):Deferred:={target:=.fn (.func 8) #[gE J,.pointer (some ⟨J.N+4,0,none⟩),.pointer (some ⟨J.N,0,none⟩),.pointer (some ⟨J.N+2,0,none⟩)],args:=#[]}
noncomputable def T80(J:mS):Array aai:=#[gE J,.pointer (some ⟨J.N+4,0,none⟩),.pointer (some ⟨J.N,0,none⟩),.pointer (some ⟨J.N+2,0,none⟩),agp,agp,agp,agp,agp,agp,agp,agp,agp,agp,agp,agp,agp]
theorem ahB(J:mS)(w:aah):ant prog false (born prog (call8 J)) w=.go (G (b8.at ⟨T80 J,[]⟩ [.code o5]) [za]) w #[]:=by
 simp[born,call8,ant,arB,callDeferred,invoke,callFunc,func8,Tryz.f8,seen,arO,G,aq9,Frame.at,b8,baseD,za,o5,T80]
theorem afC(T:Array aai):QuitsD prog 2 0 (G {b8.at ⟨T,[]⟩ []with mode:=.returning} [za]):=by
 refine QuitsD.ctl (g':=G za []) rfl (fun w=>?_) ?_
 ·simp[G,ant,arB,arA,al6,Frame.at,b8,baseD,za,func8,Tryz.f8,seen,arO,atJ]
 refine QuitsD.ctl (g':={G za []with status:=.finished}) rfl (fun w=>?_) ⟨rfl,rfl⟩;simp[G,ant,arB,za,atJ,Frame.catches];rfl
def ds8(J:mS):List Deferred:=[dcall 9 #[gE J]]
noncomputable def Gm(J:mS)(T:Array aai):ane:=G (b8.at ⟨T,ds8 J⟩ [.code mH,.inLoop mH,.inBlock 0]) [za]
noncomputable def IU:Array aer:=match mH with| .seq (.region _ ops _) _=>ops|_=>#[]
noncomputable def kk2:List Item:=[.code (match mH with| .seq _ c=>c|c=>c),.inLoop mH,.inBlock 0]
noncomputable def gR(J:mS)(T:Array aai):ane:=G (b8.at ⟨T,ds8 J⟩ (.inRegion IU [0,1]::kk2)) [za]
theorem ZE{α:Type}(T:Array α)(h:T.size=17):∃v0 v1 v2 v3 v4 v5 v6 v7 v8 v9 v10 v11 v12 v13 v14 v15 v16,T=#[v0,v1,v2,v3,v4,v5,v6,v7,v8,v9,v10,v11,v12,v13,v14,v15,v16]:=by
 obtain⟨l⟩:=T
 match l,h with
 |[v0,v1,v2,v3,v4,v5,v6,v7,v8,v9,v10,v11,v12,v13,v14,v15,v16],_=>exact⟨v0,v1,v2,v3,v4,v5,v6,v7,v8,v9,v10,v11,v12,v13,v14,v15,v16,rfl⟩
section
variable{J:mS}{m gH:Nat}{W:aah}{eM:Loc->Prop}{S:aD}{w:aah}{T:Array aai}
theorem T8.open(h:T8 J T):∃v4 v6 v7 v8 v9 v10 v11 v12 v13 v14 v15 v16,T=#[gE J,.pointer (some ⟨J.N+4,0,none⟩),.pointer (some ⟨J.N,0,none⟩),.pointer (some ⟨J.N+2,0,none⟩),v4,.chan (some (J.N+3)),v6,v7,v8,v9,v10,v11,v12,v13,v14,v15,v16]:=by
 obtain⟨v0,v1,v2,v3,v4,v5,v6,v7,v8,v9,v10,v11,v12,v13,v14,v15,v16,rfl⟩:=ZE T h.sz;obtain⟨-,t0,t1,t2,t3,t5⟩:=h;simp only[akD,as2,as3,akk]at t0 t1 t2 t3 t5;subst t0 t1 t2 t3 t5;exact⟨v4,v6,v7,v8,v9,v10,v11,v12,v13,v14,v15,v16,rfl⟩
theorem T8.mk'{v4 v6 v7 v8 v9 v10 v11 v12 v13 v14 v15 v16:aai}:T8 J #[gE J,.pointer (some ⟨J.N+4,0,none⟩),.pointer (some ⟨J.N,0,none⟩),.pointer (some ⟨J.N+2,0,none⟩),v4,.chan (some (J.N+3)),v6,v7,v8,v9,v10,v11,v12,v13,v14,v15,v16]:=⟨rfl,rfl,rfl,rfl,rfl,rfl⟩
theorem toRecv{Stop:aD->ane->aah->Prop}(hO:mU J S w)(h:∀w1,mU J S w1->Stop S (gR J T) w1):(J.qB m gH W eM).pQ Stop S (Gm J T) w:=by
 have hF:=hO;have r {a b:aah}:= @mU.rl J m gH W eM S a b;simp only[Gm,mH,o5,Tryz.f8,alV];refine goK (m:=3) ?_
 u_c arx r hF;u_reg r hF
 refine Goes.stop (fun cG aJ=>?_);have:=h _ (r hF aJ);simpa only[gR,IU,kk2,mH,o5,Tryz.f8,alV]using this
theorem acp(hT:T8 J T)(w:aah):ant prog false (gR J T) w=.comm (gR J T) #[rcase (J.N+3) (.int .i64 0)] true (.recv true) w #[]:=by
 obtain⟨v4,v6,v7,v8,v9,v10,v11,v12,v13,v14,v15,v16,rfl⟩:=hT.open;have h0:IU[0]?=some {dst:=some 6,op:=.recv 31 (.tmp 5) true,type:=0,pos:= "many.go:23",after:=#[],guard:=none}:=kR
 have hr:(af' (agl ⟨#[gE J,.pointer (some ⟨J.N+4,0,none⟩),.pointer (some ⟨J.N,0,none⟩),.pointer (some ⟨J.N+2,0,none⟩),v4,.chan (some (J.N+3)),v6,v7,v8,v9,v10,v11,v12,v13,v14,v15,v16],ds8 J⟩) {dst:=some 6,op:=.recv 31 (.tmp 5) true,type:=0,pos:= "many.go:23",after:=#[],guard:=none}).run prog w=.ok (.comm #[rcase (J.N+3) (.int .i64 0)] true (.recv true)) w:=by
  unfold af';simp[go_sem,agl,rcase]
 have he:(af' (agl ⟨#[gE J,.pointer (some ⟨J.N+4,0,none⟩),.pointer (some ⟨J.N,0,none⟩),.pointer (some ⟨J.N+2,0,none⟩),v4,.chan (some (J.N+3)),v6,v7,v8,v9,v10,v11,v12,v13,v14,v15,v16],ds8 J⟩) {dst:=some 6,op:=.recv 31 (.tmp 5) true,type:=0,pos:= "many.go:23",after:=#[],guard:=none}).events prog w #[]=#[]:=by
  unfold af';simp[go_sem,agl]
 unfold gR;rw[stepG_comm h0 rfl dC hr,listed,he,Conc.seen_none]
theorem PZ(hT:T8 J T)(hO:mU J S w):(J.qB m gH W eM).pQ (J.qB m gH W eM).Wr0 S (aoj (gR J T) (recvd true (.int .i64 0) false)) w:=by
 have hF:=hO;have r {a b:aah}:= @mU.rl J m gH W eM S a b;obtain⟨v4,v6,v7,v8,v9,v10,v11,v12,v13,v14,v15,v16,rfl⟩:=hT.open
 have e:aoj (gR J #[gE J,.pointer (some ⟨J.N+4,0,none⟩),.pointer (some ⟨J.N,0,none⟩),.pointer (some ⟨J.N+2,0,none⟩),v4,.chan (some (J.N+3)),v6,v7,v8,v9,v10,v11,v12,v13,v14,v15,v16]) (recvd true (.int .i64 0) false)=
   G (b8.at ⟨#[gE J,.pointer (some ⟨J.N+4,0,none⟩),.pointer (some ⟨J.N,0,none⟩),.pointer (some ⟨J.N+2,0,none⟩),v4,.chan (some (J.N+3)),.tuple #[.int .i64 0,.bool false],v7,v8,v9,v10,v11,v12,v13,v14,v15,v16],ds8 J⟩ (.inRegion IU [1]::kk2)) [za]:=by
  simp only[gR,IU,kk2,mH,o5,Tryz.f8,alV,aoj,G,as7,recvd,if_true];rfl
 rw[e];simp only[IU,kk2,mH,o5,Tryz.f8,alV];refine VI (m:=12) ?_
 change asZ prog _ _ _ _ _ _ _
 u_op r hF
 u_c arw r hF
 u_c arx r hF
 u_cond false r hF
 u_in r hF
 refine atw rfl ?_;refine⟨by u_nil,?_⟩
 u_c stepG_end r hF
 u_in r hF
 rw[stepG_unwind_enter rfl func9 (nm_done lk) rfl];simp only[atg];refine⟨by u_nil,?_⟩
 walk_nrmf Tryz.f9
 refine Goes.stop (fun cG aJ=>?_)
 replace hF:=r hF aJ
 have k:=ahJ (E:=J.qB m gH W eM) (L:=lk) wl rfl (C:=J.N) (i:=0) (hF.sub _ J.ro0) hF.mv.tb hF.mv.live (c:={b8.at ⟨#[gE J,.pointer (some ⟨J.N+4,0,none⟩),.pointer (some ⟨J.N,0,none⟩),.pointer (some ⟨J.N+2,0,none⟩),v4,.chan (some (J.N+3)),.tuple #[.int .i64 0,.bool false],.bool false,v8,v9,v10,v11,v12,v13,v14,v15,v16],[]⟩ []with mode:=.returning}) (cs:=[za]) rfl (afC _);simp only[atD,doneFn,alV]at k;exact k
theorem ajn{i:Nat}{Next:aD->ane->aah->Prop}(hJ:J.Ok)(hi:i<J.n)(Gq:∀T' w' S',T8 J T'->mU J S' w'->(J.qB m gH W eM).pQ Next S' (Gm J T') w')(hT:T8 J T)(hO:mU J S w):
  (J.qB m gH W eM).pQ ((J.qB m gH W eM).Wst i Next) S (aoj (gR J T) (recvd true (.int .i64 i) true)) w:=by
 have hF:=hO;have r {a b:aah}:= @mU.rl J m gH W eM S a b;obtain⟨v4,v6,v7,v8,v9,v10,v11,v12,v13,v14,v15,v16,rfl⟩:=hT.open
 have e:aoj (gR J #[gE J,.pointer (some ⟨J.N+4,0,none⟩),.pointer (some ⟨J.N,0,none⟩),.pointer (some ⟨J.N+2,0,none⟩),v4,.chan (some (J.N+3)),v6,v7,v8,v9,v10,v11,v12,v13,v14,v15,v16]) (recvd true (.int .i64 i) true)=
   G (b8.at ⟨#[gE J,.pointer (some ⟨J.N+4,0,none⟩),.pointer (some ⟨J.N,0,none⟩),.pointer (some ⟨J.N+2,0,none⟩),v4,.chan (some (J.N+3)),.tuple #[.int .i64 i,.bool true],v7,v8,v9,v10,v11,v12,v13,v14,v15,v16],ds8 J⟩ (.inRegion IU [1]::kk2)) [za]:=by
  simp only[gR,IU,kk2,mH,o5,Tryz.f8,alV,aoj,G,as7,recvd,if_true];rfl
 rw[e];simp only[IU,kk2,mH,o5,Tryz.f8,alV];refine VI (m:=14) ?_
 change asZ prog _ _ _ _ _ _ _
 u_op r hF
 u_c arw r hF
 u_c arx r hF
 u_cond true r hF
 u_c arC r hF
 u_c as5 r hF
 u_c arx r hF
 u_reg r hF
 u_op r hF
 u_op r hF
 u_c arw r hF
 refine Goes.stop (fun cG aJ=>?_)
 replace hF:=r hF aJ
 clear aJ hO;refine Way.step rfl fun fQ bl=>⟨S,_,_,_,stepG_region_draw,⟨fun _=>id,fun _ h=>.inl h,ahP _,fun _ _ _=>rfl,rfl,rfl,rfl,by simp⟩,?_⟩
 replace hF:=r hF bl
 obtain⟨ad,ha,hb,_⟩:=hF.mv.el hJ hi;have anp:prog.follows .mixedOrders=true:=kR
 have key:=drawn (m:=m) (gH:=gH) (W:=W) (eM:=eM) (cs:=[za]) (kk:=[.inBlock 1,.inLoop mH,.inBlock 0]) (ds:=ds8 J) (Next:=Next) hJ hi ha hb ?_ 9 (fQ.tape fQ.drawn (.order 8 4)) (apE 9 false)
  #[gE J,.pointer (some ⟨J.N+4,0,none⟩),.pointer (some ⟨J.N,0,none⟩),.pointer (some ⟨J.N+2,0,none⟩),.int .i64 i,.chan (some (J.N+3)),.tuple #[.int .i64 i,.bool true],.bool true,.int .i64 i,v9,v10,v11,v12,v13,v14,v15,v16] {fQ with drawn:=fQ.drawn+1} S rfl rfl rfl
  ⟨.mk',rfl,fun j hj hl=>?_⟩ ⟨⟨hF.mv.tb,hF.mv.ob,hF.mv.cb,hF.mv.old,hF.mv.size,hF.mv.live⟩,hF.sub,hF.only⟩
 ·have es:atP (prog.follows .mixedOrders) fW (fQ.tape fQ.drawn (.order 8 4))=asW .any fW 9 (fQ.tape fQ.drawn (.order 8 4)) (apE 9 false) []:=by
   rw[anp];unfold atP Region.linearise;simp only[Bool.true_or,if_true,GC]
  rw[<-es]at key;simp only[fW,mH,o5,Tryz.f8,alV]at key;exact key
 ·intro T' w' S' hT' hO'
  have hF:=hO';have r {a b:aah}:= @mU.rl J m gH W eM S' a b;simp only[fW,mH,o5,Tryz.f8,alV];refine VI (m:=4) ?_
  change asZ prog _ _ _ _ _ _ _
  u_c arw r hF
  u_c atf r hF
  u_c atj r hF
  refine Goes.stop (fun cG aJ=>?_);have:=Gq T' _ S' hT' (r hF aJ);simpa only[Gm,mH,o5,Tryz.f8,alV]using this
 ·have:(apE 9 false).getD j false=false:=by
   rw[asX];cases hx:(apE 9 false)[j]? with
   |none=>rfl
   |some b=>
    obtain⟨h1,h2⟩:=akN.1 hx;rw[Array.getElem_replicate]at h2;subst h2;rfl
  rw[this]at hl;cases hl
theorem aj7(hJ:J.Ok):∀(f:Nat) (S:aD) (w:aah) (T:Array aai),T8 J T->mU J S w->(J.qB m gH W eM).pQ ((J.qB m gH W eM).BZ f) S (Gm J T) w
 |0,_,_,_,hT,hO=>toRecv hO fun w1 RN=>⟨rfl,rfl,acp hT w1,PZ hT RN⟩
 |f+1,_,_,_,hT,hO=>toRecv hO fun w1 RN=>⟨rfl,rfl,acp hT w1,PZ hT RN,fun _ hi=>ajn hJ hi (fun T' w' S' hT' hO'=>aj7 hJ f S' w' T' hT' hO') hT RN⟩
theorem MV.own(h:MV J w):mU J J.ro w:=⟨h,fun _=>id,fun b hb=>⟨.inl hb,by have:=hb.1;have:=h.size;omega⟩⟩
theorem af7(hJ:J.Ok)(h:MV J w):(J.qB m gH W eM).pQ ((J.qB m gH W eM).BZ J.n) J.ro (born prog (call8 J)) w:=by
 have hF:=h.own;have r {a b:aah}:= @mU.rl J m gH W eM J.ro a b;refine Way.step rfl fun fQ bl=>⟨J.ro,_,_,_,ahB J fQ,⟨fun _=>id,fun _ h=>.inl h,ahP _,fun _ _ _=>rfl,rfl,rfl,rfl,by simp⟩,?_⟩
 replace hF:=r hF bl
 clear h bl;simp only[o5,Tryz.f8,alV,T80];refine VI (m:=8) ?_
 change asZ prog _ _ _ _ _ _ _
 u_c arx r hF
 u_reg r hF
 u_defer r hF
 u_c arw r hF
 u_c arx r hF
 u_reg r hF
 refine Goes.stop (fun cG aJ=>?_)
 replace hF:=r hF aJ
 clear aJ;refine Way.step rfl fun fQ bl=>⟨J.ro,_,_,_,fI (d:=.chan .both 3) atk rfl rfl rfl dC rfl rfl (r hF bl).mv.cb yd,⟨fun _=>id,fun _ h=>.inl h,ahP _,fun _ _ _=>rfl,rfl,rfl,rfl,?_⟩,?_⟩
 ·intro e he
  rw[atc]at he;subst he;exact .read J.ro4
 replace hF:=r hF bl
 clear bl
 walk_nrm
 refine VI (m:=4) ?_
 change asZ prog _ _ _ _ _ _ _
 u_c arw r hF
 u_c as5 r hF
 u_c atu r hF
 refine Goes.stop (fun cG aJ=>?_)
 replace hF:=r hF aJ
 have k:=aj7 (m:=m) (gH:=gH) (W:=W) (eM:=eM) hJ J.n J.ro _ _ (.mk' (v4:=agp) (v6:=agp) (v7:=agp) (v8:=agp) (v9:=agp) (v10:=agp) (v11:=agp) (v12:=agp) (v13:=agp) (v14:=agp) (v15:=agp) (v16:=agp)) hF;simp only[Gm,mH,o5,Tryz.f8,alV,ds8]at k;exact k
end
end Go.Proofs.YtjligkmjlenofaaGreatDoor
namespace Go.gT
open Go.Proofs.Tryz
open Go.Proofs.YtjligkmjlenofaaGreatDoor(kR oM dC aS kS zH sP sO mL aP nR bR BL)
open Go Go.Conc
section
variable{E:bw}{Fin AV:ane->Prop}{Anch FI:ane->aah->Prop}{S:aD}{g:ane}{w:aah}
theorem bw.gT.mono(hF:∀a,Fin a->AV a)(h:E.gT Fin S g w):E.gT AV S g w:=⟨h.1,let ⟨g',e,k⟩:=h.2;⟨g',e,hF _ k⟩⟩
theorem bw.Mke.mono(hF:∀a,Fin a->AV a)(h:E.Mke Fin S g w):E.Mke AV S g w:=⟨h.1,let ⟨g',e,k⟩:=h.2;⟨g',e,Way.mono k fun _ _ _=>.mono hF⟩⟩
theorem bw.Mw4.mono(hF:∀a,Fin a->AV a)(h:E.Mw4 Fin S g w):E.Mw4 AV S g w:=⟨h.1,fun x=>let ⟨g',e,k⟩:=h.2 x;⟨g',e,Way.mono k fun _ _ _=>.mono hF⟩⟩
theorem bw.Mw3.mono(hF:∀a,Fin a->AV a)(h:E.Mw3 Fin S g w):E.Mw3 AV S g w:=⟨h.1,h.2.1,h.2.2.1,fun x=>let ⟨g',e,k⟩:=h.2.2.2 x;⟨g',e,Way.mono k fun _ _ _=>.mono hF⟩⟩
theorem bw.Mw2.mono{vs:Nat}(hF:∀a,Fin a->AV a)(hA:∀a w,Anch a w->FI a w)(h:E.Mw2 Fin Anch vs S g w):E.Mw2 AV FI vs S g w:=
 ⟨h.1,fun v hv x=>⟨fun e=>let ⟨g',e,k⟩:=(h.2 v hv x).1 e;⟨g',e,Way.mono k fun _ _ _=>.mono hF⟩,fun e=>let ⟨g',e,k⟩:=(h.2 v hv x).2 e;⟨g',e,Way.mono k fun _ _ _=>hA _ _⟩⟩⟩
theorem bw.YT.mono(hF:∀a,Fin a->AV a)(hA:∀a w,Anch a w->FI a w)(h:E.YT Fin Anch S g w):E.YT AV FI S g w:=
 ⟨h.1,fun v hv x=>let ⟨g',e,k1,k2⟩:=h.2 v hv x;⟨g',e,fun e=>Way.mono (k1 e) fun _ _ _=>.mono hF,fun e=>Way.mono (k2 e) fun _ _ _=>.mono hF hA⟩⟩
theorem bw.Mkd.mono(hA:∀a w,Anch a w->FI a w)(h:E.Mkd Anch S g w):E.Mkd FI S g w:=⟨h.1,let ⟨g',e,k⟩:=h.2;⟨g',e,Way.mono k fun _ _ _=>hA _ _⟩⟩
end
end Go.gT
theorem Go.RowKit.Below.look{W w:aah}{a:akr}(h:aae W.heap.size W w)(ha:a.block<W.heap.size):w.cell? a=W.cell? a:=Go.gT.fG (h.block _ ha)
namespace Go.Proofs.YtjligkmjlenofaaGreatDoor
open Go.Proofs.Tryz
open Go Go.gT Go.Conc Go.ConcN Go.RowKit Go.Conc.Lib Go.ConcR.Gen Go.ConcN.Gen
open Go.ConcR (KK WgAt stA smA rd wr mk DC0)
variable{x y:Operand}{k N aR:Nat}{ad:akr}
noncomputable def b4:ary:=base 4
noncomputable def jH:anB:=Tryz.f4.body.getD .skip
noncomputable def gd:anB:=match jH with| .seq _ (.seq _ (.seq _ (.seq _ (.seq _ c))))=>c|c=>c
noncomputable def LA:anB:=match gd with| .seq (.seq _ (.block _ (.loop c))) _=>c|c=>c
noncomputable def pI:anB:=match gd with| .seq _ c=>c|c=>c
noncomputable def LBs:anB:=match pI with| .seq (.seq _ (.block _ (.loop c))) _=>c|c=>c
noncomputable def AE:anB:=match pI with| .seq _ c=>c|c=>c
noncomputable def LK:anB:=match AE with| .seq _ (.seq _ c)=>c|c=>c
noncomputable def GB:Array aer:=match AE with| .seq _ (.seq (.region _ ops _) _)=>ops|_=>#[]
theorem nK:(prog.funcs[4]?).any (·.norace)=false:=kR
noncomputable def afA:Array aer:=match LA with| .seq _ (.seq _ (.seq (.block _ (.seq (.region _ ops _) _)) _))=>ops|_=>#[]
noncomputable def kk8:List Item:=[.code (match LA with| .seq _ (.seq _ (.seq (.block _ (.seq _ c)) _))=>c|c=>c),.inBlock 1,.code (match LA with| .seq _ (.seq _ (.seq _ c))=>c|c=>c),.inLoop LA,.inBlock 0,.code pI]
structure TA(J:mS)(T:Array aai):Prop where
 sz:T.size=43
 t2:T[2]?=some (.pointer (some ⟨J.N,0,none⟩))
 t6:T[6]?=some (.pointer (some ⟨J.N+2,0,none⟩))
 t7:T[7]?=some (.pointer (some ⟨J.N+4,0,none⟩))
 t8:T[8]?=some (gE J)
theorem WH{α:Type}(d:α):∀(n:Nat) (l:List α),l.length=n->l=(ati n).map fun i=>l.getD i d:=by
 intro n l h;apply List.ext_getElem?;intro i;rw[List.getElem?_map]
 by_cases hi:i<n
 ·rw[List.getElem?_range hi,Option.map_some,List.getD_eq_getElem?_getD,ag8 oM]
  rfl
 ·rw[aj3 oM,aj3 sO]
  rfl
theorem ZF(T:Array aai)(h:T.size=43):∃v0 v1 v2 v3 v4 v5 v6 v7 v8 v9 v10 v11 v12 v13 v14 v15 v16 v17 EC ED v20 v21 v22 FF v24 EE v26 JD v28 Hq v30 v31 v32 v33 JE v35 Hr v37 Hs Ht v40 v41 FG,T=#[v0,v1,v2,v3,v4,v5,v6,v7,v8,v9,v10,v11,v12,v13,v14,v15,v16,v17,EC,ED,v20,v21,v22,FF,v24,EE,v26,JD,v28,Hq,v30,v31,v32,v33,JE,v35,Hr,v37,Hs,Ht,v40,v41,FG]:=by
 obtain⟨l⟩:=T;rw[WH agp 43 l h];exact⟨_,_,_,_,_,_,_,_,_,_,_,_,_,_,_,_,_,_,_,_,_,_,_,_,_,_,_,_,_,_,_,_,_,_,_,_,_,_,_,_,_,_,_,rfl⟩
section
variable{J:mS}{m gH:Nat}{W:aah}{eM:Loc->Prop}{w:aah}{T:Array aai}{cs:List ary}
theorem TA.open(h:TA J T):∃v0 v1 v3 v4 v5 v9 v10 v11 v12 v13 v14 v15 v16 v17 EC ED v20 v21 v22 FF v24 EE v26 JD v28 Hq v30 v31 v32 v33 JE v35 Hr v37 Hs Ht v40 v41 FG,T=#[v0,v1,.pointer (some ⟨J.N,0,none⟩),v3,v4,v5,.pointer (some ⟨J.N+2,0,none⟩),.pointer (some ⟨J.N+4,0,none⟩),gE J,v9,v10,v11,v12,v13,v14,v15,v16,v17,EC,ED,v20,v21,v22,FF,v24,EE,v26,JD,v28,Hq,v30,v31,v32,v33,JE,v35,Hr,v37,Hs,Ht,v40,v41,FG]:=by
 obtain⟨v0,v1,v2,v3,v4,v5,v6,v7,v8,v9,v10,v11,v12,v13,v14,v15,v16,v17,EC,ED,v20,v21,v22,FF,v24,EE,v26,JD,v28,Hq,v30,v31,v32,v33,JE,v35,Hr,v37,Hs,Ht,v40,v41,FG,rfl⟩:=ZF T h.sz;obtain⟨-,t2,t6,t7,t8⟩:=h;simp only[akD,as2,as3,akk]at t2 t6 t7 t8;subst t2 t6 t7 t8;exact⟨v0,v1,v3,v4,v5,v9,v10,v11,v12,v13,v14,v15,v16,v17,EC,ED,v20,v21,v22,FF,v24,EE,v26,JD,v28,Hq,v30,v31,v32,v33,JE,v35,Hr,v37,Hs,Ht,v40,v41,FG,rfl⟩
theorem MV.rm{w1:aah}(h:MV J w)(r:(J.qB m gH W eM).R J.ro w w1):MV J w1:=h.rl (fun _=>id) r
noncomputable def headA(T:Array aai)(cs:List ary):ane:=G (b4.at ⟨T,[]⟩ [.code LA,.inLoop LA,.inBlock 0,.code pI]) cs
noncomputable def KJ(T:Array aai)(cs:List ary):ane:=G (b4.at ⟨T,[]⟩ [.code LBs,.inLoop LBs,.inBlock 2,.code AE]) cs
noncomputable def c17(T:Array aai):ary:=b4.at ⟨T,[]⟩ (.inRegion GB (0::[])::[.code LK])
noncomputable def e17(T:Array aai)(cs:List ary):ane:=G (b4.at (Act.put ⟨T,[]⟩ ((GB[0]?).bind (·.dst)) (.tuple #[])) (.inRegion GB []::[.code LK])) cs
noncomputable def vN(J:mS)(m gH:Nat)(W:aah)(eM:Loc->Prop)(cs:List ary)(g:ane)(w:aah):Prop:=∃T w0,TA J T/\Pw (J.qB m gH W eM) lk w0 (c17 T) cs g w
noncomputable def adb(J:mS)(cs:List ary)(g:ane):Prop:=∃T,TA J T/\ag4 prog (e17 T cs) g
theorem ad3(hg:1<=gH)(hm:m<=16):(J.qB m gH W eM).Geo where
 L1:=hg
 rd b h:=⟨h.1,h.2.1,h.2.2.1,h.2.2.2.1⟩
 wg:=by show J.N+5<J.N+6;omega
 ch:=by show J.N+3<J.N+6;omega
 oa:=by show J.N+1<J.N+6;omega
 d1:=by show J.N+5≠J.N+3;omega
 d2:=by show J.N+5≠J.N+1;omega
 d3:=by show J.N+3≠J.N+1;omega
 n1:=by show m<2147483648;omega
 L0:=hg
theorem US(g:ane)(w:aah)(h:vN J m gH W eM cs g w):g.status=.running:=by
 obtain⟨T,w0,_,T2,rfl,_⟩:=h;rfl
theorem M8(hg:1<=gH)(hm:m<=16)(g:ane)(w:aah)(h:vN J m gH W eM cs g w):(J.qB m gH W eM).jg ((J.qB m gH W eM).YT (adb J cs) (vN J m gH W eM cs)) g w:=by
 obtain⟨T,w0,hT,h⟩:=h;exact Way.mono (Pm (E:=J.qB m gH W eM) (ad3 hg hm) (L:=lk) wl rfl g w h) fun _ _ _=>.mono (fun a ha=>⟨T,hT,ha⟩) fun a w ha=>⟨T,w0,hT,ha⟩
theorem Io(a:akr)(h:J.ro a.block)(S:aD)(hS:∀b,J.ro b->S b)(w:aah):(J.qB m gH W eM).DM S S w w #[⟨.cell a,false,false⟩]:=
 ⟨rfl,rfl,fun e he=>by rw[atc]at he;subst he;exact .inl (.read (hS _ h))⟩
theorem Ts{main:Bool}{b:ary}{a:Act}{kk:List Item}{cs:List ary}{w:aah}{ops:Array aer}{i:Nat}{rest:List Nat}{o:aer}{c:Nat}{v:aai}(ho:ops[i]?=some o)(hw:ab9 o (adf ops a.tmps)=true)(hk:b.kind≠.early)(a_:o.op=.send x y)(hx:a.eval x=.chan (some c))(hy:a.eval y=v):
  ant prog main (G (b.at a (.inRegion ops (i::rest)::kk)) cs) w=.comm (G (b.at a (.inRegion ops (i::rest)::kk)) cs) #[scase c v agp] true .send w #[]:=by
 have hr:(af' a.eval o).run prog w=.ok (.comm #[scase c v agp] true .send) w:=by
  unfold af';simp only[a_,hx,hy];simp[go_sem,scase];rfl
 have he:(af' a.eval o).events prog w #[]=#[]:=by
  unfold af';simp only[a_,hx,hy];simp[go_sem]
 rw[stepG_comm ho hw hk hr,listed,he,Conc.seen_none]
theorem abR{main:Bool}{b:ary}{a:Act}{kk:List Item}{cs:List ary}{w:aah}{ops:Array aer}{i:Nat}{rest:List Nat}{o:aer}(ho:ops[i]?=some o)(hw:ab9 o (adf ops a.tmps)=true)(hk:b.kind≠.early)(a_:o.op=.go {callee:=.value x,args:=#[],argTypes:=#[]})(hx:a.eval x=.func (.func 8) #[] #[gE J,.pointer (some ⟨J.N+4,0,none⟩),.pointer (some ⟨J.N,0,none⟩),.pointer (some ⟨J.N+2,0,none⟩)]):
  ant prog main (G (b.at a (.inRegion ops (i::rest)::kk)) cs) w=.spawn (G (b.at (a.put o.dst agp) (.inRegion ops rest::kk)) cs) (born prog (call8 J)) w #[]:=by
 have hr:(af' a.eval o).run prog w=.ok (.spawn (call8 J)) w:=by
  unfold af';simp only[a_,resolve,hx];simp[go_sem,arc,call8]
 have he:(af' a.eval o).events prog w #[]=#[]:=by
  unfold af';simp only[a_,resolve,hx];simp[go_sem,arc]
 rw[stepG_spawn ho hw hk hr rfl,listed,he,Conc.seen_none]
theorem ZN(hT:TA J T)(hw:MV J w):(J.qB m gH W eM).jg ((J.qB m gH W eM).Mcl (vN J m gH W eM cs)) (G (b4.at ⟨T,[]⟩ [.code AE]) cs) w:=by
 have hF:=hw;have r {a b:aah}:= @MV.rm J m gH W eM a b;obtain⟨v0,v1,v3,v4,v5,v9,v10,v11,v12,v13,v14,v15,v16,v17,EC,ED,v20,v21,v22,FF,v24,EE,v26,JD,v28,Hq,v30,v31,v32,v33,JE,v35,Hr,v37,Hs,Ht,v40,v41,FG,rfl⟩:=hT.open;simp only[AE,pI,gd,jH,Tryz.f4,alV];refine vJ (n:=4) ?_
 change asZ prog _ _ _ _ _ _ _
 u_c arx r hF
 u_reg r hF
 refine Goes.stop (fun cG aJ=>?_)
 replace hF:=r hF aJ
 clear aJ;refine Way.step rfl fun fQ bl=>⟨_,_,_,_,fI (d:=.chan .both 3) atk rfl rfl rfl dC rfl rfl (r hF bl).cb nK,Io _ J.ro4 J.ro (fun _=>id) _,?_⟩
 replace hF:=r hF bl
 clear bl
 walk_nrm
 refine Way.stop fun cG aJ=>⟨rfl,by rfl,fun s r0 tm hc=>⟨_,(stepG_close rfl rfl dC rfl (c:=J.N+3) rfl hc nK).T rfl,?_⟩⟩
 replace hF:=r hF aJ
 clear aJ
 replace hF:MV J (cG.shut (J.N+3) s r0 tm):=by
  have A:Aside (J.N+3) cG (cG.shut (J.N+3) s r0 tm):=Aside.put _ cG _;refine⟨(fG (A.block J.N oM)).T hF.tb,(fG (A.block (J.N+2) oM)).T hF.ob,(fG (A.block (J.N+4) oM)).T hF.cb,fun b hb hk=>(A.block b oM).T (hF.old b hb hk),by rw[A.size];exact hF.size,?_⟩;obtain⟨st,sm,hl⟩:=hF.live;exact⟨st,sm,hl.of_block (A.block _ oM)⟩
 walk_nrm
 refine vJ (n:=6) ?_
 change asZ prog _ _ _ _ _ _ _
 u_c arw r hF
 u_c arx r hF
 u_reg r hF
 u_in r hF
 refine goes_call rfl rfl dC rfl func10 (nm_wait lk) rfl ⟨by u_nil,?_⟩
 walk_nrmf Tryz.f10
 refine Goes.stop (fun cG aJ=>?_)
 replace hF:=r hF aJ
 have k:=Pn (E:=J.qB m gH W eM) (L:=lk) (b₀:=b4) (a₀:=⟨#[v0,v1,.pointer (some ⟨J.N,0,none⟩),v3,v4,v5,.pointer (some ⟨J.N+2,0,none⟩),.pointer (some ⟨J.N+4,0,none⟩),gE J,v9,v10,v11,v12,v13,v14,v15,v16,v17,EC,ED,v20,v21,v22,FF,v24,EE,v26,JD,v28,Hq,v30,v31,v32,v33,JE,v35,Hr,v37,Hs,Ht,.chan (some (J.N+3)),v41,FG],[]⟩) (ops₀:=GB) (i₀:=0) (rest₀:=[]) (k₀:=[.code LK]) (cs:=cs) wl rfl (KM.start hF.live);have k2:=Way.mono k fun _ _ _=>bw.Mkd.mono fun a w ha=>(⟨#[v0,v1,.pointer (some ⟨J.N,0,none⟩),v3,v4,v5,.pointer (some ⟨J.N+2,0,none⟩),.pointer (some ⟨J.N+4,0,none⟩),gE J,v9,v10,v11,v12,v13,v14,v15,v16,v17,EC,ED,v20,v21,v22,FF,v24,EE,v26,JD,v28,Hq,v30,v31,v32,v33,JE,v35,Hr,v37,Hs,Ht,.chan (some (J.N+3)),v41,FG],_,⟨rfl,rfl,rfl,rfl,rfl⟩,ha⟩:vN J m gH W eM cs a w)
 simp only[body_wait,waitFn,GB,LK,AE,pI,gd,jH,Tryz.f4,alV]at k2
 revert k2
 walk_nrm
 simp only[gE];exact id
theorem afK(hJ:J.Ok):∀(k i:Nat) (T:Array aai) (w:aah),TA J T->T[33]?=some (.int .i64 J.n)->T[34]?=some (.int .i64 i)->i+k=J.n->MV J w->
  (J.qB m gH W eM).jg ((J.qB m gH W eM).Q6 (vN J m gH W eM cs) k) (KJ T cs) w:=by
 intro k
 induction k with
 |zero=>
  intro i T w hT h33 h34 V1 hF;have r {a b:aah}:= @MV.rm J m gH W eM a b;obtain⟨v0,v1,v3,v4,v5,v9,v10,v11,v12,v13,v14,v15,v16,v17,EC,ED,v20,v21,v22,FF,v24,EE,v26,JD,v28,Hq,v30,v31,v32,v33,JE,v35,Hr,v37,Hs,Ht,v40,v41,FG,rfl⟩:=hT.open;simp only[akD,as2,as3,akk]at h33 h34;subst h33 h34;have aE:¬ ((i:Int)<(J.n:Int)):=by omega
  simp only[KJ,LBs,pI,gd,jH,Tryz.f4,alV];refine vJ (n:=8) ?_
  change asZ prog _ _ _ _ _ _ _
  u_c arx r hF
  u_reg r hF
  u_op r hF
  u_c arw r hF
  u_c arx r hF
  u_cond false r hF
  u_in r hF
  refine atw rfl ?_;refine⟨by u_nil,?_⟩;refine Goes.stop (fun cG aJ=>?_);exact ZN (T:=#[v0,v1,.pointer (some ⟨J.N,0,none⟩),v3,v4,v5,.pointer (some ⟨J.N+2,0,none⟩),.pointer (some ⟨J.N+4,0,none⟩),gE J,v9,v10,v11,v12,v13,v14,v15,v16,v17,EC,ED,v20,v21,v22,FF,v24,EE,v26,JD,v28,Hq,v30,v31,v32,.int .i64 J.n,.int .i64 i,.bool false,Hr,v37,Hs,Ht,v40,v41,FG]) ⟨rfl,rfl,rfl,rfl,rfl⟩ (r hF aJ)
 |succ k ih=>
  intro i T w hT h33 h34 V1 hF;have r {a b:aah}:= @MV.rm J m gH W eM a b;obtain⟨v0,v1,v3,v4,v5,v9,v10,v11,v12,v13,v14,v15,v16,v17,EC,ED,v20,v21,v22,FF,v24,EE,v26,JD,v28,Hq,v30,v31,v32,v33,JE,v35,Hr,v37,Hs,Ht,v40,v41,FG,rfl⟩:=hT.open;simp only[akD,as2,as3,akk]at h33 h34;subst h33 h34;have aE:(i:Int)<(J.n:Int):=by omega
  have Jy:=hJ.small;have aeC:IntKind.i64.wrap ((i:Int)+1)=((i+1:Nat):Int):=by rw[aks];omega
  simp only[KJ,LBs,pI,gd,jH,Tryz.f4,alV];refine vJ (n:=16) ?_
  change asZ prog _ _ _ _ _ _ _
  u_c arx r hF
  u_reg r hF
  u_op r hF
  u_c arw r hF
  u_c arx r hF
  u_cond true r hF
  u_c arC r hF
  u_c arx r hF
  u_c as5 r hF
  u_c arx r hF
  u_reg r hF
  u_op r hF
  u_op r hF
  u_c arw r hF
  u_reg r hF
  refine Goes.stop (fun cG aJ=>?_)
  replace hF:=r hF aJ
  clear aJ;refine Way.step rfl fun fQ bl=>⟨_,_,_,_,fI (d:=.chan .both 3) atk rfl rfl rfl dC rfl rfl (r hF bl).cb nK,Io _ J.ro4 J.ro (fun _=>id) _,?_⟩
  replace hF:=r hF bl
  clear bl
  walk_nrm
  refine vJ (n:=2) ?_
  change asZ prog _ _ _ _ _ _ _
  u_op r hF
  refine Goes.stop (fun cG aJ=>?_)
  replace hF:=r hF aJ
  clear aJ;have ei:((J.n - (k+1):Nat):Int)=(i:Int):=by omega
  refine Way.stop fun cG aJ=>⟨rfl,rfl,?_,?_⟩
  ·show ant prog _ _ _=.comm _ #[scase (J.N+3) (.int .i64 ((J.n - (k+1):Nat):Int)) agp] true .send cG #[]
   rw[ei];exact Ts rfl rfl dC rfl rfl rfl
  replace hF:=r hF aJ
  clear aJ;simp only[aoj,G,as7]
  walk_nrm
  change (J.qB m gH W eM).jg _ (G _ _) _
  refine vJ (n:=12) ?_
  change asZ prog _ _ _ _ _ _ _
  u_c arw r hF
  u_c atf r hF
  u_reg r hF
  u_op r hF
  u_op r hF
  u_c arw r hF
  u_c atj r hF
  refine Goes.stop (fun cG aJ=>?_);have key:=ih (i+1) #[v0,v1,.pointer (some ⟨J.N,0,none⟩),v3,v4,v5,.pointer (some ⟨J.N+2,0,none⟩),.pointer (some ⟨J.N+4,0,none⟩),gE J,.int .i64 i,v10,v11,v12,v13,v14,v15,v16,v17,EC,ED,v20,v21,v22,FF,v24,EE,v26,JD,v28,Hq,v30,v31,v32,.int .i64 J.n,.int .i64 ((i+1:Nat):Int),.bool true,.int .i64 i,.chan (some (J.N+3)),.int .i64 i,.int .i64 ((i+1:Nat):Int),v40,v41,FG] _ ⟨rfl,rfl,rfl,rfl,rfl⟩ rfl rfl oM (r hF aJ);simp only[KJ,LBs,pI,gd,jH,Tryz.f4,alV]at key;have ec:((i+1:Nat):Int)=(i:Int)+1:=by omega
  simp only[ec]at key;exact key
theorem toSends(hJ:J.Ok)(hT:TA J T)(hw:MV J w):(J.qB m gH W eM).jg ((J.qB m gH W eM).Q6 (vN J m gH W eM cs) J.n) (G (b4.at ⟨T,[]⟩ [.code pI]) cs) w:=by
 have hF:=hw;have r {a b:aah}:= @MV.rm J m gH W eM a b;obtain⟨v0,v1,v3,v4,v5,v9,v10,v11,v12,v13,v14,v15,v16,v17,EC,ED,v20,v21,v22,FF,v24,EE,v26,JD,v28,Hq,v30,v31,v32,v33,JE,v35,Hr,v37,Hs,Ht,v40,v41,FG,rfl⟩:=hT.open;simp only[pI,gd,jH,Tryz.f4,alV];refine vJ (n:=4) ?_
 change asZ prog _ _ _ _ _ _ _
 u_c arx r hF
 u_c arx r hF
 u_reg r hF
 refine Goes.stop (fun cG aJ=>?_)
 replace hF:=r hF aJ
 clear aJ;refine Way.step rfl fun fQ bl=>⟨_,_,_,_,fI (d:=.slice 9) underlying22 rfl rfl rfl dC rfl rfl (r hF bl).tb nK,Io _ J.ro0 J.ro (fun _=>id) _,?_⟩
 replace hF:=r hF bl
 clear bl;simp only[mS.text]
 walk_nrm
 refine vJ (n:=8) ?_
 change asZ prog _ _ _ _ _ _ _
 u_op r hF
 u_op r hF
 u_c arw r hF
 u_c as5 r hF
 u_c atu r hF
 refine Goes.stop (fun cG aJ=>?_);have key:=afK (m:=m) (gH:=gH) (W:=W) (eM:=eM) (cs:=cs) hJ J.n 0 #[v0,v1,.pointer (some ⟨J.N,0,none⟩),v3,v4,v5,.pointer (some ⟨J.N+2,0,none⟩),.pointer (some ⟨J.N+4,0,none⟩),gE J,v9,v10,v11,v12,v13,v14,v15,v16,v17,EC,ED,v20,v21,v22,FF,v24,EE,v26,JD,v28,Hq,v30,v31,.slice J.a0 J.n J.cap,.int .i64 J.n,.int .i64 0,v35,Hr,v37,Hs,Ht,v40,v41,FG] _ ⟨rfl,rfl,rfl,rfl,rfl⟩ rfl rfl oM (r hF aJ);simp only[KJ,LBs,AE,pI,gd,jH,Tryz.f4,alV]at key;exact key
theorem abG(hJ:J.Ok)(hg:1<=gH)(hm:m<=16):∀(k i:Nat) (T:Array aai) (w:aah),TA J T->T[26]?=some (.int .i64 m)->T[27]?=some (.int .i64 i)->i+k=m->MV J w->
  (J.qB m gH W eM).jg ((J.qB m gH W eM).Ue (vN J m gH W eM cs) k) (headA T cs) w:=by
 intro k
 induction k with
 |zero=>
  intro i T w hT h26 h27 V1 hF;have r {a b:aah}:= @MV.rm J m gH W eM a b;obtain⟨v0,v1,v3,v4,v5,v9,v10,v11,v12,v13,v14,v15,v16,v17,EC,ED,v20,v21,v22,FF,v24,EE,v26,JD,v28,Hq,v30,v31,v32,v33,JE,v35,Hr,v37,Hs,Ht,v40,v41,FG,rfl⟩:=hT.open;simp only[akD,as2,as3,akk]at h26 h27;subst h26 h27;have aE:¬ ((i:Int)<(m:Int)):=by omega
  simp only[headA,LA,gd,jH,Tryz.f4,alV];refine vJ (n:=8) ?_
  change asZ prog _ _ _ _ _ _ _
  u_c arx r hF
  u_reg r hF
  u_op r hF
  u_c arw r hF
  u_c arx r hF
  u_cond false r hF
  u_in r hF
  refine atw rfl ?_;refine⟨by u_nil,?_⟩;refine Goes.stop (fun cG aJ=>?_);exact toSends hJ (T:=#[v0,v1,.pointer (some ⟨J.N,0,none⟩),v3,v4,v5,.pointer (some ⟨J.N+2,0,none⟩),.pointer (some ⟨J.N+4,0,none⟩),gE J,v9,v10,v11,v12,v13,v14,v15,v16,v17,EC,ED,v20,v21,v22,FF,v24,EE,.int .i64 m,.int .i64 i,.bool false,Hq,v30,v31,v32,v33,JE,v35,Hr,v37,Hs,Ht,v40,v41,FG]) ⟨rfl,rfl,rfl,rfl,rfl⟩ (r hF aJ)
 |succ k ih=>
  intro i T w hT h26 h27 V1 hF;have r {a b:aah}:= @MV.rm J m gH W eM a b;obtain⟨v0,v1,v3,v4,v5,v9,v10,v11,v12,v13,v14,v15,v16,v17,EC,ED,v20,v21,v22,FF,v24,EE,v26,JD,v28,Hq,v30,v31,v32,v33,JE,v35,Hr,v37,Hs,Ht,v40,v41,FG,rfl⟩:=hT.open;simp only[akD,as2,as3,akk]at h26 h27;subst h26 h27;have aE:(i:Int)<(m:Int):=by omega
  have aeC:IntKind.i64.wrap ((i:Int)+1)=((i+1:Nat):Int):=by rw[aks];omega
  simp only[headA,LA,gd,jH,Tryz.f4,alV];refine vJ (n:=14) ?_
  change asZ prog _ _ _ _ _ _ _
  u_c arx r hF
  u_reg r hF
  u_op r hF
  u_c arw r hF
  u_c arx r hF
  u_cond true r hF
  u_c arC r hF
  u_c arx r hF
  u_c as5 r hF
  u_c arx r hF
  u_reg r hF
  u_in r hF
  refine goes_call rfl rfl dC rfl func7 (nm_add lk) rfl ⟨by u_nil,?_⟩
  walk_nrmf Tryz.f7
  refine Goes.stop (fun cG aJ=>?_)
  replace hF:=r hF aJ
  clear aJ;have key:=alR (E:=J.qB m gH W eM) (L:=lk) (Next:=(J.qB m gH W eM).Ue (vN J m gH W eM cs) k) (b₀:=b4) (a₀:=⟨#[v0,v1,.pointer (some ⟨J.N,0,none⟩),v3,v4,v5,.pointer (some ⟨J.N+2,0,none⟩),.pointer (some ⟨J.N+4,0,none⟩),gE J,v9,v10,v11,v12,v13,v14,v15,v16,v17,EC,ED,v20,v21,v22,FF,v24,EE,.int .i64 m,.int .i64 i,.bool true,Hq,v30,v31,v32,v33,JE,v35,Hr,v37,Hs,Ht,v40,v41,FG],[]⟩) (ops₀:=afA) (i₀:=0) (rest₀:=[]) (k₀:=kk8) (cs:=cs) (ad3 hg hm) wl rfl hF.live ?_
  ·simp only[body_add,addFn,afA,kk8,LA,gd,jH,Tryz.f4,alV]at key
   revert key
   walk_nrm;simp only[gE];exact id
  intro w1 jT
  replace hF:=r hF jT
  clear jT;simp only[afA,kk8,LA,gd,jH,Tryz.f4,alV]
  walk_nrm
  refine vJ (n:=4) ?_
  change asZ prog _ _ _ _ _ _ _
  u_c arw r hF
  u_reg r hF
  u_in r hF
  refine goes_oper_k rfl rfl dC (fun K hK=>?_);go_simp;refine hK _ _ ⟨?_,?_⟩
  ·u_none
   intro e he;have hm:=mem_listed he;simp[go_sem,Instr.makeFunc]at hm
  clear hK K
  walk_nrm
  refine Goes.stop (fun cG aJ=>?_)
  replace hF:=r hF aJ
  clear aJ;refine Way.stop fun cG aJ=>⟨rfl,_,born prog (call8 J),abR rfl rfl dC rfl rfl,rfl,af7 hJ (r hF aJ),?_⟩
  replace hF:=r hF aJ
  clear aJ
  walk_nrm
  refine vJ (n:=12) ?_
  change asZ prog _ _ _ _ _ _ _
  u_c arw r hF
  u_c atf r hF
  u_reg r hF
  u_op r hF
  u_op r hF
  u_c arw r hF
  u_c atj r hF
  refine Goes.stop (fun cG aJ=>?_);have key:=ih (i+1) #[v0,v1,.pointer (some ⟨J.N,0,none⟩),v3,v4,v5,.pointer (some ⟨J.N+2,0,none⟩),.pointer (some ⟨J.N+4,0,none⟩),gE J,v9,v10,v11,v12,v13,v14,v15,v16,v17,EC,ED,v20,v21,v22,FF,v24,EE,.int .i64 m,.int .i64 ((i+1:Nat):Int),.bool true,.tuple #[],.func (.func 8) #[] #[gE J,.pointer (some ⟨J.N+4,0,none⟩),.pointer (some ⟨J.N,0,none⟩),.pointer (some ⟨J.N+2,0,none⟩)],.int .i64 ((i+1:Nat):Int),v32,v33,JE,v35,Hr,v37,Hs,Ht,v40,v41,FG] _ ⟨rfl,rfl,rfl,rfl,rfl⟩ rfl rfl oM (r hF aJ);simp only[headA,LA,gd,jH,Tryz.f4,alV]at key;have ec:((i+1:Nat):Int)=(i:Int)+1:=by omega
  simp only[ec]at key;exact key
end
open Go.ConcR (KK WgAt stA smA rd wr mk DC0)
structure Hp(W:aah)(H:Array Obj)(w:aah):Prop where
 heap:w.heap=H
 os:w.os=W.os
 O:w.output=W.output
 tape:w.tape=W.tape
section
variable{W w w1:aah}{H:Array Obj}{o:Obj}{u v:aai}{t:aat}
theorem Hp.start(w:aah):Hp w w.heap w:=⟨rfl,rfl,rfl,rfl⟩
theorem Hp.rl(h:Hp W H w)(r:AtRel w w1):Hp W H w1:=by obtain⟨d,rfl⟩:=r;exact⟨h.heap,h.os,h.O,h.tape⟩
theorem Hp.alloc(h:Hp W H w)(o:Obj):Hp W (H.push o) (w.alloc o):=⟨by rw[<-h.heap];rfl,h.os,h.O,h.tape⟩
theorem Hp.set(h:Hp W (H.push (.cells #[u] t)) w)(v:aai):Hp W (H.push (.cells #[v] t)) (w.setCell ⟨H.size,0,none⟩ v):=by
 obtain⟨h1,h2,h3,h4⟩:=h;refine⟨?_,h2,h3,h4⟩;simp only[World.setCell,h1];apply ao8;intro k;rw[Array.getElem?_modify]
 by_cases e:H.size=k
 ·subst e;simp
 ·have:k≠H.size:=fun x=>e x.symm
  simp[e,ans,this]
theorem jv{x:Obj}(h:k=H.size):(H.push x)[k]?=some x:=by subst h;simp
theorem dZ{x:Obj}(h:k<H.size):(H.push x)[k]?=H[k]?:=by rw[ans,if_neg oM]
theorem Hp.thaw(h:Hp W H w){b:Nat}{c:Array aai}(hb:H[b]?=some (.cells c t)):w.frozen? ⟨b,0,none⟩=false:=by simp[an_,h.heap,hb]
theorem Hp.ajX(h:Hp W (H.push (.cells #[u] t)) w){b:Nat}(v:aai)(hb:b=H.size):Hp W (H.push (.cells #[v] t)) (w.setCell ⟨b,0,none⟩ v):=hb▸h.set v
theorem Hp.at0(h:Hp W H w){b:Nat}{c:Array aai}{f:Nat×Nat}(hb:H[b]?=some (.cells c t f))(hc:c[0]?=some v):w.cell? ⟨b,0,none⟩=some v:=by simp[alr,h.heap,hb,hc]
end
section
variable{main:Bool}{b:ary}{a:Act}{kk:List Item}{cs:List ary}{w:aah}{ops:Array aer}{i:Nat}{rest:List Nat}{o:aer}
theorem Yc{a0:Option akr}{n cap:Nat}(hs:w.heap.size=N)(ho:ops[i]?=some o)(hw:ab9 o (adf ops a.tmps)=true)(hk:b.kind≠.early)(a_:o.op=.box 22 x)(hx:a.eval x=.slice a0 n cap):
  ant prog main (G (b.at a (.inRegion ops (i::rest)::kk)) cs) w=.go (G (b.at (a.put o.dst (.pointer (some ⟨N,0,none⟩))) (.inRegion ops rest::kk)) cs) (w.alloc (.cells #[.slice a0 n cap] 22)) #[]:=by
 subst hs
 have hr:(af' a.eval o).run prog w=.ok (.value (.pointer (some ⟨w.heap.size,0,none⟩))) (w.alloc (.cells #[.slice a0 n cap] 22)):=by
  unfold af';simp only[a_,hx];simp[go_sem]
 have he:(af' a.eval o).events prog w #[]=#[]:=by
  unfold af';simp only[a_,hx];simp[go_sem]
 rw[atb ho hw hk hr,listed,he,Conc.seen_none]
theorem I9(hs:w.heap.size=N)(ho:ops[i]?=some o)(hw:ab9 o (adf ops a.tmps)=true)(hk:b.kind≠.early)(a_:o.op=.alloc 22):
  ant prog main (G (b.at a (.inRegion ops (i::rest)::kk)) cs) w=.go (G (b.at (a.put o.dst (.pointer (some ⟨N,0,none⟩))) (.inRegion ops rest::kk)) cs) (w.alloc (.cells #[.slice none 0 0] 22)) #[]:=by
 subst hs
 have hr:(af' a.eval o).run prog w=.ok (.value (.pointer (some ⟨w.heap.size,0,none⟩))) (w.alloc (.cells #[.slice none 0 0] 22)):=by
  unfold af';simp only[a_];simp[go_sem]
 have he:(af' a.eval o).events prog w #[]=#[]:=by
  unfold af';simp only[a_];simp[go_sem]
 rw[atb ho hw hk hr,listed,he,Conc.seen_none]
theorem I_(hs:w.heap.size=N)(ho:ops[i]?=some o)(hw:ab9 o (adf ops a.tmps)=true)(hk:b.kind≠.early)(a_:o.op=.alloc 31):
  ant prog main (G (b.at a (.inRegion ops (i::rest)::kk)) cs) w=.go (G (b.at (a.put o.dst (.pointer (some ⟨N,0,none⟩))) (.inRegion ops rest::kk)) cs) (w.alloc (.cells #[.chan none] 31)) #[]:=by
 subst hs
 have hr:(af' a.eval o).run prog w=.ok (.value (.pointer (some ⟨w.heap.size,0,none⟩))) (w.alloc (.cells #[.chan none] 31)):=by
  unfold af';simp only[a_];simp[go_sem]
 have he:(af' a.eval o).events prog w #[]=#[]:=by
  unfold af';simp only[a_];simp[go_sem]
 rw[atb ho hw hk hr,listed,he,Conc.seen_none]
theorem Ja(hs:w.heap.size=N)(ho:ops[i]?=some o)(hw:ab9 o (adf ops a.tmps)=true)(hk:b.kind≠.early)(a_:o.op=.alloc 41):
  ant prog main (G (b.at a (.inRegion ops (i::rest)::kk)) cs) w=.go (G (b.at (a.put o.dst (.pointer (some ⟨N,0,none⟩))) (.inRegion ops rest::kk)) cs) (w.alloc (.cells #[.int .u64 0,.int .u32 0] 41)) #[]:=by
 subst hs
 have hr:(af' a.eval o).run prog w=.ok (.value (.pointer (some ⟨w.heap.size,0,none⟩))) (w.alloc (.cells #[.int .u64 0,.int .u32 0] 41)):=by
  unfold af';simp only[a_];simp[go_sem]
 have he:(af' a.eval o).events prog w #[]=#[]:=by
  unfold af';simp only[a_];simp[go_sem]
 rw[atb ho hw hk hr,listed,he,Conc.seen_none]
theorem ajm:(prog.info? 9).map (fun i=>(i.zero,i.size,i.bytes))=some (some (.string ⟨#[]⟩),1,16):=kR
theorem ajl:(prog.info? 3).map (fun i=>(i.zero,i.size,i.bytes))=some (some (.int .i64 0),1,8):=kR
theorem Tq{n:Nat}(hn:n<=5)(hs:w.heap.size=N)(ho:ops[i]?=some o)(hw:ab9 o (adf ops a.tmps)=true)(hk:b.kind≠.early)(a_:o.op=.makeSlice 22 x x)(hx:a.eval x=.int .i64 n):
  ant prog main (G (b.at a (.inRegion ops (i::rest)::kk)) cs) w=.go (G (b.at (a.put o.dst (.slice (some ⟨N,0,none⟩) n n)) (.inRegion ops rest::kk)) cs) (w.alloc (.cells (atr #[.string ⟨#[]⟩] n) 9)) #[]:=by
 subst hs;obtain⟨i0,hi,sQ,vp,mY⟩:=info_parts ajm
 have h1:(aos 22 (.int .i64 n) (.int .i64 n)).run prog w=.ok (.slice (some ⟨w.heap.size,0,none⟩) n n) (w.alloc (.cells (atr #[.string ⟨#[]⟩] n) 9)):=by
  have:=run_make (P:=prog) w 22 9 i0 (.string ⟨#[]⟩) underlying22 hi sQ .i64 .i64 n n oM oM (by rw[mY];omega) oM;simpa[vp,Value.cells]using this
 have h2:∀es,(aos 22 (.int .i64 n) (.int .i64 n)).events prog w es=es:=fun es=>
  events_make (P:=prog) w 22 9 i0 (.string ⟨#[]⟩) underlying22 hi sQ .i64 .i64 n n oM oM (by rw[mY];omega) oM (by rw[mY];simp;omega) es
 have hr:(af' a.eval o).run prog w=.ok (.value (.slice (some ⟨w.heap.size,0,none⟩) n n)) (w.alloc (.cells (atr #[.string ⟨#[]⟩] n) 9)):=by
  unfold af';simp only[a_,hx];simp[go_sem,h1]
 have he:(af' a.eval o).events prog w #[]=#[]:=by
  unfold af';simp only[a_,hx];simp[go_sem,h2]
 rw[atb ho hw hk hr,listed,he,Conc.seen_none]
theorem Tp(hs:w.heap.size=N)(ho:ops[i]?=some o)(hw:ab9 o (adf ops a.tmps)=true)(hk:b.kind≠.early)(a_:o.op=.makeChan 31 x)(hx:a.eval x=.int .i64 0):
  ant prog main (G (b.at a (.inRegion ops (i::rest)::kk)) cs) w=.go (G (b.at (a.put o.dst (.chan (some N))) (.inRegion ops rest::kk)) cs) (w.alloc (.chan 0 #[] false 0 0 false)) #[]:=by
 subst hs;obtain⟨i0,hi,sQ,vp,mY⟩:=info_parts ajl
 have h1:(Instr.makeChan 31 (.int .i64 0)).run prog w=.ok (.chan (some w.heap.size)) (w.alloc (.chan 0 #[] false 0 0 false)):=by
  simpa using run_makeChan (P:=prog) (w:=w) atk hi .i64 0 oM (by rw[mY];omega)
 have h2:∀es,(Instr.makeChan 31 (.int .i64 0)).events prog w es=es:=fun es=>by
  simpa using events_makeChan (P:=prog) (w:=w) atk hi .i64 0 oM (by rw[mY];omega) es
 have hr:(af' a.eval o).run prog w=.ok (.value (.chan (some w.heap.size))) (w.alloc (.chan 0 #[] false 0 0 false)):=by
  unfold af';simp only[a_,hx];simp[go_sem,h1]
 have he:(af' a.eval o).events prog w #[]=#[]:=by
  unfold af';simp only[a_,hx];simp[go_sem,h2]
 rw[atb ho hw hk hr,listed,he,Conc.seen_none]
theorem Jb(ho:ops[i]?=some o)(hw:ab9 o (adf ops a.tmps)=true)(hk:b.kind≠.early)(a_:o.op=.store 22 x y){p:Option akr}{n cap:Nat}{u:aai}(hx:a.eval x=.pointer (some ad))(hy:a.eval y=.slice p n cap)(hc:w.cell? ad=some u)(hz:w.frozen? ad=false)(hq:(prog.funcs[b.fn]?).any (·.norace)=false):
  ant prog main (G (b.at a (.inRegion ops (i::rest)::kk)) cs) w=.go (G (b.at (a.put o.dst agp) (.inRegion ops rest::kk)) cs) (w.setCell ad (.slice p n cap)) #[⟨.cell ad,true,false⟩]:=by
 have hr:(af' a.eval o).run prog w=.ok .skip (w.setCell ad (.slice p n cap)):=by
  unfold af';simp only[a_,hx,hy];simp[go_sem,stored,hc,hz]
 have he:(af' a.eval o).events prog w #[]=#[⟨.cell ad,true,false⟩]:=by
  unfold af';simp only[a_,hx,hy];simp[go_sem,events_store prog w #[] ad (.slice p n cap) .plain rfl,hc,hz]
 rw[atN ho hw hk hr];unfold listed;rw[he,atQ hq sP]
theorem Jc(ho:ops[i]?=some o)(hw:ab9 o (adf ops a.tmps)=true)(hk:b.kind≠.early)(a_:o.op=.store 31 x y){p:Option Nat}{u:aai}(hx:a.eval x=.pointer (some ad))(hy:a.eval y=.chan p)(hc:w.cell? ad=some u)(hz:w.frozen? ad=false)(hq:(prog.funcs[b.fn]?).any (·.norace)=false):
  ant prog main (G (b.at a (.inRegion ops (i::rest)::kk)) cs) w=.go (G (b.at (a.put o.dst agp) (.inRegion ops rest::kk)) cs) (w.setCell ad (.chan p)) #[⟨.cell ad,true,false⟩]:=by
 have hr:(af' a.eval o).run prog w=.ok .skip (w.setCell ad (.chan p)):=by
  unfold af';simp only[a_,hx,hy];simp[go_sem,stored,hc,hz]
 have he:(af' a.eval o).events prog w #[]=#[⟨.cell ad,true,false⟩]:=by
  unfold af';simp only[a_,hx,hy];simp[go_sem,hc,hz]
 rw[atN ho hw hk hr];unfold listed;rw[he,atQ hq sP]
end
theorem DB.new{Sb:Nat->Prop}(w:aah)(o:Obj):DB Sb w (w.alloc o) #[]:=⟨by show _<=(w.heap.push o).size;simp,rfl,rfl,rfl,fun e he=>absurd he (atq e)⟩
theorem DB.rd{Sb:Nat->Prop}{w:aah}{a:akr}(h:a.block<w.heap.size)(k:¬ Sb a.block):DB Sb w w #[⟨.cell a,false,false⟩]:=⟨ahP _,rfl,rfl,rfl,fun e he=>by rw[atc]at he;subst he;exact .read ⟨h,k⟩⟩
theorem DB.wr{Sb:Nat->Prop}{w:aah}{a:akr}{v:aai}(h:a.block<w.heap.size)(k:¬ Sb a.block):DB Sb w (w.setCell a v) #[⟨.cell a,true,false⟩]:=
 ⟨aqe (aqj w a v).size.symm,rfl,rfl,rfl,fun e he=>by rw[atc]at he;subst he;exact .write ⟨by rw[(aqj w a v).size];exact h,k⟩ id⟩
noncomputable def kE(J:mS)(H:Array Obj):Array Obj:=
 (((((H.push (.cells #[J.text] 22)).push (.cells (atr #[.string ⟨#[]⟩] J.n) 9)).push (.cells #[J.O] 22)).push (.chan 0 #[] false 0 0 false)).push (.cells #[.chan (some (J.N+3))] 31)).push (.cells #[.int .u64 0,.int .u32 0] 41)
def xW(J:mS)(b:Nat):Prop:=J.sh b\/b=J.N+1\/b=J.N+3\/b=J.N+5
section
variable{J:mS}{m:Nat}{W w:aah}{cs:List ary}
theorem ZS(hN:W.heap.size=J.N)(hn:J.n<=5)(h1:1<=m)(hm:m<=16)(mQ:∀b,J.sh b->b<J.N)(hW:Hp W W.heap w):
  tM prog (xW J) (fun g w'=>∃T,g=headA T cs/\TA J T/\T[26]?=some (.int .i64 m)/\T[27]?=some (.int .i64 0)/\Hp W (kE J W.heap) w') (G (aq9 prog 4 #[J.text,.int .i64 m] .normal) cs) w:=by
 have hF:=hW;have r {H:Array Obj} {a b:aah}:= @Hp.rl W a b H
 have e0:aq9 prog 4 #[J.text,.int .i64 m] .normal=b4.at ⟨#[J.text,.int .i64 m]++apE 41 agp,[]⟩ [.code jH]:=by
  unfold aq9;rw[func4];rfl
 have c50:¬ ((50:Int)<(J.n:Int)):=by omega
 have c1:¬ ((m:Int)<1):=by omega
 have c16:¬ ((16:Int)<(m:Int)):=by omega
 have hz:∀b,J.N<=b->b≠J.N+1->b≠J.N+3->b≠J.N+5->¬ xW J b:=fun b hb x y z h=>by
  rcases h with h|h|h|h
  ·have:=mQ b h;omega
  all_goals (first|exact x h|exact y h|exact z h)
 have z0:¬ xW J J.N:=hz _ oM oM oM oM;have z2:¬ xW J (J.N+2):=hz _ oM oM oM oM;have z4:¬ xW J (J.N+4):=hz _ oM oM oM oM;clear hz;rw[e0];simp only[mS.text,jH,Tryz.f4,alV]
 walk_nrm
 refine Bn (n:=2) ?_
 u_c arx r hF
 u_reg r hF
 refine Goes.stop (fun cG aJ=>?_)
 replace hF:=r hF aJ
 clear aJ;refine Way.step rfl fun fQ bl=>⟨fun _=>True,_,_,_,Yc (N:=J.N) (by rw[(r hF bl).heap];simp[hN]) rfl rfl dC rfl rfl,DB.new _ _,?_⟩
 replace hF:=(r hF bl).alloc (.cells #[.slice J.a0 J.n J.cap] 22)
 clear bl
 walk_nrm
 refine Bn (n:=8) ?_
 u_op r hF
 u_op r hF
 u_c arw r hF
 u_c arx r hF
 u_c arx r hF
 u_reg r hF
 refine Goes.stop (fun cG aJ=>?_)
 replace hF:=r hF aJ
 clear aJ;refine Way.step rfl fun fQ bl=>⟨fun _=>True,_,_,_,fI (d:=.slice 9) underlying22 rfl rfl rfl dC rfl rfl ((r hF bl).at0 (b:=J.N) (c:=#[.slice J.a0 J.n J.cap]) (t:=22) (f:=(0,0)) (jv (by simp[hN])) rfl) nK,DB.rd (by rw[(r hF bl).heap];simp[hN]) z0,?_⟩
 replace hF:=r hF bl
 clear bl
 walk_nrm
 refine Bn (n:=20) ?_
 u_op r hF
 u_op r hF
 u_op r hF
 u_op r hF
 u_op r hF
 u_op r hF
 u_op r hF
 u_op r hF
 u_op r hF
 u_op r hF
 u_c arw r hF
 u_cond false r hF
 u_c arC r hF
 u_c arx r hF
 u_reg r hF
 refine Goes.stop (fun cG aJ=>?_)
 replace hF:=r hF aJ
 clear aJ;refine Way.step rfl fun fQ bl=>⟨fun _=>True,_,_,_,fI (d:=.slice 9) underlying22 rfl rfl rfl dC rfl rfl ((r hF bl).at0 (b:=J.N) (c:=#[.slice J.a0 J.n J.cap]) (t:=22) (f:=(0,0)) (jv (by simp[hN])) rfl) nK,DB.rd (by rw[(r hF bl).heap];simp[hN]) z0,?_⟩
 replace hF:=r hF bl
 clear bl
 walk_nrm
 refine Bn (n:=2) ?_
 u_op r hF
 refine Goes.stop (fun cG aJ=>?_)
 replace hF:=r hF aJ
 clear aJ;refine Way.step rfl fun fQ bl=>⟨fun _=>True,_,_,_,Tq (N:=J.N+1) hn (by rw[(r hF bl).heap];simp[hN]) rfl rfl dC rfl rfl,DB.new _ _,?_⟩
 replace hF:=(r hF bl).alloc (.cells (atr #[.string ⟨#[]⟩] J.n) 9)
 clear bl
 walk_nrm
 refine Way.step rfl fun fQ bl=>⟨fun _=>True,_,_,_,I9 (N:=J.N+2) (by rw[(r hF bl).heap];simp[hN]) rfl rfl dC rfl,DB.new _ _,?_⟩
 replace hF:=(r hF bl).alloc (.cells #[.slice none 0 0] 22)
 clear bl
 walk_nrm
 refine Way.step rfl fun fQ bl=>⟨fun _=>True,_,_,_,Jb rfl rfl dC rfl (ad:=⟨J.N+2,0,none⟩) rfl rfl ((r hF bl).at0 (b:=J.N+2) (c:=#[.slice none 0 0]) (t:=22) (f:=(0,0)) (jv (by simp[hN])) rfl) ((r hF bl).thaw (b:=J.N+2) (c:=#[.slice none 0 0]) (t:=22) (jv (by simp[hN]))) nK,DB.wr (by rw[(r hF bl).heap];simp[hN]) z2,?_⟩
 replace hF:=(r hF bl).ajX (b:=J.N+2) (.slice (some ⟨J.N+1,0,none⟩) J.n J.n) (by simp[hN])
 clear bl
 walk_nrm
 refine Bn (n:=4) ?_
 u_c arw r hF
 u_c arx r hF
 u_reg r hF
 refine Goes.stop (fun cG aJ=>?_)
 replace hF:=r hF aJ
 clear aJ;refine Way.step rfl fun fQ bl=>⟨fun _=>True,_,_,_,Tp (N:=J.N+3) (by rw[(r hF bl).heap];simp[hN]) rfl rfl dC rfl rfl,DB.new _ _,?_⟩
 replace hF:=(r hF bl).alloc (.chan 0 #[] false 0 0 false)
 clear bl
 walk_nrm
 refine Way.step rfl fun fQ bl=>⟨fun _=>True,_,_,_,I_ (N:=J.N+4) (by rw[(r hF bl).heap];simp[hN]) rfl rfl dC rfl,DB.new _ _,?_⟩
 replace hF:=(r hF bl).alloc (.cells #[.chan none] 31)
 clear bl
 walk_nrm
 refine Way.step rfl fun fQ bl=>⟨fun _=>True,_,_,_,Jc rfl rfl dC rfl (ad:=⟨J.N+4,0,none⟩) rfl rfl ((r hF bl).at0 (b:=J.N+4) (c:=#[.chan none]) (t:=31) (f:=(0,0)) (jv (by simp[hN])) rfl) ((r hF bl).thaw (b:=J.N+4) (c:=#[.chan none]) (t:=31) (jv (by simp[hN]))) nK,DB.wr (by rw[(r hF bl).heap];simp[hN]) z4,?_⟩
 replace hF:=(r hF bl).ajX (b:=J.N+4) (.chan (some (J.N+3))) (by simp[hN])
 clear bl
 walk_nrm
 refine Bn (n:=4) ?_
 u_c arw r hF
 u_c arx r hF
 u_reg r hF
 refine Goes.stop (fun cG aJ=>?_)
 replace hF:=r hF aJ
 clear aJ;refine Way.step rfl fun fQ bl=>⟨fun _=>True,_,_,_,Ja (N:=J.N+5) (by rw[(r hF bl).heap];simp[hN]) rfl rfl dC rfl,DB.new _ _,?_⟩
 replace hF:=(r hF bl).alloc (.cells #[.int .u64 0,.int .u32 0] 41)
 clear bl
 walk_nrm
 refine Bn (n:=12) ?_
 u_c arw r hF
 u_c arx r hF
 u_c arx r hF
 u_reg r hF
 u_op r hF
 u_op r hF
 u_c arw r hF
 u_c as5 r hF
 u_c atu r hF
 refine Goes.stop (fun cG aJ=>?_)
 replace hF:=r hF aJ
 refine Way.stop fun fQ bl=>⟨#[.slice J.a0 J.n J.cap,.int .i64 m,.pointer (some ⟨J.N,0,none⟩),agp,.slice none 0 0,.nilIface,.pointer (some ⟨J.N+2,0,none⟩),.pointer (some ⟨J.N+4,0,none⟩),.pointer (some ⟨J.N+5,0,none⟩),agp,.slice J.a0 J.n J.cap,.int .i64 J.n,.bool false,.bool false,.int .i64 m,.bool false,.bool false,.bool false,.int .i64 m,.bool false,.bool false,agp,.slice J.a0 J.n J.cap,.int .i64 J.n,.slice (some ⟨J.N+1,0,none⟩) J.n J.n,.chan (some (J.N+3)),.int .i64 m,.int .i64 0,agp,agp,agp,agp,agp,agp,agp,agp,agp,agp,agp,agp,agp,agp,agp],?_,⟨rfl,rfl,rfl,rfl,rfl⟩,rfl,rfl,r hF bl⟩
 simp only[headA,LA,pI,gd,jH,Tryz.f4,alV]
end
open Go.ConcR (KK WgAt stA smA rd wr mk DC0)
section
variable{J:mS}{W w:aah}{cs:List ary}{Sb:Nat->Prop}
theorem Hp.look(h:Hp W W.heap w)(a:akr):w.cell? a=W.cell? a:=by simp[alr,h.heap]
theorem afg{T:Array aai}{c:ary}{v4 v5:aai}(h4:T[4]?=some v4)(h5:T[5]?=some v5):ant prog true (G {b4.at ⟨T,[]⟩ [.code .ret]with mode:=.returning} (c::cs)) w=.go (G (c.finish (.tuple #[v4,v5])) cs) w #[]:=by
 have hr:(al6 Tryz.f4 T).run prog w=.ok (.tuple #[v4,v5]) w:=by
  have e:Tryz.f4.results=#[.tmp 4,.tmp 5]:=kR;simp[al6,h4,h5]
 have he:(al6 Tryz.f4 T).events prog w #[]=#[]:=by
  have e:Tryz.f4.results=#[.tmp 4,.tmp 5]:=kR;simp[al6,h4,h5]
 simp[G,ant,arB,arA,Frame.at,b4,base,func4,hr,he,seen,arO]
theorem Z1{H:Array Obj}{e:ane}{n:Nat}{g:ane}(h:asZ prog true (fun _ _=>True) DC0 (fun g' _=>g'=e) n g w)(hW:Hp W H w):tM prog Sb (fun g w'=>g=e/\Hp W H w') g w:=by
 induction n generalizing g w with
 |zero=>exact Way.stop fun w1 r=>⟨h w1 trivial,hW.rl r⟩
 |succ n ih=>
  rcases h with h|⟨h1,h2⟩
  ·exact Way.stop fun w1 r=>⟨h w1 trivial,hW.rl r⟩
  ·refine Way.step h1 fun w1 k=>?_
   have:=h2 w1 trivial
   revert this
   cases hgo:ant prog true g w1<;>simp only[GStep.goes,false_implies]
   rename_i g' w' es
   rintro⟨⟨rfl,rfl⟩,x⟩;exact⟨fun _=>True,g',_,_,rfl,DB.refl _,ih x (hW.rl k)⟩
theorem ahy{a:ane}{c:ary}(h:adb J (c::cs) a)(hW:Hp W W.heap w)(hc:W.cell? ⟨J.N+2,0,none⟩=some J.O)(aE:J.N+2<W.heap.size)(hs:¬ Sb (J.N+2)):
  tM prog Sb (fun g w'=>g=G (c.finish (.tuple #[J.O,.nilIface])) cs/\Hp W W.heap w') a w:=by
 obtain⟨T,hT,hG⟩:=h;refine Way.bind jG (Z1 (Sb:=Sb) (hG w) hW) ?_;rintro _ g w ⟨rfl,hF⟩;refine Way.wR (S:=fun _=>True) ?_;have r {a b:aah}:= @Hp.rl W a b W.heap;obtain⟨v0,v1,v3,v4,v5,v9,v10,v11,v12,v13,v14,v15,v16,v17,EC,ED,v20,v21,v22,FF,v24,EE,v26,JD,v28,Hq,v30,v31,v32,v33,JE,v35,Hr,v37,Hs,Ht,v40,v41,FG,rfl⟩:=hT.open;simp only[e17,GB,LK,AE,pI,gd,jH,Tryz.f4,alV]
 walk_nrm
 refine Bn (n:=3) ?_
 u_c arw r hF
 u_c arx r hF
 u_reg r hF
 refine Goes.stop (fun cG aJ=>?_)
 replace hF:=r hF aJ
 clear aJ;refine Way.step rfl fun fQ bl=>⟨fun _=>True,_,_,_,fI (d:=.slice 9) underlying22 rfl rfl rfl dC rfl rfl (((r hF bl).look _).T hc) nK,DB.rd (by rw[(r hF bl).heap];exact aE) hs,?_⟩
 replace hF:=r hF bl
 clear bl
 walk_nrm
 refine Bn (n:=5) ?_
 u_op r hF
 u_op r hF
 u_c arw r hF
 u_c arJ r hF
 refine Goes.stop (fun cG aJ=>?_)
 replace hF:=r hF aJ
 clear aJ;refine Way.step rfl fun fQ bl=>⟨fun _=>True,_,_,_,afg rfl rfl,DB.refl _,?_⟩
 exact Way.stop fun cG aJ=>⟨rfl,r (r hF bl) aJ⟩
end
open Go.ConcR (KK WgAt stA smA rd wr mk DC0)
noncomputable def b3:ary:=base 3
noncomputable def kZ:anB:=Tryz.f3.body.getD .skip
noncomputable def r3:anB:=match kZ with| .seq _ (.seq _ c)=>c|c=>c
noncomputable def L1:anB:=match r3 with| .seq (.seq _ (.block _ (.loop c))) _=>c|c=>c
noncomputable def r8:anB:=match r3 with| .seq _ c=>c|c=>c
theorem Bv:(prog.funcs[3]?).any (·.norace)=false:=kR
theorem adU(s:ByteArray)(w:aah)(es:Array anu):(aqY #[9] 3 #[.string s]).events prog w es=es:=by
 simp[aqY,go_sem]
def AtRet(v:aai)(g:ane):Prop:=g.status=.running/\∀w,ant prog true g w=.ended (.done v) w #[]
theorem afI{T:Array aai}{v:aai}(h6:T[6]?=some v):AtRet v (G {b3.at ⟨T,[]⟩ [.code .ret]with mode:=.returning} []):=by
 refine⟨rfl,fun w=>?_⟩;have e:Tryz.f3.results=#[.tmp 6]:=kR;have hr:(al6 Tryz.f3 T).run prog w=.ok v w:=by simp[al6,h6]
 have he:(al6 Tryz.f3 T).events prog w #[]=#[]:=by simp[al6,h6]
 simp[G,ant,arB,arA,Frame.at,b3,base,func3,hr,he,seen,arO]
section
variable{W w:aah}{a0:Option akr}{n cap:Nat}{L:Nat->ByteArray}{wk ot:Int}
noncomputable def KH(T:Array aai):ane:=G (b3.at ⟨T,[]⟩ [.code L1,.inLoop L1,.inBlock 0,.code r8]) []
theorem aju(hn:n<=5)(Jw:∀i,i<n->∃ad,a0=some ad/\ad.block<W.heap.size/\W.cell? (ad.add i)=some (.string (L i))):∀(k i:Nat) (Eh Ei Ej Ek BD BE BF BG BH BI BJ BK:aai) (w:aah),i+k=n->(∀j,j<i->(L j).size<=2000)->Hp W W.heap w->
  tM prog (fun _=>False) (fun g w'=>Hp W W.heap w'/\(AtRet (.bool true) g\/(∀j,j<n->(L j).size<=2000)/\∃Eh Ei Ej Ek BD BE BF BG BH BI BJ BK,g=G (b3.at ⟨#[.slice a0 n cap,.int .i64 wk,.int .i64 ot,agp,agp,agp,.bool false,.int .i64 n,agp,agp,agp,agp,agp,agp,.slice a0 n cap,.int .i64 n,.bool false,Eh,Ei,Ej,Ek,BD,BE,BF,BG,BH,BI,BJ,BK,agp,agp,agp,agp,agp,agp,agp,agp,agp,agp,agp,agp,agp,agp,agp,agp,agp,agp,agp,agp,agp,agp,agp,agp,agp,agp,agp,agp,agp,agp,agp,agp,agp,agp,agp,agp,agp,agp,agp,agp,agp,agp,agp,agp,agp,agp,agp,agp,agp,agp,agp,agp,agp,agp,agp,agp,agp,agp,agp,agp,agp,agp,agp,agp,agp],[]⟩ [.code r8]) [])) (KH #[.slice a0 n cap,.int .i64 wk,.int .i64 ot,agp,agp,agp,.bool false,.int .i64 i,agp,agp,agp,agp,agp,agp,.slice a0 n cap,.int .i64 n,.bool false,Eh,Ei,Ej,Ek,BD,BE,BF,BG,BH,BI,BJ,BK,agp,agp,agp,agp,agp,agp,agp,agp,agp,agp,agp,agp,agp,agp,agp,agp,agp,agp,agp,agp,agp,agp,agp,agp,agp,agp,agp,agp,agp,agp,agp,agp,agp,agp,agp,agp,agp,agp,agp,agp,agp,agp,agp,agp,agp,agp,agp,agp,agp,agp,agp,agp,agp,agp,agp,agp,agp,agp,agp,agp,agp,agp,agp,agp,agp]) w:=by
 intro k
 induction k with
 |zero=>
  intro i Eh Ei Ej Ek BD BE BF BG BH BI BJ BK w V1 Jy hF;have r {a b:aah}:= @Hp.rl W a b W.heap;have aE:¬ ((i:Int)<(n:Int)):=by omega
  simp only[KH,L1,r3,kZ,Tryz.f3,alV];refine Bn (n:=12) ?_
  u_c arx r hF
  u_c arx r hF
  u_reg r hF
  u_op r hF
  u_op r hF
  u_op r hF
  u_op r hF
  u_c arw r hF
  u_cond false r hF
  u_in r hF
  refine atw rfl ?_;refine⟨by u_nil,?_⟩;refine Goes.stop (fun cG aJ=>?_);refine Way.stop fun fQ bl=>⟨r (r hF aJ) bl,.inr ⟨fun j hj=>Jy j oM,.int .i64 i,.slice a0 n cap,.int .i64 n,.bool false,BD,BE,BF,BG,BH,BI,BJ,BK,?_⟩⟩
  obtain rfl:i=n:=by omega
  simp only[r8,r3,kZ,Tryz.f3,alV]
 |succ k ih=>
  intro i Eh Ei Ej Ek BD BE BF BG BH BI BJ BK w V1 Jy hF;have r {a b:aah}:= @Hp.rl W a b W.heap;have aE:(i:Int)<(n:Int):=by omega
  have aeC:IntKind.i64.wrap ((i:Int)+1)=((i+1:Nat):Int):=by rw[aks];omega
  have hle:∀(w:aah) (es:Array anu),(aqY #[9] 3 #[.string (L i)]).events prog w es=es:=fun w es=>adU _ w es
  obtain⟨ad,rfl,hb,hc⟩:=Jw i oM;have ju:(ad.add i).block=ad.block:=by unfold atB;split<;>rfl
  simp only[KH,L1,r3,kZ,Tryz.f3,alV];refine Bn (n:=20) ?_
  u_c arx r hF
  u_c arx r hF
  u_reg r hF
  u_op r hF
  u_op r hF
  u_op r hF
  u_op r hF
  u_c arw r hF
  u_cond true r hF
  u_c arC r hF
  u_c arx r hF
  u_c as5 r hF
  u_c arx r hF
  u_reg r hF
  u_op r hF
  u_op r hF
  refine Goes.stop (fun cG aJ=>?_)
  replace hF:=r hF aJ
  clear aJ;refine Way.step rfl fun fQ bl=>⟨fun _=>True,_,_,_,lS (k:=i) rfl rfl dC rfl rfl rfl oM,DB.refl _,?_⟩
  replace hF:=r hF bl
  clear bl;refine Way.step rfl fun fQ bl=>⟨fun _=>True,_,_,_,fI (d:=.string) underlying9 rfl rfl rfl dC rfl rfl (((r hF bl).look _).T hc) Bv,DB.rd (by rw[(r hF bl).heap];show(ad.add i).block<_;rw[ju];exact hb) id,?_⟩
  replace hF:=r hF bl
  clear bl
  walk_nrm
  by_cases hs:(L i).size<=2000
  ·have hgt:¬ ((2000:Int)<((L i).size:Int)):=by omega
   refine Bn (n:=14) ?_;u_op r hF;u_op r hF;u_c arw r hF;u_cond false r hF;u_c arC r hF;u_c atf r hF;u_reg r hF;u_op r hF;u_op r hF;u_op r hF;u_c arw r hF;u_c atj r hF;(refine Goes.stop (fun cG aJ=>?_);have key:=ih (i+1) (.int .i64 i) (.slice (some ad) n cap) (.int .i64 n) (.bool true) (.int .i64 i) (.int .i64 ((i+1:Nat):Int)) (.slice (some ad) n cap) (.int .i64 i) (.pointer (some (ad.add i))) (.string (L i)) (.int .i64 (L i).size) (.bool false) cG oM (fun j hj=>by rcases af8 j i with h|h;exact Jy j h;exact(show j=i by omega)▸hs) (r hF aJ);simp only[KH,L1,r3,kZ,Tryz.f3,alV]at key;have ec:((i+1:Nat):Int)=(i:Int)+1:=by omega);simp only[ec]at key;exact key
  ·have hgt:(2000:Int)<((L i).size:Int):=by omega
   refine Bn (n:=14) ?_;u_op r hF;u_op r hF;u_c arw r hF;u_cond true r hF;u_c arx r hF;u_reg r hF;u_op r hF;u_c arw r hF;u_c arJ r hF;refine Goes.stop (fun cG aJ=>?_);exact Way.stop fun fQ bl=>⟨r (r hF aJ) bl,.inl (afI rfl)⟩
theorem afZ(Jw:∀i,i<n->∃ad,a0=some ad/\ad.block<W.heap.size/\W.cell? (ad.add i)=some (.string (L i)))(hW:Hp W W.heap w):
  tM prog (fun _=>False) (fun g w'=>Hp W W.heap w'/\(AtRet (.bool true) g\/n<=5/\(∀j,j<n->(L j).size<=2000)/\∃Eh Ei Ej Ek BD BE BF BG BH BI BJ BK,g=G (b3.at ⟨#[.slice a0 n cap,.int .i64 wk,.int .i64 ot,agp,agp,agp,.bool false,.int .i64 n,agp,agp,agp,agp,agp,agp,.slice a0 n cap,.int .i64 n,.bool false,Eh,Ei,Ej,Ek,BD,BE,BF,BG,BH,BI,BJ,BK,agp,agp,agp,agp,agp,agp,agp,agp,agp,agp,agp,agp,agp,agp,agp,agp,agp,agp,agp,agp,agp,agp,agp,agp,agp,agp,agp,agp,agp,agp,agp,agp,agp,agp,agp,agp,agp,agp,agp,agp,agp,agp,agp,agp,agp,agp,agp,agp,agp,agp,agp,agp,agp,agp,agp,agp,agp,agp,agp,agp,agp,agp,agp,agp,agp],[]⟩ [.code r8]) [])) (G (aq9 prog 3 #[.slice a0 n cap,.int .i64 wk,.int .i64 ot] .normal) []) w:=by
 have hF:=hW;have r {a b:aah}:= @Hp.rl W a b W.heap
 have e0:aq9 prog 3 #[.slice a0 n cap,.int .i64 wk,.int .i64 ot] .normal=b3.at ⟨#[.slice a0 n cap,.int .i64 wk,.int .i64 ot]++apE 91 agp,[]⟩ [.code kZ]:=by
  unfold aq9;rw[func3];rfl
 rw[e0];simp only[kZ,Tryz.f3,alV]
 walk_nrm
 by_cases hn:n<=5
 ·have c5:¬ ((5:Int)<(n:Int)):=by omega
  refine Bn (n:=30) ?_
  u_c arx r hF
  u_reg r hF
  u_op r hF
  u_c arw r hF
  u_c arx r hF
  u_c arx r hF
  u_reg r hF
  u_op r hF
  u_op r hF
  u_op r hF
  u_c arw r hF
  u_cond false r hF
  u_c arC r hF
  u_c arx r hF
  u_c arx r hF
  u_reg r hF
  u_op r hF
  u_c arw r hF
  u_c as5 r hF
  u_c atu r hF
  refine Goes.stop (fun cG aJ=>?_);have key:=aju (cap:=cap) (wk:=wk) (ot:=ot) hn Jw n 0 agp agp agp agp agp agp agp agp agp agp agp agp cG oM (fun j hj=>absurd hj (ah' j)) (r hF aJ);simp only[KH,L1,r3,kZ,Tryz.f3,alV]at key;refine Way.mono key fun _ g w' h=>⟨h.1,h.2.imp id fun h=>⟨hn,h⟩⟩
 ·have c5:(5:Int)<(n:Int):=by omega
  refine Bn (n:=30) ?_
  u_c arx r hF
  u_reg r hF
  u_op r hF
  u_c arw r hF
  u_c arx r hF
  u_c arx r hF
  u_reg r hF
  u_op r hF
  u_op r hF
  u_op r hF
  u_c arw r hF
  u_cond true r hF
  u_c arx r hF
  u_reg r hF
  u_op r hF
  u_c arw r hF
  u_c arJ r hF
  refine Goes.stop (fun cG aJ=>?_);exact Way.stop fun fQ bl=>⟨r (r hF aJ) bl,.inl (afI rfl)⟩
noncomputable def o8:Array aer:=match r8 with| .seq (.region _ ops _) _=>ops|_=>#[]
noncomputable def r9:anB:=match r8 with| .seq _ c=>c|c=>c
theorem QJ{y:Int}(h:0<=y):∃p:Nat,p<16/\IntKind.i64.wrap (y.tmod 16)=p:=by
 have h1:0<=y % 16:=atx _ dC;have h2:y % 16<16:=Int.emod_lt_of_pos _ dC;refine⟨(y % 16).toNat,by omega,?_⟩;rw[Int.tmod_eq_emod_of_nonneg h,aks];omega
theorem nm4:(Tryz.f4.name == "runtime.NumGoroutine")=false:=kR
theorem Vr{x y:aai}:aq9 prog 4 #[x,y] .normal=b4.at ⟨#[x,y]++apE 41 agp,[]⟩ [.code jH]:=by
 unfold aq9;rw[func4];rfl
theorem nm5:(Tryz.f5.name == "runtime.NumGoroutine")=false:=kR
theorem ahD{Eh Ei Ej Ek BD BE BF BG BH BI BJ BK:aai}(hW:Hp W W.heap w):tM prog (fun _=>False) (fun g w'=>Hp W W.heap w'/\∃(m:Nat) (v:aai),1<=m/\m<=16/\g=G (aq9 prog 4 #[.slice a0 n cap,.int .i64 m] .normal) [b3.at ⟨#[.slice a0 n cap,.int .i64 wk,.int .i64 ot,agp,agp,agp,.bool false,.int .i64 n,agp,agp,agp,agp,agp,agp,.slice a0 n cap,.int .i64 n,.bool false,Eh,Ei,Ej,Ek,BD,BE,BF,BG,BH,BI,BJ,BK,agp,.slice a0 n cap,.int .i64 wk,v,.int .i64 m,agp,agp,agp,agp,agp,agp,agp,agp,agp,agp,agp,agp,agp,agp,agp,agp,agp,agp,agp,agp,agp,agp,agp,agp,agp,agp,agp,agp,agp,agp,agp,agp,agp,agp,agp,agp,agp,agp,agp,agp,agp,agp,agp,agp,agp,agp,agp,agp,agp,agp,agp,agp,agp,agp,agp,agp,agp,agp,agp,agp],[]⟩ [.inRegion o8 [4,5,6,7,8,9],.code r9]])
  (G (b3.at ⟨#[.slice a0 n cap,.int .i64 wk,.int .i64 ot,agp,agp,agp,.bool false,.int .i64 n,agp,agp,agp,agp,agp,agp,.slice a0 n cap,.int .i64 n,.bool false,Eh,Ei,Ej,Ek,BD,BE,BF,BG,BH,BI,BJ,BK,agp,agp,agp,agp,agp,agp,agp,agp,agp,agp,agp,agp,agp,agp,agp,agp,agp,agp,agp,agp,agp,agp,agp,agp,agp,agp,agp,agp,agp,agp,agp,agp,agp,agp,agp,agp,agp,agp,agp,agp,agp,agp,agp,agp,agp,agp,agp,agp,agp,agp,agp,agp,agp,agp,agp,agp,agp,agp,agp,agp,agp,agp,agp,agp,agp],[]⟩ [.code r8]) []) w:=by
 have hF:=hW;have r {a b:aah}:= @Hp.rl W a b W.heap;obtain⟨p,aE,hp⟩:=QJ (y:=wk % 18446744073709551616) (atx _ dC);have hp1:IntKind.i64.wrap (1+(p:Int))=((p+1:Nat):Int):=by rw[aks];omega
 simp only[r8,r3,kZ,Tryz.f3,alV];refine Bn (n:=40) ?_
 u_c arx r hF
 u_reg r hF
 u_op r hF
 u_op r hF
 u_call func5 nm5 Tryz.f5 r hF
 u_c arx r hF
 u_reg r hF
 u_op r hF
 u_c arw r hF
 u_c arx r hF
 u_reg r hF
 u_op r hF
 u_op r hF
 u_op r hF
 u_op r hF
 u_op r hF
 u_op r hF
 u_op r hF
 u_c arw r hF
 u_c arJ r hF
 u_leave1 func5 r hF
 generalize hq:agE .i64 _=q;obtain rfl:q=p:=hq.symm.T hp;clear hq
 u_op r hF
 u_call func4 nm4 Tryz.f4 r hF
 refine Goes.stop (fun cG aJ=>?_);refine Way.stop fun fQ bl=>⟨r (r hF aJ) bl,p+1,.int .i64 p,by omega,by omega,?_⟩
 rw[Vr];have ec:((p+1:Nat):Int)=(p:Int)+1:=by omega
 walk_nrm
 simp only[ec,o8,r9,r8,r3,kZ,jH,Tryz.f3,Tryz.f4,alV,b3,b4]
end
open Go.ConcR (KK WgAt stA smA rd wr mk DC0)
noncomputable def o9:Array aer:=match r9 with| .seq (.region _ ops _) _=>ops|_=>#[]
noncomputable def m_:anB:=match r9 with| .seq _ c=>c|c=>c
noncomputable def L2:anB:=match m_ with| .seq _ (.seq (.seq _ (.block _ (.loop c))) _)=>c|c=>c
noncomputable def r18:anB:=match m_ with| .seq _ (.seq _ c)=>c|c=>c
section
variable{W w:aah}{a0:Option akr}{n cap m m':Nat}{L:Nat->ByteArray}{wk ot:Int}{Eh Ei Ej Ek BD BE BF BG BH BI BJ BK v v':aai}{q1 q2:akr}{Sb:Nat->Prop}
theorem call2(hW:Hp W W.heap w):tM prog Sb (fun g w'=>Hp W W.heap w'/\∃(m':Nat) (v':aai),1<=m'/\m'<=16/\g=G (aq9 prog 4 #[.slice a0 n cap,.int .i64 m'] .normal) [b3.at ⟨#[.slice a0 n cap,.int .i64 wk,.int .i64 ot,agp,agp,agp,.bool false,.int .i64 n,.slice (some q1) n n,.nilIface,agp,agp,agp,agp,.slice a0 n cap,.int .i64 n,.bool false,Eh,Ei,Ej,Ek,BD,BE,BF,BG,BH,BI,BJ,BK,.tuple #[.slice (some q1) n n,.nilIface],.slice a0 n cap,.int .i64 wk,v,.int .i64 m,.tuple #[.slice (some q1) n n,.nilIface],.slice (some q1) n n,.nilIface,agp,.slice a0 n cap,.int .i64 ot,v',.int .i64 m',agp,agp,agp,agp,agp,agp,agp,agp,agp,agp,agp,agp,agp,agp,agp,agp,agp,agp,agp,agp,agp,agp,agp,agp,agp,agp,agp,agp,agp,agp,agp,agp,agp,agp,agp,agp,agp,agp,agp,agp,agp,agp,agp,agp,agp,agp,agp,agp,agp,agp,agp,agp],[]⟩ [.inRegion o9 [4,5,6,7,8,9],.code m_]])
  (G ((b3.at ⟨#[.slice a0 n cap,.int .i64 wk,.int .i64 ot,agp,agp,agp,.bool false,.int .i64 n,agp,agp,agp,agp,agp,agp,.slice a0 n cap,.int .i64 n,.bool false,Eh,Ei,Ej,Ek,BD,BE,BF,BG,BH,BI,BJ,BK,agp,.slice a0 n cap,.int .i64 wk,v,.int .i64 m,agp,agp,agp,agp,agp,agp,agp,agp,agp,agp,agp,agp,agp,agp,agp,agp,agp,agp,agp,agp,agp,agp,agp,agp,agp,agp,agp,agp,agp,agp,agp,agp,agp,agp,agp,agp,agp,agp,agp,agp,agp,agp,agp,agp,agp,agp,agp,agp,agp,agp,agp,agp,agp,agp,agp,agp,agp,agp,agp,agp],[]⟩ [.inRegion o8 [4,5,6,7,8,9],.code r9]).finish (.tuple #[.slice (some q1) n n,.nilIface])) []) w:=by
 have hF:=hW;have r {a b:aah}:= @Hp.rl W a b W.heap;obtain⟨p,aE,hp⟩:=QJ (y:=ot % 18446744073709551616) (atx _ dC);have hp1:IntKind.i64.wrap (1+(p:Int))=((p+1:Nat):Int):=by rw[aks];omega
 rw[as7];simp only[o8,r9,r8,r3,kZ,Tryz.f3,alV]
 walk_nrm
 refine Bn (n:=60) ?_
 change asZ prog _ _ _ _ _ _ _
 u_op r hF
 u_op r hF
 u_op r hF
 u_op r hF
 u_op r hF
 u_c arw r hF
 u_c arx r hF
 u_reg r hF
 u_op r hF
 u_op r hF
 u_call func5 nm5 Tryz.f5 r hF
 u_c arx r hF
 u_reg r hF
 u_op r hF
 u_c arw r hF
 u_c arx r hF
 u_reg r hF
 u_op r hF
 u_op r hF
 u_op r hF
 u_op r hF
 u_op r hF
 u_op r hF
 u_op r hF
 u_c arw r hF
 u_c arJ r hF
 u_leave1 func5 r hF
 generalize hq:agE .i64 _=q;obtain rfl:q=p:=hq.symm.T hp;clear hq
 u_op r hF
 u_call func4 nm4 Tryz.f4 r hF
 refine Goes.stop (fun cG aJ=>?_);refine Way.stop fun fQ bl=>⟨r (r hF aJ) bl,p+1,.int .i64 p,by omega,by omega,?_⟩
 rw[Vr];have ec:((p+1:Nat):Int)=(p:Int)+1:=by omega
 walk_nrm
 simp only[ec,o9,m_,r9,r8,r3,kZ,jH,Tryz.f3,Tryz.f4,alV,b3,b4]
end
structure mV(W:aah)(z:Nat->Bool)(fr:Nat->Option Nat)(oS:ByteArray->ByteArray)(Sb:Nat->Prop):Prop where
 G_:Std Es z fr W
 zS:∀b,z b=true->¬ Sb b
 lt:∀b,Sb b->b<W.heap.size
 lone:∀(w:aah) (s:ByteArray),s.size<=2000->(∀b,z b=true->w.heap[b]?=W.heap[b]?)->Lone Es z fr 6 #[.string s] (.string (oS s)) w
 Vs:oS ⟨#[120,10]⟩=⟨#[101,114,114,111,114,32,51,10]⟩
section
variable{W w:aah}{z:Nat->Bool}{fr:Nat->Option Nat}{oS:ByteArray->ByteArray}{Sb:Nat->Prop}
theorem mV.keep(h:mV W z fr oS Sb)(hb:aae W.heap.size W w):mV w z fr oS Sb where
 G_:=h.G_.keep fun b hz=>hb.block b (h.G_.lt hz)
 zS:=h.zS
 lt b hs:=ae7 (h.lt b hs) hb.size
 lone w1 s hs hk:=h.lone w1 s hs fun b hz=>(hk b hz).T (hb.block b (h.G_.lt hz))
 Vs:=h.Vs
theorem ac6{b:ary}{a:Act}{kk:List Item}{cs:List ary}{ops:Array aer}{i:Nat}{rest:List Nat}{o:aer}{ats:Array aat}{s:ByteArray}(ho:ops[i]?=some o)(hw:ab9 o (adf ops a.tmps)=true)(hk:b.kind≠.early)(a_:o.op=.call {callee:=.value (.func 6),args:=#[x],argTypes:=ats})(hx:a.eval x=.string s)(hs:s.size<=2000)(hK:mV W z fr oS Sb)(hB:aae W.heap.size W w):
  tM prog Sb (fun g w'=>g=G (b.at (a.put o.dst (.string (oS s))) (.inRegion ops rest::kk)) cs/\aae W.heap.size W w') (G (b.at a (.inRegion ops (i::rest)::kk)) cs) w:=by
 refine Way.step rfl fun w1 hr=>⟨fun _=>True,_,w1,#[],Ch ho hw hk a_,DB.refl _,?_⟩
 have pX:=gV hB hr;have K:=hK.keep pX;rw[hx];have key:=J2 (Sb:=Sb) (cs:=b.at a (.inRegion ops (i::rest)::kk)::cs) served K.G_ K.zS K.lt (has kR) (.one (.string s)) (K.lone w1 s hs fun _ _=>rfl);refine Way.bind jG key ?_;rintro _ g2 w2 ⟨⟨f,rfl,hlv,E1⟩,oU⟩;refine Way.wR (S:=fun _=>True) ?_;have Et:aae W.heap.size W w2:=pX.T (oU.mono pX.size);refine Way.step rfl fun w3 E5=>⟨fun _=>True,_,w3,#[],x8 (w0:=w2) hlv (by rw[E1];exact func6) (show Tryz.f6.results=#[.tmp 2] by kernel_rfl),DB.refl _,?_⟩
 rw[as7,ho];exact Way.stop fun w4 hr4=>⟨rfl,gV (gV Et E5) hr4⟩
end
structure Reads(W:aah)(Sb:Nat->Prop)(q:akr)(f:Nat->ByteArray)(n:Nat):Prop where
 lt:q.block<W.heap.size
 ok:¬ Sb q.block
 el:∀i,i<n->W.cell? (q.add i)=some (.string (f i))
theorem ZB(q:akr)(i:Nat):(q.add i).block=q.block:=by unfold atB;split<;>rfl
section
variable{W w:aah}{a0:Option akr}{n cap m m':Nat}{L:Nat->ByteArray}{wk ot:Int}{Eh Ei Ej Ek BD BE BF BG BH BI BJ BK v v':aai}{q1 q2:akr}{Sb:Nat->Prop}{z:Nat->Bool}{fr:Nat->Option Nat}{oS:ByteArray->ByteArray}
theorem WJ{b:ary}{a:Act}{kk:List Item}{cs:List ary}{ops:Array aer}{i:Nat}{rest:List Nat}{o:aer}{q:akr}{f:Nat->ByteArray}{Stop:ane->aah->Prop}(ho:ops[i]?=some o)(hw:ab9 o (adf ops a.tmps)=true)(hk:b.kind≠.early)(a_:o.op=.load 9 x)(hx:a.eval x=.pointer (some (q.add k)))(hq:(prog.funcs[b.fn]?).any (·.norace)=false)(hR:Reads W Sb q f n)(MN:k<n)(hB:aae W.heap.size W w)(h:∀w1,aae W.heap.size W w1->tM prog Sb Stop (G (b.at (a.put o.dst (.string (f k))) (.inRegion ops rest::kk)) cs) w1):tM prog Sb Stop (G (b.at a (.inRegion ops (i::rest)::kk)) cs) w:=by
 have hb:(q.add k).block<W.heap.size:=by rw[ZB];exact hR.lt
 exact Way.step rfl fun w1 hr=>⟨fun _=>True,_,w1,_,fI (d:=.string) underlying9 rfl ho hw hk a_ hx (((gV hB hr).look hb).T (hR.el k MN)) hq,DB.rd (ae7 hb (gV hB hr).size) (by rw[ZB];exact hR.ok),h w1 (gV hB hr)⟩
noncomputable def KI(T:Array aai):ane:=G (b3.at ⟨T,[]⟩ [.code L2,.inLoop L2,.inBlock 2,.code r18]) []
theorem ajv(hn:n<=5)(Jy:∀j,j<n->(L j).size<=2000)(hK:mV W z fr oS Sb)(Jw:∀i,i<n->∃ad,a0=some ad/\Reads W Sb ad L n)(h1:0<n->Reads W Sb q1 (fun i=>oS (L i)) n)(h2:0<n->Reads W Sb q2 (fun i=>oS (L i)) n):∀(k i:Nat) (y x69 x70 x71 x72 x73 x74 x75 x76 x77 x78 x79 x80 x81 x82 x83 x84 x85 x86 x87 x88 x89 x90 x91 x92 x93:aai) (w:aah),i+k=n->aae W.heap.size W w->
  tM prog Sb (fun g w'=>aae W.heap.size W w'/\AtRet (.bool true) g) (KI #[.slice a0 n cap,.int .i64 wk,.int .i64 ot,agp,agp,agp,.bool false,.int .i64 n,.slice (some q1) n n,.nilIface,.slice (some q2) n n,.nilIface,.int .i64 i,y,.slice a0 n cap,.int .i64 n,.bool false,Eh,Ei,Ej,Ek,BD,BE,BF,BG,BH,BI,BJ,BK,.tuple #[.slice (some q1) n n,.nilIface],.slice a0 n cap,.int .i64 wk,v,.int .i64 m,.tuple #[.slice (some q1) n n,.nilIface],.slice (some q1) n n,.nilIface,.tuple #[.slice (some q2) n n,.nilIface],.slice a0 n cap,.int .i64 ot,v',.int .i64 m',.tuple #[.slice (some q2) n n,.nilIface],.slice (some q2) n n,.nilIface,.nilIface,.bool false,.bool false,.nilIface,.bool false,.bool false,.bool false,.slice (some q1) n n,.int .i64 n,.slice a0 n cap,.int .i64 n,.bool false,.bool false,.bool false,.slice (some q2) n n,.int .i64 n,.slice a0 n cap,.int .i64 n,.bool false,.bool false,.bool false,.string ⟨#[101,114,114,111,114,32,51,10]⟩,.bool false,.bool false,x69,x70,x71,x72,x73,x74,x75,x76,x77,x78,x79,x80,x81,x82,x83,x84,x85,x86,x87,x88,x89,x90,x91,x92,x93]) w:=by
 intro k
 induction k with
 |zero=>
  intro i y x69 x70 x71 x72 x73 x74 x75 x76 x77 x78 x79 x80 x81 x82 x83 x84 x85 x86 x87 x88 x89 x90 x91 x92 x93 w V1 hF;have r {a b:aah}:= @gV W.heap.size W a b;have aE:¬ ((i:Int)<(n:Int)):=by omega
  simp only[KI,L2,m_,r9,r8,r3,kZ,Tryz.f3,alV];refine Bn (n:=20) ?_
  u_c arx r hF
  u_c arx r hF
  u_reg r hF
  u_op r hF
  u_op r hF
  u_op r hF
  u_op r hF
  u_c arw r hF
  u_cond false r hF
  u_in r hF
  refine atw rfl ?_;refine⟨by u_nil,?_⟩;simp only[r18,m_,r9,r8,r3,kZ,Tryz.f3,alV]
  u_c arx r hF
  u_reg r hF
  u_op r hF
  u_c arw r hF
  u_c arJ r hF
  refine Goes.stop (fun cG aJ=>?_);exact Way.stop fun fQ bl=>⟨r (r hF aJ) bl,afI rfl⟩
 |succ k ih=>
  intro i y x69 x70 x71 x72 x73 x74 x75 x76 x77 x78 x79 x80 x81 x82 x83 x84 x85 x86 x87 x88 x89 x90 x91 x92 x93 w V1 hF;have r {a b:aah}:= @gV W.heap.size W a b;have aE:(i:Int)<(n:Int):=by omega
  have aeC:IntKind.i64.wrap ((i:Int)+1)=((i+1:Nat):Int):=by rw[aks];omega
  obtain⟨ad,rfl,h0⟩:=Jw i oM;have eZ:((oS (L i)).toList == (oS (L i)).toList)=true:=beq_self_eq_true _;simp only[KI,L2,m_,r9,r8,r3,kZ,Tryz.f3,alV];refine Bn (n:=20) ?_
  u_c arx r hF
  u_c arx r hF
  u_reg r hF
  u_op r hF
  u_op r hF
  u_op r hF
  u_op r hF
  u_c arw r hF
  u_cond true r hF
  u_c arC r hF
  u_c arx r hF
  u_c as5 r hF
  u_c arx r hF
  u_reg r hF
  u_op r hF
  u_op r hF
  refine Goes.stop (fun cG aJ=>?_)
  replace hF:=r hF aJ
  clear aJ;refine Way.step rfl fun fQ bl=>⟨fun _=>True,_,_,_,lS (k:=i) rfl rfl dC rfl rfl rfl oM,DB.refl _,?_⟩
  replace hF:=r hF bl
  clear bl;refine WJ rfl rfl dC rfl rfl Bv h0 oM hF fun af9 hF=>?_
  walk_nrm
  refine Way.bind jG (ac6 rfl rfl dC rfl rfl (Jy i oM) hK hF) ?_;rintro _ g w4 ⟨rfl,hF⟩;refine Way.wR (S:=fun _=>True) ?_
  walk_nrm
  refine Bn (n:=20) ?_
  u_op r hF
  u_c arw r hF
  u_c arx r hF
  u_reg r hF
  u_op r hF
  u_op r hF
  refine Goes.stop (fun cG aJ=>?_)
  replace hF:=r hF aJ
  clear aJ;refine Way.step rfl fun fQ bl=>⟨fun _=>True,_,_,_,lS (k:=i) rfl rfl dC rfl rfl rfl oM,DB.refl _,?_⟩
  replace hF:=r hF bl
  clear bl;refine WJ rfl rfl dC rfl rfl Bv (h1 oM) oM hF fun apl hF=>?_
  walk_nrm
  refine Bn (n:=20) ?_
  u_op r hF
  u_op r hF
  u_op r hF
  u_op r hF
  u_op r hF
  refine Goes.stop (fun cG aJ=>?_)
  replace hF:=r hF aJ
  clear aJ;refine Way.step rfl fun fQ bl=>⟨fun _=>True,_,_,_,lS (k:=i) rfl rfl dC rfl rfl rfl oM,DB.refl _,?_⟩
  replace hF:=r hF bl
  clear bl;refine WJ rfl rfl dC rfl rfl Bv (h2 oM) oM hF fun apl hF=>?_
  walk_nrm
  refine Bn (n:=20) ?_
  u_op r hF
  u_op r hF
  u_op r hF
  u_c arw r hF
  u_cond false r hF
  u_c arC r hF
  u_c atf r hF
  u_reg r hF
  u_op r hF
  u_op r hF
  u_op r hF
  u_c arw r hF
  u_c atj r hF
  refine Goes.stop (fun cG aJ=>?_);have key:=ih (i+1) (.string (oS (L i))) (.int .i64 i) (.slice (some ad) n cap) (.int .i64 n) (.bool true) (.int .i64 i) (.int .i64 ((i+1:Nat):Int)) (.slice (some ad) n cap) (.int .i64 i) (.pointer (some (ad.add i))) (.string (L i)) (.string (oS (L i))) (.slice (some q1) n n) (.int .i64 i) (.pointer (some (q1.add i))) (.string (oS (L i))) (.string (oS (L i))) (.bool false) (.bool false) (.slice (some q2) n n) (.int .i64 i) (.pointer (some (q2.add i))) (.string (oS (L i))) (.string (oS (L i))) (.bool false) (.bool false) cG oM (r hF aJ);simp only[KI,L2,m_,r9,r8,r3,kZ,Tryz.f3,alV]at key;have ec:((i+1:Nat):Int)=(i:Int)+1:=by omega
  simp only[ec]at key;exact key
theorem Vv(d:Nat)(w:aah)(es:Array anu):(apJ (d+1) 24 .nilIface .nilIface).events prog w es=es/\(apJ (d+1) 24 .nilIface .nilIface).run prog w=.ok true w:=by
 simp[apJ,go_sem]
theorem adV(w:aah)(es:Array anu):(binOp .neq 24 .nilIface .nilIface).events prog w es=es:=by
 have h1:(Op.equal 24 .nilIface .nilIface).events prog w es=es:=(Vv 9999 w es).1;have h2:(Op.equal 24 .nilIface .nilIface).run prog w=.ok true w:=(Vv 9999 w es).2;simp only[binOp];simp[h1,go_sem]
theorem aj1(hn:n<=5)(Jy:∀j,j<n->(L j).size<=2000)(hK:mV W z fr oS Sb)(Jw:∀i,i<n->∃ad,a0=some ad/\Reads W Sb ad L n)(h1:0<n->Reads W Sb q1 (fun i=>oS (L i)) n)(h2:0<n->Reads W Sb q2 (fun i=>oS (L i)) n)(hW:aae W.heap.size W w):
  tM prog Sb (fun g w'=>aae W.heap.size W w'/\AtRet (.bool true) g) (G ((b3.at ⟨#[.slice a0 n cap,.int .i64 wk,.int .i64 ot,agp,agp,agp,.bool false,.int .i64 n,.slice (some q1) n n,.nilIface,agp,agp,agp,agp,.slice a0 n cap,.int .i64 n,.bool false,Eh,Ei,Ej,Ek,BD,BE,BF,BG,BH,BI,BJ,BK,.tuple #[.slice (some q1) n n,.nilIface],.slice a0 n cap,.int .i64 wk,v,.int .i64 m,.tuple #[.slice (some q1) n n,.nilIface],.slice (some q1) n n,.nilIface,agp,.slice a0 n cap,.int .i64 ot,v',.int .i64 m',agp,agp,agp,agp,agp,agp,agp,agp,agp,agp,agp,agp,agp,agp,agp,agp,agp,agp,agp,agp,agp,agp,agp,agp,agp,agp,agp,agp,agp,agp,agp,agp,agp,agp,agp,agp,agp,agp,agp,agp,agp,agp,agp,agp,agp,agp,agp,agp,agp,agp,agp,agp],[]⟩ [.inRegion o9 [4,5,6,7,8,9],.code m_]).finish (.tuple #[.slice (some q2) n n,.nilIface])) []) w:=by
 have hF:=hW;have r {a b:aah}:= @gV W.heap.size W a b;have hnq:∀(w:aah) (es:Array anu),(binOp .neq 24 .nilIface .nilIface).events prog w es=es:=adV;rw[as7];simp only[o9,m_,r9,r8,r3,kZ,Tryz.f3,alV]
 walk_nrm
 refine Bn (n:=60) ?_
 change asZ prog _ _ _ _ _ _ _
 u_op r hF
 u_op r hF
 u_op r hF
 u_op r hF
 u_op r hF
 u_c arw r hF
 u_c arx r hF
 u_c arx r hF
 u_reg r hF
 u_op r hF
 u_op r hF
 u_op r hF
 u_op r hF
 u_op r hF
 u_op r hF
 u_op r hF
 u_op r hF
 u_op r hF
 u_op r hF
 u_op r hF
 u_op r hF
 u_op r hF
 u_op r hF
 u_op r hF
 u_op r hF
 u_op r hF
 u_op r hF
 u_op r hF
 u_op r hF
 u_op r hF
 refine Goes.stop (fun cG aJ=>?_)
 replace hF:=r hF aJ
 clear aJ;refine Way.bind jG (ac6 rfl rfl dC rfl rfl dC hK hF) ?_;rintro _ g w4 ⟨rfl,hF⟩;refine Way.wR (S:=fun _=>True) ?_;rw[hK.Vs];have eZ:((⟨#[101,114,114,111,114,32,51,10]⟩:ByteArray).toList == (⟨#[101,114,114,111,114,32,51,10]⟩:ByteArray).toList)=true:=beq_self_eq_true _
 walk_nrm
 refine Bn (n:=20) ?_
 u_op r hF
 u_op r hF
 u_c arw r hF
 u_cond false r hF
 u_c arC r hF
 u_c arx r hF
 u_c arx r hF
 u_reg r hF
 u_op r hF
 u_c arw r hF
 u_c as5 r hF
 u_c atu r hF
 refine Goes.stop (fun cG aJ=>?_);have key:=ajv (cap:=cap) (wk:=wk) (ot:=ot) (m:=m) (m':=m') (Eh:=Eh) (Ei:=Ei) (Ej:=Ej) (Ek:=Ek) (BD:=BD) (BE:=BE) (BF:=BF) (BG:=BG) (BH:=BH) (BI:=BI) (BJ:=BJ) (BK:=BK) (v:=v) (v':=v') (q1:=q1) (q2:=q2) hn Jy hK Jw h1 h2 n 0 agp agp agp agp agp agp agp agp agp agp agp agp agp agp agp agp agp agp agp agp agp agp agp agp agp agp cG oM (r hF aJ);simp only[KI,L2,r18,m_,r9,r8,r3,kZ,Tryz.f3,alV]at key ⊢;exact key
end
open Go.ConcR (KK WgAt stA smA rd wr mk DC0)
section
variable{J:mS}{W w:aah}
theorem CK(H:Array Obj):(kE J H).size=H.size+6:=by simp[kE]
theorem KN{H:Array Obj}{b:Nat}(h:b<H.size):(kE J H)[b]?=H[b]?:=by
 unfold kE;rw[dZ aP,dZ aP,dZ aP,dZ aP,dZ aP,dZ h]
theorem aal{H:Array Obj}:(kE J H)[H.size]?=some (.cells #[J.text] 22):=by
 unfold kE;rw[dZ aP,dZ aP,dZ aP,dZ aP,dZ aP,jv rfl]
theorem aam{H:Array Obj}:(kE J H)[H.size+1]?=some (.cells (atr #[.string ⟨#[]⟩] J.n) 9):=by
 unfold kE;rw[dZ aP,dZ aP,dZ aP,dZ aP,jv (by simp only[ate])]
theorem Qi{H:Array Obj}:(kE J H)[H.size+2]?=some (.cells #[J.O] 22):=by
 unfold kE;rw[dZ aP,dZ aP,dZ aP,jv (by simp only[ate])]
theorem aan{H:Array Obj}:(kE J H)[H.size+3]?=some (.chan 0 #[] false 0 0 false):=by
 unfold kE;rw[dZ aP,dZ aP,jv (by simp only[ate])]
theorem aao{H:Array Obj}:(kE J H)[H.size+4]?=some (.cells #[.chan (some (J.N+3))] 31):=by
 unfold kE;rw[dZ aP,jv (by simp only[ate])]
theorem aap{H:Array Obj}:(kE J H)[H.size+5]?=some (.cells #[.int .u64 0,.int .u32 0] 41):=by
 unfold kE;rw[jv (by simp only[ate])]
theorem cell_of{b:Nat}{c:Array aai}{t:aat}{f:Nat×Nat}{v:aai}(h:w.heap[b]?=some (.cells c t f))(hc:c[0]?=some v):w.cell? ⟨b,0,none⟩=some v:=by simp[alr,h,hc]
theorem ac'(hN:W.heap.size=J.N)(h:Hp W (kE J W.heap) w):WgAt 41 (J.N+5) w 0 0:=by
 unfold WgAt Go.ConcR.wgBlock;rw[h.heap,<-hN,aap]
theorem ajB(hN:W.heap.size=J.N)(h0:J.W0=W)(h:Hp W (kE J W.heap) w):MV J w where
 tb:=cell_of (by rw[h.heap,<-hN];exact aal) rfl
 ob:=cell_of (by rw[h.heap,<-hN];exact Qi) rfl
 cb:=cell_of (by rw[h.heap,<-hN];exact aao) rfl
 old b hb _:=by rw[h.heap,h0];exact KN oM
 size:=by rw[h.heap,CK];omega
 live:=⟨_,_,ac' hN h⟩
end
def Ay(sh:Nat->Prop)(N b:Nat):Prop:=sh b\/b=N+3\/b=N+5
theorem lP{P:ag0}{a b:Nat}{m m1:Machine}{t t1:aqt}(h:asI P a m t=(.next m1,t1)){t2:_}(k:asI P b m1 t1=t2):asI P (a+b) m t=t2:=by
 rw[runNT_add,h];exact k
section
variable{sh:Nat->Prop}{gs:Array ane}{w:aah}{sl:Option (Nat×Nat)}{t:aqt}{a0:Option akr}{n cap m:Nat}{L:Nat->ByteArray}{z:Nat->Bool}{fr:Nat->Option Nat}{oS:ByteArray->ByteArray}{c:ary}{cs:List ary}
theorem JO(F:Fr prog (Uf sh) gs (G (aq9 prog 4 #[.slice a0 n cap,.int .i64 m] .normal) (c::cs)) t w.heap.size)(hn:n<=5)(h1:1<=m)(hm:m<=16)(hK:mV w z fr oS sh)(Jw:∀i,i<n->∃ad,a0=some ad/\Reads w sh ad L n)(Jy:∀j,j<n->(L j).size<=2000):
  ∃(N:Nat) (gs':Array ane) (w':aah) (QS:Option (Nat×Nat)) (t':aqt),asI prog N (crowd gs w sl) t=(.next (crowd gs' w' QS),t')/\
   Fr prog (Uf (Ay sh w.heap.size)) gs' (G (c.finish (.tuple #[.slice (some ⟨w.heap.size+1,0,none⟩) n n,.nilIface])) cs) t' w'.heap.size/\
   aae w.heap.size w w'/\w.heap.size+6<=w'.heap.size/\(0<n->Reads w' (Ay sh w.heap.size) ⟨w.heap.size+1,0,none⟩ (fun i=>oS (L i)) n):=by
 let J:mS:={a0,n,cap,L,oS,N:=w.heap.size,z,fr,W0:=w,sh}
 have hJ:J.Ok:={
  el:=fun i hi=>by
   obtain⟨ad,e,hr⟩:=Jw i hi;exact⟨ad,e,hr.lt,hr.ok,hr.el i hi⟩
  small:=hn
  G_:=hK.G_
  zN:=fun b hb=>⟨hK.G_.lt hb,hK.zS b hb⟩
  lone:=fun w1 i hi hk=>hK.lone w1 _ (Jy i hi) hk}
 have hgs:1<=gs.size:=by
  have:=(akN.1 F.a0).1;omega
 obtain⟨N1,gs1,a1,w1,sl1,u1,r1,z1,⟨T,rfl,hT,h26,h27,hH⟩,F1,C1⟩:=Mt (sl:=sl) F (fun b hb=>.inl hb) (ZS (J:=J) (cs:=c::cs) rfl hn h1 hm hK.lt (Hp.start w));have hs1:w1.heap.size=w.heap.size+6:=by rw[hH.heap,CK]
 have geo:=ad3 (J:=J) (m:=m) (gH:=gs1.size) (W:=w1) (eM:=Uf sh) oM hm
 have hnt:∀p x,touchAt (t++u1) p=some x->∀b,Ik x.loc=some b->b<w.heap.size\/¬ xW J b:=by
  intro p x hx b hb;obtain⟨op,ho,vU⟩:=touch_of hx;rcases getElem?_append_cases ho with⟨_,EA⟩|⟨_,Gr⟩
  ·refine .inl ?_
   have hl:x.loc.low w.heap.size:=Classical.byContradiction fun k=>uw F.past.seen k p x (by rw[touchAt_of EA];exact vU) rfl
   revert hl hb
   cases x.loc with
   |cell a=>intro e k;cases e;exact k
   |obj r=>intro e k;cases e;exact k
   |_=>intro e;cases e
  ·exact .inr (No C1 Gr vU b hb)
 have zu:∀{b:Nat},b<w.heap.size->w1.heap[b]?=w.heap[b]?:=fun hb=>by rw[hH.heap];exact KN hb
 obtain⟨q1,hL1⟩:=F1.lv
 obtain⟨μ,hI⟩:=bw.start (E:=J.qB m gs1.size w1 (Uf sh)) (sl:=sl1) (Fin:=adb J (c::cs)) (Anch:=vN J m gs1.size w1 (Uf sh) (c::cs)) geo h1 rfl (by show w.heap.size+6<=w1.heap.size;omega) rfl F1.a0 hL1 F1.past nR F1.new
  (by
   rintro l ⟨b,e,hb⟩ ⟨b',e',hs⟩;rw[e]at e';cases e';exact hb.2.2.2.2 ⟨hK.lt b hs,hs⟩)
  (fun p x hx=>⟨by
   rintro(⟨a,e,ha⟩|e)
   ·rcases hnt p x hx (w.heap.size+5) (by rw[e];exact congrArg some ha)with k|k
    ·omega
    ·exact k (.inr (.inr (.inr rfl)))
   ·rcases hnt p x hx (w.heap.size+3) (by rw[e];rfl)with k|k
    ·omega
    ·exact k (.inr (.inr (.inl rfl))),fun i e=>by
   rcases hnt p x hx (w.heap.size+1) (by rw[e];rfl)with k|k
   ·omega
   ·exact k (.inr (.inl rfl))⟩)
  (by
   intro i e;obtain⟨op,ho,a_⟩:=amU.1 e;rcases getElem?_append_cases ho with⟨_,EA⟩|⟨_,Gr⟩
   ·have:=F.past.seen op (mem_of_getElem? EA)
    rw[a_]at this;have:w.heap.size+5<w.heap.size:=this;omega
   ·exact U8 C1 Gr _ a_)
  (ac' rfl hH) (by show w1.heap[w.heap.size+3]?=_;rw[hH.heap];exact aan) (fun _=>⟨_,by show w1.heap[w.heap.size+1]?=_;rw[hH.heap];exact aam,size_madeCells _ _⟩)
  (abG hJ oM hm m 0 T w1 hT h26 h27 oM (ajB rfl rfl hH))
 obtain⟨N2,m2,t2,r2,gs2,a2,w2,sl2,q2,rfl,z2,ha2,hF2,hL2,hP2,hold,an6,hos,anC,ai5,hoa,aeS⟩:=ZT geo h1 US (M8 oM hm) μ _ _ hI
 have F2:Fr prog (Uf (Ay sh w.heap.size)) gs2 a2 t2 w2.heap.size:=⟨ha2,⟨q2,hL2⟩,GH hP2 (by
  rintro l (⟨b,e,hs⟩|⟨a,rfl,ha⟩|rfl)
  ·exact⟨b,e,.inl hs⟩
  ·exact⟨_,rfl,.inr (.inr ha)⟩
  ·exact⟨_,rfl,.inr (.inl rfl)⟩),aeS⟩
 have acQ:∀b,b<w.heap.size+6->b≠w.heap.size+5->b≠w.heap.size+3->b≠w.heap.size+1->w2.heap[b]?=w1.heap[b]?:=hold;have xV:w.heap.size+6<=w2.heap.size:=an6
 have nh:∀b,w.heap.size<=b->b≠w.heap.size+3->b≠w.heap.size+5->¬ Ay sh w.heap.size b:=by
  rintro b hb x y (k|k|k)
  ·have:=hK.lt b k;omega
  ·exact x k
  ·exact y k
 have n2:¬ Ay sh w.heap.size (w.heap.size+2):=nh _ oM oM oM;have n1:¬ Ay sh w.heap.size (w.heap.size+1):=nh _ oM oM oM;obtain⟨N3,gs3,a3,w3,sl3,u3,r3,z3,⟨rfl,YW⟩,F3,_⟩:=Mt (sl:=sl2) F2 (fun b hb=>hb) (ahy (J:=J) hF2 (Hp.start w2) (cell_of (by show w2.heap[w.heap.size+2]?=_;rw[acQ _ oM oM oM oM,hH.heap];exact Qi) rfl) (by show w.heap.size+2<_;omega) n2);refine⟨N1+N2+N3,gs3,w3,sl3,t2++u3,lP (lP r1 r2) r3,F3,⟨YW.os.T (hos.T hH.os),YW.tape.T (ai5.T hH.tape),YW.O.T (anC.T hH.O),by rw[YW.heap];omega,fun k hk=>?_⟩,by rw[YW.heap];exact xV,fun h0=>⟨by rw[YW.heap];show w.heap.size+1<_;omega,n1,fun i hi=>?_⟩⟩
 ·rw[YW.heap,acQ k oM oM oM oM,zu hk]
 ·obtain⟨cl,c1,c2,c3⟩:=hoa h0
  have ead:(⟨w.heap.size+1,0,none⟩:akr).add i=⟨w.heap.size+1,i,none⟩:=by
   unfold atB;split
   ·rename_i h;rw[h]
   ·simp
  have c1':w2.heap[w.heap.size+1]?=some (.cells cl 9):=c1;have c3':=c3 i hi;rw[ead];simp[alr,YW.heap,c1',c3'];rfl
end
open Go.ConcR (KK WgAt stA smA rd wr mk DC0)
section
variable{W w w':aah}{sh Sb:Nat->Prop}{z:Nat->Bool}{fr:Nat->Option Nat}{oS:ByteArray->ByteArray}{q:akr}{f:Nat->ByteArray}{n:Nat}
theorem Hp.below(h:Hp W W.heap w):aae W.heap.size W w:=⟨h.os,h.tape,h.O,by rw[h.heap];exact ahP _,fun k _=>by rw[h.heap]⟩
theorem mV.xW(h:mV w z fr oS sh)(hb:aae w.heap.size w w')(hs:w.heap.size+6<=w'.heap.size):mV w' z fr oS (Ay sh w.heap.size) where
 G_:=(h.keep hb).G_
 zS b hz:=by
  have:=h.G_.lt hz;rintro(k|k|k)
  ·exact h.zS b hz k
  ·omega
  ·omega
 lt b:=by
  rintro(k|k|k)
  ·have:=h.lt b k;omega
  ·omega
  ·omega
 lone:=(h.keep hb).lone
 Vs:=h.Vs
theorem Reads.keep(h:Reads w sh q f n)(hb:aae w.heap.size w w'):Reads w' sh q f n:=⟨ae7 h.lt hb.size,h.ok,fun i hi=>(hb.look (by rw[ZB];exact h.lt)).T (h.el i hi)⟩
theorem Reads.xW(h:Reads w sh q f n)(hb:aae w.heap.size w w'):Reads w' (Ay sh w.heap.size) q f n:=⟨(h.keep hb).lt,by
 have:=h.lt;rintro(k|k|k)
 ·exact h.ok k
 ·omega
 ·omega,(h.keep hb).el⟩
variable{gs:Array ane}{a:ane}{sl:Option (Nat×Nat)}{t:aqt}{v:aai}{Post:aai->aah->Prop}
theorem ends(F:Fr prog (Uf sh) gs a t w.heap.size)(h:AtRet v a)(hp:∀w1,AtRel w w1->Post v w1){K:Nat}{m0:Machine}(hr:asI prog K m0 #[]=(.next (crowd gs w sl),t)):
  ∃M last o w' t',asI prog (M+1) m0 #[]=(.ended o w',t')/\runN prog M m0=.next last/\step prog last=.ended o w'/\Go.Conc.Good prog Post last o w' t':=by
 obtain⟨q,hL⟩:=F.lv
 obtain⟨N,last,o,w',t',e1,e2,e3,e4⟩:=beside_ends (P:=prog) (Post:=Post) (sl:=sl) (D:=fun _ _ es=>es=#[]) (n:=0) (fun _ _ es h e he=>by subst h;exact absurd he (atq e)) F.a0 hL F.past
  (fun w1 r=>⟨h.1,v,#[],h.2 w1,fun e he=>absurd he (atq e),hp w1 r⟩)
 refine⟨K+N,last,o,w',t',lP hr e1,?_,e3,e4⟩;rw[runN_add,<-runNT_fst prog _ _ #[],hr];exact e2
end
section
variable{W:aah}{z:Nat->Bool}{fr:Nat->Option Nat}{oS:ByteArray->ByteArray}{L:Nat->ByteArray}{a0:Option akr}{n cap:Nat}{wk ot:Int}
theorem WM(hK:mV W z fr oS fun _=>False)(Jw:∀i,i<n->∃ad,a0=some ad/\Reads W (fun _=>False) ad L n):
  ∃M last o w' t',asI prog (M+1) (solo (G (aq9 prog 3 #[.slice a0 n cap,.int .i64 wk,.int .i64 ot] .normal) []) W) #[]=(.ended o w',t')/\runN prog M (solo (G (aq9 prog 3 #[.slice a0 n cap,.int .i64 wk,.int .i64 ot] .normal) []) W)=.next last/\
   step prog last=.ended o w'/\Go.Conc.Good prog (fun v w'=>v=.bool true/\aae W.heap.size W w') last o w' t':=by
 rw[solo_eq_crowd]
 have F0:Fr prog (Uf fun _=>False) #[G (aq9 prog 3 #[.slice a0 n cap,.int .i64 wk,.int .i64 ot] .normal) []] (G (aq9 prog 3 #[.slice a0 n cap,.int .i64 wk,.int .i64 ot] .normal) []) #[] W.heap.size:=
  ⟨rfl,⟨_,leavers_one _ _⟩,GH (past_nil.mono (Nat.zero_le _)) fun _ h=>h.elim,fun i g _=>by simp[Trace.g?]⟩
 have way:=Way.bind (nA:=fun _ g w'=>Hp W W.heap w'/\(AtRet (.bool true) g\/n<=5/\(∀j,j<n->(L j).size<=2000)/\∃Eh Ei Ej Ek BD BE BF BG BH BI BJ BK,∃(m:Nat) (v:aai),1<=m/\m<=16/\g=G (aq9 prog 4 #[.slice a0 n cap,.int .i64 m] .normal) [b3.at ⟨#[.slice a0 n cap,.int .i64 wk,.int .i64 ot,agp,agp,agp,.bool false,.int .i64 n,agp,agp,agp,agp,agp,agp,.slice a0 n cap,.int .i64 n,.bool false,Eh,Ei,Ej,Ek,BD,BE,BF,BG,BH,BI,BJ,BK,agp,.slice a0 n cap,.int .i64 wk,v,.int .i64 m,agp,agp,agp,agp,agp,agp,agp,agp,agp,agp,agp,agp,agp,agp,agp,agp,agp,agp,agp,agp,agp,agp,agp,agp,agp,agp,agp,agp,agp,agp,agp,agp,agp,agp,agp,agp,agp,agp,agp,agp,agp,agp,agp,agp,agp,agp,agp,agp,agp,agp,agp,agp,agp,agp,agp,agp,agp,agp,agp,agp],[]⟩ [.inRegion o8 [4,5,6,7,8,9],.code r9]])) jG (afZ (cap:=cap) (wk:=wk) (ot:=ot) (L:=L) (fun i hi=>by
   obtain⟨ad,e,h⟩:=Jw i hi;exact⟨ad,e,h.lt,h.el i hi⟩) (Hp.start W)) (by
  rintro S g w ⟨hH,h|⟨hn,Jy,Eh,Ei,Ej,Ek,BD,BE,BF,BG,BH,BI,BJ,BK,rfl⟩⟩
  ·exact Way.stop fun w1 r=>⟨hH.rl r,.inl h⟩
  ·exact Way.mono (Way.wR (ahD hH)) fun _ g w' ⟨h1,m,v,h2,h3,h4⟩=>⟨h1,.inr ⟨hn,Jy,Eh,Ei,Ej,Ek,BD,BE,BF,BG,BH,BI,BJ,BK,m,v,h2,h3,h4⟩⟩)
 obtain⟨N1,gs1,a1,w1,sl1,u1,r1,z1,⟨hH1,V3⟩,F1,_⟩:=Mt (sl:=none) F0 (fun _ h=>h) way;clear F0 way;rcases V3 with aeZ|⟨hn,Jy,Eh,Ei,Ej,Ek,BD,BE,BF,BG,BH,BI,BJ,BK,m,v,hm1,hm2,rfl⟩
 ·exact ends F1 aeZ (fun w2 r=>⟨rfl,gV hH1.below r⟩) r1
 have B1:=hH1.below
 obtain⟨N2,gs2,w2,sl2,t2,r2,F2,B2,s2,R2⟩:=JO (sl:=sl1) F1 hn hm1 hm2 (hK.keep B1) (fun i hi=>by
  obtain⟨ad,e,h⟩:=Jw i hi;exact⟨ad,e,h.keep B1⟩) Jy
 have K2:=(hK.keep B1).xW B2 s2;obtain⟨N3,gs3,a3,w3,sl3,u3,r3,z3,⟨YW,m',v',ann,ano,rfl⟩,F3,_⟩:=Mt (sl:=sl2) F2 (fun _ h=>h) (call2 (Hp.start w2));have B3:=YW.below
 obtain⟨N4,gs4,w4,sl4,t4,r4,F4,B4,s4,R4⟩:=JO (sl:=sl3) F3 hn ann ano (K2.keep B3) (fun i hi=>by
  obtain⟨ad,e,h⟩:=Jw i hi;exact⟨ad,e,((h.keep B1).xW B2).keep B3⟩) Jy
 have K4:=(K2.keep B3).xW B4 s4
 obtain⟨N5,gs5,a5,w5,sl5,u5,r5,z5,⟨B5,aeZ⟩,F5,_⟩:=Mt (sl:=sl4) F4 (fun _ h=>h) (aj1 (L:=L) hn Jy K4 (fun i hi=>by
  obtain⟨ad,e,h⟩:=Jw i hi;exact⟨ad,e,(((h.keep B1).xW B2).keep B3).xW B4⟩) (fun h0=>((R2 h0).keep B3).xW B4) (fun h0=>R4 h0) bR)
 refine ends F5 aeZ (fun w6 r=>⟨rfl,?_⟩) (lP (lP (lP (lP r1 r2) r3) r4) r5);have c2:=B1.T (B2.mono B1.size);have c3:=c2.T (B3.mono c2.size);have c4:=c3.T (B4.mono c3.size);exact c4.T ((gV B5 r).mono c4.size)
end
open Go.dO (bW VR AR)
noncomputable def w00:aah:=(begin prog (fun _ _=>0) default).world
theorem ahz:w00.heap[9]?=some (.cells ((Array.range 325).map fun t=>Value.int .u64 (atE t)) 0):=kR
theorem Ri:ath 9 w00.heap.size=true:=kR
def isInt:Option TypeDesc->Bool
 |some (.int _)=>true
 |_=>false
theorem XE:([1,2,3,6,7,8].all fun g=>((w00.heap[g]?).bind Obj.row?).any fun x=>prog.buildable x.2&&((prog.cellTypes prog.depth x.2).any fun ts=>ts.all fun u=>isInt (prog.underlying u)))=true:=kR
theorem aoU:((w00.heap[0]?).bind Obj.row?).any (fun x=>x.1.size == 1)=true:=kR
theorem aa':(prog.funcs.all fun f=>(f.body.map readies).all fun l=>l.all fun x=>ath x 10)=true:=kR
theorem Hf{b:Nat}(h:10<=b):prog.stepOf b=none:=by
 unfold Program.stepOf;rw[Array.findIdx?_eq_none_iff];intro f hf;have h1:=Array.all_eq_true_iff_forall_mem.1 aa' f hf;cases hb:f.body with
 |none=>rfl
 |some c=>
  rw[hb]at h1;have h1:(readies c).all (fun x=>ath x 10)=true:=h1
  show(readies c).contains b=false
  rw[atF];intro hc;have h2:=aaJ.1 h1 b (by simpa using hc);have:b<10:=ae7 (asY h2) nR;omega
section
variable{W:aah}(mQ:W.ShapedOpen prog)
include mQ
theorem ahV:W.heap[9]?=some (.cells ((Array.range 325).map fun t=>Value.int .u64 (atE t)) 0):=by
 obtain⟨o,o0,h1,h2,h3⟩:=mQ.2 9 (aqe (show prog.globals.size=9 by kernel_rfl)) (ae7 (asY Ri) nR);have e:World.looseAt (9 - prog.globals.size)=false:=kR;rw[e]at h3;simp only[akg,if_false]at h3;rw[h1,h3,<-h2];exact ahz
theorem Z0{g:Nat}(hg:g∈[1,2,3,6,7,8]):∃d t,W.heap[g]?=some (.cells d t)/\∀(i:Nat) v,d[i]?=some v->∃k n,v=.int k n:=by
 have h1:=aaJ.1 XE g hg;obtain⟨⟨zero,t⟩,e,h2⟩:=(att _ _).1 h1;rw[aaB]at h2;obtain⟨ts,e3,h3⟩:=(att _ _).1 h2.2
 have aE:g<prog.globals.size:=by
  have e9:prog.globals.size=9:=kR;rw[e9];simp only[ab',adn,or_false]at hg;omega
 obtain⟨cs,k1,_,k3⟩:=mQ.1 g zero t aE e;obtain⟨ts',k4,_,k5⟩:=k3 h2.1;obtain rfl:=ahK (e3.symm.T k4);refine⟨cs,t,k1,fun i v hv=>?_⟩;obtain⟨u,hu,hc⟩:=k5 i v hv;have h4:=aaJ.1 h3 u (List.mem_of_getElem? hu);unfold Cell.ok at hc;generalize prog.underlying u=x at hc h4;cases x with
 |none=>cases h4
 |some d=>
  cases d with
  |int k=>cases v<;>first|exact⟨_,_,rfl⟩|exact hc.elim
  |_=>cases h4
theorem ahU{v:aai}(h:W.cell? ⟨0,0,none⟩=some v):∃t,W.heap[0]?=some (.cells #[v] t):=by
 obtain⟨⟨zero,t⟩,e,h2⟩:=(att _ _).1 aoU;obtain⟨cs,k1,k2,_⟩:=mQ.1 0 zero t (ae7 (Nat.zero_lt_one) (asY (show Nat.ble 1 prog.globals.size=true by kernel_rfl))) e;have h3:zero.size=1:=by simpa using h2
 have h4:cs[0]?=some v:=by simpa[alr,k1]using h
 refine⟨t,k1.T (congrArg (fun x=>some (Obj.cells x t (0,0))) ?_)⟩;apply ao8;intro i;cases i with
 |zero=>simpa using h4
 |succ i=>rw[adm oM,adm sP]
end
def zB(a b:Nat)(k:Nat):Bool:=ath k 10 || k == a || k == b
def frB(a b n m:Nat)(k:Nat):Option Nat:=if k=a then some n else if k=b then some m else none
theorem YN{a b:Nat}(h:k<10):zB a b k=true:=by
 have:ath k 10=true:=Nat.ble_eq_true_of_le h;simp[zB,this]
theorem YI{z:Nat->Bool}{fr:Nat->Option Nat}{ht:z aR=true}{d:Array aai}(h:∀(i:Nat) v,d[i]?=some v->∃k n,v=.int k n):bW Es.F (idR z fr aR ht) d d:=by
 refine⟨rfl,fun i h1 h2=>?_⟩;obtain⟨k,n,e⟩:=h i d[i] (aht h1);rw[e];exact .int k n
theorem Jm{z:Nat->Bool}{fr:Nat->Option Nat}{ht:z aR=true}{v:aai}(h:VR Es.F (idR z fr aR ht) v v):bW Es.F (idR z fr aR ht) #[v] #[v]:=.one h
theorem af0{W:aah}(mQ:W.ShapedOpen prog){rt ty tp4 tp5:aat}{a4 a5:akr}{s4 s5:ByteArray}{c4 c5:Array aai}{t4 t5:aat}(h0:W.cell? ⟨0,0,none⟩=some (.iface rt (.agg #[.pointer (some ⟨9,ty,none⟩)])))(h4:W.var? prog "strconv.ErrSyntax"=some #[.iface tp4 (.pointer (some a4))])(h5:W.var? prog "strconv.ErrRange"=some #[.iface tp5 (.pointer (some a5))])(e4:W.cell? a4=some (.string s4))(e5:W.cell? a5=some (.string s5))(b4:W.heap[a4.block]?=some (.cells c4 t4 (0,0)))(b5:W.heap[a5.block]?=some (.cells c5 t5 (0,0))):
  Std Es (zB a4.block a5.block) (frB a4.block a5.block c4.size c5.size) W/\∀b,b<10->frB a4.block a5.block c4.size c5.size b=none:=by
 have v4:∃t f,W.heap[4]?=some (.cells #[.iface tp4 (.pointer (some a4))] t f):=by
  unfold World.var? at h4;rw[show prog.globalNamed "strconv.ErrSyntax"=some 4 by kernel_rfl,agh]at h4;split at h4
  ·rename_i cs t f e;obtain rfl:=ahK h4;exact⟨_,_,e⟩
  ·cases h4
 have v5:∃t f,W.heap[5]?=some (.cells #[.iface tp5 (.pointer (some a5))] t f):=by
  unfold World.var? at h5;rw[show prog.globalNamed "strconv.ErrRange"=some 5 by kernel_rfl,agh]at h5;split at h5
  ·rename_i cs t f e;obtain rfl:=ahK h5;exact⟨_,_,e⟩
  ·cases h5
 obtain⟨tE,v0⟩:=ahU mQ h0;obtain⟨t4',f4',v4⟩:=v4;obtain⟨t5',f5',v5⟩:=v5;have v9:=ahV mQ
 have low:∀b,b<10->∃d t f,W.heap[b]?=some (.cells d t f)/\((∀(i:Nat) v,d[i]?=some v->∃k n,v=.int k n)\/∃t p,d=#[.iface t p]/\((b=0/\p=.agg #[.pointer (some ⟨9,ty,none⟩)])\/(b=4/\p=.pointer (some a4))\/(b=5/\p=.pointer (some a5)))):=by
  intro b hb
  by_cases hm:b∈[1,2,3,6,7,8]
  ·obtain⟨d,t,e,h⟩:=Z0 mQ hm
   exact⟨d,t,_,e,.inl h⟩
  ·simp only[ab',adn,or_false,not_or]at hm
   (rcases(show b=0\/b=4\/b=5\/b=9 by omega)with rfl|rfl|rfl|rfl);(·exact⟨_,_,_,v0,.inr ⟨_,_,rfl,.inl ⟨rfl,rfl⟩⟩⟩);(·exact⟨_,_,_,v4,.inr ⟨_,_,rfl,.inr (.inl ⟨rfl,rfl⟩)⟩⟩);(·exact⟨_,_,_,v5,.inr ⟨_,_,rfl,.inr (.inr ⟨rfl,rfl⟩)⟩⟩)
   ·refine⟨_,_,_,v9,.inl fun i v hv=>?_⟩
    rw[Array.getElem?_map]at hv;obtain⟨x,_,rfl⟩:=amU.1 hv;exact⟨_,_,rfl⟩
 have high:∀{a:akr} {s:ByteArray},W.cell? a=some (.string s)->10<=a.block:=by
  intro a s h;refine Nat.le_of_not_lt fun hb=>?_
  obtain⟨d,t,f,e,V3⟩:=low _ hb;unfold alr at h;rw[e]at h;simp only at h;split at h
  ·cases h
  ·rcases V3 with hi|⟨t',p,rfl,_⟩
   ·obtain⟨k,n,e⟩:=hi _ _ h
    cases e
   ·cases hx:a.off with
    |zero=>rw[hx]at h;cases h
    |succ n=>rw[hx]at h;simp at h
 have g4:=high e4;have g5:=high e5
 have n4:c4.size≠0:=by
  unfold alr at e4;rw[b4]at e4;simp only at e4;split at e4
  ·cases e4
  ·have:=(akN.1 e4).1;omega
 have n5:c5.size≠0:=by
  unfold alr at e5;rw[b5]at e5;simp only at e5;split at e5
  ·cases e5
  ·have:=(akN.1 e5).1;omega
 have aR:zB a4.block a5.block 9=true:=YN oM;have gH:Es.P.globals.size=9:=kR
 have fr0:∀b,b<10->frB a4.block a5.block c4.size c5.size b=none:=by
  intro b hb;unfold frB;rw[if_neg oM,if_neg oM]
 have z4:zB a4.block a5.block a4.block=true:=by simp[zB]
 have z5:zB a4.block a5.block a5.block=true:=by simp[zB]
 refine⟨⟨by rw[gH];exact aR,by rw[gH];exact(akN.1 v9).1,fun g hg=>YN ?_,fun b hz hf=>?_,fun b n hf=>?_⟩,fr0⟩
 ·have:g<9:=ae7 (asY hg) nR
  omega
 ·by_cases hb:b<10
  ·obtain⟨d,t,f,e,V3⟩:=low b hb
   refine⟨d,t,f,e,?_⟩;rcases V3 with hi|⟨t',p,rfl,⟨rfl,rfl⟩|⟨rfl,rfl⟩|⟨rfl,rfl⟩⟩
   ·exact YI hi
   ·exact Jm (.iface _ (.agg rfl fun i h1 h2=>by
    have:i=0:=by simp at h1;omega
    subst this;exact .ptr (.mk _ _ ⟨aR,rfl⟩)))
   ·exact Jm (.iface _ (.ptr (.mk _ _ ⟨z4,rfl⟩)))
   ·exact Jm (.iface _ (.ptr (.mk _ _ ⟨z5,rfl⟩)))
  ·exfalso
   have Ex:ath b 10=false:=by
    rw[atF];intro h;exact hb (ae7 (asY h) nR)
   unfold frB at hf;unfold zB at hz;rw[Ex]at hz;simp only[Bool.false_or,aeu,beq_iff_eq]at hz;split at hf;(·cases hf)
   ·split at hf
    ·cases hf
    ·rename_i x y;rcases hz with k|k
     (·exact x k);(·exact y k)
 ·unfold frB at hf
  split at hf
  ·rename_i e
   subst e;cases hf;exact⟨z4,c4,t4,b4,rfl,n4,Hf g4⟩
  ·split at hf
   ·rename_i e
    subst e;cases hf;exact⟨z5,c5,t5,b5,rfl,n5,Hf g5⟩
   ·cases hf
end Go.Proofs.YtjligkmjlenofaaGreatDoor
