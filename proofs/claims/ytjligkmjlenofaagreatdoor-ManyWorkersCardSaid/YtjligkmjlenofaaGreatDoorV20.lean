/- Part of the proof. -/
import Derived.Test.YtjligkmjlenofaaGreatDoorV19
import Derived.Conc.WgGenN3
set_option maxHeartbeats 8000000
set_option maxRecDepth 100000
open Go.Conc renaming stepG_region_end->arw,stepG_seq->arx,mem_ofEvents->ap9,stepG_skip->arC,stepG_ret'->arJ,events_convert_to_unsafe->arL,runT_crowd_go->arS,served->aoj,ofEvents_eq->ar0,aside_setCell->aqj,stepG_load_atomic->ar5,stepG_markAt->ar9,stepG_mark0->asb,goes_oper_k->asc,offersAt_parked_recv->asl,Deaf_other->are,mem_listed->asn,woken->ap7,Deaf_own->asB,parked->aqf,Leavers->asN
open Go renaming World->aah,Goroutine->ane,Frame->ary,stepG->ant,doReturn->arA,Value->aai,unwind->arB,Program->ag0,Event->anu,undef->agp,callDeferred->arP,run_convert_to_unsafe->arQ,Trace->aqt,FuncId->ani,results->al6,deafBehind->ap8,runN->ar8,GStep->ar_,step_lone_ended->ar',yielded->adf,FrameMode->ark,findLabel->asv,exitTo->asJ,gotoIn->asK,TypeId->aat,Machine->asM
open Go.stepG renaming exec->arz,apply->arI
open Array renaming getElem?_setIfInBounds_ne->ap4,getElem?_setIfInBounds_self_of_lt->aqi,getElem?_eq_getElem->aht,getElem?_eq_some_iff->akN,append_assoc->apj,getElem?_map->ar1,mem_append->aq_,replicate->apE
open Go.MemOp renaming ofEvents->aqc
open Go.MemAct renaming ofEvent->apZ,touch?->ap_
open Go.ConcN renaming Mode->ap6,upd_ne->arK,sumTo_upd_out->arM,sumTo->arN,others_uncounted->arR,get_map_set_same->arT,WgLive->arU,Deaf_absent->arW,sumTo_upd->arY,le_sumTo->ar6,isOpen->asd,OpenSt->ase,Vc_le->asf,exists_counted->asg,phi_mono->asi,bk_rd->asj,bk_dis->asu,bk_cell->asw,Vc_upd->asE,bk_sem->asH
open Option.some renaming injEq->akk,inj->ahK
open Nat renaming le_trans->aiC,le_refl->ahP,not_lt_zero->ah',eq_zero_or_pos->arV,lt_of_lt_of_le->ae7,not_lt_of_le->ar7,le_of_eq->aqe
open List renaming cons_append->aaK,mapM_toArray->ar4,mapM_cons->ash,mapM_nil->ass,dropWhile_cons->ast,mem_toArray->asC,not_mem_nil->adn,mem_cons->ab'
open Go.Frame renaming enter->aq9,round->arX,finish->arZ,raise->asa,catches->asQ
open Bool renaming false_eq_true->akg,and_eq_true->aaB,true_and->aky
open Go.Sem renaming runT_fst->apT
open Go.GStep renaming after->arO
open Go.Deferred renaming ofValue->arc
open Option renaming map_eq_some_iff->amU,isSome_none->ar2,isSome_some->ar3,getD_some->alV
open Go.Instr renaming endRound->aqQ,beginRound->aqK
open Go.Trace renaming g?->apO
open Go.Act renaming eval->agl
open Go.ConcR renaming g_of_ofEvents->aqO
open Go.ConcN.RelBy renaming appNot->aqr
open Go.ConcR.Gen renaming x_enable_n->aso,x_enable_b->asp,x_enable_x->asq,x_enable_f->asr,x_loadU64_n->asx,x_loadU64_b->asy,x_loadU64_x->asz,x_loadU64_f->asA,body_wait->asP
open Go.Region renaming wanted->ab9
namespace Go.gT
open Go.Proofs.Tryz
open Go.Proofs.YtjligkmjlenofaaGreatDoor(kR oM dC aS kS zH sP sO mL aP nR bR BL)
open Go Go.Conc
open Go.ConcN (WgLive WD CTag RelBy Vc cnt sumTo sumTo_upd sumTo_upd_out upd upd_same upd_ne isW3 isOpen pend OpenSt Vc_upd phi_mono others_uncounted le_sumTo bk_cell RelBy.book bk_dis bk_en bk_rd bk_rw bk_sem)
open Go.ConcR (KK WgAt stA smA rd wr deafBehind_cons deafBehind_one Bk bk_of_mute ofEvent_loc_mark ofEvent_cell)
variable{a' g:ane}{es:Array anu}{fn:ani}{k:Nat}
variable{E:bw}{tag tag':aM}{d0 d0':Nat}{X:Nat->WX}{gq:Nat->Option Nat}{τ:Nat->Tr}{kV:Tr}{gs gs':Array ane}{w w':aah}{t u:aqt}{st sm st' sm':Int}{a:ane}{sl:Option (Nat×Nat)}{Fin:ane->Prop}{Anch:ane->aah->Prop}
theorem Le(G:E.Geo)(ha:gs[0]?=some a)(hc:E.Com tag d0 X τ gs w t)(aO:E.sI tag X gq w t){qs:Tr}(hgo:ant E.P true a w=.go a' w' es)(ej:tag'.j E.n=tag.j E.n)(es':tag'.s E.T=tag.s E.T)(ZU:tag'.shut=tag.shut)(en:tag'.np=true->tag.np=true)(hA:Aside E.wg w w')(ay:E.Mem tag X st sm w)(rL:WgAt E.ty E.wg w' st' sm')(fR:∀op∈aqc 0 a.frame.fn a.frame.place es,OkM E.Sh E.M5 (stA E.wg) w.heap.size op)(Bq:E.fq Fin Anch tag' (ap8 d0 es) qs a' w')(CL:ap6 (tag.j E.n) (wd X) tag'.c st' sm')(aE:tag'.phi E.n E.T (Vc (tag.j E.n) (wd X))<tag.phi E.n E.T (Vc (tag.j E.n) (wd X))\/(tag'.phi E.n E.T (Vc (tag.j E.n) (wd X))=tag.phi E.n E.T (Vc (tag.j E.n) (wd X))/\(Tr.Sub qs kV\/(qs=kV/\tag'.fl<tag.fl)))):
  E.Steps Fin Anch gs w sl 0 t (E.mu tag X τ kV):=by
 have hL:=G.L1;have ne:∀b,(E.Rd b\/E.N0<=b)->b≠E.wg:=fun b h=>h.elim (fun h=>(G.rd b h).2.1) fun h=>by have:=G.wg;omega
 have dI:=arS (P:=E.P) (sl:=sl) (i:=0) ha hgo;have tc:∃s r tm,w'.heap[E.ch]?=some (.chan 0 #[] tag.shut s r tm):=by rw[hA.block _ (Ne.symm G.d1)];exact ay.ch
 have mw:=hc.main (tag':=tag') (d0':=ap8 d0 es) (a:=a) (a':=a') (w':=w') (u:=aqc 0 a.frame.fn a.frame.place es) (f:=ap7 E.P a a' w') G ej ZU (fun h k hk=>hc.open_ (en h) k hk) (.inl rfl) tc
  (fun k hk=>⟨fun b hb=>hA.block b (ne b (aO.low k hk b hb)),aqe hA.size.symm,hA.os,fun _=>⟨_,_,rL⟩⟩) aqO (by rw[asB,hc.deaf0])
 refine⟨_,_,E.mu tag' X τ qs,dI,?_,_,w',sl,tag',ap8 d0 es,X,gq,τ,qs,a',st',sm',rfl,arT _ _ _ (by rw[hc.size];omega),Bq,mw,?_,?_,by rw[ej];exact CL,rfl⟩
 ·simp only[bw.mu,ej,es']
  rcases aE with h|⟨h,h2|⟨h2,h3⟩⟩
  ·exact .stage oM
  ·exact .mine oM h2
  ·subst h2;exact .flag oM h3
 ·refine⟨fun b h1 h2 h3 h4=>(hA.block b h2).T (ay.old b h1 h2 h3 h4),by rw[hA.size];exact ay.size,hA.os.T ay.os,hA.output.T ay.O,hA.tape.T ay.tape,rL,by rw[ZU];exact tc,fun hT=>?_⟩
  obtain⟨cs,h1,h2,h3⟩:=ay.oa hT;exact⟨cs,(hA.block _ (Ne.symm G.d2)).T h1,h2,by rw[ej,es'];exact h3⟩
 ·exact aO.main G ej es' (fun k _=>⟨rfl,rfl,rfl,id⟩) hA.size fR
theorem afw{B:Nat}{pos:String}(Qs:E.wg<B)(h:∀e∈es,Bk E.wg e\/e.loc=.mark (.acquire (stA E.wg))):∀op∈aqc 0 fn pos es,OkM E.Sh E.M5 (stA E.wg) B op:=by
 intro op a_;obtain⟨e,he,rfl⟩:=ap9 a_;rcases h e he with(h1|h1|⟨b,wr,rfl,hb⟩)|h1
 ·rw[ofEvent_loc_mark h1];exact⟨rfl,trivial,by simp,fun x hx=>by cases hx⟩
 ·rw[ofEvent_loc_mark h1];exact⟨rfl,trivial,by simp,fun x hx=>by cases hx⟩
 ·rw[ofEvent_cell]
  refine⟨rfl,by show b.block<_;rw[hb];exact Qs,by simp,fun x hx _=>?_⟩;simp only[ap_,akk]at hx;subst hx;exact .inl ⟨.inl ⟨b,rfl,hb⟩,by simp⟩
 ·rw[ofEvent_loc_mark h1];exact⟨rfl,Qs,by simp,fun x hx=>by cases hx⟩
theorem abg{B:Nat}{pos:String}(Qs:E.wg<B)(hB:∀b,E.Rd b->b<B)(h:∀e∈es,EvM E.Rd E.Rd E.wg e):∀op∈aqc 0 fn pos es,OkM E.Sh E.M5 (stA E.wg) B op:=by
 intro op a_;obtain⟨e,he,rfl⟩:=ap9 a_;rcases h e he with h|⟨b,hb,rfl|rfl⟩
 ·cases h with
  | @read a h=>
    refine⟨rfl,hB _ h,by simp[apZ],fun x hx _=>?_⟩;simp only[apZ,ap_,akk]at hx;subst hx;exact .inr ⟨⟨_,rfl,h⟩,rfl,rfl⟩
  | @write a h hr=>exact absurd h hr
  | @obj r h=>
    refine⟨rfl,hB _ h,by simp[apZ],fun x hx _=>?_⟩;simp only[apZ,ap_,akk]at hx;subst hx;exact .inr ⟨⟨_,rfl,h⟩,rfl,rfl⟩
  | @set r h hr=>exact absurd h hr
  |ext f=>exact⟨rfl,trivial,by simp[apZ],fun x hx=>by simp[apZ,ap_]at hx⟩
  |room=>exact⟨rfl,trivial,by simp[apZ],fun x hx=>by simp[apZ,ap_]at hx⟩
  |O=>
   refine⟨rfl,trivial,by simp[apZ],fun x hx hm=>?_⟩;simp only[apZ,ap_,akk]at hx;subst hx;cases hm
 ·refine⟨rfl,by show b.block<B;rw[hb];exact Qs,by simp[apZ],fun x hx _=>?_⟩
  simp only[apZ,ap_,akk]at hx;subst hx;exact .inl ⟨.inl ⟨b,rfl,hb⟩,by simp⟩
 ·refine⟨rfl,by show b.block<B;rw[hb];exact Qs,by simp[apZ],fun x hx _=>?_⟩
  simp only[apZ,ap_,akk]at hx;subst hx;exact .inl ⟨.inl ⟨b,rfl,hb⟩,by simp⟩
theorem RG{S:aD}(h:∀e∈es,EvM E.Rd S E.wg e)(d:Nat):ap8 d es=d:=
 deafBehind_still (fun e he=>by
  rcases h e he with h|⟨b,_,rfl|rfl⟩
  ·cases h<;>simp
  ·simp
  ·simp) d
theorem bookC(G:E.Geo)(ha:gs[0]?=some a)(hc:E.Com tag d0 X τ gs w t)(aO:E.sI tag X gq w t)(ay:E.Mem tag X st sm w){qs:Tr}(hgo:ant E.P true a w=.go a' w' es)(ej:tag'.j E.n=tag.j E.n)(es':tag'.s E.T=tag.s E.T)(ZU:tag'.shut=tag.shut)(en:tag'.np=true->tag.np=true)(hA:Aside E.wg w w')(rL:WgAt E.ty E.wg w' st' sm')(E0:∀e∈es,Bk E.wg e)(Bq:E.fq Fin Anch tag' (ap8 d0 es) qs a' w')(CL:ap6 (tag.j E.n) (wd X) tag'.c st' sm')(aE:tag'.phi E.n E.T (Vc (tag.j E.n) (wd X))<tag.phi E.n E.T (Vc (tag.j E.n) (wd X))\/(tag'.phi E.n E.T (Vc (tag.j E.n) (wd X))=tag.phi E.n E.T (Vc (tag.j E.n) (wd X))/\(Tr.Sub qs kV\/(qs=kV/\tag'.fl<tag.fl)))):
  E.Steps Fin Anch gs w sl 0 t (E.mu tag X τ kV):=
 Le G ha hc aO hgo ej es' ZU en hA ay rL (afw (by have:=G.wg;have:=ay.size;omega) fun e he=>.inl (E0 e he)) Bq CL aE
theorem idleC(G:E.Geo)(ha:gs[0]?=some a)(hc:E.Com tag d0 X τ gs w t)(aO:E.sI tag X gq w t)(ay:E.Mem tag X st sm w)(aU:ap6 (tag.j E.n) (wd X) tag.c st sm){qs:Tr}{S':aD}(hgo:ant E.P true a w=.go a' w' es)(hD:E.DM E.Rd S' w w' es)(Bq:S'=E.Rd->w'=w->E.fq Fin Anch tag d0 qs a' w)(dR:Tr.Sub qs kV):E.Steps Fin Anch gs w sl 0 t (E.mu tag X τ kV):=by
 obtain⟨rfl,rfl,yT⟩:=hD;refine Le G ha hc aO hgo rfl rfl rfl id (.refl _ _) ay ay.wg (abg (by have:=G.wg;have:=ay.size;omega) (fun b hb=>by have:=(G.rd b hb).1;have:=ay.size;omega) yT) (by rw[RG yT];exact Bq rfl rfl) aU (.inr ⟨rfl,.inl dR⟩)
theorem w1Step(G:E.Geo)(ha:gs[0]?=some a)(hc:E.Com .w1 d0 X τ gs w t)(aO:E.sI .w1 X gq w t)(ay:E.Mem .w1 X st sm w)(aU:ap6 E.n (wd X) .w1 st sm)(hd0:d0=1)(h:mm E.P true E.R E.DM (E.YT Fin Anch) kV E.Rd a w):E.Steps Fin Anch gs w sl 0 t (E.mu .w1 X τ kV):=by
 have hn:=G.n1;have hVj:Vc E.n (wd X)<=E.n:=asf _ _;subst hd0;rcases h.cases E.bg with⟨-,hW⟩|⟨gi,S',a',w',es,dR,_,hgo,hD,h'⟩
 ·obtain⟨_,kD⟩:=hW w (bw.R.refl _ _)
  obtain⟨ho,rfl,rfl,_⟩:=aU.open_inv trivial;obtain⟨a',hgo,h0,h1⟩:=kD (Vc E.n (wd X)) oM (by simpa[pend]using ay.wg)
  by_cases hv:Vc E.n (wd X)=0
  ·obtain⟨gi,h'⟩:=h0 hv
   (refine bookC (tag':=.ke) G ha hc aO ay hgo rfl rfl rfl (fun _=>rfl) (.refl _ _) ay.wg asj (.ke h') ?_ (.inl (by simp only[aM.phi];omega));have e:((Vc E.n (wd X)+pend .w1:Nat):Int)*KK=0:=by simp[hv,pend]);(show ap6 E.n (wd X) .ke (((Vc E.n (wd X)+pend .w1:Nat):Int)*KK) 0);(rw[e];refine .fin trivial fun i hi=>?_);(have c0:cnt (wd X i)=0:=by have:=ar6 (f:=fun x=>cnt (wd X x)) hi;simp only[Vc]at hv;omega);have:=ho i hi;simp only[cnt]at c0;split at c0<;>omega
  ·obtain⟨gi,h'⟩:=h1 hv
   exact bookC (tag':=.w2 (Vc E.n (wd X))) G ha hc aO ay hgo rfl rfl rfl (fun _=>rfl) (.refl _ _) ay.wg asj (.w2 h') (aU.reopen trivial trivial rfl (fun vs e=>by cases e;omega)) (.inl (by simp only[aM.phi,aM.j];omega))
 ·exact idleC G ha hc aO ay aU hgo hD (fun e1 e2=>by subst e1 e2;exact .w1 h') dR
open Go.ConcN (WgLive WD CTag RelBy Vc cnt sumTo sumTo_upd sumTo_upd_out upd upd_same upd_ne isW3 isOpen pend OpenSt Vc_upd phi_mono others_uncounted le_sumTo bk_cell RelBy.book bk_dis bk_en bk_rd bk_rw bk_sem Deaf_absent)
open Go.ConcR (KK WgAt stA smA rd wr deafBehind_cons deafBehind_one Bk bk_of_mute ofEvent_loc_mark ofEvent_cell)
variable{E:bw}{tag tag':aM}{d0 d0':Nat}{X:Nat->WX}{gq:Nat->Option Nat}{τ:Nat->Tr}{kV:Tr}{gs gs':Array ane}{w w':aah}{t u:aqt}{st sm st' sm':Int}{a:ane}{sl:Option (Nat×Nat)}{Fin:ane->Prop}{Anch:ane->aah->Prop}
def bw.x0(E:bw):WX:=⟨7,9,0,E.T,none,E.Rd⟩
theorem bw.sI.fork(G:E.Geo)(h:E.sI tag X gq w t)(hN:E.N0<=w.heap.size)(ej:tag'.j E.n=tag.j E.n+1)(es:tag'.s E.T=tag.s E.T){x y:MemOp}(hx:x.g=0/\x.act=.go (E.L+tag.j E.n))(hy:y.g=E.L+tag.j E.n/\y.act=.start)(d0:Deaf t 0=0)(nJ:∀i,t.g? i≠some (E.L+tag.j E.n)):E.sI tag' (upd X (tag.j E.n) E.x0) gq w (t++#[x,y]):=by
 have cP:∀k b,k<tag.j E.n+1->(upd X (tag.j E.n) E.x0 k).cP b->(k<tag.j E.n/\(X k).cP b)\/(k=tag.j E.n/\E.Rd b):=by
  intro k b hk hb
  by_cases e:k=tag.j E.n
  ·rw[e,upd_same]at hb;exact .inr ⟨e,hb⟩
  ·rw[arK X _ e]at hb;exact .inl ⟨by omega,hb⟩
 have dk:Deaf t (E.L+tag.j E.n)=0:=arW fun i op hi e=>nJ i (by simp[apO,hi,e])
 have nt:∀p z,touchAt (t++#[x,y]) p=some z->touchAt t p=some z:=by
  intro p z hz;obtain⟨op,ho,vU⟩:=touch_of hz;rcases getElem?_append_cases ho with⟨_,EA⟩|⟨_,Gr⟩
  ·rw[touchAt_of EA];exact vU
  ·simp only[asC,ab',adn,or_false]at Gr
   rcases Gr with rfl|rfl
   ·rw[hx.2]at vU;cases vU
   ·rw[hy.2]at vU;cases vU
 refine⟨?_,?_,?_,?_,?_,?_,?_,?_,?_⟩
 ·rw[ej];intro k hk b hb
  by_cases e:k=tag.j E.n
  ·rw[e,upd_same];exact hb
  ·rw[arK X _ e];exact h.rd k oM b hb
 ·rw[ej];exact fun k hk b hb=>(cP k b hk hb).elim (fun z=>h.low k z.1 b z.2) fun z=>.inl z.2
 ·rw[ej];exact fun k hk b hb=>(cP k b hk hb).elim (fun z=>h.up k z.1 b z.2) fun z=>by have:=(G.rd b z.2).1;omega
 ·rw[ej];intro k k' b hk gU f f'
  rcases cP k b hk f with⟨k1,f⟩|⟨_,f⟩
  ·rcases cP k' b gU f' with⟨k2,f'⟩|⟨_,f'⟩
   ·exact h.apart k k' b k1 k2 f f'
   ·exact .inr f'
  ·exact .inr f
 ·rw[ej,es];exact fun i k hi=>⟨(h.U3 i k hi).1,by have:=(h.U3 i k hi).2;omega⟩
 ·rw[ej];intro k i hk Qh
  by_cases e:k=tag.j E.n
  ·rw[e,upd_same]at Qh;cases Qh
  ·rw[arK X _ e]at Qh;exact h.cur k i oM Qh
 ·rw[ej,es];intro k hk hr
  by_cases e:k=tag.j E.n
  ·rw[e,upd_same];show E.T - _<=E.T;omega
  ·rw[arK X _ e]at hr ⊢;exact h.fuel k oM hr
 ·exact fun i hi p z hz=>h.fresh i hi p z (nt p z hz)
 ·rw[ej]
  have h1:TL E.Sh E.eM E.M5 (E.own (tag.j E.n+1) (upd X (tag.j E.n) E.x0) gq) (E.J (tag.j E.n)) (stA E.wg) w.heap.size t:=by
   (refine h.tl.grow fun g hg l hl=>.inl ?_);(obtain⟨k0,hk0,rfl⟩:=hg;obtain⟨k,hk,e,hl⟩:=hl;obtain rfl:k0=k:=by omega);(refine⟨k0,hk0,rfl,hl.imp (fun⟨b,h1,h2,h3⟩=>⟨b,h1,?_,h3⟩) id⟩;rcases cP k0 b hk h2 with z|z);(·exact z.2);(·omega)
  have h2:=h1.fork hx hy (by rintro⟨k,hk,e⟩;omega) d0 dk (by
   rintro l ⟨k,hk,e,hl⟩;obtain rfl:k=tag.j E.n:=by omega
   rcases hl with⟨b,_,h2,h3⟩|⟨i,_,hi⟩
   ·rw[upd_same]at h2;exact h3 h2
   ·have:=(h.U3 i _ hi).2;omega) nJ
  have eJ:(fun g=>E.J (tag.j E.n) g\/g=E.L+tag.j E.n)=E.J (tag.j E.n+1):=by
   funext g
   refine propext ⟨?_,?_⟩
   ·rintro(⟨k,hk,rfl⟩|rfl)
    ·exact⟨k,by omega,rfl⟩
    ·exact⟨_,Nat.lt_succ_self _,rfl⟩
   ·rintro⟨k,hk,rfl⟩
    (rcases Nat.lt_or_eq_of_le (Nat.le_of_lt_succ hk)with h|rfl);(·exact .inl ⟨k,h,rfl⟩);(·exact .inr rfl)
  rw[eJ]at h2;exact h2
theorem bw.Com.fork(G:E.Geo)(h:E.Com tag d0 X τ gs w t)(hd0:d0=0)(ej:tag'.j E.n=tag.j E.n+1)(_:tag'.shut=false)(en:tag'.np=false)(eo:tag.shut=false){child:ane}{gi:Tr}{x y:MemOp}(hx:x.g=0/\x.act=.go (E.L+tag.j E.n))(hy:y.g=E.L+tag.j E.n/\y.act=.start)(hc:mm E.P false E.R E.DW (E.BZ E.T) gi E.Rd child w):E.Com tag' 0 (upd X (tag.j E.n) E.x0) (wT τ (E.L+tag.j E.n) gi) ((gs.setIfInBounds 0 a').push child) w (t++#[x,y]):=by
 have hL:=G.L1;have hm:∀op∈#[x,y],op=x\/op=y:=by intro op a_;simpa using a_
 have KR:∀op∈#[x,y],op.g=0\/op.g=E.L+tag.j E.n:=by
  intro op a_;rcases hm op a_ with rfl|rfl
  ·exact .inl hx.1
  ·exact .inr hy.1
 have dst:∀i,Deaf (t++#[x,y]) i=Deaf t i:=fun i=>Go.ConcN.Deaf_still t i _ fun op a_=>by
  rcases hm op a_ with rfl|rfl
  ·rw[hx.2];exact⟨by simp,by simp⟩
  ·rw[hy.2];exact⟨by simp,by simp⟩
 have nJ:=h.none (E.L+tag.j E.n) (by rw[h.size];exact ahP _)
 have get:∀i,i≠0->i<E.L+tag.j E.n->((gs.setIfInBounds 0 a').push child)[i]?=gs[i]?:=by
  intro i h0 hi;rw[Array.getElem?_push_lt (by simp[h.size];omega),<-aht,ap4 oM]
 refine⟨(by simp[h.size,ej];omega),fun i h0 hi=>?_,?_,(dst 0).T (h.deaf0.T hd0),?_,fun g hg=>?_,?_,fun e=>absurd (en.symm.T e) sP,?_⟩
 ·obtain⟨g,q,hg,hq,hQ⟩:=h.lv i h0 hi
  exact⟨g,q,by rw[get i oM oM];exact hg,by rw[pK _ _ oM];exact hq,by rw[dst];exact hQ⟩
 ·rw[ej];intro k hk
  by_cases e:k=tag.j E.n
  ·subst e
   refine⟨child,?_,by rw[upd_same,vB];exact .recv hc⟩;rw[show E.L+tag.j E.n=(gs.setIfInBounds 0 a').size by simp[h.size],Array.getElem?_push_size]
  ·obtain⟨g,hg,hs⟩:=h.wk k oM
   exact⟨g,by rw[get _ oM oM];exact hg,by rw[arK X _ e,pK _ _ oM];exact hs⟩
 ·rw[ej];intro k hk
  rw[dst]
  by_cases e:k=tag.j E.n
  ·subst e;rw[upd_same]
   exact arW fun i op hi e=>nJ i (by simp[apO,hi,e])
  ·rw[arK X _ e];exact h.deafW k oM
 ·simp only[Array.size_push,Array.size_setIfInBounds]at hg
  have hs:=h.size;exact C8 (h.none g oM) fun op a_=>by rcases KR op a_ with e|e<;>omega
 ·rw[ej];intro k hk Jx
  by_cases e:k=tag.j E.n
  ·subst e;rw[upd_same]at Jx;simp[bw.x0]at Jx
  ·rw[arK X _ e]at Jx
   obtain⟨r,hr⟩:=h.rel k oM Jx;exact⟨r,aqr hr fun op a_=>by rcases KR op a_ with e|e<;>omega⟩
 ·rw[ej];intro _ k hk
  by_cases e:k=tag.j E.n
  ·subst e;rw[upd_same];simp[bw.x0]
  ·rw[arK X _ e];exact h.live eo k oM
theorem UG(h:E.Mem tag X st sm w)(_:tag'.j E.n=tag.j E.n+1)(es:tag'.s E.T=tag.s E.T)(h0:tag.s E.T=0)(ZU:tag'.shut=tag.shut){x:WX}:E.Mem tag' (upd X (tag.j E.n) x) st sm w:=
 ⟨h.old,h.size,h.os,h.O,h.tape,h.wg,by rw[ZU];exact h.ch,fun hT=>let ⟨cs,h1,h2,_⟩:=h.oa hT;⟨cs,h1,h2,fun i hi=>by rw[es,h0]at hi;omega⟩⟩
theorem ad5(G:E.Geo){r:Nat}(hr:r<E.n)(ha:gs[0]?=some a)(hc:E.Com (.sp r 2) 0 X τ gs w t)(aO:E.sI (.sp r 2) X gq w t)(ay:E.Mem (.sp r 2) X st sm w)(aU:ap6 (aM.j E.n (.sp r 2)) (wd X) (.sp r 2) st sm)(hW:E.Mgo (E.Ue Anch r) E.Rd a w):E.Steps Fin Anch gs w sl 0 t (E.mu (.sp r 2) X τ kV):=by
 have hL:=G.L1;obtain⟨_,a',child,hsp,_,⟨gi,Y7⟩,Za,Gq⟩:=hW;obtain⟨ho,rfl,rfl,_⟩:=aU.open_inv trivial;have dI:=runT_crowd_spawn (P:=E.P) (sl:=sl) (i:=0) ha (by simpa using hsp);rw[hc.size]at dI;have hj:aM.j E.n (.sp r 2)+1=E.n - r:=by simp only[aM.j];omega
 obtain⟨tag',ej,es,ZU,en,htc,aeX,hM⟩:∃tag':aM,tag'.j E.n=E.n - r/\tag'.s E.T=0/\tag'.shut=false/\tag'.np=false/\(asd tag'.c/\pend tag'.c=0/\∀vs,tag'.c≠.w2 vs)/\(∀v v',tag'.phi E.n E.T v+10<=aM.phi E.n E.T v' (.sp r 2))/\
   ∀(g:ane),mm E.P true E.R E.DM (E.Ue Anch r) Za E.Rd g w->E.fq Fin Anch tag' 0 Za g w:=by
  cases r with
  |zero=>
   by_cases hT:E.T=0
   ·refine⟨.cl,rfl,hT,rfl,rfl,⟨trivial,rfl,by simp[aM.c]⟩,fun v v'=>by simp only[aM.phi];omega,fun g h=>.cl ?_⟩
    simp only[bw.Ue,hT]at h;exact h
   ·obtain⟨T',hT'⟩:∃T',E.T=T'+1:=⟨E.T - 1,by omega⟩
    refine⟨.snd (T'+1),rfl,by simp only[aM.s];omega,rfl,rfl,⟨trivial,rfl,by simp[aM.c]⟩,fun v v'=>by simp only[aM.phi];omega,fun g h=>.snd oM ?_⟩;simp only[bw.Ue]at h;rw[hT']at h;exact h
  |succ r'=>exact⟨.sp r' 5,by simp only[aM.j],rfl,rfl,rfl,⟨trivial,rfl,by simp[aM.c]⟩,fun v v'=>by simp only[aM.phi];omega,fun g h=>.skd oM h⟩
 have hx:({g:=0,fn:=a.frame.fn,pos:=a.frame.place,act:=.go (E.L+aM.j E.n (.sp r 2))}:MemOp).g=0/\({g:=0,fn:=a.frame.fn,pos:=a.frame.place,act:=.go (E.L+aM.j E.n (.sp r 2))}:MemOp).act=.go (E.L+aM.j E.n (.sp r 2)):=⟨rfl,rfl⟩;have hy:({g:=E.L+aM.j E.n (.sp r 2),fn:=child.frame.fn,pos:=a.frame.place,act:=.start}:MemOp).g=E.L+aM.j E.n (.sp r 2)/\({g:=E.L+aM.j E.n (.sp r 2),fn:=child.frame.fn,pos:=a.frame.place,act:=.start}:MemOp).act=.start:=⟨rfl,rfl⟩;have mw:=hc.fork (tag':=tag') (a':=a') G rfl oM ZU en rfl hx hy Y7;have xU:=aO.fork (tag':=tag') G ay.size oM es hx hy hc.deaf0 (hc.none _ (by rw[hc.size];exact ahP _));have sN:=UG (tag':=tag') (x:=E.x0) ay oM es rfl ZU
 have eV:Vc (aM.j E.n (.sp r 2)+1) (wd (upd X (aM.j E.n (.sp r 2)) E.x0))=Vc (aM.j E.n (.sp r 2)) (wd X)+1:=by
  rw[gD];simp only[Vc,arN,upd_same];rw[arM (wd X) _ cnt nR];rfl
 have eR:BW (aM.j E.n (.sp r 2)+1) (upd X (aM.j E.n (.sp r 2)) E.x0)=BW (aM.j E.n (.sp r 2)) X+9:=by
  simp only[BW,arN,upd_same];rw[arM X _ WX.cW nR];rfl
 have EA:ase (aM.j E.n (.sp r 2)+1) (wd (upd X (aM.j E.n (.sp r 2)) E.x0)):=fun i hi=>by
  rw[gD]
  by_cases e:i=aM.j E.n (.sp r 2)
  ·subst e;rw[upd_same];left;rfl
  ·rw[arK _ _ e];exact ho i oM
 have ha':((gs.setIfInBounds 0 a').push child)[0]?=some a':=by
  rw[Array.getElem?_push_lt (by simp[hc.size];omega),<-aht];exact aqi (by rw[hc.size];omega)
 rw[hj]at eV eR EA;refine⟨_,_,E.mu tag' (upd X (aM.j E.n (.sp r 2)) E.x0) (wT τ (E.L+aM.j E.n (.sp r 2)) gi) Za,dI,?_,_,w,sl,tag',0,_,gq,_,Za,a',_,_,rfl,ha',hM a' Gq,?_,sN,?_,?_,rfl⟩
 ·refine .stage ?_
  have:=aeX (Vc (E.n - r) (wd (upd X (aM.j E.n (.sp r 2)) E.x0))) (Vc (aM.j E.n (.sp r 2)) (wd X));have e0:aM.s E.T (.sp r 2)=0:=rfl;rw[ej,eR,es,e0];omega
 ·have e2:(aqc 0 a.frame.fn a.frame.place #[])=#[]:=by rw[ar0];simp
  rw[e2];exact mw
 ·have e2:(aqc 0 a.frame.fn a.frame.place #[])=#[]:=by rw[ar0];simp
  rw[e2];exact xU
 ·rw[ej]
  have e3:((Vc (aM.j E.n (.sp r 2)) (wd X)+pend (.sp r 2):Nat):Int)*KK=((Vc (E.n - r) (wd (upd X (aM.j E.n (.sp r 2)) E.x0))+pend tag'.c:Nat):Int)*KK:=by rw[eV,htc.2.1];simp[pend]
  rw[e3];exact .opn htc.1 EA (fun vs e=>absurd e (htc.2.2 vs))
open Go.ConcN (WgLive WD CTag RelBy Vc cnt sumTo sumTo_upd sumTo_upd_out upd upd_same upd_ne isW3 isOpen pend OpenSt Vc_upd phi_mono others_uncounted le_sumTo bk_cell RelBy.book bk_dis bk_en bk_rd bk_rw bk_sem Deaf_absent)
open Go.ConcR (KK WgAt stA smA rd wr deafBehind_cons deafBehind_one Bk bk_of_mute ofEvent_loc_mark ofEvent_cell)
variable{E:bw}{tag tag':aM}{d0 d0':Nat}{X:Nat->WX}{gq:Nat->Option Nat}{τ:Nat->Tr}{kV:Tr}{gs gs':Array ane}{w w':aah}{t u:aqt}{st sm st' sm':Int}{a:ane}{sl:Option (Nat×Nat)}{Fin:ane->Prop}{Anch:ane->aah->Prop}
theorem Lx{g0:ane}{c:Nat}{z z0:aai}{sh sh0:CommShape}(h:aqf g #[rcase c z] sh=aqf g0 #[rcase c z0] sh0):sh=sh0/\∀x,aoj g x=aoj g0 x:=by
 obtain⟨f1,c1,s1,d1,o1⟩:=g;obtain⟨f2,c2,s2,d2,o2⟩:=g0;simp only[aqf,rcase,Goroutine.mk.injEq,akk,Prod.mk.injEq,true_and]at h;obtain⟨rfl,rfl,rfl,_,rfl⟩:=h;exact⟨rfl,fun x=>rfl⟩
theorem XI(G:E.Geo)(_:∀g w,Anch g w->g.status=.running){kk:Nat}(hkk:kk<E.T)(ha:gs[0]?=some a)(hc:E.Com (.snd (kk+1)) 0 X τ gs w t)(aO:E.sI (.snd (kk+1)) X gq w t)(ay:E.Mem (.snd (kk+1)) X st sm w)(aU:ap6 E.n (wd X) .kd st sm)(hW:∀w1,E.R E.Rd w w1->E.Q6 Anch (kk+1) E.Rd a w1):E.Steps Fin Anch gs w sl 0 t (E.mu (.snd (kk+1)) X τ kV):=by
 have hL:=G.L1;have hW0:=hW w (bw.R.refl _ _);obtain⟨s,r,tm,tc⟩:=ay.ch;have aag:E.ch<w.heap.size:=by have:=G.ch;have:=ay.size;omega
 have tc:w.heap[E.ch]?=some (.chan 0 #[] false s r tm):=tc
 by_cases eZ:partners (gs.setIfInBounds 0 ph) E.ch false=[]
 ·have dI:=crowd_waits (P:=E.P) (sl:=sl) ha hW0.2.2.1 (fun cc hcc=>by
   simp at hcc;subst hcc;exact ways_send_none tc sP eZ)
  have yT:aqc 0 a.frame.fn a.frame.place #[]=#[]:=by rw[ar0];simp
  rw[yT]at dI
  have mw:=hc.main (tag':=.ni (kk+1)) (d0':=0) (a:=a) (a':=aqf a #[scase E.ch (.int .i64 ((E.T - (kk+1):Nat):Int)) agp] .send) (w':=w) (u:=#[]) (f:=id) G rfl rfl (fun _ k hk e=>by
   obtain⟨g,hg,hs⟩:=hc.wk k hk;rcases hs.status with⟨_,h⟩|⟨_,h⟩|⟨_,f,S,g2,_,rfl,_⟩
   ·exact h e
   ·omega
   ·have:(E.L+k,0)∈partners (gs.setIfInBounds 0 ph) E.ch false:=mem_partners.2 ⟨_,by rw[ap4 oM];exact hg,by rw[asl,if_pos rfl];simp⟩
    rw[eZ]at this;cases this) (.inr rfl) ay.ch (fun _ _=>bw.R.refl _ _) sP (by rw[Array.append_empty];exact hc.deaf0)
  rw[Array.map_id]at mw
  refine⟨_,_,E.mu (.ni (kk+1)) X τ .leaf,dI,.stage (by simp only[aM.phi,aM.j,aM.s];omega),_,w,sl,.ni (kk+1),0,X,gq,τ,.leaf,_,st,sm,rfl,by rw[aqi (by rw[hc.size];omega)],.ni hkk hW,mw,
   ⟨ay.old,ay.size,ay.os,ay.O,ay.tape,ay.wg,ay.ch,ay.oa⟩,?_,aU,rfl⟩
  exact aO.main (tag':=.ni (kk+1)) (u:=#[]) G rfl rfl (fun k _=>⟨rfl,rfl,rfl,id⟩) rfl (fun op a_=>by simp at a_)
 ·obtain⟨j,gj,zj,shj,d,hij,hj,dI⟩:=crowd_send_meets_some (P:=E.P) (sl:=sl) ha hW0.2.2.1 tc eZ (fun j k' Uo=>by
   obtain⟨x,R7,Y8⟩:=mem_partners.1 Uo;rcases getElem?_stand gs 0 j x R7 with⟨_,rfl⟩|⟨aeR,R7⟩
   ·rw[offersAt_ph]at Y8;cases Y8
   ·obtain⟨h1,k,f,S,g2,_,_,_,h2,_⟩:=LI hc aeR R7 Y8
    exact⟨h1,aeR,g2,_,_,by rw[R7,h2]⟩)
  obtain⟨_,k,f,S,g2,hk,rfl,hx,h2,hWk⟩:=LI hc hij hj (k':=0) (by
   by_cases e:True
   ·have:(gs[j]?).isSome:=by rw[hj];rfl
    rw[asl,if_pos rfl];simp
   ·exact absurd trivial e)
  obtain⟨rfl,hsv⟩:=Lx h2;rw[finishComm_recv,finishComm_send,hsv]at dI
  have hu:∀op∈aqc 0 a.frame.fn a.frame.place #[]++#[({g:=0,fn:=a.frame.fn,pos:=a.frame.place,act:=.send E.ch s}:MemOp),{g:=E.L+k,fn:=gj.frame.fn,pos:=gj.frame.place,act:=.recv E.ch r 0},
    {g:=0,fn:=a.frame.fn,pos:=a.frame.place,act:=.sendDone E.ch s},{g:=E.L+k,fn:=gj.frame.fn,pos:=gj.frame.place,act:=.recvDone E.ch r}],
    (op.g=0\/op.g=E.L+k)/\op.act.touch?=none/\op.act.low w.heap.size/\op.act≠.mark (.release (stA E.wg))/\op.act≠.mark .disable/\op.act≠.mark .enable:=by
   intro op a_;rcases aq_.1 a_ with h|h
   ·obtain⟨e,he,_⟩:=ap9 h;simp at he
   ·simp at h
    rcases h with rfl|rfl|rfl|rfl<;>exact⟨by simp,rfl,aag,by simp,by simp,by simp⟩
  obtain⟨MC,h1,h2⟩:=ajz (sl:=sl) (gs':=(gs.setIfInBounds (E.L+k) (aoj g2 (recvd true (.int .i64 ((E.T - (kk+1):Nat):Int)) true))).setIfInBounds 0 (aoj a agp)) (Fin:=Fin) (τ:=τ) (kV:=kV) (d:=d) G hc ay aO aU (.inl rfl) hkk rfl hW0.2.2.2 hk hx (.inl rfl) (hWk w (bw.R.refl _ _)) sP
   (aqi (by have:=hc.size;simp;omega)) (by rw[ap4 oM,aqi (by have:=hc.size;simp only[aM.j]at*;omega)]) (fun i h0 hi=>by rw[ap4 oM,ap4 oM])
   (u:=_) hu tc
  exact⟨_,_,MC,dI,h1,h2⟩
theorem Rm(G:E.Geo)(ha:gs[0]?=some a)(hc:E.Com .cl 0 X τ gs w t)(aO:E.sI .cl X gq w t)(ay:E.Mem .cl X st sm w)(aU:ap6 E.n (wd X) .kd st sm)(hW:E.Mcl Anch E.Rd a w):E.Steps Fin Anch gs w sl 0 t (E.mu .cl X τ kV):=by
 have hL:=G.L1;obtain⟨_,hmw,kD⟩:=hW;obtain⟨s,r,tm,tc⟩:=ay.ch;obtain⟨a',hgo,gi,hk⟩:=kD s r tm tc;have dI:=arS (P:=E.P) (sl:=sl) (i:=0) ha hgo;have hA:Aside E.ch w (w.shut E.ch s r tm):=Aside.put E.ch w _;have aaf:(w.shut E.ch s r tm).heap[E.ch]?=some (.chan 0 #[] true s r tm):=heap_put tc;have neS:∀b,(E.Rd b\/E.N0<=b)->b≠E.ch:=fun b h=>h.elim (fun h=>(G.rd b h).2.2.1) fun h=>by have:=G.ch;omega
 have live:arU E.ty E.wg (w.shut E.ch s r tm):=⟨st,sm,(hA.block _ G.d1).T ay.wg⟩;have yT:aqc 0 a.frame.fn a.frame.place #[⟨.obj E.ch,false,true⟩,⟨.obj E.ch,true,true⟩]=#[{g:=0,fn:=a.frame.fn,pos:=a.frame.place,act:=.access ⟨.obj E.ch,false,true⟩},{g:=0,fn:=a.frame.fn,pos:=a.frame.place,act:=.close E.ch}]:=by rw[ar0];simp[apZ]
 obtain⟨rk,hrk,mw⟩:=hc.close (tag':=.kd) (d0':=0) (a:=a) (a':=a') (w':=w.shut E.ch s r tm) (u:=aqc 0 a.frame.fn a.frame.place #[⟨.obj E.ch,false,true⟩,⟨.obj E.ch,true,true⟩]) G rfl rfl hmw (hk.running E.bg fun _ _ _ x=>x.1) ⟨s,r,tm,aaf⟩
  (fun k hk=>⟨fun b hb=>hA.block b (neS b (aO.low k hk b hb)),aqe hA.size.symm,hA.os,fun _=>live⟩) aqO (by rw[asB,hc.deaf0];rfl)
 have ew:wd (fun k=>{X k with cW:=rk k})=wd X:=rfl
 refine⟨_,_,E.mu .kd (fun k=>{X k with cW:=rk k}) τ gi,dI,.stage ?_,_,_,sl,.kd,0,_,gq,τ,gi,a',st,sm,rfl,arT _ _ _ (by rw[hc.size];omega),.kd hk,mw,
  ⟨fun b h1 h2 h3 h4=>(hA.block b h3).T (ay.old b h1 h2 h3 h4),by rw[hA.size];exact ay.size,hA.os.T ay.os,hA.output.T ay.O,hA.tape.T ay.tape,(hA.block _ G.d1).T ay.wg,⟨_,_,_,aaf⟩,fun hT=>?_⟩,?_,aU,rfl⟩
 ·have key:∀j,j<=E.n->BW j (fun k=>{X k with cW:=rk k})<=BW j X+j:=by
   intro j
   induction j with
   |zero=>intro _;exact ahP _
   |succ j ih=>
    intro hj;have:=ih oM;have:=(hrk j (by show j<E.n;omega)).1;simp only[BW,arN]at*;omega
  have:=key E.n nR;simp only[aM.phi,aM.j,aM.s,ew]at*;omega
 ·obtain⟨cs,h1,h2,h3⟩:=ay.oa hT
  exact⟨cs,(hA.block _ (Ne.symm G.d3)).T h1,h2,h3⟩
 ·refine aO.main (tag':=.kd) G rfl rfl (fun k hk=>⟨rfl,rfl,rfl,(hrk k hk).2⟩) hA.size ?_
  rw[yT];intro op a_;simp only[asC,ab',adn,or_false]at a_;rcases a_ with rfl|rfl
  ·refine⟨rfl,by show E.ch<_;have:=G.ch;have:=ay.size;omega,by simp,fun x hx _=>?_⟩
   simp only[ap_,akk]at hx;subst hx;exact .inl ⟨.inr rfl,by simp⟩
  ·exact⟨rfl,by show E.ch<_;have:=G.ch;have:=ay.size;omega,by simp,fun x hx=>by cases hx⟩
open Go.ConcN (WgLive WD CTag RelBy Vc cnt sumTo sumTo_upd sumTo_upd_out upd upd_same upd_ne isW3 isOpen isFin pend OpenSt Vc_upd phi_mono others_uncounted le_sumTo bk_cell RelBy.book bk_dis bk_en bk_rd bk_rw bk_sem Deaf_absent exists_counted)
open Go.ConcR (KK WgAt stA smA rd wr deafBehind_cons deafBehind_one Bk bk_of_mute ofEvent_loc_mark ofEvent_cell)
variable{E:bw}{tag tag':aM}{d0 d0':Nat}{X:Nat->WX}{gq:Nat->Option Nat}{τ:Nat->Tr}{kV:Tr}{gs gs':Array ane}{w w':aah}{t u:aqt}{st sm st' sm':Int}{a:ane}{sl:Option (Nat×Nat)}{Fin:ane->Prop}{Anch:ane->aah->Prop}
def bw.Ze(E:bw)(Fin:ane->Prop)(m:asM)(t:aqt):Prop:=
 ∃(gs:Array ane) (a:ane) (w:aah) (sl:Option (Nat×Nat)) (q:Nat->Nat),m=crowd gs w sl/\gs.size=E.L+E.n/\gs[0]?=some a/\Fin a/\asN E.P t gs q/\Past (fun l=>E.eM l\/E.Sh l) w.heap.size t/\
  (∀b,b<E.N0->b≠E.wg->b≠E.ch->b≠E.oa->w.heap[b]?=E.W.heap[b]?)/\E.N0<=w.heap.size/\w.os=E.W.os/\w.output=E.W.output/\w.tape=E.W.tape/\
  (0<E.T->∃cs,w.heap[E.oa]?=some (.cells cs E.Y9)/\cs.size=E.T/\∀i,i<E.T->cs[i]?=some (E.val i))/\∀i g,gs.size<=g->t.g? i≠some g
theorem abm{YP:Tr}(h:E.WSit (X k) YP g w)(h1:(X k).stage=1):∃q,QuitsD E.P q (X k).deaf g:=by
 generalize X k=x at h h1;cases h<;>first|(simp at h1;done)|exact⟨_,by assumption⟩
theorem Zz(G:E.Geo)(ha:gs[0]?=some a)(hc:E.Com .acq 0 X τ gs w t)(aO:E.sI .acq X gq w t)(ay:E.Mem .acq X st sm w)(aU:ap6 E.n (wd X) .acq st sm)(hW:E.gT Fin E.Rd a w):
  ∃m' ops,runT E.P (crowd gs w sl) 0=(.next m',ops)/\E.Ze Fin m' (t++ops):=by
 have hL:=G.L1;obtain⟨_,a',hgo,hF⟩:=hW;obtain⟨hq,rfl,rfl⟩:=aU.fin_inv trivial;have dI:=arS (P:=E.P) (sl:=sl) (i:=0) ha hgo;have e1:aqc 0 a.frame.fn a.frame.place #[Go.ConcR.mk (.acquire (stA E.wg))]=#[{g:=0,fn:=a.frame.fn,pos:=a.frame.place,act:=.mark (.acquire (stA E.wg))}]:=by rw[ar0];simp[Go.ConcR.ofEvent_mk]
 obtain⟨y,hy⟩:∃y:MemOp,y={g:=0,fn:=a.frame.fn,pos:=a.frame.place,act:=.mark (.acquire (stA E.wg))}:=⟨_,rfl⟩;rw[<-hy]at e1;have Qs:E.wg<w.heap.size:=by have:=G.wg;have:=ay.size;omega
 have mw:=hc.main (tag':=.acq) (d0':=0) (a:=a) (a':=a') (w':=w) (u:=#[y]) (f:=ap7 E.P a a' w) G rfl rfl (fun h k hk=>hc.open_ h k hk) (.inl rfl) ay.ch (fun _ _=>bw.R.refl _ _) (by intro op a_;simp at a_;subst a_;rw[hy]) (by
  rw[<-e1,asB,hc.deaf0];rfl)
 have xU:=aO.main (tag':=.acq) (w':=w) (u:=#[y]) G rfl rfl (fun k _=>⟨rfl,rfl,rfl,id⟩) rfl (by
  intro op a_;simp at a_;subst a_;rw[hy];exact⟨rfl,Qs,by simp,fun x hx=>by cases hx⟩)
 have hyt:(t++#[y])[t.size]?=some y:=by simp
 have aiI:=xU.tl.join mw.deaf0 (q:=t.size) (by rw[act?_of hyt,hy]) (by simp[apO,hy]) ⟨0,by simp[apO,hy],by rw[deaf_old nR];exact hc.deaf0⟩ (by
  rintro g ⟨k,hk,rfl⟩;obtain⟨r,hr⟩:=hc.rel k hk (by have:=hq k hk;simp only[wd]at this;omega);exact⟨r,aqr hr (by intro op a_;simp at a_;subst a_;rw[hy];simp;omega),lt_of_act? hr.act⟩)
 rw[e1]at dI
 have key:∀i,∃q,0<i->∀g,((gs.map (ap7 E.P a a' w)).setIfInBounds 0 a')[i]?=some g->QuitsD E.P q (Deaf (t++#[y]) i) g:=by
  intro i
  by_cases h0:0<i
  ·by_cases hi:i<E.L
   ·obtain⟨g,q,hg,_,hQ⟩:=mw.lv i h0 hi
    exact⟨q,fun _ g' hg'=>by rw[hg]at hg';cases hg';exact hQ⟩
   ·by_cases hk:i - E.L<E.n
    ·obtain⟨g,hg,hs⟩:=mw.wk (i - E.L) hk
     rw[show E.L+(i - E.L)=i by omega]at hg hs;obtain⟨q,hQ⟩:=abm hs (by have:=hq (i - E.L) hk;simpa[wd]using this);have hd:=mw.deafW (i - E.L) hk;rw[show E.L+(i - E.L)=i by omega]at hd;exact⟨q,fun _ g' hg'=>by rw[hg]at hg';cases hg';rw[hd];exact hQ⟩
    ·refine⟨0,fun _ g' hg'=>?_⟩
     have:=(akN.1 hg').1;rw[mw.size]at this;simp only[aM.j]at this;omega
  ·exact⟨0,fun h=>absurd h h0⟩
 obtain⟨q,hqq⟩:=Classical.axiomOfChoice key;refine⟨_,_,dI,_,a',w,sl,q,rfl,mw.size,arT _ _ _ (by rw[hc.size];omega),hF,⟨fun i g h0 hg=>hqq i h0 g hg,fun j hj=>?_⟩,aiI,ay.old,ay.size,ay.os,ay.O,ay.tape,fun hT=>?_,fun i j hj=>mw.none j hj i⟩
 ·exact arW fun i op hi e=>mw.none j hj i (by unfold apO;rw[hi];exact congrArg some e)
 ·obtain⟨cs,h1,h2,h3⟩:=ay.oa hT
  refine⟨cs,h1,h2,fun i hi=>h3 i hi fun k hk e=>?_⟩;have h1:=hq k hk;obtain⟨g,hg,hs⟩:=hc.wk k hk;simp only[wd]at h1;generalize X k=x at hs h1 e;generalize τ (E.L+k)=YP at hs;cases hs<;>first|(simp at h1;done)|cases e
theorem Yb(G:E.Geo)(o7:∀g w,Anch g w->g.status=.running)(hAn:∀g w,Anch g w->E.jg (E.YT Fin Anch) g w)(ha:gs[0]?=some a)(hm:E.fq Fin Anch tag d0 kV a w)(hc:E.Com tag d0 X τ gs w t)(ay:E.Mem tag X st sm w)(aO:E.sI tag X gq w t)(aU:ap6 (tag.j E.n) (wd X) tag.c st sm)(dI:a.status=.running):(∃m' ops,runT E.P (crowd gs w sl) 0=(.next m',ops)/\E.Ze Fin m' (t++ops))\/E.Steps Fin Anch gs w sl 0 t (E.mu tag X τ kV):=by
 have hn:=G.n1;have hVn:Vc E.n (wd X)<=E.n:=asf _ _;cases hm with
 |skd hr h=>
  rename_i r
  right;rcases h.cases E.bg with⟨-,hW⟩|⟨gi,S',a',w',es,dR,_,hgo,hD,h'⟩
  ·obtain⟨_,a',hgo,gi,h'⟩:=hW w (bw.R.refl _ _)
   exact bookC (tag':=.sp r 4) G ha hc aO ay hgo rfl rfl rfl id (.refl _ _) ay.wg asu (.sa1 hr h') (aU.reopen trivial trivial rfl (by simp[aM.c])) (.inl (by simp only[aM.phi];omega))
  ·exact idleC G ha hc aO ay aU hgo hD (fun e1 e2=>by subst e1 e2;exact .skd hr h') dR
 |sa1 hr h=>
  rename_i r
  right;rcases h.cases E.bg with⟨-,hW⟩|⟨gi,S',a',w',es,dR,_,hgo,hD,h'⟩
  ·obtain⟨_,kD⟩:=hW w (bw.R.refl _ _)
   (obtain⟨ho,rfl,rfl,_⟩:=aU.open_inv trivial;have hVj:Vc (aM.j E.n (.sp r 4)) (wd X)<=aM.j E.n (.sp r 4):=asf _ _;obtain⟨a',hgo,gi,h'⟩:=kD (Vc (aM.j E.n (.sp r 4)) (wd X)) (by simp only[aM.j]at*;omega) (by simpa[pend,aM.c]using ay.wg);refine bookC (tag':=.sp r 3) G ha hc aO ay hgo rfl rfl rfl id (aqj w (stA E.wg) _) (ay.wg.setSt _) bk_rw (.ske hr h') ?_ (.inl (by simp only[aM.phi];omega));have e:(((Vc (aM.j E.n (.sp r 4)) (wd X):Nat):Int)+1)*KK=((Vc (aM.j E.n (.sp r 4)) (wd X)+pend (.sp r 3):Nat):Int)*KK:=by simp[pend]);rw[e];exact .opn trivial ho (by simp[aM.c])
  ·exact idleC G ha hc aO ay aU hgo hD (fun e1 e2=>by subst e1 e2;exact .sa1 hr h') dR
 |ske hr h=>
  rename_i r
  right;rcases h.cases E.bg with⟨-,hW⟩|⟨gi,S',a',w',es,dR,_,hgo,hD,h'⟩
  ·obtain⟨_,a',hgo,gi,h'⟩:=hW w (bw.R.refl _ _)
   exact bookC (tag':=.sp r 2) G ha hc aO ay hgo rfl rfl rfl id (.refl _ _) ay.wg bk_en (.sgo hr h') (aU.reopen trivial trivial rfl (by simp[aM.c])) (.inl (by simp only[aM.phi];omega))
  ·exact idleC G ha hc aO ay aU hgo hD (fun e1 e2=>by subst e1 e2;exact .ske hr h') dR
 |sgo hr h=>
  right;rcases h.cases E.bg with⟨-,hW⟩|⟨gi,S',a',w',es,dR,_,hgo,hD,h'⟩
  ·exact ad5 G hr ha hc aO ay aU (hW w (bw.R.refl _ _))
  ·exact idleC G ha hc aO ay aU hgo hD (fun e1 e2=>by subst e1 e2;exact .sgo hr h') dR
 |snd hr h=>
  right;rcases h.cases E.bg with⟨-,hW⟩|⟨gi,S',a',w',es,dR,_,hgo,hD,h'⟩
  ·exact XI G o7 hr ha hc aO ay aU hW
  ·exact idleC G ha hc aO ay aU hgo hD (fun e1 e2=>by subst e1 e2;exact .snd hr h') dR
 |ni hr h=>exact absurd dI (by simp[aqf])
 |cl h=>
  right;rcases h.cases E.bg with⟨-,hW⟩|⟨gi,S',a',w',es,dR,_,hgo,hD,h'⟩
  ·exact Rm G ha hc aO ay aU (hW w (bw.R.refl _ _))
  ·exact idleC G ha hc aO ay aU hgo hD (fun e1 e2=>by subst e1 e2;exact .cl h') dR
 |kd h=>
  right;rcases h.cases E.bg with⟨-,hW⟩|⟨gi,S',a',w',es,dR,_,hgo,hD,h'⟩
  ·obtain⟨_,a',hgo,gi,h'⟩:=hW w (bw.R.refl _ _)
   exact bookC (tag':=.anch) G ha hc aO ay hgo rfl rfl rfl id (.refl _ _) ay.wg asu (.anch h') (aU.reopen trivial trivial rfl (by simp[aM.c])) (.inl (by simp only[aM.phi,aM.j];omega))
  ·exact idleC G ha hc aO ay aU hgo hD (fun e1 e2=>by subst e1 e2;exact .kd h') dR
 |anch h=>
  right;rcases h.cases E.bg with⟨-,hW⟩|⟨gi,S',a',w',es,dR,_,hgo,hD,h'⟩
  ·obtain⟨gi,h'⟩:=hAn a w (hW w (bw.R.refl _ _))
   obtain⟨m',ops,MC,h1,h2,h3⟩:=w1Step (sl:=sl) (d0:=1) (X:=X) (τ:=τ) G ha ⟨hc.size,hc.lv,hc.wk,hc.deaf0,hc.deafW,hc.none,hc.rel,hc.open_,hc.live⟩ ⟨aO.rd,aO.low,aO.up,aO.apart,aO.U3,aO.cur,aO.fuel,aO.fresh,aO.tl⟩
    ⟨ay.old,ay.size,ay.os,ay.O,ay.tape,ay.wg,ay.ch,ay.oa⟩ (aU.reopen trivial trivial rfl sP) rfl h'
   refine⟨m',ops,MC,h1,?_,h3⟩;have h4:=h2.fst;obtain⟨m1,m2⟩:=MC;exact .stage (by simp only[bw.mu,aM.phi,aM.j,aM.s]at*;omega)
  ·exact idleC G ha hc aO ay aU hgo hD (fun e1 e2=>by subst e1 e2;exact .anch h') dR
 |w1 h=>exact .inr (w1Step G ha hc aO ay aU rfl h)
 |w2 h=>
  rename_i vs
  right;rcases h.cases E.bg with⟨-,hW⟩|⟨gi,S',a',w',es,dR,_,hgo,hD,h'⟩
  ·obtain⟨_,kD⟩:=hW w (bw.R.refl _ _)
   (obtain⟨ho,rfl,rfl,hw2⟩:=aU.open_inv trivial;obtain⟨hle,h1⟩:=hw2 vs rfl;simp only[aM.j]at hle;obtain⟨ana,aiG⟩:=kD (Vc E.n (wd X)) oM (by simpa[pend,aM.c,aM.j]using ay.wg));by_cases e:Vc E.n (wd X)=vs
   ·obtain⟨a',hgo,gi,h'⟩:=ana e
    exact bookC (tag':=.w3) G ha hc aO ay hgo rfl rfl rfl id (aqj w (stA E.wg) _) (ay.wg.setSt _) bk_rw (.w3 h') (.reg trivial ho (by simp only[aM.j];omega)) (.inl (by simp only[aM.phi];omega))
   ·obtain⟨a',hgo,gi,h'⟩:=aiG e
    exact bookC (tag':=.anch) G ha hc aO ay hgo rfl rfl rfl id (.refl _ _) ay.wg asj (.anch h') (aU.reopen trivial trivial rfl (by simp[aM.c])) (.inl (by simp only[aM.phi,aM.j];omega))
  ·exact idleC G ha hc aO ay aU hgo hD (fun e1 e2=>by subst e1 e2;exact .w2 h') dR
 |w3 h=>
  right;rcases h.cases E.bg with⟨e0,hW⟩|⟨gi,S',a',w',es,dR,_,hgo,hD,h'⟩
  ·obtain⟨_,p_,vK,ai4⟩:=hW w (bw.R.refl _ _)
   have rL:=ay.wg;cases aU with
   |opn h1 _ _=>exact h1.elim
   |reg h1 h2 h3=>exact bookC (tag':=.blk) G ha hc aO ay (vK ⟨_,rL⟩) rfl rfl rfl id (.refl _ _) rL sP (.blk hW) (.reg trivial h2 h3) (.inr ⟨rfl,.inr ⟨e0.symm,by simp[aM.fl]⟩⟩)
   |last L h1 h2 h3 h4=>exact bookC (tag':=.blk) G ha hc aO ay (vK ⟨_,rL⟩) rfl rfl rfl id (.refl _ _) rL sP (.blk hW) (.last L trivial h2 h3 h4) (.inr ⟨rfl,.inr ⟨e0.symm,by simp[aM.fl]⟩⟩)
   |sema h2=>
    obtain⟨a',hgo,gi,h'⟩:=ai4 rL;exact bookC (tag':=.w4) G ha hc aO ay hgo rfl rfl rfl id (aqj w (smA E.wg) _) (rL.setSm 0) asH (.w4 h') (.fin trivial h2) (.inl (by simp only[aM.phi];omega))
   |fin h1 _=>exact h1.elim
  ·exact idleC G ha hc aO ay aU hgo hD (fun e1 e2=>by subst e1 e2;exact .w3 h') dR
 |blk h=>simp at dI
 |w4 h=>
  right;rcases h.cases E.bg with⟨-,hW⟩|⟨gi,S',a',w',es,dR,_,hgo,hD,h'⟩
  ·obtain⟨_,hy⟩:=hW w (bw.R.refl _ _)
   obtain⟨hq,rfl,rfl⟩:=aU.fin_inv trivial;obtain⟨a',hgo,gi,h'⟩:=hy ay.wg;exact bookC (tag':=.ke) G ha hc aO ay hgo rfl rfl rfl id (.refl _ _) ay.wg asj (.ke h') (.fin trivial hq) (.inl (by simp only[aM.phi];omega))
  ·exact idleC G ha hc aO ay aU hgo hD (fun e1 e2=>by subst e1 e2;exact .w4 h') dR
 |ke h=>
  right;rcases h.cases E.bg with⟨-,hW⟩|⟨gi,S',a',w',es,dR,_,hgo,hD,h'⟩
  ·obtain⟨_,a',hgo,gi,h'⟩:=hW w (bw.R.refl _ _)
   obtain⟨hq,rfl,rfl⟩:=aU.fin_inv trivial;exact bookC (tag':=.acq) G ha hc aO ay hgo rfl rfl rfl id (.refl _ _) ay.wg bk_en (.acq h') (.fin trivial hq) (.inl (by simp only[aM.phi];omega))
  ·exact idleC G ha hc aO ay aU hgo hD (fun e1 e2=>by subst e1 e2;exact .ke h') dR
 |acq h=>
  rcases h.cases E.bg with⟨-,hW⟩|⟨gi,S',a',w',es,dR,_,hgo,hD,h'⟩
  ·exact .inl (Zz G ha hc aO ay aU (hW w (bw.R.refl _ _)))
  ·exact .inr (idleC G ha hc aO ay aU hgo hD (fun e1 e2=>by subst e1 e2;exact .acq h') dR)
open Go.ConcN (WgLive WD CTag RelBy Vc cnt sumTo sumTo_upd sumTo_upd_out upd upd_same upd_ne isW3 isOpen isFin pend OpenSt Vc_upd phi_mono others_uncounted le_sumTo bk_cell exists_counted)
open Go.ConcR (KK WgAt stA smA rd wr Bk bk_of_mute ofEvent_loc_mark ofEvent_cell)
variable{E:bw}{tag tag':aM}{d0 d0':Nat}{X:Nat->WX}{gq:Nat->Option Nat}{τ:Nat->Tr}{kV:Tr}{gs gs':Array ane}{w w':aah}{t u:aqt}{st sm st' sm':Int}{a:ane}{sl:Option (Nat×Nat)}{Fin:ane->Prop}{Anch:ane->aah->Prop}
theorem QO{YP:Tr}(h:E.WSit (X k) YP g w)(h1:(X k).cW≠8)(h2:(X k).cW≠1):g.status=.running:=by
 rcases h.status with⟨h,_⟩|⟨_,h⟩|⟨h,_⟩
 ·exact h
 ·exact absurd h h2
 ·exact absurd h h1
theorem Ox{YP:Tr}(h:E.WSit (X k) YP g w)(h1:(X k).cW=1):(X k).stage=1:=by
 generalize X k=x at h h1 ⊢;cases h<;>first|rfl|(simp at h1;done)
theorem abF(_:E.Geo)(hn:1<=E.n)(o7:∀g w,Anch g w->g.status=.running)(ha:gs[0]?=some a)(hm:E.fq Fin Anch tag d0 kV a w)(hc:E.Com tag d0 X τ gs w t)(aU:ap6 (tag.j E.n) (wd X) tag.c st sm):
  ∃(i:Nat) (g:ane),gs[i]?=some g/\g.status=.running:=by
 rcases hm.status o7 with⟨h,_⟩|⟨k,g0,_,rfl,_,_⟩|⟨rfl,_⟩
 ·exact⟨0,a,ha,h⟩
 ·obtain⟨g,hg,hs⟩:=hc.wk 0 hn
  have h1:=hc.open_ rfl 0 hn;have h2:=hc.live rfl 0 hn;exact⟨_,g,hg,QO hs h1 oM⟩
 ·have stg:∀k,k<E.n->(wd X k).stage≠1->∃(i:Nat) (g:ane),gs[i]?=some g/\g.status=.running:=by
   intro k hk gX;obtain⟨g,hg,hs⟩:=hc.wk k hk;exact⟨_,g,hg,QO hs (hc.open_ rfl k hk) fun e=>gX (Ox hs e)⟩
  cases aU with
  |opn h1 _ _=>exact h1.elim
  |reg _ _ h3=>
   obtain⟨i,hi,h5⟩:=asg h3;exact stg i hi oM
  |last L _ h2 h3 _=>exact stg L h2 oM
  |fin h1 _=>exact h1.elim
theorem N8(G:E.Geo)(o7:∀g w,Anch g w->g.status=.running)(ha:gs[0]?=some a)(hm:E.fq Fin Anch tag d0 kV a w)(hc:E.Com tag d0 X τ gs w t)(ay:E.Mem tag X st sm w)(aO:E.sI tag X gq w t)(aU:ap6 (tag.j E.n) (wd X) tag.c st sm){i:Nat}(h0:0<i)(hi:i<E.L)(hg:gs[i]?=some g)(dI:g.status=.running):E.Steps Fin Anch gs w sl i t (E.mu tag X τ kV):=by
 obtain⟨g1,q,As,hq,hQ⟩:=hc.lv i h0 hi;rw[hg]at As;cases As;cases q with
 |zero=>rw[hQ.1]at dI;cases dI
 |succ q=>
  rcases hQ with⟨hf,_⟩|⟨_,g',es,CM,qF,hQ'⟩
  ·rw[hf]at dI;cases dI
  ·have hgo:=qF w
   have hr:=arS (P:=E.P) (sl:=sl) (i:=i) hg (by rw[show(i == 0)=false by simp;omega];exact hgo)
   obtain⟨tag',qs,Bq,ug,Y7⟩:=hm.wokenBy o7 g g' w (by
    have:=ay.ch;cases tag<;>first|(left;simp;done)|(right;exact this))
   obtain⟨e1,e2,e3,e4,e5,e6⟩:=retag ug E.n E.T (Vc (tag.j E.n) (wd X));have mw:=hc.afh (tag':=tag') (g:=g) G e1 e3 e4 h0 hi (fn:=g.frame.fn) (pos:=g.frame.place) ay.ch hQ'
   have KR:∀op∈aqc i g.frame.fn g.frame.place es,op.act.touch?=none/\op.act.low w.heap.size/\op.act≠.mark (.release (stA E.wg)):=by
    (intro op a_;obtain⟨e,he,rfl⟩:=ap9 a_;refine⟨touch_mute (CM e he),low_mute (CM e he) _,?_⟩;rcases bk_of_mute (Wg:=E.wg) (CM e he)with h|h|⟨b,wr,rfl,_⟩);(·rw[ofEvent_loc_mark h];simp);(·rw[ofEvent_loc_mark h];simp);(·rw[ofEvent_cell];simp)
   refine⟨_,_,E.mu tag' X (wT τ i (Tr.nat q)) qs,hr,?_,_,w,sl,tag',d0,X,gq,_,qs,_,st,sm,rfl,by rw[Go.ConcN.get_map_set _ _ _ _ oM,ha];rfl,Bq,mw,
    ⟨ay.old,ay.size,ay.os,ay.O,ay.tape,ay.wg,by rw[e3];exact ay.ch,by rw[e1,e2];exact ay.oa⟩,?_,by rw[e1];exact Go.ConcN.Mode.retag aU e6,rfl⟩
   ·simp only[bw.mu,e1,e2,e5]
    exact .other nR (Uv.set oM (by rw[hq];exact Tr.QB q))
   ·refine⟨by rw[e1];exact aO.rd,by rw[e1];exact aO.low,by rw[e1];exact aO.up,by rw[e1];exact aO.apart,by rw[e1,e2];exact aO.U3,by rw[e1];exact aO.cur,by rw[e1,e2];exact aO.fuel,?_,by rw[e1];exact aO.tl.adG KR⟩
    (intro i' V0 p x hx;obtain⟨op,ho,vU⟩:=touch_of hx;rcases getElem?_append_cases ho with⟨_,EA⟩|⟨_,Gr⟩);(·exact aO.fresh i' V0 p x (by rw[touchAt_of EA];exact vU));(·rw[(KR op Gr).1]at vU;cases vU)
theorem abQ(G:E.Geo)(hn:1<=E.n)(o7:∀g w,Anch g w->g.status=.running)(hAn:∀g w,Anch g w->E.jg (E.YT Fin Anch) g w)(μ:Mu)(m:asM)(t:aqt)(h:E.Inv Fin Anch μ m t):
  (∃m' ops,stepT E.P m=(.next m',ops)/\E.Ze Fin m' (t++ops))\/(∃m' ops MC,stepT E.P m=(.next m',ops)/\MJ (E.L+E.n) MC μ/\E.Inv Fin Anch MC m' (t++ops)):=by
 obtain⟨gs,w,sl,tag,d0,X,gq,τ,kV,a,st,sm,rfl,ha,hm,hc,ay,aO,aU,rfl⟩:=h
 have haw:∀g∈gs,awake g:=by
  intro g hg;obtain⟨i,hi⟩:=Array.mem_iff_getElem?.1 hg
  by_cases h0:i=0
  ·subst h0;rw[ha]at hi;cases hi;exact hm.awake o7
  ·rcases pG hc h0 hi with⟨_,q,hQ⟩|⟨k,_,_,hs⟩
   ·exact awake_of (hQ.status.elim .inl fun x=>.inr (.inr x))
   ·exact hs.awake
 obtain⟨i,g,d,QS,hg,dI,qF⟩:=crowd_pick (P:=E.P) (w:=w) (sl:=sl) haw (abF G hn o7 ha hm hc aU);rw[qF];have Bq:=hm.rely (bw.R.at E.Rd w d);have ML:=hc.at d;have sN:=ay.at d;have xU:=aO.at d
 by_cases h0:i=0
 ·subst h0
  rw[ha]at hg;cases hg;exact Yb (sl:=QS) G o7 hAn ha Bq ML sN xU aU dI
 ·rcases pG ML h0 hg with⟨hi,_⟩|⟨k,hk,rfl,_⟩
  ·exact .inr (N8 G o7 ha Bq ML sN xU aU oM hi hg dI)
  ·exact .inr (stepWorker G o7 ha Bq ML sN xU aU hk hg dI)
theorem ZT(G:E.Geo)(hn:1<=E.n)(o7:∀g w,Anch g w->g.status=.running)(hAn:∀g w,Anch g w->E.jg (E.YT Fin Anch) g w):∀(μ:Mu) (m:asM) (t:aqt),E.Inv Fin Anch μ m t->
  ∃N m' t',runNT E.P N m t=(.next m',t')/\E.Ze Fin m' t':=by
 intro μ
 induction μ using(MJ.wf (E.L+E.n)).induction with
 |_ μ ih=>
  intro m t h;rcases abQ G hn o7 hAn μ m t h with⟨m',ops,hs,hd⟩|⟨m',ops,MC,hs,aE,hI⟩
  ·exact⟨1,m',t++ops,by simp[runNT,hs],hd⟩
  ·obtain⟨N,m2,t2,h1,h2⟩:=ih MC aE m' (t++ops) hI
   exact⟨N+1,m2,t2,by rw[runNT_succ_next hs];exact h1,h2⟩
open Go.ConcN (WgLive WD CTag RelBy Vc cnt sumTo upd isOpen pend OpenSt)
open Go.ConcR (KK WgAt stA smA rd wr)
variable{E:bw}{gs:Array ane}{w:aah}{t:aqt}{a:ane}{sl:Option (Nat×Nat)}{Fin:ane->Prop}{Anch:ane->aah->Prop}{q:Nat->Nat}{B:Nat}
theorem bw.start(_:E.Geo)(hn:1<=E.n)(hW:E.W=w)(hN:E.N0<=w.heap.size)(iS:gs.size=E.L)(ha:gs[0]?=some a)(hL:asN E.P t gs q)(hP:Past E.eM B t)(hB:B<=w.heap.size)(nJ:∀i g,gs.size<=g->t.g? i≠some g)(hRd:∀l,E.M5 l->¬ E.eM l)(hnt:∀p x,touchAt t p=some x->¬ E.Sh x.loc/\∀i,x.loc≠.cell ⟨E.oa,i,none⟩)(hrel:NoRelease (stA E.wg) t)(rL:WgAt E.ty E.wg w 0 0)(tc:w.heap[E.ch]?=some (.chan 0 #[] false 0 0 false))(hoa:0<E.T->∃cs,w.heap[E.oa]?=some (.cells cs E.Y9)/\cs.size=E.T)(hm:E.jg (E.Ue Anch E.n) a w):∃μ,E.Inv Fin Anch μ (crowd gs w sl) t:=by
 obtain⟨r,hr⟩:∃r,E.n=r+1:=⟨E.n - 1,by omega⟩;obtain⟨Za,hm⟩:=hm;have hj:aM.j E.n (.sp r 5)=0:=by simp only[aM.j];omega
 have tl:TL E.Sh E.eM E.M5 (E.own 0 (fun _=>E.x0) fun _=>none) (E.J 0) (stA E.wg) w.heap.size t:=by
  have eJ:E.J 0=fun _=>False:=by
   funext g;exact propext ⟨fun⟨k,hk,_⟩=>absurd hk (ah' k),fun h=>h.elim⟩
  rw[eJ]
  refine⟨fun i op x hi hx hs=>absurd hs (hnt i x (by rw[touchAt_of hi];exact hx)).1,fun g j=>j.elim,fun g j=>j.elim,fun l hl i x hx e _=>?_,fun i x hx hm=>(hP.known i x hx hm).imp id fun k=>.inl ⟨.inr k.1,k.2⟩,hP.clean,
   fun i g hg h0 _ hc=>hP.over i g hg h0 hc,fun op ho=>MemAct.low_mono hB (hP.seen op ho),hrel⟩
  have ay:x.loc.isMemory=true:=by obtain⟨b,hb,_⟩:=hl;rw[e];exact wL hb
  rcases hP.known i x hx ay with k|⟨k,_⟩
  ·exact k
  ·exact absurd (e▸k) (hRd l hl)
 refine⟨_,gs,w,sl,.sp r 5,0,fun _=>E.x0,fun _=>none,fun i=>Tr.nat (q i),Za,a,0,0,rfl,ha,.skd oM (by rw[hr]at hm;exact hm),?_,?_,?_,?_,rfl⟩
 ·refine⟨by rw[iS,hj];rfl,fun i h0 hi=>?_,?_,hP.hears,?_,fun g hg i=>nJ i g hg,?_,fun h=>absurd h (by simp[aM.np,aM.shut]),?_⟩
  ·have aE:i<gs.size:=by omega
   exact⟨gs[i],q i,aht aE,rfl,hL.old i _ h0 (aht aE)⟩
  all_goals (rw[hj];intros;omega)
 ·refine⟨fun b _ _ _ _=>by rw[hW],hN,by rw[hW],by rw[hW],by rw[hW],rL,⟨0,0,false,tc⟩,fun hT=>?_⟩
  obtain⟨cs,h1,h2⟩:=hoa hT;exact⟨cs,h1,h2,fun i hi=>absurd hi (ah' i)⟩
 ·refine⟨?_,?_,?_,?_,fun i k h=>absurd h sP,?_,?_,fun i _ p x hx=>(hnt p x hx).2 i,by rw[hj];exact tl⟩
  all_goals (rw[hj];intros;omega)
 ·rw[hj]
  have:ap6 0 (wd fun _=>E.x0) (.sp r 5) (((Vc 0 (wd fun _=>E.x0)+pend (.sp r 5):Nat):Int)*KK) 0:=.opn trivial (fun i hi=>absurd hi (ah' i)) (fun vs e=>by cases e);simpa[Vc,arN,pend,aM.c]using this
end Go.gT
namespace Go.dO
open Go.Proofs.Tryz
open Go.Proofs.YtjligkmjlenofaaGreatDoor(kR oM dC aS kS zH sP sO mL aP nR bR BL)
open Go
variable{f f' g:ary}{m':List ary}{p:ag0}{u':aah}{es:Array anu}{k:ani}{aR:Bool}{v:aai}{x y:Array aai}{t:Tape}
def nE:ary->List ary->Prop
 |f,[]=>f.kind=.normal/\f.roundOf=none
 |_,g::l=>nE g l
def go(fr:ary)(cs:List ary):ane:={frame:=fr,callers:=cs,status:=.running,dying:=none}
structure To(c:iQ)(q:Ren)(f f':ary)(m m':List ary):Prop where
 aR:FR c q f f'
 rest:iC (FR c q) m m'
 bot:nE f m
def PS(G:aah->ar_)(u:aah):Prop:=∃t:Tape,∃d,u.drawn<=d/\∀t2,nv u.drawn d t t2->∃o u' es,G (u.on t2)=.ended o u' es
structure UH(c:iQ)(E:Nat->Prop)(c0:ary)(cs:List ary)(G G':aah->ar_)(r:Ren)(u w:aah)
  (t:Tape) (q:Ren) (u' w':aah) (n:Array anu) (f f':ary) (m m':List ary):Prop where
 kept:Kept E r q u w u' w'
 rel:WR c.P c.F c.C E q u' w'
 evs:iF E q n
 up:u.drawn<=u'.drawn
 to:To c q f f' m m'
 second:G' w=.go (go f' (m'++cs)) w' n
 first:∀t2,nv u.drawn u'.drawn t t2->∃es,G (u.on t2)=.go (go f (m++[c0])) (u'.on t2) es
def fL(c:iQ)(E:Nat->Prop)(c0:ary)(cs:List ary)(G G':aah->ar_)(r:Ren)(u w:aah):Prop:=
 PS G u\/∃t q u' w' n f f' m m',UH c E c0 cs G G' r u w t q u' w' n f f' m m'
section
variable{c:iQ}{E:Nat->Prop}{c0:ary}{cs:List ary}{G G':aah->ar_}{r:Ren}{u w:aah}{fr cV:ary}{l l':List ary}
theorem fL.gx(hw:WR c.P c.F c.C E r u w){m:List ary}(h:To c r f f' m m')(e1:∀w,G w=.go (go f (m++[c0])) w #[])(e2:∀w,G' w=.go (go f' (m'++cs)) w #[]):fL c E c0 cs G G' r u w:=
 .inr ⟨fun _ _=>0,r,u,w,#[],f,f',m,m',⟨.refl hw,hw,.nil,ahP _,h,e2 w,fun _ _=>⟨#[],e1 _⟩⟩⟩
theorem fL.ends(e1:∀w,∃o u' es,G w=.ended o u' es):fL c E c0 cs G G' r u w:=
 .inl ⟨fun _ _=>0,u.drawn,ahP _,fun _ _=>e1 _⟩
theorem fL.of_run{α β:Type}{A:Ren->α->β->Prop}{s:Sem α}{s':Sem β}(h:y_ c.P c.F c.C E A r u w s s')(aaN:∀w h u' es,s.runT c.P w #[]=(.halt h u',es)->Ia c.P h->∃o Q1 es',G w=.ended o Q1 es')(Jz:∀q a b,r.le q->A q a b->∃f f' m m',To c q f f' m m'/\(∀w u' es,s.runT c.P w #[]=(.ok a u',es)->∃es',G w=.go (go f (m++[c0])) u' es')/\
   (∀w w' es,s'.runT c.P w #[]=(.ok b w',es)->∃es',(∀e∈es',e∈es)/\G' w=.go (go f' (m'++cs)) w' es'))(aou:∀q v v',r.le q->VR c.F q v v'->(∀w u' es,s.runT c.P w #[]=(.halt (.panic v) u',es)->∃o Q1 es',G w=.ended o Q1 es')\/∃f f' m m',To c q f f' m m'/\
   (∀w u' es,s.runT c.P w #[]=(.halt (.panic v) u',es)->∃es',G w=.go (go f (m++[c0])) u' es')/\
   (∀w w' es,s'.runT c.P w #[]=(.halt (.panic v') w',es)->∃es',(∀e∈es',e∈es)/\G' w=.go (go f' (m'++cs)) w' es')):
  fL c E c0 cs G G' r u w:=by
 rcases h with⟨t,d,hd,hb⟩|⟨t,q,u',w',n,⟨kept,rel,evs,up,fH⟩⟩
 ·refine .inl ⟨t,d,hd,fun t2 ag=>?_⟩
  obtain⟨h,u',es',e,b⟩:=hb t2 ag #[];exact aaN _ _ _ _ e b
 ·rcases fH with⟨a,b,x,y,z⟩|⟨v,v',x,y,z⟩
  ·obtain⟨f,f',m,m',to,k1,k2⟩:=Jz q a b kept.le x
   obtain⟨es',sub,k2⟩:=k2 _ _ _ (y #[]);refine .inr ⟨t,q,u',w',es',f,f',m,m',⟨kept,rel,fun e he=>evs e (by simpa using sub e he),up,to,k2,fun t2 ag=>?_⟩⟩;obtain⟨es2,e⟩:=z t2 ag #[];exact k1 _ _ _ e
  ·rcases aou q v v' kept.le x with bad|⟨f,f',m,m',to,k1,k2⟩
   ·refine .inl ⟨t,u'.drawn,up,fun t2 ag=>?_⟩
    obtain⟨es2,e⟩:=z t2 ag #[];exact bad _ _ _ e
   obtain⟨es',sub,k2⟩:=k2 _ _ _ (y #[]);refine .inr ⟨t,q,u',w',es',f,f',m,m',⟨kept,rel,fun e he=>evs e (by simpa using sub e he),up,to,k2,fun t2 ag=>?_⟩⟩;obtain⟨es2,e⟩:=z t2 ag #[];exact k1 _ _ _ e
theorem cF(p:ag0)(fn:ani)(es:Array anu):∀e∈seen p fn es,e∈es:=fun _ h=>Go.Conc.mem_seen h
theorem fL.seq{α β:Type}{A:Ren->α->β->Prop}{s:Sem α}{s':Sem β}(hw:WR c.P c.F c.C E r u w)(h:y_ c.P c.F c.C E A r u w s s')(aaN:∀w h u' es,s.runT c.P w #[]=(.halt h u',es)->(Ia c.P h\/∃v,h=.panic v)->∃o Q1 es',G w=.ended o Q1 es')(Jz:∀q u1 w1 a b,Kept E r q u w u1 w1->WR c.P c.F c.C E q u1 w1->A q a b->∃H H':aah->ar_,fL c E c0 cs H H' q u1 w1/\(∀w u' es,s.runT c.P w #[]=(.ok a u',es)->∃es',G w=arO es' (H u'))/\
   (∀w w' es,s'.runT c.P w #[]=(.ok b w',es)->∃es',(∀e∈es',e∈es)/\G' w=arO es' (H' w'))):fL c E c0 cs G G' r u w:=by
 rcases h with⟨t,d,hd,hb⟩|⟨t,q,u1,w1,n,⟨kept,rel,evs,up,fH⟩⟩
 ·refine .inl ⟨t,d,hd,fun t2 ag=>?_⟩
  obtain⟨h,u',es',e,b⟩:=hb t2 ag #[];exact aaN _ _ _ _ e (.inl b)
 ·rcases fH with⟨a,b,x,y,z⟩|⟨v,v',x,y,z⟩
  ·obtain⟨H,H',hs,k1,k2⟩:=Jz q u1 w1 a b kept rel x
   obtain⟨es',sub,k2⟩:=k2 _ _ _ (y #[])
   have split:∀(t' t2:Tape) d,u1.drawn<=d->nv u.drawn d (fun x=>if x<u1.drawn then t x else t' x) t2->nv u.drawn u1.drawn t t2/\nv u1.drawn d t' t2:=by
    intro t' t2 d hd ag;constructor
    ·intro x h1 h2
     have:=ag x h1 (ae7 h2 hd);rw[<-this];dsimp only;rw[if_pos h2]
    ·intro x h1 h2
     have:=ag x (aiC up h1) h2;rw[<-this];dsimp only;rw[if_neg (ar7 h1)]
   rcases hs with⟨t',d,hd,hb⟩|⟨t',q2,u2,w2,n2,f,f',m,m',⟨acV,aoL,ame,up2,to,second,first⟩⟩
   ·refine .inl ⟨fun x=>if x<u1.drawn then t x else t' x,d,aiC up hd,fun t2 ag=>?_⟩
    obtain⟨a1,a2⟩:=split t' t2 d hd ag;obtain⟨es2,e⟩:=z t2 a1 #[];obtain⟨es3,e3⟩:=k1 _ _ _ e;obtain⟨o,u',es4,e4⟩:=hb t2 a2;rw[e3,e4];exact⟨_,_,_,rfl⟩
   ·refine .inr ⟨fun x=>if x<u1.drawn then t x else t' x,q2,u2,w2,es'++n2,f,f',m,m',⟨kept.T hw acV,aoL,?_,aiC up up2,to,?_,fun t2 ag=>?_⟩⟩
    ·exact iF.append (iF.mono acV.le fun e he=>evs e (by simpa using sub e he)) ame
    ·rw[k2,second];rfl
    ·obtain⟨a1,a2⟩:=split t' t2 _ up2 ag
     (obtain⟨es2,e⟩:=z t2 a1 #[];obtain⟨es3,e3⟩:=k1 _ _ _ e;obtain⟨es4,e4⟩:=first t2 a2);rw[e3,e4];exact⟨_,rfl⟩
  ·refine .inl ⟨t,u1.drawn,up,fun t2 ag=>?_⟩
   obtain⟨es2,e⟩:=z t2 ag #[];exact aaN _ _ _ _ e (.inr ⟨v,rfl⟩)
theorem FR.ya{c:iQ}{r:Ren}(h:FR c r f f'){m:ark}{m':ark}(k:MdR c.F r m m'):FR c r {f with mode:=m} {f' with mode:=m'}:=
 ⟨h.fn,h.ok,h.tmps,h.todo,h.defers,k,h.kind,h.Jz,h.round⟩
theorem nE.same(h:f.kind=g.kind/\f.roundOf=g.roundOf):∀{l:List ary},nE f l->nE g l
 |[],k=>⟨h.1.symm.T k.1,h.2.symm.T k.2⟩
 |_::_,k=>k
theorem uY{m:List ary}(h:FR c r f f')(k:iC (FR c r) m m')(hb:nE f m)(_:c0.mode=.run):
  (tryRecover f (m++[c0])=none/\tryRecover f' (m'++cs)=none)\/
  ∃v v' n n',tryRecover f (m++[c0])=some (v,n++[c0])/\tryRecover f' (m'++cs)=some (v',n'++cs)/\VR c.F r v v'/\iC (FR c r) n n'/\(∀g:ary,nE g n):=by
 have hk:=h.kind;rcases h.Jz with e|e
 ·left
  unfold tryRecover;rw[<-hk,e];exact⟨rfl,rfl⟩
 ·cases k with
  |nil=>exact absurd hb.1 (by rw[e];decide)
  | @cons a b m m' x k=>
    unfold tryRecover;rw[<-hk,e];simp only[aaK];have hm:=x.mode
    revert hm
    generalize hma:a.mode=ma;generalize hmb:b.mode=mb;intro hm;cases hm with
    |run=>left;exact⟨rfl,rfl⟩
    |returning=>left;exact⟨rfl,rfl⟩
    |panicking pl=>
     cases pl with
     |nil=>left;exact⟨rfl,rfl⟩
     | @cons p p' ps ps' px pxs=>
       obtain⟨v,rec,ge⟩:=p;obtain⟨v',aoJ,ge'⟩:=p';obtain⟨h1,h2,h3⟩:=px;simp only at h1 h2 h3;subst h2;subst h3;cases rec<;>cases ge
       ·right
        refine⟨v,v',{a with mode:=.panicking ({v,recovered:=true}::ps)}::m,{b with mode:=.panicking ({v:=v',recovered:=true}::ps')}::m',rfl,rfl,h1,.cons (x.ya (.panicking (.cons ⟨h1,rfl,rfl⟩ pxs))) k,fun g=>?_⟩;exact nE.same (f:=a) (g:={a with mode:=.panicking ({v,recovered:=true}::ps)}) ⟨rfl,rfl⟩ hb
       ·left;exact⟨rfl,rfl⟩
       ·left;exact⟨rfl,rfl⟩
       ·left;exact⟨rfl,rfl⟩
def ap(p:ag0)(fr:ary)(cs:List ary)(x:Result Next×Array anu):ar_:=
 let es:=seen p fr.fn (if fr.kind == .early then #[]else(match x.1 with| .halt .blocked _| .halt .waiting _| .halt (.unsupported (.initOrder _)) _=>#[]|_=>x.2))
 arO es (match x.1 with
  | .ok (.value v) w=>.go (go (fr.finish v) cs) w
  | .ok .skip w=>.go (go (fr.finish agp) cs) w
  | .ok (.enter f args) w=>.go (go (aq9 p f args .normal) (fr::cs)) w
  | .ok (.round l f tmps a b) w=>.go (go (arX l f tmps a b .normal) (fr::cs)) w
  | .ok (.defer d) w=>.go (go ({fr with defers:=d::fr.defers}.finish agp) cs) w
  | .ok .recover w=>(match tryRecover fr cs with
    |some (v,cs)=>.go (go (fr.finish v) cs) w
    |none=>.go (go (fr.finish .nilIface) cs) w)
  | .halt (.panic v) w=>.go (go (fr.raise [{v,recovered:=false}]) cs) w
  | .halt (.unsupported u) w=>.ended (.unsupported u (fr.pos p)) w
  | .halt (.stuck s) w=>.ended (.stuck s (fr.pos p)) w
  | .ok _ w| .halt _ w=>.ended (.exit 0) w)
def pJ:Next->Bool
 | .value _| .skip| .enter .. | .round .. | .defer _| .recover=>true
 |_=>false
theorem JW(p:ag0)(fr:ary)(cs:List ary)(s:Sem Next)(w:aah)(hk:∀d x y k,fr.todo≠.call d true x y::k)(hf:p.follows .rangeFuncRecover=true)(hs:match s.run p w with| .ok n _=>pJ n=true| .halt (.panic _) _| .halt (.stuck _) _=>True| .halt (.unsupported (.initOrder _)) _=>False| .halt (.unsupported _) _=>True|_=>False):
  arI p true fr cs none s w=ap p fr cs (s.runT p w #[]):=by
 have e:=apT p s w #[];unfold arI ap;simp only[if_true];generalize hx:s.runT p w #[]=x at e ⊢;obtain⟨x,es⟩:=x;simp only at e;rw[<-e]at hs;obtain⟨fn,tmps,todo,defers,mode,kind,round⟩:=fr;cases x with
 |ok n w=>
  cases n with
  |enter f args=>
   cases todo with
   |nil=>rfl
   |cons i k=>
    cases i with
    |call d wr x y=>cases wr with
     |false=>rfl
     |true=>exact absurd rfl (hk d x y k)
    |_=>rfl
  |recover=>
   cases round with
   |none=>rfl
   |some l=>simp only[hf,if_true];rfl
  |_=>first|rfl|cases hs
 |halt h w=>
  cases h with
  |unsupported u=>cases u<;>first|rfl|cases hs
  |_=>first|rfl|cases hs
theorem FR.aba(h:FR c r f f'):(∀d x y k,f.todo≠.call d true x y::k)/\(∀d x y k,f'.todo≠.call d true x y::k):=by
 have:=h.todo
 revert this
 generalize f.todo=x;generalize f'.todo=y;intro k;constructor
 ·rintro d a b j rfl;cases k with|cons e _=>cases e
 ·rintro d a b j rfl;cases k with|cons e _=>cases e
theorem ry.ahQ{h:Halt}(b:ry h):match (Result.halt h w:Result Next)with| .ok n _=>pJ n=true| .halt (.panic _) _| .halt (.stuck _) _=>True| .halt (.unsupported (.initOrder _)) _=>False| .halt (.unsupported _) _=>True|_=>False:=by
 cases h with
 |unsupported u=>cases u<;>first|trivial|exact b
 |_=>first|trivial|exact b
theorem FR.aaP(h:FR c r f f'):(f.kind == .early)=false/\(f'.kind == .early)=false:=by
 rw[<-h.kind];rcases h.Jz with e|e<;>rw[e]<;>exact⟨rfl,rfl⟩
theorem JV{fr:ary}{cs:List ary}{s:Sem Next}{w:aah}{g:Nat}(ha:p.follows .staticDataAhead=true)(hg:p.stepOf g=none)(e:s.runT p w #[]=(.halt (.unsupported (.initOrder g)) u',es)):
  ∃o Q1 es',arI p true fr cs none s w=.ended o Q1 es':=by
 have er:early p fr cs none g u'=.ended (.unsupported (.initOrder g) (fr.pos p)) u':=by
  unfold early;simp only[ha,Bool.not_true,akg,if_false,hg]
 unfold arI;simp only[if_true,e,er];exact⟨_,_,_,rfl⟩
theorem FV(hw:WR c.P c.F c.C E r u w)(_:c.Ok r)(aic:∀f b,c.fs f=true->(c.P.funcs[f]?).bind (·.body)=some b->c.eB true b=true)(aio:c.P.follows .rangeFuncRecover=true)(hah:c.P.follows .staticDataAhead=true)(h0:c0.mode=.run)(hf:FR c r fr cV)(hl:iC (FR c r) l l')(hb:nE fr l){s s':Sem Next}(hs:CR c (NR c) r s s')(e1:∀w,G w=arI c.P true fr (l++[c0]) none s w)(e2:∀w,G' w=arI c.P true cV (l'++cs) none s' w):
  fL c E c0 cs G G' r u w:=by
 have n1:=hf.aba;have kn:=hf.aaP
 have ZD:∀w x,s.runT c.P w #[]=x->(match x.1 with| .ok n _=>pJ n=true| .halt (.panic _) _| .halt (.stuck _) _=>True| .halt (.unsupported (.initOrder _)) _=>False| .halt (.unsupported _) _=>True|_=>False)->
   G w=ap c.P fr (l++[c0]) x:=by
  intro w x e h;rw[e1,JW _ _ _ _ _ n1.1 aio (by rw[<-apT c.P s w #[],e];exact h),e]
 have ap2:∀w x,s'.runT c.P w #[]=x->(match x.1 with| .ok n _=>pJ n=true| .halt (.panic _) _| .halt (.stuck _) _=>True| .halt (.unsupported (.initOrder _)) _=>False| .halt (.unsupported _) _=>True|_=>False)->
   G' w=ap c.P cV (l'++cs) x:=by
  intro w x e h;rw[e2,JW _ _ _ _ _ n1.2 aio (by rw[<-apT c.P s' w #[],e];exact h),e]
 refine .of_run (nM hs hw) ?_ ?_ ?_
 ·intro w h u' es e b
  rcases b with b|⟨g,rfl,hg⟩
  rotate_left
  ·rw[e1];exact JV hah hg e
  rw[ZD w _ e (ry.ahQ b)];cases h with
  |stuck m=>exact⟨_,_,_,rfl⟩
  |unsupported x=>exact⟨_,_,_,rfl⟩
  |_=>exact b.elim
 ·intro q a b le k
  have hf:=hf.mono le;have hl:iC (FR c q) l l':=hl.mono fun _ _ z=>z.mono le
  have fin:∀{v v':aai},VR c.F q v v'->nE (fr.finish v) l:=by
   intro v v' k;refine nE.same ?_ hb;unfold arZ;split<;>exact⟨rfl,rfl⟩
  cases k with
  |value k=>
   refine⟨fr.finish _,cV.finish _,l,l',⟨hf.finish k,hl,fin k⟩,fun w u' es e=>?_,fun w w' es e=>?_⟩
   ·rw[ZD w _ e rfl];exact⟨_,rfl⟩
   ·rw[ap2 w _ e rfl]
    refine⟨_,?_,rfl⟩;intro e' he;simp only[kn.2]at he;simpa using cF _ _ _ _ (by simpa using he)
  |skip=>
   refine⟨fr.finish agp,cV.finish agp,l,l',⟨hf.finish .undef,hl,fin .undef⟩,fun w u' es e=>?_,fun w w' es e=>?_⟩
   ·rw[ZD w _ e rfl];exact⟨_,rfl⟩
   ·rw[ap2 w _ e rfl]
    refine⟨_,?_,rfl⟩;intro e' he;simp only[kn.2]at he;simpa using cF _ _ _ _ (by simpa using he)
  | @enter f x y hff kx=>
    refine⟨aq9 c.P f x .normal,aq9 c.P f y .normal,fr::l,cV::l',⟨.enter aic hff kx .normal (.inl rfl),.cons hf hl,hb⟩,fun w u' es e=>?_,fun w w' es e=>?_⟩
    ·rw[ZD w _ e rfl];exact⟨_,rfl⟩
    ·rw[ap2 w _ e rfl]
     refine⟨_,?_,rfl⟩;intro e' he;simp only[kn.2]at he;simpa using cF _ _ _ _ (by simpa using he)
  | @round la lb f x y ca cb hlo hff kx ha Ex=>
    refine⟨arX la f x ca cb .normal,arX lb f y ca cb .normal,fr::l,cV::l',⟨.Dh hlo hff kx ha Ex .normal (.inl rfl),.cons hf hl,hb⟩,fun w u' es e=>?_,fun w w' es e=>?_⟩
    ·rw[ZD w _ e rfl];exact⟨_,rfl⟩
    ·rw[ap2 w _ e rfl]
     refine⟨_,?_,rfl⟩;intro e' he;simp only[kn.2]at he;simpa using cF _ _ _ _ (by simpa using he)
  | @defer d d' kd=>
    have hd:FR c q {fr with defers:=d::fr.defers} {cV with defers:=d'::cV.defers}:=⟨hf.fn,hf.ok,hf.tmps,hf.todo,.cons kd hf.defers,hf.mode,hf.kind,hf.Jz,hf.round⟩;refine⟨({fr with defers:=d::fr.defers}:ary).finish agp,({cV with defers:=d'::cV.defers}:ary).finish agp,l,l',⟨hd.finish .undef,hl,?_⟩,fun w u' es e=>?_,fun w w' es e=>?_⟩
    ·refine nE.same (f:=fr) ?_ hb
     unfold arZ;split<;>exact⟨rfl,rfl⟩
    ·rw[ZD w _ e rfl];exact⟨_,rfl⟩
    ·rw[ap2 w _ e rfl]
     refine⟨_,?_,rfl⟩;intro e' he;simp only[kn.2]at he;simpa using cF _ _ _ _ (by simpa using he)
  |recover=>
   rcases uY (cs:=cs) hf hl hb h0 with⟨x1,x2⟩|⟨v,v',n,n',x1,x2,kv,kn',bn⟩
   ·refine⟨fr.finish .nilIface,cV.finish .nilIface,l,l',⟨hf.finish .nilIface,hl,fin .nilIface⟩,fun w u' es e=>?_,fun w w' es e=>?_⟩
    ·rw[ZD w _ e rfl];unfold ap;simp only[x1];exact⟨_,rfl⟩
    ·rw[ap2 w _ e rfl]
     unfold ap;simp only[x2];refine⟨_,?_,rfl⟩;intro e' he;simp only[kn.2]at he;simpa using cF _ _ _ _ (by simpa using he)
   ·refine⟨fr.finish v,cV.finish v',n,n',⟨hf.finish kv,kn',bn _⟩,fun w u' es e=>?_,fun w w' es e=>?_⟩
    ·rw[ZD w _ e rfl];unfold ap;simp only[x1];exact⟨_,rfl⟩
    ·rw[ap2 w _ e rfl]
     unfold ap;simp only[x2];refine⟨_,?_,rfl⟩;intro e' he;simp only[kn.2]at he;simpa using cF _ _ _ _ (by simpa using he)
 ·intro q v v' le k
  have hf:=hf.mono le;have hl:iC (FR c q) l l':=hl.mono fun _ _ z=>z.mono le
  refine .inr ⟨fr.raise [{v,recovered:=false}],cV.raise [{v:=v',recovered:=false}],l,l',⟨hf.raise (.cons ⟨k,rfl,rfl⟩ .nil),hl,?_⟩,fun w u' es e=>?_,fun w w' es e=>?_⟩
  ·refine nE.same ?_ hb
   unfold asa;split<;>exact⟨rfl,rfl⟩
  ·rw[ZD w _ e trivial];exact⟨_,rfl⟩
  ·rw[ap2 w _ e trivial]
   refine⟨_,?_,rfl⟩;intro e' he;simp only[kn.2]at he;simpa using cF _ _ _ _ (by simpa using he)
end
structure iQ.rE(c:iQ):Prop where
 calls:∀f,c.fs f=true->tG c.P c.F c.C c.Ok f
 acX:∀n,c.ms n=true->Ii c.P c.F n
 code:∀f b,c.fs f=true->(c.P.funcs[f]?).bind (·.body)=some b->c.eB true b=true
 XB:c.P.follows .rangeFuncRecover=true
 ahead:c.P.follows .staticDataAhead=true
section
variable{c:iQ}{E:Nat->Prop}{c0:ary}{cs:List ary}{G G':aah->ar_}{r:Ren}{u w:aah}{fr cV:ary}{l l':List ary}
theorem gx(hw:WR c.P c.F c.C E r u w){m:List ary}(h:To c r f f' m m')(e1:∀w,G w=.go (go f (m++[c0])) w #[])(e2:∀w,G' w=.go (go f' (m'++cs)) w #[]):fL c E c0 cs G G' r u w:=.gx hw h e1 e2
theorem FR.Mo{r:Ren}(h:FR c r f f'){k k':List Item}(hk:iC (FP c f.roundOf.isNone r) k k'):FR c r {f with todo:=k} {f' with todo:=k'}:=
 ⟨h.fn,h.ok,h.tmps,hk,h.defers,h.mode,h.kind,h.Jz,h.round⟩
theorem Nz(id:Nat):∀{k k':List Item},iC (FP c aR r) k k'->(asJ id k=none/\asJ id k'=none)\/∃x y,asJ id k=some x/\asJ id k'=some y/\iC (FP c aR r) x y:=by
 intro k
 induction k with
 |nil=>intro k' h;cases h;exact .inl ⟨rfl,rfl⟩
 |cons a k ih=>
  intro k' h;cases h with
  |cons e h=>
   cases e with
   |inBlock i=>
    unfold asJ;by_cases q:(i == id)=true;(·rw[if_pos q,if_pos q];exact .inr ⟨_,_,rfl,rfl,h⟩);(·rw[if_neg q,if_neg q];exact ih h)
   |_=>
    have:=ih h;exact this
theorem Iw(n:Nat):∀{k x:Code},c.eB aR k=true->asv k n=some x->c.eB aR x=true:=by
 intro k
 induction k with
 |seq a b ia ib=>
  intro x h e;simp only[iQ.eB,aaB]at h;unfold asv at e;split at e
  ·rename_i y hy
   cases e;simp only[iQ.eB,aaB];exact⟨ia h.1 hy,h.2⟩
  ·exact ib h.2 e
 |label i=>
  intro x h e;unfold asv at e;split at e
  ·cases e;rfl
  ·cases e
 |_=>intro x h e;cases e
theorem NI(n:Nat):∀{k k':List Item},iC (FP c aR r) k k'->(asK n k=none/\asK n k'=none)\/∃x y,asK n k=some x/\asK n k'=some y/\iC (FP c aR r) x y:=by
 intro k
 induction k with
 |nil=>intro k' h;cases h;exact .inl ⟨rfl,rfl⟩
 |cons a k ih=>
  intro k' h;cases h with
  |cons e h=>
   cases e with
   |inScope b hb=>
    unfold asK;cases q:asv b n with
    |none=>exact ih h
    |some x=>exact .inr ⟨_,_,rfl,rfl,.cons (.code x (Iw n hb q)) (.cons (.inScope b hb) h)⟩
   |_=>
    have:=ih h;exact this
theorem rJ{g':ary}{m:List ary}{v':aai}(hk:f.kind=f'.kind)(Jz:f.kind=.normal\/f.kind=.deferred)(hg:FR c r g g')(hm:iC (FR c r) m m')(hb:nE g m)(kv:VR c.F r v v'):
  ∃x x',To c r x x' m m'/\(∀p main cs w,arA p main f (g::(m++cs)) none v w=.go (go x (m++cs)) w #[])/\(∀p main cs w,arA p main f' (g'::(m'++cs)) none v' w=.go (go x' (m'++cs)) w #[]):=by
 have fin:nE (g.finish v) m:=by
  refine nE.same ?_ hb;unfold arZ;split<;>exact⟨rfl,rfl⟩
 rcases Jz with e|e
 ·refine⟨g.finish v,g'.finish v',⟨hg.finish kv,hm,fin⟩,fun p main cs w=>?_,fun p main cs w=>?_⟩
  ·unfold arA;rw[e];rfl
  ·unfold arA;rw[<-hk,e];rfl
 ·have Y1:=hg.mode
  revert Y1
  generalize hma:g.mode=ma;generalize hmb:g'.mode=mb;intro Y1;have same:To c r g g' m m':=⟨hg,hm,hb⟩;cases Y1 with
  |run=>exact⟨g,g',same,fun p main cs w=>by unfold arA;simp only[e,hma];rfl,fun p main cs w=>by unfold arA;simp only[<-hk,e,hmb];rfl⟩
  |returning=>exact⟨g,g',same,fun p main cs w=>by unfold arA;simp only[e,hma];rfl,fun p main cs w=>by unfold arA;simp only[<-hk,e,hmb];rfl⟩
  |panicking ch=>
   cases ch with
   |nil=>exact⟨g,g',same,fun p main cs w=>by unfold arA;simp only[e,hma];rfl,fun p main cs w=>by unfold arA;simp only[<-hk,e,hmb];rfl⟩
   | @cons a b ps ps' pa pps=>
     obtain⟨v1,rec,ge⟩:=a;obtain⟨v2,aoJ,ge'⟩:=b;obtain⟨h1,h2,h3⟩:=pa;simp only at h1 h2 h3;subst h2;subst h3;cases rec with
     |false=>exact⟨g,g',same,fun p main cs w=>by unfold arA;simp only[e,hma];rfl,fun p main cs w=>by unfold arA;simp only[<-hk,e,hmb];rfl⟩
     |true=>
      have dw:iC (PeR c.F r) (ps.dropWhile (!·.goexit)) (ps'.dropWhile (!·.goexit)):=by
       clear hma hmb
       induction pps with
       |nil=>exact .nil
       | @cons a b l m e _ ih=>
         rw[ast,ast,<-e.goexit];split;(·exact ih);(·exact .cons e ‹_›)
      revert dw
      generalize hd1:ps.dropWhile (!·.goexit)=d1;generalize hd2:ps'.dropWhile (!·.goexit)=d2;intro dw;cases dw with
      |nil=>
       (refine⟨{g with mode:=.returning},{g' with mode:=.returning},⟨hg.ya .returning,hm,nE.same (f:=g) (g:={g with mode:=.returning}) ⟨rfl,rfl⟩ hb⟩,fun p main cs w=>?_,fun p main cs w=>?_⟩);(·unfold arA;simp only[e,hma,hd1];rfl);(·unfold arA;simp only[<-hk,e,hmb,hd2];rfl)
      | @cons a b x y pe pl=>
        (refine⟨{g with mode:=.panicking (a::x)},{g' with mode:=.panicking (b::y)},⟨hg.ya (.panicking (.cons pe pl)),hm,nE.same (f:=g) (g:={g with mode:=.panicking (a::x)}) ⟨rfl,rfl⟩ hb⟩,fun p main cs w=>?_,fun p main cs w=>?_⟩);(·unfold arA;simp only[e,hma,hd1];rfl);(·unfold arA;simp only[<-hk,e,hmb,hd2];rfl)
end
section
variable{c:iQ}{E:Nat->Prop}{c0:ary}{cs:List ary}{main:Bool}{r:Ren}{u w:aah}{fr cV:ary}{l l':List ary}
theorem z_{main:Bool}{fr:ary}{cs:List ary}{w:aah}(h:fr.mode=.run):ant p main (go fr cs) w=arz p main true fr cs none w:=by
 unfold ant go;simp only[h]
theorem nP{main:Bool}{fr:ary}{cs:List ary}{w:aah}(h:fr.mode≠.run):ant p main (go fr cs) w=arB p main fr cs none w:=by
 unfold ant go;cases hm:fr.mode with
 |run=>exact absurd hm h
 |returning=>simp only[hm]
 |panicking x=>simp only[hm]
theorem MB(ops:Array Oper)(h:bW c.F r x y):adf ops x=adf ops y:=by
 funext j
 unfold adf;cases (ops[j]?).bind (·.dst)with
 |none=>rfl
 |some d=>
  simp only[Option.bind_some];rcases h.get? d with⟨e,e'⟩|⟨v,w,e,e',k⟩
  ·rw[e,e']
  ·rw[e,e'];cases k<;>rfl
theorem nE.todo{l:List ary}(k:List Item)(h:nE f l):nE {f with todo:=k} l:=nE.same (f:=f) (g:={f with todo:=k}) ⟨rfl,rfl⟩ h
theorem nE.mode{l:List ary}(k:ark)(h:nE f l):nE {f with mode:=k} l:=nE.same (f:=f) (g:={f with mode:=k}) ⟨rfl,rfl⟩ h
def wQ:Option Code->Bool
 |none|some .ret=>true
 |_=>false
theorem Vw(hS:c.rE)(hw:WR c.P c.F c.C E r u w)(hr:c.Ok r)(h0:c0.mode=.run)(hf:FR c r fr cV)(hl:iC (FR c r) l l')(hb:nE fr l)(hm:fr.mode=.run):
  fL c E c0 cs (ant c.P true (go fr (l++[c0]))) (ant c.P main (go cV (l'++cs))) r u w:=by
 have Bq:cV.mode=.run:=by
  have:=hf.mode;rw[hm]at this;cases hq:cV.mode with
  |run=>rfl
  |_=>rw[hq]at this;cases this
 have s1:∀w,ant c.P true (go fr (l++[c0])) w=arz c.P true true fr (l++[c0]) none w:=fun w=>z_ hm
 have s2:∀w,ant c.P main (go cV (l'++cs)) w=arz c.P main true cV (l'++cs) none w:=fun w=>z_ Bq
 have td:=hf.todo;have ev:=hf.eval hr;have keep:∀{k k':List Item},iC (FP c fr.roundOf.isNone r) k k'->To c r {fr with todo:=k} {cV with todo:=k'} l l':=fun hk=>⟨hf.Mo hk,hl,nE.todo _ hb⟩
 have apply:∀{s s':Sem Next},CR c (NR c) r s s'->(∀w,ant c.P true (go fr (l++[c0])) w=arI c.P true fr (l++[c0]) none s w)->(∀w,ant c.P main (go cV (l'++cs)) w=arI c.P true cV (l'++cs) none s' w)->
  fL c E c0 cs (ant c.P true (go fr (l++[c0]))) (ant c.P main (go cV (l'++cs))) r u w:=fun hs e1 e2=>FV hw hr hS.code hS.XB hS.ahead h0 hf hl hb hs e1 e2
 have Qw:∀(j:Option Code),(∀k,j=some k->c.eB false k=true)->
   (∀w,ant c.P true (go fr (l++[c0])) w=(match fr.roundOf with
    |none=>if wQ j then .go (go {fr with mode:=.returning} (l++[c0])) w else .ended (.stuck "exit, goto: no such block or label" (fr.pos c.P)) w
    |some lp=>
     let (x,es):=(aqQ lp j).runT c.P w #[]
     arO (seen c.P fr.fn es) <| match x with
     | .ok v w=>arA c.P true fr (l++[c0]) none v w
     | .halt _ w=>.ended (.stuck "range over a function: no such loop" (fr.pos c.P)) w))->
   (∀w,ant c.P main (go cV (l'++cs)) w=(match cV.roundOf with
    |none=>if wQ j then .go (go {cV with mode:=.returning} (l'++cs)) w else .ended (.stuck "exit, goto: no such block or label" (cV.pos c.P)) w
    |some lp=>
     let (x,es):=(aqQ lp j).runT c.P w #[]
     arO (seen c.P cV.fn es) <| match x with
     | .ok v w=>arA c.P main cV (l'++cs) none v w
     | .halt _ w=>.ended (.stuck "range over a function: no such loop" (cV.pos c.P)) w))->
   fL c E c0 cs (ant c.P true (go fr (l++[c0]))) (ant c.P main (go cV (l'++cs))) r u w:=by
  intro j hj e1 e2
  have NU:(fr.roundOf=none/\cV.roundOf=none)\/∃la lb,fr.roundOf=some la/\cV.roundOf=some lb/\r la lb:=by
   have:=hf.round
   revert this
   generalize fr.roundOf=o;generalize cV.roundOf=o';intro h;cases h with
   |none=>exact .inl ⟨rfl,rfl⟩
   |some h=>exact .inr ⟨_,_,rfl,rfl,h⟩
  rcases NU with⟨hq,KT⟩|⟨la,lb,hq,KT,Ew⟩
  ·by_cases q:wQ j=true
   ·refine gx hw ⟨hf.ya .returning,hl,nE.mode _ hb⟩ (fun w=>?_) (fun w=>?_)
    ·rw[e1];split
     ·rw[if_pos q]
     ·rename_i h;rw[hq]at h;cases h
    ·rw[e2];split
     ·rw[if_pos q]
     ·rename_i h;rw[KT]at h;cases h
   ·refine .ends fun w=>?_
    rw[e1];split;(·rw[if_neg q];exact⟨_,_,_,rfl⟩)
    ·rename_i h;rw[hq]at h;cases h
  ·have e1:∀w,ant c.P true (go fr (l++[c0])) w=(let (x,es):=(aqQ la j).runT c.P w #[]
     arO (seen c.P fr.fn es) <| match x with
     | .ok v w=>arA c.P true fr (l++[c0]) none v w
     | .halt _ w=>.ended (.stuck "range over a function: no such loop" (fr.pos c.P)) w):=by
    intro w;rw[e1];split
    ·rename_i h;rw[hq]at h;cases h
    ·rename_i h;rw[hq]at h;cases h;rfl
   have e2:∀w,ant c.P main (go cV (l'++cs)) w=(let (x,es):=(aqQ lb j).runT c.P w #[]
     arO (seen c.P cV.fn es) <| match x with
     | .ok v w=>arA c.P main cV (l'++cs) none v w
     | .halt _ w=>.ended (.stuck "range over a function: no such loop" (cV.pos c.P)) w):=by
    intro w;rw[e2];split
    ·rename_i h;rw[KT]at h;cases h
    ·rename_i h;rw[KT]at h;cases h;rfl
   cases hl with
   |nil=>exact absurd hb.2 (by rw[hq];simp)
   | @cons g g' m m' hg hm=>
     refine .of_run (nM (L9 (P:=c.P) (F:=c.F) (C:=c.C) Ew j hj) hw) ?_ ?_ ?_
     ·intro w h u' es e b
      rw[e1,e];exact⟨_,_,_,rfl⟩
     ·intro q a b le k
      obtain⟨x,x',to,k1,k2⟩:=rJ hf.kind hf.Jz (hg.mono le) (hm.mono fun _ _ z=>z.mono le) hb k;refine⟨x,x',m,m',to,fun w u' es e=>?_,fun w w' es e=>?_⟩
      ·rw[e1,e]
       dsimp only;rw[aaK,k1];exact⟨_,rfl⟩
      ·rw[e2,e]
       dsimp only;rw[aaK,k2];refine⟨_,fun e' he=>?_,rfl⟩;simpa using cF _ _ _ _ (by simpa using he)
     ·intro q v v' le k
      (refine .inl fun w u' es e=>?_);rw[e1,e];exact⟨_,_,_,rfl⟩
 revert td
 generalize ht:fr.todo=k;generalize MQ:cV.todo=k';intro td;cases td with
 |nil=>
  refine Qw none (fun k e=>by cases e) (fun w=>?_) (fun w=>?_)
  ·rw[s1];unfold arz;simp only[ht];rfl
  ·rw[s2];unfold arz;simp only[MQ];rfl
 | @cons a b k k' e td=>
   (have x1:∀w,ant c.P true (go fr (l++[c0])) w=arz c.P true true {fr with todo:=a::k} (l++[c0]) none w:=fun w=>by rw[s1,<-ht]);have x2:∀w,ant c.P main (go cV (l'++cs)) w=arz c.P main true {cV with todo:=b::k'} (l'++cs) none w:=fun w=>by rw[s2,<-MQ]
   cases e with
   |inBlock i=>exact gx hw (keep td) (fun w=>by rw[x1];rfl) (fun w=>by rw[x2];rfl)
   |inScope b Ex=>exact gx hw (keep td) (fun w=>by rw[x1];rfl) (fun w=>by rw[x2];rfl)
   |inLoop b Ex=>exact gx hw (keep (.cons (.code b Ex) (.cons (.inLoop b Ex) td))) (fun w=>by rw[x1];rfl) (fun w=>by rw[x2];rfl)
   |xX Ew=>exact .ends fun w=>⟨_,_,_,by rw[x1];rfl⟩
   | @qA la lb Ew=>
     refine .of_run (nM (OO (P:=c.P) (F:=c.F) (C:=c.C) hr.aR Ew) hw) ?_ ?_ ?_
     ·intro w h u' es e b
      rw[s1];unfold arz;simp only[ht,e];rcases b with b|⟨g,rfl,_⟩
      rotate_left
      ·exact⟨_,_,_,rfl⟩
      cases h with
      |stuck m=>exact⟨_,_,_,rfl⟩
      |unsupported m=>exact⟨_,_,_,rfl⟩
      |_=>exact b.elim
     ·intro q a b le hk
      obtain⟨rfl,hk⟩:=hk
      have td':iC (FP c fr.roundOf.isNone q) ((a.map Item.code).toList++k) ((a.map Item.code).toList++k'):=by
       have t2:iC (FP c fr.roundOf.isNone q) k k':=td.mono fun _ _ z=>z.mono le
       cases a with
       |none=>exact t2
       |some j=>exact .cons (.code j (Rn (hk j rfl) _)) t2
      (refine⟨_,_,l,l',⟨(hf.mono le).Mo td',hl.mono fun _ _ z=>z.mono le,nE.todo _ hb⟩,fun w u' es e=>?_,fun w w' es e=>?_⟩);(·rw[s1];unfold arz;simp only[ht,e];exact⟨_,rfl⟩)
      ·rw[s2];unfold arz;simp only[MQ,e]
       refine⟨_,fun e' he=>?_,rfl⟩;simpa using cF _ _ _ _ (by simpa using he)
     ·intro q v v' le kv
      refine .inr ⟨fr.raise [{v,recovered:=false}],cV.raise [{v:=v',recovered:=false}],l,l',⟨(hf.mono le).raise (.cons ⟨kv,rfl,rfl⟩ .nil),hl.mono fun _ _ z=>z.mono le,?_⟩,fun w u' es e=>?_,fun w w' es e=>?_⟩
      ·refine nE.same ?_ hb
       unfold asa;split<;>exact⟨rfl,rfl⟩
      ·rw[s1];unfold arz;simp only[ht,e];exact⟨_,rfl⟩
      ·rw[s2];unfold arz;simp only[MQ,e]
       refine⟨_,fun e' he=>?_,rfl⟩;simpa using cF _ _ _ _ (by simpa using he)
   |beginRound=>
    have hb:CR c (NR c) r (do fr.roundOf.elim (stuck "beginRound: no round") aqK;pure .skip) (do cV.roundOf.elim (stuck "beginRound: no round") aqK;pure .skip):=by
     have:=hf.round
     revert this
     generalize fr.roundOf=o;generalize cV.roundOf=o';intro h;cases h with
     |none=>exact dL _ _ _
     |some h=>exact abN (Ff hr.aR h)
    exact apply hb (fun w=>by rw[s1];unfold arz;simp only[ht]) (fun w=>by rw[s2];unfold arz;simp only[MQ])
   |inRegion ops il ho=>
    cases il with
    |nil=>exact gx hw (keep td) (fun w=>by rw[x1];rfl) (fun w=>by rw[x2];rfl)
    |cons i il=>
     (have hy:=MB (c:=c) ops hf.tmps);by_cases wt:((ops[i]?).map (ab9 · (adf ops fr.tmps))).getD false=true
     ·have wt':((ops[i]?).map (ab9 · (adf ops cV.tmps))).getD false=true:=by rw[<-hy];exact wt
      cases hoi:ops[i]? with
      |none=>rw[hoi]at wt;cases wt
      |some o=>
       have fR:c.AD fr.roundOf.isNone o=true:=by
        rw[Array.all_eq_true_iff_forall_mem]at ho;exact ho o (Array.mem_of_getElem? hoi)
       (have op1:fr.oper?=some o:=by unfold Frame.oper?;rw[ht];exact hoi);(have op2:cV.oper?=some o:=by unfold Frame.oper?;rw[MQ];exact hoi);have yT:=Td hS.calls hS.acX hr ev _ o fR;refine apply yT (fun w=>?_) (fun w=>?_)
       ·rw[s1];unfold arz;simp only[ht];rw[if_pos wt]
        unfold stepG.oper;simp only[op1];split
        ·rename_i h1 h2
         exfalso;rw[h1]at fR;simp[iQ.AD,h2]at fR
        ·rfl
       ·rw[s2];unfold arz;simp only[MQ];rw[if_pos wt']
        unfold stepG.oper;simp only[op2];split
        ·rename_i h1 h2
         exfalso;have NU:=hf.round;rw[h1]at NU;generalize fr.roundOf=o1 at NU fR;cases NU;simp[iQ.AD,h2]at fR
        ·rfl
     ·have wt':¬ ((ops[i]?).map (ab9 · (adf ops cV.tmps))).getD false=true:=by rw[<-hy];exact wt
      refine gx hw ⟨hf.finish .undef,hl,?_⟩ (fun w=>?_) (fun w=>?_)
      ·refine nE.same ?_ hb
       unfold arZ;split<;>exact⟨rfl,rfl⟩
      (·rw[s1];unfold arz;simp only[ht];rw[if_neg wt];rfl);(·rw[s2];unfold arz;simp only[MQ];rw[if_neg wt'];rfl)
   |code q hc=>
    cases q with
    |skip=>exact gx hw (keep td) (fun w=>by rw[x1];rfl) (fun w=>by rw[x2];rfl)
    |label n=>exact gx hw (keep td) (fun w=>by rw[x1];rfl) (fun w=>by rw[x2];rfl)
    |seq a b=>
     simp only[iQ.eB,aaB]at hc;exact gx hw (keep (.cons (.code a hc.1) (.cons (.code b hc.2) td))) (fun w=>by rw[x1];rfl) (fun w=>by rw[x2];rfl)
    |block i b=>exact gx hw (keep (.cons (.code b hc) (.cons (.inBlock i) td))) (fun w=>by rw[x1];rfl) (fun w=>by rw[x2];rfl)
    |loop b=>exact gx hw (keep (.cons (.code b hc) (.cons (.inLoop b hc) td))) (fun w=>by rw[x1];rfl) (fun w=>by rw[x2];rfl)
    |scope b=>exact gx hw (keep (.cons (.code b hc) (.cons (.inScope b hc) td))) (fun w=>by rw[x1];rfl) (fun w=>by rw[x2];rfl)
    |refuse why=>exact .ends fun w=>⟨_,_,_,by rw[x1];rfl⟩
    |ret=>
     (refine Qw (some .ret) (fun k e=>by cases e;rfl) (fun w=>?_) (fun w=>?_));(·rw[s1];unfold arz;simp only[ht];rfl);(·rw[s2];unfold arz;simp only[MQ];rfl)
    |exit i=>
     rcases Nz i td with⟨y1,y2⟩|⟨y,y',y1,y2,ky⟩
     ·refine Qw (some (.exit i)) (fun k e=>by cases e;rfl) (fun w=>?_) (fun w=>?_)
      (·rw[s1];unfold arz;simp only[ht,y1];rfl);(·rw[s2];unfold arz;simp only[MQ,y2];rfl)
     ·refine gx hw (keep ky) (fun w=>?_) (fun w=>?_)
      (·rw[s1];unfold arz;simp only[ht,y1];rfl);(·rw[s2];unfold arz;simp only[MQ,y2];rfl)
    |goto n=>
     rcases NI n td with⟨y1,y2⟩|⟨y,y',y1,y2,ky⟩
     ·refine Qw (some (.goto n)) (fun k e=>by cases e;rfl) (fun w=>?_) (fun w=>?_)
      (·rw[s1];unfold arz;simp only[ht,y1];rfl);(·rw[s2];unfold arz;simp only[MQ,y2];rfl)
     ·refine gx hw (keep ky) (fun w=>?_) (fun w=>?_)
      (·rw[s1];unfold arz;simp only[ht,y1];rfl);(·rw[s2];unfold arz;simp only[MQ,y2];rfl)
    |cond x a b=>
     simp only[iQ.eB,aaB]at hc
     have hx:(∃t,fr.eval x=.bool t/\cV.eval x=.bool t)\/∀t,fr.eval x≠.bool t:=by
      have:=ev x hc.1.1
      revert this
      generalize fr.eval x=v;generalize cV.eval x=v';intro h;cases h with
      |bool t=>exact .inl ⟨t,rfl,rfl⟩
      |_=>exact .inr fun t e=>by cases e
     rcases hx with⟨t,hv,Y6⟩|hx
     ·have ML:c.eB fr.roundOf.isNone (if t then a else b)=true:=by cases t;exact hc.2;exact hc.1.2
      (refine gx hw (keep (.cons (.code _ ML) td)) (fun w=>?_) (fun w=>?_));(·rw[s1];unfold arz;simp only[ht,hv];rfl);(·rw[s2];unfold arz;simp only[MQ,Y6];rfl)
     ·generalize hv:fr.eval x=v at hx
      cases v with
      |bool t=>exact absurd rfl (hx t)
      |_=>exact .ends fun w=>⟨_,_,_,by rw[s1];unfold arz;simp only[ht,hv];rfl⟩
    |region i ops d=>
     cases d with
     |false=>exact gx hw (keep (.cons (.inRegion ops _ hc) td)) (fun w=>by rw[x1];rfl) (fun w=>by rw[x2];rfl)
     |true=>
      refine .of_run (nM (fo (P:=c.P) (F:=c.F) (C:=c.C) (.order fr.fn i)) hw) ?_ ?_ ?_
      ·intro w h u' es e b
       rw[show(Go.choose (.order fr.fn i)).runT c.P w #[]=_ from rfl]at e;cases e
      ·intro q a b le e
       cases e;refine⟨_,_,l,l',⟨(hf.mono le).Mo (.cons (.inRegion ops (Region.schedule (c.P.follows .mixedOrders) ops a) hc) (td.mono fun _ _ z=>z.mono le)),hl.mono fun _ _ z=>z.mono le,nE.todo _ hb⟩,fun w u' es e=>?_,fun w w' es e=>?_⟩
       ·have e':=congrArg Prod.fst e
        rw[apT]at e';rw[s1];unfold arz;simp only[ht,e'];exact⟨_,rfl⟩
       ·have e':=congrArg Prod.fst e
        rw[apT,hf.fn]at e';rw[s2];unfold arz;simp only[MQ,e'];exact⟨_,by simp,rfl⟩
      ·intro q v v' le kv
       (refine .inl fun w u' es e=>?_);rw[show(Go.choose (.order fr.fn i)).runT c.P w #[]=_ from rfl]at e;cases e
    |rangeFunc f ps a b=>
     simp only[iQ.eB,aaB]at hc;obtain⟨⟨⟨⟨Qf,NM⟩,hc3⟩,_⟩,_⟩:=hc
     have NU:(fr.roundOf=none/\cV.roundOf=none)\/∃m n,fr.roundOf=some m/\cV.roundOf=some n/\r m n:=by
      have:=hf.round
      revert this
      generalize fr.roundOf=o;generalize cV.roundOf=o';intro h;cases h with
      |none=>exact .inl ⟨rfl,rfl⟩
      |some h=>exact .inr ⟨_,_,rfl,rfl,h⟩
     have hen:=I4 (P:=c.P) (F:=c.F) (C:=c.C) fr.fn hf.ok hf.tmps ps a b NM hc3 NU;refine .seq hw (nM hen hw) ?_ ?_
     ·intro w h u' es e b
      rw[s1];unfold arz;simp only[ht,e];exact⟨_,_,_,rfl⟩
     ·intro q u1 w1 x y kp wr hxy
      obtain⟨lp,mk⟩:=x;obtain⟨lp',mk'⟩:=y;obtain⟨h1,h2⟩:=hxy;simp only at h1 h2;have le:=kp.le;have jT:=hr.mono le
      have hf1:FR c q {fr with todo:=.inRangeFunc lp::k,defers:=mk++fr.defers} {cV with todo:=.inRangeFunc lp'::k',defers:=mk'++cV.defers}:=
       ⟨hf.fn,hf.ok,hf.tmps.mono le,.cons (.xX h1) (td.mono fun _ _ z=>z.mono le),h2.append (hf.defers.mono fun _ _ z=>z.mono le),hf.mode.mono le,hf.kind,hf.Jz,hf.round.mono le⟩
      have eu:nE {fr with todo:=.inRangeFunc lp::k,defers:=mk++fr.defers} l:=nE.same (f:=fr) (g:={fr with todo:=.inRangeFunc lp::k,defers:=mk++fr.defers}) ⟨rfl,rfl⟩ hb
      have rs:∀(g g':ary) (n:Nat),g.tmps=g'.tmps->resolve g.eval {callee:=.value f,args:=#[.const (.func (.yield n) #[] #[])],argTypes:=#[]} 0=arc (g'.eval f) #[.func (.yield n) #[] #[]]:=by
       (intro g g' n h;have h1:g.eval f=g'.eval f:=by cases f<;>simp only[Frame.eval,h]);unfold resolve;simp only[h1,List.map_toArray,List.map_cons,List.map_nil];rfl
      have hfv:=(hf.mono le).eval jT f Qf;have amT:bW c.F q #[.func (.yield lp) #[] #[]] #[.func (.yield lp') #[] #[]]:=.one (.yield h1 rfl (fun i h=>absurd h (ah' i)) rfl (fun i h=>absurd h (ah' i)))
      have hs:CR c (NR c) q (do let d<-arc (fr.eval f) #[.func (.yield lp) #[] #[]];invoke d.target d.args) (do let d<-arc (cV.eval f) #[.func (.yield lp') #[] #[]];invoke d.target d.args):=
       (wW hfv amT).then fun q2 d d' l2 kd=>zV hS.calls (jT.mono l2) kd.target kd.args
      refine⟨fun w=>arI c.P true {fr with todo:=.inRangeFunc lp::k,defers:=mk++fr.defers} (l++[c0]) none (do let d<-arc (fr.eval f) #[.func (.yield lp) #[] #[]];invoke d.target d.args) w,
       fun w=>arI c.P true {cV with todo:=.inRangeFunc lp'::k',defers:=mk'++cV.defers} (l'++cs) none (do let d<-arc (cV.eval f) #[.func (.yield lp') #[] #[]];invoke d.target d.args) w,
       FV wr jT hS.code hS.XB hS.ahead h0 hf1 (hl.mono fun _ _ z=>z.mono le) eu hs (fun _=>rfl) (fun _=>rfl),fun w u' es e=>?_,fun w w' es e=>?_⟩
      ·rw[s1];unfold arz;simp only[ht,e];rw[rs {fr with todo:=.inRangeFunc lp::k,defers:=mk++fr.defers} fr lp rfl];exact⟨_,rfl⟩
      ·rw[hf.fn]at e
       rw[s2];unfold arz;simp only[MQ,e];rw[rs {cV with todo:=.inRangeFunc lp'::k',defers:=mk'++cV.defers} cV lp' rfl];exact⟨_,fun e' he=>cF _ _ _ _ he,rfl⟩
end
section
variable{c:iQ}{E:Nat->Prop}{c0:ary}{cs:List ary}{main:Bool}{r:Ren}{u w:aah}{fr cV:ary}{l l':List ary}
theorem Fw:∀(rs:List ResultVar) {r:Ren},r.aR=c.P.globals.size->bW c.F r x y->
  CR c (fun s a b=>iC (VR c.F s) a b) r (rs.mapM fun| .tmp t=>(Pure.pure (x.getD t agp):Sem aai)| .cell a t=>do loadVar t (<-asAddr (x.getD a agp))) (rs.mapM fun| .tmp t=>(Pure.pure (y.getD t agp):Sem aai)| .cell a t=>do loadVar t (<-asAddr (y.getD a agp))):=by
 intro rs
 induction rs with
 |nil=>intro r hl h;rw[ass,ass];exact .pure' .nil
 |cons a rs ih=>
  intro r hl h;rw[ash,ash]
  have one:CR c (dB c.F) r (match a with| .tmp t=>(Pure.pure (x.getD t agp):Sem aai)| .cell a t=>do loadVar t (<-asAddr (x.getD a agp))) (match a with| .tmp t=>(Pure.pure (y.getD t agp):Sem aai)| .cell a t=>do loadVar t (<-asAddr (y.getD a agp))):=by
   cases a with
   |tmp t=>exact .pure' (h.getD t .undef)
   |cell a t=>exact(qV (h.getD a .undef) hl).gr fun q a b l k=>iM t k
  exact one.dr fun q v w l k=>(ih (l.aR hl) (h.mono l)).then fun q2 vs ws l2 k2=>.pure' (.cons (k.mono l2) k2)
theorem DJ(hr:c.Ok r)(fn:Func)(h:bW c.F r x y):CR c (dB c.F) r (al6 fn x) (al6 fn y):=by
 unfold al6;generalize fn.results=rs;obtain⟨rs⟩:=rs;rw[ar4,ar4];have hl:=Fw rs hr.aR h;refine(hl.then (B:=fun s a b=>bW c.F s a b) (f:=fun a=>pure a.toArray) (f':=fun a=>pure a.toArray) fun q a b l k=>.pure' (bW.abe k)).og fun q a b l k=>?_
 refine .pure' ?_
 by_cases e:a.size=1
 ·have e':b.size=1:=k.1▸e
  rw[dif_pos e,dif_pos e'];exact k.2 0 oM oM
 ·have e':¬ b.size=1:=k.1▸e
  rw[dif_neg e,dif_neg e'];exact .tuple' k
def cd(p:ag0)(fr:ary)(cs:List ary)(x:Result Next×Array anu):ar_:=
 arO (seen p fr.fn (match x.1 with| .halt .blocked _| .halt .waiting _=>#[]|_=>x.2)) (match x.1 with
  | .ok (.enter f args) w=>.go (go (aq9 p f args .deferred) (fr::cs)) w
  | .ok (.round l f tmps a b) w=>.go (go (arX l f tmps a b .deferred) (fr::cs)) w
  | .ok .recover w=>(match fr.mode,tryRecover fr cs with
    | .returning,some (_,cs)=>.go (go fr cs) w
    |_,_=>.go (go fr cs) w)
  | .ok (.value _) w| .ok .skip w| .ok (.defer _) w=>.go (go fr cs) w
  | .halt (.panic v) w=>.go (go (fr.raise [{v,recovered:=false}]) cs) w
  | .halt (.unsupported u) w=>.ended (.unsupported u (fr.pos p)) w
  | .halt (.stuck s) w=>.ended (.stuck s (fr.pos p)) w
  | .ok _ w| .halt _ w=>.ended (.exit 0) w)
def BU(d:Deferred)(fr:ary):Prop:=d.target=.nil/\∃ch,fr.mode=.panicking ch
theorem zc{fr:ary}{cs:List ary}{d:Deferred}{w:aah}(h:BU d fr):∃o u es,arP p fr cs none d w=.ended o u es:=by
 obtain⟨t,xs⟩:=d;obtain⟨fn,tmps,todo,defers,mode,kind,round⟩:=fr;obtain⟨h1,ch,h2⟩:=h;simp only at h1 h2;subst h1;subst h2;exact⟨_,_,_,rfl⟩
theorem sK{fr:ary}{cs:List ary}{d:Deferred}{w:aah}(h:¬ BU d fr)(hs:match (invoke d.target d.args).runT p w #[] |>.1 with| .ok n _=>pJ n=true| .halt (.panic _) _| .halt (.stuck _) _=>True| .halt (.unsupported (.initOrder _)) _=>False| .halt (.unsupported _) _=>True|_=>False):
  arP p fr cs none d w=cd p fr cs ((invoke d.target d.args).runT p w #[]):=by
 obtain⟨t,xs⟩:=d;obtain⟨fn,tmps,todo,defers,mode,kind,round⟩:=fr;unfold arP cd;generalize (invoke t xs).runT p w #[]=x at hs ⊢;obtain⟨x,es⟩:=x;have fin:∀m:ark,(match (x,es).1 with| .ok n _=>pJ n=true| .halt (.panic _) _| .halt (.stuck _) _=>True| .halt (.unsupported (.initOrder _)) _=>False| .halt (.unsupported _) _=>True|_=>False)->True:=fun _ _=>trivial
 cases t with
 |nil=>
  cases mode with
  |panicking ch=>exact absurd ⟨rfl,ch,rfl⟩ h
  |run=>
   cases x with
   |ok n w=>cases n<;>first|rfl|cases hs
   |halt q w=>cases q with
    |unsupported u=>cases u<;>first|rfl|cases hs
    |_=>first|rfl|cases hs
  |returning=>
   cases x with
   |ok n w=>cases n<;>first|rfl|cases hs
   |halt q w=>cases q with
    |unsupported u=>cases u<;>first|rfl|cases hs
    |_=>first|rfl|cases hs
 |_=>
  cases x with
  |ok n w=>cases n<;>first|rfl|cases hs
  |halt q w=>cases q with
   |unsupported u=>cases u<;>first|rfl|cases hs
   |_=>first|rfl|cases hs
theorem wE{fr:ary}{cs:List ary}{d:Deferred}{w:aah}{g:Nat}(_:¬ BU d fr)(e:(invoke d.target d.args).runT p w #[]=(.halt (.unsupported (.initOrder g)) u',es)):
  ∃o Q1 es',arP p fr cs none d w=.ended o Q1 es':=by
 unfold arP;simp only[e];generalize ((d.target matches .nil)&&(fr.mode matches .panicking _))=x;cases x
 ·exact⟨_,_,_,rfl⟩
 ·exact⟨_,_,_,rfl⟩
theorem rI(hS:c.rE)(hw:WR c.P c.F c.C E r u w)(hr:c.Ok r)(h0:c0.mode=.run)(hf:FR c r fr cV)(hl:iC (FR c r) l l')(hb:nE fr l){d d':Deferred}(hd:DR c.F r d d'){G G':aah->ar_}(e1:∀w,G w=arP c.P fr (l++[c0]) none d w)(e2:∀w,G' w=arP c.P cV (l'++cs) none d' w):fL c E c0 cs G G' r u w:=by
 by_cases q:BU d fr
 ·exact .ends fun w=>by rw[e1];exact zc q
 have q':¬ BU d' cV:=by
  rintro⟨h1,ch,h2⟩;apply q;constructor
  ·have:=hd.target
   rw[h1]at this;generalize d.target=t at this ⊢;cases this;rfl
  ·have:=hf.mode
   rw[h2]at this;generalize fr.mode=t at this ⊢;cases this;exact⟨_,rfl⟩
 have a1:∀w x,(invoke d.target d.args).runT c.P w #[]=x->(match x.1 with| .ok n _=>pJ n=true| .halt (.panic _) _| .halt (.stuck _) _=>True| .halt (.unsupported (.initOrder _)) _=>False| .halt (.unsupported _) _=>True|_=>False)->G w=cd c.P fr (l++[c0]) x:=by
  intro w x e h;rw[e1,sK q (by rw[e];exact h),e]
 have a2:∀w x,(invoke d'.target d'.args).runT c.P w #[]=x->(match x.1 with| .ok n _=>pJ n=true| .halt (.panic _) _| .halt (.stuck _) _=>True| .halt (.unsupported (.initOrder _)) _=>False| .halt (.unsupported _) _=>True|_=>False)->G' w=cd c.P cV (l'++cs) x:=by
  intro w x e h;rw[e2,sK q' (by rw[e];exact h),e]
 refine .of_run (nM (zV hS.calls hr hd.target hd.args) hw) ?_ ?_ ?_
 ·intro w h u' es e b
  rcases b with b|⟨g,rfl,hg⟩
  rotate_left
  ·rw[e1];exact wE q e
  rw[a1 w _ e (ry.ahQ b)];cases h with
  |stuck m=>exact⟨_,_,_,rfl⟩
  |unsupported m=>exact⟨_,_,_,rfl⟩
  |_=>exact b.elim
 ·intro q1 a b le k
  have hf:=hf.mono le;have hl:iC (FR c q1) l l':=hl.mono fun _ _ z=>z.mono le
  have stay:To c q1 fr cV l l':=⟨hf,hl,hb⟩;cases k with
  |value k=>
   refine⟨fr,cV,l,l',stay,fun w u' es e=>?_,fun w w' es e=>?_⟩
   ·rw[a1 w _ e rfl];exact⟨_,rfl⟩
   ·rw[a2 w _ e rfl];exact⟨_,fun e' he=>by simpa using cF _ _ _ _ (by simpa using he),rfl⟩
  |skip=>
   refine⟨fr,cV,l,l',stay,fun w u' es e=>?_,fun w w' es e=>?_⟩
   ·rw[a1 w _ e rfl];exact⟨_,rfl⟩
   ·rw[a2 w _ e rfl];exact⟨_,fun e' he=>by simpa using cF _ _ _ _ (by simpa using he),rfl⟩
  |defer k=>
   refine⟨fr,cV,l,l',stay,fun w u' es e=>?_,fun w w' es e=>?_⟩
   ·rw[a1 w _ e rfl];exact⟨_,rfl⟩
   ·rw[a2 w _ e rfl];exact⟨_,fun e' he=>by simpa using cF _ _ _ _ (by simpa using he),rfl⟩
  | @enter f x y hff kx=>
    (refine⟨aq9 c.P f x .deferred,aq9 c.P f y .deferred,fr::l,cV::l',⟨.enter hS.code hff kx .deferred (.inr rfl),.cons hf hl,hb⟩,fun w u' es e=>?_,fun w w' es e=>?_⟩);(·rw[a1 w _ e rfl];exact⟨_,rfl⟩);(·rw[a2 w _ e rfl];exact⟨_,fun e' he=>by simpa using cF _ _ _ _ (by simpa using he),rfl⟩)
  | @round la lb f x y ca cb hlo hff kx ha Ex=>
    (refine⟨arX la f x ca cb .deferred,arX lb f y ca cb .deferred,fr::l,cV::l',⟨.Dh hlo hff kx ha Ex .deferred (.inr rfl),.cons hf hl,hb⟩,fun w u' es e=>?_,fun w w' es e=>?_⟩);(·rw[a1 w _ e rfl];exact⟨_,rfl⟩);(·rw[a2 w _ e rfl];exact⟨_,fun e' he=>by simpa using cF _ _ _ _ (by simpa using he),rfl⟩)
  |recover=>
   have md:=hf.mode
   revert md
   generalize hq:fr.mode=x;generalize KT:cV.mode=x';intro md;cases md with
   |run=>
    (refine⟨fr,cV,l,l',stay,fun w u' es e=>?_,fun w w' es e=>?_⟩);(·rw[a1 w _ e rfl];unfold cd;simp only[hq];exact⟨_,rfl⟩);(·rw[a2 w _ e rfl];unfold cd;simp only[KT];exact⟨_,fun e' he=>by simpa using cF _ _ _ _ (by simpa using he),rfl⟩)
   |panicking pl=>
    (refine⟨fr,cV,l,l',stay,fun w u' es e=>?_,fun w w' es e=>?_⟩);(·rw[a1 w _ e rfl];unfold cd;simp only[hq];exact⟨_,rfl⟩);(·rw[a2 w _ e rfl];unfold cd;simp only[KT];exact⟨_,fun e' he=>by simpa using cF _ _ _ _ (by simpa using he),rfl⟩)
   |returning=>
    rcases uY (cs:=cs) hf hl hb h0 with⟨x1,x2⟩|⟨v,v',n,n',x1,x2,kv,kn',bn⟩
    ·refine⟨fr,cV,l,l',stay,fun w u' es e=>?_,fun w w' es e=>?_⟩
     (·rw[a1 w _ e rfl];unfold cd;simp only[hq,x1];exact⟨_,rfl⟩);(·rw[a2 w _ e rfl];unfold cd;simp only[KT,x2];exact⟨_,fun e' he=>by simpa using cF _ _ _ _ (by simpa using he),rfl⟩)
    ·refine⟨fr,cV,n,n',⟨hf,kn',bn _⟩,fun w u' es e=>?_,fun w w' es e=>?_⟩
     (·rw[a1 w _ e rfl];unfold cd;simp only[hq,x1];exact⟨_,rfl⟩);(·rw[a2 w _ e rfl];unfold cd;simp only[KT,x2];exact⟨_,fun e' he=>by simpa using cF _ _ _ _ (by simpa using he),rfl⟩)
 ·intro q1 v v' le k
  have hf:=hf.mono le;have hl:iC (FR c q1) l l':=hl.mono fun _ _ z=>z.mono le
  refine .inr ⟨fr.raise [{v,recovered:=false}],cV.raise [{v:=v',recovered:=false}],l,l',⟨hf.raise (.cons ⟨k,rfl,rfl⟩ .nil),hl,?_⟩,fun w u' es e=>?_,fun w w' es e=>?_⟩
  ·refine nE.same ?_ hb
   unfold asa;split<;>exact⟨rfl,rfl⟩
  ·rw[a1 w _ e trivial];exact⟨_,rfl⟩
  ·rw[a2 w _ e trivial];exact⟨_,fun e' he=>by simpa using cF _ _ _ _ (by simpa using he),rfl⟩
theorem Pk(hS:c.rE)(hw:WR c.P c.F c.C E r u w)(hr:c.Ok r)(h0:c0.mode=.run)(hf:FR c r fr cV)(hl:iC (FR c r) l l')(hb:nE fr l)(hm:fr.mode≠.run)(hn:fr.defers≠ []\/l≠ []):
  fL c E c0 cs (ant c.P true (go fr (l++[c0]))) (ant c.P main (go cV (l'++cs))) r u w:=by
 have Bq:cV.mode≠.run:=by
  intro q;have:=hf.mode;rw[q]at this;cases hq:fr.mode with
  |run=>exact hm hq
  |_=>rw[hq]at this;cases this
 have s1:∀w,ant c.P true (go fr (l++[c0])) w=arB c.P true fr (l++[c0]) none w:=fun w=>nP hm
 have s2:∀w,ant c.P main (go cV (l'++cs)) w=arB c.P main cV (l'++cs) none w:=fun w=>nP Bq
 have dd:=hf.defers
 revert dd
 generalize hd:fr.defers=ds;generalize VS:cV.defers=ds';intro dd;cases dd with
 | @cons d d' ds ds' e dd=>
   have hf2:FR c r {fr with defers:=ds} {cV with defers:=ds'}:=⟨hf.fn,hf.ok,hf.tmps,hf.todo,dd,hf.mode,hf.kind,hf.Jz,hf.round⟩;have ju:nE {fr with defers:=ds} l:=nE.same (f:=fr) (g:={fr with defers:=ds}) ⟨rfl,rfl⟩ hb;obtain⟨t,xs⟩:=d;obtain⟨t',xs'⟩:=d';obtain⟨et,ex⟩:=e;simp only at et ex;cases et with
   | @collected a b Ew=>
     refine .of_run (nM (Bc (P:=c.P) (F:=c.F) (C:=c.C) Ew) hw) ?_ ?_ ?_
     ·intro w h u' es e b
      rw[s1];unfold arB;simp only[hd,e];exact⟨_,_,_,rfl⟩
     ·intro q1 x y le k
      (have hf3:FR c q1 {fr with defers:=x++ds} {cV with defers:=y++ds'}:=⟨hf.fn,hf.ok,hf.tmps.mono le,hf.todo.mono fun _ _ z=>z.mono le,k.append (dd.mono fun _ _ z=>z.mono le),hf.mode.mono le,hf.kind,hf.Jz,hf.round.mono le⟩;refine⟨_,_,l,l',⟨hf3,hl.mono fun _ _ z=>z.mono le,nE.same (f:=fr) (g:={fr with defers:=x++ds}) ⟨rfl,rfl⟩ hb⟩,fun w u' es e=>?_,fun w w' es e=>?_⟩);(·rw[s1];unfold arB;simp only[hd,e];exact⟨_,rfl⟩)
      ·rw[s2];unfold arB;simp only[VS,e]
       exact⟨_,fun e' he=>by simpa using cF _ _ _ _ (by simpa using he),rfl⟩
     ·intro q1 v v' le k
      (refine .inl fun w u' es e=>?_);rw[s1];unfold arB;simp only[hd,e];exact⟨_,_,_,rfl⟩
   |func IC hc=>
    exact rI hS hw hr h0 hf2 hl ju (d:=⟨_,xs⟩) (d':=⟨_,xs'⟩) ⟨.func IC hc,ex⟩ (fun w=>by rw[s1];unfold arB;simp only[hd]) (fun w=>by rw[s2];unfold arB;simp only[VS])
   |yield MO hc=>
    exact rI hS hw hr h0 hf2 hl ju (d:=⟨_,xs⟩) (d':=⟨_,xs'⟩) ⟨.yield MO hc,ex⟩ (fun w=>by rw[s1];unfold arB;simp only[hd]) (fun w=>by rw[s2];unfold arB;simp only[VS])
   |nil=>
    exact rI hS hw hr h0 hf2 hl ju (d:=⟨_,xs⟩) (d':=⟨_,xs'⟩) ⟨.nil,ex⟩ (fun w=>by rw[s1];unfold arB;simp only[hd]) (fun w=>by rw[s2];unfold arB;simp only[VS])
 |nil=>
  cases hl with
  |nil=>rcases hn with h|h<;>exact absurd (by first|exact hd|rfl) h
  | @cons g g' m m' hg hl=>
    have md:=hf.mode
    revert md
    generalize hq:fr.mode=x;generalize KT:cV.mode=x';intro md
    have cat:fr.catches c.P=false/\cV.catches c.P=false:=by
     have td:=hf.todo
     revert td
     unfold asQ;generalize fr.todo=y;generalize cV.todo=y';intro td;cases td with
     |nil=>cases c.P.funcs[fr.fn]?<;>cases c.P.funcs[cV.fn]?<;>exact⟨rfl,rfl⟩
     |cons e _=>cases e<;>cases c.P.funcs[fr.fn]?<;>cases c.P.funcs[cV.fn]?<;>exact⟨rfl,rfl⟩
    cases md with
    |run=>exact absurd hq hm
    | @panicking pl pl' kp=>
      refine gx hw ⟨hg.raise kp,hl,?_⟩ (fun w=>?_) (fun w=>?_)
      ·refine nE.same ?_ hb
       unfold asa;split<;>exact⟨rfl,rfl⟩
      (·rw[s1];unfold arB;simp only[hd,hq,cat.1,akg,if_false,aaK];rfl);(·rw[s2];unfold arB;simp only[VS,KT,cat.2,akg,if_false,aaK];rfl)
    |returning=>
     cases E1:c.P.funcs[fr.fn]? with
     |none=>
      (have NO:c.P.funcs[cV.fn]?=none:=by rw[<-hf.fn];exact E1);(obtain⟨x,x',to,k1,k2⟩:=rJ hf.kind hf.Jz hg hl hb (hf.tmps.getD 0 .undef);refine gx hw to (fun w=>?_) (fun w=>?_));(·rw[s1];unfold arB;simp only[hd,hq,E1,aaK];exact k1 _ _ _ _);(·rw[s2];unfold arB;simp only[VS,KT,NO,aaK];exact k2 _ _ _ _)
     |some fn=>
      (have NO:c.P.funcs[cV.fn]?=some fn:=by rw[<-hf.fn];exact E1);refine .of_run (nM (DJ hr fn hf.tmps) hw) ?_ ?_ ?_
      ·intro w h u' es e b
       rw[s1];unfold arB;simp only[hd,hq,E1,e];rcases b with b|⟨g,rfl,_⟩
       rotate_left
       ·exact⟨_,_,_,rfl⟩
       cases h with
       |stuck m=>exact⟨_,_,_,rfl⟩
       |unsupported m=>exact⟨_,_,_,rfl⟩
       |_=>exact b.elim
      ·intro q1 v v' le k
       (obtain⟨x,x',to,k1,k2⟩:=rJ hf.kind hf.Jz (hg.mono le) (hl.mono fun _ _ z=>z.mono le) hb k;refine⟨x,x',m,m',to,fun w u' es e=>?_,fun w w' es e=>?_⟩);(·rw[s1];unfold arB;simp only[hd,hq,E1,e,aaK,k1];exact⟨_,rfl⟩)
       ·rw[s2];unfold arB;simp only[VS,KT,NO,e,aaK,k2]
        exact⟨_,fun e' he=>by simpa using cF _ _ _ _ (by simpa using he),rfl⟩
      ·intro q1 v v' le k
       (refine .inl fun w u' es e=>?_);rw[s1];unfold arB;simp only[hd,hq,E1,e];exact⟨_,_,_,rfl⟩
end
section
variable{c:iQ}{E:Nat->Prop}{c0:ary}{cs:List ary}{main:Bool}{r:Ren}{u w:aah}{fr cV:ary}{l l':List ary}
def vO(fr:ary)(l:List ary):Prop:=fr.mode=.run\/fr.defers≠ []\/l≠ []
theorem Yd(hS:c.rE)(hw:WR c.P c.F c.C E r u w)(hr:c.Ok r)(h0:c0.mode=.run)(hf:FR c r fr cV)(hl:iC (FR c r) l l')(hb:nE fr l)(hg:vO fr l):
  fL c E c0 cs (ant c.P true (go fr (l++[c0]))) (ant c.P main (go cV (l'++cs))) r u w:=by
 by_cases hm:fr.mode=.run
 ·exact Vw hS hw hr h0 hf hl hb hm
 ·exact Pk hS hw hr h0 hf hl hb hm (hg.resolve_left hm)
def wall(p:ag0):ary:={fn:=p.funcs.size,tmps:=#[],todo:=[.call {target:=.nil,args:=#[]} false "fmt's door: none" #[]],defers:=[],mode:=.run,kind:=.normal}
structure St where
 fr:ary
 l:List ary
 u:aah
def St.go(x:St)(p:ag0):ane:=dO.go x.fr (x.l++[wall p])
def St.m(x:St)(p:ag0)(t:Tape):asM:=lone x.fr (x.l++[wall p]) (x.u.on t)
structure LS(p:ag0)(y x:St):Prop where
 going:vO x.fr x.l
 up:x.u.drawn<=y.u.drawn
 step:∃t:Tape,∀t2,nv x.u.drawn y.u.drawn t t2->∃es,ant p true (x.go p) (x.u.on t2)=.go (y.go p) (y.u.on t2) es
def Good(p:ag0)(f:ani)(R:aai->aah->Prop)(x:St):Prop:=∀t:Tape,∃t':Tape,(∀d,x.u.drawn<=d->t' d=t d)/\
 ∃n fe ue v,ar8 p n (x.m p t')=.next (lone fe [wall p] ue)/\fe.leaving p ue (.returned v)/\fe.fn=f/\R v ue
theorem CZ{a b:List ary}{v w:aah}(h:lone f a v=lone g b w):f=g/\a=b/\v=w:=by
 unfold lone at h;injection h with h1 h2 h3
 injection h2 with h2
 injection h2 with h2 _
 injection h2 with h4 h5
 exact⟨h4,h5,h1⟩
theorem pV{x:St}{fe:ary}{ue:aah}(hg:vO x.fr x.l)(he:fe.leaving p ue (.returned v)):x.m p t≠lone fe [wall p] ue:=by
 intro h;obtain⟨h1,h2,_⟩:=CZ h;obtain⟨hm,hd,_⟩:=he
 have hl:x.l=[]:=by
  cases hx:x.l with
  |nil=>rfl
  |cons a b=>rw[hx]at h2;simp at h2
 subst h1;rcases hg with q|q|q
 ·rw[hm]at q;cases q
 ·exact q hd
 ·exact q hl
theorem DO{x y:St}(h:ant p true (x.go p) (x.u.on t)=.go (y.go p) (y.u.on t) es):step p (x.m p t)=.next (y.m p t):=by
 refine step_lone_go ?_;have h':ant p true {frame:=x.fr,callers:=x.l++[wall p],status:=.running,dying:=none} (x.u.on t)=.go (y.go p) (y.u.on t) es:=h;rw[h'];rfl
theorem Mf{x:St}{o:Outcome}(h:ant p true (x.go p) (x.u.on t)=.ended o u' es):step p (x.m p t)=.ended o u':=by
 refine ar' ?_;have h':ant p true {frame:=x.fr,callers:=x.l++[wall p],status:=.running,dying:=none} (x.u.on t)=.ended o u' es:=h;rw[h'];rfl
theorem Good.abb{R:aai->aah->Prop}{x:St}(h:Good p k R x)(hg:vO x.fr x.l):¬ PS (ant p true (x.go p)) x.u:=by
 rintro⟨t,d,hd,hb⟩;obtain⟨t',ht,n,fe,ue,v,hn,hl,_⟩:=h t;obtain⟨o,u',es,e⟩:=hb t' fun y h1 _=>(ht y h1).symm
 cases n with
 |zero=>exact pV (t:=t') hg hl (by simpa[ar8]using hn)
 |succ n=>rw[ar8,Mf e]at hn;cases hn
theorem Good.next{R:aai->aah->Prop}{x y:St}(h:Good p k R x)(hs:LS p y x):Good p k R y:=by
 intro t;obtain⟨s,xV⟩:=hs.step;obtain⟨t',ht,n,fe,ue,v,hn,hl,hR⟩:=h fun d=>if d<y.u.drawn then s d else t d
 have ag:nv x.u.drawn y.u.drawn s t':=fun d h1 h2=>by
  rw[ht d h1,if_pos h2]
 obtain⟨es,e⟩:=xV t' ag;cases n with
 |zero=>exact absurd (by simpa[ar8]using hn) (pV (t:=t') hs.going hl)
 |succ n=>
  rw[ar8,DO e]at hn;refine⟨t',fun d hd=>?_,n,fe,ue,v,hn,hl,hR⟩;rw[ht d (aiC hs.up hd),if_neg (ar7 hd)]
theorem Good.acc{R:aai->aah->Prop}{x:St}(h:Good p k R x):Acc (LS p) x:=by
 refine Classical.byContradiction fun na=>?_
 have next:∀y: {y:St // ¬ Acc (LS p) y},∃z: {z:St // ¬ Acc (LS p) z},LS p z.1 y.1:=by
  rintro⟨y,hy⟩;refine Classical.byContradiction fun hn=>hy (Acc.intro y fun z hz=>?_)
  refine Classical.byContradiction fun hz'=>hn ⟨⟨z,hz'⟩,hz⟩
 let f:Nat-> {y:St // ¬ Acc (LS p) y}:=fun n=>Nat.rec ⟨x,na⟩ (fun _ y=>Classical.choose (next y)) n
 have hf:∀n,LS p (f (n+1)).1 (f n).1:=fun n=>Classical.choose_spec (next (f n))
 have f0:(f 0).1=x:=rfl
 let D:Nat->Nat:=fun n=>(f n).1.u.drawn
 have up:∀n,D n<=D (n+1):=fun n=>(hf n).up
 have mono:∀n k,D n<=D (n+k):=by
  intro n k
  induction k with
  |zero=>exact ahP _
  |succ k ih=>exact aiC ih (up (n+k))
 have Gw:∀{n m},n<=m->D n<=D m:=fun {n m} h=>by
  obtain⟨k,rfl⟩:=Nat.le.dest h;exact mono n k
 have sF:∀n m d,D n<=d->d<D (n+1)->D m<=d->d<D (m+1)->n=m:=by
  intro n m d h1 h2 h3 h4;rcases Nat.lt_trichotomy n m with h|h|h
  ·have:=Gw (show n+1<=m from h);omega
  ·exact h
  ·have:=Gw (show m+1<=n from h);omega
 let s:Nat->Tape:=fun n=>Classical.choose (hf n).step
 have hs:∀n t2,nv (D n) (D (n+1)) (s n) t2->∃es,ant p true ((f n).1.go p) ((f n).1.u.on t2)=.go ((f (n+1)).1.go p) ((f (n+1)).1.u.on t2) es:=fun n=>Classical.choose_spec (hf n).step
 let T:Tape:=fun d=>s (Classical.epsilon fun n=>D n<=d/\d<D (n+1)) d
 have hT:∀n d,D n<=d->d<D (n+1)->T d=s n d:=by
  intro n d h1 h2;have sp:=Classical.epsilon_spec (p:=fun n=>D n<=d/\d<D (n+1)) ⟨n,h1,h2⟩
  show s (Classical.epsilon fun n=>D n<=d/\d<D (n+1)) d=s n d
  rw[sF _ n d sp.1 sp.2 h1 h2]
 obtain⟨t',ht,n,fe,ue,v,hn,hl,_⟩:=h T
 have run:∀k,ar8 p k ((f 0).1.m p t')=.next ((f k).1.m p t'):=by
  intro k
  induction k with
  |zero=>rfl
  |succ k ih=>
   obtain⟨es,e⟩:=hs k t' fun d h1 h2=>by
    rw[ht d (aiC (Gw (Nat.zero_le k)) h1)];exact(hT k d h1 h2).symm
   rw[runN_add,ih];simp only[ar8,DO e]
 have:=run n;rw[f0]at this;rw[this]at hn;injection hn with hn
 exact pV (t:=t') (hf n).going hl hn
end
section
variable{c:iQ}{E:Nat->Prop}{cs:List ary}{main:Bool}{r:Ren}{u w:aah}{fr cV:ary}{l l':List ary}
theorem Hv(p:ag0)(v:aai)(w:aah):∃o u es,ant p true (go ((wall p).finish v) []) w=.ended o u es:=by
 rw[z_ rfl];unfold arz;have:Extern.next "fmt's door: none"=none:=by rfl
 simp only[wall,arZ,this];exact⟨_,_,_,rfl⟩
theorem Mv(p:ag0)(ch:List PanicEntry)(w:aah):∃o u es,ant p true (go ((wall p).raise ch) []) w=.ended o u es:=by
 have hm:((wall p).raise ch).mode=.panicking ch:=rfl;rw[nP (by rw[hm];simp)];unfold arB
 have hc:((wall p).raise ch).catches p=true:=by
  unfold asQ
  have:p.funcs[((wall p).raise ch).fn]?=none:=by
   (show p.funcs[p.funcs.size]?=none);simp
  rw[this]
  show("fmt's door: none".startsWith "fmt's door")=true
  decide+kernel
 have hd:((wall p).raise ch).defers=[]:=rfl;simp only[hd,hm,hc,if_true];exact⟨_,_,_,rfl⟩
theorem Good.at_end{R:aai->aah->Prop}{x:St}(h:Good p k R x)(hg:¬ vO x.fr x.l)(hb:nE x.fr x.l)(s:Tape):
  ∃t v,(∀d,x.u.drawn<=d->t d=s d)/\x.fr.leaving p (x.u.on t) (.returned v)/\x.fr.fn=k/\R v (x.u.on t):=by
 obtain⟨fr,l,u⟩:=x
 have hl:l=[]:=by
  cases l with
  |nil=>rfl
  |cons a b=>exact absurd (.inr (.inr sP)) hg
 subst hl;have hm:fr.mode≠.run:=fun q=>hg (.inl q)
 have hd:fr.defers=[]:=Classical.byContradiction fun q=>hg (.inr (.inl q))
 obtain⟨t',ht,n,fe,ue,v,hn,hle,hR⟩:=h s;have hk:fr.kind=.normal:=hb.1;have m0:(⟨fr,[],u⟩:St).m p t'=lone fr [wall p] (u.on t'):=rfl;rw[m0]at hn;cases n with
 |zero=>
  obtain⟨h1,_,h3⟩:=CZ (show lone fr [wall p] (u.on t')=lone fe [wall p] ue by simpa[ar8]using hn);subst h1;subst h3;exact⟨t',v,ht,hle,hR⟩
 |succ n=>
  exfalso;have hg0:ant p true (go fr [wall p]) (u.on t')=arB p true fr [wall p] none (u.on t'):=nP hm
  have acy:∀o u' es,ant p true (go fr [wall p]) (u.on t')=.ended o u' es->False:=by
   intro o u' es h1
   have e1:step p (lone fr [wall p] (u.on t'))=.ended o u':=ar' (by
    have:ant p true {frame:=fr,callers:=[wall p],status:=.running,dying:=none} (u.on t')=.ended o u' es:=h1;rw[this];rfl)
   simp only[ar8,e1]at hn;cases hn
  have Vy:∀g w' es,ant p true (go fr [wall p]) (u.on t')=.go (go g []) w' es->(∃o Q1 es',ant p true (go g []) w'=.ended o Q1 es')->False:=by
   intro g w' es h1 h2
   have e1:step p (lone fr [wall p] (u.on t'))=.next (lone g [] w'):=step_lone_go (by
    have:ant p true {frame:=fr,callers:=[wall p],status:=.running,dying:=none} (u.on t')=.go (go g []) w' es:=h1;rw[this];rfl)
   obtain⟨o,u',es',e2⟩:=h2
   have e3:step p (lone g [] w')=.ended o u':=ar' (by
    have:ant p true {frame:=g,callers:=[],status:=.running,dying:=none} w'=.ended o u' es':=e2;rw[this];rfl)
   simp only[ar8,e1]at hn;cases n with
   |zero=>
    obtain⟨_,h3,_⟩:=CZ (show lone g [] w'=lone fe [wall p] ue by simpa[ar8]using hn);cases h3
   |succ n=>simp only[ar8,e3]at hn;cases hn
  cases Y1:fr.mode with
  |run=>exact hm Y1
  |panicking ch=>
   by_cases hc:fr.catches p=true
   ·refine acy (.unsupported (.noEntry "a panic or Goexit out of a method that fmt calls behind a cut's door") (fr.pos p)) (u.on t') #[] ?_
    rw[hg0];unfold arB;simp only[hd,Y1,hc,if_true]
   ·refine Vy ((wall p).raise ch) (u.on t') #[] ?_ (Mv _ _ _)
    rw[hg0];unfold arB;simp only[hd,Y1,hc];rfl
  |returning=>
   cases E1:p.funcs[fr.fn]? with
   |none=>
    refine Vy ((wall p).finish (fr.tmps.getD 0 agp)) (u.on t') #[] ?_ (Hv _ _ _);rw[hg0];unfold arB arA;simp only[hd,Y1,E1,hk];rfl
   |some fn=>
    cases hr:(al6 fn fr.tmps).runT p (u.on t') #[]with
    |mk x es=>
     cases x with
     |ok v w'=>
      refine Vy ((wall p).finish v) w' (seen p fr.fn es++#[]) ?_ (Hv _ _ _);rw[hg0];unfold arB arA;simp only[hd,Y1,E1,hk,hr];rfl
     |halt q w'=>
      have:∃o u' es',ant p true (go fr [wall p]) (u.on t')=.ended o u' es':=by
       rw[hg0];unfold arB;simp only[hd,Y1,E1,hr];cases q<;>exact⟨_,_,_,rfl⟩
      obtain⟨o,u',es',e⟩:=this;exact acy o u' es' e
end
structure pP(S:Nat->Prop)(w w':aah):Prop where
 blocks:∀b,S b->w'.heap[b]?=w.heap[b]?
 size:w.heap.size<=w'.heap.size
 os:w'.os=w.os
theorem pP.refl(S:Nat->Prop)(w:aah):pP S w w:=⟨fun _ _=>rfl,ahP _,rfl⟩
inductive Way(P:ag0)(main:Bool)(Mid:ane->Prop)(D:(Nat->Prop)->(Nat->Prop)->aah->aah->Array anu->Prop)(Stop:(Nat->Prop)->ane->aah->Prop):(Nat->Prop)->ane->aah->Prop
 |stop {S:Nat->Prop} {g:ane} {w:aah}:(∀w1,pP S w w1->Stop S g w1)->Way P main Mid D Stop S g w
 |step {S:Nat->Prop} {g:ane} {w:aah} (nS:aah->Nat->Prop) (ng:aah->ane) (nw:aah->aah) (ne:aah->Array anu):Mid g->g.status=.running->
  (∀w1,pP S w w1->ant P main g w1=.go (ng w1) (nw w1) (ne w1)/\D S (nS w1) w1 (nw w1) (ne w1))->(∀w1,pP S w w1->Way P main Mid D Stop (nS w1) (ng w1) (nw w1))->Way P main Mid D Stop S g w
theorem Way.aj0{P:ag0}{main:Bool}{Mid:ane->Prop}{D:(Nat->Prop)->(Nat->Prop)->aah->aah->Array anu->Prop}{Stop:(Nat->Prop)->ane->aah->Prop}{S:Nat->Prop}{g:ane}{w:aah}(hm:Mid g)(hs:g.status=.running)(h:∀w1,pP S w w1->∃S' g' w' es,ant P main g w1=.go g' w' es/\D S S' w1 w' es/\Way P main Mid D Stop S' g' w'):Way P main Mid D Stop S g w:=by
 have:∀w1,∃y:(Nat->Prop)×ane×aah×Array anu,pP S w w1->ant P main g w1=.go y.2.1 y.2.2.1 y.2.2.2/\D S y.1 w1 y.2.2.1 y.2.2.2/\Way P main Mid D Stop y.1 y.2.1 y.2.2.1:=by
  intro w1
  by_cases hr:pP S w w1
  ·obtain⟨S',g',w',es,h1,h2,h3⟩:=h w1 hr
   exact⟨⟨S',g',w',es⟩,fun _=>⟨h1,h2,h3⟩⟩
  ·exact⟨⟨S,g,w,#[]⟩,fun k=>absurd k hr⟩
 obtain⟨f,hf⟩:=Classical.axiomOfChoice this;exact .step (fun w1=>(f w1).1) (fun w1=>(f w1).2.1) (fun w1=>(f w1).2.2.1) (fun w1=>(f w1).2.2.2) hm hs (fun w1 hr=>⟨(hf w1 hr).1,(hf w1 hr).2.1⟩) fun w1 hr=>(hf w1 hr).2.2
def Y_(r:Ren):Nat->Prop:=fun b=>∃a,r a b
section
variable{c:iQ}{E:Nat->Prop}{cs:List ary}{main:Bool}{r:Ren}{u w w1:aah}{fr cV:ary}{l l':List ary}
theorem WR.rely(h:WR c.P c.F c.C E r u w)(k:pP (Y_ r) w w1):WR c.P c.F c.C E r u w1 where
 os:=h.os.T k.os.symm
 aR:=h.aR
 nH:=⟨h.nH.1,ae7 h.nH.2 k.size⟩
 YV:=h.YV
 old:=h.old
 obj {a b} x:=by
  obtain⟨o,o',h1,h2,k1⟩:=h.obj x;exact⟨o,o',h1,by rw[k.blocks b ⟨a,x⟩];exact h2,k1⟩
def Looks{α:Type}(s:Sem α):Prop:=∀(P:ag0) (w:aah) (a:α) (w':aah),s.run P w=.ok a w'->w'=w
theorem Looks.pure{α:Type}(a:α):Looks (Pure.pure a:Sem α):=fun P w b w' h=>by cases h;rfl
theorem Looks.then{α β:Type}{s:Sem α}{f:α->Sem β}(h:Looks s)(k:∀a,Looks (f a)):Looks (s>>=f):=fun P w b w' e=>by
 rw[show(s>>=f).run P w=_ from dO.run_bind s f w]at e;cases q:s.run P w with
 |ok a w1=>rw[q]at e;rw[<-h P w a w1 q];exact k a P w1 b w' e
 |halt t w1=>rw[q]at e;cases e
theorem Looks.load(a:Addr):Looks (Go.load a):=fun P w v w' h=>by
 unfold Go.load at h;simp only[Sem.run]at h;split at h
 ·cases h;rfl
 ·split at h
  ·cases h;rfl
  ·cases h
theorem Looks.acD{α:Type}{s:Sem α}(h:∀P w a w',s.run P w≠.ok a w'):Looks s:=fun P w a w' e=>absurd e (h P w a w')
theorem Looks.program:Looks Go.program:=fun P w v w' h=>by cases h;rfl
theorem Looks.stuck{α:Type}(m:String):Looks (Go.stuck m:Sem α):=.acD fun P w a w' e=>by cases e
theorem Looks.typeInfo(t:aat):Looks (Go.typeInfo t):=Looks.program.then fun p=>by cases p.info? t<;>first|exact .pure _|exact .stuck _
theorem Looks.underlying(t:aat):Looks (Go.underlying t):=Looks.program.then fun p=>by cases p.underlying t<;>first|exact .pure _|exact .stuck _
theorem Looks.isAgg(t:aat):Looks (Go.isAgg t):=(Looks.underlying t).then fun d=>by cases d<;>exact .pure _
theorem Looks.sizeOf(t:aat):Looks (Go.sizeOf t):=(Looks.typeInfo t).then fun _=>.pure _
theorem Looks.loadCellsFrom(a:Addr):∀(n i:Nat) (x:Array aai),Looks (Go.loadCellsFrom a i n x)
 |0,_,_=>.pure _
 |n+1,i,_=>(Looks.load _).then fun _=>Looks.loadCellsFrom a n (i+1) _
theorem Looks.loadVar(t:aat)(a:Addr):Looks (Go.loadVar t a):=(Looks.isAgg t).then fun b=>by
 cases b with
 |true=>exact(Looks.sizeOf t).then fun n=>(Looks.loadCellsFrom a n 0 #[]).then fun _=>.pure _
 |false=>exact Looks.load a
theorem Looks.asAddr(v:aai):Looks (Go.asAddr v):=by
 cases v with
 |pointer o=>
  cases o with
  |some a=>exact .pure _
  |none=>exact .acD fun P w a w' e=>by cases e
 |_=>exact .stuck _
theorem Looks.results(fn:Func)(x:Array aai):Looks (Go.results fn x):=by
 unfold Go.results;generalize fn.results=rs;obtain⟨rs⟩:=rs;rw[ar4];refine Looks.then ?_ fun a=>.pure _
 refine Looks.then (s:=List.mapM _ rs) (f:=fun(a:List aai)=>(Pure.pure a.toArray:Sem (Array aai))) ?_ fun a=>.pure _
 induction rs with
 |nil=>rw[ass];exact .pure _
 |cons a rs ih=>
  rw[ash];refine Looks.then ?_ fun v=>ih.then fun vs=>.pure _
  cases a with
  |tmp t=>exact .pure _
  |cell a t=>exact(Looks.asAddr _).then fun b=>Looks.loadVar t b
theorem KZ{R:aai->aah->Prop}(hr:c.Ok r)(hw:WR c.P c.F c.C E r u w)(hf:FR c r fr cV)(h:∀s:Tape,∃t v,(∀d,u.drawn<=d->t d=s d)/\fr.leaving c.P (u.on t) (.returned v)/\R v (u.on t)):
  ∃t v v',cV.leaving c.P w (.returned v')/\VR c.F r v v'/\R v (u.on t):=by
 obtain⟨t0,v0,_,⟨_,_,_,fn,E1,_⟩,_⟩:=h u.tape;have NO:c.P.funcs[cV.fn]?=some fn:=by rw[<-hf.fn];exact E1
 have key:∀t v,fr.leaving c.P (u.on t) (.returned v)->fr.mode=.returning/\fr.defers=[]/\fr.kind=.normal/\(al6 fn fr.tmps).run c.P (u.on t)=.ok v (u.on t):=by
  rintro t v ⟨h1,h2,h3,fn2,h4,h5⟩;rw[E1]at h4;cases h4;exact⟨h1,h2,h3,h5⟩
 rcases nM (DJ hr fn hf.tmps) hw with⟨s,d,hd,hb⟩|⟨s,q,u',w',n,⟨kept,rel,evs,up,fH⟩⟩
 ·obtain⟨t,v,ht,hl,_⟩:=h s
  obtain⟨_,_,_,h5⟩:=key t v hl;obtain⟨o,u2,es,e,_⟩:=hb t (fun y h1 _=>(ht y h1).symm) #[];have:=apT c.P (al6 fn fr.tmps) (u.on t) #[];rw[e,h5]at this;cases this
 ·obtain⟨t,v,ht,hl,hR⟩:=h s
  obtain⟨h1,h2,h3,h5⟩:=key t v hl;have ag:nv u.drawn u'.drawn s t:=fun y h1 _=>(ht y h1).symm
  have e0:=apT c.P (al6 fn fr.tmps) (u.on t) #[];rcases fH with⟨a,b,x,y,z⟩|⟨a,b,x,y,z⟩
  ·obtain⟨es,e⟩:=z t ag #[]
   (rw[e,h5]at e0;injection e0 with e1 e2);subst e1;have e3:=apT c.P (al6 fn cV.tmps) w #[];rw[y #[]]at e3;have ew:=Looks.results fn cV.tmps c.P w b w' e3.symm;subst ew
   have hq:∀{i j},q i j->r i j:=by
    (intro i j hij;rcases kept.fresh hij with k|⟨_,k⟩);(·exact k);(·exact absurd (rel.lt hij).2 (ar7 k))
   have le:Ren.le q r:=⟨hq,kept.le.eq.symm,kept.le.eO.symm⟩;refine⟨t,a,b,⟨?_,?_,by rw[<-hf.kind];exact h3,fn,NO,e3.symm⟩,x.mono le,hR⟩
   ·have:=hf.mode
    rw[h1]at this;generalize cV.mode=m at this ⊢;cases this;rfl
   ·have:=hf.defers
    rw[h2]at this;generalize cV.defers=m at this ⊢;cases this;rfl
  ·obtain⟨es,e⟩:=z t ag #[]
   rw[e,h5]at e0;cases e0
def Zp(cs:List ary):ane->Prop:=fun g=>∃fr l,g=go fr (l++cs)/\vO fr l
theorem vO.rel(hf:FR c r fr cV)(hl:iC (FR c r) l l')(h:vO fr l):vO cV l':=by
 rcases h with h|h|h
 ·left
  have:=hf.mode;rw[h]at this;generalize cV.mode=m at this ⊢;cases this;rfl
 ·right;left
  intro e;have:=hf.defers;rw[e]at this;cases hd:fr.defers with
  |nil=>exact h hd
  |cons a b=>rw[hd]at this;cases this
 ·right;right
  intro e;subst e;cases hl;exact h rfl
theorem EZ{f:ani}{args:Array aai}{u:aah}{R:aai->aah->Prop}(h:∀t,Calls p f args (u.on t) fun e w=>∃v,e=.returned v/\R v w):Good p f R ⟨aq9 p f args .normal,[],u⟩:=by
 intro t;obtain⟨e,w',fe,⟨v,rfl,hR⟩,hc,hfe,hl⟩:=h t [wall p];obtain⟨n,hn⟩:=hc;exact⟨t,fun _ _=>rfl,n,fe,w',v,hn,hl,hfe,hR⟩
end
end Go.dO
namespace Go.gT
open Go.Proofs.Tryz
open Go.Proofs.YtjligkmjlenofaaGreatDoor(kR oM dC aS kS zH sP sO mL aP nR bR BL)
open Go Go.Conc
def aD.or(S T:aD):aD:=fun b=>S b\/T b
section
variable{P:ag0}{main:Bool}{Mid:ane->Prop}{D1 D2:aD->aD->aah->aah->Array anu->Prop}{UI UJ:aD->ane->aah->Prop}{S1 S2:aD}{g:ane}{w:aah}
theorem ac2{S T:aD}{w w1:aah}(h:Go.dO.pP (S.or T) w w1):Go.dO.pP S w w1:=⟨fun b hb=>h.blocks b (.inl hb),h.size,h.os⟩
def nxt(S:aD)(w w':aah):aD:=fun b=>S b\/(w.heap.size<=b/\b<w'.heap.size)
theorem both{S:aD}(h1:Go.dO.Way P main Mid D1 UI S g w)(h2:Go.dO.Way P main Mid D2 UJ S g w)(x1:∀S g w,UI S g w->¬ Mid g)(x2:∀S g w,UJ S g w->¬ Mid g)(n1:∀S S' w w' es,D1 S S' w w' es->S'=nxt S w w')(n2:∀S S' w w' es,D2 S S' w w' es->S'=nxt S w w'):
  Way P main Go.dO.pP (fun S S' w w' es=>D1 S S' w w' es/\D2 S S' w w' es) (fun S g w=>UI S g w/\UJ S g w) S g w:=by
 induction h1 with
 |stop hs=>
  rename_i S g w
  cases h2 with
  |stop xV=>exact .stop fun w1 hr=>⟨hs w1 hr,xV w1 hr⟩
  |step nS ng nw ne hm _ _ _=>exact absurd hm (x1 _ _ _ (hs w (Go.dO.pP.refl _ _)))
 |step nS ng nw ne hm dI qF Gq ih=>
  rename_i S g w
  cases h2 with
  |stop xV=>exact absurd hm (x2 _ _ _ (xV w (Go.dO.pP.refl _ _)))
  |step nS2 ng2 nw2 ne2 _ _ ae5 aeT=>
   (refine .step dI fun w1 hr=>?_);(obtain⟨e1,d1⟩:=qF w1 hr;obtain⟨e2,d2⟩:=ae5 w1 hr;have e:=e1.symm.T e2;injection e with e3 e4 e5);(have e6:nS w1=nS2 w1:=by rw[n1 _ _ _ _ _ d1,n2 _ _ _ _ _ d2,e4]);refine⟨nS w1,ng w1,nw w1,ne w1,e1,⟨d1,by rw[e4,e5,e6];exact d2⟩,?_⟩;exact ih w1 hr (by rw[e3,e4,e6];exact aeT w1 hr)
end
open Go.dO
section
variable{P:ag0}{main:Bool}{D:aD->aD->aah->aah->Array anu->Prop}{Stop:aD->ane->aah->Prop}{S:aD}{g:ane}{w:aah}{Z:aD}{W0:aah}
def tI(Z:aD)(W0 w:aah):Prop:=∀b,Z b->w.heap[b]?=W0.heap[b]?
def Pz(Z:aD)(w w':aah):Prop:=∀b,Z b->∃c t f f',w.heap[b]?=some (.cells c t f)/\w'.heap[b]?=some (.cells c t f')/\MD f f'
def Alike(Z:aD)(W0 w:aah):Prop:=∀b,Z b->∃c t f f',W0.heap[b]?=some (.cells c t f)/\w.heap[b]?=some (.cells c t f')
theorem Alike.step{w w':aah}(h:Alike Z W0 w)(k:Pz Z w w'):Alike Z W0 w':=fun b hb=>by
 obtain⟨c,t,f,f',e1,e2⟩:=h b hb;obtain⟨c2,t2,f2,f3,e3,e4,_⟩:=k b hb;rw[e2]at e3;cases e3;exact⟨c,t,f,f3,e1,e4⟩
theorem Alike.of(h0:∀b,Z b->∃c t f,W0.heap[b]?=some (.cells c t f)){w:aah}(h:tI Z W0 w):Alike Z W0 w:=fun b hb=>by
 obtain⟨c,t,f,e⟩:=h0 b hb;exact⟨c,t,f,f,e,by rw[h b hb];exact e⟩
theorem upto(hD:∀S S' w w' es,(∀b,Z b->S b)->D S S' w w' es->Pz Z w w')(dR:∀S S' w w' es,D S S' w w' es->∀b,S b->S' b)(hS:∀S g w,(∀b,Z b->S b)->Stop S g w->Alike Z W0 w->tI Z W0 w)(h:Way P main pP D Stop S g w)(hZ:∀b,Z b->S b)(hA:Alike Z W0 w):Pz Z w W0:=by
 obtain⟨τ,h⟩:=h
 induction τ generalizing S g w with
 |leaf=>
  intro b hb;obtain⟨c,t,f,f',e,e'⟩:=hA b hb;have k:=hS _ _ _ hZ (h w (pP.refl _ _)) hA b hb;rw[e,e']at k;cases k;exact⟨c,t,f,f,e',e,MD.refl f⟩
 |node F ih=>
  obtain⟨S',g',w',es,_,hd,hn⟩:=h.2 w (pP.refl _ _);have hg:=hD _ _ _ _ _ hZ hd;have k:=ih w (fun b hb=>dR _ _ _ _ _ hd b (hZ b hb)) (hA.step hg) hn;intro b hb;obtain⟨c,t,f,f',e1,e2,l1⟩:=hg b hb;obtain⟨c2,t2,f2,f3,e3,e4,l2⟩:=k b hb;rw[e2]at e3;cases e3;exact⟨c,t,f,f3,e1,e4,l1.T l2⟩
theorem adW(h0:∀b,Z b->∃c t f,W0.heap[b]?=some (.cells c t f))(hD:∀S S' w w' es,(∀b,Z b->S b)->D S S' w w' es->Pz Z w w')(hS:∀S g w,(∀b,Z b->S b)->Stop S g w->Alike Z W0 w->tI Z W0 w)(dR:∀S S' w w' es,D S S' w w' es->∀b,S b->S' b)(h:Way P main pP D Stop S g w)(hZ:∀b,Z b->S b)(hK:tI Z W0 w):Way P main pP (fun S S' w w' es=>D S S' w w' es/\tI Z W0 w/\tI Z W0 w') Stop S g w:=by
 obtain⟨τ,h⟩:=h;refine⟨τ,?_⟩
 induction τ generalizing S g w with
 |leaf=>exact h
 |node F ih=>
  refine⟨h.1,fun w1 hr=>?_⟩;obtain⟨S',g',w',es,h1,hd,hn⟩:=h.2 w1 hr;have hK1:tI Z W0 w1:=fun b hb=>(hr.blocks b (hZ b hb)).T (hK b hb)
  have hZ':∀b,Z b->S' b:=fun b hb=>dR _ _ _ _ _ hd b (hZ b hb)
  have hg:=hD _ _ _ _ _ hZ hd;have hu:=upto hD dR hS ⟨_,hn⟩ hZ' ((Alike.of h0 hK1).step hg)
  have hK2:tI Z W0 w':=fun b hb=>by
   obtain⟨c,t,f,f',e1,e2,l1⟩:=hg b hb;obtain⟨c2,t2,f2,f3,e3,e4,l2⟩:=hu b hb;rw[e2]at e3;cases e3;have e5:=hK1 b hb;rw[e1,e4]at e5;cases e5;rw[e2,e4,l1.antisymm l2]
  exact⟨S',g',w',es,h1,⟨hd,hK1,hK2⟩,ih w1 hZ' hK2 hn⟩
end
end Go.gT
namespace Go.dO
open Go.Proofs.Tryz
open Go.Proofs.YtjligkmjlenofaaGreatDoor(kR oM dC aS kS zH sP sO mL aP nR bR BL)
open Go
def tJ(Z:Nat->Prop)(n:Nat)(r:Ren):Prop:=∀a b,r a b->(Z a/\a=b)\/(n<=a/\n<=b)
def DZ(Z:Nat->Prop)(n:Nat)(E:Nat->Prop):(Nat->Prop)->(Nat->Prop)->aah->aah->Array anu->Prop:=fun S S' w w' es=>
 ∃r q u u',S=Y_ r/\S'=Y_ q/\Kept E r q u w u' w'/\iF E q es/\tJ Z n r/\tJ Z n q/\n<=w.heap.size/\∀a b,q a b->b<w'.heap.size
def JN(c:iQ)(f:ani)(Z:Nat->Prop)(n:Nat)(E:Nat->Prop)(R:aai->aah->Prop)(cs:List ary):(Nat->Prop)->ane->aah->Prop:=fun S g w=>
 ∃r u t cV v v',S=Y_ r/\g=go cV cs/\WR c.P c.F c.C E r u w/\cV.leaving c.P w (.returned v')/\VR c.F r v v'/\R v (u.on t)/\tJ Z n r/\cV.fn=f
section
variable{c:iQ}{E:Nat->Prop}{cs:List ary}{main:Bool}{Z:Nat->Prop}{n:Nat}
theorem tJ.kept{r q:Ren}{u w u' w':aah}(h:tJ Z n r)(k:Kept E r q u w u' w')(hu:n<=u.heap.size)(hw:n<=w.heap.size):tJ Z n q:=by
 intro a b Ew;rcases k.fresh Ew with x|⟨x,y⟩
 ·exact h a b x
 ·exact .inr ⟨aiC hu x,aiC hw y⟩
theorem J9(hS:c.rE){k:ani}{R:aai->aah->Prop}{x:St}(hg:Good c.P k R x):nE x.fr x.l->∀(r:Ren) (w:aah) (cV:ary) (l':List ary),WR c.P c.F c.C E r x.u w->c.Ok r->FR c r x.fr cV->iC (FR c r) x.l l'->
  tJ Z n r->n<=x.u.heap.size->n<=w.heap.size->Way c.P main (Zp cs) (DZ Z n E) (JN c k Z n E R cs) (Y_ r) (go cV (l'++cs)) w:=by
 have ha:=hg.acc
 revert hg
 induction ha with
 |intro x _ ih=>
  intro hg hb r w cV l' hw hr hf hl hk hnu hnw
  by_cases hgo:vO x.fr x.l
  ·refine .aj0 ⟨cV,l',rfl,hgo.rel hf hl⟩ rfl fun w1 hrel=>?_
   have MR:=hw.rely hrel;have aeU:=aiC hnw hrel.size;rcases Yd (c0:=wall c.P) (cs:=cs) (main:=main) hS MR hr rfl hf hl hb hgo with bad|⟨t,q,u',w',d,f,f',m,m',⟨kept,rel,evs,up,to,second,first⟩⟩
   ·exact absurd bad (hg.abb hgo)
   ·have ls:LS c.P ⟨f,m,u'⟩ x:=⟨hgo,up,t,first⟩
    have gU:=hk.kept kept hnu aeU;refine⟨Y_ q,go f' (m'++cs),w',d,second,⟨r,q,x.u,u',rfl,rfl,kept,evs,hk,gU,aeU,fun a b h=>(rel.lt h).2⟩,?_⟩;exact ih ⟨f,m,u'⟩ ls (hg.next ls) to.bot q w' f' m' rel (hr.mono kept.le) to.aR to.rest gU (aiC hnu kept.usize) (aiC aeU kept.size)
  ·have hl0:x.l=[]:=Classical.byContradiction fun q=>hgo (.inr (.inr q))
   (have MO:l'=[]:=by rw[hl0]at hl;cases hl;rfl);(subst MO;refine .stop fun w1 hrel=>?_);(have MR:=hw.rely hrel;obtain⟨t,v,v',h1,h2,h3⟩:=KZ hr MR hf fun s=>let ⟨t,v,a,b,_,d⟩:=hg.at_end hgo hb s;⟨t,v,a,b,d⟩);exact⟨r,x.u,t,cV,v,v',rfl,rfl,MR,h1,h2,h3,hk,hf.fn▸(let ⟨_,_,_,_,e,_⟩:=hg.at_end hgo hb x.u.tape;e)⟩
theorem JN.QF{k:ani}{R:aai->aah->Prop}{S:Nat->Prop}{g:ane}{w:aah}(h:JN c k Z n E R cs S g w):¬ Zp cs g:=by
 obtain⟨r,u,t,cV,v,v',_,rfl,_,⟨h1,h2,_⟩,_⟩:=h;rintro⟨fr,l,e,hgo⟩;unfold go at e;injection e with e1 e2
 have hl:l=[]:=by
  have:=congrArg List.length e2;simp at this;exact this
 subst hl;subst e1;rcases hgo with h|h|h
 ·rw[h1]at h;cases h
 ·exact h h2
 ·exact h rfl
end
end Go.dO
namespace Go.gT
open Go.Proofs.Tryz
open Go.Proofs.YtjligkmjlenofaaGreatDoor(kR oM dC aS kS zH sP sO mL aP nR bR BL)
open Go Go.Conc
open Go.dO (iQ WR FR tJ DZ JN Zp Good St nE Y_ iF Kept)
variable{k:ani}{b n:Nat}{e:anu}{args:Array aai}
section
variable{c:iQ}{main:Bool}{cs:List ary}{E:bw}
theorem ahL{Z:aD}{W0 w w':aah}{A A':aD}{es:Array anu}(hZ:∀b,E.Rd b->b<E.N0)(_:∀b,Z b->E.Rd b){Y:Nat->Prop}(h1:DZ Z E.N0 Y A A' w w' es)(h2:DZ Z E.N0 Z A A' w w' es)(k:tI Z W0 w)(k':tI Z W0 w'):
  DX E.Rd (AT E.Rd) (aD.or A E.Rd) (aD.or A' E.Rd) w w' es:=by
 obtain⟨r1,q1,u1,u1',rfl,rfl,kp1,ev1,kn1,auw,hn,lt1⟩:=h1;obtain⟨r2,q2,u2,u2',eA,eA',kp2,ev2,kn2,aot,_,lt2⟩:=h2;have same:∀b,Z b->w'.heap[b]?=w.heap[b]?:=fun b hb=>(k' b hb).T (k b hb).symm
 refine⟨?_,?_,kp1.size,?_,kp1.os,kp1.O,kp1.tape,?_⟩
 ·rintro b (⟨a,h⟩|h)
  ·exact .inl ⟨a,kp1.le.to h⟩
  ·exact .inr h
 ·rintro b (⟨a,h⟩|h)
  ·rcases kp1.fresh h with x|⟨_,x⟩
   ·exact .inl (.inl ⟨a,x⟩)
   ·exact .inr ⟨x,lt1 a b h⟩
  ·exact .inl (.inr h)
 ·intro b hb V3
  by_cases hA:∃a,r1 a b
  ·obtain⟨a,ha⟩:=hA
   rcases kn1 a b ha with⟨hz,rfl⟩|⟨_,Qk⟩
   ·exact same _ hz
   ·rcases V3 with hr|hn
    ·have:=hZ b hr;omega
    ·exact absurd (.inl ⟨a,ha⟩) hn
  ·exact kp1.other b hb fun a ha=>hA ⟨a,ha⟩
 ·intro e he
  have vo:∀{a b:Nat},q2 a b->aD.or (Y_ q1) E.Rd b:=fun {a b} h=>.inl (by rw[eA'];exact⟨a,h⟩)
  have nz:∀{a b:Nat},q2 a b->¬ Z a->¬ E.Rd b:=fun h hz hr=>by
   rcases aot _ _ h with⟨x,_⟩|⟨_,x⟩
   ·exact hz x
   ·have:=hZ _ hr;omega
  cases ev2 e he with
  |read h=>exact .read (vo h)
  |write h hz=>exact .write (vo h) (nz h hz)
  |obj h=>exact .obj (vo h)
  |set h hz=>exact .set (vo h) (nz h hz)
  |ext f=>exact .ext f
  |room=>exact .room
  |O=>exact .O
theorem QM{S:aD}{w w1:aah}(h:E.R S w w1):Go.dO.pP S w w1:=⟨h.blocks,h.size,h.os⟩
theorem aj6{P:ag0}{Stop nA:aD->ane->aah->Prop}{D:aD->aD->aah->aah->Array anu->Prop}{S:aD}{g:ane}{w:aah}(h:Way P main Go.dO.pP D Stop S g w)(hD:∀S S' w w' es,D S S' w w' es->E.DW (aD.or S E.Rd) (aD.or S' E.Rd) w w' es)(hS:∀S g w,Stop S g w->nA (aD.or S E.Rd) g w):Way P main E.R E.DW nA (aD.or S E.Rd) g w:=by
 obtain⟨τ,h⟩:=h;refine⟨τ,?_⟩
 induction τ generalizing S g w with
 |leaf=>exact fun w1 hr=>hS _ _ _ (h w1 (ac2 (QM hr)))
 |node f ih=>
  refine⟨h.1,fun w1 hr=>?_⟩;obtain⟨S',g',w',es,e1,e2,e3⟩:=h.2 w1 (ac2 (QM hr));exact⟨_,g',w',es,e1,hD _ _ _ _ _ e2,ih w1 e3⟩
def alc(c:iQ)(f:ani)(R:aai->aah->Prop)(cs:List ary)(_:aD)(g:ane)(w:aah):Prop:=
 ∃q u t fr v v',g=Go.dO.go fr cs/\fr.leaving c.P w (.returned v')/\Go.dO.VR c.F q v v'/\R v (World.on u t)/\fr.fn=f
theorem ao3(hS:c.rE){Z:aD}(hZ:∀b,E.Rd b->b<E.N0)(hZR:∀b,Z b->E.Rd b){R R1:aai->aah->Prop}{fr cV:ary}{u0 u1 w:aah}{r:Go.dO.Ren}(g0:Good c.P k R ⟨fr,[],u0⟩)(g1:Good c.P k R1 ⟨fr,[],u1⟩)(hb:nE fr []){Y:Nat->Prop}(w0:WR c.P c.F c.C Y r u0 w)(w1:WR c.P c.F c.C Z r u1 w)(hr:c.Ok r)(hf:FR c r fr cV)(hk:tJ Z E.N0 r)(yU:E.N0<=u0.heap.size)(nB:E.N0<=u1.heap.size)(hnw:E.N0<=w.heap.size)(hc:∀b,Z b->∃c t f,w.heap[b]?=some (.cells c t f))(hr0:∀b,Z b->r b b)(ai2:∀q u w' t v,WR c.P c.F c.C Y q u w'->tJ Z E.N0 q->(∀b,Z b->q b b)->R v (World.on u t)->Alike Z w w'->tI Z w w'):
  Way c.P main E.R E.DW (alc c k R cs) (aD.or (Y_ r) E.Rd) (Go.dO.go cV cs) w:=by
 have a0:=Go.dO.J9 (cs:=cs) (main:=main) (Z:=Z) (n:=E.N0) hS g0 hb r w cV [] w0 hr hf .nil hk yU hnw;have a1:=Go.dO.J9 (cs:=cs) (main:=main) (Z:=Z) (n:=E.N0) hS g1 hb r w cV [] w1 hr hf .nil hk nB hnw
 have nx:∀(F:Nat->Prop) S S' (w w':aah) es,DZ Z E.N0 F S S' w w' es->S'=nxt S w w':=by
  rintro F S S' w w' es ⟨r,q,u,u',rfl,rfl,kp,_,_,_,_,lt⟩
  funext b
  refine propext ⟨?_,?_⟩
  ·rintro⟨a,h⟩
   rcases kp.fresh h with x|⟨_,x⟩
   ·exact .inl ⟨a,x⟩
   ·exact .inr ⟨x,lt a b h⟩
  ·rintro(⟨a,h⟩|⟨h1,h2⟩)
   ·exact⟨a,kp.le.to h⟩
   ·exact kp.made b h1 h2
 have b:=both a0 a1 (fun _ _ _ h=>h.QF) (fun _ _ _ h=>h.QF) (nx _) (nx _);have zlt:∀{a b:Nat},Z b->(Z a/\a=b)\/(E.N0<=a/\E.N0<=b)->a=b:=fun hz h=>h.elim (fun x=>x.2) fun x=>by have:=hZ _ (hZR _ hz);omega
 have e:=adW (Z:=Z) (W0:=w) hc ?_ ?_ ?_ b (fun b hb=>⟨b,hr0 b hb⟩) (fun _ _=>rfl)
 ·refine aj6 e ?_ ?_
  ·rintro S S' w2 w3 es ⟨⟨d1,d2⟩,k,k'⟩
   exact ahL hZ hZR d1 d2 k k'
  ·rintro S g w2 ⟨⟨q,u,t,f,v,v',_,rfl,_,h1,h2,h3,_,h4⟩,_⟩
   exact⟨q,u,t,f,v,v',rfl,h1,h2,h3,h4⟩
 ·rintro S S' w2 w3 es hZS ⟨_,r,q,u,u',rfl,rfl,kp,_,kn,_,_,_⟩ b hb
  obtain⟨a,ha⟩:=hZS b hb;obtain rfl:=zlt hb (kn a b ha);obtain⟨c1,t1,f1,f2,e1,e2⟩:=kp.elder a a ha hb;obtain⟨c3,f3,e3,l3⟩:=kp.fz a c1 t1 f1 e1;rw[e2]at e3;cases e3;exact⟨c1,t1,f1,_,e1,e2,l3⟩
 ·rintro S g w2 hZS ⟨⟨q,u,t,f,v,v',rfl,_,hw,_,_,hR,kn,_⟩,_⟩ cN
  exact ai2 q u w2 t v hw kn (fun b hb=>by
   obtain⟨a,ha⟩:=hZS b hb;obtain rfl:=zlt hb (kn a b ha);exact ha) hR cN
 ·rintro S S' w2 w3 es ⟨d,_⟩ b hb
  rw[nx _ _ _ _ _ _ d];exact .inl hb
theorem afY{Y:Nat->Prop}{r q:Go.dO.Ren}{u u' w w':aah}(h:WR c.P c.F c.C Y r u w)(k:WR c.P c.F c.C Y q u' w')(x:r b b)(y:q b b)(hY:Y b->r.eO b≠none/\q.eO b≠none)(e:u'.heap[b]?=u.heap[b]?)(ha:∃c t f f',w.heap[b]?=some (.cells c t f)/\w'.heap[b]?=some (.cells c t f')):w'.heap[b]?=w.heap[b]?:=by
 obtain⟨o1,o2,h1,h2,h3⟩:=h.obj x;obtain⟨p1,p2,k1,k2,k3⟩:=k.obj y;obtain⟨c1,t1,f,f',e1,e2⟩:=ha;rw[e,h1]at k1;cases k1;rw[e1]at h2;cases h2;rw[e2]at k2;cases k2;rw[e1,e2];cases h3 with
 |own n m z=>
  cases z with
  |cells t f v=>
   cases k3 with
   |own _ _ z2=>cases z2 with|cells t f v=>rfl
   |elder t f f' _ y _ _=>exact absurd y m
 |elder t f f' g z _ _=>exact absurd g (hY z).1
 |eO t t' g z _ _ _=>
  cases k3 with
  |own n _ _=>exact absurd n (hY z).2
  |eO _ _ _ _ _ _ _=>rfl
end
open Go.ConcN (sumTo upd sumTo_upd upd_ne upd_same)
structure Fr(P:ag0)(Shun:Loc->Prop)(gs:Array ane)(a:ane)(t:aqt)(B:Nat):Prop where
 a0:gs[0]?=some a
 lv:∃q,asN P t gs q
 past:Past Shun B t
 new:∀i g,gs.size<=g->t.g? i≠some g
def Came(Ev:anu->Prop)(u:aqt):Prop:=∀op∈u,(op.act.touch?=none/\∀B,op.act.low B)\/∃fn pos e,op={g:=0,fn,pos,act:=.ofEvent e}/\Ev e
section
variable{P:ag0}{Shun:Loc->Prop}{Ev:anu->Prop}{Bd:aah->Nat}{R:aD->aah->aah->Prop}{D:aD->aD->aah->aah->Array anu->Prop}{Stop:aD->ane->aah->Prop}
theorem Came.app{u v:aqt}(h:Came Ev u)(k:Came Ev v):Came Ev (u++v):=fun op ho=>(aq_.1 ho).elim (h op) (k op)
theorem Came.nil:Came Ev #[]:=fun op ho=>by simp at ho
theorem QC{t u:aqt}(h:∀i g,n<=g->t.g? i≠some g)(hu:∀op∈u,op.g<n)(i g:Nat)(hg:n<=g):(t++u).g? i≠some g:=by
 intro e;obtain⟨op,ho,KR⟩:=amU.1 e;rcases getElem?_append_cases ho with⟨hi,EA⟩|⟨_,Gr⟩
 ·exact h i g hg (by rw[apO,EA];exact congrArg some KR)
 ·have:=hu op Gr;omega
theorem beside(T:Terms R)(hA:∀S w d,R S w (w.at d))(hBd:∀w d,Bd (w.at d)=Bd w)(hD:∀S S' w w' es,D S S' w w' es->Bd w<=Bd w'/\∀e∈es,EvL Shun (Bd w') e/\Ev e):
  ∀(μ:Nat×Tr) (S:aD) (gs:Array ane) (a:ane) (w:aah) (sl:Option (Nat×Nat)) (t:aqt) (q:Nat->Nat),μ.1=arN gs.size q->gs[0]?=some a->asN P t gs q->Past Shun (Bd w) t->(∀i g,gs.size<=g->t.g? i≠some g)->mm P true R D Stop μ.2 S a w->
   ∃(N:Nat) (S':aD) (gs':Array ane) (a':ane) (w':aah) (QS:Option (Nat×Nat)) (u:aqt),
    runNT P N (crowd gs w sl) t=(.next (crowd gs' w' QS),t++u)/\gs'.size=gs.size/\Stop S' a' w'/\Fr P Shun gs' a' (t++u) (Bd w')/\Came Ev u:=by
 intro μ
 induction μ using(Prod.lex Nat.lt_wfRel ⟨_,Tr.wf⟩).wf.induction with
 |_ μ ih=>
  intro S gs a w sl t q hμ h0 hL hP hN hW;obtain⟨m,τ⟩:=μ;simp only at hμ hW;subst hμ;cases τ with
  |leaf=>exact⟨0,S,gs,a,w,sl,#[],by simp[runNT],rfl,hW w (T.refl _ _),⟨h0,⟨q,by simpa using hL⟩,by simpa using hP,by simpa using hN⟩,.nil⟩
  |node f=>
  have dI:=hW.1
  have haw:∀g∈gs,awake g:=by
   intro g hg;obtain⟨i,hi,rfl⟩:=Array.mem_iff_getElem.1 hg;rcases arV i with rfl|KS
   ·have:gs[0]=a:=by simpa[aht hi]using h0
    rw[this];exact awake_of (.inl dI)
   ·exact awake_of ((hL.old i _ KS (aht hi)).status.elim .inl fun x=>.inr (.inr x))
  obtain⟨i,g,d,QS,hi,hg,gX⟩:=crowd_pick (P:=P) (w:=w) (sl:=sl) haw ⟨0,a,h0,dI⟩;have hWd:=hW.rely T (hA S w d);have aE:i<gs.size:=(akN.1 hi).1;rcases arV i with rfl|KS
  ·obtain rfl:g=a:=by rw[h0]at hi;exact(ahK hi).symm
   (obtain⟨S',a',w',es,hgo,hd,hn⟩:=hWd.2 _ (T.refl _ _);have V6:=arS (P:=P) (sl:=QS) (i:=0) hi (show ant P (0 == 0) g (w.at d)=_ from hgo);have iS:((gs.map (ap7 P g a' w')).setIfInBounds 0 a').size=gs.size:=by simp);obtain⟨hb,yT⟩:=hD _ _ _ _ _ hd;rw[hBd]at hb;have eE:∀op∈aqc 0 g.frame.fn g.frame.place es,op.g=0:=fun op a_=>by obtain⟨e,_,rfl⟩:=ap9 a_;rfl
   obtain⟨N,S2,gs',a2,w2,sl2,u,hr,ID,IA,hF,hC⟩:=ih (arN gs.size q,f (w.at d)) (.right _ ⟨f,_,rfl,rfl⟩) S' ((gs.map (ap7 P g a' w')).setIfInBounds 0 a') a' w' QS (t++aqc 0 g.frame.fn g.frame.place es) q (by rw[iS]) (by simp[aE])
    ⟨fun j x hj hx=>by
     have eZ:0≠j:=by omega
     rw[ap4 eZ,ar1]at hx;obtain⟨y,hy,rfl⟩:=amU.1 hx;have hq:=hL.old j y hj hy;rw[woken_quitsD hq,are t oM _ eE];exact hq,fun j hj=>by
     rw[are t (g':=0) (by simp at hj;omega) _ eE];exact hL.above j (by simpa using hj)⟩
    ((hP.mono hb).own fun e he=>(yT e he).1) (by rw[iS];exact QC hN fun op a_=>by rw[eE op a_];exact aE) hn
   refine⟨N+1,S2,gs',a2,w2,sl2,_,?_,ID.T iS,IA,by rw[<-apj];exact hF,Came.app (fun op a_=>?_) hC⟩
   ·simp only[runNT,gX,V6];rw[hr,apj]
   ·obtain⟨e,he,rfl⟩:=ap9 a_
    exact .inr ⟨_,_,e,rfl,(yT e he).2⟩
  ·have hq:=hL.old i g KS hi
   have hi0:(i == 0)=false:=by simp;omega
   cases hqi:q i with
   |zero=>rw[hqi]at hq;rw[hq.1]at hg;cases hg
   |succ k=>
    (rw[hqi]at hq;rcases hq with⟨hf,_⟩|⟨_,g',es,hm,an0,KT⟩);(·rw[hf]at hg;cases hg);(have V6:=arS (P:=P) (sl:=QS) (i:=i) hi (by rw[hi0];exact an0 (w.at d));have iS:((gs.map (ap7 P g g' (w.at d))).setIfInBounds i g').size=gs.size:=by simp);have eE:∀op∈aqc i g.frame.fn g.frame.place es,op.g=i:=fun op a_=>by obtain⟨e,_,rfl⟩:=ap9 a_;rfl
    have an2:arN gs.size (upd q i k)+(k+1)=arN gs.size q+k:=by
     have:=arY q k id aE;simpa[hqi]using this
    obtain⟨N,S2,gs',a2,w2,sl2,u,hr,ID,IA,hF,hC⟩:=ih (arN gs.size (upd q i k),.node f) (.left _ _ (show arN gs.size (upd q i k)<arN gs.size q by omega)) S ((gs.map (ap7 P g g' (w.at d))).setIfInBounds i g') a (w.at d) QS (t++aqc i g.frame.fn g.frame.place es) (upd q i k) (by rw[iS])
     (by
      have eZ:i≠0:=by omega
      rw[ap4 eZ,ar1,h0];simp[woken_run dI])
     ⟨fun j x hj hx=>by
      by_cases Ql:i=j
      ·subst Ql
       rw[aqi (by simpa using aE)]at hx;obtain rfl:=ahK hx;rw[upd_same,asB];exact KT
      ·rw[ap4 Ql,ar1]at hx
       obtain⟨y,hy,rfl⟩:=amU.1 hx;have hqj:=hL.old j y hj hy;rw[woken_quitsD hqj,arK q k (Ne.symm Ql),are t Ql _ eE];exact hqj,fun j hj=>by
      rw[are t (g':=i) (by simp at hj;omega) _ eE];exact hL.above j (by simpa using hj)⟩
     (by rw[hBd];exact hP.mute oM hm) (by rw[iS];exact QC hN fun op a_=>by rw[eE op a_];exact aE) hWd
    refine⟨N+1,S2,gs',a2,w2,sl2,_,?_,ID.T iS,IA,by rw[<-apj];exact hF,Came.app (fun op a_=>?_) hC⟩
    ·simp only[runNT,gX,V6];rw[hr,apj]
    ·obtain⟨e,he,rfl⟩:=ap9 a_
     exact .inl ⟨touch_mute (hm e he),fun B=>low_mute (hm e he) B⟩
end
open Go.dO (iQ WR HR FR VR bW OR tJ DZ JN Zp Good St nE Y_ iF Kept Ren lC)
def pE(z:Nat->Bool)(fr:Nat->Option Nat)(e:Bool)(i:Nat):Obj->Obj
 | .cells c t f=>if (fr i).isSome then .pending c t else if e&&z i then .cells c t (0,max (c.size+1) f.2)else .cells c t f
 |o=>o
def CY(z:Nat->Bool)(fr:Nat->Option Nat)(e:Bool)(w:aah):aah:={w with heap:=w.heap.mapIdx (pE z fr e)}
def idR(z:Nat->Bool)(fr:Nat->Option Nat)(aR:Nat)(h:z aR=true):Ren where
 rel a b:=z a=true/\a=b
 aR:=aR
 fn x y:=x.2.symm.T y.2
 inj x y:=x.2.T y.2.symm
 low x _:=x.2
 self:=⟨h,rfl⟩
 eO:=fr
structure Std(c:iQ)(z:Nat->Bool)(fr:Nat->Option Nat)(w:aah):Prop where
 aR:z c.P.globals.size=true
 nH:c.P.globals.size<w.heap.size
 gl:∀g,c.gs g=true->z g=true
 E8:∀b,z b=true->fr b=none->∃d t f,w.heap[b]?=some (.cells d t f)/\bW c.F (idR z fr _ aR) d d
 eO:∀b n,fr b=some n->z b=true/\∃d t,w.heap[b]?=some (.cells d t (0,0))/\d.size=n/\n≠0/\c.P.stepOf b=none
section
variable{c:iQ}{z:Nat->Bool}{fr:Nat->Option Nat}{w w' u:aah}
theorem iU(e:Bool)(w:aah):(CY z fr e w).heap.size=w.heap.size:=by simp[CY]
theorem qK{e:Bool}{o:Obj}(h:w.heap[b]?=some o):(CY z fr e w).heap[b]?=some (pE z fr e b o):=by simp[CY,h]
theorem Std.ren(h:Std c z fr w):c.Ok (idR z fr _ h.aR):=⟨rfl,fun g e=>⟨h.gl g e,rfl⟩⟩
theorem Std.lt(h:Std c z fr w)(hb:z b=true):b<w.heap.size:=by
 cases hf:fr b with
 |none=>obtain⟨d,t,f,e,_⟩:=h.E8 b hb hf;exact(akN.1 e).1
 |some n=>obtain⟨_,d,t,e,_⟩:=h.eO b n hf;exact(akN.1 e).1
theorem Std.cells(h:Std c z fr w)(hb:z b=true):∃d t f,w.heap[b]?=some (.cells d t f):=by
 cases hf:fr b with
 |none=>obtain⟨d,t,f,e,_⟩:=h.E8 b hb hf;exact⟨d,t,f,e⟩
 |some n=>obtain⟨_,d,t,e,_⟩:=h.eO b n hf;exact⟨d,t,_,e⟩
theorem Std.keep(h:Std c z fr w)(hk:∀b,z b=true->w'.heap[b]?=w.heap[b]?):Std c z fr w' where
 aR:=h.aR
 nH:=by
  obtain⟨d,t,f,e⟩:=h.cells h.aR;rw[<-hk _ h.aR]at e;exact(akN.1 e).1
 gl:=h.gl
 E8 b hb hf:=by rw[hk b hb];exact h.E8 b hb hf
 eO b n hf:=by
  obtain⟨a,x⟩:=h.eO b n hf;exact⟨a,by rw[hk b a];exact x⟩
theorem Std.wr0(h:Std c z fr w):WR c.P c.F c.C (fun b=>fr b≠none) (idR z fr _ h.aR) (CY z fr false w) w where
 os:=rfl
 aR:=rfl
 nH:=⟨by rw[iU];exact h.nH,h.nH⟩
 YV a ha:=by
  cases hf:fr a with
  |none=>exact absurd hf ha
  |some n=>rw[iU];exact h.lt (h.eO a n hf).1
 old a ha:=by
  cases hf:fr a with
  |none=>exact absurd hf ha
  |some n=>rw[iU];exact h.lt (h.eO a n hf).1
 obj {a b} x:=by
  obtain⟨hz,rfl⟩:=x;cases hf:fr a with
  |none=>
   obtain⟨d,t,f,e,v⟩:=h.E8 a hz hf;refine⟨_,_,qK e,e,?_⟩;simp only[pE,hf,ar2,akg,if_false,Bool.false_and];exact .own hf sP (.cells t f v)
  |some n=>
   obtain⟨_,d,t,e,hn,h0,hs⟩:=h.eO a n hf;refine⟨_,_,qK e,e,?_⟩;simp only[pE,hf,ar3,if_true];exact .eO t t (by rw[hn];exact hf) sP rfl (by rw[hn];exact h0) hs
theorem Std.wr1(h:Std c z fr w):WR c.P c.F c.C (fun b=>z b=true) (idR z fr _ h.aR) (CY z fr true w) w where
 os:=rfl
 aR:=rfl
 nH:=⟨by rw[iU];exact h.nH,h.nH⟩
 YV a ha:=by rw[iU];exact h.lt ha
 old a ha:=by
  cases hf:fr a with
  |none=>exact absurd hf ha
  |some n=>rw[iU];exact h.lt (h.eO a n hf).1
 obj {a b} x:=by
  obtain⟨hz,rfl⟩:=x;cases hf:fr a with
  |none=>
   obtain⟨d,t,f,e,v⟩:=h.E8 a hz hf;refine⟨_,_,qK e,e,?_⟩;simp only[pE,hf,ar2,akg,if_false,aky,hz,if_true];exact .elder t _ _ hf trivial v ⟨rfl,by show d.size<max (d.size+1) f.2;omega,by show f.2<=max (d.size+1) f.2;omega⟩
  |some n=>
   obtain⟨_,d,t,e,hn,h0,hs⟩:=h.eO a n hf;refine⟨_,_,qK e,e,?_⟩;simp only[pE,hf,ar3,if_true];exact .eO t t (by rw[hn];exact hf) hz rfl (by rw[hn];exact h0) hs
def Seen(z:Nat->Bool)(fr:Nat->Option Nat)(w u:aah):Prop:=u.heap.size=w.heap.size/\∀b d t f,z b=true->fr b=none->w.heap[b]?=some (.cells d t f)->∃f',u.heap[b]?=some (.cells d t f')
theorem GR(e:Bool):Seen z fr w (CY z fr e w):=⟨iU e w,fun b d t f hz hf h=>by
 rw[qK h];simp only[pE,hf,ar2,akg,if_false];cases e
 ·exact⟨f,by simp⟩
 ·exact⟨(0,max (d.size+1) f.2),by simp only[hz,aky,if_true]⟩⟩
def Lone(c:iQ)(z:Nat->Bool)(fr:Nat->Option Nat)(k:ani)(args:Array aai)(v:aai)(w:aah):Prop:=∀u,Seen z fr w u->Calls c.P k args u fun e u'=>e=.returned v/\Go.RowKit.Below u.heap.size u u'
theorem Gl{v:aai}(h:Lone c z fr k args v w)(hs:Seen z fr w u):Good c.P k (fun x u'=>x=v/\∀b,b<w.heap.size->u'.heap[b]?=u.heap[b]?) ⟨aq9 c.P k args .normal,[],u⟩:=
 Go.dO.EZ fun t=>(h (u.on t) ⟨hs.1,hs.2⟩).mono fun e u' ⟨h1,h2⟩=>⟨v,h1,rfl,fun b hb=>h2.block b (by rw[show(u.on t).heap.size=u.heap.size from rfl,hs.1];exact hb)⟩
theorem Cu{Rd S T:aD}(h:AT Rd S e)(k:∀b,S b->T b):AT Rd T e:=by
 cases h with
 |read a=>exact .read (k _ a)
 |write a n=>exact .write (k _ a) n
 |obj a=>exact .obj (k _ a)
 |set a n=>exact .set (k _ a) n
 |ext f=>exact .ext f
 |room=>exact .room
 |O=>exact .O
theorem Way.more{E:bw}{P:ag0}{main:Bool}{Stop nA:aD->ane->aah->Prop}{S T:aD}{g:ane}{w:aah}(h:Way P main E.R E.DW Stop S g w)(hT:∀b,T b->b<w.heap.size)(hs:∀S g w,Stop S g w->nA (aD.or S T) g w):
  Way P main E.R E.DW nA (aD.or S T) g w:=by
 obtain⟨τ,h⟩:=h;refine⟨τ,?_⟩;have rl:∀{S:aD} {w w1:aah},E.R (aD.or S T) w w1->E.R S w w1:=fun h=>⟨fun b hb=>h.blocks b (.inl hb),h.size,h.os,h.live⟩
 induction τ generalizing S g w with
 |leaf=>exact fun w1 hr=>hs _ _ _ (h w1 (rl hr))
 |node f ih=>
  refine⟨h.1,fun w1 hr=>?_⟩;obtain⟨S',g',w',es,e1,e2,e3⟩:=h.2 w1 (rl hr);refine⟨aD.or S' T,g',w',es,e1,⟨?_,?_,e2.size,?_,e2.os,e2.O,e2.tape,fun e he=>Cu (e2.evs e he) fun b hb=>.inl hb⟩,ih w1 (fun b hb=>?_) e3⟩
  ·rintro b (hb|hb)
   ·exact .inl (e2.sub b hb)
   ·exact .inr hb
  ·rintro b (hb|hb)
   ·exact(e2.new b hb).imp .inl id
   ·exact .inl (.inr hb)
  ·rintro b hb (hr|hn)
   ·exact e2.other b hb (.inl hr)
   ·exact e2.other b hb (.inr fun x=>hn (.inl x))
  ·exact ae7 (hT b hb) (aiC hr.size e2.size)
theorem Way.cP{E:bw}{P:ag0}{main:Bool}{Stop nA:aD->ane->aah->Prop}{S T:aD}{g:ane}{w:aah}(h:Way P main E.R E.DW Stop S g w)(hST:∀b,S b->T b)(hT:∀b,T b->b<w.heap.size)(hs:∀S g w,Stop S g w->nA (aD.or S T) g w):
  Way P main E.R E.DW nA T g w:=by
 have e:aD.or S T=T:=funext fun b=>propext ⟨fun h=>h.elim (hST b) id,.inr⟩
 have:=Way.more h hT hs
 rwa[e]at this
theorem aco{E:bw}{main:Bool}{cs:List ary}(hS:c.rE)(h:Std c z fr w)(hZ:∀b,z b=true->E.Rd b)(hRd:∀b,E.Rd b->b<E.N0)(hn:E.N0<=w.heap.size){s:ByteArray}(hk:c.F k)(ha:bW c.F (idR z fr _ h.aR) args args)(hl:Lone c z fr k args (.string s) w){S:aD}(hS0:∀b,E.Rd b->S b)(hS1:∀b,S b->b<w.heap.size):
  Way c.P main E.R E.DW (fun _ g w'=>∃f,g=Go.dO.go f cs/\f.leaving c.P w' (.returned (.string s))/\f.fn=k) S (Go.dO.go (aq9 c.P k args .normal) cs) w:=by
 have hb:nE (aq9 c.P k args .normal) []:=⟨rfl,rfl⟩
 have key:=ao3 (c:=c) (main:=main) (cs:=cs) (E:=E) hS (Z:=fun b=>z b=true) hRd hZ (Gl hl (GR false)) (Gl hl (GR true)) hb h.wr0 h.wr1 h.ren
  (.enter hS.code hk ha .normal (.inl rfl)) (fun a b x=>.inl x) (by rw[iU];exact hn) (by rw[iU];exact hn) hn (fun b hb=>h.cells hb) (fun b hb=>⟨hb,rfl⟩)
  (fun q u w' tp v hw _ hq hR cN b hb=>afY h.wr0 hw ⟨hb,rfl⟩ (hq b hb) (fun hy=>⟨hy,by
   obtain⟨o1,o2,h1,h2,h3⟩:=hw.obj (hq b hb);cases h3 with
   |own _ n _=>exact absurd hy n
   |elder t2 f f' n _ v a=>
    exfalso;have e:=hR.2 b (h.lt hb);obtain⟨n',hn'⟩:=Option.ne_none_iff_exists'.1 hy;obtain⟨_,d,t',e',_⟩:=h.eO b n' hn';rw[show(World.on u tp).heap=u.heap from rfl,h1,qK e']at e;simp only[pE,hn',ar3,if_true]at e;cases e
   |eO t2 t' g _ _ _ _=>rw[g];simp⟩) (hR.2 b (h.lt hb)) (cN b hb))
 refine Way.cP key ?_ hS1 ?_
 ·rintro b (⟨a,x,rfl⟩|hb)
  ·exact hS0 _ (hZ _ x)
  ·exact hS0 _ hb
 ·rintro S g w' ⟨q,u,t,f,v,v',rfl,h1,h2,⟨rfl,_⟩,h3⟩
  cases h2;exact⟨f,rfl,h1,h3⟩
end
open Go.ConcN Go.RowKit Go.Conc.Lib Go.ConcR.Gen Go.ConcN.Gen
open Go.ConcR (KK WgAt stA smA rd wr mk DC0)
variable{E:bw}{L:WgLink}{S:aD}{w0 w w1:aah}{g:ane}
structure KM(E:bw)(L:WgLink)(S:aD)(w0 w:aah):Prop where
 live:arU L.tWg E.wg w
 rel:E.R S w0 w
theorem KM.rl(ht:E.ty=L.tWg)(h:KM E L S w0 w)(r:E.R S w w1):KM E L S w0 w1:=⟨ht▸r.live (ht▸h.live),h.rel.T r⟩
theorem KM.start(h:arU L.tWg E.wg w):KM E L S w w:=⟨h,.refl _ _⟩
theorem NH{Stop:aD->ane->aah->Prop}(h:Goes E.P true (E.R E.Rd) DC0 (Stop E.Rd) n g w):E.jg Stop g w:=
 Way.vu h bw.bg (fun _ _ x=>x) (fun _ _ _ ⟨e1,e2⟩=>by subst e1;subst e2;exact bw.DM.refl _ _) fun _ _ x=>x
theorem vJ{Stop:aD->ane->aah->Prop}(h:Goes E.P true (E.R E.Rd) DC0 (fun g w=>E.jg Stop g w) n g w):E.jg Stop g w:=
 Way.bind (Stop:=fun S g w=>S=E.Rd/\E.jg Stop g w) bw.bg (Way.vu h bw.bg (fun _ _ x=>x) (fun _ _ _ ⟨e1,e2⟩=>by subst e1;subst e2;exact bw.DM.refl _ _) fun _ _ x=>⟨rfl,x⟩) fun _ _ _ ⟨e,x⟩=>by subst e;exact x
theorem bw.R.set{a:Addr}{v:aai}(h:¬ S a.block)(hl:arU E.ty E.wg (w.setCell a v)):E.R S w (w.setCell a v):=by
 have A:=aqj w a v;exact⟨fun b hb=>A.block b fun e=>h (e▸hb),aqe A.size.symm,A.os,fun _=>hl⟩
theorem KM.set(ht:E.ty=L.tWg)(h:KM E L S w0 w){a:Addr}{v:aai}(ha:¬ S a.block)(hl:arU L.tWg E.wg (w.setCell a v)):KM E L S w0 (w.setCell a v):=⟨hl,h.rel.T (.set ha (ht▸hl))⟩
theorem DM.said{a:Addr}(h:a.block=E.wg)(he:e=⟨.mark (.read a),false,true⟩\/e=⟨.mark (.write a),false,true⟩):E.DM S S w w #[e]:=
 ⟨rfl,rfl,fun x hx=>by rw[Array.mem_singleton]at hx;subst hx;exact .inr ⟨a,h,he⟩⟩
variable{Next:aD->ane->aah->Prop}{b₀:ary}{a₀:Act}{ops₀:Array Oper}{i₀:Nat}{rest₀:List Nat}{k₀:List Item}{cs:List ary}
theorem alR(G0:E.Geo)(H:WgLib E.P L)(ht:E.ty=L.tWg)(hw:arU L.tWg E.wg w)(hT:∀w1,E.R E.Rd w w1->E.jg (E.Mgo Next) (G (b₀.at (a₀.put ((ops₀[i₀]?).bind (·.dst)) (.tuple #[])) (.inRegion ops₀ rest₀::k₀)) cs) w1):
  E.jg (E.ady Next) (G ((base L.add).at ⟨#[.pointer (some ⟨E.wg,0,none⟩),.int .i64 1]++apE 115 agp,[]⟩ [.code (body_add L)]) (b₀.at a₀ (.inRegion ops₀ (i₀::rest₀)::k₀)::cs)) w:=by
 have hF:KM E L E.Rd w w:=.start hw;have r {a b:aah}:= @KM.rl E L E.Rd w a b ht;have hS:¬ E.Rd E.wg:=fun h=>(G0.rd _ h).2.1 rfl
 lib_facts
 simp only[body_add,addFn,alV]
 walk_nrm
 refine NH (n:=12) ?_
 u_c arx r hF;u_cond true r hF;u_c arx r hF;u_c arx r hF;u_reg r hF;u_op r hF;u_op r hF;u_c arw r hF;u_cond false r hF;u_c arC r hF;u_c arx r hF;u_reg r hF
 refine Goes.stop (fun cG aJ=>?_)
 replace hF:=r hF aJ
 clear aJ;refine⟨rfl,_,asb .disable sP rfl rfl (by k_ne) rfl H.f_disable (x_disable_n L) (x_disable_b L) (x_disable_x L) (x_disable_f L),?_⟩
 walk_nrm
 refine NH (n:=60) ?_
 u_c arw r hF;u_reg r hF;u_defer r hF;u_c arw r hF;u_c arx r hF;u_reg r hF;u_op r hF;u_c arw r hF;u_c arx r hF;u_c arx r hF;u_reg r hF;u_bub r hF;u_c arw r hF;u_cond false r hF;u_c arC r hF;u_c arx r hF;u_reg r hF;(iterate 6 u_op r hF)
 u_call H.f_uAdd (nm_uAdd L) uAddFn r hF
 u_c arx r hF;u_reg r hF;u_op r hF;u_c arw r hF;u_c arx r hF;u_reg r hF;(iterate 4 u_op r hF)
 refine Goes.stop (fun cG aJ=>?_)
 replace hF:=r hF aJ
 clear aJ;refine⟨rfl,fun v hv hw=>?_⟩;rw[ht]at hw;rcases arV v with rfl|hvp
 ·replace hw:WgAt L.tWg E.wg cG 0 0:=by simpa using hw
  have z:(((0:Nat):Int)+1)*KK=KK:=by simp
  rw[z];have e0:IntKind.u64.wrap (0+4294967296)=KK:=by decide
  refine⟨_,(stepG_add_atomic rfl rfl (by k_ne) rfl H.f_addU64 (x_addU64_n L) (x_addU64_b L) (x_addU64_x L) .u64 (x_addU64_f L) rfl rfl hw.cellSt (hw.thaw 0)).T (by rw[e0];rfl),?_⟩
  replace hF:=hF.set ht (a:=stA E.wg) (v:=.int .u64 KK) hS ⟨_,_,hw.setSt _⟩
  clear hw;simp only[KK]at hF ⊢
  walk_nrm
  refine vJ (n:=110) ?_
  u_op r hF;u_c arw r hF;u_c arJ r hF
  u_leave1 H.f_uAdd r hF
  u_op r hF;u_c arw r hF;u_c arx r hF;u_c arx r hF;u_reg r hF;(iterate 4 u_op r hF);u_skip r hF;u_skip r hF;u_op r hF;u_c arw r hF;u_cond false r hF;u_c arC r hF;u_c arx r hF;u_reg r hF;(iterate 4 u_op r hF);u_c arw r hF;u_c arx r hF;u_reg r hF;(iterate 4 u_op r hF);u_c arw r hF;u_c arx r hF;u_c arx r hF;u_reg r hF;(iterate 10 u_op r hF);u_c arw r hF;u_cond true r hF;u_reg r hF;(iterate 3 u_op r hF)
  u_in r hF
  refine asc rfl rfl (by k_ne) (fun Kx Qd=>?_);have hcv:=arQ (P:=E.P) H.underlying_tPU32 H.underlying_tUP H.room_tU32 (WgLive.cell1 hF.live).choose_spec;have Qg:=fun es=>arL (P:=E.P) H.underlying_tPU32 H.underlying_tUP H.room_tU32 (WgLive.cell1 hF.live).choose_spec es
  go_simp;refine Qd _ _ ⟨?_,?_⟩
  ·u_none
   intro ex hex;have RX:=asn hex;simp[go_sem,Qg]at RX
  clear Qd Kx hcv Qg;refine Goes.stop (fun cG aJ=>?_)
  replace hF:=r hF aJ
  clear aJ;refine Way.step rfl fun fQ bl=>⟨E.Rd,_,_,_,ar9 .read sP rfl rfl (by k_ne) rfl H.f_raceRead (x_raceRead_n L) (x_raceRead_b L) (x_raceRead_x L) (x_raceRead_f L) (ad:=⟨E.wg,1,none⟩) (by simp[agl]),DM.said rfl (.inl rfl),?_⟩
  replace hF:=r hF bl
  clear bl
  walk_nrm
  refine NH (n:=60) ?_
  u_c arw r hF;u_c arx r hF;u_c arx r hF;u_reg r hF;u_op r hF;u_op r hF;u_c arw r hF;u_cond false r hF;u_c arC r hF;u_c arx r hF;u_c arx r hF;u_reg r hF;(iterate 3 u_op r hF);u_skip r hF;u_skip r hF;u_op r hF;u_op r hF;(iterate 4 u_skip r hF);u_op r hF;u_c arw r hF;u_cond false r hF;u_c arC r hF;u_c arx r hF;u_c arx r hF;u_reg r hF;(iterate 3 u_op r hF);u_skip r hF;u_skip r hF;u_op r hF;u_c arw r hF;u_cond true r hF;u_c arJ r hF
  refine Goes.stop (fun cG aJ=>?_)
  replace hF:=r hF aJ
  clear aJ;refine⟨rfl,_,stepG_unwind_entry (v:=.tuple #[]) (evs:=#[mk .enable]) rfl H.f_enable (aso L) (asp L) (asq L) (asr L) (by simp[Extern.Race.none_]) (by simp[mk]) (by simp[mk]),?_⟩;refine vJ (n:=3) ?_
  u_leave0 H.f_add r hF
  exact Goes.stop fun YM afb=>hT _ (r hF afb).rel
 ·obtain⟨V,hV⟩:∃V:Int,V=(v:Int)+1:=⟨_,rfl⟩
  obtain⟨S,IA⟩:∃S:Int,S=V*KK:=⟨_,rfl⟩;have eS:IntKind.u64.wrap ((v:Int)*KK+4294967296)=S:=by rw[IntKind.wrap_u64,IA,hV];simp only[KK];omega
  rw[<-hV,<-IA];have a1:S / 4294967296=V:=by rw[IA];simp only[KK];omega
  have b1:bits .and .u64 S 2147483648=0:=by rw[IA,hV];have:=st_flag (v+1) 0 oM oM;simpa[KK]using this
  have b2:bits .and .u64 S 2147483647=0:=by rw[IA,hV];have:=st_waiters (v+1) 0 oM oM;simpa[KK]using this
  have c1:IntKind.i32.wrap V=V:=by rw[IntKind.wrap_i32];omega
  have hV1:1<V:=by omega
  have hV2:V<2147483648:=by omega
  have q1:(V == 1)=false:=by simp;omega
  have q2:decide (V=1)=false:=decide_eq_false oM;have q3:decide (V<0)=false:=decide_eq_false oM;have q4:decide (0<V)=true:=decide_eq_true oM;have q5:(V == 0)=false:=by simp;omega
  have q6:decide (V=0)=false:=decide_eq_false oM;refine⟨_,(stepG_add_atomic rfl rfl (by k_ne) rfl H.f_addU64 (x_addU64_n L) (x_addU64_b L) (x_addU64_x L) .u64 (x_addU64_f L) rfl rfl hw.cellSt (hw.thaw 0)).T (by rw[eS];rfl),?_⟩
  replace hF:=hF.set ht (a:=stA E.wg) (v:=.int .u64 S) hS ⟨_,_,hw.setSt _⟩
  clear hw IA hV eS
  walk_nrm
  refine NH (n:=110) ?_
  u_op r hF;u_c arw r hF;u_c arJ r hF
  u_leave1 H.f_uAdd r hF
  u_op r hF;u_c arw r hF;u_c arx r hF;u_c arx r hF;u_reg r hF;(iterate 4 u_op r hF);u_skip r hF;u_skip r hF;u_op r hF;u_c arw r hF;u_cnd false r hF;u_c arC r hF;u_c arx r hF;u_reg r hF;(iterate 4 u_op r hF);u_c arw r hF;u_c arx r hF;u_reg r hF;(iterate 4 u_op r hF);u_c arw r hF;u_c arx r hF;u_c arx r hF;u_reg r hF;(iterate 10 u_op r hF);u_c arw r hF;u_cnd false r hF;u_c arC r hF;u_c arx r hF;u_c arx r hF;u_reg r hF;u_op r hF;u_op r hF;u_c arw r hF;u_cnd false r hF;u_c arC r hF;u_c arx r hF;u_c arx r hF;u_reg r hF;(iterate 3 u_op r hF);u_skip r hF;u_skip r hF;u_op r hF;u_op r hF;(iterate 4 u_skip r hF);u_op r hF;u_c arw r hF;u_cnd false r hF;u_c arC r hF;u_c arx r hF;u_c arx r hF;u_reg r hF;(iterate 3 u_op r hF);u_skip r hF;u_skip r hF;u_op r hF;u_c arw r hF;u_cnd true r hF;u_c arJ r hF
  refine Goes.stop (fun cG aJ=>?_)
  replace hF:=r hF aJ
  clear aJ;refine⟨rfl,_,stepG_unwind_entry (v:=.tuple #[]) (evs:=#[mk .enable]) rfl H.f_enable (aso L) (asp L) (asq L) (asr L) (by simp[Extern.Race.none_]) (by simp[mk]) (by simp[mk]),?_⟩;refine vJ (n:=3) ?_
  u_leave0 H.f_add r hF
  exact Goes.stop fun YM afb=>hT _ (r hF afb).rel
open Go.ConcR (KK WgAt stA smA rd wr mk DC0)
variable{E:bw}{L:WgLink}{S:aD}{w0 w w1:aah}{g:ane}{b₀:ary}{a₀:Act}{ops₀:Array Oper}{i₀:Nat}{rest₀:List Nat}{k₀:List Item}{cs:List ary}
def Pw(E:bw)(L:WgLink)(w0:aah)(c:ary)(cs:List ary)(g:ane)(w:aah):Prop:=
 ∃T:Array aai,g=G ((base L.wait).at ⟨T,[]⟩ [.code (L7 L),.inLoop (L7 L),.inBlock 0]) (c::cs)/\T.size=84/\T[0]?=some (.pointer (some ⟨E.wg,0,none⟩))/\KM E L E.Rd w0 w
def ag4(P:ag0)(e g:ane):Prop:=∀w,Goes P true (fun _ _=>True) DC0 (fun g' _=>g'=e) 40 g w
theorem Pn(H:WgLib E.P L)(ht:E.ty=L.tWg)(hF:KM E L E.Rd w0 w):
  E.jg (E.Mkd (Pw E L w0 (b₀.at a₀ (.inRegion ops₀ (i₀::rest₀)::k₀)) cs)) (G ((base L.wait).at ⟨#[.pointer (some ⟨E.wg,0,none⟩)]++apE 83 agp,[]⟩ [.code (asP L)]) (b₀.at a₀ (.inRegion ops₀ (i₀::rest₀)::k₀)::cs)) w:=by
 have r {a b:aah}:= @KM.rl E L E.Rd w0 a b ht
 lib_facts
 simp only[asP,waitFn,alV]
 walk_nrm
 refine NH (n:=3) ?_
 u_c arx r hF;u_cond true r hF;u_reg r hF
 refine Goes.stop (fun cG aJ=>?_)
 replace hF:=r hF aJ
 clear aJ;refine⟨rfl,_,asb .disable sP rfl rfl (by k_ne) rfl H.f_disable (x_disable_n L) (x_disable_b L) (x_disable_x L) (x_disable_f L),?_⟩
 walk_nrm
 refine NH (n:=3) ?_
 u_c arw r hF;u_c stepG_block r hF;u_c stepG_loop r hF
 exact Goes.stop (fun fQ bl=>⟨_,rfl,by simp,by simp,r hF bl⟩)
theorem Pm(G0:E.Geo)(H:WgLib E.P L)(ht:E.ty=L.tWg)(g:ane)(w:aah)(h:Pw E L w0 (b₀.at a₀ (.inRegion ops₀ (i₀::rest₀)::k₀)) cs g w):
  E.jg (E.YT (ag4 E.P (G (b₀.at (a₀.put ((ops₀[i₀]?).bind (·.dst)) (.tuple #[])) (.inRegion ops₀ rest₀::k₀)) cs)) (Pw E L w0 (b₀.at a₀ (.inRegion ops₀ (i₀::rest₀)::k₀)) cs)) g w:=by
 have r {a b:aah}:= @KM.rl E L E.Rd w0 a b ht;have t (_ _:True):True:=trivial;have hS:¬ E.Rd E.wg:=fun h=>(G0.rd _ h).2.1 rfl
 lib_facts
 obtain⟨T,rfl,amO,t0,hF⟩:=h;obtain⟨v0,v1,v2,v3,v4,v5,v6,v7,v8,v9,v10,v11,v12,v13,v14,v15,v16,v17,EC,ED,v20,v21,v22,FF,v24,EE,v26,JD,v28,Hq,v30,v31,v32,v33,JE,v35,Hr,v37,Hs,Ht,v40,v41,FG,v43,v44,v45,v46,v47,v48,v49,v50,v51,v52,v53,v54,v55,v56,v57,v58,v59,v60,v61,v62,v63,v64,v65,v66,v67,v68,v69,v70,v71,v72,v73,v74,v75,v76,v77,v78,v79,v80,v81,v82,v83,rfl⟩:=array84 T amO;simp only[List.getElem?_toArray,List.getElem?_cons_zero,akk]at t0;subst t0;simp only[L7,asP,waitFn,alV];refine NH (n:=30) ?_
 u_c stepG_block r hF;u_c arx r hF;u_reg r hF;(iterate 3 u_op r hF)
 u_call H.f_uLoad (nm_uLoad L) uLoadFn r hF
 u_c arx r hF;u_reg r hF;u_op r hF;u_c arw r hF;u_c arx r hF;u_reg r hF;(iterate 3 u_op r hF)
 refine Goes.stop (fun cG aJ=>?_)
 replace hF:=r hF aJ
 clear aJ;refine⟨rfl,fun v hv hw=>?_⟩;rw[ht]at hw;rcases arV v with rfl|hvp
 ·replace hw:WgAt L.tWg E.wg cG 0 0:=by simpa using hw
  refine⟨_,ar5 (v:=0) rfl rfl (by k_ne) rfl H.f_loadU64 (asx L) (asy L) (asz L) .u64 (asA L) rfl hw.cellSt,fun _=>?_,fun h=>absurd rfl h⟩;clear hw
  walk_nrm
  refine NH (n:=50) ?_
  u_op r hF;u_c arw r hF;u_c arJ r hF
  u_leave1 H.f_uLoad r hF
  u_op r hF;u_c arw r hF;u_c arx r hF;u_reg r hF;(iterate 4 u_op r hF);u_c arw r hF;u_c arx r hF;u_reg r hF;(iterate 4 u_op r hF);u_c arw r hF;u_c arx r hF;u_c arx r hF;u_reg r hF;u_op r hF;u_op r hF;u_c arw r hF;u_cond true r hF;u_c arx r hF;u_cond true r hF;u_c arx r hF;u_reg r hF
  refine Goes.stop (fun cG aJ=>?_)
  replace hF:=r hF aJ
  clear aJ;refine⟨rfl,_,asb .enable sP rfl rfl (by k_ne) rfl H.f_enable (aso L) (asp L) (asq L) (asr L),?_⟩
  walk_nrm
  refine NH (n:=12) ?_
  u_c arw r hF;u_reg r hF;u_op r hF
  u_in r hF
  refine asc rfl rfl (by k_ne) (fun Kx Qd=>?_);have hcv:=arQ (P:=E.P) H.underlying_tWgP H.underlying_tUP H.room_tWg (WgLive.cell0 hF.live).choose_spec;have Qg:=fun es=>arL (P:=E.P) H.underlying_tWgP H.underlying_tUP H.room_tWg (WgLive.cell0 hF.live).choose_spec es
  go_simp;refine Qd _ _ ⟨?_,?_⟩
  ·u_none
   intro ex hex;have RX:=asn hex;simp[go_sem,Qg]at RX
  clear Qd Kx hcv Qg;refine Goes.stop (fun cG aJ=>?_)
  replace hF:=r hF aJ
  clear aJ;refine⟨rfl,_,ar9 .acquire sP rfl rfl (by k_ne) rfl H.f_acquire (x_acquire_n L) (x_acquire_b L) (x_acquire_x L) (x_acquire_f L) (by simp[agl,stA]),fun YM=>?_⟩;have hT:True:=trivial
  walk_nrm
  u_c arw t hT;u_c arx t hT;u_c arx t hT;u_reg t hT;(iterate 8 u_op t hT);u_skip t hT;u_skip t hT;u_op t hT;u_c arw t hT;u_cond false t hT;u_c arC t hT;u_c arJ t hT
  u_leave0 H.f_wait t hT
  exact Goes.stop fun _ _=>rfl
 ·obtain⟨S,IA⟩:∃S:Int,(v:Int)*KK=S:=⟨_,rfl⟩
  have a1:S / 4294967296=(v:Int):=by rw[<-IA];simp only[KK];omega
  have b1:bits .and .u64 S 2147483648=0:=by rw[<-IA];have:=st_flag v 0 oM oM;simpa[KK]using this
  have b2:bits .and .u64 S 2147483647=0:=by rw[<-IA];have:=st_waiters v 0 oM oM;simpa[KK]using this
  have c1:IntKind.i32.wrap (v:Int)=(v:Int):=by rw[IntKind.wrap_i32];omega
  have w1:IntKind.u64.wrap (S+1)=S+1:=by rw[IntKind.wrap_u64,<-IA];simp only[KK];omega
  have q3:decide ((v:Int)<0)=false:=decide_eq_false oM;have q4:decide (0<(v:Int))=true:=decide_eq_true oM;have q5:((v:Int) == 0)=false:=by simp;omega
  have q6:decide ((v:Int)=0)=false:=decide_eq_false oM;rw[IA]at hw;refine⟨_,ar5 (v:=S) rfl rfl (by k_ne) rfl H.f_loadU64 (asx L) (asy L) (asz L) .u64 (asA L) rfl hw.cellSt,fun h0=>absurd h0 oM,fun _=>?_⟩;clear hw
  walk_nrm
  refine NH (n:=60) ?_
  u_op r hF;u_c arw r hF;u_c arJ r hF
  u_leave1 H.f_uLoad r hF
  u_op r hF;u_c arw r hF;u_c arx r hF;u_reg r hF;(iterate 4 u_op r hF);u_c arw r hF;u_c arx r hF;u_reg r hF;(iterate 4 u_op r hF);u_c arw r hF;u_c arx r hF;u_c arx r hF;u_reg r hF;u_op r hF;u_op r hF;u_c arw r hF;u_cnd false r hF;u_c arC r hF;u_c arx r hF;u_reg r hF;(iterate 6 u_op r hF)
  u_call H.f_uCas (nm_uCas L) uCasFn r hF
  u_c arx r hF;u_reg r hF;u_op r hF;u_c arw r hF;u_c arx r hF;u_reg r hF;(iterate 5 u_op r hF)
  refine Goes.stop (fun cG aJ=>?_)
  replace hF:=r hF aJ
  clear aJ;refine⟨rfl,fun v' Y6 hw=>⟨fun e=>?_,fun e=>?_⟩⟩
  ·subst e
   (rw[ht,IA]at hw;rw[IA];refine⟨_,(stepG_cas_hit (v:=S) (n:=S+1) rfl rfl (by k_ne) rfl H.f_casU64 (x_casU64_n L) (x_casU64_b L) (x_casU64_x L) .u64 (x_casU64_f L) rfl rfl rfl hw.cellSt (hw.thaw 0)).T (by rfl),?_⟩);replace hF:=hF.set ht (a:=stA E.wg) (v:=.int .u64 (S+1)) hS ⟨_,_,hw.setSt _⟩;clear hw;walk_nrm;refine vJ (n:=70) ?_;u_op r hF;u_c arw r hF;u_c arJ r hF;u_leave1 H.f_uCas r hF;(u_c arw r hF;u_cond true r hF;u_c arx r hF;u_c arx r hF;u_reg r hF;(iterate 4 u_op r hF);u_c arw r hF;u_cond true r hF;u_reg r hF;(iterate 3 u_op r hF));u_in r hF;(refine asc rfl rfl (by k_ne) (fun Kx Qd=>?_);have hcv:=arQ (P:=E.P) H.underlying_tPU32 H.underlying_tUP H.room_tU32 (WgLive.cell1 hF.live).choose_spec;have Qg:=fun es=>arL (P:=E.P) H.underlying_tPU32 H.underlying_tUP H.room_tU32 (WgLive.cell1 hF.live).choose_spec es);go_simp;refine Qd _ _ ⟨?_,?_⟩
   ·u_none
    intro ex hex;have RX:=asn hex;simp[go_sem,Qg]at RX
   (clear Qd Kx hcv Qg;refine Goes.stop (fun cG aJ=>?_));replace hF:=r hF aJ;(clear aJ;refine Way.step rfl fun fQ bl=>⟨E.Rd,_,_,_,ar9 .write sP rfl rfl (by k_ne) rfl H.f_raceWrite (x_raceWrite_n L) (x_raceWrite_b L) (x_raceWrite_x L) (x_raceWrite_f L) (ad:=⟨E.wg,1,none⟩) (by simp[agl]),DM.said rfl (.inr rfl),?_⟩);replace hF:=r hF bl;clear bl;walk_nrm;refine NH (n:=60) ?_;(u_c arw r hF;u_c arx r hF;u_reg r hF;u_op r hF;u_c arw r hF;u_c arx r hF;u_c arx r hF;u_reg r hF;(iterate 4 u_op r hF);u_skip r hF;u_op r hF;u_c arw r hF;u_cond false r hF;u_c arC r hF;u_c arx r hF;u_reg r hF;(iterate 4 u_op r hF));(refine Goes.stop (fun cG aJ=>?_));replace hF:=r hF aJ;(clear aJ;refine⟨rfl,rfl,fun⟨st,hw⟩=>stepG_semacquire_wait rfl rfl rfl H.f_semacquire (x_semacquire_n L) (x_semacquire_b L) (x_semacquire_x L) (x_semacquire_f L) (by simp[agl,smA]) hw.cellSm,fun hf=>?_⟩;rw[ht]at hf;refine⟨_,(stepG_semacquire (n:=1) rfl rfl (by k_ne) rfl H.f_semacquire (x_semacquire_n L) (x_semacquire_b L) (x_semacquire_x L) (x_semacquire_f L) (by simp[agl,smA]) hf.cellSm (by k_ne) (hf.thaw 1)).T (by rfl),?_⟩);replace hF:=hF.set ht (a:=smA E.wg) (v:=.int .u32 0) hS ⟨_,_,hf.setSm 0⟩;clear hf;walk_nrm;refine NH (n:=30) ?_;(u_c arw r hF;u_c arx r hF;u_reg r hF;(iterate 3 u_op r hF));u_call H.f_uLoad (nm_uLoad L) uLoadFn r hF;(u_c arx r hF;u_reg r hF;u_op r hF;u_c arw r hF;u_c arx r hF;u_reg r hF;(iterate 3 u_op r hF));(refine Goes.stop (fun cG aJ=>?_));replace hF:=r hF aJ;(clear aJ;refine⟨rfl,fun hw=>?_⟩;rw[ht]at hw;refine⟨_,ar5 (v:=0) rfl rfl (by k_ne) rfl H.f_loadU64 (asx L) (asy L) (asz L) .u64 (asA L) rfl hw.cellSt,?_⟩;clear hw);walk_nrm;refine NH (n:=30) ?_;u_op r hF;u_c arw r hF;u_c arJ r hF;u_leave1 H.f_uLoad r hF;u_op r hF;u_op r hF;u_c arw r hF;u_c arx r hF;u_cond true r hF;u_c arx r hF;u_reg r hF;(refine Goes.stop (fun cG aJ=>?_));replace hF:=r hF aJ;(clear aJ;refine⟨rfl,_,asb .enable sP rfl rfl (by k_ne) rfl H.f_enable (aso L) (asp L) (asq L) (asr L),?_⟩);walk_nrm;refine NH (n:=12) ?_;u_c arw r hF;u_reg r hF;u_op r hF;u_in r hF;(refine asc rfl rfl (by k_ne) (fun Kx Qd=>?_);have hcv:=arQ (P:=E.P) H.underlying_tWgP H.underlying_tUP H.room_tWg (WgLive.cell0 hF.live).choose_spec;have Qg:=fun es=>arL (P:=E.P) H.underlying_tWgP H.underlying_tUP H.room_tWg (WgLive.cell0 hF.live).choose_spec es);go_simp;refine Qd _ _ ⟨?_,?_⟩
   ·u_none
    intro ex hex;have RX:=asn hex;simp[go_sem,Qg]at RX
   (clear Qd Kx hcv Qg;refine Goes.stop (fun cG aJ=>?_));replace hF:=r hF aJ;(clear aJ;refine⟨rfl,_,ar9 .acquire sP rfl rfl (by k_ne) rfl H.f_acquire (x_acquire_n L) (x_acquire_b L) (x_acquire_x L) (x_acquire_f L) (by simp[agl,stA]),fun YM=>?_⟩;have hT:True:=trivial);walk_nrm;u_c arw t hT;u_c arx t hT;u_c arx t hT;u_reg t hT;u_op t hT;u_c arw t hT;u_cond false t hT;u_c arC t hT;u_c arJ t hT;u_leave0 H.f_wait t hT;exact Goes.stop fun _ _=>rfl
  ·rw[ht]at hw
   (refine⟨_,stepG_cas_miss (v:=(v':Int)*KK) (old:=S) (n:=S+1) rfl rfl (by k_ne) rfl H.f_casU64 (x_casU64_n L) (x_casU64_b L) (x_casU64_x L) .u64 (x_casU64_f L) rfl rfl rfl hw.cellSt (hw.thaw 0) (by rw[<-IA];simp only[KK];omega),?_⟩;clear hw);walk_nrm;refine NH (n:=20) ?_;u_op r hF;u_c arw r hF;u_c arJ r hF;u_leave1 H.f_uCas r hF;u_c arw r hF;u_cond false r hF;u_c arC r hF;u_c stepG_inBlock r hF;u_c stepG_inLoop r hF;exact Goes.stop fun af9 aoo=>⟨_,rfl,by simp,by simp,r hF aoo⟩
end Go.gT
