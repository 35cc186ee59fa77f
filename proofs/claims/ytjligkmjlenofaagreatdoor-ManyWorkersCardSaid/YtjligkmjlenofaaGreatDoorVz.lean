/-
  ManyWorkers: however many workers there are, each text's answers are its own: the statement of the card, for every input.
-/
import Derived.Test.YtjligkmjlenofaaGreatDoorV21
import Derived.Test.YtjligkmjlenofaaGreatDoorV17
set_option maxRecDepth 100000
open Option.some renaming inj->ahK
open Go renaming trodAll_cons_mk->at1
open Go.WideElems renaming Trod_stays->at2
open Go.ChangeShapes renaming trodAll_cons->at4
namespace Go.Proofs.YtjligkmjlenofaaGreatDoor.workers
open Go.Proofs.Tryz
open Go.ChangeShapes Go.WideShapes Go.ChangeAt Go.RowKit Go.Deep Go.Conc
open Go.gT (Std Lone Seen)
section
variable{W w:World}{z:Nat->Bool}{fr:Nat->Option Nat}
theorem aaV(hL:laidMetH prog Rows.manyWorkersRow.laid W)(mQ:W.ShapedOpen prog)(hz:∀b,b<10->z b=true)(hf:∀b,b<10->fr b=none)(hc:∀b,b<10->∃d t f,W.heap[b]?=some (.cells d t f))(hw:∀b,z b=true->w.heap[b]?=W.heap[b]?)(s:ByteArray)(hs:s.size<=2000):
  Lone Es z fr 6 #[.string s] (.string (Dm s.data.toList)) w:=by
 intro u hu
 have hb:∀b,b<10->∃d t f f',W.heap[b]?=some (.cells d t f)/\u.heap[b]?=some (.cells d t f'):=by
  intro b hb;obtain⟨d,t,f,e⟩:=hc b hb;obtain⟨f',e'⟩:=hu.2 b d t f (hz b hb) (hf b hb) ((hw b (hz b hb)).T e);exact⟨d,t,f,f',e,e'⟩
 have look:∀b o,b<10->u.cell? ⟨b,o,none⟩=W.cell? ⟨b,o,none⟩:=by
  intro b o h;obtain⟨d,t,f,f',e,e'⟩:=hb b h;simp[World.cell?,e,e']
 have he:ey u:=(look 0 0 oM).T (Ap hL)
 have cq:eN u:=by
  have:=Ji hL;unfold eN Lib.TabIs World.var? at*;simp only[Ee,Option.bind_some]at this ⊢;obtain⟨d,t,f,f',e,e'⟩:=hb 6 oM;rw[e]at this;rw[e'];exact this
 have iV:gp u:=by
  obtain⟨m,hm⟩:gp W:=Ab.s1_3 W mQ;exact⟨m,(look 3 0 oM).T hm⟩
 have iE:bX u:=by
  obtain⟨⟨a,b,h1⟩,c,d,h2⟩:=Ip hL;exact⟨⟨a,b,(look 4 0 oM).T h1⟩,c,d,(look 5 0 oM).T h2⟩
 exact(S8 u ⟨cq,iV,iE,cq.lt,iV.lt,iE.lt.1,iE.lt.2⟩ he he.lt s oM).mono fun e w' h=>⟨h.1.1,h.2⟩
end
theorem afL:Dm (⟨#[120,10]⟩:ByteArray).data.toList=⟨#[101,114,114,111,114,32,51,10]⟩:=kR
theorem aby{W:World}(hL:laidMetH prog Rows.manyWorkersRow.laid W)(mQ:W.ShapedOpen prog):∃z fr,mV W z fr (fun s=>Dm s.data.toList) fun _=>False:=by
 obtain⟨a5,a4,s5,s4,c5,c4,t5,t4,h5,h4,e5,_,_,e4,_,_,_,b5,b4⟩:=laid_sentinels2 (show laidMet prog J' W from(oy hL).1).tail.tail.tail.tail (show prog.globalNamed "strconv.ErrRange"=some 5 by kernel_rfl) (show(prog.globals[5]?).map (·.type)=some 24 by kernel_rfl) (show prog.globalNamed "strconv.ErrSyntax"=some 4 by kernel_rfl) (show(prog.globals[4]?).map (·.type)=some 24 by kernel_rfl) underlying24 OB underlying261 underlying263 rfl rfl underlying9 kR kR;obtain⟨G_,hf⟩:=af0 mQ (Ap hL) h4 h5 e4 e5 b4 b5;have hz:∀b,b<10->zB a4.block a5.block b=true:=fun b hb=>YN hb
 exact⟨_,_,G_,fun _ _ h=>h,fun _ h=>h.elim,fun w s hs hw=>aaV hL mQ hz hf (fun b hb=>G_.cells (hz b hb)) hw s hs,afL⟩
theorem adN:prog.cellsOf 9=1:=kR
theorem Vb(H:Type)(enc:TypeId×Value->H)(W:World)(base:Nat)(args:Array Value)(ds gs:List (DataW H))(before:List MemPlace)(R5:∀(j:Nat) t v,Tryz.f3.params[j]?=some t->args[j]?=some v->Value.okWide prog W .any base t v)(hW:DataW.Whole enc prog Tryz.f3.params.toList Rows.manyWorkersSpec.vars false W args.toList ds gs before)(hL:laidMetH prog Rows.manyWorkersRow.laid W)(mQ:W.ShapedOpen prog):
  ∃M last o w' t',runNT prog (M+1) (solo (G (Frame.enter prog 3 args .normal) []) W) #[]=(.ended o w',t')/\runN prog M (solo (G (Frame.enter prog 3 args .normal) []) W)=.next last/\
   step prog last=.ended o w'/\Conc.Good prog (fun v W'=>Rows.manyWorkersSpec.post enc prog Tryz.f3 false true false false W args v W') last o w' t':=by
 have hW':=hW;obtain⟨p,q,hA0,hV,rfl,hfz,hnd⟩:=hW;have hA:DataW.TrodAll enc prog W 0 (fun _=>true) true Tryz.f3.params.toList args.toList ds p:=hA0;rw[params3]at hA R5;obtain⟨v0,vs0,d0,ds0,p0,q0,VO,rfl,rfl,h0,r0⟩:=at4 hA;obtain⟨v1,vs1,d1,ds1,p1,q1,rfl,rfl,rfl,h1,r1⟩:=at4 r0;obtain⟨v2,vs2,d2,ds2,p2,q2,rfl,rfl,rfl,h2,r2⟩:=at4 r1;obtain⟨rfl,rfl,rfl⟩:=trodAll_nil r2;obtain rfl:args=#[v0,v1,v2]:=by cases args;simp_all
 obtain⟨rfl,rfl⟩:=trodVars_none hV;obtain⟨a0,n,cap,rfl⟩:=okWide_slice underlying22 (R5 0 22 v0 rfl rfl);obtain⟨wk,rfl⟩:=okWide_int underlying3 (R5 1 3 v1 rfl rfl);obtain⟨ot,rfl⟩:=okWide_int underlying3 (R5 2 3 v2 rfl rfl);clear hA0
 obtain⟨L,Jw⟩:∃L:Nat->ByteArray,∀i,i<n->∃ad,a0=some ad/\Reads W (fun _=>False) ad L n:=by
  have h0':=h0;obtain⟨fuel,hf⟩:=h0';rcases open_strs underlying22 underlying9 adN hf with⟨mX,_⟩|⟨a,len,wF,m,Sx,mX,_,hl,_,hm,_,qD⟩
  ·simp[Value.cells]at mX
   obtain⟨rfl,rfl,rfl⟩:=mX;exact⟨fun _=>⟨#[]⟩,fun i hi=>absurd hi (Nat.not_lt_zero i)⟩
  ·simp[Value.cells]at mX
   (obtain⟨rfl,rfl,rfl⟩:=mX;simp only[if_true]at hm;refine⟨Sx,fun i hi=>⟨a,rfl,?_,id,fun j hj=>(qD j oM).1⟩⟩;have:=World.block_lt_of_cell? W _ (qD i oM).1);rwa[ZB]at this
 obtain⟨z,fr,hK⟩:=aby hL mQ;obtain⟨M,last,o,w',t',k1,k2,k3,k4⟩:=WM (cap:=cap) (wk:=wk) (ot:=ot) hK Jw;refine⟨M,last,o,w',t',k1,k2,k3,k4.mono fun v hv=>?_⟩;obtain⟨rfl,zv⟩:=hv
 refine Fa (pa:=(p0++(p1++(p2++[])))) (pv:=[]) hW' (fun _ _ _=>at1 (shut_bool underlying4 _) trodAll_mk0)
  (fun sp hsp=>?_)
  (fun _ _=>rfl) sP zv (ok_one kR rfl (okWide_bool_mk underlying4 _))
 have aE:=hW'.lt;refine at1 (at2 CS kR (of_decide_eq_true kR) h0 (fun x hx=>zv.same (aE x (by simp[hx]))) (fun x hx=>hsp x (by simp[hx]))) ?_;refine at1 (at2 CS kR (of_decide_eq_true kR) h1 (fun x hx=>zv.same (aE x (by simp[hx]))) (fun x hx=>hsp x (by simp[hx]))) ?_;exact at1 (at2 CS kR (of_decide_eq_true kR) h2 (fun x hx=>zv.same (aE x (by simp[hx]))) (fun x hx=>hsp x (by simp[hx]))) trodAll_mk0
theorem lifted(os:Os)(started:os.Started)(H:Type)(enc:TypeId×Value->H):
  ReturnsInLeavingWide {} Tryz.checked os 3 .any ((OpenSpec.ofChange Rows.manyWorkersSpec).preRow enc prog Tryz.f3 Rows.manyWorkersRow.domain false Rows.manyWorkersRow.laid) (Rows.manyWorkersSpec.post enc prog Tryz.f3 false true false false):=by
 obtain⟨places,hx⟩:=reads os enc
 refine returnsInLeavingWide_of_good Xq started
  (witness_row_at (enc:=enc) (C:=Tryz.checked) false (zy os) II rfl kR kR kR
   (OpenSpec.preRow_of_cond 8 hx kR (fun k hk=>by cases hk) kR (WA os))) ?_
 intro w tape i _ mQ _ fR anG _;obtain⟨_,_,_,fn',NO,_,_,_,_,R5⟩:=fR;have e:fn'=Tryz.f3:=ahK (NO.symm.T func3);subst e;obtain⟨⟨hp,hl⟩,_⟩:=anG;obtain⟨ds,gs,before,hw,_,_⟩:=OpenSpec.pre_parts hp;have hw':=DataW.Whole.of_heap (w':=w.forCall tape i) (by rfl) hw;obtain⟨M,last,o,w',t',h1,h2,h3,h4⟩:=Vb H enc (w.forCall tape i) w.heap.size i.args ds gs before R5 hw' (hl.of_heap (by rfl)) mQ;exact⟨M,last,o,w',t',h1,h2,h3,h4.mono fun v hp=>ChangeSpec.post_blind hp⟩
theorem said:Rows.ManyWorkersSaid:=
 OpenClaim.holds_of_wide_leaving 3 Tryz.f3 rfl rfl rfl rfl rfl rfl rfl ⟨rfl,rfl,rfl,rfl,rfl⟩ rfl rfl rfl rfl rfl kR func3 facts
  (of_decide_eq_true kR) (by unfold Func.isWrapper;rw[if_neg (of_decide_eq_false kR)];exact⟨rfl,rfl⟩)
  (fun os started H enc _=>by rw[OpenClaim.pre_eq_preRow];exact lifted os started H enc)
theorem plain(f:FuncId)(fn:Func)(hf:Tryz.pinned.checked.prog.funcNamed "rotor/rotorkeep.ManyWorkers"=some f)(E1:Tryz.pinned.checked.prog.funcs[f]?=some fn):
  true=Tryz.pinned.checked.prog.looks []/\∀(j:Nat) t,fn.params[j]?=some t->Tryz.pinned.checked.prog.wantsStandIn t=false:=by
 obtain rfl:f=3:=ahK ((show prog.funcNamed "rotor/rotorkeep.ManyWorkers"=some 3 by kernel_rfl).symm.T hf) |>.symm;obtain rfl:fn=Tryz.f3:=(ahK (func3.symm.T E1)).symm;refine⟨by kernel_rfl,fun j t ht=>?_⟩;rw[params3]at ht;rcases j with _|_|_|j
 ·obtain rfl:t=22:=(ahK ht).symm
  exact(show prog.wantsStandIn 22=false by kernel_rfl)
 ·obtain rfl:t=3:=(ahK ht).symm
  exact(show prog.wantsStandIn 3=false by kernel_rfl)
 ·obtain rfl:t=3:=(ahK ht).symm
  exact(show prog.wantsStandIn 3=false by kernel_rfl)
 ·simp at ht
theorem card:Rows.ManyWorkersCardSaid:=
 ⟨Claim7.tied_new_at .later Rows.manyWorkersCard.laidKinds true (Claim7.new_of_sixth said _ true rfl ⟨rfl,rfl⟩ kR rfl plain) kR,fun D hD=>(by cases hD),manyWorkers_row_tie,(fun h=>by cases h),by kernel_rfl⟩
end Go.Proofs.YtjligkmjlenofaaGreatDoor.workers
