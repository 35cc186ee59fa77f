/-
  DeskAnswers: a session is answered, line by line, as the document tells: the statement of the card, for every input.
-/
import Derived.Test.YtepjcdjpikbbjaaGreatDoorU00
import Derived.Test.YtepjcdjpikbbjaaGreatDoorU27
import Derived.Test.YtepjcdjpikbbjaaGreatDoorU51
import Derived.Test.YtepjcdjpikbbjaaGreatDoorU38
import Derived.Lib.LaidTab
import Derived.Lib.LaidU8
import Derived.Lib.SmallJoins
import Derived.Deep.DeepLaidRun
import Derived.Stop.LaidErr
import Derived.Test.YtepjcdjpikbbjaaGreatDoorU39
set_option maxRecDepth 100000
namespace Go.Proofs.YtepjcdjpikbbjaaGreatDoor.answers
open Go.Proofs.Tryz
open Go.ChangeShapes Go.WideShapes Go.ChangeAt Go.RowKit Go.Deep
theorem contract (H:Type) (enc:TypeId×Value→H) (W:World) (base:Nat) (args:Array Value) (ds gs:List (DataW H)) (before:List MemPlace)
  (hval: ∀ (j:Nat) t v,Tryz.f3.params[j]?=some t→args[j]?=some v→Value.okWide prog W .any base t v)
  (hW:DataW.Whole enc prog Tryz.f3.params.toList Rows.deskAnswersSpec.vars false W args.toList ds gs before)
  (vt:List TypeId) (hwt:(DataW.weightsEach prog (Tryz.f3.params.toList++vt) (ds++gs)).all (· ≤reachBytes)=true)
  (hL:laidMetH prog Rows.deskAnswersRow.laid W) (hsh:W.ShapedOpen prog):
  Calls prog 3 args W fun e W'=> ∃ v,e=.returned v∧Rows.deskAnswersSpec.post enc prog Tryz.f3 false true false false W args v W':=by
 have hW':=hW;obtain⟨p,q,hA0,hV,rfl,hfz,hnd⟩:=hW;have hA:DataW.TrodAll enc prog W 0 (fun _=>true) true Tryz.f3.params.toList args.toList ds p:=hA0;rw[Tryz.params3]at hA hval hwt;obtain⟨v0,vs0,d0,IV,p0,q0,hargs,rfl,rfl,h0,r0⟩:=trodAll_cons hA;obtain⟨rfl,rfl,rfl⟩:=trodAll_nil r0;obtain rfl:args=#[v0]:=by cases args;simp_all
 obtain⟨rfl,rfl⟩:=trodVars_none hV;obtain⟨a,rfl⟩:=okWide_string underlying9 (hval 0 9 v0 rfl rfl);have ha:=(vD (j:=0) underlying9 h0 hwt rfl rfl).1;obtain⟨mb,hfm⟩:=C0 (Lib.laidMet.reads (show laidMet prog tN W from(ic hL).1) (.tail _ (.tail _ (.tail _ (.tail _ (.tail _ (.tail _ (.head _))))))));clear hA0;have walk:=vr W mb (pR.start ⟨Below.refl _ _,uN hL,F9 hsh⟩ (vv hL)) (wu hL) (xN hL) hfm a oM;refine walk.mono fun e W' ⟨he,hbl⟩=>?_
 subst he
 refine⟨_,rfl,sU (pa:=(p0++[])) (pv:=[]) hW' (fun _ _ _=>trodAll_cons_mk (shut_bool underlying4 _) trodAll_mk0)
  (fun sp hsp=>?_)
  (fun _ _=>rfl) (by simp) hbl (ok_one kR rfl (okWide_bool_mk underlying4 _))⟩
 have hlt:=hW'.lt;exact trodAll_cons_mk (WideElems.Trod_stays Fl kR (of_decide_eq_true kR) h0 (fun x hx=>hbl.same (hlt x (by simp[hx]))) (fun x hx=>hsp x (by simp[hx]))) trodAll_mk0
theorem lifted (os:Os) (started:os.Started) (H:Type) (enc:TypeId×Value→H) (F:Stop.Interp):
  ReturnsInHanded {} Tryz.checked os 3 .any ((OpenSpec.ofChange Rows.deskAnswersSpec).preRow enc prog Tryz.f3 Rows.deskAnswersRow.domain false Rows.deskAnswersRow.laid) (((OpenSpec.ofChange Rows.deskAnswersSpec).at F).post enc prog Tryz.f3 false true false false):=by
 obtain⟨places,hx⟩:=reads os enc
 refine returnsInHanded_of_row (C:=Tryz.checked) (s:=OpenSpec.ofChange Rows.deskAnswersSpec) DQ started kR Tryz.func3
  (witness_row_at (enc:=enc) (C:=Tryz.checked) false (o2 os) uO rfl kR kR kR
   (OpenSpec.preRow_of_cond 8 hx kR (fun k hk=>by cases hk) kR (EB os))) ?_
 intro W base args ds gs before hval hW _ _ hwt hL hsh _;exact contract H enc W base args ds gs before hval hW _ hwt hL hsh
theorem said:Rows.DeskAnswersSaid:=
 OpenClaim.holds_of_cond 3 Tryz.f3 rfl rfl rfl rfl rfl rfl rfl ⟨rfl,rfl,rfl,rfl,rfl⟩ rfl rfl rfl rfl rfl kR Tryz.func3 facts
  (of_decide_eq_true kR) (by unfold Func.isWrapper;rw[if_neg (of_decide_eq_false kR)];exact⟨rfl,rfl⟩)
  (fun os started H enc _ F=>by rw[OpenClaim.pre_eq_preRow];exact lifted os started H enc F)
theorem plain (f:FuncId) (fn:Func) (hf:Tryz.pinned.checked.prog.funcNamed "rotor/rotorlaw.DeskAnswers"=some f) (hfn:Tryz.pinned.checked.prog.funcs[f]?=some fn):
  true=Tryz.pinned.checked.prog.looks []∧ ∀ (j:Nat) t,fn.params[j]?=some t→Tryz.pinned.checked.prog.wantsStandIn t=false:=by
 obtain rfl:f=3:=Option.some.inj ((show prog.funcNamed "rotor/rotorlaw.DeskAnswers"=some 3 by kernel_rfl).symm.trans hf) |>.symm;obtain rfl:fn=Tryz.f3:=(Option.some.inj (Tryz.func3.symm.trans hfn)).symm;refine⟨by kernel_rfl,fun j t ht=>?_⟩;rw[Tryz.params3]at ht;rcases j with _|j
 ·obtain rfl:t=9:=(Option.some.inj ht).symm
  exact(show prog.wantsStandIn 9=false by kernel_rfl)
 ·simp at ht
theorem card:Rows.DeskAnswersCardSaid:=
 Claim7.holds_tied_plain_at .later [] _ _ _ _ said (fun _ h=>by cases h) kR (fun _ h=>by cases h) deskAnswers_row_tie rfl ⟨rfl,rfl⟩ kR rfl plain kR
end Go.Proofs.YtepjcdjpikbbjaaGreatDoor.answers
