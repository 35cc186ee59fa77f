/-
  EventBack: what an event's line is is that event again, at most so long that it fits a block with its number; and two events, one behind the other, of two families make the same in whichever order: the statement of the card, for every input.
-/
import Derived.Test.YtklpmoimckblcaaGreatDoorBase
import Derived.Test.YtklpmoimckblcaaGreatDoorEvOpen
import Derived.Test.YtklpmoimckblcaaGreatDoorEvBack
import Derived.Lib.LaidTab
import Derived.Lib.LaidU8
import Derived.Lib.SmallJoins
import Derived.Deep.DeepLaidRun
import Derived.Stop.LaidErr
namespace Go.Proofs.YtklpmoimckblcaaGreatDoor.evback
open Go.ChangeShapes Go.WideShapes Go.ChangeAt Go.RowKit Go.Deep

def litV : DataW Unit → List Value
  | .lit (.int k z) => [.int k z]
  | .lit (.string b) => [.string ⟨b.toArray⟩]
  | .lit (.bool b) => [.bool b]
  | _ => []
def flat1 : DataW Unit → List Value
  | .agg l => l.flatMap litV
  | x => litV x
def flat2 : DataW Unit → List Value
  | .agg l => l.flatMap flat1
  | x => litV x
def putData (w : World) (g : Nat) (d : DataW Unit) : World :=
  { w with heap := w.heap.modify g fun
      | .cells _ t frozen => .cells (flat2 d).toArray t frozen
      | o => o }
noncomputable def low : Nat := (World.holding Tryz.prog default ⟨#[], #[], []⟩).heap.size
def strOf : DataW Unit → Value
  | .iface _ (.ptr (.agg [.lit (.string b)])) => .string ⟨b.toArray⟩
  | _ => .nilIface
def putPtr (w : World) (g a : Nat) : World :=
  { w with heap := w.heap.modify g fun
      | .cells _ t frozen => .cells #[.iface 184 (.pointer (some ⟨a, 0, none⟩))] t frozen
      | o => o }
noncomputable def tabWorld (os : Os) : World :=
  putData (putData (putData (putData (putData (putPtr (putPtr (World.holding Tryz.prog os ⟨#[.cells #[strOf Rows.laid_strconv_ErrRange] 186, .cells #[strOf Rows.laid_strconv_ErrSyntax] 186], #[], []⟩) 2 (low + 0)) 1 (low + 1)) 7 Rows.laid_math_bits_deBruijn32tab) 8 Rows.laid_math_bits_deBruijn64tab) 3 Rows.laid_internal_strconv_uint64pow10) 6 Rows.laid_unicode_utf8_acceptRanges) 5 Rows.laid_unicode_utf8_first
noncomputable def laidWorld (os : Os) : World := tabWorld os
theorem star_es : "*" ++ "errors.errorString" = "*errors.errorString" := by decide
theorem row_es (u : TypeId) (h : Tryz.prog.typeName? 3 u = some "*errors.errorString") : u = 184 :=
  typeName_ptr_named (nm := "errors.errorString") (by rw [star_es]; kernel_rfl) (by kernel_rfl) (by decide) u (by rw [star_es]; exact h)
theorem sent_strconv_ErrRange {W : World} (h : laidMetH Tryz.prog Rows.eventBackRow.laid W) : ∃ tp p, W.cell? ⟨2, 0, none⟩ = some (.iface tp p) := by
  obtain ⟨a, s, hv, -, -, -⟩ := laid_sentinel (show laidMet Tryz.prog Rows.eventBackRow.laid W from h).tail.tail.tail.tail (show Tryz.prog.globalNamed "strconv.ErrRange" = some 2 by kernel_rfl) (show (Tryz.prog.globals[2]?).map (·.type) = some 33 by kernel_rfl) Tryz.underlying33 row_es Tryz.underlying184 Tryz.underlying186 rfl rfl Tryz.underlying9 (by kernel_rfl) (by kernel_rfl)
  exact ⟨_, _, by have h0 := World.var?_cell (show Tryz.prog.globalNamed "strconv.ErrRange" = some 2 by kernel_rfl) hv 0; simpa using h0⟩
theorem sent_strconv_ErrSyntax {W : World} (h : laidMetH Tryz.prog Rows.eventBackRow.laid W) : ∃ tp p, W.cell? ⟨1, 0, none⟩ = some (.iface tp p) := by
  obtain ⟨a, s, hv, -, -, -⟩ := laid_sentinel (show laidMet Tryz.prog Rows.eventBackRow.laid W from h).tail.tail.tail.tail.tail (show Tryz.prog.globalNamed "strconv.ErrSyntax" = some 1 by kernel_rfl) (show (Tryz.prog.globals[1]?).map (·.type) = some 33 by kernel_rfl) Tryz.underlying33 row_es Tryz.underlying184 Tryz.underlying186 rfl rfl Tryz.underlying9 (by kernel_rfl) (by kernel_rfl)
  exact ⟨_, _, by have h0 := World.var?_cell (show Tryz.prog.globalNamed "strconv.ErrSyntax" = some 1 by kernel_rfl) hv 0; simpa using h0⟩
theorem errs_of_laid {W : World} (h : laidMetH Tryz.prog Rows.eventBackRow.laid W) : ErrVars W := ⟨sent_strconv_ErrSyntax h, sent_strconv_ErrRange h⟩
theorem ten_data : (Rows.laid_internal_strconv_uint64pow10 : DataW Unit) = Lib.tabData .u64 Lib.pow10Tab := by rfl
theorem ten_ty : (Tryz.prog.globals[3]?).map (·.type) = some 163 := by kernel_rfl
theorem tens_of_laid {W : World} (h : laidMetH Tryz.prog Rows.eventBackRow.laid W) : Tens W := by
  have h' : laidMet Tryz.prog Rows.eventBackRow.laid W := h
  obtain ⟨g, t, cs, fuel, p, h1, h2, h3, h4⟩ := Lib.laidMet.reads h' (.tail _ (.tail _ (.head _)))
  obtain rfl := Option.some.inj (tens_g.symm.trans h1)
  obtain rfl := Option.some.inj (ten_ty.symm.trans h2)
  rw [ten_data] at h4
  have hc := Lib.cells_of_tab (n := 20) (by kernel_rfl) Tryz.underlying131 (by kernel_rfl) (by kernel_rfl) h4
  unfold Tens Lib.TabIs
  rw [h3, ← hc]
def inputs : Array Value := #[.agg #[.int .i64 0, .int .i64 0, .string ⟨#[]⟩, .string ⟨#[]⟩, .string ⟨#[]⟩, .int .i64 0, .int .i64 0, .int .i64 0, .string ⟨#[]⟩, .bool false, .int .i64 0, .int .i64 0], .agg #[.int .i64 0, .int .i64 0, .string ⟨#[]⟩, .string ⟨#[]⟩, .string ⟨#[]⟩, .int .i64 0, .int .i64 0, .int .i64 0, .string ⟨#[]⟩, .bool false, .int .i64 0, .int .i64 0]]
theorem laid_met (os : Os) : laidMetH Tryz.prog Rows.eventBackRow.laid ((laidWorld os).forCall (fun _ _ => 0) ⟨#[], inputs, []⟩).memory :=
  laidMetH_of_parts (laidMet_of_run3 10 (by kernel_rfl) (by kernel_rfl) (by kernel_rfl)) (by kernel_rfl)
theorem reads (os : Os) {H : Type} (enc : TypeId × Value → H) : ∃ places, DataW.whole enc Tryz.prog ((laidWorld os).forCall (fun _ _ => 0) ⟨#[], inputs, []⟩).memory Tryz.f5.params.toList Rows.eventBackSpec.vars false inputs.toList 8 = some ([.agg [.lit (.int .i64 0), .agg [.lit (.int .i64 0), .lit (.string []), .lit (.string []), .lit (.string []), .lit (.int .i64 0), .lit (.int .i64 0), .lit (.int .i64 0), .lit (.string []), .lit (.bool false)], .lit (.int .i64 0), .lit (.int .i64 0)], .agg [.lit (.int .i64 0), .agg [.lit (.int .i64 0), .lit (.string []), .lit (.string []), .lit (.string []), .lit (.int .i64 0), .lit (.int .i64 0), .lit (.int .i64 0), .lit (.string []), .lit (.bool false)], .lit (.int .i64 0), .lit (.int .i64 0)]], [], places) :=
  ⟨[], by kernel_rfl⟩

set_option maxRecDepth 100000 in
theorem contract (H : Type) (enc : TypeId × Value → H) (W : World) (base : Nat) (args : Array Value) (ds gs : List (DataW H)) (before : List MemPlace)
    (hval : ∀ (j : Nat) t v, Tryz.f5.params[j]? = some t → args[j]? = some v → Value.okWide Tryz.prog W .any base t v)
    (hW : DataW.Whole enc Tryz.prog Tryz.f5.params.toList Rows.eventBackSpec.vars false W args.toList ds gs before)
    (vt : List TypeId) (hwt : (DataW.weightsEach Tryz.prog (Tryz.f5.params.toList ++ vt) (ds ++ gs)).all (· ≤ reachBytes) = true)
    (hL : laidMetH Tryz.prog Rows.eventBackRow.laid W) (hsh : W.ShapedOpen Tryz.prog) :
    Calls Tryz.prog 5 args W fun e W' => ∃ v, e = .returned v ∧ Rows.eventBackSpec.post enc Tryz.prog Tryz.f5 false true false false W args v W' := by
  have hW' := hW
  obtain ⟨p, q, hA0, hV, rfl, hfz, hnd⟩ := hW
  have hA : DataW.TrodAll enc Tryz.prog W 0 (fun _ => true) true Tryz.f5.params.toList args.toList ds p := hA0
  rw [Tryz.params5] at hA hval hwt
  obtain ⟨v0, vs0, d0, ds0, p0, q0, hargs, rfl, rfl, h0, r0⟩ := trodAll_cons hA
  obtain ⟨v1, vs1, d1, ds1, p1, q1, rfl, rfl, rfl, h1, r1⟩ := trodAll_cons r0
  obtain ⟨rfl, rfl, rfl⟩ := trodAll_nil r1
  obtain rfl : args = #[v0, v1] := by cases args; simp_all
  obtain ⟨rfl, rfl⟩ := trodVars_none hV
  obtain ⟨ev, rfl, rfl, rfl⟩ := ev_open (hval 0 25 v0 rfl rfl) h0
  obtain ⟨fv, rfl, rfl, rfl⟩ := ev_open (hval 1 25 v1 rfl rfl) h1
  have hl := ev_reach (j := 0) hwt rfl rfl
  have hk := ev_reach (j := 1) hwt rfl rfl
  clear hA0
  have walk := back_all ev fv W ⟨Below.refl _ _, tens_of_laid hL, maxL_of hsh⟩ (errs_of_laid hL) (by unfold Fam.len at hl hk; unfold backLen; omega)
  refine walk.mono fun e W' ⟨he, hbl⟩ => ?_
  subst he
  refine ⟨_, rfl, post_of_below (pa := ([] ++ ([] ++ []))) (pv := []) hW' (fun _ _ _ => trodAll_cons_mk (shut_bool Tryz.underlying4 _) trodAll_mk0)
    (fun sp hsp => ?_)
    (fun _ _ => rfl) (by simp) hbl (ok_one (by kernel_rfl) rfl (okWide_bool_mk Tryz.underlying4 _))⟩
  have hlt := hW'.lt
  refine trodAll_cons_mk (WideElems.Trod_stays laid_out (by kernel_rfl) (of_decide_eq_true (by kernel_rfl)) h0 (fun x hx => hbl.same (hlt x (by first | exact (List.mem_append_left _ hx) | exact List.mem_append_left _ (List.mem_append_left _ hx)))) (fun x hx => hsp x (by first | exact (List.mem_append_left _ hx) | exact List.mem_append_left _ (List.mem_append_left _ hx)))) ?_
  exact trodAll_cons_mk (WideElems.Trod_stays laid_out (by kernel_rfl) (of_decide_eq_true (by kernel_rfl)) h1 (fun x hx => hbl.same (hlt x (by first | exact (List.mem_append_right _ (List.mem_append_left _ hx)) | exact List.mem_append_left _ (List.mem_append_right _ (List.mem_append_left _ hx))))) (fun x hx => hsp x (by first | exact (List.mem_append_right _ (List.mem_append_left _ hx)) | exact List.mem_append_left _ (List.mem_append_right _ (List.mem_append_left _ hx))))) trodAll_mk0

set_option maxRecDepth 100000 in
theorem lifted (os : Os) (started : os.Started) (H : Type) (enc : TypeId × Value → H) (F : Stop.Interp) :
    ReturnsInHanded {} Tryz.checked os 5 .any ((OpenSpec.ofChange Rows.eventBackSpec).preRow enc Tryz.prog Tryz.f5 Rows.eventBackRow.domain false Rows.eventBackRow.laid) (((OpenSpec.ofChange Rows.eventBackSpec).at F).post enc Tryz.prog Tryz.f5 false true false false) := by
  obtain ⟨places, hx⟩ := reads os enc
  refine returnsInHanded_of_row (C := Tryz.checked) (s := OpenSpec.ofChange Rows.eventBackSpec) own_knob started (by kernel_rfl) Tryz.func5
    (witness_row_at (enc := enc) (C := Tryz.checked) false (laidWorld os) inputs rfl (by kernel_rfl) (by kernel_rfl) (by kernel_rfl)
      (OpenSpec.preRow_of_cond 8 hx (by kernel_rfl) (fun k hk => by cases hk) (by kernel_rfl) (laid_met os))) ?_
  intro W base args ds gs before hval hW _ _ hwt hL hsh _
  exact contract H enc W base args ds gs before hval hW _ hwt hL hsh

theorem said : Rows.EventBackSaid :=
  OpenClaim.holds_of_cond 5 Tryz.f5 rfl rfl rfl rfl rfl rfl rfl ⟨rfl, rfl, rfl, rfl, rfl⟩ rfl rfl rfl rfl rfl (by kernel_rfl) Tryz.func5 (by kernel_rfl)
    (of_decide_eq_true (by kernel_rfl)) (by unfold Func.isWrapper; rw [if_neg (of_decide_eq_false (by kernel_rfl))]; exact ⟨rfl, rfl⟩)
    (fun os started H enc _ F => by rw [OpenClaim.pre_eq_preRow]; exact lifted os started H enc F)

theorem plain (f : FuncId) (fn : Func) (hf : Tryz.pinned.checked.prog.funcNamed "rotor/rotorkeep.EventBack" = some f) (hfn : Tryz.pinned.checked.prog.funcs[f]? = some fn) :
    true = Tryz.pinned.checked.prog.looks [] ∧ ∀ (j : Nat) t, fn.params[j]? = some t → Tryz.pinned.checked.prog.wantsStandIn t = false := by
  obtain rfl : f = 5 := Option.some.inj ((show Tryz.prog.funcNamed "rotor/rotorkeep.EventBack" = some 5 by kernel_rfl).symm.trans hf) |>.symm
  obtain rfl : fn = Tryz.f5 := (Option.some.inj (Tryz.func5.symm.trans hfn)).symm
  refine ⟨by kernel_rfl, fun j t ht => ?_⟩
  rw [Tryz.params5] at ht
  rcases j with _ | _ | j
  · obtain rfl : t = 25 := (Option.some.inj ht).symm
    exact (show Tryz.prog.wantsStandIn 25 = false by kernel_rfl)
  · obtain rfl : t = 25 := (Option.some.inj ht).symm
    exact (show Tryz.prog.wantsStandIn 25 = false by kernel_rfl)
  · simp at ht

theorem card : Rows.EventBackCardSaid :=
  Claim7.holds_tied_plain_at .later [] _ _ _ _ said (fun _ h => by cases h) (by kernel_rfl) (fun _ h => by cases h) eventBack_row_tie rfl ⟨rfl, rfl⟩ (by kernel_rfl) rfl plain (by kernel_rfl)
end Go.Proofs.YtklpmoimckblcaaGreatDoor.evback
