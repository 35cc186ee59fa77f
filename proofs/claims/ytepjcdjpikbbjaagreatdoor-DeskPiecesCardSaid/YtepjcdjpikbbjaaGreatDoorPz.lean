/-
  DeskPieces: the answers to the first lines of a session are the beginning of the answers to all: the statement of the card, for every input.
-/
import Derived.Test.YtepjcdjpikbbjaaGreatDoorP01
import Derived.Test.YtepjcdjpikbbjaaGreatDoorP29
import Derived.Lib.LaidTab
import Derived.Lib.LaidU8
import Derived.Lib.SmallJoins
import Derived.Deep.DeepLaidRun
import Derived.Stop.LaidErr
namespace Go.Proofs.YtepjcdjpikbbjaaGreatDoor.pieces
open Go.ChangeShapes Go.WideShapes Go.ChangeAt Go.RowKit Go.Deep

def litV : DataW Unit → List Value
  | .lit (.int k z) => [.int k z]
  | .lit (.string b) => [.string ⟨b.toArray⟩]
  | .lit (.bool b) => [.bool b]
  | _ => []
def flat1 : DataW Unit → List Value
  | .agg l => l.flatMap litV
  | x => litV x
def flat2 : DataW Unit → List Value
  | .agg l => l.flatMap flat1
  | x => litV x
def putData (w : World) (g : Nat) (d : DataW Unit) : World :=
  { w with heap := w.heap.modify g fun
      | .cells _ t frozen => .cells (flat2 d).toArray t frozen
      | o => o }
noncomputable def low : Nat := (World.holding Tryz.prog default ⟨#[], #[], []⟩).heap.size
def strOf : DataW Unit → Value
  | .iface _ (.ptr (.agg [.lit (.string b)])) => .string ⟨b.toArray⟩
  | _ => .nilIface
def putPtr (w : World) (g a : Nat) : World :=
  { w with heap := w.heap.modify g fun
      | .cells _ t frozen => .cells #[.iface 291 (.pointer (some ⟨a, 0, none⟩))] t frozen
      | o => o }
noncomputable def tabWorld (os : Os) : World :=
  putData (putData (putData (putData (putData (putPtr (putPtr (World.holding Tryz.prog os ⟨#[.cells #[strOf Rows.laid_strconv_ErrRange] 293, .cells #[strOf Rows.laid_strconv_ErrSyntax] 293], #[], []⟩) 6 (low + 0)) 5 (low + 1)) 8 Rows.laid_math_bits_deBruijn32tab) 9 Rows.laid_math_bits_deBruijn64tab) 7 Rows.laid_internal_strconv_uint64pow10) 3 Rows.laid_unicode_utf8_acceptRanges) 2 Rows.laid_unicode_utf8_first
noncomputable def laidWorld (os : Os) : World :=
  let w0 := tabWorld os
  { w0 with heap := w0.heap.modify 1 fun
      | .cells _ t frozen => .cells #[.iface 260 (.agg #[.pointer (some ⟨10, 44, none⟩)])] t frozen
      | o => o }
def dataL : List (String × DataW Unit) := [("math/bits.deBruijn32tab", Rows.laid_math_bits_deBruijn32tab), ("math/bits.deBruijn64tab", Rows.laid_math_bits_deBruijn64tab), ("internal/strconv.uint64pow10", Rows.laid_internal_strconv_uint64pow10), ("unicode/utf8.acceptRanges", Rows.laid_unicode_utf8_acceptRanges), ("strconv.ErrRange", Rows.laid_strconv_ErrRange), ("strconv.ErrSyntax", Rows.laid_strconv_ErrSyntax), ("unicode/utf8.first", Rows.laid_unicode_utf8_first)]
theorem laid_parts {W : World} (h : laidMetH Tryz.prog Rows.deskPiecesRow.laid W) : laidMet Tryz.prog dataL W ∧ handlesMet Tryz.prog [("errors.errorType", Rows.laid_errors_errorType)] W := h
theorem et : Tryz.prog.globalNamed "errors.errorType" = some 1 := by kernel_rfl
theorem rt : (Tryz.prog.cutTypes.find? (·.1 == "internal/reflectlite.rtype")).map (·.2) = some 260 := by kernel_rfl
theorem oneRow : ((List.range 366).filter fun t => Tryz.prog.rowNamed t [101, 114, 114, 111, 114]) = [44] := by kernel_rfl
theorem types_size : Tryz.prog.types.size = 366 := by kernel_rfl
theorem err_of_laid {W : World} (h : laidMetH Tryz.prog Rows.deskPiecesRow.laid W) : ErrType W := by
  have h' := laid_parts h
  obtain ⟨name, u, ty, e1, e2, e3, e4, e5⟩ := h'.2 _ (List.mem_singleton.2 rfl)
  have en : name = [101, 114, 114, 111, 114] := (Option.some.inj e1).symm
  subst en
  obtain rfl := Option.some.inj (rt.symm.trans e2)
  have hm : ty ∈ (List.range 366).filter fun t => Tryz.prog.rowNamed t [101, 114, 114, 111, 114] := List.mem_filter.2 ⟨List.mem_range.2 (by rw [← types_size]; exact e3), e4⟩
  rw [oneRow] at hm
  obtain rfl := List.mem_singleton.1 hm
  have hh : typeHandle Tryz.prog 44 = .pointer (some ⟨10, 44, none⟩) := by kernel_rfl
  rw [hh] at e5
  have h1 := World.var?_cell et e5 0
  unfold ErrType
  simpa using h1
theorem star_es : "*" ++ "errors.errorString" = "*errors.errorString" := by decide
theorem row_es (u : TypeId) (h : Tryz.prog.typeName? 3 u = some "*errors.errorString") : u = 291 :=
  typeName_ptr_named (nm := "errors.errorString") (by rw [star_es]; kernel_rfl) (by kernel_rfl) (by decide) u (by rw [star_es]; exact h)
theorem sent_strconv_ErrRange {W : World} (h : laidMetH Tryz.prog Rows.deskPiecesRow.laid W) : ∃ tp p, W.cell? ⟨6, 0, none⟩ = some (.iface tp p) := by
  obtain ⟨a, s, hv, -, -, -⟩ := laid_sentinel (show laidMet Tryz.prog dataL W from (laid_parts h).1).tail.tail.tail.tail (show Tryz.prog.globalNamed "strconv.ErrRange" = some 6 by kernel_rfl) (show (Tryz.prog.globals[6]?).map (·.type) = some 44 by kernel_rfl) Tryz.underlying44 row_es Tryz.underlying291 Tryz.underlying293 rfl rfl Tryz.underlying9 (by kernel_rfl) (by kernel_rfl)
  exact ⟨_, _, by have h0 := World.var?_cell (show Tryz.prog.globalNamed "strconv.ErrRange" = some 6 by kernel_rfl) hv 0; simpa using h0⟩
theorem sent_strconv_ErrSyntax {W : World} (h : laidMetH Tryz.prog Rows.deskPiecesRow.laid W) : ∃ tp p, W.cell? ⟨5, 0, none⟩ = some (.iface tp p) := by
  obtain ⟨a, s, hv, -, -, -⟩ := laid_sentinel (show laidMet Tryz.prog dataL W from (laid_parts h).1).tail.tail.tail.tail.tail (show Tryz.prog.globalNamed "strconv.ErrSyntax" = some 5 by kernel_rfl) (show (Tryz.prog.globals[5]?).map (·.type) = some 44 by kernel_rfl) Tryz.underlying44 row_es Tryz.underlying291 Tryz.underlying293 rfl rfl Tryz.underlying9 (by kernel_rfl) (by kernel_rfl)
  exact ⟨_, _, by have h0 := World.var?_cell (show Tryz.prog.globalNamed "strconv.ErrSyntax" = some 5 by kernel_rfl) hv 0; simpa using h0⟩
theorem errs_of_laid {W : World} (h : laidMetH Tryz.prog Rows.deskPiecesRow.laid W) : ErrVars W := ⟨sent_strconv_ErrSyntax h, sent_strconv_ErrRange h⟩
theorem ten_data : (Rows.laid_internal_strconv_uint64pow10 : DataW Unit) = Lib.tabData .u64 Lib.pow10Tab := by rfl
theorem ten_ty : (Tryz.prog.globals[7]?).map (·.type) = some 274 := by kernel_rfl
theorem tens_of_laid {W : World} (h : laidMetH Tryz.prog Rows.deskPiecesRow.laid W) : Tens W := by
  have h' : laidMet Tryz.prog dataL W := (laid_parts h).1
  obtain ⟨g, t, cs, fuel, p, h1, h2, h3, h4⟩ := Lib.laidMet.reads h' (.tail _ (.tail _ (.head _)))
  obtain rfl := Option.some.inj (tens_g.symm.trans h1)
  obtain rfl := Option.some.inj (ten_ty.symm.trans h2)
  rw [ten_data] at h4
  have hc := Lib.cells_of_tab (n := 20) (by kernel_rfl) Tryz.underlying149 (by kernel_rfl) (by kernel_rfl) h4
  unfold Tens Lib.TabIs
  rw [h3, ← hc]
def inputs : Array Value := #[.string ⟨#[]⟩, .string ⟨#[]⟩]
theorem laid_met (os : Os) : laidMetH Tryz.prog Rows.deskPiecesRow.laid ((laidWorld os).forCall (fun _ _ => 0) ⟨#[], inputs, []⟩).memory :=
  laidMetH_of_parts (laidMet_of_run3 10 (by kernel_rfl) (by kernel_rfl) (by kernel_rfl)) (by kernel_rfl)
theorem reads (os : Os) {H : Type} (enc : TypeId × Value → H) : ∃ places, DataW.whole enc Tryz.prog ((laidWorld os).forCall (fun _ _ => 0) ⟨#[], inputs, []⟩).memory Tryz.f4.params.toList Rows.deskPiecesSpec.vars false inputs.toList 8 = some ([.lit (.string []), .lit (.string [])], [], places) :=
  ⟨[], by kernel_rfl⟩

set_option maxRecDepth 100000 in
theorem contract (H : Type) (enc : TypeId × Value → H) (W : World) (base : Nat) (args : Array Value) (ds gs : List (DataW H)) (before : List MemPlace)
    (hval : ∀ (j : Nat) t v, Tryz.f4.params[j]? = some t → args[j]? = some v → Value.okWide Tryz.prog W .any base t v)
    (hW : DataW.Whole enc Tryz.prog Tryz.f4.params.toList Rows.deskPiecesSpec.vars false W args.toList ds gs before)
    (vt : List TypeId) (hwt : (DataW.weightsEach Tryz.prog (Tryz.f4.params.toList ++ vt) (ds ++ gs)).all (· ≤ reachBytes) = true)
    (hL : laidMetH Tryz.prog Rows.deskPiecesRow.laid W) (hsh : W.ShapedOpen Tryz.prog) :
    Calls Tryz.prog 4 args W fun e W' => ∃ v, e = .returned v ∧ Rows.deskPiecesSpec.post enc Tryz.prog Tryz.f4 false true false false W args v W' := by
  have hW' := hW
  obtain ⟨p, q, hA0, hV, rfl, hfz, hnd⟩ := hW
  have hA : DataW.TrodAll enc Tryz.prog W 0 (fun _ => true) true Tryz.f4.params.toList args.toList ds p := hA0
  rw [Tryz.params4] at hA hval hwt
  obtain ⟨v0, vs0, d0, ds0, p0, q0, hargs, rfl, rfl, h0, r0⟩ := trodAll_cons hA
  obtain ⟨v1, vs1, d1, ds1, p1, q1, rfl, rfl, rfl, h1, r1⟩ := trodAll_cons r0
  obtain ⟨rfl, rfl, rfl⟩ := trodAll_nil r1
  obtain rfl : args = #[v0, v1] := by cases args; simp_all
  obtain ⟨rfl, rfl⟩ := trodVars_none hV
  obtain ⟨a, rfl⟩ := okWide_string Tryz.underlying9 (hval 0 9 v0 rfl rfl)
  obtain ⟨b, rfl⟩ := okWide_string Tryz.underlying9 (hval 1 9 v1 rfl rfl)
  have ha := (string_reach (j := 0) Tryz.underlying9 h0 hwt rfl rfl).1
  have hb := (string_reach (j := 1) Tryz.underlying9 h1 hwt rfl rfl).1
  clear hA0
  have walk := pieces_true W (Env.start ⟨Below.refl _ _, tens_of_laid hL, maxL_of hsh⟩ (errs_of_laid hL)) (err_of_laid hL) (err_of_laid hL).lt a b (by omega) (by omega)
  refine walk.mono fun e W' ⟨he, hbl⟩ => ?_
  subst he
  refine ⟨_, rfl, post_of_below (pa := (p0 ++ (p1 ++ []))) (pv := []) hW' (fun _ _ _ => trodAll_cons_mk (shut_bool Tryz.underlying4 _) trodAll_mk0)
    (fun sp hsp => ?_)
    (fun _ _ => rfl) (by simp) hbl (ok_one (by kernel_rfl) rfl (okWide_bool_mk Tryz.underlying4 _))⟩
  have hlt := hW'.lt
  refine trodAll_cons_mk (WideElems.Trod_stays laid_out (by kernel_rfl) (of_decide_eq_true (by kernel_rfl)) h0 (fun x hx => hbl.same (hlt x (by simp [hx]))) (fun x hx => hsp x (by simp [hx]))) ?_
  exact trodAll_cons_mk (WideElems.Trod_stays laid_out (by kernel_rfl) (of_decide_eq_true (by kernel_rfl)) h1 (fun x hx => hbl.same (hlt x (by simp [hx]))) (fun x hx => hsp x (by simp [hx]))) trodAll_mk0

set_option maxRecDepth 100000 in
theorem lifted (os : Os) (started : os.Started) (H : Type) (enc : TypeId × Value → H) (F : Stop.Interp) :
    ReturnsInHanded {} Tryz.checked os 4 .any ((OpenSpec.ofChange Rows.deskPiecesSpec).preRow enc Tryz.prog Tryz.f4 Rows.deskPiecesRow.domain false Rows.deskPiecesRow.laid) (((OpenSpec.ofChange Rows.deskPiecesSpec).at F).post enc Tryz.prog Tryz.f4 false true false false) := by
  obtain ⟨places, hx⟩ := reads os enc
  refine returnsInHanded_of_row (C := Tryz.checked) (s := OpenSpec.ofChange Rows.deskPiecesSpec) own_knob started (by kernel_rfl) Tryz.func4
    (witness_row_at (enc := enc) (C := Tryz.checked) false (laidWorld os) inputs rfl (by kernel_rfl) (by kernel_rfl) (by kernel_rfl)
      (OpenSpec.preRow_of_cond 8 hx (by kernel_rfl) (fun k hk => by cases hk) (by kernel_rfl) (laid_met os))) ?_
  intro W base args ds gs before hval hW _ _ hwt hL hsh _
  exact contract H enc W base args ds gs before hval hW _ hwt hL hsh

theorem said : Rows.DeskPiecesSaid :=
  OpenClaim.holds_of_cond 4 Tryz.f4 rfl rfl rfl rfl rfl rfl rfl ⟨rfl, rfl, rfl, rfl, rfl⟩ rfl rfl rfl rfl rfl (by kernel_rfl) Tryz.func4 (by kernel_rfl)
    (of_decide_eq_true (by kernel_rfl)) (by unfold Func.isWrapper; rw [if_neg (of_decide_eq_false (by kernel_rfl))]; exact ⟨rfl, rfl⟩)
    (fun os started H enc _ F => by rw [OpenClaim.pre_eq_preRow]; exact lifted os started H enc F)

theorem plain (f : FuncId) (fn : Func) (hf : Tryz.pinned.checked.prog.funcNamed "rotor/rotorkeep.DeskPieces" = some f) (hfn : Tryz.pinned.checked.prog.funcs[f]? = some fn) :
    true = Tryz.pinned.checked.prog.looks [] ∧ ∀ (j : Nat) t, fn.params[j]? = some t → Tryz.pinned.checked.prog.wantsStandIn t = false := by
  obtain rfl : f = 4 := Option.some.inj ((show Tryz.prog.funcNamed "rotor/rotorkeep.DeskPieces" = some 4 by kernel_rfl).symm.trans hf) |>.symm
  obtain rfl : fn = Tryz.f4 := (Option.some.inj (Tryz.func4.symm.trans hfn)).symm
  refine ⟨by kernel_rfl, fun j t ht => ?_⟩
  rw [Tryz.params4] at ht
  rcases j with _ | _ | j
  · obtain rfl : t = 9 := (Option.some.inj ht).symm
    exact (show Tryz.prog.wantsStandIn 9 = false by kernel_rfl)
  · obtain rfl : t = 9 := (Option.some.inj ht).symm
    exact (show Tryz.prog.wantsStandIn 9 = false by kernel_rfl)
  · simp at ht

theorem card : Rows.DeskPiecesCardSaid :=
  Claim7.holds_tied_plain_at .later [] _ _ _ _ said (fun _ h => by cases h) (by kernel_rfl) (fun _ h => by cases h) deskPieces_row_tie rfl ⟨rfl, rfl⟩ (by kernel_rfl) rfl plain (by kernel_rfl)
end Go.Proofs.YtepjcdjpikbbjaaGreatDoor.pieces
