/-
  TokenWrites: both sums, both tags, and Same: the statement of the card, for every input.
-/
import Derived.Test.YtpokddiddjmkoaaDoorBase
import Derived.Test.YtpokddiddjmkoaaDoorLaw3
import Derived.Lib.LaidTab
import Derived.Lib.LaidU8
import Derived.Lib.SmallJoins
import Derived.Deep.DeepLaidRun
namespace Go.Proofs.YtpokddiddjmkoaaDoor.law3
open Go.ChangeShapes Go.WideShapes Go.ChangeAt Go.RowKit Go.Deep

def numsOf : DataW Unit → List Int
  | .agg l => l.map fun | .lit (.int _ z) => z | _ => 0
  | _ => []
theorem tab_data : (Rows.laid_math_bits_deBruijn64tab : DataW Unit) = Lib.tabData .u8 (numsOf Rows.laid_math_bits_deBruijn64tab) := by rfl
theorem tab_ty : (Tryd.prog.globals[4]?).map (·.type) = some 134 := by kernel_rfl
theorem tab_g : Tryd.prog.globalNamed "math/bits.deBruijn64tab" = some 4 := by kernel_rfl
theorem tab_u : Tryd.prog.underlying 134 = some (.array 64 5) := by kernel_rfl
theorem tab_ce : Tryd.prog.cellsOf 5 = 1 := by kernel_rfl
theorem tab_ct : Tryd.prog.cellsOf 134 = 64 := by kernel_rfl

def dataL : List (String × DataW Unit) := [("math/bits.deBruijn32tab", Rows.laid_math_bits_deBruijn32tab), ("math/bits.deBruijn64tab", Rows.laid_math_bits_deBruijn64tab), ("internal/strconv.uint64pow10", Rows.laid_internal_strconv_uint64pow10)]
theorem laid_parts {W : World} (h : laidMetH Tryd.prog Rows.tokenWritesRow.laid W) : laidMet Tryd.prog dataL W ∧ handlesMet Tryd.prog [("errors.errorType", Rows.laid_errors_errorType)] W := h
theorem tab_of_laid {W : World} (h : laidMetH Tryd.prog Rows.tokenWritesRow.laid W) : Tab15 W := by
  have h' := (laid_parts h).1
  obtain ⟨g, t, cs, fuel, p, h1, h2, h3, h4⟩ := Lib.laidMet.reads h' (.tail _ (.head _))
  obtain rfl := Option.some.inj (tab_g.symm.trans h1)
  obtain rfl := Option.some.inj (tab_ty.symm.trans h2)
  rw [tab_data] at h4
  have hc := Lib.cells_of_tab tab_u Tryd.underlying5 tab_ce tab_ct h4
  have hT : Lib.TabIs Tryd.prog W "math/bits.deBruijn64tab" .u8 (numsOf Rows.laid_math_bits_deBruijn64tab) := by
    unfold Lib.TabIs
    rw [h3, ← hc]
  exact hT.cell tab_g 15 (by decide)
theorem ten_data : (Rows.laid_internal_strconv_uint64pow10 : DataW Unit) = Lib.tabData .u64 Lib.pow10Tab := by rfl
theorem ten_ty : (Tryd.prog.globals[1]?).map (·.type) = some 114 := by kernel_rfl
theorem tens_of_laid {W : World} (h : laidMetH Tryd.prog Rows.tokenWritesRow.laid W) : Tens W := by
  have h' := (laid_parts h).1
  obtain ⟨g, t, cs, fuel, p, h1, h2, h3, h4⟩ := Lib.laidMet.reads h' (.tail _ (.tail _ (.head _)))
  obtain rfl := Option.some.inj (tens_g.symm.trans h1)
  obtain rfl := Option.some.inj (ten_ty.symm.trans h2)
  rw [ten_data] at h4
  have hc := Lib.cells_of_tab (n := 20) (by kernel_rfl) Tryd.underlying40 (by kernel_rfl) (by kernel_rfl) h4
  unfold Tens Lib.TabIs
  rw [h3, ← hc]
theorem et : Tryd.prog.globalNamed "errors.errorType" = some 0 := by kernel_rfl
theorem rt : (Tryd.prog.cutTypes.find? (·.1 == "internal/reflectlite.rtype")).map (·.2) = some 121 := by kernel_rfl
theorem oneRow : ((List.range 163).filter fun t => Tryd.prog.rowNamed t [101, 114, 114, 111, 114]) = [33] := by kernel_rfl
theorem types_size : Tryd.prog.types.size = 163 := by kernel_rfl

theorem err_of_laid {W : World} (h : laidMetH Tryd.prog Rows.tokenWritesRow.laid W) : ErrType W := by
  have h' := laid_parts h
  obtain ⟨name, u, ty, e1, e2, e3, e4, e5⟩ := h'.2 _ (List.mem_singleton.2 rfl)
  have en : name = [101, 114, 114, 111, 114] := (Option.some.inj e1).symm
  subst en
  obtain rfl := Option.some.inj (rt.symm.trans e2)
  have hm : ty ∈ (List.range 163).filter fun t => Tryd.prog.rowNamed t [101, 114, 114, 111, 114] := List.mem_filter.2 ⟨List.mem_range.2 (by rw [← types_size]; exact e3), e4⟩
  rw [oneRow] at hm
  obtain rfl := List.mem_singleton.1 hm
  have hh : typeHandle Tryd.prog 33 = .pointer (some ⟨5, 33, none⟩) := by kernel_rfl
  rw [hh] at e5
  have h1 := World.var?_cell et e5 0
  unfold ErrType
  simpa using h1


def putTab (w : World) (g : Nat) (k : IntKind) (zs : List Int) : World :=
  { w with heap := w.heap.modify g fun
      | .cells _ t frozen => .cells (zs.map fun z => Value.int k z).toArray t frozen
      | o => o }
noncomputable def tabWorld (os : Os) : World :=
  putTab (putTab (putTab (World.holding Tryd.prog os ⟨#[], #[], []⟩) 3 .u8 (numsOf Rows.laid_math_bits_deBruijn32tab)) 4 .u8 (numsOf Rows.laid_math_bits_deBruijn64tab)) 1 .u64 (numsOf Rows.laid_internal_strconv_uint64pow10)
noncomputable def laidWorld (os : Os) : World :=
  let w0 := tabWorld os
  { w0 with heap := w0.heap.modify 0 fun
      | .cells _ t frozen => .cells #[.iface 121 (.agg #[.pointer (some ⟨5, 33, none⟩)])] t frozen
      | o => o }
def inputs : Array Value := #[.int .i64 0, .agg #[.int .i64 0, .int .i64 0, .int .i64 0, .int .i64 0]]
theorem laid_met (os : Os) : laidMetH Tryd.prog Rows.tokenWritesRow.laid ((laidWorld os).forCall (fun _ _ => 0) ⟨#[], inputs, []⟩).memory :=
  laidMetH_of_parts (laidMet_of_run3 10 (by kernel_rfl) (by kernel_rfl) (by kernel_rfl)) (by kernel_rfl)
theorem reads (os : Os) {H : Type} (enc : TypeId × Value → H) : ∃ places, DataW.whole enc Tryd.prog ((laidWorld os).forCall (fun _ _ => 0) ⟨#[], inputs, []⟩).memory Tryd.f5.params.toList Rows.tokenWritesSpec.vars false inputs.toList 8 = some ([.lit (.int .i64 0), .agg [.lit (.int .i64 0), .lit (.int .i64 0), .lit (.int .i64 0), .lit (.int .i64 0)]], [], places) :=
  ⟨[], by kernel_rfl⟩

set_option maxRecDepth 100000 in
theorem contract (H : Type) (enc : TypeId × Value → H) (W : World) (base : Nat) (args : Array Value) (ds gs : List (DataW H)) (before : List MemPlace)
    (hval : ∀ (j : Nat) t v, Tryd.f5.params[j]? = some t → args[j]? = some v → Value.okWide Tryd.prog W .any base t v)
    (hW : DataW.Whole enc Tryd.prog Tryd.f5.params.toList Rows.tokenWritesSpec.vars false W args.toList ds gs before) (hL : laidMetH Tryd.prog Rows.tokenWritesRow.laid W) :
    Calls Tryd.prog 5 args W fun e W' => ∃ v, e = .returned v ∧ Rows.tokenWritesSpec.post enc Tryd.prog Tryd.f5 false true false false W args v W' := by
  have hW' := hW
  obtain ⟨p, q, hA0, hV, rfl, hfz, hnd⟩ := hW
  have hA : DataW.TrodAll enc Tryd.prog W 0 (fun _ => true) true Tryd.f5.params.toList args.toList ds p := hA0
  rw [Tryd.params5] at hA hval
  obtain ⟨v0, vs0, d0, ds0, p0, q0, hargs, rfl, rfl, h0, r0⟩ := trodAll_cons hA
  obtain ⟨v1, vs1, d1, ds1, p1, q1, rfl, rfl, rfl, h1, r1⟩ := trodAll_cons r0
  obtain ⟨rfl, rfl, rfl⟩ := trodAll_nil r1
  obtain rfl : args = #[v0, v1] := by cases args; simp_all
  obtain ⟨rfl, rfl⟩ := trodVars_none hV
  obtain ⟨key, rfl⟩ := okWide_int Tryd.underlying3 (hval 0 3 v0 rfl rfl)
  obtain ⟨x0, x1, x2, x3, y0, y1, y2, y3, n, rfl, rfl, rfl, t0, t1, t2, t3⟩ := Joins.open_agg4 Tryd.underlying46 (by kernel_rfl) (by kernel_rfl) (hval 1 46 v1 rfl rfl) h1
  obtain ⟨a, ea, _, _⟩ := DataW.trod_int Tryd.underlying3 t0
  obtain ⟨b, eb, _, _⟩ := DataW.trod_int Tryd.underlying3 t1
  obtain ⟨c, ec, _, _⟩ := DataW.trod_int Tryd.underlying3 t2
  obtain ⟨d, ed, _, _⟩ := DataW.trod_int Tryd.underlying3 t3
  simp only [List.cons.injEq, and_true] at ea eb ec ed
  subst ea eb ec ed
  clear hA0
  have walk := tokenWrites_walk key a b c d W (tens_of_laid hL) (tab_of_laid hL) (err_of_laid hL)
  unfold v4 at walk
  refine walk.mono fun e W' ⟨he, hbl⟩ => ?_
  subst he
  refine ⟨_, rfl, post_of_below (pa := p0 ++ ((y0.2 ++ (y1.2 ++ (y2.2 ++ y3.2))) ++ [])) (pv := []) hW' (fun _ _ _ => trodAll_cons_mk (shut_bool Tryd.underlying4 _) trodAll_mk0)
    (fun sp hsp => ?_)
    (fun _ _ => rfl) (by simp) hbl (ok_one (by kernel_rfl) rfl (okWide_bool_mk Tryd.underlying4 _))⟩
  have hlt := hW'.lt
  refine trodAll_cons_mk (WideElems.Trod_stays laid_out (by kernel_rfl) (of_decide_eq_true (by kernel_rfl)) h0 (fun x hx => hbl.same (hlt x (by simp [hx]))) (fun x hx => hsp x (by simp [hx]))) ?_
  exact trodAll_cons_mk (WideElems.Trod_stays laid_out (by kernel_rfl) (of_decide_eq_true (by kernel_rfl)) h1 (fun x hx => hbl.same (hlt x (by simp [hx]))) (fun x hx => hsp x (by simp [hx]))) trodAll_mk0

set_option maxRecDepth 100000 in
theorem lifted (os : Os) (started : os.Started) (H : Type) (enc : TypeId × Value → H) (F : Stop.Interp) :
    ReturnsInHanded {} Tryd.checked os 5 .any ((OpenSpec.ofChange Rows.tokenWritesSpec).preRow enc Tryd.prog Tryd.f5 Rows.tokenWritesRow.domain false Rows.tokenWritesRow.laid) (((OpenSpec.ofChange Rows.tokenWritesSpec).at F).post enc Tryd.prog Tryd.f5 false true false false) := by
  obtain ⟨places, hx⟩ := reads os enc
  refine returnsInHanded_of_row (C := Tryd.checked) (s := OpenSpec.ofChange Rows.tokenWritesSpec) own_knob started (by kernel_rfl) Tryd.func5
    (witness_row_at (enc := enc) (C := Tryd.checked) false (laidWorld os) inputs rfl (by kernel_rfl) (by kernel_rfl) (by kernel_rfl)
      (OpenSpec.preRow_of_cond 8 hx (by kernel_rfl) (fun k hk => by cases hk) (by kernel_rfl) (laid_met os))) ?_
  intro W base args ds gs before hval hW _ _ _ hL _ _
  exact contract H enc W base args ds gs before hval hW hL

theorem said : Rows.TokenWritesSaid :=
  OpenClaim.holds_of_cond 5 Tryd.f5 rfl rfl rfl rfl rfl rfl rfl ⟨rfl, rfl, rfl, rfl, rfl⟩ rfl rfl rfl rfl rfl (by kernel_rfl) Tryd.func5 (by kernel_rfl)
    (of_decide_eq_true (by kernel_rfl)) (by unfold Func.isWrapper; rw [if_neg (of_decide_eq_false (by kernel_rfl))]; exact ⟨rfl, rfl⟩)
    (fun os started H enc _ F => by rw [OpenClaim.pre_eq_preRow]; exact lifted os started H enc F)

theorem plain (f : FuncId) (fn : Func) (hf : Tryd.pinned.checked.prog.funcNamed "rotor/rotorlaw.TokenWrites" = some f) (hfn : Tryd.pinned.checked.prog.funcs[f]? = some fn) :
    true = Tryd.pinned.checked.prog.looks [] ∧ ∀ (j : Nat) t, fn.params[j]? = some t → Tryd.pinned.checked.prog.wantsStandIn t = false := by
  obtain rfl : f = 5 := Option.some.inj ((show Tryd.prog.funcNamed "rotor/rotorlaw.TokenWrites" = some 5 by kernel_rfl).symm.trans hf) |>.symm
  obtain rfl : fn = Tryd.f5 := (Option.some.inj (Tryd.func5.symm.trans hfn)).symm
  refine ⟨by kernel_rfl, fun j t ht => ?_⟩
  rw [Tryd.params5] at ht
  have hm := Array.mem_of_getElem? ht
  have hx : t = 3 ∨ t = 46 := by
    simp at hm
    omega
  rcases hx with rfl | rfl
  · exact (show Tryd.prog.wantsStandIn 3 = false by kernel_rfl)
  · exact (show Tryd.prog.wantsStandIn 46 = false by kernel_rfl)

theorem card : Rows.TokenWritesCardSaid :=
  Claim7.holds_tied_plain_at .later [] _ _ _ _ said (fun _ h => by cases h) (by kernel_rfl) (fun _ h => by cases h) tokenWrites_row_tie rfl ⟨rfl, rfl⟩ (by kernel_rfl) rfl plain (by kernel_rfl)
end Go.Proofs.YtpokddiddjmkoaaDoor.law3
