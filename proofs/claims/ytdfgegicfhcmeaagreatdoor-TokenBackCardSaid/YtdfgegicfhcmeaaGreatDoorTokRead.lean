/-
  token.Read: the token that a text is, or what is wrong with it.
-/
import Derived.Test.YtdfgegicfhcmeaaGreatDoorTokPure
import Derived.Test.YtdfgegicfhcmeaaGreatDoorNumber
import Derived.Test.YtdfgegicfhcmeaaGreatDoorSplit
import Derived.Test.YtdfgegicfhcmeaaGreatDoorWrite2
import Derived.RegionTactic
import Derived.ChangeAlike
import Derived.Laws.ResultCell
namespace Go.Proofs.YtdfgegicfhcmeaaGreatDoor
open Go.RowKit Go.Sort

theorem results_row_tmp {P : Program} {fn : Func} {p u : Tmp} {ty : TypeId} (h : fn.results = #[.cell p ty, .tmp u]) (tmps : Array Value) (w : World) (g : Nat) (t : TypeId) (cs : Array Value) (d : TypeDesc) (x : Value)
    (hp : tmps.getD p undef = .pointer (some ⟨g, 0, none⟩)) (hx : tmps.getD u undef = x) (hg : Blk w g t cs)
    (hu : P.underlying ty = some d) (hd : (match d with | .struct _ | .array _ _ => true | _ => false) = true) (hi : (P.info? ty).map (·.size) = some cs.size) :
    (results fn tmps).run P w = .ok (.tuple #[.agg cs, x]) w := by
  rw [results_cell_tmp h, hp, hx]
  simp only [asAddr, Sem.run_pure, Result.andThen]
  rw [run_loadVar_row w g t ty cs (0, 0) d hg hu hd hi]
/-- what is known while token.Read is under way: its result's block, its row of words -/
structure TR (W : World) (L : List (List UInt8)) (v : Value) (w : World) : Prop where
  below : Below W.heap.size W w
  res : Blk w W.heap.size 23 #[.int .i64 0, .int .i64 0, .int .i64 0, .int .i64 0]
  row : Row w (W.heap.size + 1) v L
  tens : Tens w
  errs : ErrVars w
theorem TR.keep {W w w' : World} {L : List (List UInt8)} {v : Value} (h : TR W L v w) (hb : Below w.heap.size w w') : TR W L v w' :=
  ⟨h.below.trans (hb.mono h.below.size), h.res.below' hb, h.row.below hb, h.tens.below hb h.tens.lt, h.errs.below' hb⟩

theorem TR.facts {W w : World} {L : List (List UInt8)} {v : Value} (h : TR W L v w) : ∃ g cap, v = .slice (some ⟨g, 0, none⟩) L.length cap ∧ L.length ≤ cap ∧ cap ≤ 9223372036854775807 ∧ W.heap.size + 1 ≤ g ∧ g < w.heap.size ∧ W.heap.size < w.heap.size ∧
    (∀ j, j < L.length → w.cell? ⟨g, j, none⟩ = some (.string (txt (L.getD j [])))) ∧ (w.cell? ⟨W.heap.size, 0, none⟩ = some (.int .i64 0) ∧ w.cell? ⟨W.heap.size, 1, none⟩ = some (.int .i64 0) ∧ w.cell? ⟨W.heap.size, 2, none⟩ = some (.int .i64 0) ∧ w.cell? ⟨W.heap.size, 3, none⟩ = some (.int .i64 0)) ∧
    (w.frozen? ⟨W.heap.size, 0, none⟩ = false ∧ w.frozen? ⟨W.heap.size, 1, none⟩ = false ∧ w.frozen? ⟨W.heap.size, 2, none⟩ = false ∧ w.frozen? ⟨W.heap.size, 3, none⟩ = false) := by
  obtain ⟨g, cap, rfl, h1, h2, h3, h4, _⟩ := h.row.parts
  exact ⟨g, cap, rfl, h3, h4, h1, h2, h.res.lt, fun j hj => h.row.cell j hj, ⟨h.res.cell 0, h.res.cell 1, h.res.cell 2, h.res.cell 3⟩, h.res.frozen 0, h.res.frozen 1, h.res.frozen 2, h.res.frozen 3⟩

def ReadGot (W : World) (R : Int × Int × Int × Int × Int) (e : Ending) (w' : World) : Prop := e = .returned (.tuple #[v4 R.2.1 R.2.2.1 R.2.2.2.1 R.2.2.2.2, errV R.1]) ∧ Below W.heap.size W w'

theorem tokRead_start (_key : Int) (s : ByteArray) (W : World) (hs : s.size ≤ 1000) (hm : MaxL W) (hT : Tens W) (hv : ErrVars W) :
    Calls Tryz.prog 18 #[.string s, .string ⟨#[46]⟩] (W.alloc (.cells #[.int .i64 0, .int .i64 0, .int .i64 0, .int .i64 0] 23)) fun e w' => ∃ v, e = .returned v ∧ TR W (parts 46 s.data.toList) v w' := by
  have hb0 : Below W.heap.size W (W.alloc (.cells #[.int .i64 0, .int .i64 0, .int .i64 0, .int .i64 0] 23)) := (Below.refl _ _).alloc (Nat.le_refl _) _
  refine (split_row 46 s (W.heap.size + 1) _ (by omega) (hm.below hb0 hm.lt) (by simp)).mono ?_
  rintro e w' ⟨v, rfl, hr, hb⟩
  exact ⟨v, rfl, hb0.trans (hb.mono hb0.size), (Blk.new W _ _).below' hb, hr, (hT.below hb0 hT.lt).below hb (by simp; have := hT.lt; omega), (hv.below hb0 hv.lt.1 hv.lt.2).below hb (by simp; have := hv.lt.1; omega) (by simp; have := hv.lt.2; omega)⟩

/-- the result's block behind four stores -/
theorem four_sets {w : World} {rb : Nat} {T : TypeId} {y0 y1 y2 y3 : Value} (h : Blk w rb T #[y0, y1, y2, y3]) (x0 x1 x2 x3 : Value) :
    Blk ((((w.setCell ⟨rb, 0, none⟩ x0).setCell ⟨rb, 1, none⟩ x1).setCell ⟨rb, 2, none⟩ x2).setCell ⟨rb, 3, none⟩ x3) rb T #[x0, x1, x2, x3] :=
  (((h.set_ 0 x0).set_ 1 x1).set_ 2 x2).set_ 3 x3
theorem four_below {W w : World} (h : Below W.heap.size W w) (x0 x1 x2 x3 : Value) :
    Below W.heap.size W ((((w.setCell ⟨W.heap.size, 0, none⟩ x0).setCell ⟨W.heap.size, 1, none⟩ x1).setCell ⟨W.heap.size, 2, none⟩ x2).setCell ⟨W.heap.size, 3, none⟩ x3) :=
  (((h.setCell (Nat.le_refl _) x0).setCell (Nat.le_refl _) x1).setCell (Nat.le_refl _) x2).setCell (Nat.le_refl _) x3
theorem read_end {W w : World} {A : Act} {a b c d n : Int} (hb : Below W.heap.size W w) (hr : Blk w W.heap.size 23 #[.int .i64 a, .int .i64 b, .int .i64 c, .int .i64 d])
    (hp : A.tmps.getD 4 undef = .pointer (some ⟨W.heap.size, 0, none⟩)) (hx : A.tmps.getD 5 undef = errV n) (hd : A.defers = []) :
    bodyPost Tryz.prog Tryz.f7 (ReadGot W (n, a, b, c, d)) Exit.ret A w :=
  bodyPost_ret (results_row_tmp rfl A.tmps w _ _ _ _ _ hp hx hr Tryz.underlying23 rfl (by kernel_rfl)) hd ⟨rfl, hb⟩

set_option maxHeartbeats 4000000 in
set_option maxRecDepth 100000 in
/-- no kind, or another number of words -/
theorem tokRead_form (key : Int) (s : ByteArray) (W : World) (hs : s.size ≤ 1000) (hm : MaxL W) (hT : Tens W) (hv : ErrVars W)
    (hf : ((parts 46 s.data.toList).getD 0 [] ≠ [97] ∧ (parts 46 s.data.toList).getD 0 [] ≠ [114]) ∨ ((parts 46 s.data.toList).getD 0 [] = [97] ∧ (parts 46 s.data.toList).length ≠ 5) ∨ ((parts 46 s.data.toList).getD 0 [] = [114] ∧ (parts 46 s.data.toList).length ≠ 4)) :
    Calls Tryz.prog 7 #[.int .i64 key, .string s] W (ReadGot W (3, 0, 0, 0, 0)) := by
  have H := Lib.hid (tokRead_start key s W hs hm hT hv)
  have hpos := parts_pos 46 s.data.toList
  clear hm hT hv
  generalize parts 46 s.data.toList = L at *
  generalize hx : L.getD 0 [] = x at *
  have HX := Lib.hid hx
  clear hx
  have hkey : ((txt x).toList == [97]) = false ∧ ((txt x).toList == [114]) = false ∨ ((txt x).toList == [97]) = true ∧ ((L.length : Int) != 5) = true ∨ ((txt x).toList == [97]) = false ∧ ((txt x).toList == [114]) = true ∧ ((L.length : Int) != 4) = true := by
    rw [toList_txt]
    rcases hf with ⟨h1, h2⟩ | ⟨h1, h2⟩ | ⟨h1, h2⟩
    · exact .inl ⟨by simpa using h1, by simpa using h2⟩
    · exact .inr (.inl ⟨by simp [h1], by simp; omega⟩)
    · exact .inr (.inr ⟨by simp [h1], by simp [h1], by simp; omega⟩)
  clear hf
  rcases hkey with ⟨e1, e2⟩ | ⟨e1, e2⟩ | ⟨e1, e2, e3⟩
  all_goals
    go_enter Tryz.func7, Tryz.ntmps7
    go_wp2_with fail
    go_at_call 18
    refine H.out.mono ?_
    rintro e w1 ⟨v, rfl, h⟩
    have HB := Lib.hid h.below
    have HBL := Lib.hid h.res
    obtain ⟨g, cap, rfl, hcap, hmax, hg1, hg2, hrl, hcells, ⟨r0, r1, r2, r3⟩, f0, f1, f2, f3⟩ := h.facts
    have hc := hcells 0 hpos
    rw [HX.out] at hc
    clear h hcells
    go_wp2_with fail
    exact read_end ((four_below HB.out (.int .i64 0) (.int .i64 0) (.int .i64 0) (.int .i64 0)).alloc (four_below HB.out (.int .i64 0) (.int .i64 0) (.int .i64 0) (.int .i64 0)).size _) ((four_sets HBL.out (.int .i64 0) (.int .i64 0) (.int .i64 0) (.int .i64 0)).alloc _) rfl rfl rfl
end Go.Proofs.YtdfgegicfhcmeaaGreatDoor
