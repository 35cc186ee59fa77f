/-
  An event that comes in, opened: its twelve cells; its texts' sizes.
-/
import Derived.Test.YtklpmoimckblcaaGreatDoorBaseOf
import Derived.Test.YtklpmoimckblcaaGreatDoorEvVals
namespace Go.Proofs.YtklpmoimckblcaaGreatDoor
open Go.ChangeShapes Go.WideShapes Go.ChangeAt Go.RowKit Go.Deep

theorem array12 {α : Type} {cs : Array α} (h : cs.size = 12) : ∃ c0 c1 c2 c3 c4 c5 c6 c7 c8 c9 c10 c11, cs = #[c0, c1, c2, c3, c4, c5, c6, c7, c8, c9, c10, c11] := by
  obtain ⟨l⟩ := cs
  match l, h with
  | [c0, c1, c2, c3, c4, c5, c6, c7, c8, c9, c10, c11], _ => exact ⟨c0, c1, c2, c3, c4, c5, c6, c7, c8, c9, c10, c11, rfl⟩
theorem list4 {α : Type} {l : List α} (h : l.length = 4) : ∃ a b c d, l = [a, b, c, d] := by
  match l, h with
  | [a, b, c, d], _ => exact ⟨a, b, c, d, rfl⟩
theorem list9 {α : Type} {l : List α} (h : l.length = 9) : ∃ a b c d e f g i j, l = [a, b, c, d, e, f, g, i, j] := by
  match l, h with
  | [a, b, c, d, e, f, g, i, j], _ => exact ⟨a, b, c, d, e, f, g, i, j, rfl⟩
theorem cells_int : Tryz.prog.cellsOf 3 = 1 := by kernel_rfl
theorem cells_str : Tryz.prog.cellsOf 9 = 1 := by kernel_rfl
theorem cells_bool : Tryz.prog.cellsOf 4 = 1 := by kernel_rfl
theorem cells_fam : Tryz.prog.cellsOf 23 = 9 := by kernel_rfl
theorem cells_ev : Tryz.prog.cellsOf 25 = 12 := by kernel_rfl

/-- the datum of a family, of an event -/
def famD {H : Type} (f : Fam) : DataW H := .agg [.lit (.int .i64 f.id), .lit (.string f.client.data.toList), .lit (.string f.subject.data.toList), .lit (.string f.scope.data.toList), .lit (.int .i64 f.gen), .lit (.int .i64 f.made), .lit (.int .i64 f.used), .lit (.string f.request.data.toList), .lit (.bool f.dead)]
def evD {H : Type} (e : Ev) : DataW H := .agg [.lit (.int .i64 e.kind), famD e.fam, .lit (.int .i64 e.id), .lit (.int .i64 e.time)]

section
variable {H : Type} {enc : TypeId × Value → H} {W : World} {base : Nat} {spare : Nat → Bool} {held : Bool}
set_option maxRecDepth 100000 in
theorem fam_trod {fuel : Nat} {c0 c1 c2 c3 c4 c5 c6 c7 c8 : Value} {y : DataW H × List MemPlace} (h : DataW.trod enc Tryz.prog W base spare held fuel 23 [c0, c1, c2, c3, c4, c5, c6, c7, c8] = some y) :
    ∃ f : Fam, [c0, c1, c2, c3, c4, c5, c6, c7, c8] = (famCs f).toList ∧ y = (famD f, []) := by
  obtain ⟨xs, n, _, hx, _, hlen, hf⟩ := DataW.trod_struct Tryz.underlying23 h
  obtain ⟨y0, y1, y2, y3, y4, y5, y6, y7, y8, rfl⟩ := list9 hlen
  have k0 := hf 0 _ rfl
  have k1 := hf 1 _ rfl
  have k2 := hf 2 _ rfl
  have k3 := hf 3 _ rfl
  have k4 := hf 4 _ rfl
  have k5 := hf 5 _ rfl
  have k6 := hf 6 _ rfl
  have k7 := hf 7 _ rfl
  have k8 := hf 8 _ rfl
  simp only [List.getElem_toArray, List.getElem_cons_zero, List.getElem_cons_succ] at k0 k1 k2 k3 k4 k5 k6 k7 k8
  rw [cells_int] at k0 k4 k5 k6
  rw [cells_str] at k1 k2 k3 k7
  rw [cells_bool] at k8
  obtain ⟨a0, e0, rfl, _⟩ := DataW.trod_int Tryz.underlying3 k0
  obtain ⟨a1, e1, rfl, _⟩ := DataW.trod_string Tryz.underlying9 k1
  obtain ⟨a2, e2, rfl, _⟩ := DataW.trod_string Tryz.underlying9 k2
  obtain ⟨a3, e3, rfl, _⟩ := DataW.trod_string Tryz.underlying9 k3
  obtain ⟨a4, e4, rfl, _⟩ := DataW.trod_int Tryz.underlying3 k4
  obtain ⟨a5, e5, rfl, _⟩ := DataW.trod_int Tryz.underlying3 k5
  obtain ⟨a6, e6, rfl, _⟩ := DataW.trod_int Tryz.underlying3 k6
  obtain ⟨a7, e7, rfl, _⟩ := DataW.trod_string Tryz.underlying9 k7
  obtain ⟨a8, e8, rfl⟩ := DataW.trod_bool Tryz.underlying4 k8
  simp only [List.drop, List.take, List.cons.injEq, and_true] at e0 e1 e2 e3 e4 e5 e6 e7 e8
  subst e0 e1 e2 e3 e4 e5 e6 e7 e8
  exact ⟨⟨a0, a1, a2, a3, a4, a5, a6, a7, a8⟩, rfl, by rw [hx]; rfl⟩
set_option maxRecDepth 100000 in
theorem ev_trod {fuel : Nat} {c0 c1 c2 c3 c4 c5 c6 c7 c8 c9 c10 c11 : Value} {y : DataW H × List MemPlace} (h : DataW.trod enc Tryz.prog W base spare held fuel 25 [c0, c1, c2, c3, c4, c5, c6, c7, c8, c9, c10, c11] = some y) :
    ∃ e : Ev, [c0, c1, c2, c3, c4, c5, c6, c7, c8, c9, c10, c11] = (evCs e).toList ∧ y = (evD e, []) := by
  obtain ⟨xs, n, _, hx, _, hlen, hf⟩ := DataW.trod_struct Tryz.underlying25 h
  obtain ⟨y0, y1, y2, y3, rfl⟩ := list4 hlen
  have k0 := hf 0 _ rfl
  have k1 := hf 1 _ rfl
  have k2 := hf 2 _ rfl
  have k3 := hf 3 _ rfl
  simp only [List.getElem_toArray, List.getElem_cons_zero, List.getElem_cons_succ] at k0 k1 k2 k3
  rw [cells_int] at k0 k2 k3
  rw [cells_fam] at k1
  obtain ⟨a0, e0, rfl, _⟩ := DataW.trod_int Tryz.underlying3 k0
  obtain ⟨f, e1, rfl⟩ := fam_trod k1
  obtain ⟨a2, e2, rfl, _⟩ := DataW.trod_int Tryz.underlying3 k2
  obtain ⟨a3, e3, rfl, _⟩ := DataW.trod_int Tryz.underlying3 k3
  simp only [List.drop, List.take, List.cons.injEq, and_true] at e0 e2 e3
  simp only [famCs, List.cons.injEq, and_true] at e1
  obtain ⟨g1, g2, g3, g4, g5, g6, g7, g8, g9⟩ := e1
  refine ⟨⟨a0, f, a2, a3⟩, ?_, by rw [hx]; rfl⟩
  subst e0 e2 e3 g1 g2 g3 g4 g5 g6 g7 g8 g9
  rfl
set_option maxRecDepth 100000 in
theorem ev_open {r : Reach} {b0 : Nat} {v : Value} {d : DataW H} {p : List MemPlace} (hv : Value.okWide Tryz.prog W r b0 25 v) (h : DataW.Trod enc Tryz.prog W base spare held 25 v d p) :
    ∃ e : Ev, v = evVal e ∧ d = evD e ∧ p = [] := by
  obtain ⟨cs, rfl, hsz⟩ := okWide_struct Tryz.underlying25 hv
  obtain ⟨c0, c1, c2, c3, c4, c5, c6, c7, c8, c9, c10, c11, rfl⟩ := array12 (hsz.trans cells_ev)
  obtain ⟨fuel, h⟩ := h
  obtain ⟨e, he, hy⟩ := ev_trod h
  simp only [Prod.mk.injEq] at hy
  refine ⟨e, ?_, hy.1, hy.2⟩
  unfold evVal
  congr 1
  exact Array.toList_inj.1 he
end
theorem list12 {α : Type} {l : List α} (h : l.length = 12) : ∃ a b c d e f g i j k m n, l = [a, b, c, d, e, f, g, i, j, k, m, n] := by
  match l, h with
  | [a, b, c, d, e, f, g, i, j, k, m, n], _ => exact ⟨a, b, c, d, e, f, g, i, j, k, m, n, rfl⟩
theorem ev_reach {H : Type} {e : Ev} {ts : List TypeId} {ds : List (DataW H)} {j : Nat} (hwt : (DataW.weightsEach Tryz.prog ts ds).all (· ≤ reachBytes) = true) (hts : ts[j]? = some 25) (hds : ds[j]? = some (evD e)) : e.fam.len ≤ 1000000000000000 := by
  have h := DataW.weights_mem_each (P := Tryz.prog) hts hds
  have hw : ∀ n ∈ (evD e : DataW H).weights Tryz.prog 25, n ≤ reachBytes := fun n hn => by
    have := List.all_eq_true.1 hwt n (h n hn)
    simpa using this
  have e1 : (evD e : DataW H).weights Tryz.prog 25 = [e.fam.client.data.toList.length, e.fam.subject.data.toList.length, e.fam.scope.data.toList.length, e.fam.request.data.toList.length] := by
    unfold evD famD
    simp only [DataW.weights, Tryz.underlying25, Tryz.underlying23, DataW.weightsEach, List.map_cons, List.map_nil, List.append_nil, List.nil_append, List.cons_append]
  rw [e1] at hw
  simp only [size_data] at hw
  have b1 := hw e.fam.client.size (by simp)
  have b2 := hw e.fam.subject.size (by simp)
  have b3 := hw e.fam.scope.size (by simp)
  have b4 := hw e.fam.request.size (by simp)
  have := reachBytes_lt
  unfold Fam.len
  omega
end Go.Proofs.YtklpmoimckblcaaGreatDoor
