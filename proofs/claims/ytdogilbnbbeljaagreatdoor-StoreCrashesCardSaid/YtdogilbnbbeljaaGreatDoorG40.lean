/-
  What is done at a store, in a slice that came in; numbers in a slice that came in.
-/
import Derived.Test.YtdogilbnbbeljaaGreatDoorG03
import Derived.Test.YtdogilbnbbeljaaGreatDoorG39
namespace Go.Proofs.YtdogilbnbbeljaaGreatDoor
open Go.ChangeShapes Go.WideShapes Go.ChangeAt Go.RowKit Go.Deep

theorem weights_in {H : Type} {P : Program} {e : TypeId} {n : Nat} {d : DataW H} : ∀ {l : List (DataW H)}, d ∈ l → n ∈ d.weights P e → n ∈ DataW.weightsAll P e l
  | [], h, _ => by cases h
  | x :: r, h, hn => by
    unfold DataW.weightsAll
    rw [List.mem_append]
    rcases List.mem_cons.1 h with rfl | h
    · exact .inl hn
    · exact .inr (weights_in h hn)
def doD {H : Type} (d : DoE) : DataW H := .agg [.lit (.int .i64 d.what), evD d.ev]
theorem cells_do : Tryz.prog.cellsOf 44 = 13 := by kernel_rfl
theorem list13 {α : Type} {l : List α} (h : l.length = 13) : ∃ x a b c d e f g i j k m n, l = [x, a, b, c, d, e, f, g, i, j, k, m, n] := by
  match l, h with
  | [x, a, b, c, d, e, f, g, i, j, k, m, n], _ => exact ⟨x, a, b, c, d, e, f, g, i, j, k, m, n, rfl⟩
theorem list2 {α : Type} {l : List α} (h : l.length = 2) : ∃ a b, l = [a, b] := by
  match l, h with
  | [a, b], _ => exact ⟨a, b, rfl⟩
section
variable {H : Type} {enc : TypeId × Value → H} {W : World} {base : Nat} {spare : Nat → Bool} {held : Bool}
set_option maxRecDepth 100000 in
theorem do_trod {fuel : Nat} {cx c0 c1 c2 c3 c4 c5 c6 c7 c8 c9 c10 c11 : Value} {y : DataW H × List MemPlace} (h : DataW.trod enc Tryz.prog W base spare held fuel 44 [cx, c0, c1, c2, c3, c4, c5, c6, c7, c8, c9, c10, c11] = some y) :
    ∃ d : DoE, [cx, c0, c1, c2, c3, c4, c5, c6, c7, c8, c9, c10, c11] = (doCs d).toList ∧ y = (doD d, []) := by
  obtain ⟨xs, n, _, hx, _, hlen, hf⟩ := DataW.trod_struct Tryz.underlying44 h
  obtain ⟨y0, y1, rfl⟩ := list2 hlen
  have k0 := hf 0 _ rfl
  have k1 := hf 1 _ rfl
  simp only [List.getElem_toArray, List.getElem_cons_zero, List.getElem_cons_succ] at k0 k1
  rw [cells_int] at k0
  rw [cells_ev] at k1
  obtain ⟨a0, e0, rfl, _⟩ := DataW.trod_int Tryz.underlying3 k0
  obtain ⟨e, e1, rfl⟩ := ev_trod k1
  simp only [List.drop, List.take, List.cons.injEq, and_true] at e0
  simp only [evCs, List.cons.injEq, and_true] at e1
  obtain ⟨g1, g2, g3, g4, g5, g6, g7, g8, g9, g10, g11, g12⟩ := e1
  refine ⟨⟨a0, e⟩, ?_, by rw [hx]; rfl⟩
  subst e0 g1 g2 g3 g4 g5 g6 g7 g8 g9 g10 g11 g12
  rfl
end
theorem do_len {H : Type} {d : DoE} (hw : ∀ n ∈ (doD d : DataW H).weights Tryz.prog 44, n ≤ reachBytes) : d.ev.fam.len ≤ 1000000000000000 := by
  have e1 : (doD d : DataW H).weights Tryz.prog 44 = [d.ev.fam.client.data.toList.length, d.ev.fam.subject.data.toList.length, d.ev.fam.scope.data.toList.length, d.ev.fam.request.data.toList.length] := by
    unfold doD evD famT
    simp only [DataW.weights, Tryz.underlying44, Tryz.underlying42, Tryz.underlying40, DataW.weightsEach, List.map_cons, List.map_nil, List.append_nil, List.nil_append, List.cons_append]
  rw [e1] at hw
  simp only [size_data] at hw
  have b1 := hw d.ev.fam.client.size (by simp)
  have b2 := hw d.ev.fam.subject.size (by simp)
  have b3 := hw d.ev.fam.scope.size (by simp)
  have b4 := hw d.ev.fam.request.size (by simp)
  have := reachBytes_lt
  unfold Fam.len
  omega
def DoE.zero : DoE := ⟨0, Ev.zero⟩
section
variable {H : Type} {enc : TypeId × Value → H} {W : World}
/-- nil or empty, or what is done in a row of cells -/
theorem dos_open {a0 : Option Addr} {len cap : Nat} {d : DataW H} {p : List MemPlace} (h : DataW.Trod enc Tryz.prog W 0 (fun _ => true) true 22 (.slice a0 len cap) d p) (hd : ∀ n ∈ d.weights Tryz.prog 22, n ≤ reachBytes) :
    len ≤ 9223372036854775807 ∧ ∃ (g off : Nat) (E : List DoE), E.length = len ∧ (E ≠ [] → a0 = some ⟨g, off, none⟩) ∧ (E ≠ [] → DosAt W g off E ∧ g < W.heap.size) ∧ ∀ e ∈ E, e.ev.fam.len ≤ 1000000000000000 := by
  by_cases h0 : len = 0
  · subst h0
    exact ⟨by omega, 0, 0, [], rfl, fun h => absurd rfl h, fun h => absurd rfl h, fun e he => by simp at he⟩
  obtain ⟨fuel, hf⟩ := h
  rcases open_slice Tryz.underlying22 hf with ⟨hcs, _⟩ | ⟨a, len', cap', m, n, D, Pl, hcs, _, hl, hmx, hmm, hx, hi⟩
  · simp only [Value.cells, List.cons.injEq, Value.slice.injEq, and_true] at hcs
    exact absurd hcs.2.1 h0
  · simp only [Value.cells, List.cons.injEq, Value.slice.injEq, and_true] at hcs
    obtain ⟨rfl, rfl, rfl⟩ := hcs
    simp only [Prod.mk.injEq] at hx
    unfold maxLen at hmx
    have key : ∀ i, i < len → ∃ e : DoE, D i = doD e ∧ ∀ j, j < 13 → W.cell? (a.add (i * 13 + j)) = (doCs e)[j]? := by
      intro i hil
      obtain ⟨cs', hc, ht⟩ := hi i (by rw [hmm]; simp; omega)
      rw [cells_do] at hc
      obtain ⟨_, hcl, hat⟩ := World.cells?_some hc
      obtain ⟨cx, c0, c1, c2, c3, c4, c5, c6, c7, c8, c9, c10, c11, rfl⟩ := list13 hcl
      obtain ⟨e, he, hy⟩ := do_trod ht
      simp only [Prod.mk.injEq] at hy
      refine ⟨e, hy.1, fun j hj => ?_⟩
      have h1 := hat j hj
      rw [Go.Deep.add_add] at h1
      rw [h1, he, Array.getElem?_toList]
    obtain ⟨ev, hev⟩ : ∃ ev : Nat → DoE, ∀ i, i < len → D i = doD (ev i) ∧ ∀ j, j < 13 → W.cell? (a.add (i * 13 + j)) = (doCs (ev i))[j]? := by
      refine ⟨fun i => if hil : i < len then Classical.choose (key i hil) else DoE.zero, fun i hil => ?_⟩
      dsimp only
      rw [dif_pos hil]
      exact Classical.choose_spec (key i hil)
    have hc0 := (hev 0 (by omega)).2 0 (by decide)
    have hsome : W.cell? (a.add 0) = some (.int .i64 (ev 0).what) := hc0
    have hsp := (cell_add hsome).2.2 rfl
    have hlt := (cell_add hsome).2.1
    refine ⟨by omega, a.block, a.off, (List.range len).map ev, by simp, fun _ => by cases a; simp_all, fun _ => ⟨?_, hlt⟩, ?_⟩
    · intro i e hie j hj
      have hil : i < len := by
        have := (List.getElem?_eq_some_iff.1 hie).1
        simpa using this
      rw [List.getElem?_map, List.getElem?_range hil] at hie
      obtain rfl := Option.some.inj hie
      have h1 := (hev i hil).2 j hj
      rw [← h1]
      unfold Addr.add
      split
      · rename_i hz
        have h2 : a.off + i * 13 + j = a.off := by omega
        rw [h2]
        congr 1
        cases a
        simp_all
      · rw [Nat.add_assoc]
    · intro e he
      obtain ⟨i, hi', rfl⟩ := List.mem_map.1 he
      have hil : i < len := List.mem_range.1 hi'
      refine do_len (H := H) fun n hn => hd n ?_
      rw [hx.1]
      simp only [DataW.weights, Tryz.underlying22]
      refine List.mem_cons_of_mem _ (List.mem_append_left _ (weights_in (d := doD (ev i)) ?_ hn))
      rw [List.mem_map]
      exact ⟨i, hi', (hev i hil).1⟩
/-- numbers in a row of cells -/
theorem cuts_open {a0 : Option Addr} {m cap : Nat} {d : DataW H} {p : List MemPlace} (h : DataW.Trod enc Tryz.prog W 0 (fun _ => true) true 23 (.slice a0 m cap) d p) :
    m ≤ 9223372036854775807 ∧ CutsAt W (.slice a0 m cap) m ∧ ∀ a cap', Value.slice a0 m cap = .slice (some a) m cap' → m ≠ 0 → a.block < W.heap.size := by
  obtain ⟨fuel, hf⟩ := h
  rcases open_ints Tryz.underlying23 Tryz.underlying3 cells_int hf with ⟨hcs, _⟩ | ⟨a, len', cap', zs, hcs, _, hl, hmx, hzl, _, hz, _⟩
  · simp only [Value.cells, List.cons.injEq, Value.slice.injEq, and_true] at hcs
    obtain ⟨rfl, rfl, rfl⟩ := hcs
    exact ⟨by omega, ⟨_, _, rfl, fun h => absurd rfl h⟩, fun a c e h0 => absurd rfl h0⟩
  · simp only [Value.cells, List.cons.injEq, Value.slice.injEq, and_true] at hcs
    obtain ⟨rfl, rfl, rfl⟩ := hcs
    unfold maxLen at hmx
    have hlen : m ≤ zs.length := by
      rw [hzl]
      simp
      omega
    have hk : ∀ i, i < m → W.cell? ⟨a.block, a.off + i, none⟩ = some (.int .i64 (zs.getD i 0)) ∧ a.block < W.heap.size ∧ (i = 0 → a.spot = none) := fun i hi => cell_add (hz i (by omega))
    refine ⟨by omega, ⟨_, _, rfl, fun h0 => ⟨a.block, a.off, ?_, fun i hi => ⟨_, (hk i hi).1⟩⟩⟩, fun a' c e h0 => ?_⟩
    · have := (hk 0 (by omega)).2.2 rfl
      cases a
      simp_all
    · simp only [Value.slice.injEq, Option.some.injEq] at e
      obtain ⟨rfl, _, _⟩ := e
      exact (hk 0 (by omega)).2.1
end
end Go.Proofs.YtdogilbnbbeljaaGreatDoor
