/-
  A slice of events that came in: its cells, and its texts' reach.
-/
import Derived.Test.YtklpmoimckblcaaEvOpen
namespace Go.Proofs.Ytklpmoimckblcaa
open Go.ChangeShapes Go.WideShapes Go.ChangeAt Go.RowKit Go.Deep

theorem weights_all {H : Type} {P : Program} {e : TypeId} {n : Nat} {d : DataW H} : ∀ {l : List (DataW H)}, d ∈ l → n ∈ d.weights P e → n ∈ DataW.weightsAll P e l
  | [], h, _ => by cases h
  | x :: r, h, hn => by
    unfold DataW.weightsAll
    rw [List.mem_append]
    rcases List.mem_cons.1 h with rfl | h
    · exact .inl hn
    · exact .inr (weights_all h hn)
theorem ev_len {H : Type} {e : Ev} (hw : ∀ n ∈ (evD e : DataW H).weights Try.prog 30, n ≤ reachBytes) : e.fam.len ≤ 1000000000000000 := by
  have e1 : (evD e : DataW H).weights Try.prog 30 = [e.fam.client.data.toList.length, e.fam.subject.data.toList.length, e.fam.scope.data.toList.length, e.fam.request.data.toList.length] := by
    unfold evD famD
    simp only [DataW.weights, Try.underlying30, Try.underlying28, DataW.weightsEach, List.map_cons, List.map_nil, List.append_nil, List.nil_append, List.cons_append]
  rw [e1] at hw
  simp only [size_data] at hw
  have b1 := hw e.fam.client.size (by simp)
  have b2 := hw e.fam.subject.size (by simp)
  have b3 := hw e.fam.scope.size (by simp)
  have b4 := hw e.fam.request.size (by simp)
  have := reachBytes_lt
  unfold Fam.len
  omega

section
variable {H : Type} {enc : TypeId × Value → H} {W : World}
/-- nil or empty, or events in a row of cells -/
theorem evs_open {a0 : Option Addr} {len cap : Nat} {d : DataW H} {p : List MemPlace} (h : DataW.Trod enc Try.prog W 0 (fun _ => true) true 22 (.slice a0 len cap) d p) (hd : ∀ n ∈ d.weights Try.prog 22, n ≤ reachBytes) :
    len = 0 ∨ ∃ (g off : Nat) (E : List Ev), a0 = some ⟨g, off, none⟩ ∧ E.length = len ∧ g < W.heap.size ∧ (∀ i e, E[i]? = some e → ∀ j, j < 12 → W.cell? ⟨g, off + i * 12 + j, none⟩ = (evCs e)[j]?) ∧ ∀ e ∈ E, e.fam.len ≤ 1000000000000000 := by
  by_cases h0 : len = 0
  · exact .inl h0
  obtain ⟨fuel, hf⟩ := h
  rcases open_slice Try.underlying22 hf with ⟨hcs, _⟩ | ⟨a, len', cap', m, n, D, Pl, hcs, _, hl, _, hmm, hx, hi⟩
  · simp only [Value.cells, List.cons.injEq, Value.slice.injEq, and_true] at hcs
    exact absurd hcs.2.1 h0
  · simp only [Value.cells, List.cons.injEq, Value.slice.injEq, and_true] at hcs
    obtain ⟨rfl, rfl, rfl⟩ := hcs
    simp only [Prod.mk.injEq] at hx
    have key : ∀ i, i < len → ∃ e : Ev, D i = evD e ∧ ∀ j, j < 12 → W.cell? (a.add (i * 12 + j)) = (evCs e)[j]? := by
      intro i hil
      obtain ⟨cs', hc, ht⟩ := hi i (by rw [hmm]; simp; omega)
      rw [cells_ev] at hc
      obtain ⟨_, hcl, hat⟩ := World.cells?_some hc
      obtain ⟨c0, c1, c2, c3, c4, c5, c6, c7, c8, c9, c10, c11, rfl⟩ := list12 hcl
      obtain ⟨e, he, hy⟩ := ev_trod ht
      simp only [Prod.mk.injEq] at hy
      refine ⟨e, hy.1, fun j hj => ?_⟩
      have h1 := hat j hj
      rw [Go.Deep.add_add] at h1
      rw [h1, he, Array.getElem?_toList]
    obtain ⟨ev, hev⟩ : ∃ ev : Nat → Ev, ∀ i, i < len → D i = evD (ev i) ∧ ∀ j, j < 12 → W.cell? (a.add (i * 12 + j)) = (evCs (ev i))[j]? := by
      refine ⟨fun i => if hil : i < len then Classical.choose (key i hil) else Ev.zero, fun i hil => ?_⟩
      dsimp only
      rw [dif_pos hil]
      exact Classical.choose_spec (key i hil)
    have hc0 := (hev 0 (by omega)).2 0 (by decide)
    have hsome : W.cell? (a.add 0) = some (.int .i64 (ev 0).kind) := hc0
    have hsp := (cell_add hsome).2.2 rfl
    have hlt := (cell_add hsome).2.1
    refine .inr ⟨a.block, a.off, (List.range len).map ev, ?_, by simp, hlt, ?_, ?_⟩
    · cases a; simp_all
    · intro i e hie j hj
      have hil : i < len := by
        have := (List.getElem?_eq_some_iff.1 hie).1
        simpa using this
      rw [List.getElem?_map, List.getElem?_range hil] at hie
      obtain rfl := Option.some.inj hie
      have h1 := (hev i hil).2 j hj
      rw [← h1]
      unfold Addr.add
      split
      · rename_i hz
        have h2 : a.off + i * 12 + j = a.off := by omega
        rw [h2]
        congr 1
        cases a
        simp_all
      · rw [Nat.add_assoc]
    · intro e he
      obtain ⟨i, hi', rfl⟩ := List.mem_map.1 he
      have hil : i < len := List.mem_range.1 hi'
      refine ev_len (H := H) fun n hn => hd n ?_
      rw [hx.1]
      simp only [DataW.weights, Try.underlying22]
      refine List.mem_cons_of_mem _ (List.mem_append_left _ (weights_all (d := evD (ev i)) ?_ hn))
      rw [List.mem_map]
      exact ⟨i, hi', (hev i hil).1⟩
end
end Go.Proofs.Ytklpmoimckblcaa
