/-
  What the reference makes of families is what the program makes: in order, the same ones.
-/
import Derived.Test.YtklpmoimckblcaaFamPure
namespace Go.Proofs.Ytklpmoimckblcaa

theorem Asc.ext : ∀ {a b : List Fam}, Asc a → Asc b → (∀ f, f ∈ a ↔ f ∈ b) → a = b
  | [], [], _, _, _ => rfl
  | [], g :: b, _, _, h => absurd ((h g).2 (List.mem_cons_self ..)) (by simp)
  | f :: a, [], _, _, h => absurd ((h f).1 (List.mem_cons_self ..)) (by simp)
  | f :: a, g :: b, ha, hb, h => by
    obtain ⟨a1, a2⟩ := List.pairwise_cons.1 ha
    obtain ⟨b1, b2⟩ := List.pairwise_cons.1 hb
    have e : f = g := by
      rcases List.mem_cons.1 ((h f).1 (List.mem_cons_self ..)) with e | h1
      · exact e
      rcases List.mem_cons.1 ((h g).2 (List.mem_cons_self ..)) with e | h2
      · exact e.symm
      have := a1 _ h2
      have := b1 _ h1
      omega
    subst e
    rw [Asc.ext a2 b2]
    intro x
    constructor
    · intro hx
      rcases List.mem_cons.1 ((h x).1 (List.mem_cons_of_mem _ hx)) with rfl | h1
      · have := a1 _ hx
        omega
      · exact h1
    · intro hx
      rcases List.mem_cons.1 ((h x).2 (List.mem_cons_of_mem _ hx)) with rfl | h1
      · have := b1 _ hx
        omega
      · exact h1
/-- the other families than that one -/
def others (L : List Fam) (n : Int) : List Fam := L.filter fun f => decide (f.id ≠ n)
theorem mem_others {L : List Fam} {n : Int} {f : Fam} : f ∈ others L n ↔ f ∈ L ∧ f.id ≠ n := by
  unfold others
  rw [List.mem_filter, decide_eq_true_eq]
theorem others_asc {L : List Fam} (h : Asc L) (n : Int) : Asc (others L n) := h.sublist List.filter_sublist
theorem others_len (L : List Fam) (n : Int) : (others L n).length ≤ L.length := List.length_filter_le _ _
theorem mem_L {L : List Fam} (k : Nat) {f : Fam} : f ∈ L ↔ f ∈ L.take k ∨ f ∈ L.drop k := by
  rw [← List.mem_append, List.take_append_drop]
theorem mem_drop_one {L : List Fam} {n : Int} (hb : hasB L n = true) {f : Fam} (hne : f.id ≠ n) (h : f ∈ L.drop (ahead L n)) : f ∈ L.drop (ahead L n + 1) := by
  have hlt := hasB_lt hb
  rw [List.drop_eq_getElem_cons hlt] at h
  rw [hasB_some (List.getElem?_eq_getElem hlt), decide_eq_true_eq] at hb
  rcases List.mem_cons.1 h with rfl | h
  · exact absurd hb hne
  · exact h
theorem drop_mem {L : List Fam} {k : Nat} {f : Fam} (h : f ∈ L.drop (k + 1)) : f ∈ L.drop k := by
  rw [← List.drop_drop] at h
  exact List.mem_of_mem_drop h
theorem mem_dropL_iff {L : List Fam} (ha : Asc L) {n : Int} {f : Fam} : f ∈ dropL L n ↔ f ∈ L ∧ f.id ≠ n := by
  unfold dropL
  by_cases hb : hasB L n = true
  · rw [if_pos hb, List.mem_append]
    constructor
    · rintro (h | h)
      · have := take_below h
        exact ⟨List.mem_of_mem_take h, by omega⟩
      · have := drop_over ha hb h
        exact ⟨List.mem_of_mem_drop h, by omega⟩
    · rintro ⟨h, hne⟩
      rcases (mem_L (ahead L n)).1 h with h | h
      · exact .inl h
      · exact .inr (mem_drop_one hb hne h)
  · rw [if_neg hb]
    refine ⟨fun h => ⟨h, ?_⟩, fun h => h.1⟩
    rcases (mem_L (ahead L n)).1 h with h | h
    · have := take_below h
      omega
    · have := drop_over' ha (by simpa using hb) h
      omega
theorem dropL_others {L : List Fam} (ha : Asc L) (n : Int) : dropL L n = others L n :=
  (dropL_asc ha n).ext (others_asc ha n) fun f => by rw [mem_dropL_iff ha, mem_others]
theorem mem_putL_iff {L : List Fam} (ha : Asc L) {f g : Fam} : g ∈ putL L f ↔ g = f ∨ g ∈ L ∧ g.id ≠ f.id := by
  unfold putL
  by_cases hb : hasB L f.id = true
  · rw [if_pos hb, set_parts (hasB_lt hb), List.mem_append, List.mem_cons]
    constructor
    · rintro (h | rfl | h)
      · have := take_below h
        exact .inr ⟨List.mem_of_mem_take h, by omega⟩
      · exact .inl rfl
      · have := drop_over ha hb h
        exact .inr ⟨List.mem_of_mem_drop h, by omega⟩
    · rintro (rfl | ⟨h, hne⟩)
      · exact .inr (.inl rfl)
      · rcases (mem_L (ahead L f.id)).1 h with h | h
        · exact .inl h
        · exact .inr (.inr (mem_drop_one hb hne h))
  · rw [if_neg hb, List.mem_append, List.mem_cons]
    constructor
    · rintro (h | rfl | h)
      · have := take_below h
        exact .inr ⟨List.mem_of_mem_take h, by omega⟩
      · exact .inl rfl
      · have := drop_over' ha (by simpa using hb) h
        exact .inr ⟨List.mem_of_mem_drop h, by omega⟩
    · rintro (rfl | ⟨h, hne⟩)
      · exact .inr (.inl rfl)
      · rcases (mem_L (ahead L f.id)).1 h with h | h
        · exact .inl h
        · exact .inr (.inr h)
/-- no two of one number -/
theorem others_apart {L : List Fam} (ha : Asc L) (f : Fam) : (others L f.id ++ [f]).Pairwise fun a b => a.id ≠ b.id := by
  refine List.pairwise_append.2 ⟨(others_asc ha f.id).imp fun h => by omega, List.pairwise_singleton .., ?_⟩
  intro a h b hb
  rw [List.mem_singleton] at hb
  subst hb
  exact (mem_others.1 h).2
/-- the others and that one, put in order by number, are the row with that one put -/
theorem sorted_putL {L R : List Fam} (ha : Asc L) {f : Fam} (hp : R.Perm (others L f.id ++ [f])) (hs : R.Pairwise fun a b => a.id ≤ b.id) : R = putL L f := by
  have hne : R.Pairwise fun a b => a.id ≠ b.id := (hp.symm.pairwise_iff fun h => Ne.symm h).1 (others_apart ha f)
  have hR : Asc R := by
    refine (hs.and hne).imp ?_
    rintro a b ⟨h1, h2⟩
    omega
  refine hR.ext (putL_asc ha f) fun g => ?_
  rw [hp.mem_iff, List.mem_append, List.mem_singleton, mem_others, mem_putL_iff ha]
  exact Or.comm
end Go.Proofs.Ytklpmoimckblcaa
