/-
  Families in a row, in plain Lean: their order by number; one put among them; one dropped; a state behind an event.
-/
import Derived.Test.YtklpmoimckblcaaGreatDoorEvPure
namespace Go.Proofs.YtklpmoimckblcaaGreatDoor

/-- by their numbers, each once -/
def Asc (L : List Fam) : Prop := L.Pairwise fun a b => a.id < b.id
/-- how many stand ahead of a number -/
def ahead (L : List Fam) (n : Int) : Nat := (L.takeWhile fun f => decide (f.id < n)).length
/-- is the number there? -/
def hasB (L : List Fam) (n : Int) : Bool := match L[ahead L n]? with
  | some f => decide (f.id = n)
  | none => false
def putL (L : List Fam) (f : Fam) : List Fam := if hasB L f.id then L.set (ahead L f.id) f else L.take (ahead L f.id) ++ f :: L.drop (ahead L f.id)
def dropL (L : List Fam) (n : Int) : List Fam := if hasB L n then L.take (ahead L n) ++ L.drop (ahead L n + 1) else L

structure St where
  clock : Int
  next : Int
  fams : List Fam
def applyS (s : St) (e : Ev) : St :=
  if e.kind = 1 then ⟨s.clock, max s.next (e.fam.id + 1), putL s.fams e.fam⟩
  else if e.kind = 2 then ⟨s.clock, s.next, dropL s.fams e.id⟩
  else if e.kind = 3 then ⟨e.time, s.next, s.fams⟩
  else s

theorem ahead_le (L : List Fam) (n : Int) : ahead L n ≤ L.length := (List.takeWhile_sublist _).length_le
theorem ahead_nil (n : Int) : ahead [] n = 0 := rfl
theorem ahead_cons (f : Fam) (L : List Fam) (n : Int) : ahead (f :: L) n = if f.id < n then ahead L n + 1 else 0 := by
  unfold ahead
  rw [List.takeWhile_cons]
  by_cases h : f.id < n
  · simp [h]
  · simp [h]
/-- ahead of that place all are below the number -/
theorem ahead_lt : ∀ {L : List Fam} {n : Int} {j : Nat}, j < ahead L n → ∃ f, L[j]? = some f ∧ f.id < n
  | [], n, j, h => by simp [ahead_nil] at h
  | f :: L, n, j, h => by
    rw [ahead_cons] at h
    split at h
    · rename_i hf
      cases j with
      | zero => exact ⟨f, rfl, hf⟩
      | succ j => exact ahead_lt (L := L) (by omega)
    · omega
/-- from there on none is -/
theorem ahead_ge : ∀ {L : List Fam} {n : Int}, Asc L → ∀ {j : Nat} {f : Fam}, ahead L n ≤ j → L[j]? = some f → n ≤ f.id
  | [], n, _, j, f, _, h => by simp at h
  | g :: L, n, ha, j, f, hj, h => by
    rw [ahead_cons] at hj
    obtain ⟨h1, h2⟩ := List.pairwise_cons.1 ha
    split at hj
    · cases j with
      | zero => omega
      | succ j => exact ahead_ge h2 (j := j) (by omega) (by simpa using h)
    · rename_i hg
      cases j with
      | zero =>
        simp at h
        subst h
        omega
      | succ j =>
        have hm : f ∈ L := List.mem_of_getElem? (by simpa using h)
        have := h1 f hm
        omega
/-- the one place of a search -/
theorem ahead_eq {L : List Fam} {n : Int} (ha : Asc L) {k : Nat} (hk : k ≤ L.length) (h1 : ∀ j f, j < k → L[j]? = some f → f.id < n) (h2 : ∀ j f, k ≤ j → L[j]? = some f → n ≤ f.id) : ahead L n = k := by
  rcases Nat.lt_trichotomy (ahead L n) k with h | h | h
  · obtain ⟨f, hf⟩ : ∃ f, L[ahead L n]? = some f := ⟨_, List.getElem?_eq_getElem (by omega)⟩
    have a := h1 _ f h hf
    have b := ahead_ge ha (Nat.le_refl _) hf
    omega
  · exact h
  · obtain ⟨f, hf, hlt⟩ := ahead_lt h
    have := h2 k f (Nat.le_refl _) hf
    omega
theorem hasB_some {L : List Fam} {n : Int} {f : Fam} (h : L[ahead L n]? = some f) : hasB L n = decide (f.id = n) := by unfold hasB; rw [h]
theorem hasB_none {L : List Fam} {n : Int} (h : ahead L n = L.length) : hasB L n = false := by
  unfold hasB
  rw [List.getElem?_eq_none (by omega)]
theorem hasB_lt {L : List Fam} {n : Int} (h : hasB L n = true) : ahead L n < L.length := by
  rcases Nat.lt_or_ge (ahead L n) L.length with h' | h'
  · exact h'
  · have := ahead_le L n
    rw [hasB_none (by omega)] at h
    cases h
theorem putL_len (L : List Fam) (f : Fam) : (putL L f).length ≤ L.length + 1 := by
  unfold putL
  split
  · simp
  · have := ahead_le L f.id
    simp
    omega
theorem dropL_len (L : List Fam) (n : Int) : (dropL L n).length ≤ L.length := by
  unfold dropL
  split
  · have := ahead_le L n
    simp
    omega
  · exact Nat.le_refl _
theorem mem_putL {L : List Fam} {f g : Fam} (h : g ∈ putL L f) : g = f ∨ g ∈ L := by
  unfold putL at h
  split at h
  · rcases List.mem_or_eq_of_mem_set h with h | h
    · exact .inr h
    · exact .inl h
  · rw [List.mem_append, List.mem_cons] at h
    rcases h with h | h | h
    · exact .inr (List.mem_of_mem_take h)
    · exact .inl h
    · exact .inr (List.mem_of_mem_drop h)
theorem mem_dropL {L : List Fam} {n : Int} {g : Fam} (h : g ∈ dropL L n) : g ∈ L := by
  unfold dropL at h
  split at h
  · rcases List.mem_append.1 h with h | h
    · exact List.mem_of_mem_take h
    · exact List.mem_of_mem_drop h
  · exact h
/-- those ahead are below the number, those behind above it, or it -/
theorem take_below {L : List Fam} {n : Int} {g : Fam} (h : g ∈ L.take (ahead L n)) : g.id < n := by
  obtain ⟨j, hj⟩ := List.mem_iff_getElem?.1 h
  rw [List.getElem?_take] at hj
  split at hj
  · rename_i hlt
    obtain ⟨f, hf, hid⟩ := ahead_lt hlt
    rw [hf] at hj
    cases hj
    exact hid
  · cases hj
theorem drop_above {L : List Fam} {n : Int} (ha : Asc L) {g : Fam} (h : g ∈ L.drop (ahead L n)) : n ≤ g.id := by
  obtain ⟨j, hj⟩ := List.mem_iff_getElem?.1 h
  rw [List.getElem?_drop] at hj
  exact ahead_ge ha (Nat.le_add_right _ _) hj
theorem drop_over {L : List Fam} {n : Int} (ha : Asc L) (hb : hasB L n = true) {g : Fam} (h : g ∈ L.drop (ahead L n + 1)) : n < g.id := by
  have hlt := hasB_lt hb
  have hd := List.drop_eq_getElem_cons hlt
  have hp : (L.drop (ahead L n)).Pairwise fun a b => a.id < b.id := ha.sublist (List.drop_sublist _ _)
  rw [hd] at hp
  have h1 := (List.pairwise_cons.1 hp).1 g h
  rw [hasB_some (List.getElem?_eq_getElem hlt), decide_eq_true_eq] at hb
  omega
theorem drop_over' {L : List Fam} {n : Int} (ha : Asc L) (hb : hasB L n = false) {g : Fam} (h : g ∈ L.drop (ahead L n)) : n < g.id := by
  have h1 := drop_above ha h
  rcases Int.lt_or_eq_of_le h1 with h2 | h2
  · exact h2
  · exfalso
    rcases Nat.lt_or_ge (ahead L n) L.length with hlt | hge
    · have hd := List.drop_eq_getElem_cons hlt
      have hp : (L.drop (ahead L n)).Pairwise fun a b => a.id < b.id := ha.sublist (List.drop_sublist _ _)
      rw [hd] at hp h
      have h3 : n ≤ L[ahead L n].id := ahead_ge ha (Nat.le_refl _) (List.getElem?_eq_getElem hlt)
      rw [hasB_some (List.getElem?_eq_getElem hlt), decide_eq_false_iff_not] at hb
      rcases List.mem_cons.1 h with rfl | h
      · omega
      · have := (List.pairwise_cons.1 hp).1 g h
        omega
    · rw [List.drop_eq_nil_of_le hge] at h
      simp at h
theorem set_parts {L : List Fam} {k : Nat} (h : k < L.length) (f : Fam) : L.set k f = L.take k ++ f :: L.drop (k + 1) := by
  rw [List.set_eq_take_append_cons_drop, if_pos h]
theorem asc_parts {a b : List Fam} {f : Fam} (ha : Asc a) (hb : Asc b) (h1 : ∀ g ∈ a, g.id < f.id) (h2 : ∀ g ∈ b, f.id < g.id) : Asc (a ++ f :: b) := by
  refine List.pairwise_append.2 ⟨ha, List.pairwise_cons.2 ⟨h2, hb⟩, ?_⟩
  intro x hx y hy
  have hx' := h1 x hx
  rcases List.mem_cons.1 hy with rfl | hy
  · exact hx'
  · have := h2 y hy
    omega
theorem putL_parts (L : List Fam) (f : Fam) : ∃ b, putL L f = L.take (ahead L f.id) ++ f :: b ∧ (Asc L → Asc b ∧ ∀ g ∈ b, f.id < g.id) := by
  unfold putL
  by_cases hb : hasB L f.id = true
  · rw [if_pos hb, set_parts (hasB_lt hb)]
    exact ⟨_, rfl, fun ha => ⟨ha.sublist (List.drop_sublist _ _), fun g hg => drop_over ha hb hg⟩⟩
  · rw [if_neg hb]
    exact ⟨_, rfl, fun ha => ⟨ha.sublist (List.drop_sublist _ _), fun g hg => drop_over' ha (by simpa using hb) hg⟩⟩
theorem putL_asc {L : List Fam} (ha : Asc L) (f : Fam) : Asc (putL L f) := by
  obtain ⟨b, e, h⟩ := putL_parts L f
  rw [e]
  exact asc_parts (ha.sublist (List.take_sublist _ _)) (h ha).1 (fun g hg => take_below hg) (h ha).2
theorem dropL_asc {L : List Fam} (ha : Asc L) (n : Int) : Asc (dropL L n) := by
  unfold dropL
  split
  · rename_i hb
    refine List.pairwise_append.2 ⟨ha.sublist (List.take_sublist _ _), ha.sublist (List.drop_sublist _ _), fun x hx y hy => ?_⟩
    have := take_below hx
    have := drop_over ha hb hy
    omega
  · exact ha
end Go.Proofs.YtklpmoimckblcaaGreatDoor
