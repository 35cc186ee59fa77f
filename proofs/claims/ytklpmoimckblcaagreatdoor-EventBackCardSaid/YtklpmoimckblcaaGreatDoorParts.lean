/-
  A text parted at a byte, in plain Lean: what strings.Split gives; joined again it is the text; the parts of two texts with that byte between.
-/
import Derived.Lib.SplitLaws
import Derived.Lib.Join
namespace Go.Proofs.YtklpmoimckblcaaGreatDoor

/-- the words of a text, parted at c -/
def parts (c : UInt8) : List UInt8 → List (List UInt8)
  | [] => [[]]
  | x :: l => if x = c then [] :: parts c l else
    match parts c l with
    | [] => [[x]]
    | w :: r => (x :: w) :: r

theorem parts_ne (c : UInt8) (l : List UInt8) : parts c l ≠ [] := by
  cases l with
  | nil => simp [parts]
  | cons x l =>
    unfold parts
    split
    · simp
    · split <;> simp
theorem parts_pos (c : UInt8) (l : List UInt8) : 0 < (parts c l).length := by
  have := parts_ne c l
  rcases h : parts c l with _ | ⟨a, r⟩
  · exact absurd h this
  · simp
theorem parts_sep (c : UInt8) (l : List UInt8) : parts c (c :: l) = [] :: parts c l := by simp [parts]
theorem parts_cons {c x : UInt8} (h : x ≠ c) {l w : List UInt8} {r : List (List UInt8)} (e : parts c l = w :: r) : parts c (x :: l) = (x :: w) :: r := by
  rw [parts, if_neg h, e]
theorem parts_none {c : UInt8} : ∀ {l : List UInt8}, c ∉ l → parts c l = [l]
  | [], _ => rfl
  | x :: l, h => by
    simp only [List.mem_cons, not_or] at h
    rw [parts_cons (Ne.symm h.1) (parts_none h.2)]
theorem parts_app {c : UInt8} : ∀ (a : List UInt8) (b : List UInt8), parts c (a ++ c :: b) = parts c a ++ parts c b
  | [], b => by simp [parts]
  | x :: a, b => by
    by_cases h : x = c
    · subst h
      rw [List.cons_append, parts_sep, parts_sep, parts_app a b, List.cons_append]
    · rcases e : parts c a with _ | ⟨w, r⟩
      · exact absurd e (parts_ne c a)
      · rw [parts_cons h e, List.cons_append, parts_cons h (by rw [parts_app a b, e, List.cons_append]), List.cons_append]
theorem parts_head {c : UInt8} {a : List UInt8} (h : c ∉ a) (b : List UInt8) : parts c (a ++ c :: b) = a :: parts c b := by
  rw [parts_app, parts_none h]; rfl
/-- no part has the byte -/
theorem parts_free (c : UInt8) : ∀ (l : List UInt8), ∀ w ∈ parts c l, c ∉ w
  | [], w, h => by simp [parts] at h; simp [h]
  | x :: l, w, h => by
    by_cases hx : x = c
    · subst hx
      rw [parts_sep] at h
      rcases List.mem_cons.1 h with rfl | h
      · simp
      · exact parts_free x l w h
    · rcases e : parts c l with _ | ⟨v, r⟩
      · exact absurd e (parts_ne c l)
      · rw [parts_cons hx e] at h
        rcases List.mem_cons.1 h with rfl | h
        · have := parts_free c l v (by rw [e]; exact List.mem_cons_self)
          simp [this, Ne.symm hx]
        · exact parts_free c l w (by rw [e]; exact List.mem_cons_of_mem _ h)

/-- words with one byte between -/
def glue (c : UInt8) : List (List UInt8) → List UInt8
  | [] => []
  | [w] => w
  | w :: v :: r => w ++ c :: glue c (v :: r)

theorem glue_cons (c : UInt8) (w : List UInt8) {r : List (List UInt8)} (h : r ≠ []) : glue c (w :: r) = w ++ c :: glue c r := by
  cases r with
  | nil => exact absurd rfl h
  | cons v r => rfl
theorem glue_join (c : UInt8) : ∀ ws : List (List UInt8), Lib.join ws [c] = glue c ws
  | [] => rfl
  | [w] => Lib.join_one w [c]
  | w :: v :: r => by
    have h := glue_join c (v :: r)
    rw [Lib.join_cons] at h
    rw [Lib.join_cons, glue, ← h]
    simp [Lib.joinTail]
theorem glue_parts (c : UInt8) : ∀ l : List UInt8, glue c (parts c l) = l
  | [] => rfl
  | x :: l => by
    have ih := glue_parts c l
    by_cases hx : x = c
    · subst hx
      rw [parts_sep, glue_cons x [] (parts_ne x l), ih]; rfl
    · rcases e : parts c l with _ | ⟨v, r⟩
      · exact absurd e (parts_ne c l)
      · rw [parts_cons hx e]
        rw [e] at ih
        cases r with
        | nil => simp only [glue] at ih ⊢; rw [ih]
        | cons u r => rw [glue_cons _ _ (by simp)] at ih ⊢; rw [← ih]; rfl
theorem parts_glue (c : UInt8) : ∀ ws : List (List UInt8), ws ≠ [] → (∀ w ∈ ws, c ∉ w) → parts c (glue c ws) = ws
  | [], h, _ => absurd rfl h
  | [w], _, h => parts_none (h w (by simp))
  | w :: v :: r, _, h => by
    rw [glue, parts_head (h w (by simp)), parts_glue c (v :: r) (by simp) (fun x hx => h x (List.mem_cons_of_mem _ hx))]
theorem glue_app (c : UInt8) : ∀ (a b : List (List UInt8)), a ≠ [] → b ≠ [] → glue c (a ++ b) = glue c a ++ c :: glue c b
  | [], _, h, _ => absurd rfl h
  | [w], b, _, hb => by rw [List.singleton_append, glue_cons c w hb]; rfl
  | w :: v :: r, b, _, hb => by
    rw [List.cons_append, glue_cons c w (by simp), glue_app c (v :: r) b (by simp) hb, glue_cons c w (by simp)]
    simp

/-- a byte that is no seam behind a text: the last part grows -/
theorem parts_grow {c x : UInt8} (h : x ≠ c) {a : List UInt8} {d : List (List UInt8)} {w : List UInt8} (e : parts c a = d ++ [w]) : parts c (a ++ [x]) = d ++ [w ++ [x]] := by
  have hfree := parts_free c a
  have ha : a = glue c (d ++ [w]) := by rw [← e, glue_parts]
  have e2 : a ++ [x] = glue c (d ++ [w ++ [x]]) := by
    by_cases hd : d = []
    · subst hd; rw [ha]; rfl
    · rw [ha, glue_app c d _ hd (by simp), glue_app c d _ hd (by simp)]
      simp [glue]
  rw [e2, parts_glue c _ (by simp)]
  intro v hv
  rcases List.mem_append.1 hv with hv | hv
  · exact hfree v (by rw [e]; exact List.mem_append.2 (.inl hv))
  · rw [List.mem_singleton] at hv
    subst hv
    have := hfree w (by rw [e]; simp)
    simp [this, Ne.symm h]
theorem parts_seam {c : UInt8} {a : List UInt8} : parts c (a ++ [c]) = parts c a ++ [[]] := by
  have := parts_app (c := c) a []
  simpa [parts] using this

theorem first_of {c : UInt8} : ∀ {l : List UInt8}, c ∈ l → ∃ a b, l = a ++ c :: b ∧ c ∉ a
  | [], h => by simp at h
  | x :: l, h => by
    by_cases hx : x = c
    · exact ⟨[], l, by simp [hx], by simp⟩
    · have hc' : c ∈ l := by simpa [Ne.symm hx] using h
      obtain ⟨a, b, rfl, ha⟩ := first_of hc'
      exact ⟨x :: a, b, rfl, by simp [ha, Ne.symm hx]⟩
/-- what strings.Split gives -/
theorem splitK_parts (c : UInt8) : ∀ (n : Nat) (l : List UInt8), l.length ≤ n → Lib.splitK [c] 0 (Lib.count l [c]) l = parts c l
  | 0, l, h => by
    obtain rfl : l = [] := List.eq_nil_of_length_eq_zero (by omega)
    rfl
  | n + 1, l, h => by
    by_cases hc : c ∈ l
    · obtain ⟨a, b, rfl, ha⟩ := first_of hc
      have hi : ∀ a : List UInt8, c ∉ a → Lib.index (a ++ c :: b) [c] = (a.length : Int) := by
        intro a ha
        induction a with
        | nil => simp [Lib.index, List.isPrefixOf]
        | cons x a ih =>
          simp only [List.mem_cons, not_or] at ha
          have hp : ([c] : List UInt8).isPrefixOf (x :: (a ++ c :: b)) = false := by simp [List.isPrefixOf, ha.1]
          rw [List.cons_append, Lib.index, hp, ih ha.2]
          simp
      have hi' := hi a ha
      rw [Lib.count_hit (by simp) hi']
      have e1 : (a ++ c :: b).drop (a.length + [c].length) = b := by
        rw [← List.drop_drop, List.drop_left]; rfl
      have e0 : ∀ k, Lib.splitK [c] 0 (k + 1) (a ++ c :: b) = a :: Lib.splitK [c] 0 k b := by
        intro k
        rw [Lib.splitK, hi', if_neg (by simp)]
        have : (a.length : Int).toNat = a.length := by omega
        rw [this, e1]
        simp
      rw [e1, Nat.add_comm 1, e0, parts_head ha, splitK_parts c n b (by simp at h; omega)]
    · have hz : Lib.count l [c] = 0 := by rw [Lib.count_one]; exact List.count_eq_zero.2 hc
      rw [hz, parts_none hc]
      rfl
theorem splitB_parts (c : UInt8) (s : ByteArray) : (Lib.splitB ⟨#[c]⟩ 0 (Lib.countB s ⟨#[c]⟩) s).map (·.data.toList) = parts c s.data.toList := by
  rw [Lib.splitB_data]
  exact splitK_parts c _ _ (Nat.le_refl _)
theorem countB_parts (c : UInt8) (s : ByteArray) : Lib.countB s ⟨#[c]⟩ + 1 = (parts c s.data.toList).length := by
  rw [← splitB_parts, List.length_map, Lib.splitB_all ⟨#[c]⟩ (Nat.le_refl _) 0 _ s rfl]
end Go.Proofs.YtklpmoimckblcaaGreatDoor
