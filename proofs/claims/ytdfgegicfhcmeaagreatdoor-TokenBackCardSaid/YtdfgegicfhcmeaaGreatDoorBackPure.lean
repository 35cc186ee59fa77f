/-
  A token's text and back, in plain Lean.
-/
import Derived.Test.YtdfgegicfhcmeaaGreatDoorTokPure
import Derived.Test.YtdfgegicfhcmeaaGreatDoorTag
namespace Go.Proofs.YtdfgegicfhcmeaaGreatDoor

theorem hexD_dot : hexD.contains 46 = false := by decide
theorem tagB_free {t : List UInt8} (h : tagB t = true) : (46 : UInt8) ∉ t := by
  intro hm
  unfold tagB at h
  rw [Bool.and_eq_true] at h
  have := List.all_eq_true.1 h.2 46 hm
  rw [hexD_dot] at this
  cases this
theorem tagB_len {t : List UInt8} (h : tagB t = true) : t.length = 16 := by
  unfold tagB at h
  rw [Bool.and_eq_true, decide_eq_true_eq] at h
  exact h.1
theorem dig_hex (d : Nat) (h : d < 16) : hexD.contains (dig d) = true := by
  have : ∀ n : Fin 16, hexD.contains (dig n.1) = true := by decide
  exact this ⟨d, h⟩
theorem hexN_hex : ∀ (k n : Nat), (hexN k n).all (hexD.contains ·) = true
  | 0, _ => rfl
  | k + 1, n => by
    rw [hexN, List.all_append, hexN_hex k (n / 16), Bool.true_and]
    simp only [List.all_cons, List.all_nil, Bool.and_true]
    exact dig_hex _ (Nat.mod_lt _ (by decide))
theorem tagB_tagL (key : Int) (l : List UInt8) : tagB (tagL key l) = true := by
  refine tagB_yes ?_ ?_
  · unfold tagL; exact hexN_length _ _
  · unfold tagL; exact hexN_hex _ _
theorem tokP_ne {L : List (List UInt8)} {q : Int × Int × Int × Int} (h : tokP L = some q) : L ≠ [] := by
  rintro rfl
  cases h
/-- the text of a token, or of one with another tag -/
theorem tokR_text {T : List UInt8 → List UInt8} {a b c d : Int} {t : List UInt8} (h : tokOk a b c d) (ht : tagB t = true) :
    tokR T (parts 46 (bodyL a b c d ++ 46 :: t)) = if t = T (bodyL a b c d) then (0, a, b, c, d) else (5, 0, 0, 0, 0) := by
  rw [parts_app, parts_none (tagB_free ht)]
  unfold tokR
  have e1 : (parts 46 (bodyL a b c d) ++ [t]).dropLast = parts 46 (bodyL a b c d) := by simp
  have e2 : (parts 46 (bodyL a b c d) ++ [t]).getLastD [] = t := by simp
  rw [e1, e2, ht, tokP_body h, glue_parts]
  rfl
/-- a text that is a token is written just so -/
theorem tokR_back {T : List UInt8 → List UInt8} {a b c d : Int} {l : List UInt8} (h : tokR T (parts 46 l) = (0, a, b, c, d)) : tokOk a b c d ∧ l = bodyL a b c d ++ 46 :: T (bodyL a b c d) := by
  have hne := parts_ne 46 l
  have hfree := parts_free 46 l
  have hg := glue_parts 46 l
  generalize parts 46 l = ps at *
  obtain ⟨P, t, rfl⟩ : ∃ P t, ps = P ++ [t] := by
    rcases List.eq_nil_or_concat ps with e | ⟨P, t, e⟩
    · exact absurd e hne
    · exact ⟨P, t, by rw [e, List.concat_eq_append]⟩
  unfold tokR at h
  have e1 : (P ++ [t]).dropLast = P := by simp
  have e2 : (P ++ [t]).getLastD [] = t := by simp
  rw [e1, e2] at h
  cases hp : tokP P with
  | none => rw [hp] at h; simp at h
  | some q =>
    obtain ⟨a', b', c', d'⟩ := q
    rw [hp] at h
    dsimp only at h
    by_cases ht : tagB t = true
    · rw [if_pos ht] at h
      by_cases he : t = T (glue 46 P)
      · rw [if_pos he] at h
        simp only [Prod.mk.injEq, true_and] at h
        obtain ⟨rfl, rfl, rfl, rfl⟩ := h
        have hP := tokP_ne hp
        have hpg : parts 46 (glue 46 P) = P := parts_glue 46 P hP fun w hw => hfree w (List.mem_append.2 (.inl hw))
        have h3 := tokP_some (B := glue 46 P) (by rw [hpg]; exact hp)
        refine ⟨h3.1, ?_⟩
        rw [h3.2, ← he, ← hg, glue_app 46 P [t] hP (by simp)]
        rfl
      · rw [if_neg he] at h; simp at h
    · rw [if_neg ht] at h; simp at h
/-- another digit in a tag -/
theorem tag_set {t : List UInt8} {i : Nat} {c : UInt8} (ht : tagB t = true) (hi : i < 16) (hc : hexD.contains c = true) (hne : t[i]? ≠ some c) : tagB (t.set i c) = true ∧ t.set i c ≠ t := by
  have hl := tagB_len ht
  constructor
  · refine tagB_yes (by rw [List.length_set]; exact hl) ?_
    rw [List.all_eq_true]
    intro x hx
    rcases List.mem_or_eq_of_mem_set hx with h | rfl
    · unfold tagB at ht
      rw [Bool.and_eq_true] at ht
      exact List.all_eq_true.1 ht.2 x h
    · exact hc
  · intro e
    apply hne
    rw [← e, List.getElem?_set_self (by omega)]
theorem set_back {B t : List UInt8} {i : Nat} (c : UInt8) : (B ++ 46 :: t).set (B.length + 1 + i) c = B ++ 46 :: t.set i c := by
  rw [List.set_append_right _ _ (by omega), show B.length + 1 + i - B.length = i + 1 by omega]
  rfl
theorem get_back {B t : List UInt8} {i : Nat} : (B ++ 46 :: t)[B.length + 1 + i]? = t[i]? := by
  rw [List.getElem?_append_right (by omega), show B.length + 1 + i - B.length = i + 1 by omega]
  rfl
end Go.Proofs.YtdfgegicfhcmeaaGreatDoor
