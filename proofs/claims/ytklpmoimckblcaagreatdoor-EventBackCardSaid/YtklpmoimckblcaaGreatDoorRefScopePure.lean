/-
  What the reference's loop over a scope's text knows, in plain Lean: the words that lie behind it, each once in their first order; whether one is long; the word under way.
-/
import Derived.Test.YtklpmoimckblcaaGreatDoorScopePure
namespace Go.Proofs.YtklpmoimckblcaaGreatDoor

/-- the words met so far, each once, in the order in which they came -/
def addNew (o : List (List UInt8)) (w : List UInt8) : List (List UInt8) := if o.contains w then o else o ++ [w]
def firsts (d : List (List UInt8)) : List (List UInt8) := d.foldl addNew []
theorem firsts_snoc (d : List (List UInt8)) (w : List UInt8) : firsts (d ++ [w]) = addNew (firsts d) w := by simp [firsts]
theorem firsts_spec : ∀ (n : Nat) (d : List (List UInt8)), d.length = n → (firsts d).Nodup ∧ (∀ w, w ∈ firsts d ↔ w ∈ d) ∧ (firsts d).length ≤ d.length
  | 0, d, h => by obtain rfl := List.eq_nil_of_length_eq_zero h; simp [firsts]
  | n + 1, d, h => by
    rcases List.eq_nil_or_concat d with rfl | ⟨r, x, rfl⟩
    · simp at h
    · rw [List.concat_eq_append] at h ⊢
      obtain ⟨h1, h2, h3⟩ := firsts_spec n r (by simpa using h)
      rw [firsts_snoc]
      unfold addNew
      by_cases hx : (firsts r).contains x = true
      · rw [if_pos hx]
        have hm : x ∈ r := (h2 x).1 (by simpa using hx)
        refine ⟨h1, fun w => ?_, by simp; omega⟩
        rw [h2 w, List.mem_append, List.mem_singleton]
        exact ⟨.inl, fun h => h.elim id fun e => e ▸ hm⟩
      · rw [if_neg hx]
        have hm : x ∉ firsts r := by simpa using hx
        refine ⟨?_, fun w => ?_, by simp; omega⟩
        · rw [List.nodup_append]
          refine ⟨h1, by simp, ?_⟩
          intro a ha b hb
          rw [List.mem_singleton] at hb
          subst hb
          rintro rfl
          exact hm ha
        · rw [List.mem_append, List.mem_append, h2 w]
/-- behind k bytes: the done words d (all may be), the word under way c (letters alone) -/
structure Front (s : List UInt8) (k : Nat) (d : List (List UInt8)) (c : List UInt8) : Prop where
  cuts : parts 43 (s.take k) = d ++ [c]
  ok : ∀ w ∈ d, okW w = true
  low : lowB c = true
theorem Front.start (s : List UInt8) : Front s 0 [] [] := ⟨by simp [parts], by simp, rfl⟩
theorem take_snoc' {s : List UInt8} {k : Nat} {x : UInt8} (h : s[k]? = some x) : s.take (k + 1) = s.take k ++ [x] := by
  rw [List.take_add_one, h]; rfl
theorem Front.seam {s : List UInt8} {k : Nat} {d : List (List UInt8)} {c : List UInt8} (h : Front s k d c) (hx : s[k]? = some 43) (hc : c ≠ []) : Front s (k + 1) (d ++ [c]) [] := by
  refine ⟨?_, ?_, rfl⟩
  · rw [take_snoc' hx, parts_seam, h.cuts]
  · intro w hw
    rcases List.mem_append.1 hw with hw | hw
    · exact h.ok w hw
    · rw [List.mem_singleton] at hw
      subst hw
      simp [okW, h.low, hc]
theorem Front.more {s : List UInt8} {k : Nat} {d : List (List UInt8)} {c : List UInt8} {x : UInt8} (h : Front s k d c) (hx : s[k]? = some x) (h1 : 97 ≤ x.toNat) (h2 : x.toNat ≤ 122) : Front s (k + 1) d (c ++ [x]) := by
  have hne : x ≠ 43 := by rintro rfl; simp at h1
  refine ⟨?_, h.ok, ?_⟩
  · rw [take_snoc' hx]
    exact parts_grow hne h.cuts
  · have := h.low
    simp only [lowB, List.all_append, Bool.and_eq_true] at this ⊢
    refine ⟨this, ?_⟩
    simp [h1, h2]
/-- a text whose beginning has a bad word behind a seam, or a byte that is no letter, is of another form -/
theorem bad_app {a b : List UInt8} (h : (parts 43 a).all okW = false) : (parts 43 (a ++ 43 :: b)).all okW = false := by
  rw [parts_app, List.all_append, h]; rfl
theorem Front.empty {s : List UInt8} {k : Nat} {d : List (List UInt8)} (h : Front s k d []) (hk : k = s.length ∨ s[k]? = some 43) : (parts 43 s).all okW = false := by
  have h0 : (parts 43 (s.take k)).all okW = false := by
    rw [h.cuts, List.all_append]
    simp [okW]
  rcases hk with rfl | hk
  · rwa [List.take_length] at h0
  · have hlt := (List.getElem?_eq_some_iff.1 hk).1
    have e : s = s.take k ++ 43 :: s.drop (k + 1) := by
      have hd := List.drop_eq_getElem_cons hlt
      rw [(List.getElem?_eq_some_iff.1 hk).2] at hd
      rw [← hd, List.take_append_drop]
    rw [e]
    exact bad_app h0
theorem parts_has {c x : UInt8} (hx : x ≠ c) : ∀ (l : List UInt8), x ∈ l → ∃ w ∈ parts c l, x ∈ w
  | [], h => by simp at h
  | y :: l, h => by
    by_cases hy : y = c
    · subst hy
      rw [parts_sep]
      rcases List.mem_cons.1 h with rfl | h
      · exact absurd rfl hx
      · obtain ⟨w, hw, hxw⟩ := parts_has hx l h
        exact ⟨w, List.mem_cons_of_mem _ hw, hxw⟩
    · rcases e : parts c l with _ | ⟨v, r⟩
      · exact absurd e (parts_ne c l)
      · rw [parts_cons hy e]
        rcases List.mem_cons.1 h with rfl | h
        · exact ⟨x :: v, by simp, by simp⟩
        · obtain ⟨w, hw, hxw⟩ := parts_has hx l h
          rw [e] at hw
          rcases List.mem_cons.1 hw with rfl | hw
          · exact ⟨y :: w, by simp, by simp [hxw]⟩
          · exact ⟨w, by simp [hw], hxw⟩
theorem bad_byte {s : List UInt8} {k : Nat} {x : UInt8} (hx : s[k]? = some x) (h43 : x ≠ 43) (h : ¬ (97 ≤ x.toNat ∧ x.toNat ≤ 122)) : (parts 43 s).all okW = false := by
  have hm : x ∈ s := List.mem_of_getElem? hx
  obtain ⟨w, hw, hxw⟩ := parts_has h43 s hm
  rw [List.all_eq_false]
  refine ⟨w, hw, ?_⟩
  intro hok
  simp only [okW, lowB, Bool.and_eq_true] at hok
  have := List.all_eq_true.1 hok.2 x hxw
  simp at this
  omega
/-- at the end all words may be -/
theorem Front.done {s : List UInt8} {d : List (List UInt8)} {c : List UInt8} (h : Front s s.length d c) (hc : c ≠ []) : parts 43 s = d ++ [c] ∧ (parts 43 s).all okW = true := by
  have h0 := h.cuts
  rw [List.take_length] at h0
  refine ⟨h0, ?_⟩
  rw [h0, List.all_append]
  simp only [Bool.and_eq_true]
  refine ⟨List.all_eq_true.2 h.ok, ?_⟩
  simp [okW, h.low, hc]
end Go.Proofs.YtklpmoimckblcaaGreatDoor
