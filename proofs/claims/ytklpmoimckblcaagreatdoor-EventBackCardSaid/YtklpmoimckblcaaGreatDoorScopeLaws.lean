/-
  A scope's number and words, by what holds of its parts; a slice of texts, or nil.
-/
import Derived.Test.YtklpmoimckblcaaGreatDoorScopePure
import Derived.Test.YtklpmoimckblcaaGreatDoorStrs
namespace Go.Proofs.YtklpmoimckblcaaGreatDoor
open Go.RowKit Go.Sort

def longB (l : List UInt8) : Bool := decide (8 < l.length)
def RowOrNil (w : World) (B : Nat) (v : Value) (L : List (List UInt8)) : Prop := (v = .slice none 0 0 ∧ L = []) ∨ Row w B v L
theorem scopeN_form {s : List UInt8} (h0 : s ≠ []) (h : (parts 43 s).all okW = false) : scopeN s = 3 := by
  unfold scopeN; rw [if_neg h0, h]; rfl
theorem scopeN_limit {s : List UInt8} (h0 : s ≠ []) (h : (parts 43 s).all okW = true) (h2 : 5 < (uniq (parts 43 s)).length ∨ (uniq (parts 43 s)).any longB = true) : scopeN s = 4 := by
  unfold scopeN; rw [if_neg h0, if_pos h, if_neg]
  rintro ⟨h3, h4⟩
  rcases h2 with h2 | h2
  · omega
  · obtain ⟨x, hx, hl⟩ := List.any_eq_true.1 h2
    have := List.all_eq_true.1 h4 x hx
    simp [longB] at hl this
    omega
theorem scopeN_fine {s : List UInt8} (h0 : s ≠ []) (h : (parts 43 s).all okW = true) (h2 : ¬ 5 < (uniq (parts 43 s)).length) (h3 : (uniq (parts 43 s)).any longB = false) : scopeN s = 0 ∧ scopeL s = uniq (parts 43 s) := by
  have h1 : scopeN s = 0 := by
    unfold scopeN; rw [if_neg h0, if_pos h, if_pos]
    refine ⟨by omega, ?_⟩
    rw [List.all_eq_true]
    intro x hx
    have := List.any_eq_false.1 h3 x hx
    simp [longB] at this
    simpa using this
  exact ⟨h1, by unfold scopeL; rw [if_neg h0, if_pos h1]⟩
theorem scopeL_bad {s : List UInt8} (h : scopeN s ≠ 0) : scopeL s = [] := by
  unfold scopeL
  split
  · rfl
  · first | rfl | rw [if_neg h]
end Go.Proofs.YtklpmoimckblcaaGreatDoor
