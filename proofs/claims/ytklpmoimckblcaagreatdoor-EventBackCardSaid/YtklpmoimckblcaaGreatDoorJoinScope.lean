/-
  strings.Join of a scope's words.
-/
import Derived.Test.YtklpmoimckblcaaGreatDoorJoin
import Derived.Test.YtklpmoimckblcaaGreatDoorScopeLaws
namespace Go.Proofs.YtklpmoimckblcaaGreatDoor
open Go.RowKit Go.Sort

theorem join_nil (w : World) (c : Nat) (sep : ByteArray) : Calls Tryz.prog 23 #[.slice none 0 c, .string sep] w fun e w' => e = .returned (.string ⟨#[]⟩) ∧ w' = w := Tryz.strings_Join_none none c sep w
theorem join_scope {w : World} {B : Nat} {v : Value} {s : List UInt8} (h : RowOrNil w B v (scopeL s)) : Calls Tryz.prog 23 #[v, .string ⟨#[43]⟩] w fun e w' => e = .returned (.string (txt (leastL s))) ∧ Below w.heap.size w w' := by
  rcases h with ⟨rfl, h⟩ | h
  · refine (join_nil w 0 _).mono ?_
    rintro e w' ⟨rfl, rfl⟩
    unfold leastL
    rw [h]
    exact ⟨rfl, Below.refl _ _⟩
  · have h1 := scopeL_small s
    have h2 := leastL_len s
    exact join_row 43 h (by omega) (by show (leastL s).length ≤ _; omega)
end Go.Proofs.YtklpmoimckblcaaGreatDoor
