/-
  rotorref.WriteToken where the token is not right.
-/
import Derived.Test.YtdfgegicfhcmeaaGreatDoorRefWrite
namespace Go.Proofs.YtdfgegicfhcmeaaGreatDoor
open Go.RowKit

set_option maxHeartbeats 4000000 in
theorem ref_write_no (key a b c d : Int) (W : World) (hr : rightN a b c d = false) :
    Calls Tryz.prog 30 #[.int .i64 key, v4 a b c d] W fun e w' => e = .returned (.tuple #[.string ⟨#[]⟩, .int .i64 1]) ∧ Below W.heap.size W w' := by
  have h : (a = 1 ∧ d = 0) ∨ (a = 1 ∧ ((d == 0) = false ∧ decide (d = 0) = false)) ∨ (a = 2) ∨ ((a == 1) = false ∧ (a == 2) = false ∧ decide (a = 1) = false ∧ decide (a = 2) = false) := by
    by_cases h1 : a = 1 <;> by_cases h2 : a = 2 <;> by_cases h3 : d = 0 <;> simp [h1, h2, h3] <;> omega
  have HR := Lib.hid hr
  clear hr
  unfold v4
  obtain ⟨ob, hob⟩ : ∃ ob, okN b = ob := ⟨_, rfl⟩
  obtain ⟨od, hod⟩ : ∃ od, okN d = od := ⟨_, rfl⟩
  obtain ⟨oc, hoc⟩ : ∃ oc, okN c = oc := ⟨_, rfl⟩
  rcases h with ⟨rfl, rfl⟩ | ⟨rfl, hd, hd'⟩ | rfl | ⟨h1, h2, h1', h2'⟩
  all_goals cases ob <;> cases od <;> cases oc
  all_goals first
    | (exfalso; have hr := HR.out; simp [rightN, *] at hr; done)
    | (exfalso; have hz : okN 0 = true := by decide
       simp [hz] at hod; done)
    | (clear HR
       go_enter Tryz.func30, Tryz.ntmps30
       go_wp2_with (go_at_call 62; refine (ref_in _ _).mono ?_; rintro e w1 ⟨rfl, rfl⟩)
       go_ret2
       exact ⟨rfl, (Below.refl _ _).alloc (Nat.le_refl _) _⟩)
end Go.Proofs.YtdfgegicfhcmeaaGreatDoor
