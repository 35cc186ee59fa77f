/-
  The reference's May at the other kinds, and at all.
-/
import Derived.Test.YtklpmoimckblcaaGreatDoorRefMay
namespace Go.Proofs.YtklpmoimckblcaaGreatDoor
open Go.RowKit Go.Sort

set_option maxHeartbeats 16000000 in
set_option maxRecDepth 100000 in
theorem may_drop (e : Ev) (W : World) (hk : e.kind = 2 ∨ e.kind = 3) :
    Calls Tryz.prog 18 #[evVal e] W fun x w' => x = .returned (.bool (evB e)) ∧ Below W.heap.size W w' := by
  obtain ⟨a, b, hab⟩ : ∃ a b, ((e.kind = 2 ∧ a = e.time ∧ b = e.id) ∨ (e.kind = 3 ∧ a = e.id ∧ b = e.time)) := by
    rcases hk with h | h
    · exact ⟨_, _, .inl ⟨h, rfl, rfl⟩⟩
    · exact ⟨_, _, .inr ⟨h, rfl, rfl⟩⟩
  have HR := Lib.hid (right_num e.kind a b e rfl hab)
  have HIN := Lib.hid (fun w => ref_in3 b 0 1099511627776 w)
  rw [show (decide ((0 : Int) ≤ b) && decide (b ≤ 1099511627776)) = okN b from rfl] at HIN
  clear hk
  obtain ⟨k, f, id, ti⟩ := e
  dsimp only at hab HR
  have hb : b = id ∨ b = ti := by rcases hab with ⟨-, -, h⟩ | ⟨-, -, h⟩ <;> simp [h]
  cases hz : f.isZero
  · have HX := Lib.hid hz
    have hev : Hid (evB ⟨k, f, id, ti⟩ = false) := Lib.hid (by rw [HR.out, hz]; rfl)
    clear HR hz
    generalize hX : evB ⟨k, f, id, ti⟩ = X at *
    clear hX
    obtain ⟨i, cl, su, sc, ge, ma, us, re, de⟩ := f
    unfold evVal evCs
    dsimp only
    rcases hab with ⟨rfl, rfl, rfl⟩ | ⟨rfl, rfl, rfl⟩
    all_goals
      go_enter Tryz.func18, Tryz.ntmps18
      go_wp2_with fail
      all_goals first
        | (go_ret
           exact ⟨by rw [hev.out]; rfl, alloc2 _ _ _⟩)
        | exact (zero_of (by assumption) (by assumption) (by assumption) (by assumption) (by assumption) (by assumption) (by assumption) (by assumption) (by assumption) HX.out).elim
  · obtain rfl := Fam.isZero_iff.1 hz
    clear hz
    have hz2 : Fam.zero.isZero = true := Fam.isZero_iff.2 rfl
    rw [hz2] at HR
    clear hz2
    generalize hX : evB ⟨k, Fam.zero, id, ti⟩ = X at *
    clear hX
    unfold evVal evCs Fam.zero
    dsimp only
    by_cases h0 : a = 0
    · have h0' : decide (a = 0) = true := by simpa using h0
      rw [h0'] at HR
      rcases hab with ⟨rfl, h1, rfl⟩ | ⟨rfl, h1, rfl⟩
      all_goals
        subst h1
        subst h0
        go_enter Tryz.func18, Tryz.ntmps18
        go_wp2_with (go_at_call 27; refine (HIN.out _).mono ?_; rintro x w' ⟨rfl, rfl⟩)
        go_ret
        exact ⟨by rw [HR.out]; rfl, alloc2 _ _ _⟩
    · have h0' : decide (a = 0) = false := by simpa using h0
      rw [h0'] at HR
      have h0b : (a == 0) = false := by simpa using h0
      rcases hab with ⟨rfl, rfl, rfl⟩ | ⟨rfl, rfl, rfl⟩
      all_goals
        go_enter Tryz.func18, Tryz.ntmps18
        go_wp2_with fail
        go_ret
        exact ⟨by rw [HR.out]; rfl, alloc2 _ _ _⟩

set_option maxHeartbeats 4000000 in
set_option maxRecDepth 100000 in
theorem may_odd (e : Ev) (W : World) (h1 : e.kind ≠ 1) (h2 : e.kind ≠ 2) (h3 : e.kind ≠ 3) :
    Calls Tryz.prog 18 #[evVal e] W fun x w' => x = .returned (.bool (evB e)) ∧ Below W.heap.size W w' := by
  have HR : Hid (evB e = false) := Lib.hid (by unfold evB; rw [if_neg h1, if_neg h2, if_neg h3])
  obtain ⟨k, ⟨i, cl, su, sc, ge, ma, us, re, de⟩, id, ti⟩ := e
  dsimp only at h1 h2 h3
  have e1 : (k == 1) = false := by simpa using h1
  have e2 : (k == 2) = false := by simpa using h2
  have e3 : (k == 3) = false := by simpa using h3
  clear h1 h2 h3
  unfold evVal evCs
  dsimp only
  go_enter Tryz.func18, Tryz.ntmps18
  go_wp2_with fail
  go_ret
  exact ⟨by rw [HR.out]; rfl, alloc2 _ _ _⟩
theorem ref_may (e : Ev) (W : World) (hs : e.fam.short 1000) :
    Calls Tryz.prog 18 #[evVal e] W fun x w' => x = .returned (.bool (evB e)) ∧ Below W.heap.size W w' := by
  by_cases h1 : e.kind = 1
  · exact may_put e W h1 hs
  · by_cases h2 : e.kind = 2
    · exact may_drop e W (.inl h2)
    · by_cases h3 : e.kind = 3
      · exact may_drop e W (.inr h3)
      · exact may_odd e W h1 h2 h3
end Go.Proofs.YtklpmoimckblcaaGreatDoor
