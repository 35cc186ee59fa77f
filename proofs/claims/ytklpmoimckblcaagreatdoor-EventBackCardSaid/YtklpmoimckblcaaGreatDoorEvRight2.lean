/-
  event.right at the other kinds, and at all.
-/
import Derived.Test.YtklpmoimckblcaaGreatDoorEvRight
namespace Go.Proofs.YtklpmoimckblcaaGreatDoor
open Go.RowKit Go.Sort

set_option maxHeartbeats 16000000 in
set_option maxRecDepth 100000 in
theorem right_drop (e : Ev) (W : World) (hk : e.kind = 2 ∨ e.kind = 3) :
    Calls Tryz.prog 21 #[evVal e] W fun x w' => x = .returned (.bool (evB e)) ∧ Below W.heap.size W w' := by
  obtain ⟨a, b, hab⟩ : ∃ a b, ((e.kind = 2 ∧ a = e.time ∧ b = e.id) ∨ (e.kind = 3 ∧ a = e.id ∧ b = e.time)) := by
    rcases hk with h | h
    · exact ⟨_, _, .inl ⟨h, rfl, rfl⟩⟩
    · exact ⟨_, _, .inr ⟨h, rfl, rfl⟩⟩
  have HR := Lib.hid (right_num e.kind a b e rfl hab)
  have HW : Hid (∀ (g : Nat) (w : World), IntsAt w g [b] → Calls Tryz.prog 43 #[.slice (some ⟨g, 0, none⟩) 1 1] w fun e w' => e = .returned (.bool ([b].all okN)) ∧ Below w.heap.size w w') := Lib.hid fun g w h => ev_within g 1 [b] w h (show 1 ≤ 1000000 by decide)
  rw [one_ok] at HW
  clear hk
  obtain ⟨k, f, id, ti⟩ := e
  dsimp only at hab HR
  have hb : b = id ∨ b = ti := by rcases hab with ⟨-, -, h⟩ | ⟨-, -, h⟩ <;> simp [h]
  cases hz : f.isZero
  · have HX := Lib.hid hz
    have hev : Hid (evB ⟨k, f, id, ti⟩ = false) := Lib.hid (by rw [HR.out, hz]; rfl)
    clear HR hz
    generalize hX : evB ⟨k, f, id, ti⟩ = X at *
    clear hX
    obtain ⟨i, cl, su, sc, ge, ma, us, re, de⟩ := f
    unfold evVal evCs
    dsimp only
    rcases hab with ⟨rfl, rfl, rfl⟩ | ⟨rfl, rfl, rfl⟩
    all_goals
      go_enter Tryz.func21, Tryz.ntmps21
      go_wp2_with fail
      all_goals first
        | (go_ret
           exact ⟨by rw [hev.out]; rfl, alloc2 _ _ _⟩)
        | exact (zero_of (by assumption) (by assumption) (by assumption) (by assumption) (by assumption) (by assumption) (by assumption) (by assumption) (by assumption) HX.out).elim
  · obtain rfl := Fam.isZero_iff.1 hz
    clear hz
    have hz2 : Fam.zero.isZero = true := Fam.isZero_iff.2 rfl
    rw [hz2] at HR
    clear hz2
    generalize hX : evB ⟨k, Fam.zero, id, ti⟩ = X at *
    clear hX
    unfold evVal evCs Fam.zero
    dsimp only
    by_cases h0 : a = 0
    · have h0' : decide (a = 0) = true := by simpa using h0
      rw [h0'] at HR
      rcases hab with ⟨rfl, h1, rfl⟩ | ⟨rfl, h1, rfl⟩
      all_goals
        subst h1
        subst h0
        go_enter Tryz.func21, Tryz.ntmps21
        go_wp2_with (go_at_call 43; refine (HW.out _ _ (ints_2 W _ _ 3 b)).mono ?_; rintro x w' ⟨rfl, hb⟩; have HB := Lib.hid (alloc3 _ _ _ hb); clear hb)
        go_ret
        exact ⟨by rw [HR.out]; rfl, HB.out⟩
    · have h0' : decide (a = 0) = false := by simpa using h0
      rw [h0'] at HR
      have h0b : (a == 0) = false := by simpa using h0
      rcases hab with ⟨rfl, rfl, rfl⟩ | ⟨rfl, rfl, rfl⟩
      all_goals
        go_enter Tryz.func21, Tryz.ntmps21
        go_wp2_with fail
        go_ret
        exact ⟨by rw [HR.out]; rfl, alloc2 _ _ _⟩

set_option maxHeartbeats 4000000 in
set_option maxRecDepth 100000 in
theorem right_odd (e : Ev) (W : World) (h1 : e.kind ≠ 1) (h2 : e.kind ≠ 2) (h3 : e.kind ≠ 3) :
    Calls Tryz.prog 21 #[evVal e] W fun x w' => x = .returned (.bool (evB e)) ∧ Below W.heap.size W w' := by
  have HR : Hid (evB e = false) := Lib.hid (by unfold evB; rw [if_neg h1, if_neg h2, if_neg h3])
  obtain ⟨k, ⟨i, cl, su, sc, ge, ma, us, re, de⟩, id, ti⟩ := e
  dsimp only at h1 h2 h3
  have e1 : (k == 1) = false := by simpa using h1
  have e2 : (k == 2) = false := by simpa using h2
  have e3 : (k == 3) = false := by simpa using h3
  clear h1 h2 h3
  unfold evVal evCs
  dsimp only
  go_enter Tryz.func21, Tryz.ntmps21
  go_wp2_with fail
  go_ret
  exact ⟨by rw [HR.out]; rfl, alloc2 _ _ _⟩
theorem ev_right (e : Ev) (W : World) (hs : e.fam.short 1000) (hm : MaxL W) :
    Calls Tryz.prog 21 #[evVal e] W fun x w' => x = .returned (.bool (evB e)) ∧ Below W.heap.size W w' := by
  by_cases h1 : e.kind = 1
  · exact right_put e W h1 hs hm
  · by_cases h2 : e.kind = 2
    · exact right_drop e W (.inl h2)
    · by_cases h3 : e.kind = 3
      · exact right_drop e W (.inr h3)
      · exact right_odd e W h1 h2 h3
end Go.Proofs.YtklpmoimckblcaaGreatDoor
