/-
  rotorkeep.told: a fact: a line.
-/
import Derived.Test.YtklpmoimckblcaaGreatDoorEvWrite2
namespace Go.Proofs.YtklpmoimckblcaaGreatDoor
open Go.RowKit Go.Sort

def evTold : Ev := ⟨1, ⟨3, ⟨#[97, 112, 112]⟩, ⟨#[97, 110, 110]⟩, ⟨#[114, 101, 97, 100]⟩, 0, 0, 0, ⟨#[]⟩, false⟩, 0, 0⟩
theorem told_scope : scopeB [114, 101, 97, 100] = true := by
  have hp : parts 43 [114, 101, 97, 100] = [[114, 101, 97, 100]] := parts_none (by decide)
  have hu : uniq [[114, 101, 97, 100]] = [[114, 101, 97, 100]] := uniq_of_up (List.pairwise_singleton _ _)
  have hn : scopeN [114, 101, 97, 100] = 0 := by
    unfold scopeN
    rw [hp, hu]
    decide
  rw [scopeB_iff]
  refine ⟨hn, ?_⟩
  unfold leastL scopeL
  rw [if_neg (by decide), if_pos hn, hp, hu]
  rfl
theorem told_may : evB evTold = true := by
  unfold evTold
  rw [evB_one]
  unfold famB
  dsimp only
  rw [told_scope]
  decide
theorem told_line : txt (evL evTold) = ⟨#[112, 32, 51, 32, 97, 112, 112, 32, 97, 110, 110, 32, 114, 101, 97, 100, 32, 48, 32, 48, 32, 48, 32, 95, 32, 48]⟩ := by kernel_rfl
set_option maxRecDepth 100000 in
theorem ev_told (W : World) (h : WB W W) : Calls Tryz.prog 15 #[] W fun e w' => e = .returned (.bool true) ∧ Below W.heap.size W w' := by
  have HW := Lib.hid (fun w (hw : WB w w) => ev_write_yes evTold w (by unfold evTold Fam.short; decide) hw told_may)
  rw [told_line] at HW
  unfold evTold evVal evCs at HW
  dsimp only at HW
  have H0 := Lib.hid h
  clear h
  go_enter Tryz.func15, Tryz.ntmps15
  go_wp2_with (go_at_call 9; refine (HW.out _ H0.out.self).mono ?_; rintro e w1 ⟨rfl, hb⟩; have HB := Lib.hid hb; clear hb)
  go_ret
  exact ⟨rfl, HB.out⟩
end Go.Proofs.YtklpmoimckblcaaGreatDoor
