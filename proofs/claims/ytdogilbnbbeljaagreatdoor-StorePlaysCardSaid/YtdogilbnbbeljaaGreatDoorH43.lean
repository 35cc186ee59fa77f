/-
  rotorlaw.short and happens: an event's texts are short; an event of the reference's.
-/
import Derived.Test.YtdogilbnbbeljaaGreatDoorH03
namespace Go.Proofs.YtdogilbnbbeljaaGreatDoor
open Go.RowKit Go.Sort

theorem law_short (e : Ev) (W : World) (hs : e.fam.len ≤ 1000000000000000) :
    Calls Tryz.prog 18 #[evVal e] W fun x w' => x = .returned (.bool (decide (e.fam.len ≤ 300))) ∧ Below W.heap.size W w' := by
  obtain ⟨k, ⟨i, cl, su, sc, ge, ma, us, re, de⟩, id, ti⟩ := e
  unfold Fam.len at *
  unfold evVal evCs
  dsimp only at *
  by_cases hl : cl.size + su.size + sc.size + re.size ≤ 300
  · have hd : decide (cl.size + su.size + sc.size + re.size ≤ 300) = true := by simpa using hl
    rw [hd]
    clear hd
    go_enter Tryz.func18, Tryz.ntmps18
    go_wp2_with fail
    go_ret
    refine ⟨?_, alloc2 _ _ _⟩
    show Ending.returned (Value.bool _) = _
    congr 2
    simp
    omega
  · have hd : decide (cl.size + su.size + sc.size + re.size ≤ 300) = false := by simpa using hl
    rw [hd]
    clear hd
    go_enter Tryz.func18, Tryz.ntmps18
    go_wp2_with fail
    go_ret
    refine ⟨?_, alloc2 _ _ _⟩
    show Ending.returned (Value.bool _) = _
    congr 2
    simp
    omega
theorem law_happens (e : Ev) (W : World) : Calls Tryz.prog 20 #[evVal e] W fun x w' => x = .returned (evVal e) ∧ Below W.heap.size W w' := by
  obtain ⟨k, ⟨i, cl, su, sc, ge, ma, us, re, de⟩, id, ti⟩ := e
  unfold evVal evCs
  dsimp only
  go_enter Tryz.func20, Tryz.ntmps20
  go_wp2_with fail
  (try simp only [Exit.inBlock, Exit.then])
  refine bodyPost_ret (results_cell_row rfl _ _ (W.heap.size + 1) 61 _ (0, 0) _ (by rfl) (heap_alloc2_new W _ _) Tryz.underlying61 rfl (by kernel_rfl)) rfl ?_
  exact ⟨rfl, alloc2 _ _ _⟩
end Go.Proofs.YtdogilbnbbeljaaGreatDoor
