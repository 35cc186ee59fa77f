/-
  rotorlaw.short and happens: an event's texts are short; an event of the reference's.
-/
import Derived.Test.YtklpmoimckblcaaEvVals
namespace Go.Proofs.Ytklpmoimckblcaa
open Go.RowKit Go.Sort

theorem law_short (e : Ev) (W : World) (hs : e.fam.len ≤ 1000000000000000) :
    Calls Try.prog 4 #[evVal e] W fun x w' => x = .returned (.bool (decide (e.fam.len ≤ 300))) ∧ Below W.heap.size W w' := by
  obtain ⟨k, ⟨i, cl, su, sc, ge, ma, us, re, de⟩, id, ti⟩ := e
  unfold Fam.len at *
  unfold evVal evCs
  dsimp only at *
  by_cases hl : cl.size + su.size + sc.size + re.size ≤ 300
  · have hd : decide (cl.size + su.size + sc.size + re.size ≤ 300) = true := by simpa using hl
    rw [hd]
    clear hd
    go_enter Try.func4, Try.ntmps4
    go_wp2_with fail
    go_ret
    refine ⟨?_, alloc2 _ _ _⟩
    show Ending.returned (Value.bool _) = _
    congr 2
    simp
    omega
  · have hd : decide (cl.size + su.size + sc.size + re.size ≤ 300) = false := by simpa using hl
    rw [hd]
    clear hd
    go_enter Try.func4, Try.ntmps4
    go_wp2_with fail
    go_ret
    refine ⟨?_, alloc2 _ _ _⟩
    show Ending.returned (Value.bool _) = _
    congr 2
    simp
    omega
theorem law_happens (e : Ev) (W : World) : Calls Try.prog 6 #[evVal e] W fun x w' => x = .returned (evVal e) ∧ Below W.heap.size W w' := by
  obtain ⟨k, ⟨i, cl, su, sc, ge, ma, us, re, de⟩, id, ti⟩ := e
  unfold evVal evCs
  dsimp only
  go_enter Try.func6, Try.ntmps6
  go_wp2_with fail
  (try simp only [Exit.inBlock, Exit.then])
  refine bodyPost_ret (results_cell_row rfl _ _ (W.heap.size + 1) 32 _ (0, 0) _ (by rfl) (heap_alloc2_new W _ _) Try.underlying32 rfl (by kernel_rfl)) rfl ?_
  exact ⟨rfl, alloc2 _ _ _⟩
end Go.Proofs.Ytklpmoimckblcaa
