/-
  The facts that the statement ScopeOrder begins with, in plain Lean.
-/
import Derived.Test.YteppafikdpdeaaaDoorScopePure
namespace Go.Proofs.YteppafikdpdeaaaDoor

theorem compact_short : ∀ (n : Nat) (l : List (List UInt8)), l.length = n → (Lib.compact l).length ≤ n
  | 0, l, h => by obtain rfl := List.eq_nil_of_length_eq_zero h; exact Nat.le_refl _
  | n + 1, l, h => by
    rcases List.eq_nil_or_concat l with rfl | ⟨r, y, rfl⟩
    · simp at h
    · rw [List.concat_eq_append] at h ⊢
      have ih := compact_short n r (by simpa using h)
      rw [compact_snoc, List.length_append]
      split
      · simp; omega
      · simp; omega
theorem uniq_short (ws : List (List UInt8)) : (uniq ws).length ≤ ws.length := by
  have := compact_short _ (ws.mergeSort leW) rfl
  rwa [List.length_mergeSort] at this
theorem scope_of {s : List UInt8} {ws : List (List UInt8)} (h : parts 43 s = ws) (h0 : s ≠ []) (hok : ws.all okW = true) (hl : ws.length ≤ 5) (h8 : ws.all (fun w => decide (w.length ≤ 8)) = true) : scopeN s = 0 ∧ scopeL s = uniq ws := by
  have h1 : scopeN s = 0 := by
    unfold scopeN
    rw [if_neg h0, h, if_pos hok, if_pos]
    refine ⟨Nat.le_trans (uniq_short ws) hl, ?_⟩
    rw [List.all_eq_true] at h8 ⊢
    exact fun w hw => h8 w (mem_uniq.1 hw)
  exact ⟨h1, by unfold scopeL; rw [if_neg h0, if_pos h1, h]⟩
theorem s_read : scopeN [114, 101, 97, 100] = 0 ∧ scopeL [114, 101, 97, 100] = uniq [[114, 101, 97, 100]] := scope_of rfl (by decide) (by decide) (by decide) (by decide)
theorem s_both : scopeN [119, 114, 105, 116, 101, 43, 114, 101, 97, 100] = 0 ∧ scopeL [119, 114, 105, 116, 101, 43, 114, 101, 97, 100] = uniq [[119, 114, 105, 116, 101], [114, 101, 97, 100]] := scope_of rfl (by decide) (by decide) (by decide) (by decide)
theorem s_bab : scopeN [98, 43, 97, 43, 98] = 0 ∧ scopeL [98, 43, 97, 43, 98] = uniq [[98], [97], [98]] := scope_of rfl (by decide) (by decide) (by decide) (by decide)
theorem bab_least : leastL [98, 43, 97, 43, 98] = [97, 43, 98] := by
  unfold leastL
  rw [s_bab.2]
  have : uniq [[98], [97], [98]] = [[97], [98]] := by
    refine (uniq_up _).ext (r := [[97], [98]]) ?_ fun w => ?_
    · unfold Up; simp [leW]; decide
    · rw [mem_uniq]; simp; exact .inr
  rw [this]
  rfl
theorem read_both : withinB [114, 101, 97, 100] [119, 114, 105, 116, 101, 43, 114, 101, 97, 100] = true := by
  rw [within_iff, s_read.2, s_both.2]
  intro w hw
  rw [mem_uniq] at hw ⊢
  simp at hw ⊢
  exact .inr hw
end Go.Proofs.YteppafikdpdeaaaDoor
