/-
  Tokens: what is right, and its body, by the program and by the reference.
-/
import Derived.Test.YtdfgegicfhcmeaaGreatDoorNum
import Derived.Test.YtdfgegicfhcmeaaGreatDoorSame
import Derived.Test.YtdfgegicfhcmeaaGreatDoorTag3
import Derived.Deep.RegionHeld3
namespace Go.Proofs.YtdfgegicfhcmeaaGreatDoor
open Go.RowKit

def rightN (a b c d : Int) : Bool := ((decide (a = 1) && decide (d = 0)) || (decide (a = 2) && okN d)) && okN b && okN c
def v4 (a b c d : Int) : Value := .agg #[.int .i64 a, .int .i64 b, .int .i64 c, .int .i64 d]
def body4 (a b c d : Int) : List UInt8 :=
  if a = 1 then [114, 46] ++ Lib.itoa b ++ [46] ++ Lib.itoa c else [97, 46] ++ Lib.itoa b ++ [46] ++ Lib.itoa c ++ [46] ++ Lib.itoa d

theorem ref_in (x : Int) (w : World) : Calls Tryz.prog 62 #[.int .i64 x, .int .i64 0, .int .i64 1099511627776] w fun e w' => e = .returned (.bool (okN x)) ∧ w = w' := by
  by_cases h0 : 0 ≤ x
  · go_enter Tryz.func62, Tryz.ntmps62
    go_wp2_with fail
    go_ret
    refine ⟨?_, rfl⟩
    show Ending.returned _ = _
    simp [okN]
    try omega
  · have h1 : x < 0 := by omega
    go_enter Tryz.func62, Tryz.ntmps62
    go_wp2_with fail
    go_ret
    refine ⟨?_, rfl⟩
    show Ending.returned _ = _
    simp [okN]
    try omega

theorem right_in (x : Int) (w : World) : Calls Tryz.prog 35 #[.int .i64 x] w fun e w' => e = .returned (.bool (okN x)) ∧ w = w' := by
  by_cases h0 : 0 ≤ x
  · go_enter Tryz.func35, Tryz.ntmps35
    go_wp2_with fail
    go_ret
    refine ⟨?_, rfl⟩
    show Ending.returned _ = _
    simp [okN]
    try omega
  · have h1 : x < 0 := by omega
    go_enter Tryz.func35, Tryz.ntmps35
    go_wp2_with fail
    go_ret
    refine ⟨?_, rfl⟩
    show Ending.returned _ = _
    simp [okN]
    try omega

theorem law_given (a b c d : Int) (W : World) : Calls Tryz.prog 13 #[v4 a b c d] W fun e w' => e = .returned (v4 a b c d) ∧ Below W.heap.size W w' := by
  unfold v4
  go_enter Tryz.func13, Tryz.ntmps13
  go_wp2_with fail
  (try simp only [Exit.inBlock, Exit.then])
  refine bodyPost_ret (results_cell_row rfl _ _ (W.heap.size + 1) 38 _ (0, 0) _ (by rfl) (heap_alloc2_new W _ _) Tryz.underlying38 rfl (by kernel_rfl)) rfl ?_
  exact ⟨rfl, ((Below.refl _ _).alloc (Nat.le_refl _) _).alloc (by simp) _⟩
end Go.Proofs.YtdfgegicfhcmeaaGreatDoor
