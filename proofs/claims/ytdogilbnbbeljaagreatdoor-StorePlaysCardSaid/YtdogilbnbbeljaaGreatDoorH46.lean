/-
  StorePlays: the walk, for every input.
-/
import Derived.Test.YtdogilbnbbeljaaGreatDoorH45
namespace Go.Proofs.YtdogilbnbbeljaaGreatDoor
open Go.RowKit

set_option maxRecDepth 100000 in
theorem plays_long (W : World) (a : Option Addr) (n c : Nat) (h : 120 < n) (hn : n ≤ 9223372036854775807) :
    Calls Tryz.prog 4 #[.slice a n c] W fun x w' => x = .returned (.bool true) ∧ Below W.heap.size W w' := by
  go_enter Tryz.func4, Tryz.ntmps4
  go_wp2_with fail
  go_ret
  exact ⟨rfl, Below.refl _ _⟩
theorem plays_all (W : World) (A : Option Addr) (g off cap : Nat) (E : List DoP) (hn0 : E.length ≤ 9223372036854775807) (hA : E ≠ [] → A = some ⟨g, off, none⟩) (hdos : E ≠ [] → DpsAt W g off E ∧ g < W.heap.size)
    (hEnv : Env W.heap.size W) (het : ErrType W) (hs : ∀ d ∈ E, d.ev.fam.len ≤ 1000000000000000) :
    Calls Tryz.prog 4 #[.slice A E.length cap] W fun x w' => x = .returned (.bool true) ∧ Below W.heap.size W w' := by
  by_cases h : 120 < E.length
  · exact plays_long W A _ cap h hn0
  · exact plays_walk W A g off cap E (by omega) hA hdos hEnv het hs
end Go.Proofs.YtdogilbnbbeljaaGreatDoor
