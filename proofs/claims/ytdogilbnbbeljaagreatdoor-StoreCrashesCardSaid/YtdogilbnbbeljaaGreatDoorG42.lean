/-
  StoreCrashes: the walk, for every input.
-/
import Derived.Test.YtdogilbnbbeljaaGreatDoorG41
namespace Go.Proofs.YtdogilbnbbeljaaGreatDoor
open Go.RowKit

theorem crash_all (W : World) (A : Option Addr) (g off cap : Nat) (E : List DoE) (m : Nat) (a1 : Option Addr) (c1 : Nat) (hn0 : E.length ≤ 9223372036854775807) (hn1 : m ≤ 9223372036854775807) (hA : E ≠ [] → A = some ⟨g, off, none⟩) (hdos : E ≠ [] → DosAt W g off E ∧ g < W.heap.size)
    (hc : CutsAt W (.slice a1 m c1) m) (hcl : ∀ a cap, Value.slice a1 m c1 = .slice (some a) m cap → m ≠ 0 → a.block < W.heap.size) (hEnv : Env W.heap.size W) (het : ErrType W) (hs : ∀ d ∈ E, d.ev.fam.len ≤ 1000000000000000) :
    Calls Tryz.prog 3 #[.slice A E.length cap, .slice a1 m c1] W fun x w' => x = .returned (.bool true) ∧ Below W.heap.size W w' := by
  by_cases h : 60 < E.length ∨ 30 < m
  · exact crash_long W A a1 _ cap m c1 h hn0 hn1
  · exact crash_walk W A g off cap E m _ (by omega) (by omega) hA hdos hc hcl hEnv het hs
end Go.Proofs.YtdogilbnbbeljaaGreatDoor
