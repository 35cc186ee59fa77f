/-
  slices.Sort (and sort.Strings) of a row of texts, by the shelf's contracts.
-/
import Derived.Test.YtklpmoimckblcaaGreatDoorJoin
import Derived.Test.YtklpmoimckblcaaGreatDoorScopePure
namespace Go.Proofs.YtklpmoimckblcaaGreatDoor
open Go.RowKit Go.Sort

theorem sort_row {B : Nat} {v : Value} {L : List (List UInt8)} {w W : World} (h : Row w B v L) (hB : Below B W w) (hs : B ≤ w.heap.size) (hL : L.length ≤ 1000000) :
    Calls Tryz.prog 83 #[v] w fun e w' => e = .returned (.tuple #[]) ∧ Row w' B v (L.mergeSort leW) ∧ Below B W w' := by
  obtain ⟨g, cap, rfl, hg, hlt, hn, hm, hH⟩ := h.parts
  refine (Tryz.slices_Sort_string g 0 cap L w hH hlt (by omega)).mono ?_
  rintro e w' ⟨rfl, n, os, rfl⟩
  refine ⟨rfl, h.sorted (List.length_mergeSort L), ?_⟩
  exact hB.grown (grownBy_sorted _) hs (fun j hj => by cases hj; exact hg)

theorem strings_row {B : Nat} {v : Value} {L : List (List UInt8)} {w W : World} (h : Row w B v L) (hB : Below B W w) (hs : B ≤ w.heap.size) (hL : L.length ≤ 1000000) :
    Calls Tryz.prog 82 #[v] w fun e w' => e = .returned (.tuple #[]) ∧ Row w' B v (L.mergeSort leW) ∧ Below B W w' := by
  obtain ⟨g, cap, rfl, hg, hlt, hn, hm, hH⟩ := h.parts
  refine (Tryz.sort_Strings g 0 cap L w hH hlt (by omega)).mono ?_
  rintro e w' ⟨rfl, n, os, rfl⟩
  refine ⟨rfl, h.sorted (List.length_mergeSort L), ?_⟩
  exact hB.grown (grownBy_sorted _) hs (fun j hj => by cases hj; exact hg)
end Go.Proofs.YtklpmoimckblcaaGreatDoor
