/-
  slices.Compact of a row of texts, by the shelf's contract.
-/
import Derived.Test.YtklpmoimckblcaaGreatDoorSort
import Derived.Test.YtklpmoimckblcaaGreatDoorSplit
import Derived.Test.YtklpmoimckblcaaGreatDoorLong
namespace Go.Proofs.YtklpmoimckblcaaGreatDoor
open Go.RowKit Go.Sort

theorem compact_len (L : List (List UInt8)) : (Lib.compact L).length ≤ L.length := Lib.compact_length_le L
theorem compact_row {B : Nat} {v : Value} {L : List (List UInt8)} {w W : World} (h : Row w B v L) (hB : Below B W w) (hL : L.length ≤ 1000000) :
    Calls Tryz.prog 84 #[v] w fun e w' => ∃ g cap, e = .returned (.slice (some ⟨g, 0, none⟩) (Lib.compact L).length cap) ∧ Row w' B (.slice (some ⟨g, 0, none⟩) (Lib.compact L).length cap) (Lib.compact L) ∧ Below B W w' := by
  obtain ⟨g, cap, rfl, hg, hlt, hn, hm, hH⟩ := h.parts
  refine (Tryz.slices_Compact_string g 0 cap L w hH (by omega) hn).mono ?_
  rintro e w' ⟨rfl, q, rfl⟩
  exact ⟨g, cap, rfl, h.cut (compact_len L), Lib.below_putRow hB hg⟩
end Go.Proofs.YtklpmoimckblcaaGreatDoor
