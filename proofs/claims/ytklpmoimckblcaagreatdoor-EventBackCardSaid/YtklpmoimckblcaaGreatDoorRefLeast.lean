/-
  The reference's Least.
-/
import Derived.Test.YtklpmoimckblcaaGreatDoorRefScope
import Derived.Test.YtklpmoimckblcaaGreatDoorJoinScope
namespace Go.Proofs.YtklpmoimckblcaaGreatDoor
open Go.RowKit Go.Sort

theorem ref_least (s : ByteArray) (W : World) (hs : s.size ≤ 1000) :
    Calls Tryz.prog 41 #[.string s] W fun e w' => e = .returned (.tuple #[.string (txt (leastL s.data.toList)), .int .i64 (scopeN s.data.toList)]) ∧ Below W.heap.size W w' := by
  have H := Lib.hid (ref_scope s W hs)
  go_enter Tryz.func41, Tryz.ntmps41
  go_wp2_with
    (first
    | (go_at_call 61; refine H.out.mono ?_; rintro e w1 ⟨v, rfl, hr, hb⟩
       have HJ := Lib.hid (join_scope hr)
       have HB := Lib.hid hb
       clear hr hb)
    | (go_at_call 23; refine HJ.out.mono ?_; rintro e w2 ⟨rfl, hb⟩
       have HB2 := Lib.hid (HB.out.trans (hb.mono HB.out.size))
       clear hb))
  go_ret2
  exact ⟨rfl, HB2.out⟩

end Go.Proofs.YtklpmoimckblcaaGreatDoor
