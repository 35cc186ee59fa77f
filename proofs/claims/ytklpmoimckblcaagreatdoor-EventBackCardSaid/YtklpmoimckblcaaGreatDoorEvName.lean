/-
  event.Name and the reference's Name.
-/
import Derived.Test.YtklpmoimckblcaaGreatDoorEvPure
import Derived.Test.YtklpmoimckblcaaGreatDoorSplit
import Derived.Test.YtklpmoimckblcaaGreatDoorRefName
namespace Go.Proofs.YtklpmoimckblcaaGreatDoor
open Go.RowKit Go.Sort

theorem nameS_lit : nameS = ⟨#[97, 98, 99, 100, 101, 102, 103, 104, 105, 106, 107, 108, 109, 110, 111, 112, 113, 114, 115, 116, 117, 118, 119, 120, 121, 122, 48, 49, 50, 51, 52, 53, 54, 55, 56, 57, 45]⟩ := rfl
theorem name_trim (x : ByteArray) (w : World) (hx : x.size ≤ 1000000) :
    (x.data.toList.all nameC = true → Calls Tryz.prog 26 #[.string x, .string ⟨#[97, 98, 99, 100, 101, 102, 103, 104, 105, 106, 107, 108, 109, 110, 111, 112, 113, 114, 115, 116, 117, 118, 119, 120, 121, 122, 48, 49, 50, 51, 52, 53, 54, 55, 56, 57, 45]⟩] w fun e w' => e = .returned (.string ⟨#[]⟩) ∧ Below w.heap.size w w') ∧
    (x.data.toList.all nameC = false → Calls Tryz.prog 26 #[.string x, .string ⟨#[97, 98, 99, 100, 101, 102, 103, 104, 105, 106, 107, 108, 109, 110, 111, 112, 113, 114, 115, 116, 117, 118, 119, 120, 121, 122, 48, 49, 50, 51, 52, 53, 54, 55, 56, 57, 45]⟩] w fun e w' => NotEmpty e ∧ Below w.heap.size w w') :=
  trim_set nameS x w hx (by decide) (ascii_of_all (by decide))
theorem ev_name (s : ByteArray) (W : World) (hs : s.size ≤ 1000) : Calls Tryz.prog 11 #[.string s] W fun e w' => e = .returned (.bool (nameB s.data.toList)) ∧ Below W.heap.size W w' := by
  have HN := Lib.hid (nameB_size s)
  have hT := name_trim s W (by omega)
  by_cases h0 : s.size < 1
  · clear hT
    go_enter Tryz.func11, Tryz.ntmps11
    go_wp2_with fail
    go_ret
    refine ⟨?_, Below.refl _ _⟩
    rw [HN.out, show decide (1 ≤ (s.size : Int)) = false by simp; omega]
    rfl
  · by_cases h1 : 20 < s.size
    · clear hT
      go_enter Tryz.func11, Tryz.ntmps11
      go_wp2_with fail
      go_ret
      refine ⟨?_, Below.refl _ _⟩
      rw [HN.out, show decide ((s.size : Int) ≤ 20) = false by simp; omega]
      simp
    · have HX := Lib.hid (show (decide (1 ≤ (s.size : Int)) && decide ((s.size : Int) ≤ 20)) = true by simp; omega)
      cases ha : s.data.toList.all nameC
      · have HT := Lib.hid (hT.2 ha)
        have HA := Lib.hid ha
        clear hT ha
        go_enter Tryz.func11, Tryz.ntmps11
        go_wp2_with
          (go_at_call 26; refine HT.out.mono ?_; rintro e w2 ⟨⟨z, rfl, hz⟩, hb2⟩
           have HB := Lib.hid hb2
           clear hb2)
        go_ret
        refine ⟨?_, HB.out⟩
        rw [HN.out, HX.out, HA.out]
        rfl
      · have HT := Lib.hid (hT.1 ha)
        have HA := Lib.hid ha
        clear hT ha
        go_enter Tryz.func11, Tryz.ntmps11
        go_wp2_with
          (go_at_call 26; refine HT.out.mono ?_; rintro e w2 ⟨rfl, hb2⟩
           have HB := Lib.hid hb2
           clear hb2)
        go_ret
        refine ⟨?_, HB.out⟩
        rw [HN.out, HX.out, HA.out]
        rfl
end Go.Proofs.YtklpmoimckblcaaGreatDoor
