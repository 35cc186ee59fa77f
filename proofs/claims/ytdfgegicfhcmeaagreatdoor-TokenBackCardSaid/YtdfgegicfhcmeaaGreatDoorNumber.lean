/-
  token.number: a number that is written just so.
-/
import Derived.Test.YtdfgegicfhcmeaaGreatDoorAtoi
namespace Go.Proofs.YtdfgegicfhcmeaaGreatDoor
open Go.RowKit Go.Sort

set_option maxHeartbeats 1000000 in
theorem number_c (s : ByteArray) (W : World) (hs : s.size ≤ 1000000) (hT : Tens W) (hv : ErrVars W) :
    Calls Tryz.prog 19 #[.string s] W fun e w' => e = .returned (.tuple #[.int .i64 (atoiN s.data.toList), .bool (numB s.data.toList)]) ∧ Below W.heap.size W w' := by
  have hb := atoiN_bounds s.data.toList
  have hsl : s.toList = s.data.toList := by rw [ByteArray.toList_eq]
  cases hE : atoiE s.data.toList
  · have HA := Lib.hid (atoi_no s W hs hv hE)
    have HN := Lib.hid (show numB s.data.toList = false by unfold numB; rw [hE]; rfl)
    clear hE hT hv hsl
    generalize atoiN s.data.toList = n at *
    go_enter Tryz.func19, Tryz.ntmps19
    go_wp2_with
      (go_at_call 29; refine HA.out.mono ?_; rintro e w1 ⟨⟨te, pe, rfl⟩, hb1⟩
       have HB := Lib.hid hb1
       clear hb1)
    go_ret2
    exact ⟨by rw [HN.out]; rfl, HB.out⟩
  · have HA := Lib.hid (atoi_yes s W hs hE)
    have HI := Lib.hid (fun w => itoa_any (atoiN s.data.toList) hb.1 hb.2 w)
    have HT := Lib.hid hT
    have lt := hT.lt
    have hN : numB s.data.toList = (((itoS (atoiN s.data.toList)).toList == s.toList) && decide (0 ≤ atoiN s.data.toList) && decide (atoiN s.data.toList ≤ 1099511627776)) := by
      unfold numB okN
      rw [hE, itoS_list, hsl, Bool.true_and, ← Bool.and_assoc]
      congr 2
      rw [Bool.eq_iff_iff]
      simp
    have HN := Lib.hid hN
    clear hE hT hv hsl hN
    generalize atoiN s.data.toList = n at *
    generalize itoS n = y at *
    cases hq : (y.toList == s.toList)
    · have HQ := Lib.hid hq
      go_enter Tryz.func19, Tryz.ntmps19
      go_wp2_with
        (first
        | (go_at_call 29; refine HA.out.mono ?_; rintro e w1 ⟨rfl, hb1⟩
           have HB := Lib.hid hb1
           clear hb1)
        | (go_at_call 36; refine (HI.out _ (HT.out.below HB.out lt)).mono ?_; rintro e w2 ⟨rfl, hb2⟩
           have HB2 := Lib.hid (below_2 HB.out hb2)
           clear hb2))
      go_ret2
      exact ⟨by rw [HN.out, HQ.out]; rfl, HB2.out⟩
    · have HQ := Lib.hid hq
      by_cases h0 : 0 ≤ n
      all_goals
        go_enter Tryz.func19, Tryz.ntmps19
        go_wp2_with
          (first
          | (go_at_call 29; refine HA.out.mono ?_; rintro e w1 ⟨rfl, hb1⟩
             have HB := Lib.hid hb1
             clear hb1)
          | (go_at_call 36; refine (HI.out _ (HT.out.below HB.out lt)).mono ?_; rintro e w2 ⟨rfl, hb2⟩
             have HB2 := Lib.hid (below_2 HB.out hb2)
             clear hb2))
        go_ret2
        refine ⟨?_, HB2.out⟩
        rw [HN.out, HQ.out]
        first
          | (rw [show decide (0 ≤ n) = true by simp; omega]; rfl)
          | (rw [show decide (0 ≤ n) = false by simp; omega]; rfl)
end Go.Proofs.YtdfgegicfhcmeaaGreatDoor
