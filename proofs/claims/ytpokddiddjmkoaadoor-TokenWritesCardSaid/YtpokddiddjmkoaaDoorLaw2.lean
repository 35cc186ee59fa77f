/-
  MacSums: the walk.
-/
import Derived.Test.YtpokddiddjmkoaaDoorTag3
import Derived.Test.YtpokddiddjmkoaaDoorSame
namespace Go.Proofs.YtpokddiddjmkoaaDoor
open Go.RowKit

theorem below_dn2 {B : Nat} {W w1 w2 : World} (h1 : Below B W w1) (h2 : ∃ n, w2 = w1.drewN n) : Below B W w2 := by
  obtain ⟨n, rfl⟩ := h2
  exact below_drewN h1 n
theorem below_2 {W a b : World} (h1 : Below W.heap.size W a) (h2 : Below a.heap.size a b) : Below W.heap.size W b := h1.trans (h2.mono h1.size)

theorem macSums_long (W : World) (k0 k1 key : Int) (a b : ByteArray) (h : ¬ (a.size ≤ 400 ∧ b.size ≤ 400)) (ha : a.size ≤ 9223372036854775807) (hb : b.size ≤ 9223372036854775807) :
    Calls Tryd.prog 4 #[.int .u64 k0, .int .u64 k1, .int .i64 key, .string a, .string b] W fun e w' => e = .returned (.bool true) ∧ Below W.heap.size W w' := by
  by_cases h1 : a.size ≤ 400
  · have h2 : 400 < b.size := by omega
    clear h
    go_enter Tryd.func4, Tryd.ntmps4
    go_wp2_with fail
    go_ret
    refine ⟨rfl, ?_⟩
    exact Below.refl _ _
  · have h2 : 400 < a.size := by omega
    clear h h1
    go_enter Tryd.func4, Tryd.ntmps4
    go_wp2_with fail
    go_ret
    refine ⟨rfl, ?_⟩
    exact Below.refl _ _

theorem same_self (a : ByteArray) (W : World) (ha : a.size ≤ 400) :
    Calls Tryd.prog 15 #[.string a, .string a] W fun e w' => e = .returned (.bool true) ∧ ∃ n, w' = W.drewN n := by
  have h := mac_same a a W (by omega) (by omega)
  rw [decide_eq_true rfl] at h
  exact h
theorem same_ne (a b : ByteArray) (hne : ¬ a = b) (W : World) (ha : a.size ≤ 400) (hb : b.size ≤ 400) :
    Calls Tryd.prog 15 #[.string a, .string b] W fun e w' => e = .returned (.bool false) ∧ ∃ n, w' = W.drewN n := by
  have h := mac_same a b W (by omega) (by omega)
  rw [decide_eq_false hne] at h
  exact h

set_option maxRecDepth 100000 in
set_option maxHeartbeats 1000000 in
theorem macSums_eq (W : World) (k0 k1 key : Int) (a : ByteArray) (ha : a.size ≤ 400) (hT : Tab15 W) :
    Calls Tryd.prog 4 #[.int .u64 k0, .int .u64 k1, .int .i64 key, .string a, .string a] W fun e w' => e = .returned (.bool true) ∧ Below W.heap.size W w' := by
  have HT := Lib.hid hT
  have hG := hT.lt
  clear hT
  go_enter Tryd.func4, Tryd.ntmps4
  go_wp2_with (first
    | (go_at_call 11; refine (mac_sum _ _ a _ (by omega)).mono ?_; rintro e w1 ⟨rfl, hb1⟩)
    | (go_at_call 12; refine (ref_sum _ _ a _ (by omega)).mono ?_; rintro e w2 ⟨rfl, hb2⟩
       have HB := Lib.hid (below_2 hb1 hb2)
       clear hb1 hb2)
    | (go_at_call 13; refine (mac_tag _ a _ (by omega)).mono ?_; rintro e w3 ⟨rfl, hb3⟩
       have HB3 := Lib.hid (below_2 HB.out hb3)
       clear hb3)
    | (go_at_call 14; refine (ref_tag _ a _ (by omega) (HT.out.below HB3.out hG)).mono ?_; rintro e w4 ⟨rfl, hb4⟩
       have HB4 := Lib.hid (below_2 HB3.out hb4)
       clear hb4)
    | (go_at_call 15; refine (same_self a _ (by omega)).mono ?_; rintro e w5 ⟨rfl, hb5⟩
       first
       | have HB6 := Lib.hid (below_dn2 HB5.out hb5)
       | have HB5 := Lib.hid (below_dn2 HB4.out hb5)
       clear hb5))
  go_ret
  exact ⟨rfl, HB6.out⟩

set_option maxRecDepth 100000 in
set_option maxHeartbeats 1000000 in
theorem macSums_ne (W : World) (k0 k1 key : Int) (a b : ByteArray) (ha : a.size ≤ 400) (hb : b.size ≤ 400) (hne : ¬ a = b) (hT : Tab15 W) :
    Calls Tryd.prog 4 #[.int .u64 k0, .int .u64 k1, .int .i64 key, .string a, .string b] W fun e w' => e = .returned (.bool true) ∧ Below W.heap.size W w' := by
  have HT := Lib.hid hT
  have hG := hT.lt
  have HN := Lib.hid hne
  have hd : (a.toList == b.toList) = false := by
    cases h : (a.toList == b.toList)
    · rfl
    · have h2 := eq_of_beq h
      rw [ByteArray.toList_eq, ByteArray.toList_eq] at h2
      exact absurd (by cases a; cases b; simp_all) hne
  clear hT
  go_enter Tryd.func4, Tryd.ntmps4
  go_wp2_with (first
    | (go_at_call 11; refine (mac_sum _ _ a _ (by omega)).mono ?_; rintro e w1 ⟨rfl, hb1⟩)
    | (go_at_call 12; refine (ref_sum _ _ a _ (by omega)).mono ?_; rintro e w2 ⟨rfl, hb2⟩
       have HB := Lib.hid (below_2 hb1 hb2)
       clear hb1 hb2)
    | (go_at_call 13; refine (mac_tag _ a _ (by omega)).mono ?_; rintro e w3 ⟨rfl, hb3⟩
       have HB3 := Lib.hid (below_2 HB.out hb3)
       clear hb3)
    | (go_at_call 14; refine (ref_tag _ a _ (by omega) (HT.out.below HB3.out hG)).mono ?_; rintro e w4 ⟨rfl, hb4⟩
       have HB4 := Lib.hid (below_2 HB3.out hb4)
       clear hb4)
    | (go_at_call 15
       first
       | (have hmark := HB5
          clear hmark
          refine (same_self a _ (by omega)).mono ?_; rintro e w6 ⟨rfl, hb6⟩
          have HB6 := Lib.hid (below_dn2 HB5.out hb6)
          clear hb6)
       | (refine (same_ne a b HN.out _ (by omega) (by omega)).mono ?_; rintro e w5 ⟨rfl, hb5⟩
          have HB5 := Lib.hid (below_dn2 HB4.out hb5)
          clear hb5)))
  go_ret
  exact ⟨rfl, HB6.out⟩
end Go.Proofs.YtpokddiddjmkoaaDoor
