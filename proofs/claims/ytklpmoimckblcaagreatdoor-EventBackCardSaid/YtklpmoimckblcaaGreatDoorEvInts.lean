/-
  event.within: whether numbers are from 0 to MaxNumber.
-/
import Derived.Test.YtklpmoimckblcaaGreatDoorEvVals
namespace Go.Proofs.YtklpmoimckblcaaGreatDoor
open Go.RowKit Go.Sort

theorem bad_num (x : Int) (w : World) : Calls Tryz.prog 64 #[.int .i64 x] w fun e w' => e = .returned (.bool (!okN x)) ∧ w = w' := by
  by_cases h0 : 0 ≤ x
  · go_enter Tryz.func64, Tryz.ntmps64
    go_wp2_with fail
    go_ret
    refine ⟨?_, rfl⟩
    show Ending.returned _ = _
    have e : (decide (x < 0) || decide (1099511627776 < x)) = !okN x := by
      rw [Bool.eq_iff_iff]
      simp [okN, h0]
      omega
    rw [← e]
    rfl
  · have h1 : x < 0 := by omega
    go_enter Tryz.func64, Tryz.ntmps64
    go_wp2_with fail
    go_ret
    refine ⟨?_, rfl⟩
    show Ending.returned _ = _
    simp [okN]
    try omega

def IntRel (L : List Int) (w : World) (i : Value) (wr : World) : Prop := ∃ k q : Nat, k ≤ L.length ∧ i = .int .i64 k ∧ wr = w.drewN q ∧ ∀ j, j < k → okN (L.getD j 0) = true
def IntGot (L : List Int) (w : World) (e : Ending) (w' : World) : Prop := ∃ (n : Int) (q : Nat), e = .returned (.int .i64 n) ∧ (!decide (0 ≤ n)) = L.all okN ∧ w' = w.drewN q

set_option maxHeartbeats 1000000 in
theorem index_bad (g cap : Nat) (L : List Int) (w : World) (h : IntsAt w g L) (hL : L.length ≤ 1000000) :
    Calls Tryz.prog 87 #[.slice (some ⟨g, 0, none⟩) L.length cap, .func (.func 64) #[] #[]] w (IntGot L w) := by
  have HR := Lib.hid h
  clear h
  go_enter Tryz.func87, Tryz.ntmps87
  go_wp2
  go_loopw [8] (fun i wr => IntRel L w i wr) (fun i _ => L.length - (intOf i).toNat)
  case atStart => exact ⟨0, 0, Nat.zero_le _, rfl, rfl, fun j hj => absurd hj (Nat.not_lt_zero _)⟩
  case round =>
    obtain ⟨k, q, hk, rfl, rfl, hno⟩ := hrel
    have HN := Lib.hid hno
    clear hno
    by_cases hlt : k < L.length
    · have hc := (HR.out.drewN q) k hlt
      generalize hx : L.getD k 0 = x at *
      have HX := Lib.hid hx
      clear hx
      cases hok : okN x
      · have HO := Lib.hid hok
        clear hok
        have HBN := Lib.hid (fun w => (bad_num x w).mono (fun e w' (h : e = .returned (.bool (!okN x)) ∧ w = w') => (show e = .returned (.bool true) ∧ w = w' from ⟨by rw [h.1, HO.out]; rfl, h.2⟩)))
        go_wp2_with (go_at_call 64; refine (HBN.out _).mono ?_; rintro e w1 ⟨rfl, rfl⟩)
        go_ret
        refine ⟨k, q, rfl, ?_, rfl⟩
        rw [ints_at hlt (by rw [HX.out]; exact HO.out)]
        simp
      · have HO := Lib.hid hok
        clear hok
        have HBN := Lib.hid (fun w => (bad_num x w).mono (fun e w' (h : e = .returned (.bool (!okN x)) ∧ w = w') => (show e = .returned (.bool false) ∧ w = w' from ⟨by rw [h.1, HO.out]; rfl, h.2⟩)))
        go_wp2_with (go_at_call 64; refine (HBN.out _).mono ?_; rintro e w1 ⟨rfl, rfl⟩)
        go_roundw
        case rel =>
          refine ⟨k + 1, q, by omega, by go_num, rfl, fun j hj => ?_⟩
          by_cases e : j = k
          · subst e
            rw [HX.out]
            exact HO.out
          · exact HN.out j (by omega)
        case measure => simp [intOf]; omega
    · go_wp2
      go_ret
      refine ⟨-1, q, rfl, ?_, rfl⟩
      rw [ints_all fun j hj => HN.out j (by omega)]
      rfl

set_option maxHeartbeats 1000000 in
theorem contains_bad (g cap : Nat) (L : List Int) (w : World) (h : IntsAt w g L) (hL : L.length ≤ 1000000) :
    Calls Tryz.prog 63 #[.slice (some ⟨g, 0, none⟩) L.length cap, .func (.func 64) #[] #[]] w fun e w' => e = .returned (.bool (!L.all okN)) ∧ ∃ q, w' = w.drewN q := by
  have H := Lib.hid (index_bad g cap L w h hL)
  clear h
  go_enter Tryz.func63, Tryz.ntmps63
  go_wp2_with (go_at_call 87; refine H.out.mono ?_; rintro e w1 ⟨n, q, rfl, hn, rfl⟩; have HN := Lib.hid hn; clear hn)
  go_ret
  exact ⟨by rw [← HN.out, Bool.not_not]; rfl, q, rfl⟩
theorem ev_within (g cap : Nat) (L : List Int) (w : World) (h : IntsAt w g L) (hL : L.length ≤ 1000000) :
    Calls Tryz.prog 43 #[.slice (some ⟨g, 0, none⟩) L.length cap] w fun e w' => e = .returned (.bool (L.all okN)) ∧ Below w.heap.size w w' := by
  have H := Lib.hid (contains_bad g cap L w h hL)
  clear h
  go_enter Tryz.func43, Tryz.ntmps43
  go_wp2_with (go_at_call 63; refine H.out.mono ?_; rintro e w1 ⟨rfl, q, rfl⟩)
  go_ret
  exact ⟨by simp, below_drewN (Below.refl _ _) q⟩
end Go.Proofs.YtklpmoimckblcaaGreatDoor
