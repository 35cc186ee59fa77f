/-
  slices.ContainsFunc at 'longer than a word may be'.
-/
import Derived.Test.YtklpmoimckblcaaGreatDoorStrs
import Derived.Test.YtklpmoimckblcaaGreatDoorScopeLaws
namespace Go.Proofs.YtklpmoimckblcaaGreatDoor
open Go.RowKit Go.Sort

theorem long_b (x : ByteArray) (w : World) : Calls Tryz.prog 86 #[.string x] w fun e w' => e = .returned (.bool (decide (8 < x.size))) ∧ w = w' := by
  by_cases h : 8 < x.size
  · have h1 : decide (8 < x.size) = true := by simpa using h
    go_enter Tryz.func86, Tryz.ntmps86
    go_wp2_with fail
    go_ret
    exact ⟨by rw [h1]; simp; omega, rfl⟩
  · have h1 : decide (8 < x.size) = false := by simpa using h
    go_enter Tryz.func86, Tryz.ntmps86
    go_wp2_with fail
    go_ret
    exact ⟨by rw [h1]; simp; omega, rfl⟩

def IdxRel (L : List (List UInt8)) (w : World) (i : Value) (wr : World) : Prop := ∃ k q : Nat, k ≤ L.length ∧ i = .int .i64 k ∧ wr = w.drewN q ∧ ∀ j, j < k → longB (L.getD j []) = false

theorem any_of_at {L : List (List UInt8)} {k : Nat} (hk : k < L.length) (h : longB (L.getD k []) = true) : L.any longB = true := by
  rw [List.any_eq_true]
  refine ⟨L[k], List.getElem_mem hk, ?_⟩
  simpa [List.getD, hk] using h
theorem any_of_none {L : List (List UInt8)} (h : ∀ j, j < L.length → longB (L.getD j []) = false) : L.any longB = false := by
  rw [List.any_eq_false]
  intro x hx
  obtain ⟨j, hj, rfl⟩ := List.mem_iff_getElem.1 hx
  have := h j hj
  simpa [List.getD, hj] using this
def AtOrNot (L : List (List UInt8)) (w : World) (e : Ending) (w' : World) : Prop := ∃ (n : Int) (q : Nat), e = .returned (.int .i64 n) ∧ decide (0 ≤ n) = L.any longB ∧ w' = w.drewN q

set_option maxHeartbeats 1000000 in
theorem index_long (B g cap : Nat) (L : List (List UInt8)) (w : World) (h : Row w B (.slice (some ⟨g, 0, none⟩) L.length cap) L) (hL : L.length ≤ 1000000) :
    Calls Tryz.prog 110 #[.slice (some ⟨g, 0, none⟩) L.length cap, .func (.func 86) #[] #[]] w (AtOrNot L w) := by
  have HR := Lib.hid h
  clear h
  go_enter Tryz.func110, Tryz.ntmps110
  go_wp2
  go_loopw [8] (fun i wr => IdxRel L w i wr) (fun i _ => L.length - (intOf i).toNat)
  case atStart => exact ⟨0, 0, Nat.zero_le _, rfl, rfl, fun j hj => absurd hj (Nat.not_lt_zero _)⟩
  case round =>
    obtain ⟨k, q, hk, rfl, rfl, hno⟩ := hrel
    have HN := Lib.hid hno
    clear hno
    by_cases hlt : k < L.length
    · have hc := (HR.out.drewN q).cell k hlt
      have hsz := txt_size (L.getD k [])
      generalize hx : txt (L.getD k []) = x at *
      have HX := Lib.hid hx
      clear hx
      by_cases hlong : 8 < x.size
      · have hd : decide (8 < x.size) = true := by simpa using hlong
        have HS := Lib.hid hsz
        clear hsz
        go_wp2_with (go_at_call 86; refine (long_b _ _).mono ?_; rintro e w1 ⟨rfl, rfl⟩)
        go_ret
        refine ⟨k, q, rfl, ?_, rfl⟩
        rw [any_of_at hlt (by unfold longB; rw [← HS.out]; simpa using hlong)]
        simp
      · have hd : decide (8 < x.size) = false := by simpa using hlong
        have HS := Lib.hid hsz
        clear hsz
        go_wp2_with (go_at_call 86; refine (long_b _ _).mono ?_; rintro e w1 ⟨rfl, rfl⟩)
        go_roundw
        case rel =>
          refine ⟨k + 1, q, by omega, by go_num, rfl, fun j hj => ?_⟩
          by_cases e : j = k
          · subst e
            unfold longB
            rw [← HS.out]
            simpa using hlong
          · exact HN.out j (by omega)
        case measure => simp [intOf]; omega
    · go_wp2
      go_ret
      refine ⟨-1, q, rfl, ?_, rfl⟩
      rw [any_of_none fun j hj => HN.out j (by omega)]
      rfl

set_option maxHeartbeats 1000000 in
theorem contains_long (B g cap : Nat) (L : List (List UInt8)) (w : World) (h : Row w B (.slice (some ⟨g, 0, none⟩) L.length cap) L) (hL : L.length ≤ 1000000) :
    Calls Tryz.prog 85 #[.slice (some ⟨g, 0, none⟩) L.length cap, .func (.func 86) #[] #[]] w fun e w' => e = .returned (.bool (L.any longB)) ∧ ∃ q, w' = w.drewN q := by
  have H := Lib.hid (index_long B g cap L w h hL)
  clear h
  go_enter Tryz.func85, Tryz.ntmps85
  go_wp2_with (go_at_call 110; refine H.out.mono ?_; rintro e w1 ⟨n, q, rfl, hn, rfl⟩; have HN := Lib.hid hn; clear hn)
  go_ret
  exact ⟨by rw [← HN.out]; rfl, q, rfl⟩
end Go.Proofs.YtklpmoimckblcaaGreatDoor
