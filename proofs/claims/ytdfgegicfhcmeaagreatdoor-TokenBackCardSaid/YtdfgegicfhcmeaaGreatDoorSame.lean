/-
  Same: two strings held against each other, byte by byte.
-/
import Derived.Test.YtdfgegicfhcmeaaGreatDoorTag
import Derived.Laws.BitsAllLaws
namespace Go.Proofs.YtdfgegicfhcmeaaGreatDoor
open Go.RowKit

theorem or_xor_zero (x p q : Nat) (hx : x < 256) (hp : p < 256) (hq : q < 256) :
    ∃ z : Nat, bits .or .u8 (x : Int) (bits .xor .u8 (p : Int) (q : Int)) = (z : Int) ∧ z < 256 ∧ (z = 0 ↔ x = 0 ∧ p = q) := by
  have h1 : p ^^^ q < 2 ^ 8 := Nat.xor_lt_two_pow hp hq
  refine ⟨x ||| (p ^^^ q), ?_, Nat.or_lt_two_pow (n := 8) hx h1, ?_⟩
  · rw [u8_xor_nat p q hp hq, u8_or_nat x (p ^^^ q) hx h1]
  · rw [Nat.or_eq_zero_iff]
    refine and_congr_right fun _ => ⟨fun h => ?_, fun h => by rw [h, Nat.xor_self]⟩
    have h2 := congrArg (· ^^^ q) h
    simpa [Nat.xor_assoc] using h2

theorem str_index (s : ByteArray) (k : Nat) (h : k < s.size) : ∃ p : Nat, p < 256 ∧ s.data[k]? = some (UInt8.ofNat p) ∧ ∀ w : World, (Instr.index 9 (.string s) (.int .i64 (k : Int))).run Tryz.prog w = .ok (.int .u8 (p : Int)) w := by
  refine ⟨(s[k]'h).toNat, (s[k]'h).toNat_lt, ?_, fun w => ?_⟩
  · rw [UInt8.ofNat_toNat]
    exact Array.getElem?_eq_getElem h
  · rw [run_index_string w 9 _ .i64 (k : Int) Tryz.underlying9, dif_pos ⟨by omega, by omega⟩]
    rfl

def SameRel (W : World) (a b : ByteArray) (v i : Value) (w : World) : Prop :=
  ∃ x k : Nat, v = .int .u8 x ∧ i = .int .i64 k ∧ k ≤ a.size ∧ x < 256 ∧ (x = 0 ↔ ∀ j, j < k → a.data[j]? = b.data[j]?) ∧ ∃ n, w = W.drewN n

theorem same_all (a b : ByteArray) (h : a.size = b.size) (x : Nat) (hx : x = 0 ↔ ∀ j, j < a.size → a.data[j]? = b.data[j]?) : decide (x = 0) = decide (a = b) := by
  rw [decide_eq_decide, hx]
  constructor
  · intro hj
    apply ByteArray.ext
    apply Array.ext_getElem?
    intro j
    rcases Nat.lt_or_ge j a.size with h1 | h1
    · exact hj j h1
    · rw [Array.getElem?_eq_none h1, Array.getElem?_eq_none (by rw [← show b.size = b.data.size from rfl]; omega)]
  · rintro rfl j _; rfl

set_option maxHeartbeats 1000000 in
theorem mac_same (a b : ByteArray) (W : World) (ha : a.size ≤ 1000000) (hb : b.size ≤ 1000000) :
    Calls Tryz.prog 21 #[.string a, .string b] W fun e w' => e = .returned (.bool (decide (a = b))) ∧ ∃ n, w' = W.drewN n := by
  by_cases hsz : a.size = b.size
  · have HS := Lib.hid hsz
    have hlen : ((a.size : Int) != (b.size : Int)) = false := by rw [hsz]; simp
    go_enter Tryz.func21, Tryz.ntmps21
    go_wp2_with fail
    go_loopw [5, 14] (fun v i wr => SameRel W a b v i wr) (fun _ i _ => a.size - (intOf i).toNat)
    case atStart => exact ⟨0, 0, rfl, rfl, by omega, by omega, ⟨fun _ j hj => by omega, fun _ => rfl⟩, 0, rfl⟩
    case round =>
      obtain ⟨x, k, rfl, rfl, hk, hx, hinv, n, rfl⟩ := hrel
      have HI := Lib.hid hinv
      clear hinv
      by_cases hlt : k < a.size
      · obtain ⟨p, hp, ep, hixa⟩ := str_index a k hlt
        obtain ⟨q, hq, eq, hixb⟩ := str_index b k (by omega)
        obtain ⟨z, hz, hz256, hzz⟩ := or_xor_zero x p q hx hp hq
        have HZ := Lib.hid hzz
        have EP := Lib.hid ep
        have EQ := Lib.hid eq
        have hkb : k < b.size := by omega
        have hka1 : k + 1 ≤ a.size := by omega
        clear hzz ep eq hsz
        go_wp2_with fail
        go_quiet (fail)
        go_wp2_with fail
        refine ⟨⟨z, k + 1, rfl, by go_num, hka1, hz256, ?_, _, rfl⟩, by simp [intOf]; omega⟩
        have hi := HI.out
        have hzo := HZ.out
        have ep := EP.out
        have eq := EQ.out
        rw [hzo]
        constructor
        · rintro ⟨h0, rfl⟩ j hj
          rcases Nat.lt_or_ge j k with h1 | h1
          · exact hi.1 h0 j h1
          · obtain rfl : j = k := by omega
            rw [ep, eq]
        · intro h
          refine ⟨hi.2 fun j hj => h j (by omega), ?_⟩
          have h2 := h k (by omega)
          rw [ep, eq] at h2
          have h3 := congrArg UInt8.toNat (Option.some.inj h2)
          rw [UInt8.toNat_ofNat', UInt8.toNat_ofNat', Nat.mod_eq_of_lt hp, Nat.mod_eq_of_lt hq] at h3
          exact h3
      · obtain rfl : k = a.size := by omega
        go_wp2_with fail
        go_ret
        refine ⟨?_, _, rfl⟩
        show Ending.returned (Value.bool ((x : Int) == 0)) = _
        rw [← same_all a b HS.out x HI.out]
        congr 2
        rw [Bool.eq_iff_iff]
        simp
  · have hlen : ((a.size : Int) != (b.size : Int)) = true := by simp; omega
    have hne : a ≠ b := by rintro rfl; exact hsz rfl
    go_enter Tryz.func21, Tryz.ntmps21
    go_wp2_with fail
    go_ret
    refine ⟨?_, 0, rfl⟩
    show Ending.returned (Value.bool false) = _
    rw [decide_eq_false hne]
end Go.Proofs.YtdfgegicfhcmeaaGreatDoor
