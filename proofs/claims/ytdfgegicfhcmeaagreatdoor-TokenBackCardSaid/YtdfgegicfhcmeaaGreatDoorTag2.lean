/-
  The tag, by the reference's text: FormatUint at base 16.
-/
import Derived.Test.YtdfgegicfhcmeaaGreatDoorTag
namespace Go.Proofs.YtdfgegicfhcmeaaGreatDoor
open Go.RowKit

/-- the cell of the library's table that is read -/
def Tab15 (w : World) : Prop := w.cell? ⟨8, 15, none⟩ = some (.int .u8 4)
theorem Tab15.lt {w : World} (h : Tab15 w) : 8 < w.heap.size := by
  unfold Tab15 at h
  rcases Nat.lt_or_ge 8 w.heap.size with h' | h'
  · exact h'
  · simp [World.cell?, Array.getElem?_eq_none h'] at h
theorem Tab15.below {B : Nat} {w w' : World} (h : Tab15 w) (hb : Below B w w') (hB : 8 < B) : Tab15 w' := by
  unfold Tab15 at *; rw [hb.cell (p := ⟨8, 15, none⟩) hB]; exact h

theorem pow2_16 (w : World) : Calls Tryz.prog 99 #[.int .i64 16] w fun e w' => e = .returned (.bool true) ∧ w = w' := by
  have h : bits .and .i64 16 15 = 0 := by decide
  go_enter Tryz.func99, Tryz.ntmps99
  go_wp2
  go_ret
  exact ⟨rfl, rfl⟩

theorem tz64_16 (w : World) (hT : Tab15 w) : Calls Tryz.prog 111 #[.int .u64 16] w fun e w' => e = .returned (.int .i64 4) ∧ w = w' := by
  unfold Tab15 at hT
  have h1 : bits .and .u64 16 (IntKind.u64.wrap (-16)) = 16 := by decide
  have h2 : IntKind.u64.wrap (16 * 285870213051353865) / 288230376151711744 = 15 := by decide
  have h3 : IntKind.u64.wrap 4573923408821661840 / 288230376151711744 = 15 := by decide
  go_enter Tryz.func111, Tryz.ntmps111
  go_wp2
  go_ret
  exact ⟨rfl, rfl⟩

theorem tz_16 (w : World) (hT : Tab15 w) : Calls Tryz.prog 100 #[.int .u64 16] w fun e w' => e = .returned (.int .i64 4) ∧ w = w' := by
  have HT := Lib.hid hT
  clear hT
  go_enter Tryz.func100, Tryz.ntmps100
  go_wp2_with (go_at_call 111; refine (tz64_16 _ HT.out).mono ?_; rintro e w1 ⟨rfl, rfl⟩)
  go_ret
  exact ⟨rfl, rfl⟩

theorem tab36_at (d : Nat) (hd : d < 16) : Value.int .u8 (((⟨#[48, 49, 50, 51, 52, 53, 54, 55, 56, 57, 97, 98, 99, 100, 101, 102, 103, 104, 105, 106, 107, 108, 109, 110, 111, 112, 113, 114, 115, 116, 117, 118, 119, 120, 121, 122]⟩ : ByteArray)[d]'(Nat.lt_of_lt_of_le hd (by decide))).toNat : Int) = byteV (dig d) := by
  have h : d = 0 ∨ d = 1 ∨ d = 2 ∨ d = 3 ∨ d = 4 ∨ d = 5 ∨ d = 6 ∨ d = 7 ∨ d = 8 ∨ d = 9 ∨ d = 10 ∨ d = 11 ∨ d = 12 ∨ d = 13 ∨ d = 14 ∨ d = 15 := by omega
  rcases h with h | h | h | h | h | h | h | h | h | h | h | h | h | h | h | h <;> subst h <;> rfl
theorem tab36_index (d : Nat) (hd : d < 16) (w : World) : (Instr.index 9 (.string ⟨#[48, 49, 50, 51, 52, 53, 54, 55, 56, 57, 97, 98, 99, 100, 101, 102, 103, 104, 105, 106, 107, 108, 109, 110, 111, 112, 113, 114, 115, 116, 117, 118, 119, 120, 121, 122]⟩) (.int .u64 (d : Int))).run Tryz.prog w = .ok (.int .u8 ((dig d).toNat : Int)) w := by
  have hs : (⟨#[48, 49, 50, 51, 52, 53, 54, 55, 56, 57, 97, 98, 99, 100, 101, 102, 103, 104, 105, 106, 107, 108, 109, 110, 111, 112, 113, 114, 115, 116, 117, 118, 119, 120, 121, 122]⟩ : ByteArray).size = 36 := rfl
  rw [run_index_string w 9 _ .u64 (d : Int) Tryz.underlying9, dif_pos ⟨by omega, by rw [hs]; omega⟩]
  have h1 := tab36_at d hd
  unfold byteV at h1
  rw [← h1]
  rfl

def fmtSt (n j : Nat) : List UInt8 := List.replicate (65 - j) 0 ++ hexN j n
theorem fmtSt_length (n j : Nat) (h : j ≤ 65) : (fmtSt n j).length = 65 := by
  unfold fmtSt; rw [List.length_append, List.length_replicate, hexN_length]; omega
theorem fmtSt_set (n j : Nat) (h : j < 65) : (fmtSt n j).set (64 - j) (dig (n / 16 ^ j % 16)) = fmtSt n (j + 1) := by
  unfold fmtSt
  rw [hexN_cons, show 65 - j = (64 - j) + 1 from by omega, show 65 - (j + 1) = 64 - j from by omega, List.replicate_succ', List.append_assoc,
    List.set_append_right _ _ (by rw [List.length_replicate]; omega), List.length_replicate, Nat.sub_self]
  rfl
def FmtRel (W : World) (g n : Nat) (u i : Value) (w : World) : Prop :=
  ∃ j k m : Nat, j ≤ 15 ∧ i = .int .i64 k ∧ k = 65 - j ∧ u = .int .u64 m ∧ m = n / 16 ^ j ∧ BA w g 153 (fmtSt n j) ∧ Below W.heap.size W w

theorem slice65 (k g : Nat) (hk : k ≤ 64) (w : World) : (Instr.sliceAt 153 (.pointer (some ⟨g, 0, none⟩)) (some (.int .i64 (k : Int))) none none).run Tryz.prog w = .ok (.slice (some ⟨g, k, none⟩) (65 - k) (65 - k)) w := by
  have hal : Tryz.prog.arrayLen 153 = 65 := by kernel_rfl
  have hel : (sizeOf (Tryz.prog.elem 153)).run Tryz.prog w = .ok 1 w := by kernel_rfl
  have hun : Tryz.prog.underlying 153 = some (.array (Tryz.prog.arrayLen 153) (Tryz.prog.elem 153)) := by kernel_rfl
  rw [run_sliceAt_array_l w 153 ⟨g, 0, none⟩ hun .i64 (k : Int) (by omega) (by rw [hal]; omega), hel, hal]
  have h1 : ¬ 65 = k := by omega
  simp only [Result.andThen, slicedAt, Int.toNat_natCast, h1, if_false, Nat.mul_one]
  unfold Addr.add
  by_cases h0 : k = 0
  · subst h0; rfl
  · rw [if_neg h0]; simp

theorem j_small (n j : Nat) (hn : n < 18446744073709551616) (h : 16 ≤ n / 16 ^ j) : j ≤ 14 := by
  rcases Nat.lt_or_ge 14 j with h1 | h1
  · have h2 : (16 : Nat) ^ 15 ≤ 16 ^ j := Nat.pow_le_pow_right (by omega) h1
    have h3 : n / 16 ^ j ≤ n / 16 ^ 15 := Nat.div_le_div_left h2 (Nat.pow_pos (by omega))
    have h4 : n / 16 ^ 15 < 16 := by rw [Nat.div_lt_iff_lt_mul (Nat.pow_pos (by omega))]; omega
    omega
  · exact h1
theorem lt_pow_of (n j : Nat) (h : n / 16 ^ j < 16) : n < 16 ^ (j + 1) := by
  rw [Nat.div_lt_iff_lt_mul (Nat.pow_pos (by omega))] at h
  rw [Nat.pow_succ]; omega

set_option maxRecDepth 100000 in
set_option maxHeartbeats 1000000 in
theorem format_bits (n : Nat) (W : World) (hn : n < 18446744073709551616) (hT : Tab15 W) :
    Calls Tryz.prog 77 #[.slice none 0 0, .int .u64 n, .int .i64 16, .bool false, .bool false] W fun e w' =>
      (∃ k, 1 ≤ k ∧ k ≤ 16 ∧ n < 16 ^ k ∧ e = .returned (.tuple #[.slice none 0 0, .string ⟨(hexN k n).toArray⟩])) ∧ Below W.heap.size W w' := by
  have HT := Lib.hid hT
  have HN := Lib.hid hn
  clear hT hn
  go_enter Tryz.func77, Tryz.ntmps77
  go_wp2_with (first
    | (go_at_call 99; refine (pow2_16 _).mono ?_; rintro e w1 ⟨rfl, rfl⟩)
    | (go_at_call 100; refine (tz_16 _ (HT.out.below ((Below.refl _ _).alloc (Nat.le_refl _) _) HT.out.lt)).mono ?_; rintro e w1 ⟨rfl, rfl⟩))
  go_loopw [1, 13] (fun u i wr => FmtRel W W.heap.size n u i wr) (fun u _ _ => (intOf u).toNat)
  case atStart => exact ⟨0, 65, n, by omega, rfl, rfl, rfl, by simp, Blk.new W _ _, (Below.refl _ _).alloc (Nat.le_refl _) _⟩
  case round =>
    obtain ⟨j, k, m, hj, rfl, hk, rfl, hm, hba, hbl⟩ := hrel
    obtain ⟨k, rfl⟩ : ∃ k', k = k' + 1 := ⟨k - 1, by omega⟩
    have hk64 : k = 64 - j := by omega
    have hkb : k ≤ 64 := by omega
    have HJ := Lib.hid hj
    have HK := Lib.hid hk64
    have HM := Lib.hid hm
    have HBA := Lib.hid hba
    have HBL := Lib.hid hbl
    have hm64 : m < 18446744073709551616 := by rw [hm]; exact Nat.lt_of_le_of_lt (Nat.div_le_self _ _) HN.out
    obtain ⟨d, hd⟩ : ∃ d, d = m % 16 := ⟨_, rfl⟩
    have hd16 : d < 16 := by omega
    have hand : bits .and .u64 (m : Int) 15 = (d : Int) := by rw [and15 _ hm64, hd]
    have hix : ∀ w : World, (Instr.index 9 (.string ⟨#[48, 49, 50, 51, 52, 53, 54, 55, 56, 57, 97, 98, 99, 100, 101, 102, 103, 104, 105, 106, 107, 108, 109, 110, 111, 112, 113, 114, 115, 116, 117, 118, 119, 120, 121, 122]⟩) (.int .u64 (d : Int))).run Tryz.prog w = .ok (.int .u8 ((dig d).toNat : Int)) w := tab36_index d hd16
    have HD := Lib.hid hd
    have hlen := fmtSt_length n j (by omega)
    have hcell := hba.cell k (by omega)
    unfold byteV at hcell
    generalize ((fmtSt n j)[k]'(by omega)).toNat = z at hcell
    have hfr := Blk.frozen hba k
    clear hk hk64 hj hm hba hbl hd hlen
    by_cases h16 : 16 ≤ m
    · have hj14 : j ≤ 14 := j_small n j HN.out (by rw [← HM.out]; exact h16)
      clear hm64
      go_wp2_with fail
      refine ⟨⟨j + 1, k, m / 16, by omega, rfl, by rw [HK.out]; omega, by simp, by rw [HM.out, Nat.div_div_eq_div_mul, Nat.pow_succ], ?_, HBL.out.setCell (p := ⟨W.heap.size, k, none⟩) (Nat.le_refl _) _⟩, by simp [intOf]; omega⟩
      have h1 := HBA.out.set_ k (dig d)
      rw [HD.out, HM.out, HK.out, fmtSt_set n j (by omega), ← HM.out, ← HD.out] at h1
      rw [HK.out]
      exact h1
    · clear hm64 hand hix HD d hd16
      have hm16 : m < 16 := by omega
      have hix : ∀ w : World, (Instr.index 9 (.string ⟨#[48, 49, 50, 51, 52, 53, 54, 55, 56, 57, 97, 98, 99, 100, 101, 102, 103, 104, 105, 106, 107, 108, 109, 110, 111, 112, 113, 114, 115, 116, 117, 118, 119, 120, 121, 122]⟩) (.int .u64 (m : Int))).run Tryz.prog w = .ok (.int .u8 ((dig m).toNat : Int)) w := tab36_index m hm16
      have hBA2 : BA (wr.setCell ⟨W.heap.size, k, none⟩ (.int .u8 ((dig m).toNat : Int))) W.heap.size 153 (fmtSt n (j + 1)) := by
        have h1 := HBA.out.set_ k (dig m)
        have h2 : m = n / 16 ^ j % 16 := by rw [← HM.out]; omega
        rw [show dig m = dig (n / 16 ^ j % 16) from by rw [← h2], HK.out, fmtSt_set n j (by have := HJ.out; omega), ← h2, ← HK.out] at h1
        exact h1
      have hstr := hBA2.string (P := Tryz.prog) 31 9 5 Tryz.underlying31 Tryz.underlying5 Tryz.underlying9 k (65 - k) (65 - k) (by rw [fmtSt_length n (j + 1) (by have := HJ.out; omega)]; omega)
      rw [show (fmtSt n (j + 1)).drop k = hexN (j + 1) n from by
        rw [HK.out]; unfold fmtSt
        rw [List.drop_append_of_le_length (by rw [List.length_replicate]; omega), List.drop_of_length_le (by rw [List.length_replicate]; omega), List.nil_append]] at hstr
      have hlt := lt_pow_of n j (by rw [← HM.out]; exact hm16)
      have HLT := Lib.hid hlt
      clear hBA2 hlt
      obtain ⟨H, hH⟩ : ∃ H, H = hexN (j + 1) n := ⟨_, rfl⟩
      rw [← hH] at hstr
      have HH := Lib.hid hH
      clear hH
      have hsl := slice65 k W.heap.size hkb
      go_wp2_with fail
      go_ret2
      exact ⟨⟨j + 1, by omega, by have := HJ.out; omega, HLT.out, by rw [← HH.out]; rfl⟩, HBL.out.setCell (p := ⟨W.heap.size, k, none⟩) (Nat.le_refl _) _⟩

theorem format_uint (n : Nat) (W : World) (hn : n < 18446744073709551616) (hT : Tab15 W) :
    Calls Tryz.prog 25 #[.int .u64 n, .int .i64 16] W fun e w' =>
      (∃ k, 1 ≤ k ∧ k ≤ 16 ∧ n < 16 ^ k ∧ e = .returned (.string ⟨(hexN k n).toArray⟩)) ∧ Below W.heap.size W w' := by
  have inner : Calls Tryz.prog 51 #[.int .u64 n, .int .i64 16] W fun e w' =>
      (∃ k, 1 ≤ k ∧ k ≤ 16 ∧ n < 16 ^ k ∧ e = .returned (.string ⟨(hexN k n).toArray⟩)) ∧ Below W.heap.size W w' := by
    have HF := Lib.hid (format_bits n W hn hT)
    clear hn hT
    go_enter Tryz.func51, Tryz.ntmps51
    go_wp2_with (go_at_call 77; refine HF.out.mono ?_; rintro e w1 ⟨⟨k, k1, k2, k3, rfl⟩, hb⟩)
    go_ret
    exact ⟨⟨k, k1, k2, k3, rfl⟩, hb⟩
  have HF := Lib.hid inner
  clear inner hn hT
  go_enter Tryz.func25, Tryz.ntmps25
  go_wp2_with (go_at_call 51; refine HF.out.mono ?_; rintro e w1 ⟨⟨k, k1, k2, k3, rfl⟩, hb⟩)
  go_ret
  exact ⟨⟨k, k1, k2, k3, rfl⟩, hb⟩
end Go.Proofs.YtdfgegicfhcmeaaGreatDoor
