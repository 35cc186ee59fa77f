/-
  The tag, by the reference's text; Same.
-/
import Derived.Test.YtdfgegicfhcmeaaGreatDoorTag2
import Derived.Test.YtdfgegicfhcmeaaGreatDoorShelf
namespace Go.Proofs.YtdfgegicfhcmeaaGreatDoor
open Go.RowKit

theorem repeat_zeros (m : Nat) : Lib.repeatL [48] m = List.replicate m (48 : UInt8) := by
  induction m with
  | zero => rfl
  | succ m ih => rw [Lib.repeatL, ih]; rfl
theorem concat_arr (a b : List UInt8) : (⟨a.toArray⟩ : ByteArray) ++ ⟨b.toArray⟩ = ⟨(a ++ b).toArray⟩ := by
  apply ByteArray.ext
  simp
theorem tag_join (n k : Nat) (h1 : k ≤ 16) (h2 : n < 16 ^ k) : (⟨(Lib.repeatL (⟨#[48]⟩ : ByteArray).data.toList (16 - k)).toArray⟩ : ByteArray) ++ ⟨(hexN k n).toArray⟩ = ⟨(hexN 16 n).toArray⟩ := by
  rw [concat_arr]
  show (⟨(Lib.repeatL [48] (16 - k) ++ hexN k n).toArray⟩ : ByteArray) = _
  rw [repeat_zeros, ← hexN_pad k (16 - k) n h2, show k + (16 - k) = 16 from by omega]

theorem hex_size (k n : Nat) : (⟨(hexN k n).toArray⟩ : ByteArray).size = k := by
  show (hexN k n).toArray.size = k
  rw [List.size_toArray, hexN_length]

theorem below_dn {W w1 w2 : World} (h : ∃ n, w1 = W.drewN n) (hb : Below w1.heap.size w1 w2) : Below W.heap.size W w2 := by
  obtain ⟨n, rfl⟩ := h
  exact (below_drewN (Below.refl _ _) n).trans (hb.mono (Nat.le_refl _))
theorem below_3 {W a b c : World} (h1 : Below W.heap.size W a) (h2 : Below a.heap.size a b) (h3 : Below b.heap.size b c) : Below W.heap.size W c :=
  (h1.trans (h2.mono h1.size)).trans (h3.mono (Nat.le_trans h1.size h2.size))
theorem rep_size (m : Nat) : (⟨(Lib.repeatL [48] m).toArray⟩ : ByteArray).size = m := by
  show (Lib.repeatL [48] m).toArray.size = m
  rw [repeat_zeros, List.size_toArray, List.length_replicate]
set_option maxHeartbeats 1000000 in
set_option maxRecDepth 100000 in
theorem ref_tag (key : Int) (s : ByteArray) (W : World) (hs : s.size ≤ 1000000) (hT : Tab15 W) :
    Calls Tryz.prog 10 #[.int .i64 key, .string s] W fun e w' => e = .returned (.string ⟨(tagL key s.data.toList).toArray⟩) ∧ Below W.heap.size W w' := by
  have HT := Lib.hid hT
  have hG := hT.lt
  clear hT
  go_enter Tryz.func10, Tryz.ntmps10
  go_wp2_with (first
    | (go_at_call 24; refine (turn_k _ 32 _ (u64_wrap _) (by omega) (by omega)).mono ?_; rintro e w1 ⟨rfl, hww⟩)
    | (go_at_call 23; refine (ref_sum _ _ s _ hs).mono ?_; rintro e w2 ⟨rfl, hb⟩
       have hb1 : Below W.heap.size W w2 := below_dn hww hb
       have htag : tagL key s.data.toList = hexN 16 (sip (IntKind.u64.wrap key) (rotl (IntKind.u64.wrap key) 32) s.data.toList).toNat := rfl
       have hu := u64_sip (IntKind.u64.wrap key) (rotl (IntKind.u64.wrap key) 32) s.data.toList
       generalize sip (IntKind.u64.wrap key) (rotl (IntKind.u64.wrap key) 32) s.data.toList = N at *
       obtain ⟨n, rfl⟩ := Int.eq_ofNat_of_zero_le hu.1
       have hn : n < 18446744073709551616 := by have := hu.2; omega
       rw [Int.toNat_natCast] at htag
       have HTAG := Lib.hid htag
       have HB1 := Lib.hid hb1
       have HN := Lib.hid hn
       clear hu htag hb1 hn hb hww)
    | (go_at_call 25; refine (format_uint n _ HN.out (HT.out.below HB1.out hG)).mono ?_; rintro e w3 ⟨⟨k, hk1, hk16, hnk, rfl⟩, hb3⟩
       have hsz := hex_size k n
       have hsr := rep_size (16 - k)
       have hjoin := tag_join n k hk16 hnk
       have HB3 := Lib.hid hb3
       have HJ := Lib.hid hjoin
       clear hb3 hnk hjoin)
    | (go_at_call 26
       rw [show ((16 : Int) - (k : Int)) = ((16 - k : Nat) : Int) by omega]
       refine (Tryz.strings_Repeat ⟨#[48]⟩ (16 - k) _ (by omega) (by show 1 * (16 - k) ≤ _; omega)).mono ?_; rintro e w4 ⟨rfl, hb4⟩
       have HB4 := Lib.hid hb4
       clear hb4))
  go_ret
  rw [HJ.out, ← HTAG.out]
  exact ⟨rfl, below_3 HB1.out HB3.out HB4.out⟩
end Go.Proofs.YtdfgegicfhcmeaaGreatDoor
