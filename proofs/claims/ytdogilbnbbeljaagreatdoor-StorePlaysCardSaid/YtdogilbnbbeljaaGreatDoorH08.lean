/-
  The tag, by both texts.
-/
import Derived.Test.YtdogilbnbbeljaaGreatDoorH07
import Derived.Laws.BytesArg
namespace Go.Proofs.YtdogilbnbbeljaaGreatDoor
open Go.RowKit

def byteV (b : UInt8) : Value := .int .u8 (b.toNat : Int)
/-- block g is an array of these bytes -/
def BA (w : World) (g : Nat) (t : TypeId) (xs : List UInt8) : Prop := Blk w g t (xs.map byteV).toArray
theorem BA.cell {w : World} {g : Nat} {t : TypeId} {xs : List UInt8} (h : BA w g t xs) (i : Nat) (hi : i < xs.length) : w.cell? ⟨g, i, none⟩ = some (byteV xs[i]) := by
  rw [Blk.cell h]; simp [hi]
theorem BA.set_ {w : World} {g : Nat} {t : TypeId} {xs : List UInt8} (h : BA w g t xs) (i : Nat) (b : UInt8) : BA (w.setCell ⟨g, i, none⟩ (byteV b)) g t (xs.set i b) := by
  have h1 := Blk.set_ h i (byteV b)
  unfold BA
  rw [List.map_set]
  simpa using h1
theorem BA.string {P : Program} {w : World} {g : Nat} {t : TypeId} {xs : List UInt8} (h : BA w g t xs) (src dst e : TypeId) (hs : P.underlying src = some (.slice e)) (he : P.underlying e = some (.int .u8)) (hd : P.underlying dst = some .string)
    (off len cap : Nat) (hl : off + len = xs.length) : (convert src dst (.slice (some ⟨g, off, none⟩) len cap)).run P w = .ok (.string ⟨(xs.drop off).toArray⟩) w := by
  have h1 := run_convert_bytes_arg (P := P) w src e hs he g off len cap ((xs.drop off).map fun b => (b.toNat : Int)) (by simp; omega) (fun i hi => by
    rw [h.cell (off + i) (by omega)]
    have h2 : off + i < xs.length := by omega
    simp [byteV, List.getD, h2]) dst hd
  rw [h1]
  congr 2
  simp [strOfNums, Function.comp_def]

def keyU (key : Int) : Int := IntKind.u64.wrap key
def tagN (key : Int) (l : List UInt8) : Nat := (sip (keyU key) (rotl (keyU key) 32) l).toNat
/-- the tag: the digits of the sum, the greatest first -/
def tagL (key : Int) (l : List UInt8) : List UInt8 := hexN 16 (tagN key l)
theorem u64_sip (k0 k1 : Int) (l : List UInt8) : U64 (sip k0 k1 l) := u64_bx _ _

def tagSt (n i : Nat) : List UInt8 := (hexN 16 n).take i ++ List.replicate (16 - i) 0
def TagRel (W : World) (g : Nat) (n : Nat) (v : Value) (w : World) : Prop :=
  ∃ i : Nat, i ≤ 16 ∧ v = .int .i64 i ∧ BA w g 112 (tagSt n i) ∧ Below W.heap.size W w
theorem set_tag (n i : Nat) (h : i < 16) : (tagSt n i).set i (dig (n / 16 ^ (15 - i) % 16)) = tagSt n (i + 1) := by
  unfold tagSt
  have hl := hexN_length 16 n
  have h1 : ((hexN 16 n).take i).length = i := by rw [List.length_take]; omega
  rw [List.set_append_right _ _ (by omega), h1, Nat.sub_self]
  have h2 := hexN_get 16 n i h
  have h3 : (hexN 16 n).take (i + 1) = (hexN 16 n).take i ++ [dig (n / 16 ^ (15 - i) % 16)] := by
    rw [List.take_add_one, h2]; rfl
  rw [h3, List.append_assoc, show 16 - i = (16 - (i + 1)) + 1 from by omega, List.replicate_succ, List.set_cons_zero, List.singleton_append]

theorem tab_at (d : Nat) (hd : d < 16) : Value.int .u8 (((⟨#[48, 49, 50, 51, 52, 53, 54, 55, 56, 57, 97, 98, 99, 100, 101, 102]⟩ : ByteArray)[d]'hd).toNat : Int) = byteV (dig d) := by
  have h : d = 0 ∨ d = 1 ∨ d = 2 ∨ d = 3 ∨ d = 4 ∨ d = 5 ∨ d = 6 ∨ d = 7 ∨ d = 8 ∨ d = 9 ∨ d = 10 ∨ d = 11 ∨ d = 12 ∨ d = 13 ∨ d = 14 ∨ d = 15 := by omega
  rcases h with h | h | h | h | h | h | h | h | h | h | h | h | h | h | h | h <;> subst h <;> rfl
theorem tab_index (d : Nat) (hd : d < 16) (w : World) : (Instr.index 9 (.string ⟨#[48, 49, 50, 51, 52, 53, 54, 55, 56, 57, 97, 98, 99, 100, 101, 102]⟩) (.int .u64 (d : Int))).run Tryz.prog w = .ok (.int .u8 ((dig d).toNat : Int)) w := by
  have hs : (⟨#[48, 49, 50, 51, 52, 53, 54, 55, 56, 57, 97, 98, 99, 100, 101, 102]⟩ : ByteArray).size = 16 := rfl
  rw [run_index_string w 9 _ .u64 (d : Int) Tryz.underlying9, dif_pos ⟨by omega, by rw [hs]; omega⟩]
  have h1 := tab_at d hd
  unfold byteV at h1
  rw [← h1]
  rfl

set_option maxRecDepth 100000 in
set_option maxHeartbeats 400000 in
theorem mac_tag (key : Int) (s : ByteArray) (W : World) (hs : s.size ≤ 9223372036854775807) :
    Calls Tryz.prog 35 #[.int .i64 key, .string s] W fun e w' => e = .returned (.string ⟨(tagL key s.data.toList).toArray⟩) ∧ Below W.heap.size W w' := by
  go_enter Tryz.func35, Tryz.ntmps35
  go_wp2_with (first
    | (go_at_call 58; refine (rot_k _ 32 _ (u64_wrap _) (by omega)).mono ?_; rintro e w1 ⟨rfl, hww⟩; obtain rfl := hww.symm)
    | (go_at_call 57; refine (mac_sum _ _ s _ hs).mono ?_; rintro e w2 ⟨rfl, hb⟩))
  have hu := u64_sip (IntKind.u64.wrap key) (rotl (IntKind.u64.wrap key) 32) s.data.toList
  have htag : tagL key s.data.toList = hexN 16 (sip (IntKind.u64.wrap key) (rotl (IntKind.u64.wrap key) 32) s.data.toList).toNat := rfl
  generalize sip (IntKind.u64.wrap key) (rotl (IntKind.u64.wrap key) 32) s.data.toList = N at *
  obtain ⟨n, rfl⟩ := Int.eq_ofNat_of_zero_le hu.1
  have hn : n < 18446744073709551616 := by have := hu.2; omega
  rw [Int.toNat_natCast] at htag
  have HT := Lib.hid htag
  have HB := Lib.hid hb
  have HN := Lib.hid hn
  clear hu htag hb hn
  go_loopw [16] (fun v wr => TagRel W w2.heap.size n v wr) (fun v _ => 16 - (intOf v).toNat)
  case atStart => exact ⟨0, by omega, rfl, Blk.new w2 _ _, HB.out.alloc HB.out.size _⟩
  case round =>
    obtain ⟨i, hi, rfl, hba, hbl⟩ := hrel
    have HBA := Lib.hid hba
    have HBL := Lib.hid hbl
    clear hba hbl
    by_cases hlt : i < 16
    · obtain ⟨d, hd⟩ : ∃ d, d = n / 16 ^ (15 - i) % 16 := ⟨_, rfl⟩
      have hd16 : d < 16 := by omega
      have hand : bits .and .u64 ((n : Int) / 2 ^ (60 - 4 * i)) 15 = (d : Int) := by
        have e1 : ((n : Int) / 2 ^ (60 - 4 * i)) = ((n / 2 ^ (60 - 4 * i) : Nat) : Int) := by simp
        rw [e1, and15 _ (Nat.lt_of_le_of_lt (Nat.div_le_self _ _) HN.out), hd, pow16, show 4 * (15 - i) = 60 - 4 * i from by omega]
      have hix : ∀ w : World, (Instr.index 9 (.string ⟨#[48, 49, 50, 51, 52, 53, 54, 55, 56, 57, 97, 98, 99, 100, 101, 102]⟩) (.int .u64 (d : Int))).run Tryz.prog w = .ok (.int .u8 ((dig d).toNat : Int)) w := tab_index d hd16
      have HD := Lib.hid hd
      clear hd HN HT
      have hlen : (tagSt n i).length = 16 := by unfold tagSt; rw [List.length_append, List.length_take, hexN_length, List.length_replicate]; omega
      have hcell := HBA.out.cell i (by omega)
      unfold byteV at hcell
      generalize ((tagSt n i)[i]'(by omega)).toNat = z at hcell
      have hfr := Blk.frozen HBA.out i
      clear hlen
      go_wp2_with fail
      refine ⟨⟨i + 1, by omega, by go_num, ?_, HBL.out.setCell (p := ⟨w2.heap.size, i, none⟩) HB.out.size _⟩, by simp [intOf]; omega⟩
      have h1 := HBA.out.set_ i (dig d)
      rw [HD.out, set_tag n i hlt, ← HD.out] at h1
      exact h1
    · obtain rfl : i = 16 := by omega
      have hfull : tagSt n 16 = hexN 16 n := by
        unfold tagSt
        rw [List.take_of_length_le (by rw [hexN_length]; exact Nat.le_refl _), Nat.sub_self, List.replicate_zero, List.append_nil]
      have hstr := HBA.out.string (P := Tryz.prog) 113 9 5 Tryz.underlying113 Tryz.underlying5 Tryz.underlying9 0 16 16 (by rw [hfull, hexN_length])
      rw [hfull, List.drop_zero] at hstr
      clear hfull
      generalize hexN 16 n = H at *
      have ht := HT.out
      subst ht
      clear HT
      go_wp2_with fail
      go_ret
      exact ⟨rfl, HBL.out⟩
end Go.Proofs.YtdogilbnbbeljaaGreatDoor
