/-
  The tag, by the reference's text: FormatUint at base 16.
-/
import Derived.Test.YtckohmhhcknmaaaGreatDoorP05
namespace Go.Proofs.YtckohmhhcknmaaaGreatDoor
open Go.RowKit

/-- the cell of the library's table that is read -/
def Tab15 (w : World) : Prop := w.cell? ⟨8, 15, none⟩ = some (.int .u8 4)
theorem Tab15.lt {w : World} (h : Tab15 w) : 8 < w.heap.size := by
  unfold Tab15 at h
  rcases Nat.lt_or_ge 8 w.heap.size with h' | h'
  · exact h'
  · simp [World.cell?, Array.getElem?_eq_none h'] at h
theorem Tab15.below {B : Nat} {w w' : World} (h : Tab15 w) (hb : Below B w w') (hB : 8 < B) : Tab15 w' := by
  unfold Tab15 at *; rw [hb.cell (p := ⟨8, 15, none⟩) hB]; exact h

theorem pow2_16 (w : World) : Calls Tryz.prog 241 #[.int .i64 16] w fun e w' => e = .returned (.bool true) ∧ w = w' := by
  have h : bits .and .i64 16 15 = 0 := by decide
  go_enter Tryz.func241, Tryz.ntmps241
  go_wp2
  go_ret
  exact ⟨rfl, rfl⟩

theorem tz64_16 (w : World) (hT : Tab15 w) : Calls Tryz.prog 257 #[.int .u64 16] w fun e w' => e = .returned (.int .i64 4) ∧ w = w' := by
  unfold Tab15 at hT
  have h1 : bits .and .u64 16 (IntKind.u64.wrap (-16)) = 16 := by decide
  have h2 : IntKind.u64.wrap (16 * 285870213051353865) / 288230376151711744 = 15 := by decide
  have h3 : IntKind.u64.wrap 4573923408821661840 / 288230376151711744 = 15 := by decide
  go_enter Tryz.func257, Tryz.ntmps257
  go_wp2
  go_ret
  exact ⟨rfl, rfl⟩

theorem tz_16 (w : World) (hT : Tab15 w) : Calls Tryz.prog 242 #[.int .u64 16] w fun e w' => e = .returned (.int .i64 4) ∧ w = w' := by
  have HT := Lib.hid hT
  clear hT
  go_enter Tryz.func242, Tryz.ntmps242
  go_wp2_with (go_at_call 257; refine (tz64_16 _ HT.out).mono ?_; rintro e w1 ⟨rfl, rfl⟩)
  go_ret
  exact ⟨rfl, rfl⟩

theorem tab36_at (d : Nat) (hd : d < 16) : Value.int .u8 (((⟨#[48, 49, 50, 51, 52, 53, 54, 55, 56, 57, 97, 98, 99, 100, 101, 102, 103, 104, 105, 106, 107, 108, 109, 110, 111, 112, 113, 114, 115, 116, 117, 118, 119, 120, 121, 122]⟩ : ByteArray)[d]'(Nat.lt_of_lt_of_le hd (by decide))).toNat : Int) = byteV (dig d) := by
  have h : d = 0 ∨ d = 1 ∨ d = 2 ∨ d = 3 ∨ d = 4 ∨ d = 5 ∨ d = 6 ∨ d = 7 ∨ d = 8 ∨ d = 9 ∨ d = 10 ∨ d = 11 ∨ d = 12 ∨ d = 13 ∨ d = 14 ∨ d = 15 := by omega
  rcases h with h | h | h | h | h | h | h | h | h | h | h | h | h | h | h | h <;> subst h <;> rfl
theorem tab36_index (d : Nat) (hd : d < 16) (w : World) : (Instr.index 9 (.string ⟨#[48, 49, 50, 51, 52, 53, 54, 55, 56, 57, 97, 98, 99, 100, 101, 102, 103, 104, 105, 106, 107, 108, 109, 110, 111, 112, 113, 114, 115, 116, 117, 118, 119, 120, 121, 122]⟩) (.int .u64 (d : Int))).run Tryz.prog w = .ok (.int .u8 ((dig d).toNat : Int)) w := by
  have hs : (⟨#[48, 49, 50, 51, 52, 53, 54, 55, 56, 57, 97, 98, 99, 100, 101, 102, 103, 104, 105, 106, 107, 108, 109, 110, 111, 112, 113, 114, 115, 116, 117, 118, 119, 120, 121, 122]⟩ : ByteArray).size = 36 := rfl
  rw [run_index_string w 9 _ .u64 (d : Int) Tryz.underlying9, dif_pos ⟨by omega, by rw [hs]; omega⟩]
  have h1 := tab36_at d hd
  unfold byteV at h1
  rw [← h1]
  rfl

def fmtSt (n j : Nat) : List UInt8 := List.replicate (65 - j) 0 ++ hexN j n
theorem fmtSt_length (n j : Nat) (h : j ≤ 65) : (fmtSt n j).length = 65 := by
  unfold fmtSt; rw [List.length_append, List.length_replicate, hexN_length]; omega
theorem fmtSt_set (n j : Nat) (h : j < 65) : (fmtSt n j).set (64 - j) (dig (n / 16 ^ j % 16)) = fmtSt n (j + 1) := by
  unfold fmtSt
  rw [hexN_cons, show 65 - j = (64 - j) + 1 from by omega, show 65 - (j + 1) = 64 - j from by omega, List.replicate_succ', List.append_assoc,
    List.set_append_right _ _ (by rw [List.length_replicate]; omega), List.length_replicate, Nat.sub_self]
  rfl
def FmtRel (W : World) (g n : Nat) (u i : Value) (w : World) : Prop :=
  ∃ j k m : Nat, j ≤ 15 ∧ i = .int .i64 k ∧ k = 65 - j ∧ u = .int .u64 m ∧ m = n / 16 ^ j ∧ BA w g 315 (fmtSt n j) ∧ Below W.heap.size W w

theorem slice65 (k g : Nat) (hk : k ≤ 64) (w : World) : (Instr.sliceAt 315 (.pointer (some ⟨g, 0, none⟩)) (some (.int .i64 (k : Int))) none none).run Tryz.prog w = .ok (.slice (some ⟨g, k, none⟩) (65 - k) (65 - k)) w := by
  have hal : Tryz.prog.arrayLen 315 = 65 := by kernel_rfl
  have hel : (sizeOf (Tryz.prog.elem 315)).run Tryz.prog w = .ok 1 w := by kernel_rfl
  have hun : Tryz.prog.underlying 315 = some (.array (Tryz.prog.arrayLen 315) (Tryz.prog.elem 315)) := by kernel_rfl
  rw [run_sliceAt_array_l w 315 ⟨g, 0, none⟩ hun .i64 (k : Int) (by omega) (by rw [hal]; omega), hel, hal]
  have h1 : ¬ 65 = k := by omega
  simp only [Result.andThen, slicedAt, Int.toNat_natCast, h1, if_false, Nat.mul_one]
  unfold Addr.add
  by_cases h0 : k = 0
  · subst h0; rfl
  · rw [if_neg h0]; simp

theorem j_small (n j : Nat) (hn : n < 18446744073709551616) (h : 16 ≤ n / 16 ^ j) : j ≤ 14 := by
  rcases Nat.lt_or_ge 14 j with h1 | h1
  · have h2 : (16 : Nat) ^ 15 ≤ 16 ^ j := Nat.pow_le_pow_right (by omega) h1
    have h3 : n / 16 ^ j ≤ n / 16 ^ 15 := Nat.div_le_div_left h2 (Nat.pow_pos (by omega))
    have h4 : n / 16 ^ 15 < 16 := by rw [Nat.div_lt_iff_lt_mul (Nat.pow_pos (by omega))]; omega
    omega
  · exact h1
theorem lt_pow_of (n j : Nat) (h : n / 16 ^ j < 16) : n < 16 ^ (j + 1) := by
  rw [Nat.div_lt_iff_lt_mul (Nat.pow_pos (by omega))] at h
  rw [Nat.pow_succ]; omega

set_option maxRecDepth 100000 in
set_option maxHeartbeats 1000000 in
theorem format_bits (n : Nat) (W : World) (hn : n < 18446744073709551616) (hT : Tab15 W) :
    Calls Tryz.prog 194 #[.slice none 0 0, .int .u64 n, .int .i64 16, .bool false, .bool false] W fun e w' =>
      (∃ k, 1 ≤ k ∧ k ≤ 16 ∧ n < 16 ^ k ∧ e = .returned (.tuple #[.slice none 0 0, .string ⟨(hexN k n).toArray⟩])) ∧ Below W.heap.size W w' := by
  have HT := Lib.hid hT
  have HN := Lib.hid hn
  clear hT hn
  go_enter Tryz.func194, Tryz.ntmps194
  go_wp2_with (first
    | (go_at_call 241; refine (pow2_16 _).mono ?_; rintro e w1 ⟨rfl, rfl⟩)
    | (go_at_call 242; refine (tz_16 _ (HT.out.below ((Below.refl _ _).alloc (Nat.le_refl _) _) HT.out.lt)).mono ?_; rintro e w1 ⟨rfl, rfl⟩))
  go_loopw [1, 13] (fun u i wr => FmtRel W W.heap.size n u i wr) (fun u _ _ => (intOf u).toNat)
  case atStart => exact ⟨0, 65, n, by omega, rfl, rfl, rfl, by simp, Blk.new W _ _, (Below.refl _ _).alloc (Nat.le_refl _) _⟩
  case round =>
    obtain ⟨j, k, m, hj, rfl, hk, rfl, hm, hba, hbl⟩ := hrel
    obtain ⟨k, rfl⟩ : ∃ k', k = k' + 1 := ⟨k - 1, by omega⟩
    have hk64 : k = 64 - j := by omega
    have hkb : k ≤ 64 := by omega
    have HJ := Lib.hid hj
    have HK := Lib.hid hk64
    have HM := Lib.hid hm
    have HBA := Lib.hid hba
    have HBL := Lib.hid hbl
    have hm64 : m < 18446744073709551616 := by rw [hm]; exact Nat.lt_of_le_of_lt (Nat.div_le_self _ _) HN.out
    obtain ⟨d, hd⟩ : ∃ d, d = m % 16 := ⟨_, rfl⟩
    have hd16 : d < 16 := by omega
    have hand : bits .and .u64 (m : Int) 15 = (d : Int) := by rw [and15 _ hm64, hd]
    have hix : ∀ w : World, (Instr.index 9 (.string ⟨#[48, 49, 50, 51, 52, 53, 54, 55, 56, 57, 97, 98, 99, 100, 101, 102, 103, 104, 105, 106, 107, 108, 109, 110, 111, 112, 113, 114, 115, 116, 117, 118, 119, 120, 121, 122]⟩) (.int .u64 (d : Int))).run Tryz.prog w = .ok (.int .u8 ((dig d).toNat : Int)) w := tab36_index d hd16
    have HD := Lib.hid hd
    have hlen := fmtSt_length n j (by omega)
    have hcell := hba.cell k (by omega)
    unfold byteV at hcell
    generalize ((fmtSt n j)[k]'(by omega)).toNat = z at hcell
    have hfr := Blk.frozen hba k
    clear hk hk64 hj hm hba hbl hd hlen
    by_cases h16 : 16 ≤ m
    · have hj14 : j ≤ 14 := j_small n j HN.out (by rw [← HM.out]; exact h16)
      clear hm64
      go_wp2_with fail
      refine ⟨⟨j + 1, k, m / 16, by omega, rfl, by rw [HK.out]; omega, by simp, by rw [HM.out, Nat.div_div_eq_div_mul, Nat.pow_succ], ?_, HBL.out.setCell (p := ⟨W.heap.size, k, none⟩) (Nat.le_refl _) _⟩, by simp [intOf]; omega⟩
      have h1 := HBA.out.set_ k (dig d)
      rw [HD.out, HM.out, HK.out, fmtSt_set n j (by omega), ← HM.out, ← HD.out] at h1
      rw [HK.out]
      exact h1
    · clear hm64 hand hix HD d hd16
      have hm16 : m < 16 := by omega
      have hix : ∀ w : World, (Instr.index 9 (.string ⟨#[48, 49, 50, 51, 52, 53, 54, 55, 56, 57, 97, 98, 99, 100, 101, 102, 103, 104, 105, 106, 107, 108, 109, 110, 111, 112, 113, 114, 115, 116, 117, 118, 119, 120, 121, 122]⟩) (.int .u64 (m : Int))).run Tryz.prog w = .ok (.int .u8 ((dig m).toNat : Int)) w := tab36_index m hm16
      have hBA2 : BA (wr.setCell ⟨W.heap.size, k, none⟩ (.int .u8 ((dig m).toNat : Int))) W.heap.size 315 (fmtSt n (j + 1)) := by
        have h1 := HBA.out.set_ k (dig m)
        have h2 : m = n / 16 ^ j % 16 := by rw [← HM.out]; omega
        rw [show dig m = dig (n / 16 ^ j % 16) from by rw [← h2], HK.out, fmtSt_set n j (by have := HJ.out; omega), ← h2, ← HK.out] at h1
        exact h1
      have hstr := hBA2.string (P := Tryz.prog) 206 9 5 Tryz.underlying206 Tryz.underlying5 Tryz.underlying9 k (65 - k) (65 - k) (by rw [fmtSt_length n (j + 1) (by have := HJ.out; omega)]; omega)
      rw [show (fmtSt n (j + 1)).drop k = hexN (j + 1) n from by
        rw [HK.out]; unfold fmtSt
        rw [List.drop_append_of_le_length (by rw [List.length_replicate]; omega), List.drop_of_length_le (by rw [List.length_replicate]; omega), List.nil_append]] at hstr
      have hlt := lt_pow_of n j (by rw [← HM.out]; exact hm16)
      have HLT := Lib.hid hlt
      clear hBA2 hlt
      obtain ⟨H, hH⟩ : ∃ H, H = hexN (j + 1) n := ⟨_, rfl⟩
      rw [← hH] at hstr
      have HH := Lib.hid hH
      clear hH
      have hsl := slice65 k W.heap.size hkb
      go_wp2_with fail
      go_ret2
      exact ⟨⟨j + 1, by omega, by have := HJ.out; omega, HLT.out, by rw [← HH.out]; rfl⟩, HBL.out.setCell (p := ⟨W.heap.size, k, none⟩) (Nat.le_refl _) _⟩

theorem format_uint (n : Nat) (W : World) (hn : n < 18446744073709551616) (hT : Tab15 W) :
    Calls Tryz.prog 151 #[.int .u64 n, .int .i64 16] W fun e w' =>
      (∃ k, 1 ≤ k ∧ k ≤ 16 ∧ n < 16 ^ k ∧ e = .returned (.string ⟨(hexN k n).toArray⟩)) ∧ Below W.heap.size W w' := by
  have inner : Calls Tryz.prog 182 #[.int .u64 n, .int .i64 16] W fun e w' =>
      (∃ k, 1 ≤ k ∧ k ≤ 16 ∧ n < 16 ^ k ∧ e = .returned (.string ⟨(hexN k n).toArray⟩)) ∧ Below W.heap.size W w' := by
    have HF := Lib.hid (format_bits n W hn hT)
    clear hn hT
    go_enter Tryz.func182, Tryz.ntmps182
    go_wp2_with (go_at_call 194; refine HF.out.mono ?_; rintro e w1 ⟨⟨k, k1, k2, k3, rfl⟩, hb⟩)
    go_ret
    exact ⟨⟨k, k1, k2, k3, rfl⟩, hb⟩
  have HF := Lib.hid inner
  clear inner hn hT
  go_enter Tryz.func151, Tryz.ntmps151
  go_wp2_with (go_at_call 182; refine HF.out.mono ?_; rintro e w1 ⟨⟨k, k1, k2, k3, rfl⟩, hb⟩)
  go_ret
  exact ⟨⟨k, k1, k2, k3, rfl⟩, hb⟩
end Go.Proofs.YtckohmhhcknmaaaGreatDoor

/-
  The sum, by the reference's text: its rounds.
-/
namespace Go.Proofs.YtckohmhhcknmaaaGreatDoor
open Go.RowKit

def SipRel (W : World) (s : S4) (n : Nat) (a b c d i : Value) (w : World) : Prop :=
  ∃ k : Nat, k ≤ n ∧ i = .int .i64 k ∧ a = .int .u64 (roundN s k).a ∧ b = .int .u64 (roundN s k).b ∧ c = .int .u64 (roundN s k).c ∧ d = .int .u64 (roundN s k).d ∧ Below W.heap.size W w ∧ (∃ cs, Blk w (W.heap.size + 1) 247 cs ∧ cs.size = 4)

theorem SipRel.step {W wr : World} {s : S4} (n k : Nat) (h : k < n) (m : Nat) (hb : Below W.heap.size W wr) (hc : ∃ cs, Blk wr (W.heap.size + 1) 247 cs ∧ cs.size = 4) {S : S4} (e : S = roundN s k) :
    SipRel W s n (.int .u64 (ad (rotl (ad S.a S.b) 32) (bx (rotl S.d 16) (ad S.c S.d)))) (.int .u64 (bx (rotl (bx (rotl S.b 13) (ad S.a S.b)) 17) (ad (ad S.c S.d) (bx (rotl S.b 13) (ad S.a S.b)))))
      (.int .u64 (rotl (ad (ad S.c S.d) (bx (rotl S.b 13) (ad S.a S.b))) 32)) (.int .u64 (bx (rotl (bx (rotl S.d 16) (ad S.c S.d)) 21) (ad (rotl (ad S.a S.b) 32) (bx (rotl S.d 16) (ad S.c S.d))))) (.int .i64 ((k : Int) + 1)) (wr.drewN m) := by
  subst e
  exact ⟨k + 1, h, by go_num, rfl, rfl, rfl, rfl, below_drewN hb m, hc⟩

set_option maxRecDepth 100000 in
set_option maxHeartbeats 1000000 in
theorem ref_rounds (s : S4) (hs : s.ok) (n : Nat) (hn : n ≤ 100) (W : World) :
    Calls Tryz.prog 181 #[.agg s.cells, .int .i64 n] W fun e w' => e = .returned (.agg (roundN s n).cells) ∧ Below W.heap.size W w' := by
  obtain ⟨a, b, c, d⟩ := s
  have HS := Lib.hid hs
  clear hs
  unfold S4.cells
  go_enter Tryz.func181, Tryz.ntmps181
  go_wp2_with fail
  go_quiet (fail)
  go_wp2_with fail
  go_loopw [5, 6, 7, 8, 18] (fun v5 v6 v7 v8 i wr => SipRel W ⟨a, b, c, d⟩ n v5 v6 v7 v8 i wr) (fun _ _ _ _ i _ => n - (intOf i).toNat)
  case atStart => exact ⟨0, by omega, rfl, rfl, rfl, rfl, rfl, below_drewN (((Below.refl _ _).alloc (Nat.le_refl _) _).alloc (by simp) _) _, ⟨_, by simpa using ((Blk.new (W.alloc (.cells #[.int .u64 a, .int .u64 b, .int .u64 c, .int .u64 d] 247)) 247 #[.int .u64 0, .int .u64 0, .int .u64 0, .int .u64 0]).drewN _), rfl⟩⟩
  case round =>
    obtain ⟨k, hk, rfl, rfl, rfl, rfl, rfl, hb, cs, hcs, hsz⟩ := hrel
    have hok := roundN_ok _ HS.out k
    have HB := Lib.hid hb
    have HC := Lib.hid hcs
    by_cases hlt : k < n
    · obtain ⟨S, hS⟩ : ∃ S : S4, S = roundN ⟨a, b, c, d⟩ k := ⟨_, rfl⟩
      rw [← hS] at hok ⊢
      have HE := Lib.hid hS
      have HOK := Lib.hid hok
      clear hS hok hb hcs
      go_wp2_with fail
      refine (turn_k S.b 13 _ HOK.out.2.1 (by omega) (by omega)).mono ?_
      rintro e w1 ⟨rfl, n1, rfl⟩
      go_wp2_with fail
      refine (turn_k _ 32 _ (u64_wrap _) (by omega) (by omega)).mono ?_
      rintro e w1 ⟨rfl, n2, rfl⟩
      go_wp2_with fail
      refine (turn_k S.d 16 _ HOK.out.2.2.2 (by omega) (by omega)).mono ?_
      rintro e w1 ⟨rfl, n3, rfl⟩
      go_wp2_with fail
      refine (turn_k _ 21 _ (u64_bits _ _ _ (.inr (.inl rfl))) (by omega) (by omega)).mono ?_
      rintro e w1 ⟨rfl, n4, rfl⟩
      go_wp2_with fail
      refine (turn_k _ 17 _ (u64_bits _ _ _ (.inr (.inl rfl))) (by omega) (by omega)).mono ?_
      rintro e w1 ⟨rfl, n5, rfl⟩
      go_wp2_with fail
      refine (turn_k _ 32 _ (u64_wrap _) (by omega) (by omega)).mono ?_
      rintro e w1 ⟨rfl, n6, rfl⟩
      go_wp2_with fail
      exact ⟨SipRel.step n k hlt _ HB.out ⟨cs, HC.out, hsz⟩ HE.out, by simp [intOf]; omega⟩
    · obtain rfl : k = n := by omega
      obtain ⟨l⟩ := cs
      match l, hsz with
      | [z0, z1, z2, z3], _ =>
        have c0 : wr.cell? ⟨W.heap.size + 1, 0, none⟩ = some z0 := HC.out.cell 0
        have c1 : wr.cell? ⟨W.heap.size + 1, 1, none⟩ = some z1 := HC.out.cell 1
        have c2 : wr.cell? ⟨W.heap.size + 1, 2, none⟩ = some z2 := HC.out.cell 2
        have c3 : wr.cell? ⟨W.heap.size + 1, 3, none⟩ = some z3 := HC.out.cell 3
        have f0 := HC.out.frozen 0
        have f1 := HC.out.frozen 1
        have f2 := HC.out.frozen 2
        have f3 := HC.out.frozen 3
        clear hb hcs hok
        go_wp2_with fail
        refine bodyPost_ret (v := .agg #[.int .u64 (roundN ⟨a, b, c, d⟩ k).a, .int .u64 (roundN ⟨a, b, c, d⟩ k).b, .int .u64 (roundN ⟨a, b, c, d⟩ k).c, .int .u64 (roundN ⟨a, b, c, d⟩ k).d]) (by simp [results, Tryz.results181, go_sem, c0, c1, c2, c3]) rfl ⟨rfl, ?_⟩
        exact (((HB.out.setCell (by simp) _).setCell (by simp) _).setCell (by simp) _).setCell (by simp) _
end Go.Proofs.YtckohmhhcknmaaaGreatDoor

/-
  The sum, by the reference's text.
-/
namespace Go.Proofs.YtckohmhhcknmaaaGreatDoor
open Go.RowKit

theorem info_u8 : (Tryz.prog.info? 5).map (fun i => (i.zero, i.size, i.bytes)) = some (some (.int .u8 0), 1, 1) := by kernel_rfl

/-- padded with p zeros -/
def padL (l : List UInt8) (p : Nat) : List UInt8 := l ++ List.replicate p 0
theorem padL_succ (l : List UInt8) (p : Nat) : padL l p ++ [0] = padL l (p + 1) := by
  simp [padL, List.replicate_succ', List.append_assoc]
theorem padL_length (l : List UInt8) (p : Nat) : (padL l p).length = l.length + p := by simp [padL]
def PadRel (W : World) (l : List UInt8) (v : Value) (w : World) : Prop :=
  ∃ p g cap n : Nat, v = .slice (some ⟨g, 0, none⟩) n cap ∧ n = l.length + p ∧ p ≤ (15 - l.length % 8) % 8 ∧ BSat w W.heap.size g cap (padL l p) ∧ Below W.heap.size W w

def padM : Value → Nat | .slice _ n _ => (15 - n % 8) % 8 | _ => 0

/-- the list that the reference goes through -/
def padAll (l : List UInt8) (p : Nat) : List UInt8 := padL l p ++ [UInt8.ofNat (l.length % 256)]
theorem padAll_length (l : List UInt8) (p : Nat) : (padAll l p).length = l.length + p + 1 := by simp [padAll, padL_length]
theorem chunk_of_pad (l : List UInt8) (p j : Nat) (h : 8 * j + 8 ≤ l.length) : ((padAll l p).drop (8 * j)).take 8 = (l.drop (8 * j)).take 8 := by
  unfold padAll padL
  rw [List.append_assoc, List.drop_append_of_le_length (by omega), List.take_append_of_le_length (by rw [List.length_drop]; omega)]
theorem chunkSt_pad (s0 : S4) (l : List UInt8) (p j : Nat) (h : 8 * j ≤ l.length) : chunkSt s0 (padAll l p) j = chunkSt s0 l j := by
  induction j with
  | zero => simp [chunkSt]
  | succ j ih => rw [chunkSt_succ, chunkSt_succ, ih (by omega), chunk_of_pad l p j (by omega)]
theorem last_of_pad (l : List UInt8) (p : Nat) (hp : p ≤ 7) (h : (l.length + p) % 8 = 7) : wordN (((padAll l p).drop (8 * (l.length / 8))).take 8) = lastWord l := by
  have h1 : (padAll l p).drop (8 * (l.length / 8)) = l.drop (8 * (l.length / 8)) ++ (List.replicate p 0 ++ [UInt8.ofNat (l.length % 256)]) := by
    unfold padAll padL
    rw [List.append_assoc, List.drop_append_of_le_length (by omega)]
  have hlen : ((padAll l p).drop (8 * (l.length / 8))).length = 8 := by rw [List.length_drop, padAll_length]; omega
  rw [List.take_of_length_le (by omega), h1, wordN_append, wordN_append, wordN_zeros, List.length_drop, List.length_replicate]
  unfold lastWord topW
  have h2 : wordN [UInt8.ofNat (l.length % 256)] = l.length % 256 := by
    simp [wordN]
  rw [h2, Nat.zero_add, ← Nat.mul_assoc, ← Nat.pow_add]
  have h3 : l.length - 8 * (l.length / 8) + p = 7 := by omega
  rw [h3]
  rw [pow256 7, Nat.add_comm, Nat.mul_comm]
theorem sip_of_pad (k0 k1 : Int) (l : List UInt8) (p : Nat) (hp : p ≤ 7) (h : (l.length + p) % 8 = 7) : sip k0 k1 l = sipFin (chunkSt (sipInit k0 k1) (padAll l p) ((padAll l p).length / 8)) := by
  have h1 : (padAll l p).length / 8 = l.length / 8 + 1 := by rw [padAll_length]; omega
  rw [h1, chunkSt_succ, last_of_pad l p hp h, chunkSt_pad _ _ _ _ (by omega)]
  rfl

theorem wordN_step (P : List UInt8) (i k : Nat) (h : i + k < P.length) (hk : k < 8) (h8 : ((P.drop i).take 8).length = 8) :
    IntKind.u64.wrap (IntKind.u64.wrap (((wordN (((P.drop i).take 8).drop (k + 1)) : Nat) : Int) * 256) + ((P[i + k]).toNat : Int)) = ((wordN (((P.drop i).take 8).drop k) : Nat) : Int) := by
  have hb := (P[i + k]).toNat_lt
  have h1 := horner_step ((P.drop i).take 8) k (by omega)
  have h2 : ((P.drop i).take 8)[k]'(by omega) = P[i + k] := by rw [List.getElem_take, List.getElem_drop]
  rw [h2] at h1
  have h3 := wordN_lt (((P.drop i).take 8).drop (k + 1))
  rw [List.length_drop, h8] at h3
  have h4 : (256 : Nat) ^ (8 - (k + 1)) ≤ 256 ^ 7 := Nat.pow_le_pow_right (by omega) (by omega)
  rw [h1]
  generalize wordN (((P.drop i).take 8).drop (k + 1)) = m at *
  have h5 : m < 72057594037927936 := by omega
  have e1 : IntKind.u64.wrap ((m : Int) * 256) = ((m * 256 : Nat) : Int) := by
    have := wrap_nat (m * 256) (by omega)
    rw [← this]; simp
  rw [e1]
  have e2 : ((m * 256 : Nat) : Int) + ((P[i + k]).toNat : Int) = ((m * 256 + (P[i + k]).toNat : Nat) : Int) := by simp
  rw [e2, wrap_nat _ (by omega)]
  simp; omega

section
variable {w : World} {g : Nat} {t : TypeId} {p0 p1 p2 p3 : Value}
theorem Blk.t0 (h : Blk w g t #[p0, p1, p2, p3]) (x : Value) : Blk (w.setCell ⟨g, 0, none⟩ x) g t #[x, p1, p2, p3] := h.set_ 0 x
theorem Blk.t1 (h : Blk w g t #[p0, p1, p2, p3]) (x : Value) : Blk (w.setCell ⟨g, 1, none⟩ x) g t #[p0, x, p2, p3] := h.set_ 1 x
theorem Blk.t2 (h : Blk w g t #[p0, p1, p2, p3]) (x : Value) : Blk (w.setCell ⟨g, 2, none⟩ x) g t #[p0, p1, x, p3] := h.set_ 2 x
theorem Blk.t3 (h : Blk w g t #[p0, p1, p2, p3]) (x : Value) : Blk (w.setCell ⟨g, 3, none⟩ x) g t #[p0, p1, p2, x] := h.set_ 3 x
theorem eat_ends {W : World} {B gb cap : Nat} {P : List UInt8} (h : Blk w g t #[p0, p1, p2, p3]) (hb : BSat w B gb cap P) (hl : Below W.heap.size W w) (hg : W.heap.size ≤ g) (hne : gb ≠ g) (x0 x1 x2 x3 y : Value) (w' : World)
    (e : w' = ((((w.setCell ⟨g, 0, none⟩ x0).setCell ⟨g, 1, none⟩ x1).setCell ⟨g, 2, none⟩ x2).setCell ⟨g, 3, none⟩ x3).setCell ⟨g, 0, none⟩ y) :
    BSat w' B gb cap P ∧ Blk w' g t #[y, x1, x2, x3] ∧ Below W.heap.size W w' := by
  subst e
  refine ⟨hb.only (r := some g) ?_ (by simpa using hne), ((((h.t0 x0).t1 x1).t2 x2).t3 x3).t0 y, ?_⟩
  · iterate 5 refine only_setCell ?_ (.inl rfl) _
    exact only_refl w _
  · exact ((((hl.setCell (p := ⟨g, 0, none⟩) hg _).setCell (p := ⟨g, 1, none⟩) hg _).setCell (p := ⟨g, 2, none⟩) hg _).setCell (p := ⟨g, 3, none⟩) hg _).setCell (p := ⟨g, 0, none⟩) hg _
end

def EatRel (W : World) (s0 : S4) (B g cap gv : Nat) (P : List UInt8) (i : Value) (w : World) : Prop :=
  ∃ i' j : Nat, i = .int .i64 i' ∧ i' = 8 * j ∧ i' ≤ P.length ∧ BSat w B g cap P ∧ Blk w gv 247 (chunkSt s0 P j).cells ∧ Below W.heap.size W w

set_option maxRecDepth 100000 in
set_option maxHeartbeats 1000000 in
theorem ref_sum (k0 k1 : Int) (s : ByteArray) (W : World) (hs : s.size ≤ 1000000) :
    Calls Tryz.prog 149 #[.int .u64 k0, .int .u64 k1, .string s] W fun e w' => e = .returned (.int .u64 (sip k0 k1 s.data.toList)) ∧ Below W.heap.size W w' := by
  obtain ⟨i0, hi, hz0, hz1, hz2⟩ := info_parts info_u8
  have hconv := Lib.run_convert_string_bytes (P := Tryz.prog) W 9 206 5 s Tryz.underlying9 Tryz.underlying206 Tryz.underlying5
  have hbs := BS.conv W 5 s (by omega)
  have hbl := below_conv W 5 s
  generalize Lib.bytesWorld W 5 s = w0 at *
  have HI := Lib.hid hi
  have HZ0 := Lib.hid hz0
  have HZ1 := Lib.hid hz1
  have HZ2 := Lib.hid hz2
  have HBS := Lib.hid hbs
  have HBL := Lib.hid hbl
  clear hi hz0 hz1 hz2 hbs hbl
  go_enter Tryz.func149, Tryz.ntmps149
  go_wp2_with fail
  go_loopw [7] (fun v wr => PadRel W s.data.toList v wr) (fun v _ => padM v)
  case atStart =>
    obtain ⟨g, cap, hv, hb⟩ := HBS.out
    exact ⟨0, g, cap, s.size, hv, rfl, by omega, by simpa [padL] using hb, HBL.out⟩
  case round =>
    obtain ⟨p, g, cap, n, rfl, hn, hp, hb, hbl⟩ := hrel
    have hp8 : p ≤ 7 := by omega
    have hl : s.data.toList.length = s.size := rfl
    have hns : n ≤ 1000008 := by omega
    have HB := Lib.hid hb
    have HL := Lib.hid hbl
    have HN := Lib.hid hn
    have HP := Lib.hid hp
    clear hb hbl hn hl hp
    by_cases h7 : n % 8 = 7
    · have ht : ((n : Int) % 8 != 7) = false := by simp; omega
      have H7 := Lib.hid h7
      clear h7
      have hby : ((UInt8.ofNat (s.size % 256)).toNat : Int) = (s.size : Int) % 256 := by simp
      have HBY := Lib.hid hby
      clear hby
      go_wp2_with (at_builtin; refine wpList_append_byte rfl _ _ 206 rfl 5 i0 Tryz.underlying206 HI.out HZ0.out HZ1.out HZ2.out (B := W.heap.size) (l := padL s.data.toList p) (v := .slice (some ⟨g, 0, none⟩) n cap) rfl ?hbs ⟨wr.heap.size, 0, none⟩ 1 (UInt8.ofNat (s.size % 256)) rfl ?hbb ?hbn ?hbB ?hbK)
      case hbs => exact (HB.out.bs n (by rw [HN.out, padL_length])).alloc _
      case hbb => rw [HBY.out]; simp
      case hbn => rw [padL_length]; have := HN.out; omega
      case hbB => have := HL.out.size; simp; omega
      case hbK =>
        rintro v' w' ⟨g', cap', rfl, hb'⟩ hbl'
        have hl : s.data.toList.length = s.size := rfl
        have hsip := sip_of_pad k0 k1 s.data.toList p hp8 (by rw [← HN.out]; exact H7.out)
        have hPl := padAll_length s.data.toList p
        have hP : padL s.data.toList p ++ [UInt8.ofNat (s.size % 256)] = padAll s.data.toList p := rfl
        rw [hP] at hb' ⊢
        generalize padAll s.data.toList p = P at *
        have hq8 : P.length % 8 = 0 := by rw [hPl, ← HN.out]; have := H7.out; omega
        have hqm : P.length ≤ 1000009 := by rw [hPl, ← HN.out]; omega
        have HSIP := Lib.hid hsip
        have HQ8 := Lib.hid hq8
        have HB' := Lib.hid hb'
        have HL' := Lib.hid ((HL.out.alloc HL.out.size (.cells #[.int .u8 ((s.size : Int) % 256)] 5)).trans hbl')
        obtain ⟨q, hq⟩ : ∃ q, q = P.length := ⟨_, rfl⟩
        rw [← hq] at hqm ⊢
        have HQ := Lib.hid hq
        clear hsip hPl hP hq8 hb' hbl' hq hl HB HL HN HP H7 HBY
        go_wp2_with fail
        go_loopw [9] (fun i wr2 => EatRel W (sipInit k0 k1) W.heap.size g' cap' w'.heap.size P i wr2) (fun i _ => q - (intOf i).toNat)
        case atStart => exact ⟨0, 0, rfl, rfl, by omega, HB'.out.alloc _, Blk.new w' _ _, HL'.out.alloc HL'.out.size _⟩
        case round =>
          obtain ⟨i, j, rfl, hij, hiq, hb, hk, hbl⟩ := hrel
          have HIJ := Lib.hid hij
          have HB2 := Lib.hid hb
          have HK2 := Lib.hid hk
          have HL2 := Lib.hid hbl
          have hok := chunkSt_ok _ (sipInit_ok k0 k1) P j
          have HOK := Lib.hid hok
          have hiq' : i ≤ q := by rw [HQ.out]; exact hiq
          clear hij hb hk hbl hok hiq
          by_cases hlt : i < q
          · have hi8 : i + 8 ≤ q := by have := HQ8.out; have := HIJ.out; have := HQ.out; omega
            have hc8 : ((P.drop i).take 8).length = 8 := by rw [List.length_take, List.length_drop]; have := HQ.out; omega
            have HC8 := Lib.hid hc8
            clear hc8
            go_wp2_with fail
            go_loop [10, 11] (fun m kk => ∃ z : Int, -1 ≤ z ∧ z ≤ 7 ∧ kk = .int .i64 z ∧ m = .int .u64 ((wordN (((P.drop i).take 8).drop (z + 1).toNat) : Nat) : Int)) (fun _ kk => (intOf kk + 1).toNat)
            case atStart => exact ⟨7, by omega, by omega, rfl, by rw [List.drop_of_length_le (by rw [HC8.out]; decide)]; rfl⟩
            case round =>
              obtain ⟨z, hz1, hz7, rfl, rfl⟩ := hrel
              by_cases hz0 : 0 ≤ z
              · obtain ⟨k, rfl⟩ := Int.eq_ofNat_of_zero_le hz0
                have hk8 : k < 8 := by omega
                have hik : i + k < P.length := by have := HQ.out; omega
                have hcell := HB2.out.bytes (i + k) hik
                have hbt := (P[i + k]).toNat_lt
                have hw := wordN_step P i k hik hk8 HC8.out
                have HW := Lib.hid hw
                clear hz0 hz1 hz7 hw
                go_wp2_with fail
                exact ⟨⟨(k : Int) - 1, by omega, by omega, rfl, by rw [HW.out, show ((k : Int) - 1 + 1).toNat = k from by omega]⟩, by simp [intOf] <;> omega⟩
              · obtain rfl : z = -1 := by omega
                have hmm : (((P.drop i).take 8).drop ((-1 : Int) + 1).toNat) = (P.drop (8 * j)).take 8 := by rw [HIJ.out]; rfl
                rw [hmm]
                have hstep := chunkSt_succ (sipInit k0 k1) P j
                have HST := Lib.hid hstep
                generalize wordN ((P.drop (8 * j)).take 8) = m at *
                generalize chunkSt (sipInit k0 k1) P j = S at *
                clear hmm hstep hz1 hz7 hz0
                have b0 : Blk wr w'.heap.size 247 #[.int .u64 S.a, .int .u64 S.b, .int .u64 S.c, .int .u64 S.d] := HK2.out
                have B0 := Lib.hid b0
                have c0 := b0.c0
                have c1 := b0.c1
                have c2 := b0.c2
                have c3 := b0.c3
                have f3 := b0.frozen 3
                clear b0
                go_wp2_with fail
                refine (ref_rounds ⟨S.a, S.b, S.c, bx S.d m⟩ ⟨HOK.out.1, HOK.out.2.1, HOK.out.2.2.1, u64_bx _ _⟩ 2 (by omega) _).mono ?_
                rintro e w1 ⟨rfl, hb1⟩
                have hB1 : Blk w1 w'.heap.size 247 #[.int .u64 S.a, .int .u64 S.b, .int .u64 S.c, .int .u64 (bx S.d m)] := Blk.below' (B0.out.set_ 3 (.int .u64 (bx S.d m))) hb1
                have hL1 : Below W.heap.size W w1 := (HL2.out.setCell (p := ⟨w'.heap.size, 3, none⟩) HL'.out.size _).trans (hb1.mono (by simpa [World.setCell] using HL2.out.size))
                have hB2 : BSat w1 W.heap.size g' cap' P := (HB2.out.only (only_setCell (only_refl wr (some w'.heap.size)) (p := ⟨w'.heap.size, 3, none⟩) (.inl rfl) (.int .u64 (bx S.d m))) (by have := HB'.out.lt; simp; omega)).below hb1
                have HB1 := Lib.hid hB1
                have HL1 := Lib.hid hL1
                have HBS1 := Lib.hid hB2
                have d0 := hB1.c0
                have d1 := hB1.c1
                have d2 := hB1.c2
                have d3 := hB1.c3
                have f0 := hB1.frozen 0
                have f1 := hB1.frozen 1
                have f2 := hB1.frozen 2
                have f3' := hB1.frozen 3
                clear hB1 hL1 hB2 c0 c1 c2 c3 f3 hb1
                obtain ⟨R, hR⟩ : ∃ R : S4, R = roundN ⟨S.a, S.b, S.c, bx S.d m⟩ 2 := ⟨_, rfl⟩
                rw [← hR, show R.cells = #[.int .u64 R.a, .int .u64 R.b, .int .u64 R.c, .int .u64 R.d] from rfl]
                have HR := Lib.hid hR
                clear hR
                have hend : (S4.eat S m).cells = #[.int .u64 (bx R.a m), .int .u64 R.b, .int .u64 R.c, .int .u64 R.d] := by rw [HR.out]; rfl
                have HE := Lib.hid hend
                clear hend
                go_wp2_with fail
                have E := eat_ends HB1.out HBS1.out HL1.out HL'.out.size (by have := HB'.out.lt; omega) (.int .u64 R.a) (.int .u64 R.b) (.int .u64 R.c) (.int .u64 R.d) (.int .u64 (bx R.a m)) _ rfl
                refine ⟨⟨i + 8, j + 1, by go_num, by rw [HIJ.out]; omega, by rw [← HQ.out]; exact hi8, E.1, ?_, E.2.2⟩, by simp [intOf]; omega⟩
                rw [HST.out, HE.out]
                exact E.2.1
          · have hjq : j = P.length / 8 := by have := HIJ.out; have := HQ.out; omega
            have HS2 : sip k0 k1 s.data.toList = sipFin (chunkSt (sipInit k0 k1) P j) := by rw [HSIP.out, hjq]
            have HS3 := Lib.hid HS2
            clear HS2 hjq
            generalize chunkSt (sipInit k0 k1) P j = S at *
            have b0 : Blk wr w'.heap.size 247 #[.int .u64 S.a, .int .u64 S.b, .int .u64 S.c, .int .u64 S.d] := HK2.out
            have B0 := Lib.hid b0
            have c0 := b0.c0
            have c1 := b0.c1
            have c2 := b0.c2
            have c3 := b0.c3
            have f2 := b0.frozen 2
            clear b0
            go_wp2_with fail
            refine (ref_rounds ⟨S.a, S.b, bx S.c 255, S.d⟩ ⟨HOK.out.1, HOK.out.2.1, u64_bx _ _, HOK.out.2.2.2⟩ 4 (by omega) _).mono ?_
            rintro e w1 ⟨rfl, hb1⟩
            have hB1 : Blk w1 w'.heap.size 247 #[.int .u64 S.a, .int .u64 S.b, .int .u64 (bx S.c 255), .int .u64 S.d] := Blk.below' (B0.out.set_ 2 (.int .u64 (bx S.c 255))) hb1
            have hL1 : Below W.heap.size W w1 := (HL2.out.setCell (p := ⟨w'.heap.size, 2, none⟩) HL'.out.size _).trans (hb1.mono (by simpa [World.setCell] using HL2.out.size))
            have HL1 := Lib.hid hL1
            have d0 := hB1.c0
            have d1 := hB1.c1
            have d2 := hB1.c2
            have d3 := hB1.c3
            have f0 := hB1.frozen 0
            have f1 := hB1.frozen 1
            have f2' := hB1.frozen 2
            have f3' := hB1.frozen 3
            clear hB1 hL1 c0 c1 c2 c3 f2 hb1
            obtain ⟨R, hR⟩ : ∃ R : S4, R = roundN ⟨S.a, S.b, bx S.c 255, S.d⟩ 4 := ⟨_, rfl⟩
            rw [← hR, show R.cells = #[.int .u64 R.a, .int .u64 R.b, .int .u64 R.c, .int .u64 R.d] from rfl]
            have hfin : sip k0 k1 s.data.toList = bx (bx (bx R.a R.b) R.c) R.d := by rw [HS3.out, hR]; rfl
            have HF := Lib.hid hfin
            clear hfin hR
            go_wp2_with fail
            go_ret
            refine ⟨by rw [HF.out]; rfl, ?_⟩
            exact (((HL1.out.setCell (p := ⟨w'.heap.size, 0, none⟩) HL'.out.size _).setCell (p := ⟨w'.heap.size, 1, none⟩) HL'.out.size _).setCell (p := ⟨w'.heap.size, 2, none⟩) HL'.out.size _).setCell (p := ⟨w'.heap.size, 3, none⟩) HL'.out.size _
    · have ht : ((n : Int) % 8 != 7) = true := by simp; omega
      have H7 := Lib.hid h7
      clear h7
      go_wp2_with (at_builtin; refine wpList_append_byte rfl _ _ 206 rfl 5 i0 Tryz.underlying206 HI.out HZ0.out HZ1.out HZ2.out (B := W.heap.size) (l := padL s.data.toList p) (v := .slice (some ⟨g, 0, none⟩) n cap) rfl ?hbs ⟨wr.heap.size, 0, none⟩ 1 0 rfl ?hbb ?hbn ?hbB ?hbK)
      case hbs => exact (HB.out.bs n (by rw [HN.out, padL_length])).alloc _
      case hbb => simp
      case hbn => rw [padL_length]; have := HN.out; omega
      case hbB => have := HL.out.size; simp; omega
      case hbK =>
        rintro v' w' ⟨g', cap', rfl, hb'⟩ hbl'
        have HB' := Lib.hid hb'
        have HL' := Lib.hid ((HL.out.alloc HL.out.size _).trans hbl')
        clear hb' hbl'
        go_wp2_with fail
        have hl : s.data.toList.length = s.size := rfl
        refine ⟨⟨p + 1, g', cap', _, rfl, ?_, ?_, ?_, HL'.out⟩, ?_⟩
        · rw [List.length_append, padL_length]; rfl
        · have := HN.out; have := H7.out; have := HP.out; omega
        · rw [← padL_succ]; exact HB'.out
        · simp only [padM]
          rw [List.length_append, padL_length, List.length_singleton]
          have := HN.out; have := H7.out; omega
end Go.Proofs.YtckohmhhcknmaaaGreatDoor
