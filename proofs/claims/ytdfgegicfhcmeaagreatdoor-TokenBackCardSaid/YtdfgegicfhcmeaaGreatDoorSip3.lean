/-
  The sum, by the program's text: whole.
-/
import Derived.Test.YtdfgegicfhcmeaaGreatDoorSip2
import Derived.Test.YtdfgegicfhcmeaaGreatDoorSipPure
namespace Go.Proofs.YtdfgegicfhcmeaaGreatDoor
open Go.RowKit

def sipInit (k0 k1 : Int) : S4 := ⟨bx k0 8317987319222330741, bx k1 7237128888997146477, bx k0 7816392313619706465, bx k1 8387220255154660723⟩
def chunkSt (s0 : S4) (l : List UInt8) (j : Nat) : S4 := (List.range j).foldl (fun s i => s.eat (wordN ((l.drop (8 * i)).take 8))) s0
def lastWord (l : List UInt8) : Nat := topW l.length (wordN (l.drop (8 * (l.length / 8))))
def roundN (s : S4) : Nat → S4
  | 0 => s
  | n + 1 => (roundN s n).round
theorem roundN_ok (s : S4) (h : s.ok) (n : Nat) : (roundN s n).ok := by
  cases n with
  | zero => exact h
  | succ n => exact S4.round_ok _
def sipFin (s : S4) : Int :=
  let t := roundN (S4.mk s.a s.b (bx s.c 255) s.d) 4
  bx (bx (bx t.a t.b) t.c) t.d
def sip (k0 k1 : Int) (l : List UInt8) : Int := sipFin ((chunkSt (sipInit k0 k1) l (l.length / 8)).eat (lastWord l))

theorem chunkSt_succ (s0 : S4) (l : List UInt8) (j : Nat) : chunkSt s0 l (j + 1) = (chunkSt s0 l j).eat (wordN ((l.drop (8 * j)).take 8)) := by
  simp [chunkSt, List.range_succ]
theorem sipInit_ok (k0 k1 : Int) : (sipInit k0 k1).ok := ⟨u64_bx _ _, u64_bx _ _, u64_bx _ _, u64_bx _ _⟩
theorem chunkSt_ok (s0 : S4) (h : s0.ok) (l : List UInt8) (j : Nat) : (chunkSt s0 l j).ok := by
  cases j with
  | zero => exact h
  | succ j => rw [chunkSt_succ]; exact S4.eat_ok _ _

def strLen : Value → Nat | .string t => t.size | _ => 0
def MacRel (W : World) (l : List UInt8) (s0 : S4) (v : Value) (w : World) : Prop :=
  ∃ (t : ByteArray) (j : Nat), v = .string t ∧ t.data.toList = l.drop (8 * j) ∧ 8 * j ≤ l.length ∧ Below W.heap.size W w ∧ Blk w W.heap.size 70 (chunkSt s0 l j).cells

theorem drop_extract (t : ByteArray) (k : Nat) : (t.extract k t.size).data.toList = t.data.toList.drop k := by
  simp [ByteArray.data_extract]
  exact List.take_of_length_le (by rw [List.length_drop]; exact Nat.le_refl _)
theorem MacRel.step {W wr w1 : World} {l : List UInt8} {s0 : S4} {t : ByteArray} {j : Nat} (ht : t.data.toList = l.drop (8 * j)) (hb : Below W.heap.size W wr) (h8 : 8 ≤ t.size)
    (hk : Blk w1 W.heap.size 70 ((chunkSt s0 l j).eat (wordN (t.data.toList.take 8))).cells) (hg : wr.grownBy w1 (some W.heap.size)) :
    MacRel W l s0 (.string (t.extract 8 t.size)) w1 ∧ strLen (.string (t.extract 8 t.size)) < strLen (.string t) := by
  have hl := congrArg List.length ht
  rw [List.length_drop] at hl
  have hs : t.data.toList.length = t.size := rfl
  refine ⟨⟨_, j + 1, rfl, ?_, by omega, below_of_only hb hg (Nat.le_refl _) hb.size, ?_⟩, ?_⟩
  · rw [drop_extract, ht, List.drop_drop]; congr 1
  · rw [chunkSt_succ, ← ht]; exact hk
  · have h1 := congrArg List.length (drop_extract t 8)
    rw [List.length_drop] at h1
    have h2 : (t.extract 8 t.size).data.toList.length = (t.extract 8 t.size).size := rfl
    simp only [strLen]
    omega
def FinRel (W : World) (s0 : S4) (v : Value) (w : World) : Prop :=
  ∃ k : Nat, k ≤ 4 ∧ v = .int .i64 k ∧ Below W.heap.size W w ∧ Blk w W.heap.size 70 (roundN s0 k).cells

set_option maxRecDepth 100000 in
set_option maxHeartbeats 1000000 in
theorem mac_sum (k0 k1 : Int) (s : ByteArray) (W : World) (hs : s.size ≤ 9223372036854775807) :
    Calls Tryz.prog 14 #[.int .u64 k0, .int .u64 k1, .string s] W fun e w' => e = .returned (.int .u64 (sip k0 k1 s.data.toList)) ∧ Below W.heap.size W w' := by
  go_enter Tryz.func14, Tryz.ntmps14
  go_wp2_with fail
  go_loopw [2] (fun v wr => MacRel W s.data.toList (sipInit k0 k1) v wr) (fun v _ => strLen v)
  case atStart => exact ⟨s, 0, rfl, rfl, by omega, (Below.refl _ _).alloc (Nat.le_refl _) _, Blk.new W _ _⟩
  case round =>
    obtain ⟨t, j, rfl, ht, hj, hb, hB⟩ := hrel
    have hts : t.size = s.data.toList.length - 8 * j := by
      have := congrArg List.length ht
      rw [List.length_drop] at this
      exact this
    have HT := Lib.hid ht
    have HS := Lib.hid hts
    have HB := Lib.hid hb
    have HK := Lib.hid hB
    have htm : t.size ≤ 9223372036854775807 := by
      have : s.data.toList.length = s.size := rfl
      omega
    clear ht hts hb hB
    by_cases h8 : 8 ≤ t.size
    · go_wp2_with fail
      go_loop [10, 31] (fun m i => ∃ k : Nat, k ≤ 8 ∧ i = .int .i64 k ∧ m = .int .u64 ((wordN (t.data.toList.take k) : Nat) : Int)) (fun _ i => 8 - (intOf i).toNat)
      case atStart => exact ⟨0, by omega, rfl, rfl⟩
      case round =>
        obtain ⟨k, hk, rfl, rfl⟩ := hrel
        by_cases hlt : k < 8
        · have hks : k < t.size := by omega
          have hb256 := t[k].toNat_lt
          go_wp2_with fail
          refine ⟨⟨k + 1, by omega, by go_num, ?_⟩, by simp [intOf]; omega⟩
          rw [or_step _ _ k hlt (by
            have h1 := wordN_lt (t.data.toList.take k)
            have h2 : (t.data.toList.take k).length = k := by rw [List.length_take]; have : t.data.toList.length = t.size := rfl; omega
            rw [h2] at h1
            exact h1), wordN_take_succ t.data.toList k hks]
          rfl
        · obtain rfl : k = 8 := by omega
          go_wp2_with (go_at_call 33; refine (mac_eat _ (chunkSt_ok _ (sipInit_ok k0 k1) s.data.toList j) _ _ _ HK.out).mono ?_; rintro e w1 ⟨rfl, hk1, hg1⟩)
          exact MacRel.step HT.out HB.out h8 hk1 hg1
    · have hjl : j = s.data.toList.length / 8 := by
        have h1 := HS.out
        omega
      have HJ := Lib.hid hjl
      clear hjl
      have htop := top_word s.size
      have HTOP := Lib.hid htop
      clear htop
      go_wp2_with fail
      go_loop [12, 52] (fun m i => ∃ k : Nat, k ≤ t.size ∧ i = .int .i64 k ∧ m = .int .u64 ((topW s.size (wordN (t.data.toList.take k)) : Nat) : Int)) (fun _ i => t.size - (intOf i).toNat)
      case atStart => exact ⟨0, by omega, rfl, by rw [HTOP.out]; rfl⟩
      case round =>
        obtain ⟨k, hk, rfl, rfl⟩ := hrel
        by_cases hlt : k < t.size
        · have hb256 := t[k].toNat_lt
          go_wp2_with fail
          refine ⟨⟨k + 1, by omega, by go_num, ?_⟩, by simp [intOf]; omega⟩
          rw [top_step _ _ _ k (by omega) (by
            have h1 := wordN_lt (t.data.toList.take k)
            have h2 : (t.data.toList.take k).length = k := by rw [List.length_take]; have : t.data.toList.length = t.size := rfl; omega
            rw [h2] at h1
            exact h1), wordN_take_succ t.data.toList k hlt]
          rfl
        · obtain rfl : k = t.size := by omega
          have hw : topW s.size (wordN (t.data.toList.take t.size)) = lastWord s.data.toList := by
            have h1 : t.data.toList.take t.size = t.data.toList := List.take_of_length_le (Nat.le_refl _)
            rw [h1, HT.out, HJ.out]; rfl
          have hk0 : Blk wr W.heap.size 70 (chunkSt (sipInit k0 k1) s.data.toList (s.data.toList.length / 8)).cells := by rw [← HJ.out]; exact HK.out
          have HK0 := Lib.hid hk0
          rw [hw]
          clear hw hk0 hlt hk
          obtain ⟨sc, hsc⟩ : ∃ sc : S4, sc = (chunkSt (sipInit k0 k1) s.data.toList (s.data.toList.length / 8)).eat (lastWord s.data.toList) := ⟨_, rfl⟩
          have HSC := Lib.hid hsc
          clear hsc
          go_wp2_with (go_at_call 33; refine (mac_eat _ (chunkSt_ok _ (sipInit_ok k0 k1) s.data.toList _) _ _ _ HK0.out).mono ?_; rintro e w1 ⟨rfl, hk1, hg1⟩; rw [← HSC.out] at hk1; have c2 := Blk.c2 hk1; have f2 := hk1.frozen 2)
          go_loopw [72] (fun i wr2 => FinRel W ⟨sc.a, sc.b, bx sc.c 255, sc.d⟩ i wr2) (fun i _ => 4 - (intOf i).toNat)
          case atStart =>
            exact ⟨0, by omega, rfl, below_of_only (below_of_only HB.out hg1 (Nat.le_refl _) HB.out.size) (only_setCell (only_refl w1 (some W.heap.size)) (p := ⟨W.heap.size, 2, none⟩) (.inl rfl) _) (Nat.le_refl _) (Nat.le_trans HB.out.size hg1.size), hk1.set_ 2 _⟩
          case round =>
            obtain ⟨i, hi, rfl, hb, hk⟩ := hrel
            have HB2 := Lib.hid hb
            have HK2 := Lib.hid hk
            clear hb hk
            have hok : (S4.mk sc.a sc.b (bx sc.c 255) sc.d).ok := by
              have h1 : sc.ok := by rw [HSC.out]; exact S4.eat_ok _ _
              exact ⟨h1.1, h1.2.1, u64_bx _ _, h1.2.2.2⟩
            have HOK := Lib.hid hok
            clear hok
            by_cases hlt : i < 4
            · go_wp2_with (go_at_call 34; refine (mac_round _ (roundN_ok _ HOK.out i) _ _ HK2.out).mono ?_; rintro e w3 ⟨rfl, hk3, hg3⟩)
              exact ⟨⟨i + 1, by omega, by go_num, below_of_only HB2.out hg3 (Nat.le_refl _) HB2.out.size, hk3⟩, by simp [intOf]; omega⟩
            · obtain rfl : i = 4 := by omega
              have hfin : sip k0 k1 s.data.toList = bx (bx (bx (roundN ⟨sc.a, sc.b, bx sc.c 255, sc.d⟩ 4).a (roundN ⟨sc.a, sc.b, bx sc.c 255, sc.d⟩ 4).b) (roundN ⟨sc.a, sc.b, bx sc.c 255, sc.d⟩ 4).c) (roundN ⟨sc.a, sc.b, bx sc.c 255, sc.d⟩ 4).d := by
                rw [HSC.out]; rfl
              have HF := Lib.hid hfin
              clear hfin
              have c0 := Blk.c0 HK2.out
              have c1 := Blk.c1 HK2.out
              have c2' := Blk.c2 HK2.out
              have c3 := Blk.c3 HK2.out
              generalize roundN ⟨sc.a, sc.b, bx sc.c 255, sc.d⟩ 4 = tt at *
              go_wp2_with fail
              go_ret
              exact ⟨by rw [HF.out]; rfl, HB2.out⟩
end Go.Proofs.YtdfgegicfhcmeaaGreatDoor
