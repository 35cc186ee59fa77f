/-
  Words of eight bytes, the least ones first: no program here.
-/
import Derived.Laws.BitsAllLaws
import Derived.Laws.BitsLemmas
import Derived.IntWalk
import Derived.Test.YtdogilbnbbeljaaGreatDoorH06
import Derived.Test.YtdogilbnbbeljaaGreatDoorH02
import Derived.ArgAppend
import Derived.Lib.ConvBytes
import Derived.OwnWalk
namespace Go.Proofs.YtdogilbnbbeljaaGreatDoor

def wordN (l : List UInt8) : Nat := l.foldr (fun b acc => b.toNat + 256 * acc) 0
theorem wordN_nil : wordN [] = 0 := rfl
theorem wordN_cons (b : UInt8) (l : List UInt8) : wordN (b :: l) = b.toNat + 256 * wordN l := rfl
theorem wordN_lt (l : List UInt8) : wordN l < 256 ^ l.length := by
  induction l with
  | nil => simp [wordN]
  | cons b l ih =>
    have hb := b.toNat_lt
    rw [wordN_cons, List.length_cons, Nat.pow_succ]
    omega
theorem wordN_append (l r : List UInt8) : wordN (l ++ r) = wordN l + 256 ^ l.length * wordN r := by
  induction l with
  | nil => simp [wordN_nil]
  | cons b l ih =>
    rw [List.cons_append, wordN_cons, wordN_cons, ih, List.length_cons, Nat.pow_succ, Nat.mul_add, ← Nat.mul_assoc, Nat.mul_comm 256 (256 ^ l.length)]
    omega
theorem wordN_zeros (n : Nat) : wordN (List.replicate n 0) = 0 := by
  induction n with
  | zero => rfl
  | succ n ih => rw [List.replicate_succ, wordN_cons, ih]; rfl
theorem wordN_snoc (l : List UInt8) (b : UInt8) : wordN (l ++ [b]) = wordN l + 256 ^ l.length * b.toNat := by
  rw [wordN_append]; simp [wordN_cons, wordN_nil]
theorem wordN_take_succ (l : List UInt8) (i : Nat) (h : i < l.length) : wordN (l.take (i + 1)) = wordN (l.take i) + 256 ^ i * (l[i]).toNat := by
  rw [List.take_succ_eq_append_getElem h, wordN_snoc, List.length_take, Nat.min_eq_left (Nat.le_of_lt h)]

theorem pow256 (i : Nat) : 256 ^ i = 2 ^ (8 * i) := by rw [Nat.pow_mul]
/-- or with a byte above all that is there: a sum -/
theorem or_above (m b i : Nat) (hm : m < 256 ^ i) : m ||| (b * 256 ^ i) = m + 256 ^ i * b := by
  rw [pow256] at *
  rw [Nat.or_comm, Nat.mul_comm b, ← Nat.two_pow_add_eq_or_of_lt hm, Nat.add_comm]
/-- the top byte's place: its word, and all below -/
theorem or_top (t m : Nat) (hm : m < 2 ^ 56) : t * 2 ^ 56 ||| m = t * 2 ^ 56 + m := by
  rw [Nat.mul_comm, Nat.two_pow_add_eq_or_of_lt hm]

/-- the number of bytes in the top byte, m below -/
def topW (n m : Nat) : Nat := (n % 256) * 2 ^ 56 + m
theorem wrap_nat (n : Nat) (h : n < 18446744073709551616) : IntKind.u64.wrap (n : Int) = (n : Int) := by
  simp [IntKind.wrap, IntKind.bits, IntKind.signed]; omega
/-- the program's step: m |= uint64(b) << (8*i) -/
theorem or_step (m : Nat) (b : UInt8) (i : Nat) (hi : i < 8) (hm : m < 256 ^ i) :
    bits .or .u64 (m : Int) (IntKind.u64.wrap ((b.toNat : Int) * 2 ^ (8 * i))) = ((m + 256 ^ i * b.toNat : Nat) : Int) := by
  have hb := b.toNat_lt
  have hp : (256 : Nat) ^ i ≤ 256 ^ 7 := Nat.pow_le_pow_right (by omega) (by omega)
  have hbp : b.toNat * 256 ^ i < 18446744073709551616 := Nat.lt_of_lt_of_le (Nat.mul_lt_mul_of_lt_of_le hb hp (by omega)) (by decide)
  have e2 : IntKind.u64.wrap ((b.toNat : Int) * 2 ^ (8 * i)) = ((b.toNat * 256 ^ i : Nat) : Int) := by
    rw [pow256]
    have e3 : ((b.toNat : Int) * 2 ^ (8 * i)) = ((b.toNat * 2 ^ (8 * i) : Nat) : Int) := by simp
    rw [e3]
    rw [pow256] at hbp
    exact wrap_nat _ (by omega)
  rw [e2, u64_or_nat _ _ (by omega) hbp, or_above m b.toNat i hm]
/-- the program's step in the last word, the number of bytes above -/
theorem or_step_top (t m : Nat) (b : UInt8) (i : Nat) (ht : t < 256) (hi : i < 7) (hm : m < 256 ^ i) :
    bits .or .u64 ((t * 2 ^ 56 + m : Nat) : Int) (IntKind.u64.wrap ((b.toNat : Int) * 2 ^ (8 * i))) = ((t * 2 ^ 56 + (m + 256 ^ i * b.toNat) : Nat) : Int) := by
  have hb := b.toNat_lt
  have hp : (256 : Nat) ^ i ≤ 256 ^ 6 := Nat.pow_le_pow_right (by omega) (by omega)
  have hq : (256 : Nat) ^ (i + 1) ≤ 256 ^ 7 := Nat.pow_le_pow_right (by omega) (by omega)
  have hbp : b.toNat * 256 ^ i < 2 ^ 56 := Nat.lt_of_lt_of_le (Nat.mul_lt_mul_of_lt_of_le hb hp (by omega)) (by decide)
  have hm2 : m < 2 ^ 56 := by omega
  have hs : m + 256 ^ i * b.toNat < 2 ^ 56 := by
    have h1 : m + 256 ^ i * b.toNat < 256 ^ (i + 1) := by
      rw [Nat.pow_succ]
      have h2 : 256 ^ i * b.toNat ≤ 256 ^ i * 255 := Nat.mul_le_mul_left _ (by omega)
      omega
    omega
  have e2 : IntKind.u64.wrap ((b.toNat : Int) * 2 ^ (8 * i)) = ((b.toNat * 256 ^ i : Nat) : Int) := by
    rw [pow256]
    have e3 : ((b.toNat : Int) * 2 ^ (8 * i)) = ((b.toNat * 2 ^ (8 * i) : Nat) : Int) := by simp
    rw [e3]
    rw [pow256] at hbp
    exact wrap_nat _ (by omega)
  rw [e2, u64_or_nat _ _ (by omega) (by omega), ← or_top t m hm2, Nat.or_assoc, or_above m b.toNat i hm, or_top t _ hs]
theorem top_word0 (n : Nat) : IntKind.u64.wrap ((n : Int) * 72057594037927936) = (((n % 256) * 2 ^ 56 : Nat) : Int) := by
  simp [IntKind.wrap, IntKind.bits, IntKind.signed]; omega
theorem top_word (n : Nat) : IntKind.u64.wrap ((n : Int) * 72057594037927936) = ((topW n (wordN []) : Nat) : Int) := by
  rw [top_word0]
  unfold topW
  rw [wordN_nil, Nat.add_zero]
theorem top_step (n m : Nat) (b : UInt8) (i : Nat) (hi : i < 7) (hm : m < 256 ^ i) :
    bits .or .u64 ((topW n m : Nat) : Int) (IntKind.u64.wrap ((b.toNat : Int) * 2 ^ (8 * i))) = ((topW n (m + 256 ^ i * b.toNat) : Nat) : Int) :=
  or_step_top (n % 256) m b i (Nat.mod_lt _ (by omega)) hi hm
/-- the reference's step, from the greatest byte on: m*256 + uint64(b) -/
theorem horner_step (l : List UInt8) (k : Nat) (h : k < l.length) : wordN (l.drop k) = (l[k]).toNat + 256 * wordN (l.drop (k + 1)) := by
  rw [List.drop_eq_getElem_cons h, wordN_cons]
end Go.Proofs.YtdogilbnbbeljaaGreatDoor

/-
  The sum, by the program's text: whole.
-/
namespace Go.Proofs.YtdogilbnbbeljaaGreatDoor
open Go.RowKit

def sipInit (k0 k1 : Int) : S4 := ⟨bx k0 8317987319222330741, bx k1 7237128888997146477, bx k0 7816392313619706465, bx k1 8387220255154660723⟩
def chunkSt (s0 : S4) (l : List UInt8) (j : Nat) : S4 := (List.range j).foldl (fun s i => s.eat (wordN ((l.drop (8 * i)).take 8))) s0
def lastWord (l : List UInt8) : Nat := topW l.length (wordN (l.drop (8 * (l.length / 8))))
def roundN (s : S4) : Nat → S4
  | 0 => s
  | n + 1 => (roundN s n).round
theorem roundN_ok (s : S4) (h : s.ok) (n : Nat) : (roundN s n).ok := by
  cases n with
  | zero => exact h
  | succ n => exact S4.round_ok _
def sipFin (s : S4) : Int :=
  let t := roundN (S4.mk s.a s.b (bx s.c 255) s.d) 4
  bx (bx (bx t.a t.b) t.c) t.d
def sip (k0 k1 : Int) (l : List UInt8) : Int := sipFin ((chunkSt (sipInit k0 k1) l (l.length / 8)).eat (lastWord l))

theorem chunkSt_succ (s0 : S4) (l : List UInt8) (j : Nat) : chunkSt s0 l (j + 1) = (chunkSt s0 l j).eat (wordN ((l.drop (8 * j)).take 8)) := by
  simp [chunkSt, List.range_succ]
theorem sipInit_ok (k0 k1 : Int) : (sipInit k0 k1).ok := ⟨u64_bx _ _, u64_bx _ _, u64_bx _ _, u64_bx _ _⟩
theorem chunkSt_ok (s0 : S4) (h : s0.ok) (l : List UInt8) (j : Nat) : (chunkSt s0 l j).ok := by
  cases j with
  | zero => exact h
  | succ j => rw [chunkSt_succ]; exact S4.eat_ok _ _

def strLen : Value → Nat | .string t => t.size | _ => 0
def MacRel (W : World) (l : List UInt8) (s0 : S4) (v : Value) (w : World) : Prop :=
  ∃ (t : ByteArray) (j : Nat), v = .string t ∧ t.data.toList = l.drop (8 * j) ∧ 8 * j ≤ l.length ∧ Below W.heap.size W w ∧ Blk w W.heap.size 152 (chunkSt s0 l j).cells

theorem drop_extract (t : ByteArray) (k : Nat) : (t.extract k t.size).data.toList = t.data.toList.drop k := by
  simp [ByteArray.data_extract]
  exact List.take_of_length_le (by rw [List.length_drop]; exact Nat.le_refl _)
theorem MacRel.step {W wr w1 : World} {l : List UInt8} {s0 : S4} {t : ByteArray} {j : Nat} (ht : t.data.toList = l.drop (8 * j)) (hb : Below W.heap.size W wr) (h8 : 8 ≤ t.size)
    (hk : Blk w1 W.heap.size 152 ((chunkSt s0 l j).eat (wordN (t.data.toList.take 8))).cells) (hg : wr.grownBy w1 (some W.heap.size)) :
    MacRel W l s0 (.string (t.extract 8 t.size)) w1 ∧ strLen (.string (t.extract 8 t.size)) < strLen (.string t) := by
  have hl := congrArg List.length ht
  rw [List.length_drop] at hl
  have hs : t.data.toList.length = t.size := rfl
  refine ⟨⟨_, j + 1, rfl, ?_, by omega, below_of_only hb hg (Nat.le_refl _) hb.size, ?_⟩, ?_⟩
  · rw [drop_extract, ht, List.drop_drop]; congr 1
  · rw [chunkSt_succ, ← ht]; exact hk
  · have h1 := congrArg List.length (drop_extract t 8)
    rw [List.length_drop] at h1
    have h2 : (t.extract 8 t.size).data.toList.length = (t.extract 8 t.size).size := rfl
    simp only [strLen]
    omega
def FinRel (W : World) (s0 : S4) (v : Value) (w : World) : Prop :=
  ∃ k : Nat, k ≤ 4 ∧ v = .int .i64 k ∧ Below W.heap.size W w ∧ Blk w W.heap.size 152 (roundN s0 k).cells

set_option maxRecDepth 100000 in
set_option maxHeartbeats 1000000 in
theorem mac_sum (k0 k1 : Int) (s : ByteArray) (W : World) (hs : s.size ≤ 9223372036854775807) :
    Calls Tryz.prog 57 #[.int .u64 k0, .int .u64 k1, .string s] W fun e w' => e = .returned (.int .u64 (sip k0 k1 s.data.toList)) ∧ Below W.heap.size W w' := by
  go_enter Tryz.func57, Tryz.ntmps57
  go_wp2_with fail
  go_loopw [2] (fun v wr => MacRel W s.data.toList (sipInit k0 k1) v wr) (fun v _ => strLen v)
  case atStart => exact ⟨s, 0, rfl, rfl, by omega, (Below.refl _ _).alloc (Nat.le_refl _) _, Blk.new W _ _⟩
  case round =>
    obtain ⟨t, j, rfl, ht, hj, hb, hB⟩ := hrel
    have hts : t.size = s.data.toList.length - 8 * j := by
      have := congrArg List.length ht
      rw [List.length_drop] at this
      exact this
    have HT := Lib.hid ht
    have HS := Lib.hid hts
    have HB := Lib.hid hb
    have HK := Lib.hid hB
    have htm : t.size ≤ 9223372036854775807 := by
      have : s.data.toList.length = s.size := rfl
      omega
    clear ht hts hb hB
    by_cases h8 : 8 ≤ t.size
    · go_wp2_with fail
      go_loop [10, 31] (fun m i => ∃ k : Nat, k ≤ 8 ∧ i = .int .i64 k ∧ m = .int .u64 ((wordN (t.data.toList.take k) : Nat) : Int)) (fun _ i => 8 - (intOf i).toNat)
      case atStart => exact ⟨0, by omega, rfl, rfl⟩
      case round =>
        obtain ⟨k, hk, rfl, rfl⟩ := hrel
        by_cases hlt : k < 8
        · have hks : k < t.size := by omega
          have hb256 := t[k].toNat_lt
          go_wp2_with fail
          refine ⟨⟨k + 1, by omega, by go_num, ?_⟩, by simp [intOf]; omega⟩
          rw [or_step _ _ k hlt (by
            have h1 := wordN_lt (t.data.toList.take k)
            have h2 : (t.data.toList.take k).length = k := by rw [List.length_take]; have : t.data.toList.length = t.size := rfl; omega
            rw [h2] at h1
            exact h1), wordN_take_succ t.data.toList k hks]
          rfl
        · obtain rfl : k = 8 := by omega
          go_wp2_with (go_at_call 85; refine (mac_eat _ (chunkSt_ok _ (sipInit_ok k0 k1) s.data.toList j) _ _ _ HK.out).mono ?_; rintro e w1 ⟨rfl, hk1, hg1⟩)
          exact MacRel.step HT.out HB.out h8 hk1 hg1
    · have hjl : j = s.data.toList.length / 8 := by
        have h1 := HS.out
        omega
      have HJ := Lib.hid hjl
      clear hjl
      have htop := top_word s.size
      have HTOP := Lib.hid htop
      clear htop
      go_wp2_with fail
      go_loop [12, 52] (fun m i => ∃ k : Nat, k ≤ t.size ∧ i = .int .i64 k ∧ m = .int .u64 ((topW s.size (wordN (t.data.toList.take k)) : Nat) : Int)) (fun _ i => t.size - (intOf i).toNat)
      case atStart => exact ⟨0, by omega, rfl, by rw [HTOP.out]; rfl⟩
      case round =>
        obtain ⟨k, hk, rfl, rfl⟩ := hrel
        by_cases hlt : k < t.size
        · have hb256 := t[k].toNat_lt
          go_wp2_with fail
          refine ⟨⟨k + 1, by omega, by go_num, ?_⟩, by simp [intOf]; omega⟩
          rw [top_step _ _ _ k (by omega) (by
            have h1 := wordN_lt (t.data.toList.take k)
            have h2 : (t.data.toList.take k).length = k := by rw [List.length_take]; have : t.data.toList.length = t.size := rfl; omega
            rw [h2] at h1
            exact h1), wordN_take_succ t.data.toList k hlt]
          rfl
        · obtain rfl : k = t.size := by omega
          have hw : topW s.size (wordN (t.data.toList.take t.size)) = lastWord s.data.toList := by
            have h1 : t.data.toList.take t.size = t.data.toList := List.take_of_length_le (Nat.le_refl _)
            rw [h1, HT.out, HJ.out]; rfl
          have hk0 : Blk wr W.heap.size 152 (chunkSt (sipInit k0 k1) s.data.toList (s.data.toList.length / 8)).cells := by rw [← HJ.out]; exact HK.out
          have HK0 := Lib.hid hk0
          rw [hw]
          clear hw hk0 hlt hk
          obtain ⟨sc, hsc⟩ : ∃ sc : S4, sc = (chunkSt (sipInit k0 k1) s.data.toList (s.data.toList.length / 8)).eat (lastWord s.data.toList) := ⟨_, rfl⟩
          have HSC := Lib.hid hsc
          clear hsc
          go_wp2_with (go_at_call 85; refine (mac_eat _ (chunkSt_ok _ (sipInit_ok k0 k1) s.data.toList _) _ _ _ HK0.out).mono ?_; rintro e w1 ⟨rfl, hk1, hg1⟩; rw [← HSC.out] at hk1; have c2 := Blk.c2 hk1; have f2 := hk1.frozen 2)
          go_loopw [72] (fun i wr2 => FinRel W ⟨sc.a, sc.b, bx sc.c 255, sc.d⟩ i wr2) (fun i _ => 4 - (intOf i).toNat)
          case atStart =>
            exact ⟨0, by omega, rfl, below_of_only (below_of_only HB.out hg1 (Nat.le_refl _) HB.out.size) (only_setCell (only_refl w1 (some W.heap.size)) (p := ⟨W.heap.size, 2, none⟩) (.inl rfl) _) (Nat.le_refl _) (Nat.le_trans HB.out.size hg1.size), hk1.set_ 2 _⟩
          case round =>
            obtain ⟨i, hi, rfl, hb, hk⟩ := hrel
            have HB2 := Lib.hid hb
            have HK2 := Lib.hid hk
            clear hb hk
            have hok : (S4.mk sc.a sc.b (bx sc.c 255) sc.d).ok := by
              have h1 : sc.ok := by rw [HSC.out]; exact S4.eat_ok _ _
              exact ⟨h1.1, h1.2.1, u64_bx _ _, h1.2.2.2⟩
            have HOK := Lib.hid hok
            clear hok
            by_cases hlt : i < 4
            · go_wp2_with (go_at_call 86; refine (mac_round _ (roundN_ok _ HOK.out i) _ _ HK2.out).mono ?_; rintro e w3 ⟨rfl, hk3, hg3⟩)
              exact ⟨⟨i + 1, by omega, by go_num, below_of_only HB2.out hg3 (Nat.le_refl _) HB2.out.size, hk3⟩, by simp [intOf]; omega⟩
            · obtain rfl : i = 4 := by omega
              have hfin : sip k0 k1 s.data.toList = bx (bx (bx (roundN ⟨sc.a, sc.b, bx sc.c 255, sc.d⟩ 4).a (roundN ⟨sc.a, sc.b, bx sc.c 255, sc.d⟩ 4).b) (roundN ⟨sc.a, sc.b, bx sc.c 255, sc.d⟩ 4).c) (roundN ⟨sc.a, sc.b, bx sc.c 255, sc.d⟩ 4).d := by
                rw [HSC.out]; rfl
              have HF := Lib.hid hfin
              clear hfin
              have c0 := Blk.c0 HK2.out
              have c1 := Blk.c1 HK2.out
              have c2' := Blk.c2 HK2.out
              have c3 := Blk.c3 HK2.out
              generalize roundN ⟨sc.a, sc.b, bx sc.c 255, sc.d⟩ 4 = tt at *
              go_wp2_with fail
              go_ret
              exact ⟨by rw [HF.out]; rfl, HB2.out⟩
end Go.Proofs.YtdogilbnbbeljaaGreatDoor

/-
  A slice of bytes that the call itself made, also one out of a conversion (whose row bears a mark beyond its cells).
-/
namespace Go.Proofs.YtdogilbnbbeljaaGreatDoor
open Go.RowKit

structure BSat (w : World) (B g cap : Nat) (l : List UInt8) : Prop where
  base : B ≤ g
  lt : g < w.heap.size
  le : l.length ≤ cap
  max : cap ≤ maxLen
  cells : ∀ j, j < cap → (w.cell? ⟨g, j, none⟩).isSome = true ∧ w.frozen? ⟨g, j, none⟩ = false
  bytes : ∀ j (h : j < l.length), w.cell? ⟨g, j, none⟩ = some (.int .u8 (l[j]).toNat)
def BS (w : World) (B : Nat) (v : Value) (l : List UInt8) : Prop := ∃ g cap, v = .slice (some ⟨g, 0, none⟩) l.length cap ∧ BSat w B g cap l

section
variable {w w' : World} {B g cap : Nat} {v : Value} {l : List UInt8}
theorem BSat.keep (h : BSat w B g cap l) (hb : w'.heap[g]? = w.heap[g]?) (hs : w.heap.size ≤ w'.heap.size) : BSat w' B g cap l :=
  ⟨h.base, Nat.lt_of_lt_of_le h.lt hs, h.le, h.max, fun j hj => by
    rw [World.cell?_of_block (w := w) (a := ⟨g, j, none⟩) hb, World.frozen?_of_block (w := w) (a := ⟨g, j, none⟩) hb]; exact h.cells j hj,
   fun j hj => by rw [World.cell?_of_block (w := w) (a := ⟨g, j, none⟩) hb]; exact h.bytes j hj⟩
theorem BSat.below (h : BSat w B g cap l) (hb : Below w.heap.size w w') : BSat w' B g cap l := h.keep (hb.block g h.lt) hb.size
theorem BSat.alloc (h : BSat w B g cap l) (o : Obj) : BSat (w.alloc o) B g cap l := h.keep (Below.heap_alloc w o g h.lt) (by simp)
theorem BSat.drewN (h : BSat w B g cap l) (n : Nat) : BSat (w.drewN n) B g cap l := h.keep rfl (Nat.le_refl _)
theorem BSat.only {r : Option Nat} (h : BSat w B g cap l) (hb : w.grownBy w' r) (hr : some g ≠ r) : BSat w' B g cap l := h.keep (hb.block g h.lt hr) hb.size
theorem BS.alloc (h : BS w B v l) (o : Obj) : BS (w.alloc o) B v l := by
  obtain ⟨g, cap, hv, h⟩ := h
  exact ⟨g, cap, hv, h.alloc o⟩

theorem BSat.bs (h : BSat w B g cap l) (n : Nat) (hn : n = l.length) : BS w B (.slice (some ⟨g, 0, none⟩) n cap) l := ⟨g, cap, by rw [hn], h⟩
/-- out of '[]byte(s)' -/
theorem BS.conv (W : World) (e : TypeId) (s : ByteArray) (hs : s.size ≤ 140737488355328) : BS (Lib.bytesWorld W e s) W.heap.size (.slice (some ⟨W.heap.size, 0, none⟩) s.size (grownCap W s.size 0 e)) s.data.toList := by
  have hl : s.data.toList.length = s.size := rfl
  have hge := grownCap_ge W s.size 0 e
  have hsz : (Lib.bytesCells W e s).size = grownCap W s.size 0 e := by
    simp [Lib.bytesCells]
    have : s.data.size = s.size := rfl
    omega
  have hfr := Lib.bytesWorld_at_new W e s
  refine ⟨W.heap.size, grownCap W s.size 0 e, by rw [hl], ⟨Nat.le_refl _, by rw [Lib.bytesWorld_size]; omega, by rw [hl]; exact hge, grownCap_le_maxLen W s.size 0 e (by unfold maxLen; omega), ?_, ?_⟩⟩
  · intro j hj
    refine ⟨?_, ?_⟩
    · simp only [World.cell?, hfr]
      have : j < (Lib.bytesCells W e s).size := by omega
      simp [this]
    · simp only [World.frozen?, hfr]
      simp; omega
  · intro j hj
    rw [Lib.bytesWorld_cell W e s j (by omega)]
    rw [List.getD_eq_getElem?_getD, List.getElem?_eq_getElem hj]
    rfl
theorem below_conv (W : World) (e : TypeId) (s : ByteArray) : Below W.heap.size W (Lib.bytesWorld W e s) :=
  ⟨rfl, rfl, rfl, by rw [Lib.bytesWorld_size]; omega, fun k hk => Lib.bytesWorld_at_old W e s k hk⟩

/-- one byte more -/
theorem run_append_byte {P : Program} (t ty e : TypeId) (i : TypeInfo) (ht : P.underlying t = some (.slice e)) (hi : P.info? e = some i) (hz : i.zero = some (.int .u8 0)) (hsize : i.size = 1) (hby : i.bytes = 1)
    (h : BS w B v l) (ad : Addr) (c : Nat) (b : UInt8) (hb : w.cell? ad = some (.int .u8 b.toNat)) (hn : l.length + 1 ≤ 140737488355328) (hB : B ≤ w.heap.size) :
    ∃ v' w', (Builtin.append_ #[t, t] ty #[v, .slice (some ad) 1 c]).run P w = .ok v' w' ∧ BS w' B v' (l ++ [b]) ∧ Below B w w' := by
  obtain ⟨g, cap, rfl, h⟩ := h
  have hnews : ∀ j u, [Value.int .u8 (b.toNat : Int)][j]? = some u → w.cell? (ad.add j) = some u := by
    intro j u hu
    cases j with
    | zero => simp at hu; subst hu; simpa [Addr.add] using hb
    | succ j => simp at hu
  have h1 : ∀ u ∈ [Value.int .u8 (b.toNat : Int)], u.oneCell' = true := by intro u hu; simp at hu; subst hu; rfl
  by_cases hr : l.length + 1 ≤ cap
  · have hrun := run_append_room_cells (P := P) (w := w) t ty e i ht hi g 0 l.length cap ad 1 c [.int .u8 (b.toNat : Int)] (by simp [hsize]) hnews h1 hr
      (fun j hj => by simp at hj; subst hj; simp [hsize]; exact (h.cells l.length (by omega)).1) (fun j hj => by simp at hj; subst hj; simp [hsize]; exact (h.cells l.length (by omega)).2)
    rw [hsize] at hrun
    simp only [Nat.zero_add, Nat.mul_one, World.setCells] at hrun
    refine ⟨_, _, hrun, ⟨g, cap, by simp, ⟨h.base, by simpa [World.setCell] using h.lt, by simpa using hr, h.max, ?_, ?_⟩⟩, (Below.refl B w).setCell h.base _⟩
    · intro j hj
      have h2 := h.cells j hj
      by_cases e' : j = l.length
      · subst e'
        refine ⟨?_, ?_⟩
        · obtain ⟨u, hu⟩ := Option.isSome_iff_exists.1 h2.1
          rw [World.cell?_setCell_same _ _ _ hu]; rfl
        · rw [World.frozen?_setCell]; exact h2.2
      · refine ⟨?_, ?_⟩
        · rw [World.cell?_setCell_other _ _ _ _ (by simp <;> omega)]; exact h2.1
        · rw [World.frozen?_setCell]; exact h2.2
    · intro j hj
      rw [List.length_append, List.length_singleton] at hj
      by_cases e' : j = l.length
      · subst e'
        obtain ⟨u, hu⟩ := Option.isSome_iff_exists.1 (h.cells l.length (by omega)).1
        rw [World.cell?_setCell_same _ _ _ hu]; simp
      · rw [World.cell?_setCell_other _ _ _ _ (by simp <;> omega), List.getElem_append_left (by omega)]
        exact h.bytes j (by omega)
  · obtain ⟨v', w', hrun, hown, hg⟩ := run_append_arg_grows (P := P) (w := w) t ty e i (.int .u8 0) 1 1 ht hi hz hsize hby rfl (by omega) ⟨g, 0, none⟩ l.length cap (l.map fun x => Value.int .u8 (x.toNat : Int)) (by simp)
      (fun j u hu => by
        rw [List.getElem?_map] at hu
        by_cases hj : j < l.length
        · rw [List.getElem?_eq_getElem hj] at hu
          simp at hu
          rw [Addr.add_lit, ← hu]
          simpa using h.bytes j hj
        · rw [List.getElem?_eq_none (by omega)] at hu; cases hu)
      ad 1 c [.int .u8 (b.toNat : Int)] rfl hnews (by omega) (by unfold maxLen; omega) (by omega)
    refine ⟨v', w', hrun, ?_, (Below.refl B w).grown hg hB (fun k e => by cases e)⟩
    rcases hown.2 with ⟨_, h0⟩ | ⟨g', cap', cur, hv, hbg, hg', hnc, hcm, hcs, htake⟩
    · omega
    · have hlt' : g' < w'.heap.size := by
        rcases Nat.lt_or_ge g' w'.heap.size with h3 | h3
        · exact h3
        · rw [Array.getElem?_eq_none h3] at hg'; exact absurd hg' (by simp)
      refine ⟨g', cap', by rw [hv]; simp, ⟨by omega, hlt', by simpa using hnc, hcm, ?_, ?_⟩⟩
      · intro j hj
        simp only [World.cell?, World.frozen?, hg']
        have : j < cur.size := by omega
        simp [this]
      · intro j hj
        have h4 : (cur.toList.take ((l.length + 1) * 1))[j]? = cur.toList[j]? := by
          rw [List.getElem?_take_of_lt (by simpa using hj)]
        rw [htake] at h4
        have h5 : w'.cell? ⟨g', j, none⟩ = cur.toList[j]? := by simp [World.cell?, hg']
        rw [h5, ← h4]
        rw [show (l.map fun x => Value.int .u8 (x.toNat : Int)) ++ [.int .u8 (b.toNat : Int)] = (l ++ [b]).map fun x => Value.int .u8 (x.toNat : Int) by simp, List.getElem?_map, List.getElem?_eq_getElem hj]
        rfl

/-- .. for the walk: behind at_builtin -/
theorem wpList_append_byte {P : Program} {ops : Array Oper} {rest : List Oper} {o : Oper} {a : Act} {Q : Exit → Act → World → Prop} (hgd : o.guard = none) (s x : Operand) (t : TypeId)
    (ho : o.op = .call { callee := .builtin .append, args := #[s, x], argTypes := #[t, t] })
    (e : TypeId) (i : TypeInfo) (ht : P.underlying t = some (.slice e)) (hi : P.info? e = some i) (hz : i.zero = some (.int .u8 0)) (hsize : i.size = 1) (hby : i.bytes = 1)
    (hs : a.eval s = v) (h : BS w B v l) (ad : Addr) (c : Nat) (b : UInt8) (hx : a.eval x = .slice (some ad) 1 c) (hb : w.cell? ad = some (.int .u8 b.toNat)) (hn : l.length + 1 ≤ 140737488355328) (hB : B ≤ w.heap.size)
    (hK : ∀ v' w', BS w' B v' (l ++ [b]) → Below B w w' → wpList P ops Q rest (a.put o.dst v') w') : wpList P ops Q (o :: rest) a w := by
  refine wpList_plain hgd fun K hK' => ?_
  obtain ⟨v', w', hrun, r1, r2⟩ := run_append_byte (P := P) t o.type e i ht hi hz hsize hby h ad c b hb hn hB
  unfold Oper.wp
  simp [execOp, ho, resolve, invoke, builtin, hs, hx, hrun, Result.andThen]
  exact hK' _ _ (hK v' w' r1 r2)
end
end Go.Proofs.YtdogilbnbbeljaaGreatDoor

/-
  Sixteen hexadecimal digits: no program here.
-/
namespace Go.Proofs.YtdogilbnbbeljaaGreatDoor

def hexTab : List UInt8 := [48, 49, 50, 51, 52, 53, 54, 55, 56, 57, 97, 98, 99, 100, 101, 102]
def dig (d : Nat) : UInt8 := hexTab.getD d 0
/-- the last k hexadecimal digits of n -/
def hexN : Nat → Nat → List UInt8
  | 0, _ => []
  | k + 1, n => hexN k (n / 16) ++ [dig (n % 16)]
theorem hexN_length (k n : Nat) : (hexN k n).length = k := by
  induction k generalizing n with
  | zero => rfl
  | succ k ih => simp [hexN, ih]
theorem hexN_cons (k n : Nat) : hexN (k + 1) n = dig (n / 16 ^ k % 16) :: hexN k n := by
  induction k generalizing n with
  | zero => simp [hexN]
  | succ k ih =>
    rw [hexN, ih]
    conv => rhs; rw [hexN]
    rw [List.cons_append, Nat.div_div_eq_div_mul, Nat.pow_succ, Nat.mul_comm 16]
theorem hexN_get (k n i : Nat) (h : i < k) : (hexN k n)[i]? = some (dig (n / 16 ^ (k - 1 - i) % 16)) := by
  induction k generalizing i with
  | zero => omega
  | succ k ih =>
    rw [hexN_cons]
    cases i with
    | zero => simp
    | succ i => rw [List.getElem?_cons_succ, ih i (by omega), show k + 1 - 1 - (i + 1) = k - 1 - i from by omega]
theorem hexN_pad (k m n : Nat) (h : n < 16 ^ k) : hexN (k + m) n = List.replicate m 48 ++ hexN k n := by
  induction m with
  | zero => simp
  | succ m ih =>
    rw [← Nat.add_assoc, hexN_cons, ih, List.replicate_succ, List.cons_append]
    have h2 : n / 16 ^ (k + m) = 0 := Nat.div_eq_of_lt (Nat.lt_of_lt_of_le h (Nat.pow_le_pow_right (by omega) (by omega)))
    rw [h2]
    rfl
theorem and15 (x : Nat) (h : x < 18446744073709551616) : bits .and .u64 (x : Int) 15 = ((x % 16 : Nat) : Int) := by
  have h1 := u64_and_nat x 15 h (by omega)
  rw [show ((15 : Nat) : Int) = 15 from rfl] at h1
  rw [h1]
  have h2 : x &&& 15 = x % 16 := Nat.and_two_pow_sub_one_eq_mod x 4
  rw [h2]
theorem pow16 (i : Nat) : 16 ^ i = 2 ^ (4 * i) := by rw [Nat.pow_mul]
end Go.Proofs.YtdogilbnbbeljaaGreatDoor
