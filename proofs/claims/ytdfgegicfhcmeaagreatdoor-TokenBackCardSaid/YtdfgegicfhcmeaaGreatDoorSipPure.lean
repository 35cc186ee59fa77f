/-
  Words of eight bytes, the least ones first: no program here.
-/
import Derived.Laws.BitsAllLaws
import Derived.Laws.BitsLemmas
import Derived.IntWalk
namespace Go.Proofs.YtdfgegicfhcmeaaGreatDoor

def wordN (l : List UInt8) : Nat := l.foldr (fun b acc => b.toNat + 256 * acc) 0
theorem wordN_nil : wordN [] = 0 := rfl
theorem wordN_cons (b : UInt8) (l : List UInt8) : wordN (b :: l) = b.toNat + 256 * wordN l := rfl
theorem wordN_lt (l : List UInt8) : wordN l < 256 ^ l.length := by
  induction l with
  | nil => simp [wordN]
  | cons b l ih =>
    have hb := b.toNat_lt
    rw [wordN_cons, List.length_cons, Nat.pow_succ]
    omega
theorem wordN_append (l r : List UInt8) : wordN (l ++ r) = wordN l + 256 ^ l.length * wordN r := by
  induction l with
  | nil => simp [wordN_nil]
  | cons b l ih =>
    rw [List.cons_append, wordN_cons, wordN_cons, ih, List.length_cons, Nat.pow_succ, Nat.mul_add, ← Nat.mul_assoc, Nat.mul_comm 256 (256 ^ l.length)]
    omega
theorem wordN_zeros (n : Nat) : wordN (List.replicate n 0) = 0 := by
  induction n with
  | zero => rfl
  | succ n ih => rw [List.replicate_succ, wordN_cons, ih]; rfl
theorem wordN_snoc (l : List UInt8) (b : UInt8) : wordN (l ++ [b]) = wordN l + 256 ^ l.length * b.toNat := by
  rw [wordN_append]; simp [wordN_cons, wordN_nil]
theorem wordN_take_succ (l : List UInt8) (i : Nat) (h : i < l.length) : wordN (l.take (i + 1)) = wordN (l.take i) + 256 ^ i * (l[i]).toNat := by
  rw [List.take_succ_eq_append_getElem h, wordN_snoc, List.length_take, Nat.min_eq_left (Nat.le_of_lt h)]

theorem pow256 (i : Nat) : 256 ^ i = 2 ^ (8 * i) := by rw [Nat.pow_mul]
/-- or with a byte above all that is there: a sum -/
theorem or_above (m b i : Nat) (hm : m < 256 ^ i) : m ||| (b * 256 ^ i) = m + 256 ^ i * b := by
  rw [pow256] at *
  rw [Nat.or_comm, Nat.mul_comm b, ← Nat.two_pow_add_eq_or_of_lt hm, Nat.add_comm]
/-- the top byte's place: its word, and all below -/
theorem or_top (t m : Nat) (hm : m < 2 ^ 56) : t * 2 ^ 56 ||| m = t * 2 ^ 56 + m := by
  rw [Nat.mul_comm, Nat.two_pow_add_eq_or_of_lt hm]

/-- the number of bytes in the top byte, m below -/
def topW (n m : Nat) : Nat := (n % 256) * 2 ^ 56 + m
theorem wrap_nat (n : Nat) (h : n < 18446744073709551616) : IntKind.u64.wrap (n : Int) = (n : Int) := by
  simp [IntKind.wrap, IntKind.bits, IntKind.signed]; omega
/-- the program's step: m |= uint64(b) << (8*i) -/
theorem or_step (m : Nat) (b : UInt8) (i : Nat) (hi : i < 8) (hm : m < 256 ^ i) :
    bits .or .u64 (m : Int) (IntKind.u64.wrap ((b.toNat : Int) * 2 ^ (8 * i))) = ((m + 256 ^ i * b.toNat : Nat) : Int) := by
  have hb := b.toNat_lt
  have hp : (256 : Nat) ^ i ≤ 256 ^ 7 := Nat.pow_le_pow_right (by omega) (by omega)
  have hbp : b.toNat * 256 ^ i < 18446744073709551616 := Nat.lt_of_lt_of_le (Nat.mul_lt_mul_of_lt_of_le hb hp (by omega)) (by decide)
  have e2 : IntKind.u64.wrap ((b.toNat : Int) * 2 ^ (8 * i)) = ((b.toNat * 256 ^ i : Nat) : Int) := by
    rw [pow256]
    have e3 : ((b.toNat : Int) * 2 ^ (8 * i)) = ((b.toNat * 2 ^ (8 * i) : Nat) : Int) := by simp
    rw [e3]
    rw [pow256] at hbp
    exact wrap_nat _ (by omega)
  rw [e2, u64_or_nat _ _ (by omega) hbp, or_above m b.toNat i hm]
/-- the program's step in the last word, the number of bytes above -/
theorem or_step_top (t m : Nat) (b : UInt8) (i : Nat) (ht : t < 256) (hi : i < 7) (hm : m < 256 ^ i) :
    bits .or .u64 ((t * 2 ^ 56 + m : Nat) : Int) (IntKind.u64.wrap ((b.toNat : Int) * 2 ^ (8 * i))) = ((t * 2 ^ 56 + (m + 256 ^ i * b.toNat) : Nat) : Int) := by
  have hb := b.toNat_lt
  have hp : (256 : Nat) ^ i ≤ 256 ^ 6 := Nat.pow_le_pow_right (by omega) (by omega)
  have hq : (256 : Nat) ^ (i + 1) ≤ 256 ^ 7 := Nat.pow_le_pow_right (by omega) (by omega)
  have hbp : b.toNat * 256 ^ i < 2 ^ 56 := Nat.lt_of_lt_of_le (Nat.mul_lt_mul_of_lt_of_le hb hp (by omega)) (by decide)
  have hm2 : m < 2 ^ 56 := by omega
  have hs : m + 256 ^ i * b.toNat < 2 ^ 56 := by
    have h1 : m + 256 ^ i * b.toNat < 256 ^ (i + 1) := by
      rw [Nat.pow_succ]
      have h2 : 256 ^ i * b.toNat ≤ 256 ^ i * 255 := Nat.mul_le_mul_left _ (by omega)
      omega
    omega
  have e2 : IntKind.u64.wrap ((b.toNat : Int) * 2 ^ (8 * i)) = ((b.toNat * 256 ^ i : Nat) : Int) := by
    rw [pow256]
    have e3 : ((b.toNat : Int) * 2 ^ (8 * i)) = ((b.toNat * 2 ^ (8 * i) : Nat) : Int) := by simp
    rw [e3]
    rw [pow256] at hbp
    exact wrap_nat _ (by omega)
  rw [e2, u64_or_nat _ _ (by omega) (by omega), ← or_top t m hm2, Nat.or_assoc, or_above m b.toNat i hm, or_top t _ hs]
theorem top_word0 (n : Nat) : IntKind.u64.wrap ((n : Int) * 72057594037927936) = (((n % 256) * 2 ^ 56 : Nat) : Int) := by
  simp [IntKind.wrap, IntKind.bits, IntKind.signed]; omega
theorem top_word (n : Nat) : IntKind.u64.wrap ((n : Int) * 72057594037927936) = ((topW n (wordN []) : Nat) : Int) := by
  rw [top_word0]
  unfold topW
  rw [wordN_nil, Nat.add_zero]
theorem top_step (n m : Nat) (b : UInt8) (i : Nat) (hi : i < 7) (hm : m < 256 ^ i) :
    bits .or .u64 ((topW n m : Nat) : Int) (IntKind.u64.wrap ((b.toNat : Int) * 2 ^ (8 * i))) = ((topW n (m + 256 ^ i * b.toNat) : Nat) : Int) :=
  or_step_top (n % 256) m b i (Nat.mod_lt _ (by omega)) hi hm
/-- the reference's step, from the greatest byte on: m*256 + uint64(b) -/
theorem horner_step (l : List UInt8) (k : Nat) (h : k < l.length) : wordN (l.drop k) = (l[k]).toNat + 256 * wordN (l.drop (k + 1)) := by
  rw [List.drop_eq_getElem_cons h, wordN_cons]
end Go.Proofs.YtdfgegicfhcmeaaGreatDoor
