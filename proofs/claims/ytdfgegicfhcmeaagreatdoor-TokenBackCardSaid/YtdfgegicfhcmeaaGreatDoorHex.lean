/-
  Sixteen hexadecimal digits: no program here.
-/
import Derived.Laws.BitsAllLaws
import Derived.Laws.BitsLemmas
import Derived.IntWalk
namespace Go.Proofs.YtdfgegicfhcmeaaGreatDoor

def hexTab : List UInt8 := [48, 49, 50, 51, 52, 53, 54, 55, 56, 57, 97, 98, 99, 100, 101, 102]
def dig (d : Nat) : UInt8 := hexTab.getD d 0
/-- the last k hexadecimal digits of n -/
def hexN : Nat → Nat → List UInt8
  | 0, _ => []
  | k + 1, n => hexN k (n / 16) ++ [dig (n % 16)]
theorem hexN_length (k n : Nat) : (hexN k n).length = k := by
  induction k generalizing n with
  | zero => rfl
  | succ k ih => simp [hexN, ih]
theorem hexN_cons (k n : Nat) : hexN (k + 1) n = dig (n / 16 ^ k % 16) :: hexN k n := by
  induction k generalizing n with
  | zero => simp [hexN]
  | succ k ih =>
    rw [hexN, ih]
    conv => rhs; rw [hexN]
    rw [List.cons_append, Nat.div_div_eq_div_mul, Nat.pow_succ, Nat.mul_comm 16]
theorem hexN_get (k n i : Nat) (h : i < k) : (hexN k n)[i]? = some (dig (n / 16 ^ (k - 1 - i) % 16)) := by
  induction k generalizing i with
  | zero => omega
  | succ k ih =>
    rw [hexN_cons]
    cases i with
    | zero => simp
    | succ i => rw [List.getElem?_cons_succ, ih i (by omega), show k + 1 - 1 - (i + 1) = k - 1 - i from by omega]
theorem hexN_pad (k m n : Nat) (h : n < 16 ^ k) : hexN (k + m) n = List.replicate m 48 ++ hexN k n := by
  induction m with
  | zero => simp
  | succ m ih =>
    rw [← Nat.add_assoc, hexN_cons, ih, List.replicate_succ, List.cons_append]
    have h2 : n / 16 ^ (k + m) = 0 := Nat.div_eq_of_lt (Nat.lt_of_lt_of_le h (Nat.pow_le_pow_right (by omega) (by omega)))
    rw [h2]
    rfl
theorem and15 (x : Nat) (h : x < 18446744073709551616) : bits .and .u64 (x : Int) 15 = ((x % 16 : Nat) : Int) := by
  have h1 := u64_and_nat x 15 h (by omega)
  rw [show ((15 : Nat) : Int) = 15 from rfl] at h1
  rw [h1]
  have h2 : x &&& 15 = x % 16 := Nat.and_two_pow_sub_one_eq_mod x 4
  rw [h2]
theorem pow16 (i : Nat) : 16 ^ i = 2 ^ (4 * i) := by rw [Nat.pow_mul]
end Go.Proofs.YtdfgegicfhcmeaaGreatDoor
