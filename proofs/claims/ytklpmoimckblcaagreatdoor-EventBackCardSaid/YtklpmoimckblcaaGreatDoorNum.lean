/-
  Numbers from 0 to MaxNumber and their numerals, in plain Lean: a numeral is read again; its bytes are digits.
-/
import Derived.Lib.ItoaLen
import Derived.Lib.AtoiTie
import Derived.Lib.AtoiAllCases
namespace Go.Proofs.YtklpmoimckblcaaGreatDoor

def okN (x : Int) : Bool := decide (0 ≤ x) && decide (x ≤ 1099511627776)
theorem okN_iff {x : Int} : okN x = true ↔ 0 ≤ x ∧ x ≤ 1099511627776 := by simp [okN]
/-- strconv.Atoi's number -/
def atoiN (l : List UInt8) : Int := match Lib.atoiAll l with
  | .ok v => v
  | Lib.NumEnd.syntax => 0
  | .range => Lib.atoiSat l
/-- strconv.Atoi gives no error -/
def atoiE (l : List UInt8) : Bool := match Lib.atoiAll l with
  | .ok _ => true
  | _ => false

theorem decFrom_app : ∀ (a b : List UInt8) (n : Nat), Lib.decFrom n (a ++ b) = (Lib.decFrom n a).bind fun m => Lib.decFrom m b
  | [], _, _ => rfl
  | x :: a, b, n => by
    rw [List.cons_append, Lib.decFrom, Lib.decFrom]
    cases Lib.digitVal x with
    | none => rfl
    | some d => exact decFrom_app a b _
theorem digitVal_of {d : Nat} (h : d < 10) : Lib.digitVal (UInt8.ofNat (48 + d)) = some d := by
  have e : (UInt8.ofNat (48 + d)).toNat = 48 + d := by
    rw [UInt8.toNat_ofNat']; omega
  unfold Lib.digitVal
  rw [e, if_pos (by omega)]
  congr 1
  omega
theorem decFrom_digits : ∀ (n u : Nat), u ≤ n → Lib.decFrom 0 (Lib.decDigits u) = some u
  | n, u, hn => by
    by_cases h : u < 10
    · rw [Lib.decDigits_one h, Lib.decFrom, digitVal_of h]
      simp [Lib.decFrom]
    · rw [Lib.decDigits, dif_neg h, decFrom_app]
      cases n with
      | zero => omega
      | succ n =>
        rw [decFrom_digits n (u / 10) (by omega)]
        simp only [Option.bind_some]
        rw [Lib.decFrom]
        rw [digitVal_of (by omega)]
        simp only [Lib.decFrom]
        congr 1
        omega
theorem isDigit_digits : ∀ (n u : Nat), u ≤ n → ∀ b ∈ Lib.decDigits u, 48 ≤ b.toNat ∧ b.toNat ≤ 57
  | n, u, hn, b, hb => by
    have one : ∀ d, d < 10 → 48 ≤ (UInt8.ofNat (48 + d)).toNat ∧ (UInt8.ofNat (48 + d)).toNat ≤ 57 := fun d h => by
      rw [UInt8.toNat_ofNat']; omega
    by_cases h : u < 10
    · rw [Lib.decDigits_one h, List.mem_singleton] at hb
      subst hb
      exact one u h
    · rw [Lib.decDigits, dif_neg h, List.mem_append, List.mem_singleton] at hb
      rcases hb with hb | rfl
      · cases n with
        | zero => omega
        | succ n => exact isDigit_digits n (u / 10) (by omega) b hb
      · exact one _ (by omega)
theorem digits_ne (u : Nat) : Lib.decDigits u ≠ [] := by
  by_cases h : u < 10
  · rw [Lib.decDigits_one h]; simp
  · rw [Lib.decDigits, dif_neg h]; simp
theorem nDigits_le : ∀ (k u : Nat), u < 10 ^ (k + 1) → Lib.nDigits u ≤ k + 1
  | 0, u, h => by rw [Lib.nDigits_small (by simpa using h)]; exact Nat.le_refl _
  | k + 1, u, h => by
    by_cases hu : u < 10
    · rw [Lib.nDigits_small hu]; omega
    · rw [Lib.nDigits_big hu]
      have := nDigits_le k (u / 10) (by rw [Nat.pow_succ] at h ⊢; rw [Nat.pow_succ] at h; omega)
      omega
theorem itoa_of {x : Int} (h : okN x = true) : Lib.itoa x = Lib.decDigits x.toNat := by
  have := okN_iff.1 h
  unfold Lib.itoa
  rw [if_neg (by omega)]
theorem itoa_len {x : Int} (h : okN x = true) : (Lib.itoa x).length ≤ 13 := by
  have := okN_iff.1 h
  rw [itoa_of h, Lib.decDigits_length]
  exact nDigits_le 12 _ (by omega)
theorem itoa_ne {x : Int} (h : okN x = true) : Lib.itoa x ≠ [] := by rw [itoa_of h]; exact digits_ne _
theorem itoa_digits {x : Int} (h : okN x = true) : ∀ b ∈ Lib.itoa x, 48 ≤ b.toNat ∧ b.toNat ≤ 57 := by rw [itoa_of h]; exact isDigit_digits _ _ (Nat.le_refl _)
theorem itoa_free {x : Int} (h : okN x = true) {c : UInt8} (hc : ¬ (48 ≤ c.toNat ∧ c.toNat ≤ 57)) : c ∉ Lib.itoa x := fun hm => hc (itoa_digits h c hm)
/-- a numeral is read again -/
theorem atoi_itoa {x : Int} (h : okN x = true) : Lib.atoiAll (Lib.itoa x) = .ok x := by
  have hx := okN_iff.1 h
  rw [Lib.atoiAll_short _ (by have := itoa_len h; omega)]
  have hd := itoa_digits h
  have he : Lib.decNat (Lib.itoa x) = some x.toNat := by
    unfold Lib.decNat
    rw [itoa_of h]
    rw [if_neg (by simpa using digits_ne _), decFrom_digits _ _ (Nat.le_refl _)]
  rcases e : Lib.itoa x with _ | ⟨b, r⟩
  · exact absurd e (itoa_ne h)
  · have hb := hd b (by rw [e]; simp)
    rw [e] at he
    have h45 : (b == 45) = false := by
      rw [beq_eq_false_iff_ne]; rintro rfl; simp at hb
    have h43 : (b == 43) = false := by
      rw [beq_eq_false_iff_ne]; rintro rfl; simp at hb
    simp only [Lib.atoi, h45, h43, he]
    simp [Lib.NumEnd.ofOption]
    omega
theorem atoiN_itoa {x : Int} (h : okN x = true) : atoiN (Lib.itoa x) = x := by unfold atoiN; rw [atoi_itoa h]
theorem atoiE_itoa {x : Int} (h : okN x = true) : atoiE (Lib.itoa x) = true := by unfold atoiE; rw [atoi_itoa h]
theorem itoa_inj {x y : Int} (hx : okN x = true) (hy : okN y = true) (h : Lib.itoa x = Lib.itoa y) : x = y := by rw [← atoiN_itoa hx, h, atoiN_itoa hy]
theorem atoiN_bounds (l : List UInt8) : -9223372036854775808 ≤ atoiN l ∧ atoiN l ≤ 9223372036854775807 := by
  unfold atoiN
  rcases e : Lib.atoiAll l with _ | _ | v
  all_goals first | exact Lib.atoiAll_bounds e | exact Lib.atoiSat_bounds l | (simp)
/-- a number that is written just so, from 0 to MaxNumber -/
def numB (l : List UInt8) : Bool := atoiE l && decide (Lib.itoa (atoiN l) = l) && okN (atoiN l)
theorem numB_iff {l : List UInt8} : numB l = true ↔ okN (atoiN l) = true ∧ Lib.itoa (atoiN l) = l := by
  unfold numB
  simp only [Bool.and_eq_true, decide_eq_true_eq]
  constructor
  · rintro ⟨⟨_, h2⟩, h3⟩
    exact ⟨h3, h2⟩
  · rintro ⟨h3, h2⟩
    refine ⟨⟨?_, h2⟩, h3⟩
    rw [← h2]
    exact atoiE_itoa h3
theorem numB_itoa {x : Int} (h : okN x = true) : numB (Lib.itoa x) = true := by
  rw [numB_iff, atoiN_itoa h]; exact ⟨h, rfl⟩
end Go.Proofs.YtklpmoimckblcaaGreatDoor
