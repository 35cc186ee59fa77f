/-
  Numbers from 0 to MaxNumber and their numerals, in plain Lean: a numeral is read again; its bytes are digits.
-/
import Derived.Lib.ItoaLen
import Derived.Lib.AtoiTie
import Derived.Lib.AtoiAllCases
import Derived.Lib.SplitLaws
import Derived.Lib.Join
import Derived.Lib.SlicesCompact
import Derived.Sort.KeysCollected
import Derived.Test.YtckohmhhcknmaaaGreatDoorP01
import Derived.Sort.OwnSorted
import Derived.Lib.OwnBridge
import Derived.Laws.OwnMore
import Derived.LoopTactic
import Derived.Deep.LoopGhost
import Derived.Deep.QuietTactic
import Derived.BigQuiet
namespace Go.Proofs.YtckohmhhcknmaaaGreatDoor

def okN (x : Int) : Bool := decide (0 ≤ x) && decide (x ≤ 1099511627776)
theorem okN_iff {x : Int} : okN x = true ↔ 0 ≤ x ∧ x ≤ 1099511627776 := by simp [okN]
/-- strconv.Atoi's number -/
def atoiN (l : List UInt8) : Int := match Lib.atoiAll l with
  | .ok v => v
  | Lib.NumEnd.syntax => 0
  | .range => Lib.atoiSat l
/-- strconv.Atoi gives no error -/
def atoiE (l : List UInt8) : Bool := match Lib.atoiAll l with
  | .ok _ => true
  | _ => false

theorem decFrom_app : ∀ (a b : List UInt8) (n : Nat), Lib.decFrom n (a ++ b) = (Lib.decFrom n a).bind fun m => Lib.decFrom m b
  | [], _, _ => rfl
  | x :: a, b, n => by
    rw [List.cons_append, Lib.decFrom, Lib.decFrom]
    cases Lib.digitVal x with
    | none => rfl
    | some d => exact decFrom_app a b _
theorem digitVal_of {d : Nat} (h : d < 10) : Lib.digitVal (UInt8.ofNat (48 + d)) = some d := by
  have e : (UInt8.ofNat (48 + d)).toNat = 48 + d := by
    rw [UInt8.toNat_ofNat']; omega
  unfold Lib.digitVal
  rw [e, if_pos (by omega)]
  congr 1
  omega
theorem decFrom_digits : ∀ (n u : Nat), u ≤ n → Lib.decFrom 0 (Lib.decDigits u) = some u
  | n, u, hn => by
    by_cases h : u < 10
    · rw [Lib.decDigits_one h, Lib.decFrom, digitVal_of h]
      simp [Lib.decFrom]
    · rw [Lib.decDigits, dif_neg h, decFrom_app]
      cases n with
      | zero => omega
      | succ n =>
        rw [decFrom_digits n (u / 10) (by omega)]
        simp only [Option.bind_some]
        rw [Lib.decFrom]
        rw [digitVal_of (by omega)]
        simp only [Lib.decFrom]
        congr 1
        omega
theorem isDigit_digits : ∀ (n u : Nat), u ≤ n → ∀ b ∈ Lib.decDigits u, 48 ≤ b.toNat ∧ b.toNat ≤ 57
  | n, u, hn, b, hb => by
    have one : ∀ d, d < 10 → 48 ≤ (UInt8.ofNat (48 + d)).toNat ∧ (UInt8.ofNat (48 + d)).toNat ≤ 57 := fun d h => by
      rw [UInt8.toNat_ofNat']; omega
    by_cases h : u < 10
    · rw [Lib.decDigits_one h, List.mem_singleton] at hb
      subst hb
      exact one u h
    · rw [Lib.decDigits, dif_neg h, List.mem_append, List.mem_singleton] at hb
      rcases hb with hb | rfl
      · cases n with
        | zero => omega
        | succ n => exact isDigit_digits n (u / 10) (by omega) b hb
      · exact one _ (by omega)
theorem digits_ne (u : Nat) : Lib.decDigits u ≠ [] := by
  by_cases h : u < 10
  · rw [Lib.decDigits_one h]; simp
  · rw [Lib.decDigits, dif_neg h]; simp
theorem nDigits_le : ∀ (k u : Nat), u < 10 ^ (k + 1) → Lib.nDigits u ≤ k + 1
  | 0, u, h => by rw [Lib.nDigits_small (by simpa using h)]; exact Nat.le_refl _
  | k + 1, u, h => by
    by_cases hu : u < 10
    · rw [Lib.nDigits_small hu]; omega
    · rw [Lib.nDigits_big hu]
      have := nDigits_le k (u / 10) (by rw [Nat.pow_succ] at h ⊢; rw [Nat.pow_succ] at h; omega)
      omega
theorem itoa_of {x : Int} (h : okN x = true) : Lib.itoa x = Lib.decDigits x.toNat := by
  have := okN_iff.1 h
  unfold Lib.itoa
  rw [if_neg (by omega)]
theorem itoa_len {x : Int} (h : okN x = true) : (Lib.itoa x).length ≤ 13 := by
  have := okN_iff.1 h
  rw [itoa_of h, Lib.decDigits_length]
  exact nDigits_le 12 _ (by omega)
theorem itoa_ne {x : Int} (h : okN x = true) : Lib.itoa x ≠ [] := by rw [itoa_of h]; exact digits_ne _
theorem itoa_digits {x : Int} (h : okN x = true) : ∀ b ∈ Lib.itoa x, 48 ≤ b.toNat ∧ b.toNat ≤ 57 := by rw [itoa_of h]; exact isDigit_digits _ _ (Nat.le_refl _)
theorem itoa_free {x : Int} (h : okN x = true) {c : UInt8} (hc : ¬ (48 ≤ c.toNat ∧ c.toNat ≤ 57)) : c ∉ Lib.itoa x := fun hm => hc (itoa_digits h c hm)
/-- a numeral is read again -/
theorem atoi_itoa {x : Int} (h : okN x = true) : Lib.atoiAll (Lib.itoa x) = .ok x := by
  have hx := okN_iff.1 h
  rw [Lib.atoiAll_short _ (by have := itoa_len h; omega)]
  have hd := itoa_digits h
  have he : Lib.decNat (Lib.itoa x) = some x.toNat := by
    unfold Lib.decNat
    rw [itoa_of h]
    rw [if_neg (by simpa using digits_ne _), decFrom_digits _ _ (Nat.le_refl _)]
  rcases e : Lib.itoa x with _ | ⟨b, r⟩
  · exact absurd e (itoa_ne h)
  · have hb := hd b (by rw [e]; simp)
    rw [e] at he
    have h45 : (b == 45) = false := by
      rw [beq_eq_false_iff_ne]; rintro rfl; simp at hb
    have h43 : (b == 43) = false := by
      rw [beq_eq_false_iff_ne]; rintro rfl; simp at hb
    simp only [Lib.atoi, h45, h43, he]
    simp [Lib.NumEnd.ofOption]
    omega
theorem atoiN_itoa {x : Int} (h : okN x = true) : atoiN (Lib.itoa x) = x := by unfold atoiN; rw [atoi_itoa h]
theorem atoiE_itoa {x : Int} (h : okN x = true) : atoiE (Lib.itoa x) = true := by unfold atoiE; rw [atoi_itoa h]
theorem atoiN_bounds (l : List UInt8) : -9223372036854775808 ≤ atoiN l ∧ atoiN l ≤ 9223372036854775807 := by
  unfold atoiN
  rcases e : Lib.atoiAll l with _ | _ | v
  all_goals first | exact Lib.atoiAll_bounds e | exact Lib.atoiSat_bounds l | (simp)
/-- a number that is written just so, from 0 to MaxNumber -/
def numB (l : List UInt8) : Bool := atoiE l && decide (Lib.itoa (atoiN l) = l) && okN (atoiN l)
theorem numB_iff {l : List UInt8} : numB l = true ↔ okN (atoiN l) = true ∧ Lib.itoa (atoiN l) = l := by
  unfold numB
  simp only [Bool.and_eq_true, decide_eq_true_eq]
  constructor
  · rintro ⟨⟨_, h2⟩, h3⟩
    exact ⟨h3, h2⟩
  · rintro ⟨h3, h2⟩
    refine ⟨⟨?_, h2⟩, h3⟩
    rw [← h2]
    exact atoiE_itoa h3
theorem numB_itoa {x : Int} (h : okN x = true) : numB (Lib.itoa x) = true := by
  rw [numB_iff, atoiN_itoa h]; exact ⟨h, rfl⟩
end Go.Proofs.YtckohmhhcknmaaaGreatDoor

/-
  A text parted at a byte, in plain Lean: what strings.Split gives; joined again it is the text; the parts of two texts with that byte between.
-/
namespace Go.Proofs.YtckohmhhcknmaaaGreatDoor

/-- the words of a text, parted at c -/
def parts (c : UInt8) : List UInt8 → List (List UInt8)
  | [] => [[]]
  | x :: l => if x = c then [] :: parts c l else
    match parts c l with
    | [] => [[x]]
    | w :: r => (x :: w) :: r

theorem parts_ne (c : UInt8) (l : List UInt8) : parts c l ≠ [] := by
  cases l with
  | nil => simp [parts]
  | cons x l =>
    unfold parts
    split
    · simp
    · split <;> simp
theorem parts_pos (c : UInt8) (l : List UInt8) : 0 < (parts c l).length := by
  have := parts_ne c l
  rcases h : parts c l with _ | ⟨a, r⟩
  · exact absurd h this
  · simp
theorem parts_sep (c : UInt8) (l : List UInt8) : parts c (c :: l) = [] :: parts c l := by simp [parts]
theorem parts_cons {c x : UInt8} (h : x ≠ c) {l w : List UInt8} {r : List (List UInt8)} (e : parts c l = w :: r) : parts c (x :: l) = (x :: w) :: r := by
  rw [parts, if_neg h, e]
theorem parts_none {c : UInt8} : ∀ {l : List UInt8}, c ∉ l → parts c l = [l]
  | [], _ => rfl
  | x :: l, h => by
    simp only [List.mem_cons, not_or] at h
    rw [parts_cons (Ne.symm h.1) (parts_none h.2)]
theorem parts_app {c : UInt8} : ∀ (a : List UInt8) (b : List UInt8), parts c (a ++ c :: b) = parts c a ++ parts c b
  | [], b => by simp [parts]
  | x :: a, b => by
    by_cases h : x = c
    · subst h
      rw [List.cons_append, parts_sep, parts_sep, parts_app a b, List.cons_append]
    · rcases e : parts c a with _ | ⟨w, r⟩
      · exact absurd e (parts_ne c a)
      · rw [parts_cons h e, List.cons_append, parts_cons h (by rw [parts_app a b, e, List.cons_append]), List.cons_append]
theorem parts_head {c : UInt8} {a : List UInt8} (h : c ∉ a) (b : List UInt8) : parts c (a ++ c :: b) = a :: parts c b := by
  rw [parts_app, parts_none h]; rfl
/-- no part has the byte -/
theorem parts_free (c : UInt8) : ∀ (l : List UInt8), ∀ w ∈ parts c l, c ∉ w
  | [], w, h => by simp [parts] at h; simp [h]
  | x :: l, w, h => by
    by_cases hx : x = c
    · subst hx
      rw [parts_sep] at h
      rcases List.mem_cons.1 h with rfl | h
      · simp
      · exact parts_free x l w h
    · rcases e : parts c l with _ | ⟨v, r⟩
      · exact absurd e (parts_ne c l)
      · rw [parts_cons hx e] at h
        rcases List.mem_cons.1 h with rfl | h
        · have := parts_free c l v (by rw [e]; exact List.mem_cons_self)
          simp [this, Ne.symm hx]
        · exact parts_free c l w (by rw [e]; exact List.mem_cons_of_mem _ h)

/-- words with one byte between -/
def glue (c : UInt8) : List (List UInt8) → List UInt8
  | [] => []
  | [w] => w
  | w :: v :: r => w ++ c :: glue c (v :: r)

theorem glue_cons (c : UInt8) (w : List UInt8) {r : List (List UInt8)} (h : r ≠ []) : glue c (w :: r) = w ++ c :: glue c r := by
  cases r with
  | nil => exact absurd rfl h
  | cons v r => rfl
theorem glue_join (c : UInt8) : ∀ ws : List (List UInt8), Lib.join ws [c] = glue c ws
  | [] => rfl
  | [w] => Lib.join_one w [c]
  | w :: v :: r => by
    have h := glue_join c (v :: r)
    rw [Lib.join_cons] at h
    rw [Lib.join_cons, glue, ← h]
    simp [Lib.joinTail]
theorem glue_parts (c : UInt8) : ∀ l : List UInt8, glue c (parts c l) = l
  | [] => rfl
  | x :: l => by
    have ih := glue_parts c l
    by_cases hx : x = c
    · subst hx
      rw [parts_sep, glue_cons x [] (parts_ne x l), ih]; rfl
    · rcases e : parts c l with _ | ⟨v, r⟩
      · exact absurd e (parts_ne c l)
      · rw [parts_cons hx e]
        rw [e] at ih
        cases r with
        | nil => simp only [glue] at ih ⊢; rw [ih]
        | cons u r => rw [glue_cons _ _ (by simp)] at ih ⊢; rw [← ih]; rfl
theorem parts_glue (c : UInt8) : ∀ ws : List (List UInt8), ws ≠ [] → (∀ w ∈ ws, c ∉ w) → parts c (glue c ws) = ws
  | [], h, _ => absurd rfl h
  | [w], _, h => parts_none (h w (by simp))
  | w :: v :: r, _, h => by
    rw [glue, parts_head (h w (by simp)), parts_glue c (v :: r) (by simp) (fun x hx => h x (List.mem_cons_of_mem _ hx))]
theorem glue_app (c : UInt8) : ∀ (a b : List (List UInt8)), a ≠ [] → b ≠ [] → glue c (a ++ b) = glue c a ++ c :: glue c b
  | [], _, h, _ => absurd rfl h
  | [w], b, _, hb => by rw [List.singleton_append, glue_cons c w hb]; rfl
  | w :: v :: r, b, _, hb => by
    rw [List.cons_append, glue_cons c w (by simp), glue_app c (v :: r) b (by simp) hb, glue_cons c w (by simp)]
    simp

/-- a byte that is no seam behind a text: the last part grows -/
theorem parts_grow {c x : UInt8} (h : x ≠ c) {a : List UInt8} {d : List (List UInt8)} {w : List UInt8} (e : parts c a = d ++ [w]) : parts c (a ++ [x]) = d ++ [w ++ [x]] := by
  have hfree := parts_free c a
  have ha : a = glue c (d ++ [w]) := by rw [← e, glue_parts]
  have e2 : a ++ [x] = glue c (d ++ [w ++ [x]]) := by
    by_cases hd : d = []
    · subst hd; rw [ha]; rfl
    · rw [ha, glue_app c d _ hd (by simp), glue_app c d _ hd (by simp)]
      simp [glue]
  rw [e2, parts_glue c _ (by simp)]
  intro v hv
  rcases List.mem_append.1 hv with hv | hv
  · exact hfree v (by rw [e]; exact List.mem_append.2 (.inl hv))
  · rw [List.mem_singleton] at hv
    subst hv
    have := hfree w (by rw [e]; simp)
    simp [this, Ne.symm h]
theorem parts_seam {c : UInt8} {a : List UInt8} : parts c (a ++ [c]) = parts c a ++ [[]] := by
  have := parts_app (c := c) a []
  simpa [parts] using this

theorem first_of {c : UInt8} : ∀ {l : List UInt8}, c ∈ l → ∃ a b, l = a ++ c :: b ∧ c ∉ a
  | [], h => by simp at h
  | x :: l, h => by
    by_cases hx : x = c
    · exact ⟨[], l, by simp [hx], by simp⟩
    · have hc' : c ∈ l := by simpa [Ne.symm hx] using h
      obtain ⟨a, b, rfl, ha⟩ := first_of hc'
      exact ⟨x :: a, b, rfl, by simp [ha, Ne.symm hx]⟩
/-- what strings.Split gives -/
theorem splitK_parts (c : UInt8) : ∀ (n : Nat) (l : List UInt8), l.length ≤ n → Lib.splitK [c] 0 (Lib.count l [c]) l = parts c l
  | 0, l, h => by
    obtain rfl : l = [] := List.eq_nil_of_length_eq_zero (by omega)
    rfl
  | n + 1, l, h => by
    by_cases hc : c ∈ l
    · obtain ⟨a, b, rfl, ha⟩ := first_of hc
      have hi : ∀ a : List UInt8, c ∉ a → Lib.index (a ++ c :: b) [c] = (a.length : Int) := by
        intro a ha
        induction a with
        | nil => simp [Lib.index, List.isPrefixOf]
        | cons x a ih =>
          simp only [List.mem_cons, not_or] at ha
          have hp : ([c] : List UInt8).isPrefixOf (x :: (a ++ c :: b)) = false := by simp [List.isPrefixOf, ha.1]
          rw [List.cons_append, Lib.index, hp, ih ha.2]
          simp
      have hi' := hi a ha
      rw [Lib.count_hit (by simp) hi']
      have e1 : (a ++ c :: b).drop (a.length + [c].length) = b := by
        rw [← List.drop_drop, List.drop_left]; rfl
      have e0 : ∀ k, Lib.splitK [c] 0 (k + 1) (a ++ c :: b) = a :: Lib.splitK [c] 0 k b := by
        intro k
        rw [Lib.splitK, hi', if_neg (by simp)]
        have : (a.length : Int).toNat = a.length := by omega
        rw [this, e1]
        simp
      rw [e1, Nat.add_comm 1, e0, parts_head ha, splitK_parts c n b (by simp at h; omega)]
    · have hz : Lib.count l [c] = 0 := by rw [Lib.count_one]; exact List.count_eq_zero.2 hc
      rw [hz, parts_none hc]
      rfl
theorem splitB_parts (c : UInt8) (s : ByteArray) : (Lib.splitB ⟨#[c]⟩ 0 (Lib.countB s ⟨#[c]⟩) s).map (·.data.toList) = parts c s.data.toList := by
  rw [Lib.splitB_data]
  exact splitK_parts c _ _ (Nat.le_refl _)
theorem countB_parts (c : UInt8) (s : ByteArray) : Lib.countB s ⟨#[c]⟩ + 1 = (parts c s.data.toList).length := by
  rw [← splitB_parts, List.length_map, Lib.splitB_all ⟨#[c]⟩ (Nat.le_refl _) 0 _ s rfl]
end Go.Proofs.YtckohmhhcknmaaaGreatDoor

/-
  Scopes in plain Lean: the words of one, in order, each once; its least form; whether one is within another.
-/
namespace Go.Proofs.YtckohmhhcknmaaaGreatDoor

/-- the order of words -/
abbrev leW : List UInt8 → List UInt8 → Bool := fun x y => decide (x ≤ y)
theorem leW_trans : ∀ a b c : List UInt8, leW a b = true → leW b c = true → leW a c = true := fun a b c h1 h2 => by simp only [leW, decide_eq_true_eq] at *; exact List.le_trans h1 h2
theorem leW_total : ∀ a b : List UInt8, (leW a b || leW b a) = true := fun a b => by simp only [leW, Bool.or_eq_true, decide_eq_true_eq]; exact List.le_total a b
theorem leW_anti {a b : List UInt8} (h1 : leW a b = true) (h2 : leW b a = true) : a = b := by
  simp only [leW, decide_eq_true_eq] at h1 h2
  exact List.le_antisymm h1 h2
/-- sorted, each once -/
def Up (l : List (List UInt8)) : Prop := l.Pairwise fun a b => leW a b = true ∧ a ≠ b

def uniq (ws : List (List UInt8)) : List (List UInt8) := Lib.compact (ws.mergeSort leW)

theorem compactUpTo_app (l : List (List UInt8)) (x : List UInt8) : ∀ m, m ≤ l.length → Lib.compactUpTo (l ++ [x]).toArray m = Lib.compactUpTo l.toArray m
  | 0, _ => rfl
  | m + 1, h => by
    rw [Lib.compactUpTo_succ, Lib.compactUpTo_succ, compactUpTo_app l x m (by omega)]
    have g : ∀ j, j < l.length → (l ++ [x]).toArray[j]! = l.toArray[j]! := by
      intro j hj
      simp [hj, List.getElem?_append_left hj]
    have k : Lib.keeps (l ++ [x]).toArray m = Lib.keeps l.toArray m := by
      unfold Lib.keeps
      rw [g m (by omega), g (m - 1) (by omega)]
    rw [k, g m (by omega)]
theorem compact_snoc (l : List (List UInt8)) (x : List UInt8) : Lib.compact (l ++ [x]) = Lib.compact l ++ if l.getLast? = some x then [] else [x] := by
  unfold Lib.compact
  rw [List.length_append, List.length_singleton, Lib.compactUpTo_succ, compactUpTo_app l x _ (Nat.le_refl _)]
  congr 1
  have e1 : (l ++ [x]).toArray[l.length]! = x := by simp
  rw [e1]
  have hk : Lib.keeps (l ++ [x]).toArray l.length = !decide (l.getLast? = some x) := by
    unfold Lib.keeps
    rw [e1]
    rcases List.eq_nil_or_concat l with rfl | ⟨r, y, rfl⟩
    · rfl
    · have e2 : ((r ++ [y]) ++ [x]).toArray[(r ++ [y]).length - 1]! = y := by simp
      simp only [List.concat_eq_append] at e2 ⊢
      rw [e2]
      by_cases h : x = y
      · subst h; simp
      · simp [h, Ne.symm h]
  rw [hk]
  by_cases h : l.getLast? = some x <;> simp [h]
theorem mem_compact (w : List UInt8) : ∀ (n : Nat) (l : List (List UInt8)), l.length = n → (w ∈ Lib.compact l ↔ w ∈ l)
  | 0, l, h => by obtain rfl := List.eq_nil_of_length_eq_zero h; exact Iff.rfl
  | n + 1, l, h => by
    rcases List.eq_nil_or_concat l with rfl | ⟨r, y, rfl⟩
    · exact Iff.rfl
    · rw [List.concat_eq_append] at h ⊢
      have ih := mem_compact w n r (by simpa using h)
      rw [compact_snoc, List.mem_append, List.mem_append, ih]
      by_cases e : r.getLast? = some y
      · rw [if_pos e]
        have : y ∈ r := List.mem_of_getLast? e
        simp only [List.not_mem_nil, or_false, List.mem_singleton]
        exact ⟨.inl, fun h => h.elim id fun e => e ▸ this⟩
      · rw [if_neg e]
theorem compact_up : ∀ (n : Nat) (l : List (List UInt8)), l.length = n → l.Pairwise (fun a b => leW a b = true) → Up (Lib.compact l)
  | 0, l, h, _ => by obtain rfl := List.eq_nil_of_length_eq_zero h; exact List.Pairwise.nil
  | n + 1, l, h, hp => by
    rcases List.eq_nil_or_concat l with rfl | ⟨r, y, rfl⟩
    · exact List.Pairwise.nil
    · rw [List.concat_eq_append] at h hp ⊢
      rw [List.pairwise_append] at hp
      have ih := compact_up n r (by simpa using h) hp.1
      rw [compact_snoc]
      by_cases e : r.getLast? = some y
      · rw [if_pos e, List.append_nil]; exact ih
      · rw [if_neg e]
        refine List.pairwise_append.2 ⟨ih, List.pairwise_singleton _ _, ?_⟩
        intro a ha b hb
        rw [List.mem_singleton] at hb
        subst hb
        have har : a ∈ r := (mem_compact a _ r rfl).1 ha
        refine ⟨hp.2.2 a har b (by simp), ?_⟩
        rintro rfl
        rcases List.eq_nil_or_concat r with rfl | ⟨q, z, rfl⟩
        · simp at har
        · rw [List.concat_eq_append] at har e hp
          have hz : leW a z = true := by
            rcases List.mem_append.1 har with h1 | h1
            · exact (List.pairwise_append.1 hp.1).2.2 a h1 z (by simp)
            · rw [List.mem_singleton] at h1; subst h1; simp [leW]
          have hz2 : leW z a = true := hp.2.2 z (by simp) a (by simp)
          exact e (by rw [leW_anti hz hz2]; simp)
theorem mem_uniq {ws : List (List UInt8)} {w : List UInt8} : w ∈ uniq ws ↔ w ∈ ws := by
  unfold uniq
  rw [mem_compact w _ _ rfl, List.mem_mergeSort]
theorem uniq_up (ws : List (List UInt8)) : Up (uniq ws) := compact_up _ _ rfl (List.pairwise_mergeSort leW_trans leW_total ws)
theorem Up.nodup {l : List (List UInt8)} (h : Up l) : l.Nodup := h.imp fun h => h.2
theorem Up.sorted {l : List (List UInt8)} (h : Up l) : l.Pairwise fun a b => leW a b = true := h.imp fun h => h.1
/-- two that are sorted, each once, of the same words are one -/
theorem Up.ext {l r : List (List UInt8)} (h : Up l) (k : Up r) (e : ∀ w, w ∈ l ↔ w ∈ r) : l = r :=
  List.Perm.eq_of_pairwise (le := fun a b => leW a b = true) (fun _ _ _ _ h1 h2 => leW_anti h1 h2) h.sorted k.sorted ((List.perm_ext_iff_of_nodup h.nodup k.nodup).2 e)
theorem uniq_of_up {l : List (List UInt8)} (h : Up l) : uniq l = l := (uniq_up l).ext h fun _ => mem_uniq
theorem sort_uniq {out ws : List (List UInt8)} (h : out.Nodup) (e : ∀ w, w ∈ out ↔ w ∈ ws) : out.mergeSort leW = uniq ws := by
  refine Up.ext ?_ (uniq_up ws) fun w => by rw [List.mem_mergeSort, e, mem_uniq]
  have hs := List.pairwise_mergeSort leW_trans leW_total out
  have hn : (out.mergeSort leW).Nodup := (List.mergeSort_perm out leW).nodup_iff.2 h
  exact List.Pairwise.and hs hn
theorem len_uniq {out ws : List (List UInt8)} (h : out.Nodup) (e : ∀ w, w ∈ out ↔ w ∈ ws) : out.length = (uniq ws).length := by
  rw [← sort_uniq h e, List.length_mergeSort]

/-- of a to z -/
def lowB (w : List UInt8) : Bool := w.all fun c => decide (97 ≤ c.toNat) && decide (c.toNat ≤ 122)
/-- may this be a word? -/
def okW (w : List UInt8) : Bool := !w.isEmpty && lowB w
/-- what is wrong with a scope: 0, 3 or 4 -/
def scopeN (s : List UInt8) : Int :=
  if s = [] then 0 else if (parts 43 s).all okW then (if (uniq (parts 43 s)).length ≤ 5 ∧ (uniq (parts 43 s)).all (fun w => decide (w.length ≤ 8)) = true then 0 else 4) else 3
/-- its words -/
def scopeL (s : List UInt8) : List (List UInt8) := if s = [] then [] else if scopeN s = 0 then uniq (parts 43 s) else []
/-- its least form -/
def leastL (s : List UInt8) : List UInt8 := glue 43 (scopeL s)
def withinB (a b : List UInt8) : Bool := (scopeL a).all fun w => (scopeL b).contains w

theorem scopeN_cases (s : List UInt8) : scopeN s = 0 ∨ scopeN s = 3 ∨ scopeN s = 4 := by
  unfold scopeN
  split
  · exact .inl rfl
  · split
    · split
      · exact .inl rfl
      · exact .inr (.inr rfl)
    · exact .inr (.inl rfl)
theorem scopeL_up (s : List UInt8) : Up (scopeL s) := by
  unfold scopeL
  split
  · exact List.Pairwise.nil
  · split
    · exact uniq_up _
    · exact List.Pairwise.nil
theorem scopeL_ok {s w : List UInt8} (h : w ∈ scopeL s) : okW w = true := by
  unfold scopeL at h
  split at h
  · simp at h
  · rename_i hs
    split at h
    · rename_i h0
      rw [mem_uniq] at h
      unfold scopeN at h0
      rw [if_neg hs] at h0
      split at h0
      · rename_i ha
        exact List.all_eq_true.1 ha w h
      · cases h0
    · simp at h
theorem scopeL_small (s : List UInt8) : (scopeL s).length ≤ 5 ∧ ∀ w ∈ scopeL s, w.length ≤ 8 := by
  unfold scopeL
  split
  · simp
  · rename_i hs
    split
    · rename_i h0
      unfold scopeN at h0
      rw [if_neg hs] at h0
      split at h0
      · split at h0
        · rename_i h1
          exact ⟨h1.1, fun w hw => by simpa using List.all_eq_true.1 h1.2 w hw⟩
        · cases h0
      · cases h0
    · simp
theorem okW_free {w : List UInt8} (h : okW w = true) : (43 : UInt8) ∉ w := by
  intro hm
  simp only [okW, lowB, Bool.and_eq_true] at h
  have := List.all_eq_true.1 h.2 43 hm
  simp at this
theorem okW_ne {w : List UInt8} (h : okW w = true) : w ≠ [] := by
  rintro rfl
  simp [okW] at h
theorem glue_len : ∀ ws : List (List UInt8), (∀ w ∈ ws, w.length ≤ 8) → (glue 43 ws).length ≤ 9 * ws.length
  | [], _ => by simp [glue]
  | [w], h => by have := h w (by simp); simp [glue]; omega
  | w :: v :: r, h => by
    have := h w (by simp)
    have ih := glue_len (v :: r) fun x hx => h x (List.mem_cons_of_mem _ hx)
    rw [glue]
    simp at ih ⊢
    omega
theorem leastL_len (s : List UInt8) : (leastL s).length ≤ 45 := by
  have h := scopeL_small s
  have := glue_len _ h.2
  unfold leastL
  omega
theorem glue_ne {c : UInt8} : ∀ {ws : List (List UInt8)}, ws ≠ [] → (∀ w ∈ ws, w ≠ []) → glue c ws ≠ []
  | [], h, _ => absurd rfl h
  | [w], _, h => h w (by simp)
  | w :: v :: r, _, _ => by simp [glue]
/-- the least form's own words are those; it is its own least form -/
theorem scope_least (s : List UInt8) : scopeN (leastL s) = 0 ∧ scopeL (leastL s) = scopeL s := by
  by_cases h0 : scopeL s = []
  · have : leastL s = [] := by unfold leastL; rw [h0]; rfl
    rw [this, h0]
    exact ⟨rfl, rfl⟩
  · have hok : ∀ w ∈ scopeL s, okW w = true := fun w => scopeL_ok
    have hne : leastL s ≠ [] := glue_ne h0 fun w hw => okW_ne (hok w hw)
    have hp : parts 43 (leastL s) = scopeL s := parts_glue 43 _ h0 fun w hw => okW_free (hok w hw)
    have hu : uniq (scopeL s) = scopeL s := uniq_of_up (scopeL_up s)
    have hs := scopeL_small s
    have h1 : scopeN (leastL s) = 0 := by
      unfold scopeN
      rw [if_neg hne, hp, hu, if_pos (List.all_eq_true.2 hok), if_pos ⟨hs.1, List.all_eq_true.2 fun w hw => by simpa using hs.2 w hw⟩]
    refine ⟨h1, ?_⟩
    unfold scopeL
    rw [if_neg hne, if_pos h1, hp, hu]
    rfl
theorem least_inj {a b : List UInt8} (h : leastL a = leastL b) : scopeL a = scopeL b := by
  rw [← (scope_least a).2, ← (scope_least b).2, h]
theorem least_least (s : List UInt8) : leastL (leastL s) = leastL s := by
  unfold leastL
  rw [show scopeL (glue 43 (scopeL s)) = scopeL s from (scope_least s).2]
theorem within_iff {a b : List UInt8} : withinB a b = true ↔ ∀ w ∈ scopeL a, w ∈ scopeL b := by simp [withinB]
/-- LESS IS LESS, in plain Lean -/
theorem order_law (a b c : List UInt8) : withinB a (leastL a) = true ∧ leastL (leastL a) = leastL a ∧ (withinB a b = true → withinB b c = true → withinB a c = true) ∧
    ((withinB a b = true ∧ withinB b a = true) ↔ leastL a = leastL b) := by
  refine ⟨?_, least_least a, ?_, ?_, ?_⟩
  · rw [within_iff, (scope_least a).2]; exact fun w h => h
  · rw [within_iff, within_iff, within_iff]; exact fun h1 h2 w h => h2 w (h1 w h)
  · rw [within_iff, within_iff]
    intro ⟨h1, h2⟩
    unfold leastL
    rw [(scopeL_up a).ext (scopeL_up b) fun w => ⟨h1 w, h2 w⟩]
  · intro h
    rw [within_iff, within_iff, least_inj h]
    exact ⟨fun _ h => h, fun _ h => h⟩
end Go.Proofs.YtckohmhhcknmaaaGreatDoor

/-
  A slice of strings that the call itself made, told as a list of texts; a text's bytes as a list.
-/
namespace Go.Proofs.YtckohmhhcknmaaaGreatDoor
open Go.RowKit Go.Sort

/-- a text by its bytes -/
def txt (l : List UInt8) : ByteArray := ⟨l.toArray⟩
theorem txt_data (s : ByteArray) : txt s.data.toList = s := by cases s; simp [txt]
theorem data_txt (l : List UInt8) : (txt l).data.toList = l := by simp [txt]
theorem txt_size (l : List UInt8) : (txt l).size = l.length := by simp [txt, ByteArray.size]
theorem size_data (s : ByteArray) : s.data.toList.length = s.size := by cases s; simp [ByteArray.size]
theorem txt_inj {a b : List UInt8} (h : txt a = txt b) : a = b := by rw [← data_txt a, h, data_txt]
theorem txt_app (a b : List UInt8) : txt a ++ txt b = txt (a ++ b) := by
  apply ByteArray.ext
  simp [txt]
/-- v is a slice (not nil) of the call's own that holds the texts L -/
def Row (w : World) (B : Nat) (v : Value) (L : List (List UInt8)) : Prop :=
  ∃ g cap, v = .slice (some ⟨g, 0, none⟩) L.length cap ∧ w.ownsRow B 9 1 v L.length (L.map encStr)

section
variable {w w' : World} {B : Nat} {v : Value} {L : List (List UInt8)}
theorem Row.kept (h : Row w B v L) {row : Option Nat} (hg : w.grownBy w' row) (hne : v.ownBlock ≠ row) : Row w' B v L := by
  obtain ⟨g, cap, e, ho⟩ := h
  exact ⟨g, cap, e, ho.kept hg (.inr hne)⟩
theorem Row.below (h : Row w B v L) (hb : Below w.heap.size w w') : Row w' B v L := by
  obtain ⟨g, cap, e, ho⟩ := h
  exact ⟨g, cap, e, ho.kept (only_of_below hb none) (.inr (by rw [e]; simp [Value.ownBlock]))⟩
theorem Row.drewN (h : Row w B v L) (n : Nat) : Row (w.drewN n) B v L := h
theorem Row.drew (h : Row w B v L) : Row w.drew B v L := h
theorem Row.alloc (h : Row w B v L) (o : Obj) : Row (w.alloc o) B v L := by
  obtain ⟨g, cap, e, ho⟩ := h
  exact ⟨g, cap, e, ho.alloc o⟩
theorem Row.cell {g cap : Nat} (h : Row w B (.slice (some ⟨g, 0, none⟩) L.length cap) L) (j : Nat) (hj : j < L.length) : w.cell? ⟨g, j, none⟩ = some (.string (txt (L.getD j []))) := by
  obtain ⟨g', cap', e, ho⟩ := h
  have := ho.cellAt j (by omega)
  rw [this]
  simp [List.getD, hj, encStr, txt]
theorem Row.parts (h : Row w B v L) : ∃ g cap, v = .slice (some ⟨g, 0, none⟩) L.length cap ∧ B ≤ g ∧ g < w.heap.size ∧ L.length ≤ cap ∧ cap ≤ maxLen ∧ Holds encStr w g 0 L.toArray := by
  obtain ⟨g, cap, rfl, ho⟩ := h
  obtain ⟨g', cap', e, h1, h2, h3, h4, _, h6⟩ := Lib.holds_of_ownsRow ho (by simp)
  injection e with e1 _ e3
  injection e1 with e1
  injection e1 with e1
  subst e1; subst e3
  exact ⟨g, cap, rfl, h1, h2, h3, h4, h6⟩
theorem Row.mono {B' : Nat} (h : Row w B v L) (hB : B' ≤ B) : Row w B' v L := by
  obtain ⟨g, cap, rfl, ho⟩ := h
  refine ⟨g, cap, rfl, ho.1, ?_⟩
  rcases ho.2 with h0 | ⟨g', cap', cur, e, h1, h2⟩
  · exact .inl h0
  · exact .inr ⟨g', cap', cur, e, by omega, h2⟩
/-- a block that holds just these texts -/
theorem Row.new (hB : B ≤ w.heap.size) (hm : L.length ≤ maxLen) : Row (w.alloc (.cells (L.map encStr).toArray 9)) B (.slice (some ⟨w.heap.size, 0, none⟩) L.length L.length) L := by
  refine ⟨_, _, rfl, by simp, .inr ⟨w.heap.size, L.length, (L.map encStr).toArray, rfl, hB, heap_alloc_new w _, Nat.le_refl _, hm, by simp, ?_⟩⟩
  rw [List.take_of_length_le (by simp)]
theorem Row.sorted {g cap n : Nat} {os : Array Obj} {T : List (List UInt8)} (h : Row w B (.slice (some ⟨g, 0, none⟩) L.length cap) L) (hl : T.length = L.length) :
    Row (grow (putRow encStr (Sort.ahead w n) g 0 T.toArray) os) B (.slice (some ⟨g, 0, none⟩) L.length cap) T := by
  obtain ⟨g', cap', e, ho⟩ := h
  injection e with e1 _ e3
  injection e1 with e1
  injection e1 with e1
  subst e1; subst e3
  rcases ho.2 with ⟨h0, _⟩ | ⟨g', cap', cur, hv, hbase, hb, h1, h2, h3, h4⟩
  · cases h0
  cases hv
  refine ⟨g, cap, by rw [hl], ?_⟩
  rw [hl]
  exact ownsRow_sorted (n := n) (os := os) hl hbase hb h1 h2 h3
theorem Row.cut {g cap q : Nat} {T : List (List UInt8)} (h : Row w B (.slice (some ⟨g, 0, none⟩) L.length cap) L) (hl : T.length ≤ L.length) :
    Row (putRow encStr (Sort.ahead w q) g 0 (T ++ List.replicate (L.length - T.length) []).toArray) B (.slice (some ⟨g, 0, none⟩) T.length cap) T := by
  obtain ⟨g', cap', e, ho⟩ := h
  injection e with e1 _ e3
  injection e1 with e1
  injection e1 with e1
  subst e1; subst e3
  have hc := Lib.ownsRow_putRow (q := q) (k := T.length) (ys := T ++ List.replicate (L.length - T.length) []) ho (by simp; omega) hl
  rw [List.take_left] at hc
  exact ⟨g, cap, rfl, hc⟩
end

theorem toList_txt (l : List UInt8) : (txt l).toList = l := by
  rw [ByteArray.toList_eq]
  simp [txt]
theorem parts_len (c : UInt8) : ∀ l : List UInt8, (parts c l).length ≤ l.length + 1
  | [] => by simp [parts]
  | x :: l => by
    have ih := parts_len c l
    by_cases hx : x = c
    · subst hx; rw [parts_sep]; simp; omega
    · rcases e : parts c l with _ | ⟨v, r⟩
      · exact absurd e (parts_ne c l)
      · rw [parts_cons hx e]; rw [e] at ih; simp at ih ⊢; omega

theorem parts_word_len (c : UInt8) : ∀ (l : List UInt8) (n : Nat), l.length ≤ n → ∀ w ∈ parts c l, w.length ≤ n
  | [], n, _, w, h => by simp [parts] at h; simp [h]
  | x :: l, n, hn, w, h => by
    simp at hn
    by_cases hx : x = c
    · subst hx
      rw [parts_sep] at h
      rcases List.mem_cons.1 h with rfl | h
      · simp
      · exact parts_word_len x l n (by omega) w h
    · rcases e : parts c l with _ | ⟨v, r⟩
      · exact absurd e (parts_ne c l)
      · rw [parts_cons hx e] at h
        rcases List.mem_cons.1 h with rfl | h
        · have := parts_word_len c l l.length (Nat.le_refl _) v (by rw [e]; exact List.mem_cons_self)
          simp; omega
        · exact parts_word_len c l n (by omega) w (by rw [e]; exact List.mem_cons_of_mem _ h)
end Go.Proofs.YtckohmhhcknmaaaGreatDoor

/-
  Events in plain Lean: which may be; an event's words and its line; the event that a line is.
-/
namespace Go.Proofs.YtckohmhhcknmaaaGreatDoor

structure Fam where
  id : Int
  client : ByteArray
  subject : ByteArray
  scope : ByteArray
  gen : Int
  made : Int
  used : Int
  request : ByteArray
  dead : Bool
structure Ev where
  kind : Int
  fam : Fam
  id : Int
  time : Int
def Fam.zero : Fam := ⟨0, ⟨#[]⟩, ⟨#[]⟩, ⟨#[]⟩, 0, 0, 0, ⟨#[]⟩, false⟩
def Ev.zero : Ev := ⟨0, Fam.zero, 0, 0⟩

def nameS : ByteArray := ⟨#[97, 98, 99, 100, 101, 102, 103, 104, 105, 106, 107, 108, 109, 110, 111, 112, 113, 114, 115, 116, 117, 118, 119, 120, 121, 122, 48, 49, 50, 51, 52, 53, 54, 55, 56, 57, 45]⟩
def nameC (c : UInt8) : Bool := nameS.data.toList.contains c
theorem nameC_iff (c : UInt8) : nameC c = (decide (97 ≤ c.toNat) && decide (c.toNat ≤ 122) || decide (48 ≤ c.toNat) && decide (c.toNat ≤ 57) || decide (c.toNat = 45)) := by
  have h : ∀ n : Fin 256, nameC (UInt8.ofFin n) = (decide (97 ≤ (UInt8.ofFin n).toNat) && decide ((UInt8.ofFin n).toNat ≤ 122) || decide (48 ≤ (UInt8.ofFin n).toNat) && decide ((UInt8.ofFin n).toNat ≤ 57) || decide ((UInt8.ofFin n).toNat = 45)) := of_decide_eq_true (by kernel_rfl)
  exact h c.toFin
/-- may a text name somebody? -/
def nameB (l : List UInt8) : Bool := decide (1 ≤ l.length) && decide (l.length ≤ 20) && l.all nameC
theorem nameB_free {l : List UInt8} (h : nameB l = true) {c : UInt8} (hc : nameC c = false) : c ∉ l := by
  intro hm
  unfold nameB at h
  rw [Bool.and_eq_true] at h
  have := List.all_eq_true.1 h.2 c hm
  rw [hc] at this
  cases this
theorem nameB_ne {l : List UInt8} (h : nameB l = true) : l ≠ [] := by
  rintro rfl
  cases h
theorem nameB_len {l : List UInt8} (h : nameB l = true) : l.length ≤ 20 := by
  unfold nameB at h
  simp only [Bool.and_eq_true, decide_eq_true_eq] at h
  exact h.1.2
/-- is a family the one that is none? -/
def Fam.isZero (f : Fam) : Bool := decide (f.id = 0) && decide (f.client.data.toList = []) && decide (f.subject.data.toList = []) && decide (f.scope.data.toList = []) && decide (f.gen = 0) && decide (f.made = 0) && decide (f.used = 0) && decide (f.request.data.toList = []) && !f.dead
theorem empty_of {s : ByteArray} (h : s.data.toList = []) : s = ⟨#[]⟩ := by rw [← txt_data s, h]; rfl
theorem Fam.isZero_iff {f : Fam} : f.isZero = true ↔ f = Fam.zero := by
  obtain ⟨a, b, c, d, e, g, h, i, j⟩ := f
  unfold Fam.isZero Fam.zero
  simp only [Bool.and_eq_true, decide_eq_true_eq, Bool.not_eq_true']
  constructor
  · rintro ⟨⟨⟨⟨⟨⟨⟨⟨rfl, h1⟩, h2⟩, h3⟩, rfl⟩, rfl⟩, rfl⟩, h4⟩, rfl⟩
    rw [empty_of h1, empty_of h2, empty_of h3, empty_of h4]
  · intro h
    simp only [Fam.mk.injEq] at h
    obtain ⟨rfl, rfl, rfl, rfl, rfl, rfl, rfl, rfl, rfl⟩ := h
    simp
def reqB (l : List UInt8) : Bool := decide (l = []) || nameB l
def scopeB (l : List UInt8) : Bool := decide (scopeN l = 0) && decide (leastL l = l)
/-- may a family be put? -/
def famB (f : Fam) : Bool := okN f.id && okN f.gen && okN f.made && okN f.used && nameB f.client.data.toList && nameB f.subject.data.toList && reqB f.request.data.toList && scopeB f.scope.data.toList
/-- may an event be? -/
def evB (e : Ev) : Bool :=
  if e.kind = 1 then decide (e.id = 0) && decide (e.time = 0) && famB e.fam
  else if e.kind = 2 then e.fam.isZero && decide (e.time = 0) && okN e.id
  else if e.kind = 3 then e.fam.isZero && decide (e.id = 0) && okN e.time
  else false
def wordL (l : List UInt8) : List UInt8 := if l = [] then [95] else l
def deadL (b : Bool) : List UInt8 := if b then [49] else [48]
def famW (f : Fam) : List (List UInt8) := [Lib.itoa f.id, f.client.data.toList, f.subject.data.toList, wordL f.scope.data.toList, Lib.itoa f.gen, Lib.itoa f.made, Lib.itoa f.used, wordL f.request.data.toList, deadL f.dead]
/-- an event's words, and its line -/
def evW (e : Ev) : List (List UInt8) := if e.kind = 2 then [[100], Lib.itoa e.id] else if e.kind = 3 then [[99], Lib.itoa e.time] else [112] :: famW e.fam
def evL (e : Ev) : List UInt8 := glue 32 (evW e)

theorem glue_free {c d : UInt8} (hcd : c ≠ d) : ∀ {ws : List (List UInt8)}, (∀ w ∈ ws, c ∉ w) → c ∉ glue d ws
  | [], _ => by simp [glue]
  | [w], h => h w (by simp)
  | w :: v :: r, h => by
    rw [glue, List.mem_append, List.mem_cons]
    have h1 := h w (by simp)
    have h2 := glue_free hcd (ws := v :: r) fun x hx => h x (List.mem_cons_of_mem _ hx)
    rintro (h3 | h3 | h3)
    · exact h1 h3
    · exact hcd h3
    · exact h2 h3
theorem okW_low {w : List UInt8} (h : okW w = true) {c : UInt8} (hc : ¬ (97 ≤ c.toNat ∧ c.toNat ≤ 122)) : c ∉ w := by
  intro hm
  simp only [okW, lowB, Bool.and_eq_true] at h
  have := List.all_eq_true.1 h.2 c hm
  simp at this
  omega
theorem scopeB_iff {l : List UInt8} : scopeB l = true ↔ scopeN l = 0 ∧ leastL l = l := by simp [scopeB]
theorem scopeB_free {l : List UInt8} (h : scopeB l = true) {c : UInt8} (h43 : c ≠ 43) (hc : ¬ (97 ≤ c.toNat ∧ c.toNat ≤ 122)) : c ∉ l := by
  rw [← (scopeB_iff.1 h).2]
  exact glue_free h43 fun w hw => okW_low (scopeL_ok hw) hc
theorem scopeB_len {l : List UInt8} (h : scopeB l = true) : l.length ≤ 45 := by
  have := leastL_len l
  rwa [(scopeB_iff.1 h).2] at this
theorem wordL_free {c : UInt8} (hc : c ≠ 95) {l : List UInt8} (h : c ∉ l) : c ∉ wordL l := by
  unfold wordL
  split
  · simpa using hc
  · exact h
theorem reqB_free {l : List UInt8} (h : reqB l = true) {c : UInt8} (hc : nameC c = false) : c ∉ l := by
  unfold reqB at h
  rw [Bool.or_eq_true, decide_eq_true_eq] at h
  rcases h with rfl | h
  · simp
  · exact nameB_free h hc
theorem famB_parts {f : Fam} (h : famB f = true) : okN f.id = true ∧ okN f.gen = true ∧ okN f.made = true ∧ okN f.used = true ∧ nameB f.client.data.toList = true ∧ nameB f.subject.data.toList = true ∧ reqB f.request.data.toList = true ∧ scopeB f.scope.data.toList = true := by
  unfold famB at h
  simp only [Bool.and_eq_true] at h
  obtain ⟨⟨⟨⟨⟨⟨⟨h1, h2⟩, h3⟩, h4⟩, h5⟩, h6⟩, h7⟩, h8⟩ := h
  exact ⟨h1, h2, h3, h4, h5, h6, h7, h8⟩
theorem famW_free {f : Fam} (h : famB f = true) : ∀ w ∈ famW f, (32 : UInt8) ∉ w := by
  obtain ⟨h1, h2, h3, h4, h5, h6, h7, h8⟩ := famB_parts h
  intro w hw
  simp only [famW, List.mem_cons, List.not_mem_nil, or_false] at hw
  rcases hw with rfl | rfl | rfl | rfl | rfl | rfl | rfl | rfl | rfl
  · exact itoa_free h1 (by decide)
  · exact nameB_free h5 (by decide)
  · exact nameB_free h6 (by decide)
  · exact wordL_free (by decide) (scopeB_free h8 (by decide) (by decide))
  · exact itoa_free h2 (by decide)
  · exact itoa_free h3 (by decide)
  · exact itoa_free h4 (by decide)
  · exact wordL_free (by decide) (reqB_free h7 (by decide))
  · unfold deadL; split <;> decide
theorem evW_ne (e : Ev) : evW e ≠ [] := by
  unfold evW
  split
  · simp
  · split <;> simp
theorem evB_kind {e : Ev} (h : evB e = true) : (e.kind = 1 ∧ e.id = 0 ∧ e.time = 0 ∧ famB e.fam = true) ∨ (e.kind = 2 ∧ e.fam = Fam.zero ∧ e.time = 0 ∧ okN e.id = true) ∨ (e.kind = 3 ∧ e.fam = Fam.zero ∧ e.id = 0 ∧ okN e.time = true) := by
  unfold evB at h
  split at h
  · rename_i hk
    simp only [Bool.and_eq_true, decide_eq_true_eq] at h
    exact .inl ⟨hk, h.1.1, h.1.2, h.2⟩
  · split at h
    · rename_i hk
      simp only [Bool.and_eq_true, decide_eq_true_eq, Fam.isZero_iff] at h
      exact .inr (.inl ⟨hk, h.1.1, h.1.2, h.2⟩)
    · split at h
      · rename_i hk
        simp only [Bool.and_eq_true, decide_eq_true_eq, Fam.isZero_iff] at h
        exact .inr (.inr ⟨hk, h.1.1, h.1.2, h.2⟩)
      · cases h
theorem evW_1 {e : Ev} (h : e.kind = 1) : evW e = [112] :: famW e.fam := by
  unfold evW; rw [h, if_neg (by decide), if_neg (by decide)]
theorem evW_2 {e : Ev} (h : e.kind = 2) : evW e = [[100], Lib.itoa e.id] := by
  unfold evW; rw [if_pos h]
theorem evW_3 {e : Ev} (h : e.kind = 3) : evW e = [[99], Lib.itoa e.time] := by
  unfold evW; rw [h, if_neg (by decide), if_pos rfl]
theorem evW_free {e : Ev} (h : evB e = true) : ∀ w ∈ evW e, (32 : UInt8) ∉ w := by
  intro w hw
  rcases evB_kind h with ⟨hk, _, _, hf⟩ | ⟨hk, _, _, hn⟩ | ⟨hk, _, _, hn⟩
  · rw [evW_1 hk, List.mem_cons] at hw
    rcases hw with rfl | hw
    · decide
    · exact famW_free hf w hw
  · rw [evW_2 hk] at hw
    simp only [List.mem_cons, List.not_mem_nil, or_false] at hw
    rcases hw with rfl | rfl
    · decide
    · exact itoa_free hn (by decide)
  · rw [evW_3 hk] at hw
    simp only [List.mem_cons, List.not_mem_nil, or_false] at hw
    rcases hw with rfl | rfl
    · decide
    · exact itoa_free hn (by decide)
theorem parts_evL {e : Ev} (h : evB e = true) : parts 32 (evL e) = evW e := parts_glue 32 _ (evW_ne e) (evW_free h)
theorem evL_iff {e : Ev} (h : evB e = true) {l : List UInt8} : evL e = l ↔ evW e = parts 32 l := by
  constructor
  · rintro rfl
    exact (parts_evL h).symm
  · intro he
    unfold evL
    rw [he, glue_parts]

/-- _ for none -/
def unL (l : List UInt8) : List UInt8 := if l = [95] then [] else l
/-- what the reference tries -/
def cand : List (List UInt8) → Ev
  | [_, a, b, c, d, e, f, g, h, i] => ⟨1, ⟨atoiN a, txt b, txt c, txt (unL d), atoiN e, atoiN f, atoiN g, txt (unL h), decide (i = [49])⟩, 0, 0⟩
  | [x, a] => if x = [100] then ⟨2, Fam.zero, atoiN a, 0⟩ else ⟨3, Fam.zero, 0, atoiN a⟩
  | _ => Ev.zero
/-- is a line an event's? which? -/
def readB (l : List UInt8) : Bool := evB (cand (parts 32 l)) && decide (evW (cand (parts 32 l)) = parts 32 l)
def readE (l : List UInt8) : Ev := if readB l then cand (parts 32 l) else Ev.zero
theorem readB_iff {l : List UInt8} : readB l = true ↔ evB (cand (parts 32 l)) = true ∧ evL (cand (parts 32 l)) = l := by
  unfold readB
  rw [Bool.and_eq_true, decide_eq_true_eq]
  constructor
  · rintro ⟨h1, h2⟩; exact ⟨h1, (evL_iff h1).2 h2⟩
  · rintro ⟨h1, h2⟩; exact ⟨h1, (evL_iff h1).1 h2⟩

/-- what the program's reader does: the words that are left, and whether they were not so -/
abbrev Rd := List (List UInt8) × Bool
def nextV : Rd → List UInt8
  | ([], _) => []
  | (x :: _, _) => x
def nextS : Rd → Rd
  | ([], _) => ([], true)
  | (_ :: r, b) => (r, b)
def numE (l : List UInt8) : Bool := atoiE l && decide (Lib.itoa (atoiN l) = l)
def numV (s : Rd) : Int := atoiN (nextV s)
def numS (s : Rd) : Rd := ((nextS s).1, (nextS s).2 || !numE (nextV s))
def textV (s : Rd) : List UInt8 := unL (nextV s)
def textS (s : Rd) : Rd := ((nextS s).1, (nextS s).2 || decide (nextV s = []))

/-- the family that the reader reads: what it is, and what is left -/
def famV (s : Rd) : Fam :=
  let s1 := numS s; let s2 := textS s1; let s3 := textS s2; let s4 := textS s3; let s5 := numS s4; let s6 := numS s5; let s7 := numS s6; let s8 := textS s7
  ⟨numV s, txt (textV s1), txt (textV s2), txt (textV s3), numV s4, numV s5, numV s6, txt (textV s7), decide (nextV s8 = [49])⟩
def famS (s : Rd) : Rd :=
  let s8 := textS (numS (numS (numS (textS (textS (textS (numS s)))))))
  ((nextS s8).1, (nextS s8).2 || (!decide (nextV s8 = [48]) && !decide (nextV s8 = [49])))
/-- the event that the program reads, and what is left -/
def progE (s : Rd) : Ev × Rd :=
  if nextV s = [112] then (⟨1, famV (nextS s), 0, 0⟩, famS (nextS s))
  else if nextV s = [100] then (⟨2, Fam.zero, numV (nextS s), 0⟩, numS (nextS s))
  else if nextV s = [99] then (⟨3, Fam.zero, 0, numV (nextS s)⟩, numS (nextS s))
  else (Ev.zero, ((nextS s).1, true))
/-- does the program take it? -/
def progB (s : Rd) : Bool := !(progE s).2.2 && decide ((progE s).2.1 = []) && evB (progE s).1
theorem evB_zero : evB Ev.zero = false := by decide
theorem evB_one {f : Fam} : evB ⟨1, f, 0, 0⟩ = famB f := by simp [evB]
theorem evB_two {n : Int} : evB ⟨2, Fam.zero, n, 0⟩ = okN n := by
  have := (Fam.isZero_iff (f := Fam.zero)).2 rfl
  simp [evB, this]
theorem evB_three {n : Int} : evB ⟨3, Fam.zero, 0, n⟩ = okN n := by
  have := (Fam.isZero_iff (f := Fam.zero)).2 rfl
  simp [evB, this]
theorem numE_of {l : List UInt8} (h : okN (atoiN l) = true) : numE l = decide (Lib.itoa (atoiN l) = l) := by
  unfold numE
  by_cases e : Lib.itoa (atoiN l) = l
  · have : atoiE l = true := by rw [← e]; exact atoiE_itoa h
    rw [this, Bool.true_and]
  · simp [e]
theorem okN_numE {l : List UInt8} : (okN (atoiN l) && numE l) = (okN (atoiN l) && decide (Lib.itoa (atoiN l) = l)) := by
  cases h : okN (atoiN l)
  · rfl
  · rw [numE_of h]
theorem nameB_un {l : List UInt8} : nameB (unL l) = nameB l := by
  unfold unL
  split
  · rename_i h
    subst h
    decide
  · rfl
end Go.Proofs.YtckohmhhcknmaaaGreatDoor

/-
  Families in a row, in plain Lean: their order by number; one put among them; one dropped; a state behind an event.
-/
namespace Go.Proofs.YtckohmhhcknmaaaGreatDoor

/-- by their numbers, each once -/
def Asc (L : List Fam) : Prop := L.Pairwise fun a b => a.id < b.id
/-- how many stand ahead of a number -/
def ahead (L : List Fam) (n : Int) : Nat := (L.takeWhile fun f => decide (f.id < n)).length
/-- is the number there? -/
def hasB (L : List Fam) (n : Int) : Bool := match L[ahead L n]? with
  | some f => decide (f.id = n)
  | none => false
def putL (L : List Fam) (f : Fam) : List Fam := if hasB L f.id then L.set (ahead L f.id) f else L.take (ahead L f.id) ++ f :: L.drop (ahead L f.id)
def dropL (L : List Fam) (n : Int) : List Fam := if hasB L n then L.take (ahead L n) ++ L.drop (ahead L n + 1) else L

structure St where
  clock : Int
  next : Int
  fams : List Fam
def applyS (s : St) (e : Ev) : St :=
  if e.kind = 1 then ⟨s.clock, max s.next (e.fam.id + 1), putL s.fams e.fam⟩
  else if e.kind = 2 then ⟨s.clock, s.next, dropL s.fams e.id⟩
  else if e.kind = 3 then ⟨e.time, s.next, s.fams⟩
  else s

theorem ahead_le (L : List Fam) (n : Int) : ahead L n ≤ L.length := (List.takeWhile_sublist _).length_le
theorem ahead_nil (n : Int) : ahead [] n = 0 := rfl
theorem ahead_cons (f : Fam) (L : List Fam) (n : Int) : ahead (f :: L) n = if f.id < n then ahead L n + 1 else 0 := by
  unfold ahead
  rw [List.takeWhile_cons]
  by_cases h : f.id < n
  · simp [h]
  · simp [h]
/-- ahead of that place all are below the number -/
theorem ahead_lt : ∀ {L : List Fam} {n : Int} {j : Nat}, j < ahead L n → ∃ f, L[j]? = some f ∧ f.id < n
  | [], n, j, h => by simp [ahead_nil] at h
  | f :: L, n, j, h => by
    rw [ahead_cons] at h
    split at h
    · rename_i hf
      cases j with
      | zero => exact ⟨f, rfl, hf⟩
      | succ j => exact ahead_lt (L := L) (by omega)
    · omega
/-- from there on none is -/
theorem ahead_ge : ∀ {L : List Fam} {n : Int}, Asc L → ∀ {j : Nat} {f : Fam}, ahead L n ≤ j → L[j]? = some f → n ≤ f.id
  | [], n, _, j, f, _, h => by simp at h
  | g :: L, n, ha, j, f, hj, h => by
    rw [ahead_cons] at hj
    obtain ⟨h1, h2⟩ := List.pairwise_cons.1 ha
    split at hj
    · cases j with
      | zero => omega
      | succ j => exact ahead_ge h2 (j := j) (by omega) (by simpa using h)
    · rename_i hg
      cases j with
      | zero =>
        simp at h
        subst h
        omega
      | succ j =>
        have hm : f ∈ L := List.mem_of_getElem? (by simpa using h)
        have := h1 f hm
        omega
/-- the one place of a search -/
theorem ahead_eq {L : List Fam} {n : Int} (ha : Asc L) {k : Nat} (hk : k ≤ L.length) (h1 : ∀ j f, j < k → L[j]? = some f → f.id < n) (h2 : ∀ j f, k ≤ j → L[j]? = some f → n ≤ f.id) : ahead L n = k := by
  rcases Nat.lt_trichotomy (ahead L n) k with h | h | h
  · obtain ⟨f, hf⟩ : ∃ f, L[ahead L n]? = some f := ⟨_, List.getElem?_eq_getElem (by omega)⟩
    have a := h1 _ f h hf
    have b := ahead_ge ha (Nat.le_refl _) hf
    omega
  · exact h
  · obtain ⟨f, hf, hlt⟩ := ahead_lt h
    have := h2 k f (Nat.le_refl _) hf
    omega
theorem hasB_some {L : List Fam} {n : Int} {f : Fam} (h : L[ahead L n]? = some f) : hasB L n = decide (f.id = n) := by unfold hasB; rw [h]
theorem hasB_none {L : List Fam} {n : Int} (h : ahead L n = L.length) : hasB L n = false := by
  unfold hasB
  rw [List.getElem?_eq_none (by omega)]
theorem hasB_lt {L : List Fam} {n : Int} (h : hasB L n = true) : ahead L n < L.length := by
  rcases Nat.lt_or_ge (ahead L n) L.length with h' | h'
  · exact h'
  · have := ahead_le L n
    rw [hasB_none (by omega)] at h
    cases h
theorem putL_len (L : List Fam) (f : Fam) : (putL L f).length ≤ L.length + 1 := by
  unfold putL
  split
  · simp
  · have := ahead_le L f.id
    simp
    omega
theorem dropL_len (L : List Fam) (n : Int) : (dropL L n).length ≤ L.length := by
  unfold dropL
  split
  · have := ahead_le L n
    simp
    omega
  · exact Nat.le_refl _
theorem mem_putL {L : List Fam} {f g : Fam} (h : g ∈ putL L f) : g = f ∨ g ∈ L := by
  unfold putL at h
  split at h
  · rcases List.mem_or_eq_of_mem_set h with h | h
    · exact .inr h
    · exact .inl h
  · rw [List.mem_append, List.mem_cons] at h
    rcases h with h | h | h
    · exact .inr (List.mem_of_mem_take h)
    · exact .inl h
    · exact .inr (List.mem_of_mem_drop h)
theorem mem_dropL {L : List Fam} {n : Int} {g : Fam} (h : g ∈ dropL L n) : g ∈ L := by
  unfold dropL at h
  split at h
  · rcases List.mem_append.1 h with h | h
    · exact List.mem_of_mem_take h
    · exact List.mem_of_mem_drop h
  · exact h
/-- those ahead are below the number, those behind above it, or it -/
theorem take_below {L : List Fam} {n : Int} {g : Fam} (h : g ∈ L.take (ahead L n)) : g.id < n := by
  obtain ⟨j, hj⟩ := List.mem_iff_getElem?.1 h
  rw [List.getElem?_take] at hj
  split at hj
  · rename_i hlt
    obtain ⟨f, hf, hid⟩ := ahead_lt hlt
    rw [hf] at hj
    cases hj
    exact hid
  · cases hj
theorem drop_above {L : List Fam} {n : Int} (ha : Asc L) {g : Fam} (h : g ∈ L.drop (ahead L n)) : n ≤ g.id := by
  obtain ⟨j, hj⟩ := List.mem_iff_getElem?.1 h
  rw [List.getElem?_drop] at hj
  exact ahead_ge ha (Nat.le_add_right _ _) hj
theorem drop_over {L : List Fam} {n : Int} (ha : Asc L) (hb : hasB L n = true) {g : Fam} (h : g ∈ L.drop (ahead L n + 1)) : n < g.id := by
  have hlt := hasB_lt hb
  have hd := List.drop_eq_getElem_cons hlt
  have hp : (L.drop (ahead L n)).Pairwise fun a b => a.id < b.id := ha.sublist (List.drop_sublist _ _)
  rw [hd] at hp
  have h1 := (List.pairwise_cons.1 hp).1 g h
  rw [hasB_some (List.getElem?_eq_getElem hlt), decide_eq_true_eq] at hb
  omega
theorem drop_over' {L : List Fam} {n : Int} (ha : Asc L) (hb : hasB L n = false) {g : Fam} (h : g ∈ L.drop (ahead L n)) : n < g.id := by
  have h1 := drop_above ha h
  rcases Int.lt_or_eq_of_le h1 with h2 | h2
  · exact h2
  · exfalso
    rcases Nat.lt_or_ge (ahead L n) L.length with hlt | hge
    · have hd := List.drop_eq_getElem_cons hlt
      have hp : (L.drop (ahead L n)).Pairwise fun a b => a.id < b.id := ha.sublist (List.drop_sublist _ _)
      rw [hd] at hp h
      have h3 : n ≤ L[ahead L n].id := ahead_ge ha (Nat.le_refl _) (List.getElem?_eq_getElem hlt)
      rw [hasB_some (List.getElem?_eq_getElem hlt), decide_eq_false_iff_not] at hb
      rcases List.mem_cons.1 h with rfl | h
      · omega
      · have := (List.pairwise_cons.1 hp).1 g h
        omega
    · rw [List.drop_eq_nil_of_le hge] at h
      simp at h
theorem set_parts {L : List Fam} {k : Nat} (h : k < L.length) (f : Fam) : L.set k f = L.take k ++ f :: L.drop (k + 1) := by
  rw [List.set_eq_take_append_cons_drop, if_pos h]
theorem asc_parts {a b : List Fam} {f : Fam} (ha : Asc a) (hb : Asc b) (h1 : ∀ g ∈ a, g.id < f.id) (h2 : ∀ g ∈ b, f.id < g.id) : Asc (a ++ f :: b) := by
  refine List.pairwise_append.2 ⟨ha, List.pairwise_cons.2 ⟨h2, hb⟩, ?_⟩
  intro x hx y hy
  have hx' := h1 x hx
  rcases List.mem_cons.1 hy with rfl | hy
  · exact hx'
  · have := h2 y hy
    omega
theorem putL_parts (L : List Fam) (f : Fam) : ∃ b, putL L f = L.take (ahead L f.id) ++ f :: b ∧ (Asc L → Asc b ∧ ∀ g ∈ b, f.id < g.id) := by
  unfold putL
  by_cases hb : hasB L f.id = true
  · rw [if_pos hb, set_parts (hasB_lt hb)]
    exact ⟨_, rfl, fun ha => ⟨ha.sublist (List.drop_sublist _ _), fun g hg => drop_over ha hb hg⟩⟩
  · rw [if_neg hb]
    exact ⟨_, rfl, fun ha => ⟨ha.sublist (List.drop_sublist _ _), fun g hg => drop_over' ha (by simpa using hb) hg⟩⟩
theorem putL_asc {L : List Fam} (ha : Asc L) (f : Fam) : Asc (putL L f) := by
  obtain ⟨b, e, h⟩ := putL_parts L f
  rw [e]
  exact asc_parts (ha.sublist (List.take_sublist _ _)) (h ha).1 (fun g hg => take_below hg) (h ha).2
theorem dropL_asc {L : List Fam} (ha : Asc L) (n : Int) : Asc (dropL L n) := by
  unfold dropL
  split
  · rename_i hb
    refine List.pairwise_append.2 ⟨ha.sublist (List.take_sublist _ _), ha.sublist (List.drop_sublist _ _), fun x hx y hy => ?_⟩
    have := take_below hx
    have := drop_over ha hb hy
    omega
  · exact ha
/-- fit to be told: in order, numbers in bounds -/
structure StOk (s : St) : Prop where
  asc : Asc s.fams
  ids : ∀ f ∈ s.fams, okN f.id = true
  len : s.fams.length ≤ 1000000
end Go.Proofs.YtckohmhhcknmaaaGreatDoor

/-
  EventBack in plain Lean: an event's line is at most 180 bytes, and is that event again; two events of two families make the same in whichever order.
-/
namespace Go.Proofs.YtckohmhhcknmaaaGreatDoor

theorem glue_sum (c : UInt8) : ∀ ws : List (List UInt8), (glue c ws).length ≤ (ws.map fun w => w.length + 1).sum
  | [] => by simp [glue]
  | [w] => by simp [glue]
  | w :: v :: r => by
    have := glue_sum c (v :: r)
    rw [glue, List.length_append, List.length_cons, List.map_cons, List.sum_cons]
    omega
theorem reqB_20 {l : List UInt8} (h : reqB l = true) : l.length ≤ 20 := by
  unfold reqB at h
  rw [Bool.or_eq_true, decide_eq_true_eq] at h
  rcases h with rfl | h
  · simp
  · exact nameB_len h
theorem wordL_le {l : List UInt8} {n : Nat} (h : l.length ≤ n) (hn : 1 ≤ n) : (wordL l).length ≤ n := by
  unfold wordL
  split
  · simpa using hn
  · exact h
/-- an event's line fits a block with its number -/
theorem evL_len {e : Ev} (h : evB e = true) : (evL e).length ≤ 180 := by
  unfold evL
  refine Nat.le_trans (glue_sum 32 _) ?_
  rcases evB_kind h with ⟨hk, _, _, hf⟩ | ⟨hk, _, _, hn⟩ | ⟨hk, _, _, hn⟩
  · obtain ⟨h1, h2, h3, h4, h5, h6, h7, h8⟩ := famB_parts hf
    have k1 := itoa_len h1
    have k2 := itoa_len h2
    have k3 := itoa_len h3
    have k4 := itoa_len h4
    have k5 := nameB_len h5
    have k6 := nameB_len h6
    have k7 := wordL_le (reqB_20 h7) (by decide)
    have k8 := wordL_le (scopeB_len h8) (by decide)
    have k9 : (deadL e.fam.dead).length = 1 := by unfold deadL; split <;> rfl
    rw [evW_1 hk]
    simp only [famW, List.map_cons, List.map_nil, List.sum_cons, List.sum_nil, List.length_cons, List.length_nil]
    omega
  · have := itoa_len hn
    rw [evW_2 hk]
    simp only [List.map_cons, List.map_nil, List.sum_cons, List.sum_nil, List.length_cons, List.length_nil]
    omega
  · have := itoa_len hn
    rw [evW_3 hk]
    simp only [List.map_cons, List.map_nil, List.sum_cons, List.sum_nil, List.length_cons, List.length_nil]
    omega

theorem unL_wordL {l : List UInt8} (h : (95 : UInt8) ∉ l) : unL (wordL l) = l := by
  unfold wordL
  split
  · rename_i e
    rw [e]
    rfl
  · unfold unL
    rw [if_neg]
    rintro rfl
    simp at h
theorem deadL_back (b : Bool) : decide (deadL b = [49]) = b := by cases b <;> decide
theorem cand_evW {e : Ev} (h : evB e = true) : cand (evW e) = e := by
  rcases evB_kind h with ⟨hk, hi, ht, hf⟩ | ⟨hk, hz, ht, hn⟩ | ⟨hk, hz, hi, hn⟩
  · obtain ⟨h1, h2, h3, h4, h5, h6, h7, h8⟩ := famB_parts hf
    have n7 : unL (wordL e.fam.request.data.toList) = e.fam.request.data.toList := unL_wordL (reqB_free h7 (by decide))
    have n8 : unL (wordL e.fam.scope.data.toList) = e.fam.scope.data.toList := unL_wordL (scopeB_free h8 (by decide) (by decide))
    rw [evW_1 hk]
    unfold famW cand
    obtain ⟨k, ⟨a, b, c, d, g, m, u, r, de⟩, id, ti⟩ := e
    dsimp only at *
    subst hk hi ht
    rw [n7, n8, atoiN_itoa h1, atoiN_itoa h2, atoiN_itoa h3, atoiN_itoa h4, txt_data, txt_data, txt_data, txt_data, deadL_back]
  · rw [evW_2 hk]
    obtain ⟨k, fam, id, ti⟩ := e
    dsimp only at *
    subst hk hz ht
    simp only [cand]
    rw [if_pos trivial, atoiN_itoa hn]
  · rw [evW_3 hk]
    obtain ⟨k, fam, id, ti⟩ := e
    dsimp only at *
    subst hk hz hi
    simp only [cand]
    rw [if_neg (by decide), atoiN_itoa hn]
/-- an event's line is that event again -/
theorem evL_back {e : Ev} (h : evB e = true) : readB (evL e) = true ∧ readE (evL e) = e := by
  have hc : cand (parts 32 (evL e)) = e := by rw [parts_evL h, cand_evW h]
  have hr : readB (evL e) = true := readB_iff.2 (by rw [hc]; exact ⟨h, rfl⟩)
  refine ⟨hr, ?_⟩
  unfold readE
  rw [if_pos hr, hc]

theorem applyS_1 {e : Ev} (h : e.kind = 1) (s : St) : applyS s e = ⟨s.clock, max s.next (e.fam.id + 1), putL s.fams e.fam⟩ := by unfold applyS; rw [if_pos h]
theorem applyS_2 {e : Ev} (h : e.kind = 2) (s : St) : applyS s e = ⟨s.clock, s.next, dropL s.fams e.id⟩ := by unfold applyS; rw [if_neg (by omega), if_pos h]
/-- what event.Apply keeps of a state -/
theorem applyS_asc {s : St} (ha : Asc s.fams) (e : Ev) : Asc (applyS s e).fams := by
  unfold applyS
  split
  · exact putL_asc ha _
  · split
    · exact dropL_asc ha _
    · split <;> exact ha
theorem applyS_ids {s : St} {e : Ev} (hs : ∀ f ∈ s.fams, okN f.id = true) (h1 : e.kind = 1 → okN e.fam.id = true) : ∀ f ∈ (applyS s e).fams, okN f.id = true := by
  intro f
  unfold applyS
  split
  · rename_i hk
    intro hf
    rcases mem_putL hf with rfl | hf
    · exact h1 hk
    · exact hs f hf
  · split
    · intro hf
      exact hs f (mem_dropL hf)
    · split <;> exact hs f
theorem applyS_len (s : St) (e : Ev) : (applyS s e).fams.length ≤ s.fams.length + 1 := by
  unfold applyS
  split
  · exact putL_len _ _
  · split
    · have := dropL_len s.fams e.id
      show (dropL s.fams e.id).length ≤ _
      omega
    · split <;> simp
end Go.Proofs.YtckohmhhcknmaaaGreatDoor
