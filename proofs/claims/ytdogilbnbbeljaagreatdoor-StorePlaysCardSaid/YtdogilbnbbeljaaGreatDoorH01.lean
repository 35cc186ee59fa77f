/-
  What the last step of every statement wants: the row's post behind a call that left old memory as it was; a slice of structs opened. (After the guide's pages on small lemmas and structs.)
-/
import Derived.Test.YtdogilbnbbeljaaGreatDoorRows
import Derived.WalkKit
import Derived.ProofKit
import Derived.OpenShut
import Derived.Deep.DeepHandedRow
import Derived.Deep.Slices
import Derived.Deep.Fields
import Derived.ChangeSame
import Derived.Lib.LaidTab
import Derived.Lib.SmallJoins
import Derived.LaidLaws
import Derived.LaidHandle
import Derived.SizedLaws
import Derived.Test.YtdogilbnbbeljaaGreatDoorCards
import Derived.Test.YtdogilbnbbeljaaGreatDoorTie
import Derived.Lib.ItoaLen
import Derived.Lib.AtoiTie
import Derived.Lib.AtoiAllCases
import Derived.Lib.SplitLaws
import Derived.Lib.Join
namespace Go.Proofs.YtdogilbnbbeljaaGreatDoor
open Go.ChangeShapes Go.WideShapes Go.ChangeAt Go.RowKit Go.Deep

theorem own_knob : ownKnob Tryz.prog.godebug = none := by kernel_rfl
theorem laid_out : laidOutB Tryz.prog = true := by kernel_rfl

section
variable {H : Type} {enc : TypeId × Value → H} {P : Program}
theorem post_of_below {f : Func} {s : ChangeSpec} {apart fresh handsOn again : Bool} {W W' : World} {args : Array Value} {v : Value} {ds gs : List (DataW H)} {before pa pv : List MemPlace}
    (hW : DataW.Whole enc P f.params.toList s.vars apart W args.toList ds gs before)
    (hres : ∀ (b : Nat) (sp : Nat → Bool) (hd : Bool), DataW.TrodAll enc P W' b sp hd f.resultTypes.toList (v.resultList f.resultTypes.size) (s.fn H (ds ++ gs)).results [])
    (hargs : ∀ sp : Nat → Bool, (∀ p ∈ before, sp p.block = true) → DataW.TrodAll enc P W' 0 sp true f.params.toList args.toList (s.fn H (ds ++ gs)).args pa)
    (hvars : ∀ sp : Nat → Bool, (∀ p ∈ before, sp p.block = true) → DataW.TrodVars enc P W' sp s.vars (s.fn H (ds ++ gs)).vars pv)
    (hps : before = pa ++ pv) (hb : Below W.heap.size W W')
    (hok : ∀ (j : Nat) (t : TypeId) (r : Value), f.resultTypes[j]? = some t → (v.resultList f.resultTypes.size)[j]? = some r → Value.okWide P W' .any 0 t r) :
    s.post enc P f apart fresh handsOn again W args v W' := by
  have hlt : ∀ p ∈ before, p.block < W.heap.size := fun p hp => hW.lt p hp
  have hold : ∀ p ∈ before, (fun b => decide (b < W.heap.size)) p.block = true := fun p hp => by simpa using hlt p hp
  refine ⟨ds, gs, before, [], pa, pv, hW, hres _ _ _, hargs _ hold, hvars _ hold, World.keptBut_mono (fun p hp => ⟨hp, ?_⟩) (hb.frame (· ∈ before)), fun _ => ?_⟩
  · rw [hps, List.mem_append] at hp
    exact Or.inr hp
  · obtain ⟨_, _, _, _, _, hz, hn⟩ := hW
    refine ⟨hok, _, _, ([] ++ pa) ++ pv, ⟨[] ++ pa, pv, trodAll_append (hargs _ (fun _ _ => rfl)) (hres _ _ _), hvars _ (fun _ _ => rfl), rfl, ?_, ?_⟩, ?_⟩
    · intro b off hp
      have hin : MemPlace.cell b off ∈ before := by rw [hps]; simpa using hp
      rw [hb.frozen (hlt _ hin)]
      exact hz b off hin
    · intro ha
      have := hn ha
      rw [hps] at this
      simpa using this
    · intro p hp _
      rw [hps]
      simpa using hp
end

section
variable {H : Type} {enc : TypeId × Value → H} {P : Program} {w : World} {base : Nat} {spare : Nat → Bool} {held : Bool}
theorem open_slice_fields {t e : TypeId} {fs : Array Field} {fuel : Nat} {cs : List Value} {x : DataW H × List MemPlace} (ht : P.underlying t = some (.slice e)) (he : P.underlying e = some (.struct fs))
    (hone : oneCellFields P fs = true) (hC : P.cellsOf e = fs.size) (h : DataW.trod enc P w base spare held fuel t cs = some x) :
    (cs = [.slice none 0 0] ∧ x = (.nil, [])) ∨
    ∃ (a : Addr) (len cap m : Nat) (D : Nat → DataW H) (Pl : Nat → List MemPlace), cs = [.slice (some a) len cap] ∧ base ≤ a.block ∧ len ≤ cap ∧ cap ≤ maxLen ∧ m = (if spare a.block then cap else len) ∧
      x = (.slice ((List.range len).map D) ((List.range (m - len)).map fun j => D (len + j)), MemPlace.row a (m * fs.size) ++ (List.range m).flatMap Pl) ∧
      ∀ i, i < m → ∃ (ys : List (DataW H × List MemPlace)) (n : Nat), D i = .agg (ys.map (·.1)) ∧ Pl i = ys.flatMap (·.2) ∧ ys.length = fs.size ∧
        ∀ (j : Nat) (f : Field), fs[j]? = some f → ∃ (v : Value) (y : DataW H × List MemPlace), w.cell? (a.add (i * fs.size + j)) = some v ∧ ys[j]? = some y ∧ DataW.trod enc P w base spare held n f.type [v] = some y := by
  rcases open_slice ht h with h0 | ⟨a, len, cap, m, n, D, Pl, hcs, hb, hl, hm, hmm, hx, hi⟩
  · exact .inl h0
  · refine .inr ⟨a, len, cap, m, D, Pl, hcs, hb, hl, hm, hmm, by rw [hC] at hx; exact hx, fun i him => ?_⟩
    obtain ⟨cs', hc, ht'⟩ := hi i him
    rw [hC] at hc
    obtain ⟨ys, n', hn', hy, hlen, hyl, hf⟩ := DataW.trod_struct he ht'
    obtain ⟨_, hcl, hat⟩ := World.cells?_some hc
    simp only [Prod.mk.injEq] at hy
    refine ⟨ys, n', hy.1, hy.2, hyl, fun j f hj => ?_⟩
    obtain ⟨ho, hk⟩ := hone_of hone j f hj
    have hjl : j < fs.size := (Array.getElem?_eq_some_iff.1 hj).1
    have hcell := hat j hjl
    have hv : cs'[j]? = some (cs'[j]'(by omega)) := List.getElem?_eq_getElem (by omega)
    have h1 := hf j f hj
    rw [ho, hk] at h1
    have hone' : (cs'.drop j).take 1 = [cs'[j]'(by omega)] := by
      rw [List.drop_eq_getElem_cons (by omega)]
      rfl
    rw [hone'] at h1
    have hys : ys[j]? = some (ys[j]'(by omega)) := List.getElem?_eq_getElem (by omega)
    refine ⟨_, _, ?_, hys, h1.trans hys⟩
    rw [← Go.Deep.add_add, hcell, hv]
end

/-- a text that came in: its reach -/
theorem string_reach {H : Type} {enc : TypeId × Value → H} {P : Program} {W : World} {base : Nat} {sp : Nat → Bool} {held : Bool} {t : TypeId} {s : ByteArray} {d : DataW H} {p : List MemPlace} {ts : List TypeId} {ds : List (DataW H)} {j : Nat}
    (ht : P.underlying t = some .string) (h : DataW.Trod enc P W base sp held t (.string s) d p) (hwt : (DataW.weightsEach P ts ds).all (· ≤ reachBytes) = true) (hts : ts[j]? = some t) (hds : ds[j]? = some d) : s.size ≤ 140737488351232 ∧ d = .lit (.string s.data.toList) := by
  obtain ⟨fuel, hf⟩ := h
  obtain ⟨s', e, e2, _⟩ := DataW.trod_string ht hf
  simp only [Value.cells, List.cons.injEq, Value.string.injEq, and_true] at e
  subst e
  simp only [Prod.mk.injEq] at e2
  have e3 := e2.1
  subst e3
  have := sized_string hwt hts hds
  refine ⟨?_, rfl⟩
  have hz : s.data.toList.length = s.size := by cases s; simp [ByteArray.size]
  rw [hz] at this
  exact this
theorem cell_add {w : World} {a : Addr} {k : Nat} {v : Value} (h : w.cell? (a.add k) = some v) : w.cell? ⟨a.block, a.off + k, none⟩ = some v ∧ a.block < w.heap.size ∧ (k = 0 → a.spot = none) := by
  unfold Addr.add at h
  by_cases hk : k = 0
  · subst hk
    rw [if_pos rfl] at h
    have hs : a.spot = none := by
      cases e : a.spot with
      | none => rfl
      | some s => simp [World.cell?, e] at h; split at h <;> simp at h
    obtain ⟨b, o, sp⟩ := a
    simp only at hs
    subst hs
    refine ⟨h, ?_, fun _ => rfl⟩
    rcases Nat.lt_or_ge b w.heap.size with h' | h'
    · exact h'
    · simp [World.cell?, Array.getElem?_eq_none h'] at h
  · rw [if_neg hk] at h
    refine ⟨h, ?_, fun e => absurd e hk⟩
    rcases Nat.lt_or_ge a.block w.heap.size with h' | h'
    · exact h'
    · simp [World.cell?, Array.getElem?_eq_none h'] at h
/-- what a cell holds, as a number, a text, a bool -/
def cellInt : Option Value → Int | some (.int _ n) => n | _ => 0
def cellStr : Option Value → ByteArray | some (.string s) => s | _ => ByteArray.empty
def cellBool : Option Value → Bool | some (.bool b) => b | _ => false
end Go.Proofs.YtdogilbnbbeljaaGreatDoor

/-
  What the last step of every statement that is a card wants.
-/


/-
  Numbers from 0 to MaxNumber and their numerals, in plain Lean: a numeral is read again; its bytes are digits.
-/
namespace Go.Proofs.YtdogilbnbbeljaaGreatDoor

def okN (x : Int) : Bool := decide (0 ≤ x) && decide (x ≤ 1099511627776)
theorem okN_iff {x : Int} : okN x = true ↔ 0 ≤ x ∧ x ≤ 1099511627776 := by simp [okN]
/-- strconv.Atoi's number -/
def atoiN (l : List UInt8) : Int := match Lib.atoiAll l with
  | .ok v => v
  | Lib.NumEnd.syntax => 0
  | .range => Lib.atoiSat l
/-- strconv.Atoi gives no error -/
def atoiE (l : List UInt8) : Bool := match Lib.atoiAll l with
  | .ok _ => true
  | _ => false

theorem decFrom_app : ∀ (a b : List UInt8) (n : Nat), Lib.decFrom n (a ++ b) = (Lib.decFrom n a).bind fun m => Lib.decFrom m b
  | [], _, _ => rfl
  | x :: a, b, n => by
    rw [List.cons_append, Lib.decFrom, Lib.decFrom]
    cases Lib.digitVal x with
    | none => rfl
    | some d => exact decFrom_app a b _
theorem digitVal_of {d : Nat} (h : d < 10) : Lib.digitVal (UInt8.ofNat (48 + d)) = some d := by
  have e : (UInt8.ofNat (48 + d)).toNat = 48 + d := by
    rw [UInt8.toNat_ofNat']; omega
  unfold Lib.digitVal
  rw [e, if_pos (by omega)]
  congr 1
  omega
theorem decFrom_digits : ∀ (n u : Nat), u ≤ n → Lib.decFrom 0 (Lib.decDigits u) = some u
  | n, u, hn => by
    by_cases h : u < 10
    · rw [Lib.decDigits_one h, Lib.decFrom, digitVal_of h]
      simp [Lib.decFrom]
    · rw [Lib.decDigits, dif_neg h, decFrom_app]
      cases n with
      | zero => omega
      | succ n =>
        rw [decFrom_digits n (u / 10) (by omega)]
        simp only [Option.bind_some]
        rw [Lib.decFrom]
        rw [digitVal_of (by omega)]
        simp only [Lib.decFrom]
        congr 1
        omega
theorem isDigit_digits : ∀ (n u : Nat), u ≤ n → ∀ b ∈ Lib.decDigits u, 48 ≤ b.toNat ∧ b.toNat ≤ 57
  | n, u, hn, b, hb => by
    have one : ∀ d, d < 10 → 48 ≤ (UInt8.ofNat (48 + d)).toNat ∧ (UInt8.ofNat (48 + d)).toNat ≤ 57 := fun d h => by
      rw [UInt8.toNat_ofNat']; omega
    by_cases h : u < 10
    · rw [Lib.decDigits_one h, List.mem_singleton] at hb
      subst hb
      exact one u h
    · rw [Lib.decDigits, dif_neg h, List.mem_append, List.mem_singleton] at hb
      rcases hb with hb | rfl
      · cases n with
        | zero => omega
        | succ n => exact isDigit_digits n (u / 10) (by omega) b hb
      · exact one _ (by omega)
theorem digits_ne (u : Nat) : Lib.decDigits u ≠ [] := by
  by_cases h : u < 10
  · rw [Lib.decDigits_one h]; simp
  · rw [Lib.decDigits, dif_neg h]; simp
theorem nDigits_le : ∀ (k u : Nat), u < 10 ^ (k + 1) → Lib.nDigits u ≤ k + 1
  | 0, u, h => by rw [Lib.nDigits_small (by simpa using h)]; exact Nat.le_refl _
  | k + 1, u, h => by
    by_cases hu : u < 10
    · rw [Lib.nDigits_small hu]; omega
    · rw [Lib.nDigits_big hu]
      have := nDigits_le k (u / 10) (by rw [Nat.pow_succ] at h ⊢; rw [Nat.pow_succ] at h; omega)
      omega
theorem itoa_of {x : Int} (h : okN x = true) : Lib.itoa x = Lib.decDigits x.toNat := by
  have := okN_iff.1 h
  unfold Lib.itoa
  rw [if_neg (by omega)]
theorem itoa_len {x : Int} (h : okN x = true) : (Lib.itoa x).length ≤ 13 := by
  have := okN_iff.1 h
  rw [itoa_of h, Lib.decDigits_length]
  exact nDigits_le 12 _ (by omega)
theorem itoa_ne {x : Int} (h : okN x = true) : Lib.itoa x ≠ [] := by rw [itoa_of h]; exact digits_ne _
theorem itoa_digits {x : Int} (h : okN x = true) : ∀ b ∈ Lib.itoa x, 48 ≤ b.toNat ∧ b.toNat ≤ 57 := by rw [itoa_of h]; exact isDigit_digits _ _ (Nat.le_refl _)
theorem itoa_free {x : Int} (h : okN x = true) {c : UInt8} (hc : ¬ (48 ≤ c.toNat ∧ c.toNat ≤ 57)) : c ∉ Lib.itoa x := fun hm => hc (itoa_digits h c hm)
/-- a numeral is read again -/
theorem atoi_itoa {x : Int} (h : okN x = true) : Lib.atoiAll (Lib.itoa x) = .ok x := by
  have hx := okN_iff.1 h
  rw [Lib.atoiAll_short _ (by have := itoa_len h; omega)]
  have hd := itoa_digits h
  have he : Lib.decNat (Lib.itoa x) = some x.toNat := by
    unfold Lib.decNat
    rw [itoa_of h]
    rw [if_neg (by simpa using digits_ne _), decFrom_digits _ _ (Nat.le_refl _)]
  rcases e : Lib.itoa x with _ | ⟨b, r⟩
  · exact absurd e (itoa_ne h)
  · have hb := hd b (by rw [e]; simp)
    rw [e] at he
    have h45 : (b == 45) = false := by
      rw [beq_eq_false_iff_ne]; rintro rfl; simp at hb
    have h43 : (b == 43) = false := by
      rw [beq_eq_false_iff_ne]; rintro rfl; simp at hb
    simp only [Lib.atoi, h45, h43, he]
    simp [Lib.NumEnd.ofOption]
    omega
theorem atoiN_itoa {x : Int} (h : okN x = true) : atoiN (Lib.itoa x) = x := by unfold atoiN; rw [atoi_itoa h]
theorem atoiE_itoa {x : Int} (h : okN x = true) : atoiE (Lib.itoa x) = true := by unfold atoiE; rw [atoi_itoa h]
theorem itoa_inj {x y : Int} (hx : okN x = true) (hy : okN y = true) (h : Lib.itoa x = Lib.itoa y) : x = y := by rw [← atoiN_itoa hx, h, atoiN_itoa hy]
theorem atoiN_bounds (l : List UInt8) : -9223372036854775808 ≤ atoiN l ∧ atoiN l ≤ 9223372036854775807 := by
  unfold atoiN
  rcases e : Lib.atoiAll l with _ | _ | v
  all_goals first | exact Lib.atoiAll_bounds e | exact Lib.atoiSat_bounds l | (simp)
/-- a number that is written just so, from 0 to MaxNumber -/
def numB (l : List UInt8) : Bool := atoiE l && decide (Lib.itoa (atoiN l) = l) && okN (atoiN l)
theorem numB_iff {l : List UInt8} : numB l = true ↔ okN (atoiN l) = true ∧ Lib.itoa (atoiN l) = l := by
  unfold numB
  simp only [Bool.and_eq_true, decide_eq_true_eq]
  constructor
  · rintro ⟨⟨_, h2⟩, h3⟩
    exact ⟨h3, h2⟩
  · rintro ⟨h3, h2⟩
    refine ⟨⟨?_, h2⟩, h3⟩
    rw [← h2]
    exact atoiE_itoa h3
theorem numB_itoa {x : Int} (h : okN x = true) : numB (Lib.itoa x) = true := by
  rw [numB_iff, atoiN_itoa h]; exact ⟨h, rfl⟩
end Go.Proofs.YtdogilbnbbeljaaGreatDoor

/-
  A text parted at a byte, in plain Lean: what strings.Split gives; joined again it is the text; the parts of two texts with that byte between.
-/
namespace Go.Proofs.YtdogilbnbbeljaaGreatDoor

/-- the words of a text, parted at c -/
def parts (c : UInt8) : List UInt8 → List (List UInt8)
  | [] => [[]]
  | x :: l => if x = c then [] :: parts c l else
    match parts c l with
    | [] => [[x]]
    | w :: r => (x :: w) :: r

theorem parts_ne (c : UInt8) (l : List UInt8) : parts c l ≠ [] := by
  cases l with
  | nil => simp [parts]
  | cons x l =>
    unfold parts
    split
    · simp
    · split <;> simp
theorem parts_pos (c : UInt8) (l : List UInt8) : 0 < (parts c l).length := by
  have := parts_ne c l
  rcases h : parts c l with _ | ⟨a, r⟩
  · exact absurd h this
  · simp
theorem parts_sep (c : UInt8) (l : List UInt8) : parts c (c :: l) = [] :: parts c l := by simp [parts]
theorem parts_cons {c x : UInt8} (h : x ≠ c) {l w : List UInt8} {r : List (List UInt8)} (e : parts c l = w :: r) : parts c (x :: l) = (x :: w) :: r := by
  rw [parts, if_neg h, e]
theorem parts_none {c : UInt8} : ∀ {l : List UInt8}, c ∉ l → parts c l = [l]
  | [], _ => rfl
  | x :: l, h => by
    simp only [List.mem_cons, not_or] at h
    rw [parts_cons (Ne.symm h.1) (parts_none h.2)]
theorem parts_app {c : UInt8} : ∀ (a : List UInt8) (b : List UInt8), parts c (a ++ c :: b) = parts c a ++ parts c b
  | [], b => by simp [parts]
  | x :: a, b => by
    by_cases h : x = c
    · subst h
      rw [List.cons_append, parts_sep, parts_sep, parts_app a b, List.cons_append]
    · rcases e : parts c a with _ | ⟨w, r⟩
      · exact absurd e (parts_ne c a)
      · rw [parts_cons h e, List.cons_append, parts_cons h (by rw [parts_app a b, e, List.cons_append]), List.cons_append]
theorem parts_head {c : UInt8} {a : List UInt8} (h : c ∉ a) (b : List UInt8) : parts c (a ++ c :: b) = a :: parts c b := by
  rw [parts_app, parts_none h]; rfl
/-- no part has the byte -/
theorem parts_free (c : UInt8) : ∀ (l : List UInt8), ∀ w ∈ parts c l, c ∉ w
  | [], w, h => by simp [parts] at h; simp [h]
  | x :: l, w, h => by
    by_cases hx : x = c
    · subst hx
      rw [parts_sep] at h
      rcases List.mem_cons.1 h with rfl | h
      · simp
      · exact parts_free x l w h
    · rcases e : parts c l with _ | ⟨v, r⟩
      · exact absurd e (parts_ne c l)
      · rw [parts_cons hx e] at h
        rcases List.mem_cons.1 h with rfl | h
        · have := parts_free c l v (by rw [e]; exact List.mem_cons_self)
          simp [this, Ne.symm hx]
        · exact parts_free c l w (by rw [e]; exact List.mem_cons_of_mem _ h)

/-- words with one byte between -/
def glue (c : UInt8) : List (List UInt8) → List UInt8
  | [] => []
  | [w] => w
  | w :: v :: r => w ++ c :: glue c (v :: r)

theorem glue_cons (c : UInt8) (w : List UInt8) {r : List (List UInt8)} (h : r ≠ []) : glue c (w :: r) = w ++ c :: glue c r := by
  cases r with
  | nil => exact absurd rfl h
  | cons v r => rfl
theorem glue_join (c : UInt8) : ∀ ws : List (List UInt8), Lib.join ws [c] = glue c ws
  | [] => rfl
  | [w] => Lib.join_one w [c]
  | w :: v :: r => by
    have h := glue_join c (v :: r)
    rw [Lib.join_cons] at h
    rw [Lib.join_cons, glue, ← h]
    simp [Lib.joinTail]
theorem glue_parts (c : UInt8) : ∀ l : List UInt8, glue c (parts c l) = l
  | [] => rfl
  | x :: l => by
    have ih := glue_parts c l
    by_cases hx : x = c
    · subst hx
      rw [parts_sep, glue_cons x [] (parts_ne x l), ih]; rfl
    · rcases e : parts c l with _ | ⟨v, r⟩
      · exact absurd e (parts_ne c l)
      · rw [parts_cons hx e]
        rw [e] at ih
        cases r with
        | nil => simp only [glue] at ih ⊢; rw [ih]
        | cons u r => rw [glue_cons _ _ (by simp)] at ih ⊢; rw [← ih]; rfl
theorem parts_glue (c : UInt8) : ∀ ws : List (List UInt8), ws ≠ [] → (∀ w ∈ ws, c ∉ w) → parts c (glue c ws) = ws
  | [], h, _ => absurd rfl h
  | [w], _, h => parts_none (h w (by simp))
  | w :: v :: r, _, h => by
    rw [glue, parts_head (h w (by simp)), parts_glue c (v :: r) (by simp) (fun x hx => h x (List.mem_cons_of_mem _ hx))]
theorem glue_app (c : UInt8) : ∀ (a b : List (List UInt8)), a ≠ [] → b ≠ [] → glue c (a ++ b) = glue c a ++ c :: glue c b
  | [], _, h, _ => absurd rfl h
  | [w], b, _, hb => by rw [List.singleton_append, glue_cons c w hb]; rfl
  | w :: v :: r, b, _, hb => by
    rw [List.cons_append, glue_cons c w (by simp), glue_app c (v :: r) b (by simp) hb, glue_cons c w (by simp)]
    simp

/-- a byte that is no seam behind a text: the last part grows -/
theorem parts_grow {c x : UInt8} (h : x ≠ c) {a : List UInt8} {d : List (List UInt8)} {w : List UInt8} (e : parts c a = d ++ [w]) : parts c (a ++ [x]) = d ++ [w ++ [x]] := by
  have hfree := parts_free c a
  have ha : a = glue c (d ++ [w]) := by rw [← e, glue_parts]
  have e2 : a ++ [x] = glue c (d ++ [w ++ [x]]) := by
    by_cases hd : d = []
    · subst hd; rw [ha]; rfl
    · rw [ha, glue_app c d _ hd (by simp), glue_app c d _ hd (by simp)]
      simp [glue]
  rw [e2, parts_glue c _ (by simp)]
  intro v hv
  rcases List.mem_append.1 hv with hv | hv
  · exact hfree v (by rw [e]; exact List.mem_append.2 (.inl hv))
  · rw [List.mem_singleton] at hv
    subst hv
    have := hfree w (by rw [e]; simp)
    simp [this, Ne.symm h]
theorem parts_seam {c : UInt8} {a : List UInt8} : parts c (a ++ [c]) = parts c a ++ [[]] := by
  have := parts_app (c := c) a []
  simpa [parts] using this

theorem first_of {c : UInt8} : ∀ {l : List UInt8}, c ∈ l → ∃ a b, l = a ++ c :: b ∧ c ∉ a
  | [], h => by simp at h
  | x :: l, h => by
    by_cases hx : x = c
    · exact ⟨[], l, by simp [hx], by simp⟩
    · have hc' : c ∈ l := by simpa [Ne.symm hx] using h
      obtain ⟨a, b, rfl, ha⟩ := first_of hc'
      exact ⟨x :: a, b, rfl, by simp [ha, Ne.symm hx]⟩
/-- what strings.Split gives -/
theorem splitK_parts (c : UInt8) : ∀ (n : Nat) (l : List UInt8), l.length ≤ n → Lib.splitK [c] 0 (Lib.count l [c]) l = parts c l
  | 0, l, h => by
    obtain rfl : l = [] := List.eq_nil_of_length_eq_zero (by omega)
    rfl
  | n + 1, l, h => by
    by_cases hc : c ∈ l
    · obtain ⟨a, b, rfl, ha⟩ := first_of hc
      have hi : ∀ a : List UInt8, c ∉ a → Lib.index (a ++ c :: b) [c] = (a.length : Int) := by
        intro a ha
        induction a with
        | nil => simp [Lib.index, List.isPrefixOf]
        | cons x a ih =>
          simp only [List.mem_cons, not_or] at ha
          have hp : ([c] : List UInt8).isPrefixOf (x :: (a ++ c :: b)) = false := by simp [List.isPrefixOf, ha.1]
          rw [List.cons_append, Lib.index, hp, ih ha.2]
          simp
      have hi' := hi a ha
      rw [Lib.count_hit (by simp) hi']
      have e1 : (a ++ c :: b).drop (a.length + [c].length) = b := by
        rw [← List.drop_drop, List.drop_left]; rfl
      have e0 : ∀ k, Lib.splitK [c] 0 (k + 1) (a ++ c :: b) = a :: Lib.splitK [c] 0 k b := by
        intro k
        rw [Lib.splitK, hi', if_neg (by simp)]
        have : (a.length : Int).toNat = a.length := by omega
        rw [this, e1]
        simp
      rw [e1, Nat.add_comm 1, e0, parts_head ha, splitK_parts c n b (by simp at h; omega)]
    · have hz : Lib.count l [c] = 0 := by rw [Lib.count_one]; exact List.count_eq_zero.2 hc
      rw [hz, parts_none hc]
      rfl
theorem splitB_parts (c : UInt8) (s : ByteArray) : (Lib.splitB ⟨#[c]⟩ 0 (Lib.countB s ⟨#[c]⟩) s).map (·.data.toList) = parts c s.data.toList := by
  rw [Lib.splitB_data]
  exact splitK_parts c _ _ (Nat.le_refl _)
theorem countB_parts (c : UInt8) (s : ByteArray) : Lib.countB s ⟨#[c]⟩ + 1 = (parts c s.data.toList).length := by
  rw [← splitB_parts, List.length_map, Lib.splitB_all ⟨#[c]⟩ (Nat.le_refl _) 0 _ s rfl]
end Go.Proofs.YtdogilbnbbeljaaGreatDoor
