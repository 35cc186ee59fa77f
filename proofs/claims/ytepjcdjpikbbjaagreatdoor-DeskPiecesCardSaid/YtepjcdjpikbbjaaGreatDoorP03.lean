/-
  strings.Split at one byte, strings.Trim at a set of letters: by the shelf's contracts, told of rows of texts.
-/
import Derived.Test.YtepjcdjpikbbjaaGreatDoorP01
import Derived.Test.YtepjcdjpikbbjaaGreatDoorP02
import Derived.OwnWalkIn
import Derived.TacticsInMore
import Derived.LoopNIn
import Derived.LoopIn
import Derived.RangeFuncCalls
import Derived.Lib.ItoaLen
import Derived.Lib.AtoiTie
import Derived.Lib.AtoiAllCases
import Derived.Lib.SlicesCompact
import Derived.Sort.KeysCollected
import Derived.Maps.OwnOps
import Derived.Maps.OwnSet
import Derived.Maps.Views
import Derived.StringKeys
namespace Go.Proofs.YtepjcdjpikbbjaaGreatDoor
open Go.RowKit Go.Sort

/-- the library's variable that strings.Index reads holds some number -/
def MaxL (w : World) : Prop := ∃ m, w.cell? ⟨4, 0, none⟩ = some (.int .i64 m)
theorem maxL_of {w : World} (h : w.ShapedOpen Tryz.prog) : MaxL w := Tryz.spl146.s1_3 w h
theorem MaxL.lt {w : World} (h : MaxL w) : 4 < w.heap.size := by
  obtain ⟨m, hm⟩ := h
  exact World.block_lt_of_cell? w _ hm
theorem MaxL.below {B : Nat} {w w' : World} (h : MaxL w) (hb : Below B w w') (hB : 4 < B) : MaxL w' := by
  obtain ⟨m, hm⟩ := h
  exact ⟨m, (hb.cell (p := ⟨4, 0, none⟩) hB).trans hm⟩
theorem MaxL.below' {w w' : World} (h : MaxL w) (hb : Below w.heap.size w w') : MaxL w' := h.below hb h.lt

theorem split_row (c : UInt8) (s : ByteArray) (B : Nat) (w : World) (hs : s.size ≤ 1000000) (hm : MaxL w) (hB : B ≤ w.heap.size) :
    Calls Tryz.prog 13 #[.string s, .string ⟨#[c]⟩] w fun e w' => ∃ v, e = .returned v ∧ Row w' B v (parts c s.data.toList) ∧ Below w.heap.size w w' := by
  obtain ⟨m, hm⟩ := hm
  refine (Any.strings_Split { Tryz.spl146 with } Tryz.spl146.i9 s ⟨#[c]⟩ m w (by omega) hm (Nat.le_refl _)).mono ?_
  rintro e w' ⟨rfl, rfl⟩
  have e1 : (Lib.splitB ⟨#[c]⟩ 0 (Lib.countB s ⟨#[c]⟩) s).map Value.string = (parts c s.data.toList).map encStr := by
    rw [← splitB_parts, Lib.map_encStr]
  have e2 := countB_parts c s
  have hl := parts_len c s.data.toList
  rw [size_data] at hl
  refine ⟨_, rfl, ?_, (Below.refl _ _).alloc (Nat.le_refl _) _⟩
  rw [e1, e2]
  exact Row.new hB (by unfold maxLen; omega)

theorem dropWhile_all {p : UInt8 → Bool} {l : List UInt8} : l.dropWhile p = [] ↔ l.all p = true := by
  induction l with
  | nil => simp
  | cons x l ih =>
    by_cases h : p x = true
    · rw [List.dropWhile_cons_of_pos h, ih]; simp [h]
    · rw [List.dropWhile_cons_of_neg h]; simp [h]
theorem dropWhile_stop {p : UInt8 → Bool} {l : List UInt8} (h : (l.dropWhile p).all p = true) : l.dropWhile p = [] := by
  rcases e : l.dropWhile p with _ | ⟨x, r⟩
  · rfl
  · exfalso
    have h2 := List.all_eq_true.1 h x (by rw [e]; simp)
    have h3 := List.head?_dropWhile_not p l
    rw [e] at h3
    simp [h2] at h3
theorem trimS_nil (l cs : List UInt8) : Lib.trimS l cs = [] ↔ l.all (cs.contains ·) = true := by
  unfold Lib.trimS Lib.trimRightS Lib.trimLeftS
  rw [dropWhile_all, List.all_reverse]
  constructor
  · intro h
    have := dropWhile_all.1 (dropWhile_stop h)
    rwa [List.all_reverse] at this
  · intro h
    rw [dropWhile_all.2 (by rw [List.all_reverse]; exact h)]
    rfl
def NotEmpty (e : Ending) : Prop := ∃ y : ByteArray, e = .returned (.string y) ∧ y.toList.isEmpty = false
theorem trim_set (cs : ByteArray) (x : ByteArray) (w : World) (hx : x.size ≤ 1000000) (hc : cs.size < 4294967281) (ha : ∀ (j : Nat) b, cs.data.toList[j]? = some b → b.toNat < 128) :
    (x.data.toList.all (cs.data.toList.contains ·) = true → Calls Tryz.prog 219 #[.string x, .string cs] w fun e w' => e = .returned (.string ⟨#[]⟩) ∧ Below w.heap.size w w') ∧
    (x.data.toList.all (cs.data.toList.contains ·) = false → Calls Tryz.prog 219 #[.string x, .string cs] w fun e w' => NotEmpty e ∧ Below w.heap.size w w') := by
  have h := Any.strings_Trim_laid Tryz.tri160 (by kernel_rfl) x cs w (by omega) hc ha
  constructor
  · intro hall
    refine h.mono ?_
    rintro e w' ⟨rfl, hb⟩
    rw [(trimS_nil _ _).2 hall]
    exact ⟨rfl, hb⟩
  · intro hall
    refine h.mono ?_
    rintro e w' ⟨rfl, hb⟩
    refine ⟨⟨_, rfl, ?_⟩, hb⟩
    have : Lib.trimS x.data.toList cs.data.toList ≠ [] := fun e => by rw [(trimS_nil _ _).1 e] at hall; cases hall
    show (txt _).toList.isEmpty = false
    rw [toList_txt]
    simpa using this

end Go.Proofs.YtepjcdjpikbbjaaGreatDoor

/-
  strings.SplitSeq's function: its contract at a line's end.
-/
namespace Go.Proofs.YtepjcdjpikbbjaaGreatDoor
open Go.RowKit Go.Sort Go.Lib

attribute [local go_sem] Oper.semAt_some

theorem index_hit {c : UInt8} (b : List UInt8) : ∀ {a : List UInt8}, c ∉ a → Lib.index (a ++ c :: b) [c] = (a.length : Int)
  | [], _ => by simp [Lib.index, List.isPrefixOf]
  | x :: a, ha => by
    simp only [List.mem_cons, not_or] at ha
    have hp : ([c] : List UInt8).isPrefixOf (x :: (a ++ c :: b)) = false := by simp [List.isPrefixOf, ha.1]
    rw [List.cons_append, Lib.index, hp, index_hit b ha.2]
    simp
theorem index_miss {c : UInt8} : ∀ {l : List UInt8}, c ∉ l → Lib.index l [c] = -1
  | [], _ => by simp [Lib.index]
  | x :: l, h => by
    simp only [List.mem_cons, not_or] at h
    have hp : ([c] : List UInt8).isPrefixOf (x :: l) = false := by simp [List.isPrefixOf, h.1]
    rw [Lib.index, hp, index_miss h.2]
    simp
/-- what it turns: its box, a text -/
def SeqT (B : Nat) (w w' : World) : Prop := (∃ s, Blk w B 9 #[.string s]) ∧ (∃ s, Blk w' B 9 #[.string s]) ∧ w.grownBy w' (some B)
/-- what it reads -/
def seqReads (B i : Nat) : Prop := i = B ∨ i = B + 1 ∨ i = B + 1 + 1 ∨ i = 4
def SeqK (B : Nat) (w w' : World) : Prop := ∀ i o, seqReads B i → w.heap[i]? = some o → o.isCells = true → w'.heap[i]? = some o
theorem seqK_trans {B : Nat} {a b c : World} (h : SeqK B a b) (k : SeqK B b c) : SeqK B a c := fun i o hr hi ho => k i o hr (h i o hr hi ho) ho
theorem seqK_odd {B : Nat} (W : World) (l : Nat) (o o' : Obj) (h : W.heap[l]? = some o) (ho : o.isCells = false) : SeqK B W (W.putObj l o') := fun i p _ hi hp => by
  refine (World.putObj_heap_other ?_).trans hi
  rintro rfl
  rw [h] at hi
  cases hi
  rw [ho] at hp
  cases hp
theorem seqT_keeps {B : Nat} (w w' : World) (h : SeqT B w w') : KeepsOthers w w' := by
  obtain ⟨⟨s, hs⟩, _, hg⟩ := h
  exact KeepsOthers.of_grownBy hg (fun j o hj ho => by
    cases hj
    unfold Blk at hs
    rw [hs] at ho
    cases ho
    rfl)
theorem only_seq (w : World) (g : Nat) (p : Addr) (hp : p.block = g) (u : Value) : w.grownBy (w.setCell p u) (some g) := only_setCell (only_refl w (some g)) (.inl hp) u
def boxN (w : World) (B : Nat) : Nat := match w.cell? ⟨B, 0, none⟩ with | some (.string s) => s.size | _ => 0
/-- the iterator's boxes -/
structure SeqAt (B : Nat) (s : ByteArray) (w : World) : Prop where
  s : Blk w B 9 #[.string s]
  sep : Blk w (B + 1) 9 #[.string ⟨#[10]⟩]
  save : Blk w (B + 1 + 1) 3 #[.int .i64 0]
  max : MaxL w
theorem SeqAt.kept {B : Nat} {s : ByteArray} {w w' : World} (h : SeqAt B s w) (k : SeqK B w w') : SeqAt B s w' := by
  obtain ⟨h1, h2, h3, m, h4⟩ := h
  refine ⟨k _ _ (.inl rfl) h1 rfl, k _ _ (.inr (.inl rfl)) h2 rfl, k _ _ (.inr (.inr (.inl rfl))) h3 rfl, m, ?_⟩
  obtain ⟨o, ho, hc⟩ := cells_of_cell h4
  exact (World.cell?_of_block ((k _ o (.inr (.inr (.inr rfl))) ho hc).trans ho.symm)).trans h4
theorem SeqAt.lt {B : Nat} {s : ByteArray} {w : World} (h : SeqAt B s w) : B + 1 + 1 < w.heap.size := h.save.lt
set_option maxRecDepth 100000 in
set_option maxHeartbeats 1000000 in
theorem seq_told (n B : Nat) (hn : 1 ≤ n) (t : ByteArray) (w : World) (ht : t.size ≤ 100000) (h : SeqAt B t w) (hB : 4 < B) :
    SeqTold Fence.wide n Tryz.prog 56 #[.pointer (some ⟨B + 1, 0, none⟩), .pointer (some ⟨B, 0, none⟩), .pointer (some ⟨B + 1 + 1, 0, none⟩)] (fun x : List UInt8 => .string (txt x)) (parts 10 t.data.toList) (SeqT B) (SeqK B) w := by
  intro l J W hW hT hY h0
  have hat : SeqAt B t W := ⟨h.s.below' hW, h.sep.below' hW, h.save.below' hW, h.max.below' hW⟩
  have e1 := hat.sep.cell 0
  refine callsIn_of_wp Tryz.func56 rfl trivial ?_ rfl
  simp only [Tryz.ntmps56, List.size_toArray, List.length_cons, List.length_nil, Nat.reduceAdd, Nat.reduceSub, Array.replicate_succ, Array.replicate_zero, List.push_toArray, List.append_toArray, List.nil_append, List.cons_append]
  gi_wp2
  gi_loopw [7] (fun _ wr => ∃ (pre : List (List UInt8)) (s : ByteArray), J pre wr ∧ SeqAt B s wr ∧ s.size ≤ 100000 ∧ parts 10 t.data.toList = pre ++ parts 10 s.data.toList)
    (fun _ wr => boxN wr B)
  case atStart => exact ⟨[], t, h0, hat, ht, rfl⟩
  case round =>
    obtain ⟨pre, s, hj, hs, hsz, hp⟩ := hrel
    obtain ⟨m, hm⟩ := hs.max
    have e0 := hs.s.cell 0
    have e1 := hs.sep.cell 0
    have e2 := hs.save.cell 0
    have ez := hs.s.frozen 0
    have hf : Fence.wide.fn 58 := trivial
    have HI := Lib.hid (Tryz.strings_Index s ⟨#[10]⟩ m wr (by omega) hm)
    by_cases hc : (10 : UInt8) ∈ s.data.toList
    · obtain ⟨a, b, hab, ha⟩ := first_of hc
      have HX := Lib.hid (show Lib.index s.data.toList [10] = (a.length : Int) by rw [hab]; exact index_hit b ha)
      have hlen : s.size = a.length + (b.length + 1) := by rw [← size_data, hab]; simp
      have hsl : s.extract 0 a.length = txt a := by
        apply ByteArray.ext
        rw [ByteArray.data_extract]
        apply Array.toList_inj.1
        rw [Array.toList_extract, hab]
        simp [txt]
      have hsr : s.extract (a.length + 1) (a.length + (b.length + 1)) = txt b := by
        apply ByteArray.ext
        rw [ByteArray.data_extract]
        apply Array.toList_inj.1
        rw [Array.toList_extract, hab, List.extract_eq_take_drop, show a ++ 10 :: b = (a ++ [10]) ++ b by simp, List.drop_left' (by simp), List.take_of_length_le (by omega)]
        rfl
      have hpp : parts 10 t.data.toList = (pre ++ [a]) ++ parts 10 b := by rw [hp, hab, parts_head ha]; simp
      obtain ⟨fn, tmps, assign, body, hy, hR⟩ := hY pre a wr hj ⟨parts 10 b, hpp.symm⟩
      have HR := Lib.hid hR
      clear hR
      gi_wp2_with (gi_at_call 58; refine (callsIn_wide.2 HI.out).mono ?_; rintro e w' ⟨rfl, hw⟩; obtain rfl := hw.symm; rw [show (⟨#[10]⟩ : ByteArray).data.toList = [10] from rfl, HX.out])
      refine HR.out.mono ?_
      rintro e w3 ⟨rfl, hj3, hk3⟩
      have hs3 := hs.kept hk3
      have e30 := hs3.s.cell 0
      have e31 := hs3.sep.cell 0
      have ez3 := hs3.s.frozen 0
      have hb0 : B < w3.heap.size := hs3.s.lt
      gi_wp2
      have hbk : Blk (w3.setCell ⟨B, 0, none⟩ (.string (txt b))) B 9 #[.string (txt b)] := hs3.s.set_ 0 _
      have hst : SeqT B w3 (w3.setCell ⟨B, 0, none⟩ (.string (txt b))) := ⟨⟨s, hs3.s⟩, ⟨_, hbk⟩, only_seq w3 B ⟨B, 0, none⟩ rfl _⟩
      refine ⟨⟨pre ++ [a], txt b, hT _ _ _ hj3 hst, ⟨hbk, hs3.sep.far (by simp) _, hs3.save.far (by simp; omega) _, ?_⟩, ?_, by rw [data_txt]; exact hpp⟩, ?_⟩
      · obtain ⟨m3, hm3⟩ := hs3.max
        exact ⟨m3, (World.cell?_of_block (Below.heap_setCell w3 ⟨B, 0, none⟩ _ 4 (by simp; omega))).trans hm3⟩
      · show b.length ≤ 100000
        omega
      · unfold boxN
        rw [hbk.cell 0, e0]
        show (txt b).size < s.size
        show b.length < s.size
        omega
    · have HX := Lib.hid (show Lib.index s.data.toList [10] = -1 from index_miss hc)
      have hpp : parts 10 t.data.toList = pre ++ [s.data.toList] := by rw [hp, parts_none hc]
      obtain ⟨fn, tmps, assign, body, hy, hR⟩ := hY pre s.data.toList wr hj ⟨[], by rw [hpp]; simp⟩
      rw [txt_data] at hy
      have HR := Lib.hid hR
      clear hR
      gi_wp2_with (gi_at_call 58; refine (callsIn_wide.2 HI.out).mono ?_; rintro e w' ⟨rfl, hw⟩; obtain rfl := hw.symm; rw [show (⟨#[10]⟩ : ByteArray).data.toList = [10] from rfl, HX.out])
      refine HR.out.mono ?_
      rintro e w3 ⟨rfl, hj3, hk3⟩
      gi_wp2
      go_end0
      exact ⟨⟨_, rfl⟩, by rw [hpp]; exact hj3⟩
end Go.Proofs.YtepjcdjpikbbjaaGreatDoor

/-
  Numbers from 0 to MaxNumber and their numerals, in plain Lean: a numeral is read again; its bytes are digits.
-/
namespace Go.Proofs.YtepjcdjpikbbjaaGreatDoor

def okN (x : Int) : Bool := decide (0 ≤ x) && decide (x ≤ 1099511627776)
theorem okN_iff {x : Int} : okN x = true ↔ 0 ≤ x ∧ x ≤ 1099511627776 := by simp [okN]
/-- strconv.Atoi's number -/
def atoiN (l : List UInt8) : Int := match Lib.atoiAll l with
  | .ok v => v
  | Lib.NumEnd.syntax => 0
  | .range => Lib.atoiSat l
/-- strconv.Atoi gives no error -/
def atoiE (l : List UInt8) : Bool := match Lib.atoiAll l with
  | .ok _ => true
  | _ => false

theorem decFrom_app : ∀ (a b : List UInt8) (n : Nat), Lib.decFrom n (a ++ b) = (Lib.decFrom n a).bind fun m => Lib.decFrom m b
  | [], _, _ => rfl
  | x :: a, b, n => by
    rw [List.cons_append, Lib.decFrom, Lib.decFrom]
    cases Lib.digitVal x with
    | none => rfl
    | some d => exact decFrom_app a b _
theorem digitVal_of {d : Nat} (h : d < 10) : Lib.digitVal (UInt8.ofNat (48 + d)) = some d := by
  have e : (UInt8.ofNat (48 + d)).toNat = 48 + d := by
    rw [UInt8.toNat_ofNat']; omega
  unfold Lib.digitVal
  rw [e, if_pos (by omega)]
  congr 1
  omega
theorem decFrom_digits : ∀ (n u : Nat), u ≤ n → Lib.decFrom 0 (Lib.decDigits u) = some u
  | n, u, hn => by
    by_cases h : u < 10
    · rw [Lib.decDigits_one h, Lib.decFrom, digitVal_of h]
      simp [Lib.decFrom]
    · rw [Lib.decDigits, dif_neg h, decFrom_app]
      cases n with
      | zero => omega
      | succ n =>
        rw [decFrom_digits n (u / 10) (by omega)]
        simp only [Option.bind_some]
        rw [Lib.decFrom]
        rw [digitVal_of (by omega)]
        simp only [Lib.decFrom]
        congr 1
        omega
theorem isDigit_digits : ∀ (n u : Nat), u ≤ n → ∀ b ∈ Lib.decDigits u, 48 ≤ b.toNat ∧ b.toNat ≤ 57
  | n, u, hn, b, hb => by
    have one : ∀ d, d < 10 → 48 ≤ (UInt8.ofNat (48 + d)).toNat ∧ (UInt8.ofNat (48 + d)).toNat ≤ 57 := fun d h => by
      rw [UInt8.toNat_ofNat']; omega
    by_cases h : u < 10
    · rw [Lib.decDigits_one h, List.mem_singleton] at hb
      subst hb
      exact one u h
    · rw [Lib.decDigits, dif_neg h, List.mem_append, List.mem_singleton] at hb
      rcases hb with hb | rfl
      · cases n with
        | zero => omega
        | succ n => exact isDigit_digits n (u / 10) (by omega) b hb
      · exact one _ (by omega)
theorem digits_ne (u : Nat) : Lib.decDigits u ≠ [] := by
  by_cases h : u < 10
  · rw [Lib.decDigits_one h]; simp
  · rw [Lib.decDigits, dif_neg h]; simp
theorem nDigits_le : ∀ (k u : Nat), u < 10 ^ (k + 1) → Lib.nDigits u ≤ k + 1
  | 0, u, h => by rw [Lib.nDigits_small (by simpa using h)]; exact Nat.le_refl _
  | k + 1, u, h => by
    by_cases hu : u < 10
    · rw [Lib.nDigits_small hu]; omega
    · rw [Lib.nDigits_big hu]
      have := nDigits_le k (u / 10) (by rw [Nat.pow_succ] at h ⊢; rw [Nat.pow_succ] at h; omega)
      omega
theorem itoa_of {x : Int} (h : okN x = true) : Lib.itoa x = Lib.decDigits x.toNat := by
  have := okN_iff.1 h
  unfold Lib.itoa
  rw [if_neg (by omega)]
theorem itoa_len {x : Int} (h : okN x = true) : (Lib.itoa x).length ≤ 13 := by
  have := okN_iff.1 h
  rw [itoa_of h, Lib.decDigits_length]
  exact nDigits_le 12 _ (by omega)
theorem itoa_ne {x : Int} (h : okN x = true) : Lib.itoa x ≠ [] := by rw [itoa_of h]; exact digits_ne _
theorem itoa_digits {x : Int} (h : okN x = true) : ∀ b ∈ Lib.itoa x, 48 ≤ b.toNat ∧ b.toNat ≤ 57 := by rw [itoa_of h]; exact isDigit_digits _ _ (Nat.le_refl _)
theorem itoa_free {x : Int} (h : okN x = true) {c : UInt8} (hc : ¬ (48 ≤ c.toNat ∧ c.toNat ≤ 57)) : c ∉ Lib.itoa x := fun hm => hc (itoa_digits h c hm)
/-- a numeral is read again -/
theorem atoi_itoa {x : Int} (h : okN x = true) : Lib.atoiAll (Lib.itoa x) = .ok x := by
  have hx := okN_iff.1 h
  rw [Lib.atoiAll_short _ (by have := itoa_len h; omega)]
  have hd := itoa_digits h
  have he : Lib.decNat (Lib.itoa x) = some x.toNat := by
    unfold Lib.decNat
    rw [itoa_of h]
    rw [if_neg (by simpa using digits_ne _), decFrom_digits _ _ (Nat.le_refl _)]
  rcases e : Lib.itoa x with _ | ⟨b, r⟩
  · exact absurd e (itoa_ne h)
  · have hb := hd b (by rw [e]; simp)
    rw [e] at he
    have h45 : (b == 45) = false := by
      rw [beq_eq_false_iff_ne]; rintro rfl; simp at hb
    have h43 : (b == 43) = false := by
      rw [beq_eq_false_iff_ne]; rintro rfl; simp at hb
    simp only [Lib.atoi, h45, h43, he]
    simp [Lib.NumEnd.ofOption]
    omega
theorem atoiN_itoa {x : Int} (h : okN x = true) : atoiN (Lib.itoa x) = x := by unfold atoiN; rw [atoi_itoa h]
theorem atoiE_itoa {x : Int} (h : okN x = true) : atoiE (Lib.itoa x) = true := by unfold atoiE; rw [atoi_itoa h]
theorem atoiN_bounds (l : List UInt8) : -9223372036854775808 ≤ atoiN l ∧ atoiN l ≤ 9223372036854775807 := by
  unfold atoiN
  rcases e : Lib.atoiAll l with _ | _ | v
  all_goals first | exact Lib.atoiAll_bounds e | exact Lib.atoiSat_bounds l | (simp)
/-- a number that is written just so, from 0 to MaxNumber -/
def numB (l : List UInt8) : Bool := atoiE l && decide (Lib.itoa (atoiN l) = l) && okN (atoiN l)
theorem numB_iff {l : List UInt8} : numB l = true ↔ okN (atoiN l) = true ∧ Lib.itoa (atoiN l) = l := by
  unfold numB
  simp only [Bool.and_eq_true, decide_eq_true_eq]
  constructor
  · rintro ⟨⟨_, h2⟩, h3⟩
    exact ⟨h3, h2⟩
  · rintro ⟨h3, h2⟩
    refine ⟨⟨?_, h2⟩, h3⟩
    rw [← h2]
    exact atoiE_itoa h3
end Go.Proofs.YtepjcdjpikbbjaaGreatDoor

/-
  Scopes in plain Lean: the words of one, in order, each once; its least form; whether one is within another.
-/
namespace Go.Proofs.YtepjcdjpikbbjaaGreatDoor

/-- the order of words -/
abbrev leW : List UInt8 → List UInt8 → Bool := fun x y => decide (x ≤ y)
theorem leW_trans : ∀ a b c : List UInt8, leW a b = true → leW b c = true → leW a c = true := fun a b c h1 h2 => by simp only [leW, decide_eq_true_eq] at *; exact List.le_trans h1 h2
theorem leW_total : ∀ a b : List UInt8, (leW a b || leW b a) = true := fun a b => by simp only [leW, Bool.or_eq_true, decide_eq_true_eq]; exact List.le_total a b
theorem leW_anti {a b : List UInt8} (h1 : leW a b = true) (h2 : leW b a = true) : a = b := by
  simp only [leW, decide_eq_true_eq] at h1 h2
  exact List.le_antisymm h1 h2
/-- sorted, each once -/
def Up (l : List (List UInt8)) : Prop := l.Pairwise fun a b => leW a b = true ∧ a ≠ b

def uniq (ws : List (List UInt8)) : List (List UInt8) := Lib.compact (ws.mergeSort leW)

theorem compactUpTo_app (l : List (List UInt8)) (x : List UInt8) : ∀ m, m ≤ l.length → Lib.compactUpTo (l ++ [x]).toArray m = Lib.compactUpTo l.toArray m
  | 0, _ => rfl
  | m + 1, h => by
    rw [Lib.compactUpTo_succ, Lib.compactUpTo_succ, compactUpTo_app l x m (by omega)]
    have g : ∀ j, j < l.length → (l ++ [x]).toArray[j]! = l.toArray[j]! := by
      intro j hj
      simp [hj, List.getElem?_append_left hj]
    have k : Lib.keeps (l ++ [x]).toArray m = Lib.keeps l.toArray m := by
      unfold Lib.keeps
      rw [g m (by omega), g (m - 1) (by omega)]
    rw [k, g m (by omega)]
theorem compact_snoc (l : List (List UInt8)) (x : List UInt8) : Lib.compact (l ++ [x]) = Lib.compact l ++ if l.getLast? = some x then [] else [x] := by
  unfold Lib.compact
  rw [List.length_append, List.length_singleton, Lib.compactUpTo_succ, compactUpTo_app l x _ (Nat.le_refl _)]
  congr 1
  have e1 : (l ++ [x]).toArray[l.length]! = x := by simp
  rw [e1]
  have hk : Lib.keeps (l ++ [x]).toArray l.length = !decide (l.getLast? = some x) := by
    unfold Lib.keeps
    rw [e1]
    rcases List.eq_nil_or_concat l with rfl | ⟨r, y, rfl⟩
    · rfl
    · have e2 : ((r ++ [y]) ++ [x]).toArray[(r ++ [y]).length - 1]! = y := by simp
      simp only [List.concat_eq_append] at e2 ⊢
      rw [e2]
      by_cases h : x = y
      · subst h; simp
      · simp [h, Ne.symm h]
  rw [hk]
  by_cases h : l.getLast? = some x <;> simp [h]
theorem mem_compact (w : List UInt8) : ∀ (n : Nat) (l : List (List UInt8)), l.length = n → (w ∈ Lib.compact l ↔ w ∈ l)
  | 0, l, h => by obtain rfl := List.eq_nil_of_length_eq_zero h; exact Iff.rfl
  | n + 1, l, h => by
    rcases List.eq_nil_or_concat l with rfl | ⟨r, y, rfl⟩
    · exact Iff.rfl
    · rw [List.concat_eq_append] at h ⊢
      have ih := mem_compact w n r (by simpa using h)
      rw [compact_snoc, List.mem_append, List.mem_append, ih]
      by_cases e : r.getLast? = some y
      · rw [if_pos e]
        have : y ∈ r := List.mem_of_getLast? e
        simp only [List.not_mem_nil, or_false, List.mem_singleton]
        exact ⟨.inl, fun h => h.elim id fun e => e ▸ this⟩
      · rw [if_neg e]
theorem compact_up : ∀ (n : Nat) (l : List (List UInt8)), l.length = n → l.Pairwise (fun a b => leW a b = true) → Up (Lib.compact l)
  | 0, l, h, _ => by obtain rfl := List.eq_nil_of_length_eq_zero h; exact List.Pairwise.nil
  | n + 1, l, h, hp => by
    rcases List.eq_nil_or_concat l with rfl | ⟨r, y, rfl⟩
    · exact List.Pairwise.nil
    · rw [List.concat_eq_append] at h hp ⊢
      rw [List.pairwise_append] at hp
      have ih := compact_up n r (by simpa using h) hp.1
      rw [compact_snoc]
      by_cases e : r.getLast? = some y
      · rw [if_pos e, List.append_nil]; exact ih
      · rw [if_neg e]
        refine List.pairwise_append.2 ⟨ih, List.pairwise_singleton _ _, ?_⟩
        intro a ha b hb
        rw [List.mem_singleton] at hb
        subst hb
        have har : a ∈ r := (mem_compact a _ r rfl).1 ha
        refine ⟨hp.2.2 a har b (by simp), ?_⟩
        rintro rfl
        rcases List.eq_nil_or_concat r with rfl | ⟨q, z, rfl⟩
        · simp at har
        · rw [List.concat_eq_append] at har e hp
          have hz : leW a z = true := by
            rcases List.mem_append.1 har with h1 | h1
            · exact (List.pairwise_append.1 hp.1).2.2 a h1 z (by simp)
            · rw [List.mem_singleton] at h1; subst h1; simp [leW]
          have hz2 : leW z a = true := hp.2.2 z (by simp) a (by simp)
          exact e (by rw [leW_anti hz hz2]; simp)
theorem mem_uniq {ws : List (List UInt8)} {w : List UInt8} : w ∈ uniq ws ↔ w ∈ ws := by
  unfold uniq
  rw [mem_compact w _ _ rfl, List.mem_mergeSort]
theorem uniq_up (ws : List (List UInt8)) : Up (uniq ws) := compact_up _ _ rfl (List.pairwise_mergeSort leW_trans leW_total ws)
theorem Up.nodup {l : List (List UInt8)} (h : Up l) : l.Nodup := h.imp fun h => h.2
theorem Up.sorted {l : List (List UInt8)} (h : Up l) : l.Pairwise fun a b => leW a b = true := h.imp fun h => h.1
/-- two that are sorted, each once, of the same words are one -/
theorem Up.ext {l r : List (List UInt8)} (h : Up l) (k : Up r) (e : ∀ w, w ∈ l ↔ w ∈ r) : l = r :=
  List.Perm.eq_of_pairwise (le := fun a b => leW a b = true) (fun _ _ _ _ h1 h2 => leW_anti h1 h2) h.sorted k.sorted ((List.perm_ext_iff_of_nodup h.nodup k.nodup).2 e)
/-- of a to z -/
def lowB (w : List UInt8) : Bool := w.all fun c => decide (97 ≤ c.toNat) && decide (c.toNat ≤ 122)
/-- may this be a word? -/
def okW (w : List UInt8) : Bool := !w.isEmpty && lowB w
/-- what is wrong with a scope: 0, 3 or 4 -/
def scopeN (s : List UInt8) : Int :=
  if s = [] then 0 else if (parts 43 s).all okW then (if (uniq (parts 43 s)).length ≤ 5 ∧ (uniq (parts 43 s)).all (fun w => decide (w.length ≤ 8)) = true then 0 else 4) else 3
/-- its words -/
def scopeL (s : List UInt8) : List (List UInt8) := if s = [] then [] else if scopeN s = 0 then uniq (parts 43 s) else []
/-- its least form -/
def leastL (s : List UInt8) : List UInt8 := glue 43 (scopeL s)
def withinB (a b : List UInt8) : Bool := (scopeL a).all fun w => (scopeL b).contains w

theorem scopeN_cases (s : List UInt8) : scopeN s = 0 ∨ scopeN s = 3 ∨ scopeN s = 4 := by
  unfold scopeN
  split
  · exact .inl rfl
  · split
    · split
      · exact .inl rfl
      · exact .inr (.inr rfl)
    · exact .inr (.inl rfl)
theorem scopeL_up (s : List UInt8) : Up (scopeL s) := by
  unfold scopeL
  split
  · exact List.Pairwise.nil
  · split
    · exact uniq_up _
    · exact List.Pairwise.nil
theorem scopeL_ok {s w : List UInt8} (h : w ∈ scopeL s) : okW w = true := by
  unfold scopeL at h
  split at h
  · simp at h
  · rename_i hs
    split at h
    · rename_i h0
      rw [mem_uniq] at h
      unfold scopeN at h0
      rw [if_neg hs] at h0
      split at h0
      · rename_i ha
        exact List.all_eq_true.1 ha w h
      · cases h0
    · simp at h
theorem scopeL_small (s : List UInt8) : (scopeL s).length ≤ 5 ∧ ∀ w ∈ scopeL s, w.length ≤ 8 := by
  unfold scopeL
  split
  · simp
  · rename_i hs
    split
    · rename_i h0
      unfold scopeN at h0
      rw [if_neg hs] at h0
      split at h0
      · split at h0
        · rename_i h1
          exact ⟨h1.1, fun w hw => by simpa using List.all_eq_true.1 h1.2 w hw⟩
        · cases h0
      · cases h0
    · simp
theorem glue_len : ∀ ws : List (List UInt8), (∀ w ∈ ws, w.length ≤ 8) → (glue 43 ws).length ≤ 9 * ws.length
  | [], _ => by simp [glue]
  | [w], h => by have := h w (by simp); simp [glue]; omega
  | w :: v :: r, h => by
    have := h w (by simp)
    have ih := glue_len (v :: r) fun x hx => h x (List.mem_cons_of_mem _ hx)
    rw [glue]
    simp at ih ⊢
    omega
theorem leastL_len (s : List UInt8) : (leastL s).length ≤ 45 := by
  have h := scopeL_small s
  have := glue_len _ h.2
  unfold leastL
  omega
end Go.Proofs.YtepjcdjpikbbjaaGreatDoor

/-
  Events in plain Lean: which may be; an event's words and its line; the event that a line is.
-/
namespace Go.Proofs.YtepjcdjpikbbjaaGreatDoor

structure Fam where
  id : Int
  client : ByteArray
  subject : ByteArray
  scope : ByteArray
  gen : Int
  made : Int
  used : Int
  request : ByteArray
  dead : Bool
structure Ev where
  kind : Int
  fam : Fam
  id : Int
  time : Int
def Fam.zero : Fam := ⟨0, ⟨#[]⟩, ⟨#[]⟩, ⟨#[]⟩, 0, 0, 0, ⟨#[]⟩, false⟩
def Ev.zero : Ev := ⟨0, Fam.zero, 0, 0⟩

def nameS : ByteArray := ⟨#[97, 98, 99, 100, 101, 102, 103, 104, 105, 106, 107, 108, 109, 110, 111, 112, 113, 114, 115, 116, 117, 118, 119, 120, 121, 122, 48, 49, 50, 51, 52, 53, 54, 55, 56, 57, 45]⟩
def nameC (c : UInt8) : Bool := nameS.data.toList.contains c
/-- may a text name somebody? -/
def nameB (l : List UInt8) : Bool := decide (1 ≤ l.length) && decide (l.length ≤ 20) && l.all nameC
theorem nameB_free {l : List UInt8} (h : nameB l = true) {c : UInt8} (hc : nameC c = false) : c ∉ l := by
  intro hm
  unfold nameB at h
  rw [Bool.and_eq_true] at h
  have := List.all_eq_true.1 h.2 c hm
  rw [hc] at this
  cases this
theorem nameB_ne {l : List UInt8} (h : nameB l = true) : l ≠ [] := by
  rintro rfl
  cases h
theorem nameB_len {l : List UInt8} (h : nameB l = true) : l.length ≤ 20 := by
  unfold nameB at h
  simp only [Bool.and_eq_true, decide_eq_true_eq] at h
  exact h.1.2
/-- is a family the one that is none? -/
def Fam.isZero (f : Fam) : Bool := decide (f.id = 0) && decide (f.client.data.toList = []) && decide (f.subject.data.toList = []) && decide (f.scope.data.toList = []) && decide (f.gen = 0) && decide (f.made = 0) && decide (f.used = 0) && decide (f.request.data.toList = []) && !f.dead
theorem empty_of {s : ByteArray} (h : s.data.toList = []) : s = ⟨#[]⟩ := by rw [← txt_data s, h]; rfl
theorem Fam.isZero_iff {f : Fam} : f.isZero = true ↔ f = Fam.zero := by
  obtain ⟨a, b, c, d, e, g, h, i, j⟩ := f
  unfold Fam.isZero Fam.zero
  simp only [Bool.and_eq_true, decide_eq_true_eq, Bool.not_eq_true']
  constructor
  · rintro ⟨⟨⟨⟨⟨⟨⟨⟨rfl, h1⟩, h2⟩, h3⟩, rfl⟩, rfl⟩, rfl⟩, h4⟩, rfl⟩
    rw [empty_of h1, empty_of h2, empty_of h3, empty_of h4]
  · intro h
    simp only [Fam.mk.injEq] at h
    obtain ⟨rfl, rfl, rfl, rfl, rfl, rfl, rfl, rfl, rfl⟩ := h
    simp
def reqB (l : List UInt8) : Bool := decide (l = []) || nameB l
def scopeB (l : List UInt8) : Bool := decide (scopeN l = 0) && decide (leastL l = l)
/-- may a family be put? -/
def famB (f : Fam) : Bool := okN f.id && okN f.gen && okN f.made && okN f.used && nameB f.client.data.toList && nameB f.subject.data.toList && reqB f.request.data.toList && scopeB f.scope.data.toList
/-- may an event be? -/
def evB (e : Ev) : Bool :=
  if e.kind = 1 then decide (e.id = 0) && decide (e.time = 0) && famB e.fam
  else if e.kind = 2 then e.fam.isZero && decide (e.time = 0) && okN e.id
  else if e.kind = 3 then e.fam.isZero && decide (e.id = 0) && okN e.time
  else false
def wordL (l : List UInt8) : List UInt8 := if l = [] then [95] else l
def deadL (b : Bool) : List UInt8 := if b then [49] else [48]
def famW (f : Fam) : List (List UInt8) := [Lib.itoa f.id, f.client.data.toList, f.subject.data.toList, wordL f.scope.data.toList, Lib.itoa f.gen, Lib.itoa f.made, Lib.itoa f.used, wordL f.request.data.toList, deadL f.dead]
/-- an event's words, and its line -/
def evW (e : Ev) : List (List UInt8) := if e.kind = 2 then [[100], Lib.itoa e.id] else if e.kind = 3 then [[99], Lib.itoa e.time] else [112] :: famW e.fam
def evL (e : Ev) : List UInt8 := glue 32 (evW e)

theorem glue_free {c d : UInt8} (hcd : c ≠ d) : ∀ {ws : List (List UInt8)}, (∀ w ∈ ws, c ∉ w) → c ∉ glue d ws
  | [], _ => by simp [glue]
  | [w], h => h w (by simp)
  | w :: v :: r, h => by
    rw [glue, List.mem_append, List.mem_cons]
    have h1 := h w (by simp)
    have h2 := glue_free hcd (ws := v :: r) fun x hx => h x (List.mem_cons_of_mem _ hx)
    rintro (h3 | h3 | h3)
    · exact h1 h3
    · exact hcd h3
    · exact h2 h3
theorem okW_low {w : List UInt8} (h : okW w = true) {c : UInt8} (hc : ¬ (97 ≤ c.toNat ∧ c.toNat ≤ 122)) : c ∉ w := by
  intro hm
  simp only [okW, lowB, Bool.and_eq_true] at h
  have := List.all_eq_true.1 h.2 c hm
  simp at this
  omega
theorem scopeB_iff {l : List UInt8} : scopeB l = true ↔ scopeN l = 0 ∧ leastL l = l := by simp [scopeB]
theorem scopeB_free {l : List UInt8} (h : scopeB l = true) {c : UInt8} (h43 : c ≠ 43) (hc : ¬ (97 ≤ c.toNat ∧ c.toNat ≤ 122)) : c ∉ l := by
  rw [← (scopeB_iff.1 h).2]
  exact glue_free h43 fun w hw => okW_low (scopeL_ok hw) hc
theorem scopeB_len {l : List UInt8} (h : scopeB l = true) : l.length ≤ 45 := by
  have := leastL_len l
  rwa [(scopeB_iff.1 h).2] at this
theorem wordL_free {c : UInt8} (hc : c ≠ 95) {l : List UInt8} (h : c ∉ l) : c ∉ wordL l := by
  unfold wordL
  split
  · simpa using hc
  · exact h
theorem reqB_free {l : List UInt8} (h : reqB l = true) {c : UInt8} (hc : nameC c = false) : c ∉ l := by
  unfold reqB at h
  rw [Bool.or_eq_true, decide_eq_true_eq] at h
  rcases h with rfl | h
  · simp
  · exact nameB_free h hc
theorem famB_parts {f : Fam} (h : famB f = true) : okN f.id = true ∧ okN f.gen = true ∧ okN f.made = true ∧ okN f.used = true ∧ nameB f.client.data.toList = true ∧ nameB f.subject.data.toList = true ∧ reqB f.request.data.toList = true ∧ scopeB f.scope.data.toList = true := by
  unfold famB at h
  simp only [Bool.and_eq_true] at h
  obtain ⟨⟨⟨⟨⟨⟨⟨h1, h2⟩, h3⟩, h4⟩, h5⟩, h6⟩, h7⟩, h8⟩ := h
  exact ⟨h1, h2, h3, h4, h5, h6, h7, h8⟩
theorem famW_free {f : Fam} (h : famB f = true) : ∀ w ∈ famW f, (32 : UInt8) ∉ w := by
  obtain ⟨h1, h2, h3, h4, h5, h6, h7, h8⟩ := famB_parts h
  intro w hw
  simp only [famW, List.mem_cons, List.not_mem_nil, or_false] at hw
  rcases hw with rfl | rfl | rfl | rfl | rfl | rfl | rfl | rfl | rfl
  · exact itoa_free h1 (by decide)
  · exact nameB_free h5 (by decide)
  · exact nameB_free h6 (by decide)
  · exact wordL_free (by decide) (scopeB_free h8 (by decide) (by decide))
  · exact itoa_free h2 (by decide)
  · exact itoa_free h3 (by decide)
  · exact itoa_free h4 (by decide)
  · exact wordL_free (by decide) (reqB_free h7 (by decide))
  · unfold deadL; split <;> decide
theorem evW_ne (e : Ev) : evW e ≠ [] := by
  unfold evW
  split
  · simp
  · split <;> simp
theorem evB_kind {e : Ev} (h : evB e = true) : (e.kind = 1 ∧ e.id = 0 ∧ e.time = 0 ∧ famB e.fam = true) ∨ (e.kind = 2 ∧ e.fam = Fam.zero ∧ e.time = 0 ∧ okN e.id = true) ∨ (e.kind = 3 ∧ e.fam = Fam.zero ∧ e.id = 0 ∧ okN e.time = true) := by
  unfold evB at h
  split at h
  · rename_i hk
    simp only [Bool.and_eq_true, decide_eq_true_eq] at h
    exact .inl ⟨hk, h.1.1, h.1.2, h.2⟩
  · split at h
    · rename_i hk
      simp only [Bool.and_eq_true, decide_eq_true_eq, Fam.isZero_iff] at h
      exact .inr (.inl ⟨hk, h.1.1, h.1.2, h.2⟩)
    · split at h
      · rename_i hk
        simp only [Bool.and_eq_true, decide_eq_true_eq, Fam.isZero_iff] at h
        exact .inr (.inr ⟨hk, h.1.1, h.1.2, h.2⟩)
      · cases h
theorem evW_1 {e : Ev} (h : e.kind = 1) : evW e = [112] :: famW e.fam := by
  unfold evW; rw [h, if_neg (by decide), if_neg (by decide)]
theorem evW_2 {e : Ev} (h : e.kind = 2) : evW e = [[100], Lib.itoa e.id] := by
  unfold evW; rw [if_pos h]
theorem evW_3 {e : Ev} (h : e.kind = 3) : evW e = [[99], Lib.itoa e.time] := by
  unfold evW; rw [h, if_neg (by decide), if_pos rfl]
theorem evW_free {e : Ev} (h : evB e = true) : ∀ w ∈ evW e, (32 : UInt8) ∉ w := by
  intro w hw
  rcases evB_kind h with ⟨hk, _, _, hf⟩ | ⟨hk, _, _, hn⟩ | ⟨hk, _, _, hn⟩
  · rw [evW_1 hk, List.mem_cons] at hw
    rcases hw with rfl | hw
    · decide
    · exact famW_free hf w hw
  · rw [evW_2 hk] at hw
    simp only [List.mem_cons, List.not_mem_nil, or_false] at hw
    rcases hw with rfl | rfl
    · decide
    · exact itoa_free hn (by decide)
  · rw [evW_3 hk] at hw
    simp only [List.mem_cons, List.not_mem_nil, or_false] at hw
    rcases hw with rfl | rfl
    · decide
    · exact itoa_free hn (by decide)
theorem parts_evL {e : Ev} (h : evB e = true) : parts 32 (evL e) = evW e := parts_glue 32 _ (evW_ne e) (evW_free h)
theorem evL_iff {e : Ev} (h : evB e = true) {l : List UInt8} : evL e = l ↔ evW e = parts 32 l := by
  constructor
  · rintro rfl
    exact (parts_evL h).symm
  · intro he
    unfold evL
    rw [he, glue_parts]

/-- _ for none -/
def unL (l : List UInt8) : List UInt8 := if l = [95] then [] else l
/-- what the reference tries -/
def cand : List (List UInt8) → Ev
  | [_, a, b, c, d, e, f, g, h, i] => ⟨1, ⟨atoiN a, txt b, txt c, txt (unL d), atoiN e, atoiN f, atoiN g, txt (unL h), decide (i = [49])⟩, 0, 0⟩
  | [x, a] => if x = [100] then ⟨2, Fam.zero, atoiN a, 0⟩ else ⟨3, Fam.zero, 0, atoiN a⟩
  | _ => Ev.zero
/-- is a line an event's? which? -/
def readB (l : List UInt8) : Bool := evB (cand (parts 32 l)) && decide (evW (cand (parts 32 l)) = parts 32 l)
def readE (l : List UInt8) : Ev := if readB l then cand (parts 32 l) else Ev.zero
theorem readB_iff {l : List UInt8} : readB l = true ↔ evB (cand (parts 32 l)) = true ∧ evL (cand (parts 32 l)) = l := by
  unfold readB
  rw [Bool.and_eq_true, decide_eq_true_eq]
  constructor
  · rintro ⟨h1, h2⟩; exact ⟨h1, (evL_iff h1).2 h2⟩
  · rintro ⟨h1, h2⟩; exact ⟨h1, (evL_iff h1).1 h2⟩

/-- what the program's reader does: the words that are left, and whether they were not so -/
abbrev Rd := List (List UInt8) × Bool
def nextV : Rd → List UInt8
  | ([], _) => []
  | (x :: _, _) => x
def nextS : Rd → Rd
  | ([], _) => ([], true)
  | (_ :: r, b) => (r, b)
def numE (l : List UInt8) : Bool := atoiE l && decide (Lib.itoa (atoiN l) = l)
def numV (s : Rd) : Int := atoiN (nextV s)
def numS (s : Rd) : Rd := ((nextS s).1, (nextS s).2 || !numE (nextV s))
def textV (s : Rd) : List UInt8 := unL (nextV s)
def textS (s : Rd) : Rd := ((nextS s).1, (nextS s).2 || decide (nextV s = []))

/-- the family that the reader reads: what it is, and what is left -/
def famV (s : Rd) : Fam :=
  let s1 := numS s; let s2 := textS s1; let s3 := textS s2; let s4 := textS s3; let s5 := numS s4; let s6 := numS s5; let s7 := numS s6; let s8 := textS s7
  ⟨numV s, txt (textV s1), txt (textV s2), txt (textV s3), numV s4, numV s5, numV s6, txt (textV s7), decide (nextV s8 = [49])⟩
def famS (s : Rd) : Rd :=
  let s8 := textS (numS (numS (numS (textS (textS (textS (numS s)))))))
  ((nextS s8).1, (nextS s8).2 || (!decide (nextV s8 = [48]) && !decide (nextV s8 = [49])))
/-- the event that the program reads, and what is left -/
def progE (s : Rd) : Ev × Rd :=
  if nextV s = [112] then (⟨1, famV (nextS s), 0, 0⟩, famS (nextS s))
  else if nextV s = [100] then (⟨2, Fam.zero, numV (nextS s), 0⟩, numS (nextS s))
  else if nextV s = [99] then (⟨3, Fam.zero, 0, numV (nextS s)⟩, numS (nextS s))
  else (Ev.zero, ((nextS s).1, true))
/-- does the program take it? -/
def progB (s : Rd) : Bool := !(progE s).2.2 && decide ((progE s).2.1 = []) && evB (progE s).1
theorem evB_zero : evB Ev.zero = false := by decide
theorem evB_one {f : Fam} : evB ⟨1, f, 0, 0⟩ = famB f := by simp [evB]
theorem evB_two {n : Int} : evB ⟨2, Fam.zero, n, 0⟩ = okN n := by
  have := (Fam.isZero_iff (f := Fam.zero)).2 rfl
  simp [evB, this]
theorem evB_three {n : Int} : evB ⟨3, Fam.zero, 0, n⟩ = okN n := by
  have := (Fam.isZero_iff (f := Fam.zero)).2 rfl
  simp [evB, this]
theorem numE_of {l : List UInt8} (h : okN (atoiN l) = true) : numE l = decide (Lib.itoa (atoiN l) = l) := by
  unfold numE
  by_cases e : Lib.itoa (atoiN l) = l
  · have : atoiE l = true := by rw [← e]; exact atoiE_itoa h
    rw [this, Bool.true_and]
  · simp [e]
theorem okN_numE {l : List UInt8} : (okN (atoiN l) && numE l) = (okN (atoiN l) && decide (Lib.itoa (atoiN l) = l)) := by
  cases h : okN (atoiN l)
  · rfl
  · rw [numE_of h]
theorem nameB_un {l : List UInt8} : nameB (unL l) = nameB l := by
  unfold unL
  split
  · rename_i h
    subst h
    decide
  · rfl
end Go.Proofs.YtepjcdjpikbbjaaGreatDoor

/-
  What the reference's loop over a scope's text knows, in plain Lean: the words that lie behind it, each once in their first order; whether one is long; the word under way.
-/
namespace Go.Proofs.YtepjcdjpikbbjaaGreatDoor

/-- the words met so far, each once, in the order in which they came -/
def addNew (o : List (List UInt8)) (w : List UInt8) : List (List UInt8) := if o.contains w then o else o ++ [w]
def firsts (d : List (List UInt8)) : List (List UInt8) := d.foldl addNew []
/-- behind k bytes: the done words d (all may be), the word under way c (letters alone) -/
structure Front (s : List UInt8) (k : Nat) (d : List (List UInt8)) (c : List UInt8) : Prop where
  cuts : parts 43 (s.take k) = d ++ [c]
  ok : ∀ w ∈ d, okW w = true
  low : lowB c = true
theorem Front.start (s : List UInt8) : Front s 0 [] [] := ⟨by simp [parts], by simp, rfl⟩
theorem take_snoc' {s : List UInt8} {k : Nat} {x : UInt8} (h : s[k]? = some x) : s.take (k + 1) = s.take k ++ [x] := by
  rw [List.take_add_one, h]; rfl
theorem Front.seam {s : List UInt8} {k : Nat} {d : List (List UInt8)} {c : List UInt8} (h : Front s k d c) (hx : s[k]? = some 43) (hc : c ≠ []) : Front s (k + 1) (d ++ [c]) [] := by
  refine ⟨?_, ?_, rfl⟩
  · rw [take_snoc' hx, parts_seam, h.cuts]
  · intro w hw
    rcases List.mem_append.1 hw with hw | hw
    · exact h.ok w hw
    · rw [List.mem_singleton] at hw
      subst hw
      simp [okW, h.low, hc]
theorem Front.more {s : List UInt8} {k : Nat} {d : List (List UInt8)} {c : List UInt8} {x : UInt8} (h : Front s k d c) (hx : s[k]? = some x) (h1 : 97 ≤ x.toNat) (h2 : x.toNat ≤ 122) : Front s (k + 1) d (c ++ [x]) := by
  have hne : x ≠ 43 := by rintro rfl; simp at h1
  refine ⟨?_, h.ok, ?_⟩
  · rw [take_snoc' hx]
    exact parts_grow hne h.cuts
  · have := h.low
    simp only [lowB, List.all_append, Bool.and_eq_true] at this ⊢
    refine ⟨this, ?_⟩
    simp [h1, h2]
/-- a text whose beginning has a bad word behind a seam, or a byte that is no letter, is of another form -/
theorem bad_app {a b : List UInt8} (h : (parts 43 a).all okW = false) : (parts 43 (a ++ 43 :: b)).all okW = false := by
  rw [parts_app, List.all_append, h]; rfl
theorem Front.empty {s : List UInt8} {k : Nat} {d : List (List UInt8)} (h : Front s k d []) (hk : k = s.length ∨ s[k]? = some 43) : (parts 43 s).all okW = false := by
  have h0 : (parts 43 (s.take k)).all okW = false := by
    rw [h.cuts, List.all_append]
    simp [okW]
  rcases hk with rfl | hk
  · rwa [List.take_length] at h0
  · have hlt := (List.getElem?_eq_some_iff.1 hk).1
    have e : s = s.take k ++ 43 :: s.drop (k + 1) := by
      have hd := List.drop_eq_getElem_cons hlt
      rw [(List.getElem?_eq_some_iff.1 hk).2] at hd
      rw [← hd, List.take_append_drop]
    rw [e]
    exact bad_app h0
/-- at the end all words may be -/
theorem Front.done {s : List UInt8} {d : List (List UInt8)} {c : List UInt8} (h : Front s s.length d c) (hc : c ≠ []) : parts 43 s = d ++ [c] ∧ (parts 43 s).all okW = true := by
  have h0 := h.cuts
  rw [List.take_length] at h0
  refine ⟨h0, ?_⟩
  rw [h0, List.all_append]
  simp only [Bool.and_eq_true]
  refine ⟨List.all_eq_true.2 h.ok, ?_⟩
  simp [okW, h.low, hc]
end Go.Proofs.YtepjcdjpikbbjaaGreatDoor

/-
  A map that the call itself made, of texts to bools, told by a plain function.
-/
namespace Go.Proofs.YtepjcdjpikbbjaaGreatDoor
open Go.RowKit Go.Maps Go.WideMaps

theorem plainElem_bool_inv {H : Type} {P : Program} {e : TypeId} (he : P.underlying e = some .bool) {v : Value} {z : DataW H × List MemPlace} (h : plainElem P e v = some z) : ∃ x : Bool, v = .bool x ∧ z = (.lit (.bool x), []) := by
  unfold plainElem at h
  cases v <;> simp_all
/-- block b is a map of at most n entries, texts (key type K) to bools (element type E), that tells f x at x -/
def MapSB (P : Program) (K E : TypeId) (w : World) (b n : Nat) (f : List UInt8 → Bool) : Prop :=
  ∃ D : DataW Unit, w.ownsMap P K (plainElem P E) b n D ∧ IsMap D ∧ ∀ x : List UInt8, D.atKey (.string x) (.lit (.bool false)) = .lit (.bool (f x))

section
variable {P : Program} {K E T : TypeId} {w w' : World} {b n : Nat} {f : List UInt8 → Bool}
theorem MapSB.made (w : World) : MapSB P K E (w.alloc (.map #[] 0)) w.heap.size 0 (fun _ => false) :=
  ⟨.map [], World.ownsMap_made w P K _, ⟨[], rfl⟩, fun x => by simp [DataW.atKey]⟩
theorem MapSB.kept (h : MapSB P K E w b n f) {row : Option Nat} (hg : w.grownBy w' row) (hne : some b ≠ row) : MapSB P K E w' b n f := by
  obtain ⟨D, h1, h2, h3⟩ := h
  exact ⟨D, h1.kept hg hne, h2, h3⟩
theorem MapSB.below (h : MapSB P K E w b n f) (hb : Below w.heap.size w w') : MapSB P K E w' b n f := h.kept (only_of_below hb none) (by simp)
theorem MapSB.alloc (h : MapSB P K E w b n f) (o : Obj) : MapSB P K E (w.alloc o) b n f := h.kept (World.grownBy_alloc w o none) (by simp)
theorem MapSB.drewN (h : MapSB P K E w b n f) (m : Nat) : MapSB P K E (w.drewN m) b n f := h
theorem MapSB.lt (h : MapSB P K E w b n f) : b < w.heap.size := by
  obtain ⟨D, h1, _⟩ := h
  exact h1.lt
theorem MapSB.mono (h : MapSB P K E w b n f) {m : Nat} (hm : n ≤ m) : MapSB P K E w b m f := by
  obtain ⟨D, h1, h2, h3⟩ := h
  exact ⟨D, h1.mono hm, h2, h3⟩
theorem MapSB.look (h : MapSB P K E w b n f) (ht : P.underlying T = some (.map K E)) (hk : P.underlying K = some .string) (he : P.underlying E = some .bool)
    (hz : (zeroValue E).run P w = .ok (.bool false) w) (x : List UInt8) (hx : x.length ≤ maxLen) :
    (Instr.lookup T (.map (some b)) (.string (txt x)) false).run P w = .ok (.bool (f x)) w := by
  obtain ⟨D, h1, h2, h3⟩ := h
  have hkey : keyOf P K (.string (txt x)) = some (.string x) := by
    rw [keyOf_string_mk hk (by rw [txt_size]; exact hx), data_txt]
  obtain ⟨v, ps, hrun, hv⟩ := h1.lookup (string_keyed hk) ht hz (plainElem_bool he false) hkey
  obtain ⟨y, rfl, hy⟩ := plainElem_bool_inv he hv
  simp only [Prod.mk.injEq] at hy
  have h4 := h3 x
  rw [hy.1] at h4
  have h6 : y = f x := by injection h4 with h4; injection h4
  rw [hrun, h6]
theorem MapSB.put (h : MapSB P K E w b n f) (ht : P.underlying T = some (.map K E)) (hk : P.underlying K = some .string) (he : P.underlying E = some .bool)
    (hn : n < maxLen) (x : List UInt8) (hx : x.length ≤ maxLen) (v : Bool) :
    ∃ w', (Instr.mapUpdate T (.map (some b)) (.string (txt x)) (.bool v)).run P w = .ok () w' ∧ MapSB P K E w' b (n + 1) (fun y => if y = x then v else f y) ∧ w.grownBy w' (some b) := by
  obtain ⟨D, h1, h2, h3⟩ := h
  have hkey : keyOf P K (.string (txt x)) = some (.string x) := by
    rw [keyOf_string_mk hk (by rw [txt_size]; exact hx), data_txt]
  obtain ⟨w', hrun, r1, r2⟩ := h1.update (string_keyed hk) ht hn hkey (plainElem_bool he v)
  refine ⟨w', hrun, ⟨_, r1, ?_, ?_⟩, r2⟩
  · obtain ⟨l, rfl⟩ := h2
    exact ⟨_, rfl⟩
  · intro y
    dsimp only
    by_cases e : y = x
    · subst e
      rw [if_pos rfl, atKey_put_same h2 (by simp [WideAt.IsKeyLit])]
    · rw [if_neg e, atKey_put_other (by simpa using e)]
      exact h3 y
end
end Go.Proofs.YtepjcdjpikbbjaaGreatDoor

/-
  strings.Join of a row of texts, by the shelf's contract.
-/
namespace Go.Proofs.YtepjcdjpikbbjaaGreatDoor
open Go.RowKit Go.Sort

theorem join_row (c : UInt8) {B : Nat} {v : Value} {L : List (List UInt8)} {w : World} (h : Row w B v L) (hL : L.length ≤ 1000000) (hlen : (glue c L).length ≤ 1000000) :
    Calls Tryz.prog 50 #[v, .string ⟨#[c]⟩] w fun e w' => e = .returned (.string (txt (glue c L))) ∧ Below w.heap.size w w' := by
  obtain ⟨g, cap, rfl, hg, hlt, hn, hm, hH⟩ := h.parts
  have hd : (L.map txt).map (·.data.toList) = L := by
    rw [List.map_map]
    exact (List.map_congr_left fun x _ => data_txt x).trans (List.map_id L)
  have hj : Lib.join ((L.map txt).map (·.data.toList)) (⟨#[c]⟩ : ByteArray).data.toList = glue c L := by rw [hd]; exact glue_join c L
  have := Tryz.strings_Join g 0 cap (L.map txt) ⟨#[c]⟩ w (fun j x hx => by
    rw [List.getElem?_map] at hx
    rcases e : L[j]? with _ | y
    · rw [e] at hx; cases hx
    · rw [e] at hx
      have hj := (List.getElem?_eq_some_iff.1 e).1
      have hc := (hH j (by simpa using hj)).1
      rw [hc]
      simp at hx
      subst hx
      simp [encStr, txt, List.getElem!_eq_getElem?_getD, e]) hlt (by rw [List.length_map]; omega) (by rw [List.length_map]; omega) (by rw [hj]; omega)
  rw [List.length_map, hj] at this
  exact this
end Go.Proofs.YtepjcdjpikbbjaaGreatDoor

/-
  slices.Sort (and sort.Strings) of a row of texts, by the shelf's contracts.
-/
namespace Go.Proofs.YtepjcdjpikbbjaaGreatDoor
open Go.RowKit Go.Sort

theorem sort_row {B : Nat} {v : Value} {L : List (List UInt8)} {w W : World} (h : Row w B v L) (hB : Below B W w) (hs : B ≤ w.heap.size) (hL : L.length ≤ 1000000) :
    Calls Tryz.prog 197 #[v] w fun e w' => e = .returned (.tuple #[]) ∧ Row w' B v (L.mergeSort leW) ∧ Below B W w' := by
  obtain ⟨g, cap, rfl, hg, hlt, hn, hm, hH⟩ := h.parts
  refine (Tryz.slices_Sort_string g 0 cap L w hH hlt (by omega)).mono ?_
  rintro e w' ⟨rfl, n, os, rfl⟩
  refine ⟨rfl, h.sorted (List.length_mergeSort L), ?_⟩
  exact hB.grown (grownBy_sorted _) hs (fun j hj => by cases hj; exact hg)

end Go.Proofs.YtepjcdjpikbbjaaGreatDoor

/-
  A scope's number and words, by what holds of its parts; a slice of texts, or nil.
-/
namespace Go.Proofs.YtepjcdjpikbbjaaGreatDoor
open Go.RowKit Go.Sort

def longB (l : List UInt8) : Bool := decide (8 < l.length)
def RowOrNil (w : World) (B : Nat) (v : Value) (L : List (List UInt8)) : Prop := (v = .slice none 0 0 ∧ L = []) ∨ Row w B v L
theorem scopeN_form {s : List UInt8} (h0 : s ≠ []) (h : (parts 43 s).all okW = false) : scopeN s = 3 := by
  unfold scopeN; rw [if_neg h0, h]; rfl
theorem scopeN_limit {s : List UInt8} (h0 : s ≠ []) (h : (parts 43 s).all okW = true) (h2 : 5 < (uniq (parts 43 s)).length ∨ (uniq (parts 43 s)).any longB = true) : scopeN s = 4 := by
  unfold scopeN; rw [if_neg h0, if_pos h, if_neg]
  rintro ⟨h3, h4⟩
  rcases h2 with h2 | h2
  · omega
  · obtain ⟨x, hx, hl⟩ := List.any_eq_true.1 h2
    have := List.all_eq_true.1 h4 x hx
    simp [longB] at hl this
    omega
theorem scopeN_fine {s : List UInt8} (h0 : s ≠ []) (h : (parts 43 s).all okW = true) (h2 : ¬ 5 < (uniq (parts 43 s)).length) (h3 : (uniq (parts 43 s)).any longB = false) : scopeN s = 0 ∧ scopeL s = uniq (parts 43 s) := by
  have h1 : scopeN s = 0 := by
    unfold scopeN; rw [if_neg h0, if_pos h, if_pos]
    refine ⟨by omega, ?_⟩
    rw [List.all_eq_true]
    intro x hx
    have := List.any_eq_false.1 h3 x hx
    simp [longB] at this
    simpa using this
  exact ⟨h1, by unfold scopeL; rw [if_neg h0, if_pos h1]⟩
theorem scopeL_bad {s : List UInt8} (h : scopeN s ≠ 0) : scopeL s = [] := by
  unfold scopeL
  split
  · rfl
  · first | rfl | rw [if_neg h]
end Go.Proofs.YtepjcdjpikbbjaaGreatDoor
