/-
  strings.Split at one byte, strings.Trim at a set of letters: by the shelf's contracts, told of rows of texts.
-/
import Derived.Test.YtklpmoimckblcaaGreatDoorStrs
import Derived.Test.YtklpmoimckblcaaGreatDoorShelf
namespace Go.Proofs.YtklpmoimckblcaaGreatDoor
open Go.RowKit Go.Sort

/-- the library's variable that strings.Index reads holds some number -/
def MaxL (w : World) : Prop := ∃ m, w.cell? ⟨4, 0, none⟩ = some (.int .i64 m)
theorem maxL_of {w : World} (h : w.ShapedOpen Tryz.prog) : MaxL w := Tryz.spl146.s1_3 w h
theorem MaxL.lt {w : World} (h : MaxL w) : 4 < w.heap.size := by
  obtain ⟨m, hm⟩ := h
  exact World.block_lt_of_cell? w _ hm
theorem MaxL.below {B : Nat} {w w' : World} (h : MaxL w) (hb : Below B w w') (hB : 4 < B) : MaxL w' := by
  obtain ⟨m, hm⟩ := h
  exact ⟨m, (hb.cell (p := ⟨4, 0, none⟩) hB).trans hm⟩
theorem MaxL.below' {w w' : World} (h : MaxL w) (hb : Below w.heap.size w w') : MaxL w' := h.below hb h.lt

theorem split_row (c : UInt8) (s : ByteArray) (B : Nat) (w : World) (hs : s.size ≤ 1000000) (hm : MaxL w) (hB : B ≤ w.heap.size) :
    Calls Tryz.prog 28 #[.string s, .string ⟨#[c]⟩] w fun e w' => ∃ v, e = .returned v ∧ Row w' B v (parts c s.data.toList) ∧ Below w.heap.size w w' := by
  obtain ⟨m, hm⟩ := hm
  refine (Any.strings_Split { Tryz.spl146 with } Tryz.spl146.i9 s ⟨#[c]⟩ m w (by omega) hm (Nat.le_refl _)).mono ?_
  rintro e w' ⟨rfl, rfl⟩
  have e1 : (Lib.splitB ⟨#[c]⟩ 0 (Lib.countB s ⟨#[c]⟩) s).map Value.string = (parts c s.data.toList).map encStr := by
    rw [← splitB_parts, Lib.map_encStr]
  have e2 := countB_parts c s
  have hl := parts_len c s.data.toList
  rw [size_data] at hl
  refine ⟨_, rfl, ?_, (Below.refl _ _).alloc (Nat.le_refl _) _⟩
  rw [e1, e2]
  exact Row.new hB (by unfold maxLen; omega)

theorem dropWhile_all {p : UInt8 → Bool} {l : List UInt8} : l.dropWhile p = [] ↔ l.all p = true := by
  induction l with
  | nil => simp
  | cons x l ih =>
    by_cases h : p x = true
    · rw [List.dropWhile_cons_of_pos h, ih]; simp [h]
    · rw [List.dropWhile_cons_of_neg h]; simp [h]
theorem dropWhile_stop {p : UInt8 → Bool} {l : List UInt8} (h : (l.dropWhile p).all p = true) : l.dropWhile p = [] := by
  rcases e : l.dropWhile p with _ | ⟨x, r⟩
  · rfl
  · exfalso
    have h2 := List.all_eq_true.1 h x (by rw [e]; simp)
    have h3 := List.head?_dropWhile_not p l
    rw [e] at h3
    simp [h2] at h3
theorem trimS_nil (l cs : List UInt8) : Lib.trimS l cs = [] ↔ l.all (cs.contains ·) = true := by
  unfold Lib.trimS Lib.trimRightS Lib.trimLeftS
  rw [dropWhile_all, List.all_reverse]
  constructor
  · intro h
    have := dropWhile_all.1 (dropWhile_stop h)
    rwa [List.all_reverse] at this
  · intro h
    rw [dropWhile_all.2 (by rw [List.all_reverse]; exact h)]
    rfl
def NotEmpty (e : Ending) : Prop := ∃ y : ByteArray, e = .returned (.string y) ∧ y.toList.isEmpty = false
theorem trim_set (cs : ByteArray) (x : ByteArray) (w : World) (hx : x.size ≤ 1000000) (hc : cs.size < 4294967281) (ha : ∀ (j : Nat) b, cs.data.toList[j]? = some b → b.toNat < 128) :
    (x.data.toList.all (cs.data.toList.contains ·) = true → Calls Tryz.prog 26 #[.string x, .string cs] w fun e w' => e = .returned (.string ⟨#[]⟩) ∧ Below w.heap.size w w') ∧
    (x.data.toList.all (cs.data.toList.contains ·) = false → Calls Tryz.prog 26 #[.string x, .string cs] w fun e w' => NotEmpty e ∧ Below w.heap.size w w') := by
  have h := Any.strings_Trim_laid Tryz.tri160 (by kernel_rfl) x cs w (by omega) hc ha
  constructor
  · intro hall
    refine h.mono ?_
    rintro e w' ⟨rfl, hb⟩
    rw [(trimS_nil _ _).2 hall]
    exact ⟨rfl, hb⟩
  · intro hall
    refine h.mono ?_
    rintro e w' ⟨rfl, hb⟩
    refine ⟨⟨_, rfl, ?_⟩, hb⟩
    have : Lib.trimS x.data.toList cs.data.toList ≠ [] := fun e => by rw [(trimS_nil _ _).1 e] at hall; cases hall
    show (txt _).toList.isEmpty = false
    rw [toList_txt]
    simpa using this

end Go.Proofs.YtklpmoimckblcaaGreatDoor
