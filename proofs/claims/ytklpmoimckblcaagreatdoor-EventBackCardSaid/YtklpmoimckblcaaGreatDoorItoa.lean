/-
  strconv.Itoa, told by Below; the table kept.
-/
import Derived.Test.YtklpmoimckblcaaGreatDoorNum
import Derived.Test.YtklpmoimckblcaaGreatDoorWords
import Derived.Test.YtklpmoimckblcaaGreatDoorShelf
import Derived.Lib.LaidTab
import Derived.Lib.ItoaLen
namespace Go.Proofs.YtklpmoimckblcaaGreatDoor
open Go.RowKit Go.Sort

def Tens (w : World) : Prop := Lib.TabIs Tryz.prog w "internal/strconv.uint64pow10" .u64 Lib.pow10Tab
theorem tens_g : Tryz.prog.globalNamed "internal/strconv.uint64pow10" = some 3 := by kernel_rfl
theorem Tens.below {B : Nat} {w w' : World} (h : Tens w) (hb : Below B w w') (hB : 3 < B) : Tens w' := by
  unfold Tens Lib.TabIs at *
  unfold World.var? at *
  simp only [tens_g, Option.bind_some] at h ⊢
  rw [hb.block _ hB]
  exact h
theorem Tens.lt {w : World} (h : Tens w) : 3 < w.heap.size := by
  have h1 := Lib.TabIs.cell h tens_g 0 (by decide)
  rcases Nat.lt_or_ge 3 w.heap.size with h' | h'
  · exact h'
  · simp [World.cell?, Array.getElem?_eq_none h'] at h1
theorem below_grown (w : World) (k : Nat) (os : Array Obj) : Below w.heap.size w (grow (w.drewN k) os) := by
  refine ⟨rfl, rfl, rfl, ?_, fun i hi => ?_⟩
  · show w.heap.size ≤ (w.heap ++ os).size
    simp
  · show (w.heap ++ os)[i]? = w.heap[i]?
    rw [Array.getElem?_append_left hi]

def itoS (x : Int) : ByteArray := ⟨(Lib.itoa x).toArray⟩
theorem itoS_size (x : Int) (hx : okN x = true) : (itoS x).size ≤ 21 := by
  have h : 0 ≤ x ∧ x ≤ 1099511627776 := by simpa [okN] using hx
  show (Lib.itoa x).toArray.size ≤ 21
  rw [List.size_toArray]
  exact Lib.itoa_length_le x (by omega) (by omega)
theorem itoa_c (x : Int) (hx : okN x = true) (w : World) (hT : Tens w) :
    Calls Tryz.prog 22 #[.int .i64 x] w fun e w' => e = .returned (.string (itoS x)) ∧ Below w.heap.size w w' := by
  have h : 0 ≤ x ∧ x ≤ 1099511627776 := by simpa [okN] using hx
  refine (Tryz.strconv_Itoa x (by omega) (by omega) w hT).mono ?_
  rintro e w' ⟨rfl, k, os, rfl⟩
  exact ⟨rfl, below_grown w k os⟩
theorem keep_body {W w w' : World} {x y z : Value} (h1 : w.cell? ⟨W.heap.size, 1, none⟩ = some x) (h2 : w.cell? ⟨W.heap.size, 2, none⟩ = some y) (h3 : w.cell? ⟨W.heap.size, 3, none⟩ = some z)
    (hT : Tens w) (hB : Below W.heap.size W w) (hb : Below w.heap.size w w') :
    w'.cell? ⟨W.heap.size, 1, none⟩ = some x ∧ w'.cell? ⟨W.heap.size, 2, none⟩ = some y ∧ w'.cell? ⟨W.heap.size, 3, none⟩ = some z ∧ Tens w' ∧ Below W.heap.size W w' := by
  have hlt : W.heap.size < w.heap.size := World.block_lt_of_cell? w _ h1
  refine ⟨?_, ?_, ?_, hT.below hb hT.lt, hB.trans (hb.mono hB.size)⟩
  · rw [hb.cell (p := ⟨W.heap.size, 1, none⟩) hlt]; exact h1
  · rw [hb.cell (p := ⟨W.heap.size, 2, none⟩) hlt]; exact h2
  · rw [hb.cell (p := ⟨W.heap.size, 3, none⟩) hlt]; exact h3
end Go.Proofs.YtklpmoimckblcaaGreatDoor
