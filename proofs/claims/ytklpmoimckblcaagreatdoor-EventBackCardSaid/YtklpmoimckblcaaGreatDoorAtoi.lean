/-
  strconv.Atoi: its number, and whether it gives an error.
-/
import Derived.Test.YtklpmoimckblcaaGreatDoorItoa
import Derived.Lib.AtoiErrMem
namespace Go.Proofs.YtklpmoimckblcaaGreatDoor
open Go.RowKit Go.Sort

/-- the library's two errors are there -/
def ErrVars (w : World) : Prop := (∃ tp p, w.cell? ⟨1, 0, none⟩ = some (.iface tp p)) ∧ (∃ tp p, w.cell? ⟨2, 0, none⟩ = some (.iface tp p))
theorem ErrVars.lt {w : World} (h : ErrVars w) : 1 < w.heap.size ∧ 2 < w.heap.size := by
  obtain ⟨⟨_, _, h1⟩, _, _, h2⟩ := h
  exact ⟨World.block_lt_of_cell? w _ h1, World.block_lt_of_cell? w _ h2⟩
theorem ErrVars.below {B : Nat} {w w' : World} (h : ErrVars w) (hb : Below B w w') (h1 : 1 < B) (h2 : 2 < B) : ErrVars w' := by
  obtain ⟨⟨a, b, e1⟩, c, d, e2⟩ := h
  exact ⟨⟨a, b, (hb.cell (p := ⟨1, 0, none⟩) h1).trans e1⟩, c, d, (hb.cell (p := ⟨2, 0, none⟩) h2).trans e2⟩
theorem ErrVars.below' {w w' : World} (h : ErrVars w) (hb : Below w.heap.size w w') : ErrVars w' := h.below hb h.lt.1 h.lt.2

theorem atoi_yes (s : ByteArray) (w : World) (hs : s.size ≤ 1000000) (h : atoiE s.data.toList = true) :
    Calls Tryz.prog 30 #[.string s] w fun e w' => e = .returned (.tuple #[.int .i64 (atoiN s.data.toList), .nilIface]) ∧ Below w.heap.size w w' := by
  unfold atoiE at h
  unfold atoiN
  rcases ha : Lib.atoiAll s.data.toList with v | _ | _
  · refine (Tryz.strconv_Atoi_ok s (by omega) v ha w).mono ?_
    rintro e w' ⟨rfl, hw⟩
    refine ⟨rfl, ?_⟩
    rcases hw with rfl | ⟨t, rfl⟩
    · exact Below.refl _ _
    · exact Lib.bytesWorld_below w _ t
  · rw [ha] at h; cases h
  · rw [ha] at h; cases h
def Failed (n : Int) (e : Ending) : Prop := ∃ te pe, e = .returned (.tuple #[.int .i64 n, .iface te pe])
theorem atoi_no (s : ByteArray) (w : World) (hs : s.size ≤ 1000000) (hv : ErrVars w) (h : atoiE s.data.toList = false) :
    Calls Tryz.prog 30 #[.string s] w fun e w' => Failed (atoiN s.data.toList) e ∧ Below w.heap.size w w' := by
  unfold atoiE at h
  unfold atoiN
  obtain ⟨⟨t1, p1, h1⟩, t2, p2, h2⟩ := hv
  rcases ha : Lib.atoiAll s.data.toList with v | _ | _
  · rw [ha] at h; cases h
  · refine (Tryz.strconv_Atoi_syntax s (by omega) ha _ w h1 (.inr ⟨_, _, rfl⟩)).mono ?_
    rintro e w' ⟨N, rfl, _, _, hb⟩
    exact ⟨⟨_, _, rfl⟩, hb⟩
  · refine (Tryz.strconv_Atoi_range s (by omega) ha _ w h2 (.inr ⟨_, _, rfl⟩)).mono ?_
    rintro e w' ⟨N, rfl, _, _, hb⟩
    exact ⟨⟨_, _, rfl⟩, hb⟩
/-- strconv.Itoa at any int -/
theorem itoa_any (x : Int) (h0 : -9223372036854775808 ≤ x) (h1 : x ≤ 9223372036854775807) (w : World) (hT : Tens w) :
    Calls Tryz.prog 22 #[.int .i64 x] w fun e w' => e = .returned (.string (itoS x)) ∧ Below w.heap.size w w' := by
  refine (Tryz.strconv_Itoa x h0 h1 w hT).mono ?_
  rintro e w' ⟨rfl, k, os, rfl⟩
  exact ⟨rfl, below_grown w k os⟩
theorem itoS_data (x : Int) : (itoS x).data.toList = Lib.itoa x := by simp [itoS]
theorem itoS_list (x : Int) : (itoS x).toList = Lib.itoa x := by rw [ByteArray.toList_eq]; exact itoS_data x
end Go.Proofs.YtklpmoimckblcaaGreatDoor
