/-
  token.Write where the token is right.
-/
import Derived.Test.YtdfgegicfhcmeaaGreatDoorWrite
namespace Go.Proofs.YtdfgegicfhcmeaaGreatDoor
open Go.RowKit

theorem mac_tagS (key : Int) (s : ByteArray) (W : World) (hs : s.size ≤ 9223372036854775807) :
    Calls Tryz.prog 17 #[.int .i64 key, .string s] W fun e w' => e = .returned (.string (tagS key s)) ∧ Below W.heap.size W w' := mac_tag key s W hs

theorem four_cells {W w : World} {x0 x1 x2 x3 : Value} {t : TypeId} (h : Below (W.alloc (.cells #[x0, x1, x2, x3] t)).heap.size (W.alloc (.cells #[x0, x1, x2, x3] t)) w) :
    w.cell? ⟨W.heap.size, 0, none⟩ = some x0 ∧ w.cell? ⟨W.heap.size, 1, none⟩ = some x1 ∧ w.cell? ⟨W.heap.size, 2, none⟩ = some x2 ∧ w.cell? ⟨W.heap.size, 3, none⟩ = some x3 := by
  refine ⟨?_, ?_, ?_, ?_⟩
  · rw [h.cell (p := ⟨W.heap.size, 0, none⟩) (by simp)]; simp
  · rw [h.cell (p := ⟨W.heap.size, 1, none⟩) (by simp)]; simp
  · rw [h.cell (p := ⟨W.heap.size, 2, none⟩) (by simp)]; simp
  · rw [h.cell (p := ⟨W.heap.size, 3, none⟩) (by simp)]; simp
set_option maxHeartbeats 1000000 in
theorem token_write_yes (key a b c d : Int) (W : World) (hT : Tens W) (h : rightN a b c d = true) :
    Calls Tryz.prog 6 #[.int .i64 key, v4 a b c d] W fun e w' => e = .returned (.tuple #[.string (tokS key a b c d), .nilIface]) ∧ Below W.heap.size W w' := by
  have HR := fun w => token_right a b c d w
  rw [h] at HR
  have HH := Lib.hid HR
  clear HR
  have hsz := bodyS_size a b c d h
  have hts := tagS_size key (bodyS a b c d)
  have e1 := add_run (bodyS a b c d) (⟨#[46]⟩ : ByteArray) 70 1 hsz (by decide) (by omega)
  have z1 := app_size (bodyS a b c d) (⟨#[46]⟩ : ByteArray) 70 1 hsz (by decide)
  have e2 := add_run _ (tagS key (bodyS a b c d)) _ 16 z1 (by omega) (by omega)
  have HRT := Lib.hid h
  have HT := Lib.hid hT
  have hTlt := hT.lt
  have HB := fun (w : World) (hw : Tens w) => token_body a b c d w hw h
  have HBB := Lib.hid HB
  have htk : tokS key a b c d = bodyS a b c d ++ ⟨#[46]⟩ ++ tagS key (bodyS a b c d) := rfl
  have HTK := Lib.hid htk
  clear hT h z1 HB htk
  generalize bodyS a b c d = bs at *
  unfold v4 at *
  go_enter Tryz.func6, Tryz.ntmps6
  go_wp2_with (first
    | (go_at_call 15; refine (HH.out _).mono ?_; rintro e w1 ⟨rfl, hb1⟩
       have hB1 := ((Below.refl W.heap.size W).alloc (Nat.le_refl _) (.cells #[.int .i64 a, .int .i64 b, .int .i64 c, .int .i64 d] 23)).trans (hb1.mono (by simp))
       obtain ⟨hc0, hc1, hc2, hc3⟩ := four_cells hb1
       have HB1 := Lib.hid hB1
       clear hb1 hB1)
    | (go_at_call 16; refine (HBB.out _ (HT.out.below HB1.out hTlt)).mono ?_; rintro e w2 ⟨rfl, hb2⟩
       have HB2 := Lib.hid (below_2 HB1.out hb2)
       clear hb2)
    | (go_at_call 17; refine (mac_tagS _ _ _ (by omega)).mono ?_; rintro e w3 ⟨rfl, hb3⟩
       have HB3 := Lib.hid (below_2 HB2.out hb3)
       clear hb3))
  go_ret2
  exact ⟨by rw [HTK.out]; rfl, HB3.out⟩
end Go.Proofs.YtdfgegicfhcmeaaGreatDoor
