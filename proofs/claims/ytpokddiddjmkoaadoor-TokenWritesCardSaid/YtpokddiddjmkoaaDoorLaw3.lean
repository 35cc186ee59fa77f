/-
  TokenWrites: the walk.
-/
import Derived.Test.YtpokddiddjmkoaaDoorRefWrite2
namespace Go.Proofs.YtpokddiddjmkoaaDoor
open Go.RowKit

theorem law3_write (key a b c d : Int) : ∃ (s : ByteArray) (n : Int), (n = 0 ∨ n = 1) ∧
    (∀ w, Tens w → Calls Tryd.prog 18 #[.int .i64 key, v4 a b c d] w fun e w' => e = .returned (.tuple #[.string s, errV n]) ∧ Below w.heap.size w w') ∧
    (∀ w, Tens w → Tab15 w → Calls Tryd.prog 16 #[.int .i64 key, v4 a b c d] w fun e w' => e = .returned (.tuple #[.string s, .int .i64 n]) ∧ Below w.heap.size w w') := by
  cases h : rightN a b c d
  · exact ⟨⟨#[]⟩, 1, .inr rfl, fun w _ => token_write_no key a b c d w h, fun w _ _ => ref_write_no key a b c d w h⟩
  · refine ⟨tokS key a b c d, 0, .inl rfl, fun w hw => token_write_yes key a b c d w hw h, fun w hw hw2 => ref_write_yes key a b c d w hw hw2 h ?_⟩
    have h1 := h
    simp [rightN] at h1
    exact h1.1.1

set_option maxHeartbeats 1000000 in
theorem tokenWrites_walk (key a b c d : Int) (W : World) (hT : Tens W) (hT2 : Tab15 W) (hE : ErrType W) :
    Calls Tryd.prog 5 #[.int .i64 key, v4 a b c d] W fun e w' => e = .returned (.bool true) ∧ Below W.heap.size W w' := by
  obtain ⟨s, n, hn, h1, h2⟩ := law3_write key a b c d
  have H1 := Lib.hid h1
  have H2 := Lib.hid h2
  have HG := Lib.hid (fun w => law_given a b c d w)
  have HT := Lib.hid hT
  have HT2 := Lib.hid hT2
  have HE := Lib.hid hE
  have l1 := hT.lt
  have l2 := hT2.lt
  have l3 := hE.lt
  clear h1 h2 hT hT2 hE hn
  unfold v4 at *
  go_enter Tryd.func5, Tryd.ntmps5
  go_wp2_with (first
    | (go_at_call 17; refine (HG.out _).mono ?_; rintro e w1 ⟨rfl, hb1⟩
       obtain ⟨hc0, hc1, hc2, hc3⟩ := four_cells hb1
       have HB1 := Lib.hid (((Below.refl W.heap.size W).alloc (Nat.le_refl _) (.cells #[.int .i64 a, .int .i64 b, .int .i64 c, .int .i64 d] 46)).trans (hb1.mono (by simp)))
       have hlt : W.heap.size < w1.heap.size := World.block_lt_of_cell? w1 _ hc0
       clear hb1)
    | (go_at_call 16; refine (H2.out _ (HT.out.below HB1.out l1) (HT2.out.below HB1.out l2)).mono ?_; rintro e w2 ⟨rfl, hb2⟩
       have hd0 := (hb2.cell (p := ⟨W.heap.size, 0, none⟩) hlt).trans hc0
       have hd1 := (hb2.cell (p := ⟨W.heap.size, 1, none⟩) hlt).trans hc1
       have hd2 := (hb2.cell (p := ⟨W.heap.size, 2, none⟩) hlt).trans hc2
       have hd3 := (hb2.cell (p := ⟨W.heap.size, 3, none⟩) hlt).trans hc3
       have HB2 := Lib.hid (below_2 HB1.out hb2)
       clear hb2 hc0 hc1 hc2 hc3)
    | (go_at_call 18; refine (H1.out _ (HT.out.below HB2.out l1)).mono ?_; rintro e w3 ⟨rfl, hb3⟩
       have HB3 := Lib.hid (below_2 HB2.out hb3)
       clear hb3)
    | (go_at_call 6; refine (bare_any _ _ _ (HE.out.below HB3.out l3)).mono ?_; rintro e w4 ⟨rfl, hb4⟩
       have HB4 := Lib.hid (below_2 HB3.out hb4)
       clear hb4))
  go_ret
  exact ⟨rfl, HB4.out⟩
end Go.Proofs.YtpokddiddjmkoaaDoor
