/-
  rotorref.WriteToken.
-/
import Derived.Test.YtdfgegicfhcmeaaGreatDoorWrite2
namespace Go.Proofs.YtdfgegicfhcmeaaGreatDoor
open Go.RowKit

theorem ref_tagS (key : Int) (s : ByteArray) (W : World) (hs : s.size ≤ 1000000) (hT : Tab15 W) :
    Calls Tryz.prog 10 #[.int .i64 key, .string s] W fun e w' => e = .returned (.string (tagS key s)) ∧ Below W.heap.size W w' := ref_tag key s W hs hT
theorem keep_all {W w w' : World} {u x y z : Value} (h0 : w.cell? ⟨W.heap.size, 0, none⟩ = some u) (h1 : w.cell? ⟨W.heap.size, 1, none⟩ = some x) (h2 : w.cell? ⟨W.heap.size, 2, none⟩ = some y) (h3 : w.cell? ⟨W.heap.size, 3, none⟩ = some z)
    (hT : Tens w) (hT2 : Tab15 w) (hB : Below W.heap.size W w) (hb : Below w.heap.size w w') :
    w'.cell? ⟨W.heap.size, 0, none⟩ = some u ∧ w'.cell? ⟨W.heap.size, 1, none⟩ = some x ∧ w'.cell? ⟨W.heap.size, 2, none⟩ = some y ∧ w'.cell? ⟨W.heap.size, 3, none⟩ = some z ∧ Tens w' ∧ Tab15 w' ∧ Below W.heap.size W w' := by
  obtain ⟨a0, a1, a2, a3, a4, a5⟩ := keep_body4 h0 h1 h2 h3 hT hB hb
  exact ⟨a0, a1, a2, a3, a4, hT2.below hb hT2.lt, a5⟩

set_option maxHeartbeats 4000000 in
theorem ref_write_yes (key a b c d : Int) (W : World) (hT : Tens W) (hT2 : Tab15 W) (h : rightN a b c d = true) (hk : (a = 1 ∧ d = 0) ∨ (a = 2 ∧ okN d = true)) :
    Calls Tryz.prog 30 #[.int .i64 key, v4 a b c d] W fun e w' => e = .returned (.tuple #[.string (tokS key a b c d), .int .i64 0]) ∧ Below W.heap.size W w' := by
  obtain ⟨_, hob, hoc⟩ := right_cases h
  have hsz := bodyS_size a b c d h
  have hts := tagS_size key (bodyS a b c d)
  have e1 := add_run (bodyS a b c d) (⟨#[46]⟩ : ByteArray) 70 1 hsz (by decide) (by omega)
  have z1 := app_size (bodyS a b c d) (⟨#[46]⟩ : ByteArray) 70 1 hsz (by decide)
  have e2 := add_run _ (tagS key (bodyS a b c d)) _ 16 z1 (by omega) (by omega)
  have HT := Lib.hid hT
  have HT2 := Lib.hid hT2
  have HB := fun (w : World) (hw : Tens w) => ref_body a b c d w hw h
  have HBB := Lib.hid HB
  have htk : tokS key a b c d = bodyS a b c d ++ ⟨#[46]⟩ ++ tagS key (bodyS a b c d) := rfl
  have HTK := Lib.hid htk
  have hTl := hT.lt
  have hTl2 := hT2.lt
  clear hT hT2 h z1 HB htk
  generalize bodyS a b c d = bs at *
  generalize tokS key a b c d = tk at *
  unfold v4 at *
  rcases hk with ⟨rfl, rfl⟩ | ⟨rfl, hod⟩
  all_goals
    (go_enter Tryz.func30, Tryz.ntmps30
     go_wp2_with (go_at_call 62; refine (ref_in _ _).mono ?_; rintro e w1 ⟨rfl, rfl⟩))
  · obtain ⟨hc0, hc1, hc2, hc3⟩ := four_cells (Below.refl (W.alloc (.cells #[.int .i64 1, .int .i64 b, .int .i64 c, .int .i64 0] 38)).heap.size (W.alloc (.cells #[.int .i64 1, .int .i64 b, .int .i64 c, .int .i64 0] 38)))
    have hB1 := (Below.refl W.heap.size W).alloc (Nat.le_refl _) (.cells #[.int .i64 1, .int .i64 b, .int .i64 c, .int .i64 0] 38)
    have hT1 := HT.out.below hB1 hTl
    have hT2 := HT2.out.below hB1 hTl2
    clear HT HT2
    generalize W.alloc (.cells #[.int .i64 1, .int .i64 b, .int .i64 c, .int .i64 0] 38) = w0 at *
    have hT1' : Tens w0.drew := hT1
    have hT2' : Tab15 w0.drew := hT2
    have hB2 : Below W.heap.size W w0.drew := ⟨hB1.os, hB1.tape, hB1.output, hB1.size, hB1.block⟩
    go_region_held3 (fun w' => w'.cell? ⟨W.heap.size, 0, none⟩ = some (.int .i64 1) ∧ w'.cell? ⟨W.heap.size, 1, none⟩ = some (.int .i64 b) ∧ w'.cell? ⟨W.heap.size, 2, none⟩ = some (.int .i64 c) ∧ w'.cell? ⟨W.heap.size, 3, none⟩ = some (.int .i64 0) ∧ Tens w' ∧ Tab15 w' ∧ Below W.heap.size W w')
      (first
        | (refine ⟨?_, ?_, ?_, ?_, hT1', hT2', hB2⟩ <;> go_keep)
        | (go_split_ands
           exact keep_all (by assumption) (by assumption) (by assumption) (by assumption) (by assumption) (by assumption) (by assumption) (by assumption)))
      (first
        | (go_at_call 31; refine (HBB.out _ (by (go_split_ands; assumption))).mono ?_; rintro e w1 ⟨rfl, hb1⟩)
        | (go_at_call 10; refine (ref_tagS _ _ _ (by omega) (by (go_split_ands; assumption))).mono ?_; rintro e w1 ⟨rfl, hb1⟩))
    all_goals
      (go_wp2_with fail
       go_ret2
       exact ⟨by rw [HTK.out]; rfl, by (go_split_ands; assumption)⟩)
  · obtain ⟨hc0, hc1, hc2, hc3⟩ := four_cells (Below.refl (W.alloc (.cells #[.int .i64 2, .int .i64 b, .int .i64 c, .int .i64 d] 38)).heap.size (W.alloc (.cells #[.int .i64 2, .int .i64 b, .int .i64 c, .int .i64 d] 38)))
    have hB1 := (Below.refl W.heap.size W).alloc (Nat.le_refl _) (.cells #[.int .i64 2, .int .i64 b, .int .i64 c, .int .i64 d] 38)
    have hT1 := HT.out.below hB1 hTl
    have hT2 := HT2.out.below hB1 hTl2
    clear HT HT2
    generalize W.alloc (.cells #[.int .i64 2, .int .i64 b, .int .i64 c, .int .i64 d] 38) = w0 at *
    have hT1' : Tens w0.drew := hT1
    have hT2' : Tab15 w0.drew := hT2
    have hB2 : Below W.heap.size W w0.drew := ⟨hB1.os, hB1.tape, hB1.output, hB1.size, hB1.block⟩
    go_region_held3 (fun w' => w'.cell? ⟨W.heap.size, 0, none⟩ = some (.int .i64 2) ∧ w'.cell? ⟨W.heap.size, 1, none⟩ = some (.int .i64 b) ∧ w'.cell? ⟨W.heap.size, 2, none⟩ = some (.int .i64 c) ∧ w'.cell? ⟨W.heap.size, 3, none⟩ = some (.int .i64 d) ∧ Tens w' ∧ Tab15 w' ∧ Below W.heap.size W w')
      (first
        | (refine ⟨?_, ?_, ?_, ?_, hT1', hT2', hB2⟩ <;> go_keep)
        | (go_split_ands
           exact keep_all (by assumption) (by assumption) (by assumption) (by assumption) (by assumption) (by assumption) (by assumption) (by assumption)))
      (first
        | (go_at_call 31; refine (HBB.out _ (by (go_split_ands; assumption))).mono ?_; rintro e w1 ⟨rfl, hb1⟩)
        | (go_at_call 10; refine (ref_tagS _ _ _ (by omega) (by (go_split_ands; assumption))).mono ?_; rintro e w1 ⟨rfl, hb1⟩))
    all_goals
      (go_wp2_with fail
       go_ret2
       exact ⟨by rw [HTK.out]; rfl, by (go_split_ands; assumption)⟩)
end Go.Proofs.YtdfgegicfhcmeaaGreatDoor
