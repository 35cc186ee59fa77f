/-
  The body of a token, by the program.
-/
import Derived.Test.YtdfgegicfhcmeaaGreatDoorBody
namespace Go.Proofs.YtdfgegicfhcmeaaGreatDoor
open Go.RowKit

theorem keep_body4 {W w w' : World} {u x y z : Value} (h0 : w.cell? ⟨W.heap.size, 0, none⟩ = some u) (h1 : w.cell? ⟨W.heap.size, 1, none⟩ = some x) (h2 : w.cell? ⟨W.heap.size, 2, none⟩ = some y) (h3 : w.cell? ⟨W.heap.size, 3, none⟩ = some z)
    (hT : Tens w) (hB : Below W.heap.size W w) (hb : Below w.heap.size w w') :
    w'.cell? ⟨W.heap.size, 0, none⟩ = some u ∧ w'.cell? ⟨W.heap.size, 1, none⟩ = some x ∧ w'.cell? ⟨W.heap.size, 2, none⟩ = some y ∧ w'.cell? ⟨W.heap.size, 3, none⟩ = some z ∧ Tens w' ∧ Below W.heap.size W w' := by
  have hlt : W.heap.size < w.heap.size := World.block_lt_of_cell? w _ h1
  refine ⟨?_, keep_body h1 h2 h3 hT hB hb⟩
  rw [hb.cell (p := ⟨W.heap.size, 0, none⟩) hlt]; exact h0

set_option maxHeartbeats 2000000 in
theorem token_body1 (b c d : Int) (W : World) (hT : Tens W) (hob : okN b = true) (hoc : okN c = true) :
    Calls Tryz.prog 16 #[v4 1 b c d] W fun e w' => e = .returned (.string (⟨#[114, 46]⟩ ++ itoS b ++ ⟨#[46]⟩ ++ itoS c)) ∧ Below W.heap.size W w' := by
  have hsb := itoS_size b hob
  have hsc := itoS_size c hoc
  have HT := Lib.hid (Tens.below hT ((Below.refl W.heap.size W).alloc (Nat.le_refl _) (.cells #[.int .i64 1, .int .i64 b, .int .i64 c, .int .i64 d] 23)) hT.lt)
  have z1 : (⟨#[114, 46]⟩ ++ itoS b : ByteArray).size ≤ 2 + 21 := app_size _ _ 2 21 (by decide) hsb
  have z2 := app_size _ (⟨#[46]⟩ : ByteArray) _ 1 z1 (by decide)
  have e1 := add_run (⟨#[114, 46]⟩ : ByteArray) (itoS b) 2 21 (by decide) hsb (by omega)
  have e2 := add_run _ (⟨#[46]⟩ : ByteArray) _ 1 z1 (by decide) (by omega)
  have e3 := add_run _ (itoS c) _ _ z2 hsc (by omega)
  clear z1 z2
  clear hT
  unfold v4
  go_enter Tryz.func16, Tryz.ntmps16
  go_wp2_with fail
  have hT1 := HT.out
  have hB1 := (Below.refl W.heap.size W).alloc (Nat.le_refl _) (.cells #[.int .i64 1, .int .i64 b, .int .i64 c, .int .i64 d] 23)
  have hc0 : (W.alloc (.cells #[.int .i64 1, .int .i64 b, .int .i64 c, .int .i64 d] 23)).cell? ⟨W.heap.size, 0, none⟩ = some (.int .i64 1) := by simp
  have hc1 : (W.alloc (.cells #[.int .i64 1, .int .i64 b, .int .i64 c, .int .i64 d] 23)).cell? ⟨W.heap.size, 1, none⟩ = some (.int .i64 b) := by simp
  have hc2 : (W.alloc (.cells #[.int .i64 1, .int .i64 b, .int .i64 c, .int .i64 d] 23)).cell? ⟨W.heap.size, 2, none⟩ = some (.int .i64 c) := by simp
  have hc3 : (W.alloc (.cells #[.int .i64 1, .int .i64 b, .int .i64 c, .int .i64 d] 23)).cell? ⟨W.heap.size, 3, none⟩ = some (.int .i64 d) := by simp
  generalize W.alloc (.cells #[.int .i64 1, .int .i64 b, .int .i64 c, .int .i64 d] 23) = w0 at *
  clear HT
  have hT2 : Tens w0.drew := hT1
  have hB2 : Below W.heap.size W w0.drew := ⟨hB1.os, hB1.tape, hB1.output, hB1.size, hB1.block⟩
  go_region_held3 (fun w' => w'.cell? ⟨W.heap.size, 0, none⟩ = some (.int .i64 1) ∧ w'.cell? ⟨W.heap.size, 1, none⟩ = some (.int .i64 b) ∧ w'.cell? ⟨W.heap.size, 2, none⟩ = some (.int .i64 c) ∧ w'.cell? ⟨W.heap.size, 3, none⟩ = some (.int .i64 d) ∧ Tens w' ∧ Below W.heap.size W w')
    (first
      | (refine ⟨?_, ?_, ?_, ?_, hT2, hB2⟩ <;> go_keep)
      | (go_split_ands
         exact keep_body4 (by assumption) (by assumption) (by assumption) (by assumption) (by assumption) (by assumption) (by assumption)))
    ((go_at_call 36; refine (itoa_c _ (by assumption) _ (by (go_split_ands; assumption))).mono ?_; rintro e w1 ⟨rfl, hb1⟩))
  go_split_ands
  go_wp2_with fail
  go_ret
  exact ⟨rfl, by assumption⟩

set_option maxHeartbeats 2000000 in
theorem token_body2 (b c d : Int) (W : World) (hT : Tens W) (hob : okN b = true) (hoc : okN c = true) (hod : okN d = true) :
    Calls Tryz.prog 16 #[v4 2 b c d] W fun e w' => e = .returned (.string (⟨#[97, 46]⟩ ++ itoS b ++ ⟨#[46]⟩ ++ itoS c ++ ⟨#[46]⟩ ++ itoS d)) ∧ Below W.heap.size W w' := by
  have hsb := itoS_size b hob
  have hsc := itoS_size c hoc
  have hsd := itoS_size d hod
  obtain ⟨t, ht⟩ : ∃ t : ByteArray, t = ⟨#[46]⟩ ++ (itoS b ++ (⟨#[46]⟩ ++ itoS c)) := ⟨_, rfl⟩
  have hre : (⟨#[114, 46]⟩ : ByteArray) ++ itoS b ++ ⟨#[46]⟩ ++ itoS c = ⟨#[114]⟩ ++ t := by
    rw [ht, show (⟨#[114, 46]⟩ : ByteArray) = ⟨#[114]⟩ ++ ⟨#[46]⟩ from rfl]; simp only [ByteArray.append_assoc]
  have hfin : (⟨#[97]⟩ : ByteArray) ++ t ++ ⟨#[46]⟩ ++ itoS d = ⟨#[97, 46]⟩ ++ itoS b ++ ⟨#[46]⟩ ++ itoS c ++ ⟨#[46]⟩ ++ itoS d := by
    rw [ht, show (⟨#[97, 46]⟩ : ByteArray) = ⟨#[97]⟩ ++ ⟨#[46]⟩ from rfl]; simp only [ByteArray.append_assoc]
  have hts : t.size ≤ 50 := by
    rw [ht, ByteArray.size_append, ByteArray.size_append, ByteArray.size_append, show (⟨#[46]⟩ : ByteArray).size = 1 from rfl]; omega
  clear ht
  have hsl : ∀ w : World, (Instr.slice 9 (.string (⟨#[114]⟩ ++ t)) (some (.int .i64 1)) none none).run Tryz.prog w = .ok (.string t) w := by
    intro w
    have hz : ((⟨#[114]⟩ : ByteArray) ++ t).size = 1 + t.size := by rw [ByteArray.size_append]; rfl
    rw [run_slice_string_l w 9 _ Tryz.underlying9 .i64 1 (by omega) (by rw [hz]; omega)]
    congr 2
    apply ByteArray.ext
    simp [hz]
  have f1 := add_run (⟨#[97]⟩ : ByteArray) t 1 50 (by decide) hts (by omega)
  have y1 : (⟨#[97]⟩ ++ t : ByteArray).size ≤ 1 + 50 := app_size _ _ 1 50 (by decide) hts
  have f2 := add_run _ (⟨#[46]⟩ : ByteArray) _ 1 y1 (by decide) (by omega)
  have y2 := app_size _ (⟨#[46]⟩ : ByteArray) _ 1 y1 (by decide)
  have f3 := add_run _ (itoS d) _ _ y2 hsd (by omega)
  clear y1 y2
  have HT := Lib.hid (Tens.below hT ((Below.refl W.heap.size W).alloc (Nat.le_refl _) (.cells #[.int .i64 2, .int .i64 b, .int .i64 c, .int .i64 d] 23)) hT.lt)
  have z1 : (⟨#[114, 46]⟩ ++ itoS b : ByteArray).size ≤ 2 + 21 := app_size _ _ 2 21 (by decide) hsb
  have z2 := app_size _ (⟨#[46]⟩ : ByteArray) _ 1 z1 (by decide)
  have e1 := add_run (⟨#[114, 46]⟩ : ByteArray) (itoS b) 2 21 (by decide) hsb (by omega)
  have e2 := add_run _ (⟨#[46]⟩ : ByteArray) _ 1 z1 (by decide) (by omega)
  have e3 := add_run _ (itoS c) _ _ z2 hsc (by omega)
  clear z1 z2
  clear hT
  unfold v4
  go_enter Tryz.func16, Tryz.ntmps16
  go_wp2_with fail
  have hT1 := HT.out
  have hB1 := (Below.refl W.heap.size W).alloc (Nat.le_refl _) (.cells #[.int .i64 2, .int .i64 b, .int .i64 c, .int .i64 d] 23)
  have hc0 : (W.alloc (.cells #[.int .i64 2, .int .i64 b, .int .i64 c, .int .i64 d] 23)).cell? ⟨W.heap.size, 0, none⟩ = some (.int .i64 2) := by simp
  have hc1 : (W.alloc (.cells #[.int .i64 2, .int .i64 b, .int .i64 c, .int .i64 d] 23)).cell? ⟨W.heap.size, 1, none⟩ = some (.int .i64 b) := by simp
  have hc2 : (W.alloc (.cells #[.int .i64 2, .int .i64 b, .int .i64 c, .int .i64 d] 23)).cell? ⟨W.heap.size, 2, none⟩ = some (.int .i64 c) := by simp
  have hc3 : (W.alloc (.cells #[.int .i64 2, .int .i64 b, .int .i64 c, .int .i64 d] 23)).cell? ⟨W.heap.size, 3, none⟩ = some (.int .i64 d) := by simp
  generalize W.alloc (.cells #[.int .i64 2, .int .i64 b, .int .i64 c, .int .i64 d] 23) = w0 at *
  clear HT
  have hT2 : Tens w0.drew := hT1
  have hB2 : Below W.heap.size W w0.drew := ⟨hB1.os, hB1.tape, hB1.output, hB1.size, hB1.block⟩
  go_region_held3 (fun w' => w'.cell? ⟨W.heap.size, 0, none⟩ = some (.int .i64 2) ∧ w'.cell? ⟨W.heap.size, 1, none⟩ = some (.int .i64 b) ∧ w'.cell? ⟨W.heap.size, 2, none⟩ = some (.int .i64 c) ∧ w'.cell? ⟨W.heap.size, 3, none⟩ = some (.int .i64 d) ∧ Tens w' ∧ Below W.heap.size W w')
    (first
      | (refine ⟨?_, ?_, ?_, ?_, hT2, hB2⟩ <;> go_keep)
      | (go_split_ands
         exact keep_body4 (by assumption) (by assumption) (by assumption) (by assumption) (by assumption) (by assumption) (by assumption)))
    ((go_at_call 36; refine (itoa_c _ (by assumption) _ (by (go_split_ands; assumption))).mono ?_; rintro e w1 ⟨rfl, hb1⟩))
  go_split_ands
  rename_i r0 r1 r2 r3 rT rB
  clear e1 e2 e3 hT2 hB2
  go_wp2_with fail
  have hT3 := (show Tens (World.drew _) from rT)
  have hB3 := (show Below W.heap.size W (World.drew _) from ⟨rB.os, rB.tape, rB.output, rB.size, rB.block⟩)
  go_region_held3 (fun w' => w'.cell? ⟨W.heap.size, 1, none⟩ = some (.int .i64 b) ∧ w'.cell? ⟨W.heap.size, 2, none⟩ = some (.int .i64 c) ∧ w'.cell? ⟨W.heap.size, 3, none⟩ = some (.int .i64 d) ∧ Tens w' ∧ Below W.heap.size W w')
    (first
      | (refine ⟨?_, ?_, ?_, hT3, hB3⟩ <;> go_keep)
      | (go_split_ands
         exact keep_body (by assumption) (by assumption) (by assumption) (by assumption) (by assumption) (by assumption)))
    ((go_at_call 36; refine (itoa_c _ (by assumption) _ (by (go_split_ands; assumption))).mono ?_; rintro e w1 ⟨rfl, hb1⟩))
  go_split_ands
  go_wp2_with fail
  go_ret
  exact ⟨rfl, by assumption⟩
end Go.Proofs.YtdfgegicfhcmeaaGreatDoor
