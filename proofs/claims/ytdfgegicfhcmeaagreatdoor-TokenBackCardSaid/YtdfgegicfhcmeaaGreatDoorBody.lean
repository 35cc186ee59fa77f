/-
  The body of a token, by the reference and by the program.
-/
import Derived.Test.YtdfgegicfhcmeaaGreatDoorItoa
import Derived.Test.YtdfgegicfhcmeaaGreatDoorToken
namespace Go.Proofs.YtdfgegicfhcmeaaGreatDoor
open Go.RowKit

theorem add_run (a b : ByteArray) (n m : Nat) (ha : a.size ≤ n) (hb : b.size ≤ m) (h : n + m ≤ 9223372036854775807) (w : World) : (Op.stringOp .add a b).run Tryz.prog w = .ok (.string (a ++ b)) w :=
  run_string_add_sum w a b (by omega)
theorem app_size (a b : ByteArray) (n m : Nat) (ha : a.size ≤ n) (hb : b.size ≤ m) : (a ++ b).size ≤ n + m := by
  rw [ByteArray.size_append]; omega
set_option maxHeartbeats 2000000 in
theorem ref_body1 (b c d : Int) (W : World) (hT : Tens W) (hob : okN b = true) (hoc : okN c = true) :
    Calls Tryz.prog 31 #[v4 1 b c d] W fun e w' => e = .returned (.string (⟨#[114, 46]⟩ ++ itoS b ++ ⟨#[46]⟩ ++ itoS c)) ∧ Below W.heap.size W w' := by
  have hsb := itoS_size b hob
  have hsc := itoS_size c hoc
  have HT := Lib.hid (Tens.below hT ((Below.refl W.heap.size W).alloc (Nat.le_refl _) (.cells #[.int .i64 1, .int .i64 b, .int .i64 c, .int .i64 d] 38)) hT.lt)
  have z1 : (⟨#[114, 46]⟩ ++ itoS b : ByteArray).size ≤ 2 + 21 := app_size _ _ 2 21 (by decide) hsb
  have z2 := app_size _ (⟨#[46]⟩ : ByteArray) _ 1 z1 (by decide)
  have e1 := add_run (⟨#[114, 46]⟩ : ByteArray) (itoS b) 2 21 (by decide) hsb (by omega)
  have e2 := add_run _ (⟨#[46]⟩ : ByteArray) _ 1 z1 (by decide) (by omega)
  have e3 := add_run _ (itoS c) _ _ z2 hsc (by omega)
  clear z1 z2
  clear hT
  unfold v4
  go_enter Tryz.func31, Tryz.ntmps31
  go_wp2_with fail
  have hT1 := HT.out
  have hB1 := (Below.refl W.heap.size W).alloc (Nat.le_refl _) (.cells #[.int .i64 1, .int .i64 b, .int .i64 c, .int .i64 d] 38)
  have hc1 : (W.alloc (.cells #[.int .i64 1, .int .i64 b, .int .i64 c, .int .i64 d] 38)).cell? ⟨W.heap.size, 1, none⟩ = some (.int .i64 b) := by simp
  have hc2 : (W.alloc (.cells #[.int .i64 1, .int .i64 b, .int .i64 c, .int .i64 d] 38)).cell? ⟨W.heap.size, 2, none⟩ = some (.int .i64 c) := by simp
  have hc3 : (W.alloc (.cells #[.int .i64 1, .int .i64 b, .int .i64 c, .int .i64 d] 38)).cell? ⟨W.heap.size, 3, none⟩ = some (.int .i64 d) := by simp
  generalize W.alloc (.cells #[.int .i64 1, .int .i64 b, .int .i64 c, .int .i64 d] 38) = w0 at *
  clear HT
  have hT2 : Tens w0.drew := hT1
  have hB2 : Below W.heap.size W w0.drew := ⟨hB1.os, hB1.tape, hB1.output, hB1.size, hB1.block⟩
  go_region_held3 (fun w' => w'.cell? ⟨W.heap.size, 1, none⟩ = some (.int .i64 b) ∧ w'.cell? ⟨W.heap.size, 2, none⟩ = some (.int .i64 c) ∧ w'.cell? ⟨W.heap.size, 3, none⟩ = some (.int .i64 d) ∧ Tens w' ∧ Below W.heap.size W w')
    (first
      | (refine ⟨?_, ?_, ?_, hT2, hB2⟩ <;> go_keep)
      | (go_split_ands
         exact keep_body (by assumption) (by assumption) (by assumption) (by assumption) (by assumption) (by assumption)))
    ((go_at_call 36; refine (itoa_c _ (by assumption) _ (by (go_split_ands; assumption))).mono ?_; rintro e w1 ⟨rfl, hb1⟩))
  go_wp2_with fail
  go_ret
  exact ⟨rfl, by (go_split_ands; assumption)⟩

set_option maxHeartbeats 2000000 in
theorem ref_body2 (b c d : Int) (W : World) (hT : Tens W) (hob : okN b = true) (hoc : okN c = true) (hod : okN d = true) :
    Calls Tryz.prog 31 #[v4 2 b c d] W fun e w' => e = .returned (.string (⟨#[97, 46]⟩ ++ itoS b ++ ⟨#[46]⟩ ++ itoS c ++ ⟨#[46]⟩ ++ itoS d)) ∧ Below W.heap.size W w' := by
  have hsb := itoS_size b hob
  have hsc := itoS_size c hoc
  have hsd := itoS_size d hod
  have HT := Lib.hid (Tens.below hT ((Below.refl W.heap.size W).alloc (Nat.le_refl _) (.cells #[.int .i64 2, .int .i64 b, .int .i64 c, .int .i64 d] 38)) hT.lt)
  have z1 : (⟨#[97, 46]⟩ ++ itoS b : ByteArray).size ≤ 2 + 21 := app_size _ _ 2 21 (by decide) hsb
  have z2 := app_size _ (⟨#[46]⟩ : ByteArray) _ 1 z1 (by decide)
  have e1 := add_run (⟨#[97, 46]⟩ : ByteArray) (itoS b) 2 21 (by decide) hsb (by omega)
  have e2 := add_run _ (⟨#[46]⟩ : ByteArray) _ 1 z1 (by decide) (by omega)
  have e3 := add_run _ (itoS c) _ _ z2 hsc (by omega)
  have z3 := app_size _ (itoS c) _ _ z2 hsc
  have e4 := add_run _ (⟨#[46]⟩ : ByteArray) _ 1 z3 (by decide) (by omega)
  have z4 := app_size _ (⟨#[46]⟩ : ByteArray) _ 1 z3 (by decide)
  have e5 := add_run _ (itoS d) _ _ z4 hsd (by omega)
  clear z1 z2 z3 z4
  clear hT
  unfold v4
  go_enter Tryz.func31, Tryz.ntmps31
  go_wp2_with fail
  have hT1 := HT.out
  have hB1 := (Below.refl W.heap.size W).alloc (Nat.le_refl _) (.cells #[.int .i64 2, .int .i64 b, .int .i64 c, .int .i64 d] 38)
  have hc1 : (W.alloc (.cells #[.int .i64 2, .int .i64 b, .int .i64 c, .int .i64 d] 38)).cell? ⟨W.heap.size, 1, none⟩ = some (.int .i64 b) := by simp
  have hc2 : (W.alloc (.cells #[.int .i64 2, .int .i64 b, .int .i64 c, .int .i64 d] 38)).cell? ⟨W.heap.size, 2, none⟩ = some (.int .i64 c) := by simp
  have hc3 : (W.alloc (.cells #[.int .i64 2, .int .i64 b, .int .i64 c, .int .i64 d] 38)).cell? ⟨W.heap.size, 3, none⟩ = some (.int .i64 d) := by simp
  generalize W.alloc (.cells #[.int .i64 2, .int .i64 b, .int .i64 c, .int .i64 d] 38) = w0 at *
  clear HT
  have hT2 : Tens w0.drew := hT1
  have hB2 : Below W.heap.size W w0.drew := ⟨hB1.os, hB1.tape, hB1.output, hB1.size, hB1.block⟩
  go_region_held3 (fun w' => w'.cell? ⟨W.heap.size, 1, none⟩ = some (.int .i64 b) ∧ w'.cell? ⟨W.heap.size, 2, none⟩ = some (.int .i64 c) ∧ w'.cell? ⟨W.heap.size, 3, none⟩ = some (.int .i64 d) ∧ Tens w' ∧ Below W.heap.size W w')
    (first
      | (refine ⟨?_, ?_, ?_, hT2, hB2⟩ <;> go_keep)
      | (go_split_ands
         exact keep_body (by assumption) (by assumption) (by assumption) (by assumption) (by assumption) (by assumption)))
    ((go_at_call 36; refine (itoa_c _ (by assumption) _ (by (go_split_ands; assumption))).mono ?_; rintro e w1 ⟨rfl, hb1⟩))
  go_wp2_with fail
  go_ret
  exact ⟨rfl, by (go_split_ands; assumption)⟩
end Go.Proofs.YtdfgegicfhcmeaaGreatDoor
