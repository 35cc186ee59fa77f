/-
  The body of a token, by the reference and by the program.
-/
import Derived.Test.YtckohmhhcknmaaaGreatDoorP07
import Derived.Test.YtckohmhhcknmaaaGreatDoorProg
import Derived.WalkKit
import Derived.WalkSpells
import Derived.WalkLawsBesides
import Derived.LaidEql
import Derived.Stop.Asserts
import Derived.RowKitTokens
import Derived.Lib.Hide
import Derived.Test.YtckohmhhcknmaaaGreatDoorP03
namespace Go.Proofs.YtckohmhhcknmaaaGreatDoor
open Go.RowKit

theorem add_run (a b : ByteArray) (n m : Nat) (ha : a.size ≤ n) (hb : b.size ≤ m) (h : n + m ≤ 9223372036854775807) (w : World) : (Op.stringOp .add a b).run Tryz.prog w = .ok (.string (a ++ b)) w :=
  run_string_add_sum w a b (by omega)
theorem app_size (a b : ByteArray) (n m : Nat) (ha : a.size ≤ n) (hb : b.size ≤ m) : (a ++ b).size ≤ n + m := by
  rw [ByteArray.size_append]; omega
set_option maxHeartbeats 2000000 in
theorem ref_body1 (b c d : Int) (W : World) (hT : Tens W) (hob : okN b = true) (hoc : okN c = true) :
    Calls Tryz.prog 109 #[v4 1 b c d] W fun e w' => e = .returned (.string (⟨#[114, 46]⟩ ++ itoS b ++ ⟨#[46]⟩ ++ itoS c)) ∧ Below W.heap.size W w' := by
  have hsb := itoS_size b hob
  have hsc := itoS_size c hoc
  have HT := Lib.hid (Tens.below hT ((Below.refl W.heap.size W).alloc (Nat.le_refl _) (.cells #[.int .i64 1, .int .i64 b, .int .i64 c, .int .i64 d] 127)) hT.lt)
  have z1 : (⟨#[114, 46]⟩ ++ itoS b : ByteArray).size ≤ 2 + 21 := app_size _ _ 2 21 (by decide) hsb
  have z2 := app_size _ (⟨#[46]⟩ : ByteArray) _ 1 z1 (by decide)
  have e1 := add_run (⟨#[114, 46]⟩ : ByteArray) (itoS b) 2 21 (by decide) hsb (by omega)
  have e2 := add_run _ (⟨#[46]⟩ : ByteArray) _ 1 z1 (by decide) (by omega)
  have e3 := add_run _ (itoS c) _ _ z2 hsc (by omega)
  clear z1 z2
  clear hT
  unfold v4
  go_enter Tryz.func109, Tryz.ntmps109
  go_wp2_with fail
  have hT1 := HT.out
  have hB1 := (Below.refl W.heap.size W).alloc (Nat.le_refl _) (.cells #[.int .i64 1, .int .i64 b, .int .i64 c, .int .i64 d] 127)
  have hc1 : (W.alloc (.cells #[.int .i64 1, .int .i64 b, .int .i64 c, .int .i64 d] 127)).cell? ⟨W.heap.size, 1, none⟩ = some (.int .i64 b) := by simp
  have hc2 : (W.alloc (.cells #[.int .i64 1, .int .i64 b, .int .i64 c, .int .i64 d] 127)).cell? ⟨W.heap.size, 2, none⟩ = some (.int .i64 c) := by simp
  have hc3 : (W.alloc (.cells #[.int .i64 1, .int .i64 b, .int .i64 c, .int .i64 d] 127)).cell? ⟨W.heap.size, 3, none⟩ = some (.int .i64 d) := by simp
  generalize W.alloc (.cells #[.int .i64 1, .int .i64 b, .int .i64 c, .int .i64 d] 127) = w0 at *
  clear HT
  have hT2 : Tens w0.drew := hT1
  have hB2 : Below W.heap.size W w0.drew := ⟨hB1.os, hB1.tape, hB1.output, hB1.size, hB1.block⟩
  go_region_held3 (fun w' => w'.cell? ⟨W.heap.size, 1, none⟩ = some (.int .i64 b) ∧ w'.cell? ⟨W.heap.size, 2, none⟩ = some (.int .i64 c) ∧ w'.cell? ⟨W.heap.size, 3, none⟩ = some (.int .i64 d) ∧ Tens w' ∧ Below W.heap.size W w')
    (first
      | (refine ⟨?_, ?_, ?_, hT2, hB2⟩ <;> go_keep)
      | (go_split_ands
         exact keep_body (by assumption) (by assumption) (by assumption) (by assumption) (by assumption) (by assumption)))
    ((go_at_call 74; refine (itoa_c _ (by assumption) _ (by (go_split_ands; assumption))).mono ?_; rintro e w1 ⟨rfl, hb1⟩))
  go_wp2_with fail
  go_ret
  exact ⟨rfl, by (go_split_ands; assumption)⟩

set_option maxHeartbeats 2000000 in
theorem ref_body2 (b c d : Int) (W : World) (hT : Tens W) (hob : okN b = true) (hoc : okN c = true) (hod : okN d = true) :
    Calls Tryz.prog 109 #[v4 2 b c d] W fun e w' => e = .returned (.string (⟨#[97, 46]⟩ ++ itoS b ++ ⟨#[46]⟩ ++ itoS c ++ ⟨#[46]⟩ ++ itoS d)) ∧ Below W.heap.size W w' := by
  have hsb := itoS_size b hob
  have hsc := itoS_size c hoc
  have hsd := itoS_size d hod
  have HT := Lib.hid (Tens.below hT ((Below.refl W.heap.size W).alloc (Nat.le_refl _) (.cells #[.int .i64 2, .int .i64 b, .int .i64 c, .int .i64 d] 127)) hT.lt)
  have z1 : (⟨#[97, 46]⟩ ++ itoS b : ByteArray).size ≤ 2 + 21 := app_size _ _ 2 21 (by decide) hsb
  have z2 := app_size _ (⟨#[46]⟩ : ByteArray) _ 1 z1 (by decide)
  have e1 := add_run (⟨#[97, 46]⟩ : ByteArray) (itoS b) 2 21 (by decide) hsb (by omega)
  have e2 := add_run _ (⟨#[46]⟩ : ByteArray) _ 1 z1 (by decide) (by omega)
  have e3 := add_run _ (itoS c) _ _ z2 hsc (by omega)
  have z3 := app_size _ (itoS c) _ _ z2 hsc
  have e4 := add_run _ (⟨#[46]⟩ : ByteArray) _ 1 z3 (by decide) (by omega)
  have z4 := app_size _ (⟨#[46]⟩ : ByteArray) _ 1 z3 (by decide)
  have e5 := add_run _ (itoS d) _ _ z4 hsd (by omega)
  clear z1 z2 z3 z4
  clear hT
  unfold v4
  go_enter Tryz.func109, Tryz.ntmps109
  go_wp2_with fail
  have hT1 := HT.out
  have hB1 := (Below.refl W.heap.size W).alloc (Nat.le_refl _) (.cells #[.int .i64 2, .int .i64 b, .int .i64 c, .int .i64 d] 127)
  have hc1 : (W.alloc (.cells #[.int .i64 2, .int .i64 b, .int .i64 c, .int .i64 d] 127)).cell? ⟨W.heap.size, 1, none⟩ = some (.int .i64 b) := by simp
  have hc2 : (W.alloc (.cells #[.int .i64 2, .int .i64 b, .int .i64 c, .int .i64 d] 127)).cell? ⟨W.heap.size, 2, none⟩ = some (.int .i64 c) := by simp
  have hc3 : (W.alloc (.cells #[.int .i64 2, .int .i64 b, .int .i64 c, .int .i64 d] 127)).cell? ⟨W.heap.size, 3, none⟩ = some (.int .i64 d) := by simp
  generalize W.alloc (.cells #[.int .i64 2, .int .i64 b, .int .i64 c, .int .i64 d] 127) = w0 at *
  clear HT
  have hT2 : Tens w0.drew := hT1
  have hB2 : Below W.heap.size W w0.drew := ⟨hB1.os, hB1.tape, hB1.output, hB1.size, hB1.block⟩
  go_region_held3 (fun w' => w'.cell? ⟨W.heap.size, 1, none⟩ = some (.int .i64 b) ∧ w'.cell? ⟨W.heap.size, 2, none⟩ = some (.int .i64 c) ∧ w'.cell? ⟨W.heap.size, 3, none⟩ = some (.int .i64 d) ∧ Tens w' ∧ Below W.heap.size W w')
    (first
      | (refine ⟨?_, ?_, ?_, hT2, hB2⟩ <;> go_keep)
      | (go_split_ands
         exact keep_body (by assumption) (by assumption) (by assumption) (by assumption) (by assumption) (by assumption)))
    ((go_at_call 74; refine (itoa_c _ (by assumption) _ (by (go_split_ands; assumption))).mono ?_; rintro e w1 ⟨rfl, hb1⟩))
  go_wp2_with fail
  go_ret
  exact ⟨rfl, by (go_split_ands; assumption)⟩
end Go.Proofs.YtckohmhhcknmaaaGreatDoor

/-
  The body of a token, by the program.
-/
namespace Go.Proofs.YtckohmhhcknmaaaGreatDoor
open Go.RowKit

theorem keep_body4 {W w w' : World} {u x y z : Value} (h0 : w.cell? ⟨W.heap.size, 0, none⟩ = some u) (h1 : w.cell? ⟨W.heap.size, 1, none⟩ = some x) (h2 : w.cell? ⟨W.heap.size, 2, none⟩ = some y) (h3 : w.cell? ⟨W.heap.size, 3, none⟩ = some z)
    (hT : Tens w) (hB : Below W.heap.size W w) (hb : Below w.heap.size w w') :
    w'.cell? ⟨W.heap.size, 0, none⟩ = some u ∧ w'.cell? ⟨W.heap.size, 1, none⟩ = some x ∧ w'.cell? ⟨W.heap.size, 2, none⟩ = some y ∧ w'.cell? ⟨W.heap.size, 3, none⟩ = some z ∧ Tens w' ∧ Below W.heap.size W w' := by
  have hlt : W.heap.size < w.heap.size := World.block_lt_of_cell? w _ h1
  refine ⟨?_, keep_body h1 h2 h3 hT hB hb⟩
  rw [hb.cell (p := ⟨W.heap.size, 0, none⟩) hlt]; exact h0

set_option maxHeartbeats 2000000 in
theorem token_body1 (b c d : Int) (W : World) (hT : Tens W) (hob : okN b = true) (hoc : okN c = true) :
    Calls Tryz.prog 96 #[v4 1 b c d] W fun e w' => e = .returned (.string (⟨#[114, 46]⟩ ++ itoS b ++ ⟨#[46]⟩ ++ itoS c)) ∧ Below W.heap.size W w' := by
  have hsb := itoS_size b hob
  have hsc := itoS_size c hoc
  have HT := Lib.hid (Tens.below hT ((Below.refl W.heap.size W).alloc (Nat.le_refl _) (.cells #[.int .i64 1, .int .i64 b, .int .i64 c, .int .i64 d] 104)) hT.lt)
  have z1 : (⟨#[114, 46]⟩ ++ itoS b : ByteArray).size ≤ 2 + 21 := app_size _ _ 2 21 (by decide) hsb
  have z2 := app_size _ (⟨#[46]⟩ : ByteArray) _ 1 z1 (by decide)
  have e1 := add_run (⟨#[114, 46]⟩ : ByteArray) (itoS b) 2 21 (by decide) hsb (by omega)
  have e2 := add_run _ (⟨#[46]⟩ : ByteArray) _ 1 z1 (by decide) (by omega)
  have e3 := add_run _ (itoS c) _ _ z2 hsc (by omega)
  clear z1 z2
  clear hT
  unfold v4
  go_enter Tryz.func96, Tryz.ntmps96
  go_wp2_with fail
  have hT1 := HT.out
  have hB1 := (Below.refl W.heap.size W).alloc (Nat.le_refl _) (.cells #[.int .i64 1, .int .i64 b, .int .i64 c, .int .i64 d] 104)
  have hc0 : (W.alloc (.cells #[.int .i64 1, .int .i64 b, .int .i64 c, .int .i64 d] 104)).cell? ⟨W.heap.size, 0, none⟩ = some (.int .i64 1) := by simp
  have hc1 : (W.alloc (.cells #[.int .i64 1, .int .i64 b, .int .i64 c, .int .i64 d] 104)).cell? ⟨W.heap.size, 1, none⟩ = some (.int .i64 b) := by simp
  have hc2 : (W.alloc (.cells #[.int .i64 1, .int .i64 b, .int .i64 c, .int .i64 d] 104)).cell? ⟨W.heap.size, 2, none⟩ = some (.int .i64 c) := by simp
  have hc3 : (W.alloc (.cells #[.int .i64 1, .int .i64 b, .int .i64 c, .int .i64 d] 104)).cell? ⟨W.heap.size, 3, none⟩ = some (.int .i64 d) := by simp
  generalize W.alloc (.cells #[.int .i64 1, .int .i64 b, .int .i64 c, .int .i64 d] 104) = w0 at *
  clear HT
  have hT2 : Tens w0.drew := hT1
  have hB2 : Below W.heap.size W w0.drew := ⟨hB1.os, hB1.tape, hB1.output, hB1.size, hB1.block⟩
  go_region_held3 (fun w' => w'.cell? ⟨W.heap.size, 0, none⟩ = some (.int .i64 1) ∧ w'.cell? ⟨W.heap.size, 1, none⟩ = some (.int .i64 b) ∧ w'.cell? ⟨W.heap.size, 2, none⟩ = some (.int .i64 c) ∧ w'.cell? ⟨W.heap.size, 3, none⟩ = some (.int .i64 d) ∧ Tens w' ∧ Below W.heap.size W w')
    (first
      | (refine ⟨?_, ?_, ?_, ?_, hT2, hB2⟩ <;> go_keep)
      | (go_split_ands
         exact keep_body4 (by assumption) (by assumption) (by assumption) (by assumption) (by assumption) (by assumption) (by assumption)))
    ((go_at_call 74; refine (itoa_c _ (by assumption) _ (by (go_split_ands; assumption))).mono ?_; rintro e w1 ⟨rfl, hb1⟩))
  go_split_ands
  go_wp2_with fail
  go_ret
  exact ⟨rfl, by assumption⟩

set_option maxHeartbeats 2000000 in
theorem token_body2 (b c d : Int) (W : World) (hT : Tens W) (hob : okN b = true) (hoc : okN c = true) (hod : okN d = true) :
    Calls Tryz.prog 96 #[v4 2 b c d] W fun e w' => e = .returned (.string (⟨#[97, 46]⟩ ++ itoS b ++ ⟨#[46]⟩ ++ itoS c ++ ⟨#[46]⟩ ++ itoS d)) ∧ Below W.heap.size W w' := by
  have hsb := itoS_size b hob
  have hsc := itoS_size c hoc
  have hsd := itoS_size d hod
  obtain ⟨t, ht⟩ : ∃ t : ByteArray, t = ⟨#[46]⟩ ++ (itoS b ++ (⟨#[46]⟩ ++ itoS c)) := ⟨_, rfl⟩
  have hre : (⟨#[114, 46]⟩ : ByteArray) ++ itoS b ++ ⟨#[46]⟩ ++ itoS c = ⟨#[114]⟩ ++ t := by
    rw [ht, show (⟨#[114, 46]⟩ : ByteArray) = ⟨#[114]⟩ ++ ⟨#[46]⟩ from rfl]; simp only [ByteArray.append_assoc]
  have hfin : (⟨#[97]⟩ : ByteArray) ++ t ++ ⟨#[46]⟩ ++ itoS d = ⟨#[97, 46]⟩ ++ itoS b ++ ⟨#[46]⟩ ++ itoS c ++ ⟨#[46]⟩ ++ itoS d := by
    rw [ht, show (⟨#[97, 46]⟩ : ByteArray) = ⟨#[97]⟩ ++ ⟨#[46]⟩ from rfl]; simp only [ByteArray.append_assoc]
  have hts : t.size ≤ 50 := by
    rw [ht, ByteArray.size_append, ByteArray.size_append, ByteArray.size_append, show (⟨#[46]⟩ : ByteArray).size = 1 from rfl]; omega
  clear ht
  have hsl : ∀ w : World, (Instr.slice 9 (.string (⟨#[114]⟩ ++ t)) (some (.int .i64 1)) none none).run Tryz.prog w = .ok (.string t) w := by
    intro w
    have hz : ((⟨#[114]⟩ : ByteArray) ++ t).size = 1 + t.size := by rw [ByteArray.size_append]; rfl
    rw [run_slice_string_l w 9 _ Tryz.underlying9 .i64 1 (by omega) (by rw [hz]; omega)]
    congr 2
    apply ByteArray.ext
    simp [hz]
  have f1 := add_run (⟨#[97]⟩ : ByteArray) t 1 50 (by decide) hts (by omega)
  have y1 : (⟨#[97]⟩ ++ t : ByteArray).size ≤ 1 + 50 := app_size _ _ 1 50 (by decide) hts
  have f2 := add_run _ (⟨#[46]⟩ : ByteArray) _ 1 y1 (by decide) (by omega)
  have y2 := app_size _ (⟨#[46]⟩ : ByteArray) _ 1 y1 (by decide)
  have f3 := add_run _ (itoS d) _ _ y2 hsd (by omega)
  clear y1 y2
  have HT := Lib.hid (Tens.below hT ((Below.refl W.heap.size W).alloc (Nat.le_refl _) (.cells #[.int .i64 2, .int .i64 b, .int .i64 c, .int .i64 d] 104)) hT.lt)
  have z1 : (⟨#[114, 46]⟩ ++ itoS b : ByteArray).size ≤ 2 + 21 := app_size _ _ 2 21 (by decide) hsb
  have z2 := app_size _ (⟨#[46]⟩ : ByteArray) _ 1 z1 (by decide)
  have e1 := add_run (⟨#[114, 46]⟩ : ByteArray) (itoS b) 2 21 (by decide) hsb (by omega)
  have e2 := add_run _ (⟨#[46]⟩ : ByteArray) _ 1 z1 (by decide) (by omega)
  have e3 := add_run _ (itoS c) _ _ z2 hsc (by omega)
  clear z1 z2
  clear hT
  unfold v4
  go_enter Tryz.func96, Tryz.ntmps96
  go_wp2_with fail
  have hT1 := HT.out
  have hB1 := (Below.refl W.heap.size W).alloc (Nat.le_refl _) (.cells #[.int .i64 2, .int .i64 b, .int .i64 c, .int .i64 d] 104)
  have hc0 : (W.alloc (.cells #[.int .i64 2, .int .i64 b, .int .i64 c, .int .i64 d] 104)).cell? ⟨W.heap.size, 0, none⟩ = some (.int .i64 2) := by simp
  have hc1 : (W.alloc (.cells #[.int .i64 2, .int .i64 b, .int .i64 c, .int .i64 d] 104)).cell? ⟨W.heap.size, 1, none⟩ = some (.int .i64 b) := by simp
  have hc2 : (W.alloc (.cells #[.int .i64 2, .int .i64 b, .int .i64 c, .int .i64 d] 104)).cell? ⟨W.heap.size, 2, none⟩ = some (.int .i64 c) := by simp
  have hc3 : (W.alloc (.cells #[.int .i64 2, .int .i64 b, .int .i64 c, .int .i64 d] 104)).cell? ⟨W.heap.size, 3, none⟩ = some (.int .i64 d) := by simp
  generalize W.alloc (.cells #[.int .i64 2, .int .i64 b, .int .i64 c, .int .i64 d] 104) = w0 at *
  clear HT
  have hT2 : Tens w0.drew := hT1
  have hB2 : Below W.heap.size W w0.drew := ⟨hB1.os, hB1.tape, hB1.output, hB1.size, hB1.block⟩
  go_region_held3 (fun w' => w'.cell? ⟨W.heap.size, 0, none⟩ = some (.int .i64 2) ∧ w'.cell? ⟨W.heap.size, 1, none⟩ = some (.int .i64 b) ∧ w'.cell? ⟨W.heap.size, 2, none⟩ = some (.int .i64 c) ∧ w'.cell? ⟨W.heap.size, 3, none⟩ = some (.int .i64 d) ∧ Tens w' ∧ Below W.heap.size W w')
    (first
      | (refine ⟨?_, ?_, ?_, ?_, hT2, hB2⟩ <;> go_keep)
      | (go_split_ands
         exact keep_body4 (by assumption) (by assumption) (by assumption) (by assumption) (by assumption) (by assumption) (by assumption)))
    ((go_at_call 74; refine (itoa_c _ (by assumption) _ (by (go_split_ands; assumption))).mono ?_; rintro e w1 ⟨rfl, hb1⟩))
  go_split_ands
  rename_i r0 r1 r2 r3 rT rB
  clear e1 e2 e3 hT2 hB2
  go_wp2_with fail
  have hT3 := (show Tens (World.drew _) from rT)
  have hB3 := (show Below W.heap.size W (World.drew _) from ⟨rB.os, rB.tape, rB.output, rB.size, rB.block⟩)
  go_region_held3 (fun w' => w'.cell? ⟨W.heap.size, 1, none⟩ = some (.int .i64 b) ∧ w'.cell? ⟨W.heap.size, 2, none⟩ = some (.int .i64 c) ∧ w'.cell? ⟨W.heap.size, 3, none⟩ = some (.int .i64 d) ∧ Tens w' ∧ Below W.heap.size W w')
    (first
      | (refine ⟨?_, ?_, ?_, hT3, hB3⟩ <;> go_keep)
      | (go_split_ands
         exact keep_body (by assumption) (by assumption) (by assumption) (by assumption) (by assumption) (by assumption)))
    ((go_at_call 74; refine (itoa_c _ (by assumption) _ (by (go_split_ands; assumption))).mono ?_; rintro e w1 ⟨rfl, hb1⟩))
  go_split_ands
  go_wp2_with fail
  go_ret
  exact ⟨rfl, by assumption⟩
end Go.Proofs.YtckohmhhcknmaaaGreatDoor

/-
  An error as the program gives it: nil, or an api.Errno.
-/
namespace Go.Proofs.YtckohmhhcknmaaaGreatDoor

/-- an error that is nil (0), or an api.Errno -/
def errV (n : Int) : Value := if n = 0 then .nilIface else .iface 35 (.int .i64 n)

end Go.Proofs.YtckohmhhcknmaaaGreatDoor

/-
  The helper bare of the statements: plain.Bare and api.Tell (with errors.As, at the target *api.Errno) at nil and at an api.Errno. After the worked example Toyas.
-/
namespace Go.Proofs.YtckohmhhcknmaaaGreatDoor
open Go.RowKit Go.Extern.Stop Go.Stop Go.Extern

theorem as_valueOfP (t : Addr) (w : World) : (ReflectliteValue.unpack (.iface 111 (.pointer (some t)))).run Tryz.prog w
    = .ok (.agg #[.pointer (some ⟨9, 111, none⟩), .pointer (some ⟨w.heap.size, 0, none⟩), .int .u64 150]) (w.alloc (.cells #[.pointer (some t)] 111)) := by kernel_rfl
theorem as_typeP (a : Addr) (w : World) : (ReflectliteValue.methodAny (ReflectliteValue.valueError "reflectlite.Value.Type" 0) (fun t _ _ _ => ReflectliteType.toType t) #[.agg #[.pointer (some ⟨9, 111, none⟩), .pointer (some a), .int .u64 150]]).run Tryz.prog w
    = .ok (.iface 219 (.agg #[.pointer (some ⟨9, 111, none⟩)])) w := by kernel_rfl
theorem as_methodKind (h : Value) (w : World) : (Go.method 465 219 (.agg #[h]) "Kind").run Tryz.prog w = .ok (274, h) w := by kernel_rfl
theorem as_kindP (w : World) : ((ReflectliteType.abiMethod fun t => (fun a : Nat => Value.int IntKind.u8 (a : Int)) <$> Rtype.kind t) #[.pointer (some ⟨9, 111, none⟩)]).run Tryz.prog w = .ok (.int .u8 22) w := by kernel_rfl
theorem as_kindE (w : World) : ((ReflectliteType.abiMethod fun t => (fun a : Nat => Value.int IntKind.u8 (a : Int)) <$> Rtype.kind t) #[.pointer (some ⟨9, 35, none⟩)]).run Tryz.prog w = .ok (.int .u8 2) w := by kernel_rfl

theorem as_rlm (z : Sem Value) (f : TypeId → Addr → Nat → Nat → Sem Value) (v : Value) :
    ReflectliteValue.method z f #[v] = (do match ← ReflectliteValue.parts v with | none => z | some (t, a, fl) => f t a fl (fl % 32)) := rfl
theorem as_partsP (a : Addr) (w : World) : (ReflectliteValue.parts (.agg #[.pointer (some ⟨9, 111, none⟩), .pointer (some a), .int .u64 150])).run Tryz.prog w = .ok (some (111, a, 150)) w := by kernel_rfl
theorem as_isNilP (a p : Addr) (W : World) (ha : W.cell? a = some (.pointer (some p))) :
    (ReflectliteValue.method (ReflectliteValue.valueError "reflectlite.Value.IsNil" 0) ReflectliteValue.isNil #[.agg #[.pointer (some ⟨9, 111, none⟩), .pointer (some a), .int .u64 150]]).run Tryz.prog W = .ok (.bool false) W := by
  rw [as_rlm]
  simp only [Sem.run_bind, as_partsP, Result.andThen]
  simp [ReflectliteValue.isNil, loadVar, isAgg, underlying, Tryz.underlying111, ha, Result.andThen]

theorem as_methodElem (h : Value) (w : World) : (Go.method 465 219 (.agg #[h]) "Elem").run Tryz.prog w = .ok (288, .agg #[h]) w := by kernel_rfl
theorem as_methodImplements (h : Value) (w : World) : (Go.method 465 219 (.agg #[h]) "Implements").run Tryz.prog w = .ok (289, .agg #[h]) w := by kernel_rfl
theorem as_methodAssignableTo (h : Value) (w : World) : (Go.method 465 219 (.agg #[h]) "AssignableTo").run Tryz.prog w = .ok (286, .agg #[h]) w := by kernel_rfl
theorem as_elemP (w : World) : (ReflectliteType.method ReflectliteType.elem #[.agg #[.pointer (some ⟨9, 111, none⟩)]]).run Tryz.prog w = .ok (.iface 219 (.agg #[.pointer (some ⟨9, 35, none⟩)])) w := by kernel_rfl
theorem as_implementsE (w : World) : (ReflectliteType.relation "Implements" ReflectliteType.implements_ #[.agg #[.pointer (some ⟨9, 35, none⟩)], .iface 219 (.agg #[.pointer (some ⟨9, 30, none⟩)])]).run Tryz.prog w = .ok (.bool true) w := by kernel_rfl
theorem as_typeOfE (v : Value) (w : World) : (ReflectliteType.typeOf #[.iface 35 v]).run Tryz.prog w = .ok (.iface 219 (.agg #[.pointer (some ⟨9, 35, none⟩)])) w := by kernel_rfl
theorem as_assignableE (w : World) : (ReflectliteType.relation "AssignableTo" ReflectliteType.assignableTo #[.agg #[.pointer (some ⟨9, 35, none⟩)], .iface 219 (.agg #[.pointer (some ⟨9, 35, none⟩)])]).run Tryz.prog w = .ok (.bool true) w := by kernel_rfl
theorem as_valueOfE (n : Int) (w : World) : (ReflectliteValue.unpack (.iface 35 (.int .i64 n))).run Tryz.prog w
    = .ok (.agg #[.pointer (some ⟨9, 35, none⟩), .pointer (some ⟨w.heap.size, 0, none⟩), .int .u64 130]) (w.alloc (.cells #[.int .i64 n] 35)) := by kernel_rfl

theorem as_elemOfP (w : World) : (Rtype.elem? 111).run Tryz.prog w = .ok (some 35) w := by kernel_rfl
theorem as_mkE (p : Addr) (w : World) : (ReflectliteValue.mk 35 p ReflectliteValue.flagAddr).run Tryz.prog w = .ok (.agg #[.pointer (some ⟨9, 35, none⟩), .pointer (some p), .int .u64 386]) w := by kernel_rfl
theorem as_elemV (a p : Addr) (W : World) (ha : W.cell? a = some (.pointer (some p))) :
    (ReflectliteValue.method (ReflectliteValue.valueError "reflectlite.Value.Elem" 0) ReflectliteValue.elem #[.agg #[.pointer (some ⟨9, 111, none⟩), .pointer (some a), .int .u64 150]]).run Tryz.prog W
      = .ok (.agg #[.pointer (some ⟨9, 35, none⟩), .pointer (some p), .int .u64 386]) W := by
  rw [as_rlm]
  simp only [Sem.run_bind, as_partsP, Result.andThen]
  simp [ReflectliteValue.elem, loadVar, isAgg, underlying, Tryz.underlying111, ha, Result.andThen, as_elemOfP, as_mkE]
theorem as_rls (v x : Value) : ReflectliteValue.set #[v, x] = (do
    let (some (dst, a, fl), some (src, b, _)) := (← ReflectliteValue.parts v, ← ReflectliteValue.parts x)
      | unsupported (.noEntry "extern/(internal/reflectlite.Value).Set.zeroValue")
    if fl / ReflectliteValue.flagAddr % 2 == 0 then unsupported (.noEntry "extern/(internal/reflectlite.Value).Set.unaddressable")
    let val ← loadVar src b
    if ← Rtype.directlyAssignable dst src then storeVar dst a val
    else if ← Rtype.implements dst src then
      if (← Rtype.kind src) == 20 then
        match val with
        | .nilIface => unsupported (.noEntry "extern/reflectlite: a nil value of one interface type handed on as a value of another")
        | _ => storeVar dst a val
      else storeVar dst a (.iface src val)
    else panicString ("reflectlite.Set: value of type " ++ (← Rtype.spelt src) ++ " is not assignable to type " ++ (← Rtype.spelt dst))
    pure (.tuple #[])) := rfl
theorem as_partsEa (a : Addr) (w : World) : (ReflectliteValue.parts (.agg #[.pointer (some ⟨9, 35, none⟩), .pointer (some a), .int .u64 386])).run Tryz.prog w = .ok (some (35, a, 386)) w := by kernel_rfl
theorem as_partsE (a : Addr) (w : World) : (ReflectliteValue.parts (.agg #[.pointer (some ⟨9, 35, none⟩), .pointer (some a), .int .u64 130])).run Tryz.prog w = .ok (some (35, a, 130)) w := by kernel_rfl
theorem as_directE (w : World) : (Rtype.directlyAssignable 35 35).run Tryz.prog w = .ok true w := by kernel_rfl
theorem as_setE (ta b : Addr) (n : Int) (old : Value) (W : World) (hb : W.cell? b = some (.int .i64 n)) (ht : W.cell? ta = some old) (hf : W.frozen? ta = false) :
    (ReflectliteValue.set #[.agg #[.pointer (some ⟨9, 35, none⟩), .pointer (some ta), .int .u64 386], .agg #[.pointer (some ⟨9, 35, none⟩), .pointer (some b), .int .u64 130]]).run Tryz.prog W
      = .ok (.tuple #[]) (W.setCell ta (.int .i64 n)) := by
  rw [as_rls]
  simp only [Sem.run_bind, as_partsEa, as_partsE, Result.andThen]
  simp [ReflectliteValue.flagAddr, loadVar, isAgg, underlying, Tryz.underlying35, hb, Result.andThen, as_directE, storeVar, Value.cells, storeCells, Addr.add]
  rw [run_store Tryz.prog W ta _ _ (by rfl)]
  simp [ht, hf]

def asWorld (w : World) (t : Addr) (n : Int) : World :=
  ((((w.alloc (.cells #[.pointer (some t)] 111)).alloc (.cells #[.pointer (some ⟨9, 111, none⟩), .pointer (some ⟨w.heap.size, 0, none⟩), .int .u64 150] 162)).alloc (.cells #[.pointer (some ⟨9, 111, none⟩), .pointer (some ⟨w.heap.size, 0, none⟩), .int .u64 150] 162)).alloc (.cells #[.int .i64 n] 35)).setCell t (.int .i64 n)

set_option maxHeartbeats 4000000 in
theorem as_hit (n : Int) (t : Addr) (old : Value) (w : World) (hg : w.cell? ⟨0, 0, none⟩ = some (.iface 219 (.agg #[.pointer (some ⟨9, 30, none⟩)]))) (ht0 : w.cell? t = some old) (hf0 : w.frozen? t = false) :
    Calls Tryz.prog 47 #[.iface 35 (.int .i64 n), .iface 111 (.pointer (some t))] w fun ev w' => ev = .returned (.bool true) ∧ w' = asWorld w t n := by
  have h6 := @run_callFunc_extern Tryz.prog 89 _ (fun args => ReflectliteValue.unpack (args.getD 0 (.tuple #[]))) Tryz.func89 (by kernel_rfl) (by kernel_rfl) (by kernel_rfl) (by kernel_rfl)
  have h7 := @run_callFunc_extern Tryz.prog 90 _ (ReflectliteValue.methodAny (ReflectliteValue.valueError "reflectlite.Value.Type" 0) (fun t _ _ _ => ReflectliteType.toType t)) Tryz.func90 (by kernel_rfl) (by kernel_rfl) (by kernel_rfl) (by kernel_rfl)
  have h8 := @run_callFunc_extern Tryz.prog 91 _ (ReflectliteValue.method (ReflectliteValue.valueError "reflectlite.Value.IsNil" 0) ReflectliteValue.isNil) Tryz.func91 (by kernel_rfl) (by kernel_rfl) (by kernel_rfl) (by kernel_rfl)
  have h27 := @run_callFunc_extern Tryz.prog 274 _ (ReflectliteType.abiMethod fun t => do pure (.int .u8 (← Rtype.kind t))) Tryz.func274 (by kernel_rfl) (by kernel_rfl) (by kernel_rfl) (by kernel_rfl)
  have h37 := @run_callFunc_extern Tryz.prog 288 _ (ReflectliteType.method ReflectliteType.elem) Tryz.func288 (by kernel_rfl) (by kernel_rfl) (by kernel_rfl) (by kernel_rfl)
  have h38 := @run_callFunc_extern Tryz.prog 289 _ (ReflectliteType.relation "Implements" ReflectliteType.implements_) Tryz.func289 (by kernel_rfl) (by kernel_rfl) (by kernel_rfl) (by kernel_rfl)
  have h10 := @run_callFunc_extern Tryz.prog 134 _ ReflectliteType.typeOf Tryz.func134 (by kernel_rfl) (by kernel_rfl) (by kernel_rfl) (by kernel_rfl)
  have h35 := @run_callFunc_extern Tryz.prog 286 _ (ReflectliteType.relation "AssignableTo" ReflectliteType.assignableTo) Tryz.func286 (by kernel_rfl) (by kernel_rfl) (by kernel_rfl) (by kernel_rfl)
  have h11 := @run_callFunc_extern Tryz.prog 135 _ (ReflectliteValue.method (ReflectliteValue.valueError "reflectlite.Value.Elem" 0) ReflectliteValue.elem) Tryz.func135 (by kernel_rfl) (by kernel_rfl) (by kernel_rfl) (by kernel_rfl)
  have h12 := @run_callFunc_extern Tryz.prog 136 _ ReflectliteValue.set Tryz.func136 (by kernel_rfl) (by kernel_rfl) (by kernel_rfl) (by kernel_rfl)
  have tO := as_typeOfE
  have mA := as_methodAssignableTo
  have a25 := as_assignableE
  have v25 := as_valueOfE
  have f6 := as_valueOfP
  have f7 := as_typeP
  have mK := as_methodKind
  have mE := as_methodElem
  have mI := as_methodImplements
  have k27 := as_kindP
  have k25 := as_kindE
  have e27 := as_elemP
  have i25 := as_implementsE
  have n8 := as_isNilP ⟨w.heap.size, 0, none⟩ t ((w.alloc (.cells #[.pointer (some t)] 111)).alloc (.cells #[.pointer (some ⟨9, 111, none⟩), .pointer (some ⟨w.heap.size, 0, none⟩), .int .u64 150] 162)) (by simp)
  have hlt : 0 < w.heap.size := by
    rcases Nat.lt_or_ge 0 w.heap.size with h | h
    · exact h
    · simp [World.cell?, Array.getElem?_eq_none h] at hg
  have hg2 : ((w.alloc (.cells #[.pointer (some t)] 111)).alloc (.cells #[.pointer (some ⟨9, 111, none⟩), .pointer (some ⟨w.heap.size, 0, none⟩), .int .u64 150] 162)).cell? ⟨0, 0, none⟩ = some (.iface 219 (.agg #[.pointer (some ⟨9, 30, none⟩)])) := by
    rw [World.cell?_alloc_lt _ _ ⟨0, 0, none⟩ (by simp <;> omega), World.cell?_alloc_lt _ _ ⟨0, 0, none⟩ hlt]; exact hg
  have htl : t.block < w.heap.size := by
    rcases Nat.lt_or_ge t.block w.heap.size with h | h
    · exact h
    · simp [World.cell?, Array.getElem?_eq_none h] at ht0
  have el := as_elemV ⟨w.heap.size, 0, none⟩ t (((w.alloc (.cells #[.pointer (some t)] 111)).alloc (.cells #[.pointer (some ⟨9, 111, none⟩), .pointer (some ⟨w.heap.size, 0, none⟩), .int .u64 150] 162)).alloc (.cells #[.pointer (some ⟨9, 111, none⟩), .pointer (some ⟨w.heap.size, 0, none⟩), .int .u64 150] 162)) (by rw [World.cell?_alloc_lt _ _ ⟨w.heap.size, 0, none⟩ (by simp; omega)]; simp)
  have st := as_setE t ⟨w.heap.size + 1 + 1 + 1, 0, none⟩ n old ((((w.alloc (.cells #[.pointer (some t)] 111)).alloc (.cells #[.pointer (some ⟨9, 111, none⟩), .pointer (some ⟨w.heap.size, 0, none⟩), .int .u64 150] 162)).alloc (.cells #[.pointer (some ⟨9, 111, none⟩), .pointer (some ⟨w.heap.size, 0, none⟩), .int .u64 150] 162)).alloc (.cells #[.int .i64 n] 35))
    (by rw [World.cell?_alloc_at _ _ _ _ (by simp)]; rfl)
    (by rw [World.cell?_alloc_lt _ _ t (by simp; omega), World.cell?_alloc_lt _ _ t (by simp; omega), World.cell?_alloc_lt _ _ t (by simp; omega), World.cell?_alloc_lt _ _ t htl]; exact ht0)
    (by rw [World.frozen?_alloc_old _ _ t (by simp; omega), World.frozen?_alloc_old _ _ t (by simp; omega), World.frozen?_alloc_old _ _ t (by simp; omega), World.frozen?_alloc_old _ _ t (Nat.ne_of_lt htl)]; exact hf0)
  go_enter Tryz.func47, Tryz.ntmps47
  go_wp2
  refine wp_loop_rounds 1 ?_
  rw [rounds_succ]
  go_wp2
  go_ret
  exact ⟨rfl, rfl⟩

/-- the cell that errors.As reads -/
def ErrType (w : World) : Prop := w.cell? ⟨0, 0, none⟩ = some (.iface 219 (.agg #[.pointer (some ⟨9, 30, none⟩)]))

theorem ErrType.lt {w : World} (h : ErrType w) : 0 < w.heap.size := by
  unfold ErrType at h
  rcases Nat.lt_or_ge 0 w.heap.size with h' | h'
  · exact h'
  · simp [World.cell?, Array.getElem?_eq_none h'] at h
theorem ErrType.below {B : Nat} {w w' : World} (h : ErrType w) (hb : Below B w w') (hB : 0 < B) : ErrType w' := by
  unfold ErrType at *; rw [hb.cell (p := ⟨0, 0, none⟩) hB]; exact h

theorem tell_nil (w : World) : Calls Tryz.prog 13 #[.nilIface] w fun e w' => e = .returned (.int .i64 0) ∧ w = w' := by
  go_enter Tryz.func13, Tryz.ntmps13
  go_wp2
  go_ret
  exact ⟨rfl, rfl⟩

set_option maxHeartbeats 4000000 in
theorem tell_no (n : Int) (w : World) (hg : ErrType w) : Calls Tryz.prog 13 #[.iface 35 (.int .i64 n)] w fun e w' => e = .returned (.int .i64 n) ∧ Below w.heap.size w w' := by
  have hlt := hg.lt
  have hg1 : (w.alloc (.cells #[.int .i64 0] 35)).cell? ⟨0, 0, none⟩ = some (.iface 219 (.agg #[.pointer (some ⟨9, 30, none⟩)])) := by
    rw [World.cell?_alloc_lt _ _ ⟨0, 0, none⟩ hlt]; exact hg
  have hb : Below w.heap.size w (asWorld (w.alloc (.cells #[.int .i64 0] 35)) ⟨w.heap.size, 0, none⟩ n) := by
    unfold asWorld
    exact (((((Below.refl _ _).alloc (by simp) _).alloc (by simp) _ |>.alloc (by simp; omega) _).alloc (by simp; omega) _).alloc (by simp; omega) _).setCell (by simp) _
  have hc : (asWorld (w.alloc (.cells #[.int .i64 0] 35)) ⟨w.heap.size, 0, none⟩ n).cell? ⟨w.heap.size, 0, none⟩ = some (.int .i64 n) := by
    unfold asWorld
    refine World.cell?_setCell_same (u := .int .i64 0) _ _ _ ?_
    rw [World.cell?_alloc_lt _ _ _ (by simp <;> omega), World.cell?_alloc_lt _ _ _ (by simp <;> omega), World.cell?_alloc_lt _ _ _ (by simp <;> omega), World.cell?_alloc_lt _ _ _ (by simp <;> omega)]
    simp
  have H := as_hit n ⟨w.heap.size, 0, none⟩ (.int .i64 0) (w.alloc (.cells #[.int .i64 0] 35)) hg1 (by simp) (by simp)
  generalize asWorld (w.alloc (.cells #[.int .i64 0] 35)) ⟨w.heap.size, 0, none⟩ n = W1 at *
  have H2 := Lib.hid H
  clear H
  go_enter Tryz.func13, Tryz.ntmps13
  go_wp2_with (go_at_call 47; refine H2.out.mono ?_; rintro e w' ⟨rfl, rfl⟩)
  go_ret
  exact ⟨rfl, hb⟩

theorem as_noAt (v : Value) (xT : TypeId) (w : World) : (Instr.typeAssert (.iface 35 v) xT 187 true).run Tryz.prog w = .ok (.tuple #[.pointer none, .bool false]) w := by kernel_rfl
theorem as_noUnwrap (v : Value) (xT : TypeId) (w : World) : (Instr.typeAssert (.iface 35 v) xT 189 true).run Tryz.prog w = .ok (.tuple #[.nilIface, .bool false]) w :=
  run_typeAssert_lacksB Tryz.underlying189 (by kernel_rfl) (by kernel_rfl) v xT w

set_option maxHeartbeats 4000000 in
theorem bare0_no (n : Int) (w : World) (hg : ErrType w) : Calls Tryz.prog 55 #[.iface 35 (.int .i64 n)] w fun e w' => e = .returned (.tuple #[.int .i64 n, .bool true]) ∧ Below w.heap.size w w' := by
  have hA := as_noAt
  have hU := as_noUnwrap
  go_enter Tryz.func55, Tryz.ntmps55
  go_wp2_with (go_at_call 13; refine (tell_no n _ hg).mono ?_; rintro e w' ⟨rfl, hb⟩)
  refine wp_loop_rounds 1 ?_
  rw [rounds_succ]
  go_wp2
  go_ret2
  exact ⟨rfl, hb⟩

theorem bare0_nil (w : World) : Calls Tryz.prog 55 #[.nilIface] w fun e w' => e = .returned (.tuple #[.int .i64 0, .bool true]) ∧ w = w' := by
  go_enter Tryz.func55, Tryz.ntmps55
  go_wp2_with (go_at_call 13; refine (tell_nil _).mono ?_; rintro e w' ⟨rfl, rfl⟩)
  refine wp_loop_rounds 1 ?_
  rw [rounds_succ]
  go_wp2
  go_ret2
  exact ⟨rfl, rfl⟩

theorem bare_nil (x : Int) (w : World) : Calls Tryz.prog 19 #[.nilIface, .int .i64 x] w fun e w' => e = .returned (.bool ((0 : Int) == x)) ∧ w = w' := by
  go_enter Tryz.func19, Tryz.ntmps19
  go_wp2_with (go_at_call 55; refine (bare0_nil _).mono ?_; rintro e w' ⟨rfl, rfl⟩)
  go_ret
  exact ⟨rfl, rfl⟩

theorem bare_no (n x : Int) (w : World) (hg : ErrType w) : Calls Tryz.prog 19 #[.iface 35 (.int .i64 n), .int .i64 x] w fun e w' => e = .returned (.bool (n == x)) ∧ Below w.heap.size w w' := by
  go_enter Tryz.func19, Tryz.ntmps19
  go_wp2_with (go_at_call 55; refine (bare0_no n _ hg).mono ?_; rintro e w' ⟨rfl, hb⟩)
  go_ret
  exact ⟨rfl, hb⟩

theorem bare_any (n x : Int) (w : World) (hg : ErrType w) : Calls Tryz.prog 19 #[errV n, .int .i64 x] w fun e w' => e = .returned (.bool (n == x)) ∧ Below w.heap.size w w' := by
  unfold errV
  by_cases h : n = 0
  · subst h
    rw [if_pos rfl]
    exact (bare_nil x w).mono fun e w' ⟨h1, h2⟩ => ⟨h1, by subst h2; exact Below.refl _ _⟩
  · rw [if_neg h]
    exact bare_no n x w hg
end Go.Proofs.YtckohmhhcknmaaaGreatDoor

/-
  token.Write and rotorref.WriteToken.
-/
namespace Go.Proofs.YtckohmhhcknmaaaGreatDoor
open Go.RowKit

def bodyS (a b c d : Int) : ByteArray := if a = 1 then ⟨#[114, 46]⟩ ++ itoS b ++ ⟨#[46]⟩ ++ itoS c else ⟨#[97, 46]⟩ ++ itoS b ++ ⟨#[46]⟩ ++ itoS c ++ ⟨#[46]⟩ ++ itoS d
theorem right_cases {a b c d : Int} (h : rightN a b c d = true) : (a = 1 ∨ (a = 2 ∧ okN d = true)) ∧ okN b = true ∧ okN c = true := by
  simp [rightN] at h
  obtain ⟨⟨h1, h2⟩, h3⟩ := h
  refine ⟨?_, h2, h3⟩
  rcases h1 with ⟨h, _⟩ | h
  · exact .inl h
  · exact .inr h
theorem token_body (a b c d : Int) (W : World) (hT : Tens W) (h : rightN a b c d = true) :
    Calls Tryz.prog 96 #[v4 a b c d] W fun e w' => e = .returned (.string (bodyS a b c d)) ∧ Below W.heap.size W w' := by
  obtain ⟨h1, hb, hc⟩ := right_cases h
  rcases h1 with rfl | ⟨rfl, hd⟩
  · exact token_body1 b c d W hT hb hc
  · exact token_body2 b c d W hT hb hc hd
theorem ref_body (a b c d : Int) (W : World) (hT : Tens W) (h : rightN a b c d = true) :
    Calls Tryz.prog 109 #[v4 a b c d] W fun e w' => e = .returned (.string (bodyS a b c d)) ∧ Below W.heap.size W w' := by
  obtain ⟨h1, hb, hc⟩ := right_cases h
  rcases h1 with rfl | ⟨rfl, hd⟩
  · exact ref_body1 b c d W hT hb hc
  · exact ref_body2 b c d W hT hb hc hd
theorem bodyS_size (a b c d : Int) (h : rightN a b c d = true) : (bodyS a b c d).size ≤ 70 := by
  obtain ⟨h1, hb, hc⟩ := right_cases h
  have sb := itoS_size b hb
  have sc := itoS_size c hc
  rcases h1 with rfl | ⟨rfl, hd⟩
  · rw [bodyS, if_pos rfl]
    have z1 : (⟨#[114, 46]⟩ ++ itoS b : ByteArray).size ≤ 2 + 21 := app_size _ _ 2 21 (by decide) sb
    have z2 := app_size _ (⟨#[46]⟩ : ByteArray) _ 1 z1 (by decide)
    have z3 := app_size _ (itoS c) _ _ z2 sc
    omega
  · have sd := itoS_size d hd
    rw [bodyS, if_neg (by decide)]
    have z1 : (⟨#[97, 46]⟩ ++ itoS b : ByteArray).size ≤ 2 + 21 := app_size _ _ 2 21 (by decide) sb
    have z2 := app_size _ (⟨#[46]⟩ : ByteArray) _ 1 z1 (by decide)
    have z3 := app_size _ (itoS c) _ _ z2 sc
    have z4 := app_size _ (⟨#[46]⟩ : ByteArray) _ 1 z3 (by decide)
    have z5 := app_size _ (itoS d) _ _ z4 sd
    omega
def tagS (key : Int) (s : ByteArray) : ByteArray := ⟨(tagL key s.data.toList).toArray⟩
theorem tagS_size (key : Int) (s : ByteArray) : (tagS key s).size = 16 := hex_size _ _
def tokS (key a b c d : Int) : ByteArray := bodyS a b c d ++ ⟨#[46]⟩ ++ tagS key (bodyS a b c d)

end Go.Proofs.YtckohmhhcknmaaaGreatDoor

/-
  strings.Join of a row of texts, by the shelf's contract.
-/
namespace Go.Proofs.YtckohmhhcknmaaaGreatDoor
open Go.RowKit Go.Sort

theorem join_row (c : UInt8) {B : Nat} {v : Value} {L : List (List UInt8)} {w : World} (h : Row w B v L) (hL : L.length ≤ 1000000) (hlen : (glue c L).length ≤ 1000000) :
    Calls Tryz.prog 78 #[v, .string ⟨#[c]⟩] w fun e w' => e = .returned (.string (txt (glue c L))) ∧ Below w.heap.size w w' := by
  obtain ⟨g, cap, rfl, hg, hlt, hn, hm, hH⟩ := h.parts
  have hd : (L.map txt).map (·.data.toList) = L := by
    rw [List.map_map]
    exact (List.map_congr_left fun x _ => data_txt x).trans (List.map_id L)
  have hj : Lib.join ((L.map txt).map (·.data.toList)) (⟨#[c]⟩ : ByteArray).data.toList = glue c L := by rw [hd]; exact glue_join c L
  have := Tryz.strings_Join g 0 cap (L.map txt) ⟨#[c]⟩ w (fun j x hx => by
    rw [List.getElem?_map] at hx
    rcases e : L[j]? with _ | y
    · rw [e] at hx; cases hx
    · rw [e] at hx
      have hj := (List.getElem?_eq_some_iff.1 e).1
      have hc := (hH j (by simpa using hj)).1
      rw [hc]
      simp at hx
      subst hx
      simp [encStr, txt, List.getElem!_eq_getElem?_getD, e]) hlt (by rw [List.length_map]; omega) (by rw [List.length_map]; omega) (by rw [hj]; omega)
  rw [List.length_map, hj] at this
  exact this
end Go.Proofs.YtckohmhhcknmaaaGreatDoor

/-
  slices.Sort (and sort.Strings) of a row of texts, by the shelf's contracts.
-/
namespace Go.Proofs.YtckohmhhcknmaaaGreatDoor
open Go.RowKit Go.Sort

theorem sort_row {B : Nat} {v : Value} {L : List (List UInt8)} {w W : World} (h : Row w B v L) (hB : Below B W w) (hs : B ≤ w.heap.size) (hL : L.length ≤ 1000000) :
    Calls Tryz.prog 121 #[v] w fun e w' => e = .returned (.tuple #[]) ∧ Row w' B v (L.mergeSort leW) ∧ Below B W w' := by
  obtain ⟨g, cap, rfl, hg, hlt, hn, hm, hH⟩ := h.parts
  refine (Tryz.slices_Sort_string g 0 cap L w hH hlt (by omega)).mono ?_
  rintro e w' ⟨rfl, n, os, rfl⟩
  refine ⟨rfl, h.sorted (List.length_mergeSort L), ?_⟩
  exact hB.grown (grownBy_sorted _) hs (fun j hj => by cases hj; exact hg)

theorem strings_row {B : Nat} {v : Value} {L : List (List UInt8)} {w W : World} (h : Row w B v L) (hB : Below B W w) (hs : B ≤ w.heap.size) (hL : L.length ≤ 1000000) :
    Calls Tryz.prog 147 #[v] w fun e w' => e = .returned (.tuple #[]) ∧ Row w' B v (L.mergeSort leW) ∧ Below B W w' := by
  obtain ⟨g, cap, rfl, hg, hlt, hn, hm, hH⟩ := h.parts
  refine (Tryz.sort_Strings g 0 cap L w hH hlt (by omega)).mono ?_
  rintro e w' ⟨rfl, n, os, rfl⟩
  refine ⟨rfl, h.sorted (List.length_mergeSort L), ?_⟩
  exact hB.grown (grownBy_sorted _) hs (fun j hj => by cases hj; exact hg)
end Go.Proofs.YtckohmhhcknmaaaGreatDoor

/-
  strings.Split at one byte, strings.Trim at a set of letters: by the shelf's contracts, told of rows of texts.
-/
namespace Go.Proofs.YtckohmhhcknmaaaGreatDoor
open Go.RowKit Go.Sort

/-- the library's variable that strings.Index reads holds some number -/
def MaxL (w : World) : Prop := ∃ m, w.cell? ⟨3, 0, none⟩ = some (.int .i64 m)
theorem maxL_of {w : World} (h : w.ShapedOpen Tryz.prog) : MaxL w := Tryz.spl146.s1_3 w h
theorem MaxL.lt {w : World} (h : MaxL w) : 3 < w.heap.size := by
  obtain ⟨m, hm⟩ := h
  exact World.block_lt_of_cell? w _ hm
theorem MaxL.below {B : Nat} {w w' : World} (h : MaxL w) (hb : Below B w w') (hB : 3 < B) : MaxL w' := by
  obtain ⟨m, hm⟩ := h
  exact ⟨m, (hb.cell (p := ⟨3, 0, none⟩) hB).trans hm⟩
theorem MaxL.below' {w w' : World} (h : MaxL w) (hb : Below w.heap.size w w') : MaxL w' := h.below hb h.lt

theorem split_row (c : UInt8) (s : ByteArray) (B : Nat) (w : World) (hs : s.size ≤ 1000000) (hm : MaxL w) (hB : B ≤ w.heap.size) :
    Calls Tryz.prog 93 #[.string s, .string ⟨#[c]⟩] w fun e w' => ∃ v, e = .returned v ∧ Row w' B v (parts c s.data.toList) ∧ Below w.heap.size w w' := by
  obtain ⟨m, hm⟩ := hm
  refine (Any.strings_Split { Tryz.spl146 with } Tryz.spl146.i9 s ⟨#[c]⟩ m w (by omega) hm (Nat.le_refl _)).mono ?_
  rintro e w' ⟨rfl, rfl⟩
  have e1 : (Lib.splitB ⟨#[c]⟩ 0 (Lib.countB s ⟨#[c]⟩) s).map Value.string = (parts c s.data.toList).map encStr := by
    rw [← splitB_parts, Lib.map_encStr]
  have e2 := countB_parts c s
  have hl := parts_len c s.data.toList
  rw [size_data] at hl
  refine ⟨_, rfl, ?_, (Below.refl _ _).alloc (Nat.le_refl _) _⟩
  rw [e1, e2]
  exact Row.new hB (by unfold maxLen; omega)

theorem dropWhile_all {p : UInt8 → Bool} {l : List UInt8} : l.dropWhile p = [] ↔ l.all p = true := by
  induction l with
  | nil => simp
  | cons x l ih =>
    by_cases h : p x = true
    · rw [List.dropWhile_cons_of_pos h, ih]; simp [h]
    · rw [List.dropWhile_cons_of_neg h]; simp [h]
theorem dropWhile_stop {p : UInt8 → Bool} {l : List UInt8} (h : (l.dropWhile p).all p = true) : l.dropWhile p = [] := by
  rcases e : l.dropWhile p with _ | ⟨x, r⟩
  · rfl
  · exfalso
    have h2 := List.all_eq_true.1 h x (by rw [e]; simp)
    have h3 := List.head?_dropWhile_not p l
    rw [e] at h3
    simp [h2] at h3
theorem trimS_nil (l cs : List UInt8) : Lib.trimS l cs = [] ↔ l.all (cs.contains ·) = true := by
  unfold Lib.trimS Lib.trimRightS Lib.trimLeftS
  rw [dropWhile_all, List.all_reverse]
  constructor
  · intro h
    have := dropWhile_all.1 (dropWhile_stop h)
    rwa [List.all_reverse] at this
  · intro h
    rw [dropWhile_all.2 (by rw [List.all_reverse]; exact h)]
    rfl
def NotEmpty (e : Ending) : Prop := ∃ y : ByteArray, e = .returned (.string y) ∧ y.toList.isEmpty = false
theorem trim_set (cs : ByteArray) (x : ByteArray) (w : World) (hx : x.size ≤ 1000000) (hc : cs.size < 4294967281) (ha : ∀ (j : Nat) b, cs.data.toList[j]? = some b → b.toNat < 128) :
    (x.data.toList.all (cs.data.toList.contains ·) = true → Calls Tryz.prog 46 #[.string x, .string cs] w fun e w' => e = .returned (.string ⟨#[]⟩) ∧ Below w.heap.size w w') ∧
    (x.data.toList.all (cs.data.toList.contains ·) = false → Calls Tryz.prog 46 #[.string x, .string cs] w fun e w' => NotEmpty e ∧ Below w.heap.size w w') := by
  have h := Any.strings_Trim_laid Tryz.tri160 (by kernel_rfl) x cs w (by omega) hc ha
  constructor
  · intro hall
    refine h.mono ?_
    rintro e w' ⟨rfl, hb⟩
    rw [(trimS_nil _ _).2 hall]
    exact ⟨rfl, hb⟩
  · intro hall
    refine h.mono ?_
    rintro e w' ⟨rfl, hb⟩
    refine ⟨⟨_, rfl, ?_⟩, hb⟩
    have : Lib.trimS x.data.toList cs.data.toList ≠ [] := fun e => by rw [(trimS_nil _ _).1 e] at hall; cases hall
    show (txt _).toList.isEmpty = false
    rw [toList_txt]
    simpa using this

end Go.Proofs.YtckohmhhcknmaaaGreatDoor

/-
  A scope's number and words, by what holds of its parts; a slice of texts, or nil.
-/
namespace Go.Proofs.YtckohmhhcknmaaaGreatDoor
open Go.RowKit Go.Sort

def longB (l : List UInt8) : Bool := decide (8 < l.length)
def RowOrNil (w : World) (B : Nat) (v : Value) (L : List (List UInt8)) : Prop := (v = .slice none 0 0 ∧ L = []) ∨ Row w B v L
theorem scopeN_form {s : List UInt8} (h0 : s ≠ []) (h : (parts 43 s).all okW = false) : scopeN s = 3 := by
  unfold scopeN; rw [if_neg h0, h]; rfl
theorem scopeN_limit {s : List UInt8} (h0 : s ≠ []) (h : (parts 43 s).all okW = true) (h2 : 5 < (uniq (parts 43 s)).length ∨ (uniq (parts 43 s)).any longB = true) : scopeN s = 4 := by
  unfold scopeN; rw [if_neg h0, if_pos h, if_neg]
  rintro ⟨h3, h4⟩
  rcases h2 with h2 | h2
  · omega
  · obtain ⟨x, hx, hl⟩ := List.any_eq_true.1 h2
    have := List.all_eq_true.1 h4 x hx
    simp [longB] at hl this
    omega
theorem scopeN_fine {s : List UInt8} (h0 : s ≠ []) (h : (parts 43 s).all okW = true) (h2 : ¬ 5 < (uniq (parts 43 s)).length) (h3 : (uniq (parts 43 s)).any longB = false) : scopeN s = 0 ∧ scopeL s = uniq (parts 43 s) := by
  have h1 : scopeN s = 0 := by
    unfold scopeN; rw [if_neg h0, if_pos h, if_pos]
    refine ⟨by omega, ?_⟩
    rw [List.all_eq_true]
    intro x hx
    have := List.any_eq_false.1 h3 x hx
    simp [longB] at this
    simpa using this
  exact ⟨h1, by unfold scopeL; rw [if_neg h0, if_pos h1]⟩
theorem scopeL_bad {s : List UInt8} (h : scopeN s ≠ 0) : scopeL s = [] := by
  unfold scopeL
  split
  · rfl
  · first | rfl | rw [if_neg h]
end Go.Proofs.YtckohmhhcknmaaaGreatDoor

/-
  slices.ContainsFunc at 'longer than a word may be'.
-/
namespace Go.Proofs.YtckohmhhcknmaaaGreatDoor
open Go.RowKit Go.Sort

theorem long_b (x : ByteArray) (w : World) : Calls Tryz.prog 124 #[.string x] w fun e w' => e = .returned (.bool (decide (8 < x.size))) ∧ w = w' := by
  by_cases h : 8 < x.size
  · have h1 : decide (8 < x.size) = true := by simpa using h
    go_enter Tryz.func124, Tryz.ntmps124
    go_wp2_with fail
    go_ret
    exact ⟨by rw [h1]; simp; omega, rfl⟩
  · have h1 : decide (8 < x.size) = false := by simpa using h
    go_enter Tryz.func124, Tryz.ntmps124
    go_wp2_with fail
    go_ret
    exact ⟨by rw [h1]; simp; omega, rfl⟩

def IdxRel (L : List (List UInt8)) (w : World) (i : Value) (wr : World) : Prop := ∃ k q : Nat, k ≤ L.length ∧ i = .int .i64 k ∧ wr = w.drewN q ∧ ∀ j, j < k → longB (L.getD j []) = false

theorem any_of_at {L : List (List UInt8)} {k : Nat} (hk : k < L.length) (h : longB (L.getD k []) = true) : L.any longB = true := by
  rw [List.any_eq_true]
  refine ⟨L[k], List.getElem_mem hk, ?_⟩
  simpa [List.getD, hk] using h
theorem any_of_none {L : List (List UInt8)} (h : ∀ j, j < L.length → longB (L.getD j []) = false) : L.any longB = false := by
  rw [List.any_eq_false]
  intro x hx
  obtain ⟨j, hj, rfl⟩ := List.mem_iff_getElem.1 hx
  have := h j hj
  simpa [List.getD, hj] using this
def AtOrNot (L : List (List UInt8)) (w : World) (e : Ending) (w' : World) : Prop := ∃ (n : Int) (q : Nat), e = .returned (.int .i64 n) ∧ decide (0 ≤ n) = L.any longB ∧ w' = w.drewN q

set_option maxHeartbeats 1000000 in
theorem index_long (B g cap : Nat) (L : List (List UInt8)) (w : World) (h : Row w B (.slice (some ⟨g, 0, none⟩) L.length cap) L) (hL : L.length ≤ 1000000) :
    Calls Tryz.prog 162 #[.slice (some ⟨g, 0, none⟩) L.length cap, .func (.func 124) #[] #[]] w (AtOrNot L w) := by
  have HR := Lib.hid h
  clear h
  go_enter Tryz.func162, Tryz.ntmps162
  go_wp2
  go_loopw [8] (fun i wr => IdxRel L w i wr) (fun i _ => L.length - (intOf i).toNat)
  case atStart => exact ⟨0, 0, Nat.zero_le _, rfl, rfl, fun j hj => absurd hj (Nat.not_lt_zero _)⟩
  case round =>
    obtain ⟨k, q, hk, rfl, rfl, hno⟩ := hrel
    have HN := Lib.hid hno
    clear hno
    by_cases hlt : k < L.length
    · have hc := (HR.out.drewN q).cell k hlt
      have hsz := txt_size (L.getD k [])
      generalize hx : txt (L.getD k []) = x at *
      have HX := Lib.hid hx
      clear hx
      by_cases hlong : 8 < x.size
      · have hd : decide (8 < x.size) = true := by simpa using hlong
        have HS := Lib.hid hsz
        clear hsz
        go_wp2_with (go_at_call 124; refine (long_b _ _).mono ?_; rintro e w1 ⟨rfl, rfl⟩)
        go_ret
        refine ⟨k, q, rfl, ?_, rfl⟩
        rw [any_of_at hlt (by unfold longB; rw [← HS.out]; simpa using hlong)]
        simp
      · have hd : decide (8 < x.size) = false := by simpa using hlong
        have HS := Lib.hid hsz
        clear hsz
        go_wp2_with (go_at_call 124; refine (long_b _ _).mono ?_; rintro e w1 ⟨rfl, rfl⟩)
        go_roundw
        case rel =>
          refine ⟨k + 1, q, by omega, by go_num, rfl, fun j hj => ?_⟩
          by_cases e : j = k
          · subst e
            unfold longB
            rw [← HS.out]
            simpa using hlong
          · exact HN.out j (by omega)
        case measure => simp [intOf]; omega
    · go_wp2
      go_ret
      refine ⟨-1, q, rfl, ?_, rfl⟩
      rw [any_of_none fun j hj => HN.out j (by omega)]
      rfl

set_option maxHeartbeats 1000000 in
theorem contains_long (B g cap : Nat) (L : List (List UInt8)) (w : World) (h : Row w B (.slice (some ⟨g, 0, none⟩) L.length cap) L) (hL : L.length ≤ 1000000) :
    Calls Tryz.prog 123 #[.slice (some ⟨g, 0, none⟩) L.length cap, .func (.func 124) #[] #[]] w fun e w' => e = .returned (.bool (L.any longB)) ∧ ∃ q, w' = w.drewN q := by
  have H := Lib.hid (index_long B g cap L w h hL)
  clear h
  go_enter Tryz.func123, Tryz.ntmps123
  go_wp2_with (go_at_call 162; refine H.out.mono ?_; rintro e w1 ⟨n, q, rfl, hn, rfl⟩; have HN := Lib.hid hn; clear hn)
  go_ret
  exact ⟨by rw [← HN.out]; rfl, q, rfl⟩
end Go.Proofs.YtckohmhhcknmaaaGreatDoor

/-
  slices.Compact of a row of texts, by the shelf's contract.
-/
namespace Go.Proofs.YtckohmhhcknmaaaGreatDoor
open Go.RowKit Go.Sort

theorem compact_len (L : List (List UInt8)) : (Lib.compact L).length ≤ L.length := Lib.compact_length_le L
theorem compact_row {B : Nat} {v : Value} {L : List (List UInt8)} {w W : World} (h : Row w B v L) (hB : Below B W w) (hL : L.length ≤ 1000000) :
    Calls Tryz.prog 122 #[v] w fun e w' => ∃ g cap, e = .returned (.slice (some ⟨g, 0, none⟩) (Lib.compact L).length cap) ∧ Row w' B (.slice (some ⟨g, 0, none⟩) (Lib.compact L).length cap) (Lib.compact L) ∧ Below B W w' := by
  obtain ⟨g, cap, rfl, hg, hlt, hn, hm, hH⟩ := h.parts
  refine (Tryz.slices_Compact_string g 0 cap L w hH (by omega) hn).mono ?_
  rintro e w' ⟨rfl, q, rfl⟩
  exact ⟨g, cap, rfl, h.cut (compact_len L), Lib.below_putRow hB hg⟩
end Go.Proofs.YtckohmhhcknmaaaGreatDoor

/-
  strings.Join of a scope's words.
-/
namespace Go.Proofs.YtckohmhhcknmaaaGreatDoor
open Go.RowKit Go.Sort

theorem join_nil (w : World) (c : Nat) (sep : ByteArray) : Calls Tryz.prog 78 #[.slice none 0 c, .string sep] w fun e w' => e = .returned (.string ⟨#[]⟩) ∧ w' = w := Tryz.strings_Join_none none c sep w
theorem join_scope {w : World} {B : Nat} {v : Value} {s : List UInt8} (h : RowOrNil w B v (scopeL s)) : Calls Tryz.prog 78 #[v, .string ⟨#[43]⟩] w fun e w' => e = .returned (.string (txt (leastL s))) ∧ Below w.heap.size w w' := by
  rcases h with ⟨rfl, h⟩ | h
  · refine (join_nil w 0 _).mono ?_
    rintro e w' ⟨rfl, rfl⟩
    unfold leastL
    rw [h]
    exact ⟨rfl, Below.refl _ _⟩
  · have h1 := scopeL_small s
    have h2 := leastL_len s
    exact join_row 43 h (by omega) (by show (leastL s).length ≤ _; omega)
end Go.Proofs.YtckohmhhcknmaaaGreatDoor
