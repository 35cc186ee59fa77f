/- Part of the proof. -/
import Derived.Lib.Hide
theorem Go.RowKit.Hid.O{p : Prop}(h : Go.RowKit.Hid p): p := h
theorem Eq.T.{u}{α : Sort u}{a b c : α}(h : a = b)(k : b = c): a = c := h.trans k
theorem Go.RowKit.Below.T{n : Nat}{a b c : Go.World}(h : Go.RowKit.Below n a b)(k : Go.RowKit.Below n b c): Go.RowKit.Below n a c := h.trans k
theorem Relation.TransGen.T.{u}{α : Sort u}{r : α -> α -> Prop}{a b c : α}(h : Relation.TransGen r a b)(k : Relation.TransGen r b c): Relation.TransGen r a c := h.trans k
namespace Go.Proofs.YtjligkmjlenofaaGreatDoor
theorem kR{p : Prop}(h : p := by kernel_rfl): p := h
theorem oM{p : Prop}(h : p := by omega): p := h
theorem dC{p : Prop}(h : p := by decide): p := h
theorem aS{p : Prop}(h : p := by assumption): p := h
theorem kS{α : Type}{a b : α}(h : a = b := by kernel_rfl): some a = some b := congrArg some h
theorem zH{p : Prop}(h : p): RowKit.Hid p := h
abbrev BL:= List UInt8
theorem sP{p : Prop}(h : p := by simp): p := h
theorem sO{p : Prop}(h : p := by simp; omega): p := h
theorem mL{p : Prop}(h : p := by unfold maxLen; omega): p := h
theorem aP{p : Prop}(h : p := by simp only [Array.size_push]; omega): p := h
theorem nR{n : Nat}: n <= n := Nat.le_refl n
theorem bR{n : Nat}{w : World}: RowKit.Below n w w := RowKit.Below.refl n w
end Go.Proofs.YtjligkmjlenofaaGreatDoor
