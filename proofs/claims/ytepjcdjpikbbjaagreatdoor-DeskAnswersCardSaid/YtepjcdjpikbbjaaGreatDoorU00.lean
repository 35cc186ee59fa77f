/-
  Short words for closed proofs.
-/
import Derived.KernelRfl
import Derived.Lib.Hide
namespace Go.Proofs.YtepjcdjpikbbjaaGreatDoor
theorem kR {p : Prop} (h : p := by kernel_rfl) : p := h
theorem oM {p : Prop} (h : p := by omega) : p := h
theorem dC {p : Prop} (h : p := by decide) : p := h
theorem aS {p : Prop} (h : p := by assumption) : p := h
theorem kS {α : Type} {a b : α} (h : a = b := by kernel_rfl) : some a = some b := congrArg some h
theorem zH {p : Prop} (h : p) : RowKit.Hid p := h
end Go.Proofs.YtepjcdjpikbbjaaGreatDoor
