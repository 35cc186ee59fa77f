/-
  A map that the call itself made, of texts to bools, told by a plain function.
-/
import Derived.Test.YtklpmoimckblcaaGreatDoorStrs
import Derived.Maps.OwnOps
import Derived.Maps.OwnSet
import Derived.Maps.Views
import Derived.StringKeys
namespace Go.Proofs.YtklpmoimckblcaaGreatDoor
open Go.RowKit Go.Maps Go.WideMaps

theorem plainElem_bool_inv {H : Type} {P : Program} {e : TypeId} (he : P.underlying e = some .bool) {v : Value} {z : DataW H × List MemPlace} (h : plainElem P e v = some z) : ∃ x : Bool, v = .bool x ∧ z = (.lit (.bool x), []) := by
  unfold plainElem at h
  cases v <;> simp_all
/-- block b is a map of at most n entries, texts (key type K) to bools (element type E), that tells f x at x -/
def MapSB (P : Program) (K E : TypeId) (w : World) (b n : Nat) (f : List UInt8 → Bool) : Prop :=
  ∃ D : DataW Unit, w.ownsMap P K (plainElem P E) b n D ∧ IsMap D ∧ ∀ x : List UInt8, D.atKey (.string x) (.lit (.bool false)) = .lit (.bool (f x))

section
variable {P : Program} {K E T : TypeId} {w w' : World} {b n : Nat} {f : List UInt8 → Bool}
theorem MapSB.made (w : World) : MapSB P K E (w.alloc (.map #[] 0)) w.heap.size 0 (fun _ => false) :=
  ⟨.map [], World.ownsMap_made w P K _, ⟨[], rfl⟩, fun x => by simp [DataW.atKey]⟩
theorem MapSB.kept (h : MapSB P K E w b n f) {row : Option Nat} (hg : w.grownBy w' row) (hne : some b ≠ row) : MapSB P K E w' b n f := by
  obtain ⟨D, h1, h2, h3⟩ := h
  exact ⟨D, h1.kept hg hne, h2, h3⟩
theorem MapSB.below (h : MapSB P K E w b n f) (hb : Below w.heap.size w w') : MapSB P K E w' b n f := h.kept (only_of_below hb none) (by simp)
theorem MapSB.alloc (h : MapSB P K E w b n f) (o : Obj) : MapSB P K E (w.alloc o) b n f := h.kept (World.grownBy_alloc w o none) (by simp)
theorem MapSB.drewN (h : MapSB P K E w b n f) (m : Nat) : MapSB P K E (w.drewN m) b n f := h
theorem MapSB.lt (h : MapSB P K E w b n f) : b < w.heap.size := by
  obtain ⟨D, h1, _⟩ := h
  exact h1.lt
theorem MapSB.mono (h : MapSB P K E w b n f) {m : Nat} (hm : n ≤ m) : MapSB P K E w b m f := by
  obtain ⟨D, h1, h2, h3⟩ := h
  exact ⟨D, h1.mono hm, h2, h3⟩
theorem MapSB.look (h : MapSB P K E w b n f) (ht : P.underlying T = some (.map K E)) (hk : P.underlying K = some .string) (he : P.underlying E = some .bool)
    (hz : (zeroValue E).run P w = .ok (.bool false) w) (x : List UInt8) (hx : x.length ≤ maxLen) :
    (Instr.lookup T (.map (some b)) (.string (txt x)) false).run P w = .ok (.bool (f x)) w := by
  obtain ⟨D, h1, h2, h3⟩ := h
  have hkey : keyOf P K (.string (txt x)) = some (.string x) := by
    rw [keyOf_string_mk hk (by rw [txt_size]; exact hx), data_txt]
  obtain ⟨v, ps, hrun, hv⟩ := h1.lookup (string_keyed hk) ht hz (plainElem_bool he false) hkey
  obtain ⟨y, rfl, hy⟩ := plainElem_bool_inv he hv
  simp only [Prod.mk.injEq] at hy
  have h4 := h3 x
  rw [hy.1] at h4
  have h6 : y = f x := by injection h4 with h4; injection h4
  rw [hrun, h6]
theorem MapSB.put (h : MapSB P K E w b n f) (ht : P.underlying T = some (.map K E)) (hk : P.underlying K = some .string) (he : P.underlying E = some .bool)
    (hn : n < maxLen) (x : List UInt8) (hx : x.length ≤ maxLen) (v : Bool) :
    ∃ w', (Instr.mapUpdate T (.map (some b)) (.string (txt x)) (.bool v)).run P w = .ok () w' ∧ MapSB P K E w' b (n + 1) (fun y => if y = x then v else f y) ∧ w.grownBy w' (some b) := by
  obtain ⟨D, h1, h2, h3⟩ := h
  have hkey : keyOf P K (.string (txt x)) = some (.string x) := by
    rw [keyOf_string_mk hk (by rw [txt_size]; exact hx), data_txt]
  obtain ⟨w', hrun, r1, r2⟩ := h1.update (string_keyed hk) ht hn hkey (plainElem_bool he v)
  refine ⟨w', hrun, ⟨_, r1, ?_, ?_⟩, r2⟩
  · obtain ⟨l, rfl⟩ := h2
    exact ⟨_, rfl⟩
  · intro y
    dsimp only
    by_cases e : y = x
    · subst e
      rw [if_pos rfl, atKey_put_same h2 (by simp [WideAt.IsKeyLit])]
    · rw [if_neg e, atKey_put_other (by simpa using e)]
      exact h3 y
end
end Go.Proofs.YtklpmoimckblcaaGreatDoor
