/-
  A map that the call itself made, of integers to strings, told by a plain function.
-/
import Derived.Test.YtpokddiddjmkoaaDoorWords
import Derived.Maps.OwnOps
import Derived.Maps.OwnSet
import Derived.Maps.Views
import Derived.Maps.StringElems
namespace Go.Proofs.YtpokddiddjmkoaaDoor
open Go.RowKit Go.Maps

theorem bytes_ext {s t : ByteArray} (h : s.data.toList = t.data.toList) : s = t := by
  cases s; cases t; simp at h; simp [h]

/-- block b is a map of at most n entries, integers (key type K) to strings (element type E), that tells f k at k -/
def MapIS (P : Program) (K E : TypeId) (w : World) (b n : Nat) (f : Int → ByteArray) : Prop :=
  ∃ D : DataW Unit, w.ownsMap P K (plainElem P E) b n D ∧ IsMap D ∧ ∀ k : Int, (Lit.int .i64 k).wf = true → D.atKey (.int .i64 k) (.lit (.string [])) = .lit (.string (f k).data.toList)

section
variable {P : Program} {K E T : TypeId} {w w' : World} {b n : Nat} {f : Int → ByteArray}
theorem MapIS.made (w : World) : MapIS P K E (w.alloc (.map #[] 0)) w.heap.size 0 (fun _ => ByteArray.empty) :=
  ⟨.map [], World.ownsMap_made w P K _, ⟨[], rfl⟩, fun k _ => by simp [DataW.atKey]⟩
theorem MapIS.kept (h : MapIS P K E w b n f) {row : Option Nat} (hg : w.grownBy w' row) (hne : some b ≠ row) : MapIS P K E w' b n f := by
  obtain ⟨D, h1, h2, h3⟩ := h
  exact ⟨D, h1.kept hg hne, h2, h3⟩
theorem MapIS.below (h : MapIS P K E w b n f) (hb : Below w.heap.size w w') : MapIS P K E w' b n f := h.kept (only_of_below hb none) (by simp)
theorem MapIS.alloc (h : MapIS P K E w b n f) (o : Obj) : MapIS P K E (w.alloc o) b n f := h.kept (World.grownBy_alloc w o none) (by simp)
theorem MapIS.drewN (h : MapIS P K E w b n f) (m : Nat) : MapIS P K E (w.drewN m) b n f := h
theorem MapIS.lt (h : MapIS P K E w b n f) : b < w.heap.size := by
  obtain ⟨D, h1, _⟩ := h
  exact h1.lt
theorem MapIS.mono (h : MapIS P K E w b n f) {m : Nat} (hm : n ≤ m) : MapIS P K E w b m f := by
  obtain ⟨D, h1, h2, h3⟩ := h
  exact ⟨D, h1.mono hm, h2, h3⟩
theorem MapIS.look (h : MapIS P K E w b n f) (ht : P.underlying T = some (.map K E)) (hk : P.underlying K = some (.int .i64)) (he : P.underlying E = some .string)
    (hz : (zeroValue E).run P w = .ok (.string ByteArray.empty) w) (k : Int) (hw : (Lit.int .i64 k).wf = true) :
    (Instr.lookup T (.map (some b)) (.int .i64 k) false).run P w = .ok (.string (f k)) w := by
  obtain ⟨D, h1, h2, h3⟩ := h
  obtain ⟨v, ps, hrun, hv⟩ := h1.lookup (int_keyed hk) ht hz (plainElem_string he (by decide)) (keyOf_int_mk hk hw)
  obtain ⟨s, rfl, hs, _⟩ := plainElem_string_inv he hv
  have h4 := h3 k hw
  simp only [Prod.mk.injEq] at hs
  have h5 : D.atKey (.int .i64 k) (.lit (.string [])) = .lit (.string s.data.toList) := by
    rw [← hs.1]; rfl
  rw [h5] at h4
  have h6 : s.data.toList = (f k).data.toList := by injection h4 with h4; injection h4
  rw [hrun, bytes_ext h6]
theorem MapIS.put (h : MapIS P K E w b n f) (ht : P.underlying T = some (.map K E)) (hk : P.underlying K = some (.int .i64)) (he : P.underlying E = some .string)
    (hn : n < maxLen) (k : Int) (hw : (Lit.int .i64 k).wf = true) (s : ByteArray) (hs : s.size ≤ maxLen) :
    ∃ w', (Instr.mapUpdate T (.map (some b)) (.int .i64 k) (.string s)).run P w = .ok () w' ∧ MapIS P K E w' b (n + 1) (fun j => if j = k then s else f j) ∧ w.grownBy w' (some b) := by
  obtain ⟨D, h1, h2, h3⟩ := h
  obtain ⟨w', hrun, r1, r2⟩ := h1.update (int_keyed hk) ht hn (keyOf_int_mk hk hw) (plainElem_string he hs)
  refine ⟨w', hrun, ⟨_, r1, ?_, ?_⟩, r2⟩
  · obtain ⟨l, rfl⟩ := h2
    exact ⟨_, rfl⟩
  · intro j hj
    dsimp only
    by_cases e : j = k
    · subst e
      rw [if_pos rfl, atKey_put_same h2 (by simp [WideAt.IsKeyLit])]
    · rw [if_neg e, atKey_put_other (by simpa using e)]
      exact h3 j hj
end
end Go.Proofs.YtpokddiddjmkoaaDoor
