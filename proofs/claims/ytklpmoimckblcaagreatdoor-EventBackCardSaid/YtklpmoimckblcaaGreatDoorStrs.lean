/-
  A slice of strings that the call itself made, told as a list of texts; a text's bytes as a list.
-/
import Derived.Test.YtklpmoimckblcaaGreatDoorParts
import Derived.Test.YtklpmoimckblcaaGreatDoorWords
import Derived.Sort.OwnSorted
import Derived.Lib.OwnBridge
import Derived.Laws.OwnMore
import Derived.LoopTactic
import Derived.Deep.LoopGhost
import Derived.Deep.QuietTactic
import Derived.BigQuiet
namespace Go.Proofs.YtklpmoimckblcaaGreatDoor
open Go.RowKit Go.Sort

/-- a text by its bytes -/
def txt (l : List UInt8) : ByteArray := ⟨l.toArray⟩
theorem txt_data (s : ByteArray) : txt s.data.toList = s := by cases s; simp [txt]
theorem data_txt (l : List UInt8) : (txt l).data.toList = l := by simp [txt]
theorem txt_size (l : List UInt8) : (txt l).size = l.length := by simp [txt, ByteArray.size]
theorem size_data (s : ByteArray) : s.data.toList.length = s.size := by cases s; simp [ByteArray.size]
theorem txt_inj {a b : List UInt8} (h : txt a = txt b) : a = b := by rw [← data_txt a, h, data_txt]
theorem txt_app (a b : List UInt8) : txt a ++ txt b = txt (a ++ b) := by
  apply ByteArray.ext
  simp [txt]
theorem encStr_txt (l : List UInt8) : encStr l = .string (txt l) := rfl

/-- v is a slice (not nil) of the call's own that holds the texts L -/
def Row (w : World) (B : Nat) (v : Value) (L : List (List UInt8)) : Prop :=
  ∃ g cap, v = .slice (some ⟨g, 0, none⟩) L.length cap ∧ w.ownsRow B 9 1 v L.length (L.map encStr)

section
variable {w w' : World} {B : Nat} {v : Value} {L : List (List UInt8)}
theorem Row.kept (h : Row w B v L) {row : Option Nat} (hg : w.grownBy w' row) (hne : v.ownBlock ≠ row) : Row w' B v L := by
  obtain ⟨g, cap, e, ho⟩ := h
  exact ⟨g, cap, e, ho.kept hg (.inr hne)⟩
theorem Row.below (h : Row w B v L) (hb : Below w.heap.size w w') : Row w' B v L := by
  obtain ⟨g, cap, e, ho⟩ := h
  exact ⟨g, cap, e, ho.kept (only_of_below hb none) (.inr (by rw [e]; simp [Value.ownBlock]))⟩
theorem Row.drewN (h : Row w B v L) (n : Nat) : Row (w.drewN n) B v L := h
theorem Row.drew (h : Row w B v L) : Row w.drew B v L := h
theorem Row.alloc (h : Row w B v L) (o : Obj) : Row (w.alloc o) B v L := by
  obtain ⟨g, cap, e, ho⟩ := h
  exact ⟨g, cap, e, ho.alloc o⟩
theorem Row.cell {g cap : Nat} (h : Row w B (.slice (some ⟨g, 0, none⟩) L.length cap) L) (j : Nat) (hj : j < L.length) : w.cell? ⟨g, j, none⟩ = some (.string (txt (L.getD j []))) := by
  obtain ⟨g', cap', e, ho⟩ := h
  have := ho.cellAt j (by omega)
  rw [this]
  simp [List.getD, hj, encStr, txt]
theorem Row.parts (h : Row w B v L) : ∃ g cap, v = .slice (some ⟨g, 0, none⟩) L.length cap ∧ B ≤ g ∧ g < w.heap.size ∧ L.length ≤ cap ∧ cap ≤ maxLen ∧ Holds encStr w g 0 L.toArray := by
  obtain ⟨g, cap, rfl, ho⟩ := h
  obtain ⟨g', cap', e, h1, h2, h3, h4, _, h6⟩ := Lib.holds_of_ownsRow ho (by simp)
  injection e with e1 _ e3
  injection e1 with e1
  injection e1 with e1
  subst e1; subst e3
  exact ⟨g, cap, rfl, h1, h2, h3, h4, h6⟩
theorem Row.mono {B' : Nat} (h : Row w B v L) (hB : B' ≤ B) : Row w B' v L := by
  obtain ⟨g, cap, rfl, ho⟩ := h
  refine ⟨g, cap, rfl, ho.1, ?_⟩
  rcases ho.2 with h0 | ⟨g', cap', cur, e, h1, h2⟩
  · exact .inl h0
  · exact .inr ⟨g', cap', cur, e, by omega, h2⟩
/-- a block that holds just these texts -/
theorem Row.new (hB : B ≤ w.heap.size) (hm : L.length ≤ maxLen) : Row (w.alloc (.cells (L.map encStr).toArray 9)) B (.slice (some ⟨w.heap.size, 0, none⟩) L.length L.length) L := by
  refine ⟨_, _, rfl, by simp, .inr ⟨w.heap.size, L.length, (L.map encStr).toArray, rfl, hB, heap_alloc_new w _, Nat.le_refl _, hm, by simp, ?_⟩⟩
  rw [List.take_of_length_le (by simp)]
theorem Row.sorted {g cap n : Nat} {os : Array Obj} {T : List (List UInt8)} (h : Row w B (.slice (some ⟨g, 0, none⟩) L.length cap) L) (hl : T.length = L.length) :
    Row (grow (putRow encStr (Sort.ahead w n) g 0 T.toArray) os) B (.slice (some ⟨g, 0, none⟩) L.length cap) T := by
  obtain ⟨g', cap', e, ho⟩ := h
  injection e with e1 _ e3
  injection e1 with e1
  injection e1 with e1
  subst e1; subst e3
  rcases ho.2 with ⟨h0, _⟩ | ⟨g', cap', cur, hv, hbase, hb, h1, h2, h3, h4⟩
  · cases h0
  cases hv
  refine ⟨g, cap, by rw [hl], ?_⟩
  rw [hl]
  exact ownsRow_sorted (n := n) (os := os) hl hbase hb h1 h2 h3
theorem Row.cut {g cap q : Nat} {T : List (List UInt8)} (h : Row w B (.slice (some ⟨g, 0, none⟩) L.length cap) L) (hl : T.length ≤ L.length) :
    Row (putRow encStr (Sort.ahead w q) g 0 (T ++ List.replicate (L.length - T.length) []).toArray) B (.slice (some ⟨g, 0, none⟩) T.length cap) T := by
  obtain ⟨g', cap', e, ho⟩ := h
  injection e with e1 _ e3
  injection e1 with e1
  injection e1 with e1
  subst e1; subst e3
  have hc := Lib.ownsRow_putRow (q := q) (k := T.length) (ys := T ++ List.replicate (L.length - T.length) []) ho (by simp; omega) hl
  rw [List.take_left] at hc
  exact ⟨g, cap, rfl, hc⟩
end

theorem toList_txt (l : List UInt8) : (txt l).toList = l := by
  rw [ByteArray.toList_eq]
  simp [txt]
theorem parts_len (c : UInt8) : ∀ l : List UInt8, (parts c l).length ≤ l.length + 1
  | [] => by simp [parts]
  | x :: l => by
    have ih := parts_len c l
    by_cases hx : x = c
    · subst hx; rw [parts_sep]; simp; omega
    · rcases e : parts c l with _ | ⟨v, r⟩
      · exact absurd e (parts_ne c l)
      · rw [parts_cons hx e]; rw [e] at ih; simp at ih ⊢; omega

theorem parts_word_len (c : UInt8) : ∀ (l : List UInt8) (n : Nat), l.length ≤ n → ∀ w ∈ parts c l, w.length ≤ n
  | [], n, _, w, h => by simp [parts] at h; simp [h]
  | x :: l, n, hn, w, h => by
    simp at hn
    by_cases hx : x = c
    · subst hx
      rw [parts_sep] at h
      rcases List.mem_cons.1 h with rfl | h
      · simp
      · exact parts_word_len x l n (by omega) w h
    · rcases e : parts c l with _ | ⟨v, r⟩
      · exact absurd e (parts_ne c l)
      · rw [parts_cons hx e] at h
        rcases List.mem_cons.1 h with rfl | h
        · have := parts_word_len c l l.length (Nat.le_refl _) v (by rw [e]; exact List.mem_cons_self)
          simp; omega
        · exact parts_word_len c l n (by omega) w (by rw [e]; exact List.mem_cons_of_mem _ h)
end Go.Proofs.YtklpmoimckblcaaGreatDoor
