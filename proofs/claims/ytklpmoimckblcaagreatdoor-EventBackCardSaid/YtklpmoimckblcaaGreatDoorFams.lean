/-
  A slice of families of the call's own, told as a list; slices.Clone of one.
-/
import Derived.Test.YtklpmoimckblcaaGreatDoorFamPure
import Derived.Test.YtklpmoimckblcaaGreatDoorEvVals
import Derived.Maps.AppendAt
import Derived.Deep.Onto
import Derived.Lib.SliceRun
namespace Go.Proofs.YtklpmoimckblcaaGreatDoor
open Go.RowKit Go.Sort

/-- the cells of families, one behind the other -/
def flat (L : List Fam) : List Value := L.flatMap fun f => (famCs f).toList
theorem famCs_len (f : Fam) : (famCs f).toList.length = 9 := rfl
theorem flat_len : ∀ L : List Fam, (flat L).length = L.length * 9
  | [] => rfl
  | f :: L => by
    have := flat_len L
    unfold flat at this ⊢
    rw [List.flatMap_cons, List.length_append, this, famCs_len, List.length_cons]
    omega
theorem flat_cons (f : Fam) (L : List Fam) : flat (f :: L) = (famCs f).toList ++ flat L := rfl
theorem flat_app (a b : List Fam) : flat (a ++ b) = flat a ++ flat b := by simp [flat]
theorem flat_get : ∀ {L : List Fam} {i : Nat} {f : Fam}, L[i]? = some f → ∀ j, j < 9 → (flat L)[i * 9 + j]? = (famCs f)[j]?
  | [], i, f, h, _, _ => by simp at h
  | g :: L, 0, f, h, j, hj => by
    simp at h
    subst h
    rw [flat_cons, Nat.zero_mul, Nat.zero_add, List.getElem?_append_left (by rw [famCs_len]; exact hj), Array.getElem?_toList]
  | g :: L, i + 1, f, h, j, hj => by
    rw [flat_cons, List.getElem?_append_right (by rw [famCs_len]; omega), famCs_len, show (i + 1) * 9 + j - 9 = i * 9 + j by omega]
    exact flat_get (by simpa using h) j hj
theorem flat_take (L : List Fam) (k : Nat) : flat (L.take k) = (flat L).take (k * 9) := by
  induction L generalizing k with
  | nil => simp [flat]
  | cons f L ih =>
    cases k with
    | zero => simp [flat]
    | succ k => rw [List.take_succ_cons, flat_cons, flat_cons, ih, List.take_append, famCs_len, List.take_of_length_le (l := (famCs f).toList) (by rw [famCs_len]; omega), show (k + 1) * 9 - 9 = k * 9 by omega]
theorem flat_drop (L : List Fam) (k : Nat) : flat (L.drop k) = (flat L).drop (k * 9) := by
  induction L generalizing k with
  | nil => simp [flat]
  | cons f L ih =>
    cases k with
    | zero => simp [flat]
    | succ k => rw [List.drop_succ_cons, flat_cons, ih, List.drop_append, famCs_len, List.drop_of_length_le (l := (famCs f).toList) (by rw [famCs_len]; omega), show (k + 1) * 9 - 9 = k * 9 by omega, List.nil_append]
theorem flat_one {L : List Fam} {u : Value} (h : u ∈ flat L) : u.oneCell' = true := by
  obtain ⟨f, _, hu⟩ := List.mem_flatMap.1 h
  simp only [famCs, List.mem_cons, List.not_mem_nil, or_false] at hu
  rcases hu with rfl | rfl | rfl | rfl | rfl | rfl | rfl | rfl | rfl <;> rfl

/-- v is a slice of the call's own (nil or not) that holds these families -/
def FRow (w : World) (B : Nat) (v : Value) (L : List Fam) : Prop := w.ownsRow B 23 9 v L.length (flat L)
theorem FRow.nil (w : World) (B : Nat) : FRow w B (.slice none 0 0) [] := World.ownsRow_nil _ _ _ _
section
variable {w w' : World} {B : Nat} {v : Value} {L : List Fam}
theorem FRow.below (h : FRow w B v L) (hb : Below w.heap.size w w') : FRow w' B v L := h.kept (only_of_below hb (some w.heap.size)) (.inr (fun he => by have := (h.lt _ he).2; omega))
theorem FRow.mono {B' : Nat} (h : FRow w B v L) (hB : B' ≤ B) : FRow w B' v L := World.ownsRow.mono h hB
theorem FRow.kept (h : FRow w B v L) {row : Option Nat} (hg : w.grownBy w' row) (hne : v.ownBlock ≠ row) : FRow w' B v L := World.ownsRow.kept h hg (.inr hne)
/-- nil, or a block whose first cells they are -/
theorem FRow.parts (h : FRow w B v L) : (v = .slice none 0 0 ∧ L = []) ∨ ∃ g cap, v = .slice (some ⟨g, 0, none⟩) L.length cap ∧ B ≤ g ∧ g < w.heap.size ∧ L.length ≤ cap ∧ cap ≤ 9223372036854775807 ∧
    (∀ j, w.frozen? ⟨g, j, none⟩ = false) ∧ (∀ j, j < cap * 9 → (w.cell? ⟨g, j, none⟩).isSome = true) ∧ (∀ j, j < L.length * 9 → w.cell? ⟨g, j, none⟩ = (flat L)[j]?) := by
  rcases h.2 with ⟨rfl, h0⟩ | ⟨g, cap, cur, rfl, hB, hb, hn, hm, hc, ht⟩
  · exact .inl ⟨rfl, List.eq_nil_of_length_eq_zero h0⟩
  · have hlt : g < w.heap.size := by
      rcases Nat.lt_or_ge g w.heap.size with h' | h'
      · exact h'
      · rw [Array.getElem?_eq_none h'] at hb; cases hb
    refine .inr ⟨g, cap, rfl, hB, hlt, hn, by unfold maxLen at hm; exact hm, fun j => by simp [World.frozen?, hb], fun j hj => ?_, fun j hj => ?_⟩
    · rw [cell_of_row w g j cur _ (0, 0) hb, Array.getElem?_eq_getElem (by omega)]
      rfl
    · rw [cell_of_row w g j cur _ (0, 0) hb, ← ht, List.getElem?_take, if_pos hj, Array.getElem?_toList]
/-- one family's cells -/
theorem FRow.at_ {g cap : Nat} (h : FRow w B (.slice (some ⟨g, 0, none⟩) L.length cap) L) {i : Nat} {f : Fam} (hi : L[i]? = some f) (j : Nat) (hj : j < 9) : w.cell? ⟨g, i * 9 + j, none⟩ = (famCs f)[j]? := by
  have hil := (List.getElem?_eq_some_iff.1 hi).1
  rcases h.parts with ⟨e, _⟩ | ⟨g', cap', e, _, _, _, _, _, _, hc⟩
  · simp at e
  · simp only [Value.slice.injEq, Option.some.injEq, Addr.mk.injEq, and_true, true_and] at e
    obtain ⟨rfl, rfl⟩ := e
    rw [hc _ (by omega), flat_get hi j hj]
end
theorem famInfo : (Tryz.prog.info? 23).map (fun i => (i.zero, i.size, i.bytes)) = some (some (.agg (famCs Fam.zero)), 9, 104) := by kernel_rfl

set_option maxHeartbeats 2000000 in
set_option maxRecDepth 100000 in
theorem fam_clone (B : Nat) (v : Value) (L : List Fam) (w : World) (h : FRow w B v L) (hL : L.length ≤ 1000000) :
    Calls Tryz.prog 35 #[v] w fun e w' => ∃ v', e = .returned v' ∧ FRow w' w.heap.size v' L ∧ Below w.heap.size w w' := by
  obtain ⟨i0, hii, hz0, hz1, hz2⟩ := info_parts famInfo
  have q44 : ∀ (w : World) (a : Option Addr) (n c n' c' : Nat), (binOp .eql 44 (.slice a n c) (.slice none n' c')).run Tryz.prog w = .ok (.bool a.isNone) w := fun w a n c n' c' => Lib.run_eql_slice_nil w _ _ a n c n' c' Tryz.underlying44
  rcases h.parts with ⟨rfl, rfl⟩ | ⟨g, cap, rfl, h1, h2, h3, h4, h5, h6, h7⟩
  · go_enter Tryz.func35, Tryz.ntmps35
    go_wp2_with fail
    go_ret
    exact ⟨_, rfl, FRow.nil _ _, Below.refl _ _⟩
  · have hown : (w.alloc (.cells #[] 23)).ownsRow w.heap.size 23 9 (.slice (some ⟨w.heap.size, 0, none⟩) 0 0) 0 [] :=
      ⟨rfl, .inr ⟨w.heap.size, 0, #[], rfl, Nat.le_refl _, heap_alloc_new w _, Nat.le_refl _, Nat.zero_le _, rfl, rfl⟩⟩
    have hl := flat_len L
    have hnews : ∀ j u, (flat L)[j]? = some u → (w.alloc (.cells #[] 23)).cell? ((⟨g, 0, none⟩ : Addr).add j) = some u := by
      intro j u hj
      have hjl := (List.getElem?_eq_some_iff.1 hj).1
      rw [Addr.add_lit, Nat.zero_add, World.cell?_alloc_past (w := w) _ g j h2, h7 j (by omega), hj]
    have HO := Lib.hid hown
    have HN := Lib.hid hnews
    have HL := Lib.hid hl
    clear hown hnews hl h h5 h6 h7
    go_enter Tryz.func35, Tryz.ntmps35
    go_wp2_with
      (at_builtin; refine wpList_append_own _ rfl _ _ 44 rfl w.heap.size 23 i0 (.agg (famCs Fam.zero)) 9 104 Tryz.underlying44 hii hz0 hz1 hz2 rfl (by decide) _ 0 [] rfl HO.out ⟨g, 0, none⟩ L.length cap (flat L) rfl HL.out HN.out (fun x hx => flat_one hx) (by unfold maxLen; omega) (by omega) (by simp) ?_; intro v' w3 hown hgrow hnil
       have HO3 := Lib.hid hown
       have HG := Lib.hid hgrow
       clear hown hgrow hnil)
    go_ret
    refine ⟨_, rfl, ?_, ?_⟩
    · have := HO3.out
      rw [Nat.zero_add, List.nil_append] at this
      exact this
    · have b1 : Below w.heap.size w (w.alloc (.cells #[] 23)) := (Below.refl _ _).alloc (Nat.le_refl _) _
      exact below_of_only b1 HG.out (Nat.le_refl _) b1.size
end Go.Proofs.YtklpmoimckblcaaGreatDoor
