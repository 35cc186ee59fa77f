/-
  word, by the program and by the reference; strings.Join of ten new words; what is known while an event is written.
-/
import Derived.Test.YtklpmoimckblcaaGreatDoorRefMay2
import Derived.Test.YtklpmoimckblcaaGreatDoorEvRight2
import Derived.Test.YtklpmoimckblcaaGreatDoorItoa
import Derived.Deep.RegionHeld3
namespace Go.Proofs.YtklpmoimckblcaaGreatDoor
open Go.RowKit Go.Sort

theorem wordL_txt (s : ByteArray) : s.toList.isEmpty = true → txt (wordL s.data.toList) = ⟨#[95]⟩ := by
  intro h
  rw [empty_list, decide_eq_true_eq] at h
  rw [h]
  rfl
theorem wordL_same (s : ByteArray) : s.toList.isEmpty = false → txt (wordL s.data.toList) = s := by
  intro h
  rw [empty_list, decide_eq_false_iff_not] at h
  unfold wordL
  rw [if_neg h, txt_data]
theorem ev_word (s : ByteArray) (w : World) : Calls Tryz.prog 24 #[.string s] w fun e w' => e = .returned (.string (txt (wordL s.data.toList))) ∧ w = w' := by
  cases h : s.toList.isEmpty
  · have H := Lib.hid (wordL_same s h)
    go_enter Tryz.func24, Tryz.ntmps24
    go_wp2_with fail
    go_ret
    exact ⟨by rw [H.out]; rfl, rfl⟩
  · have H := Lib.hid (wordL_txt s h)
    go_enter Tryz.func24, Tryz.ntmps24
    go_wp2_with fail
    go_ret
    exact ⟨by rw [H.out]; rfl, rfl⟩
theorem ref_word (s : ByteArray) (w : World) : Calls Tryz.prog 20 #[.string s] w fun e w' => e = .returned (.string (txt (wordL s.data.toList))) ∧ w = w' := by
  cases h : s.toList.isEmpty
  · have H := Lib.hid (wordL_same s h)
    go_enter Tryz.func20, Tryz.ntmps20
    go_wp2_with fail
    go_ret
    exact ⟨by rw [H.out]; rfl, rfl⟩
  · have H := Lib.hid (wordL_txt s h)
    go_enter Tryz.func20, Tryz.ntmps20
    go_wp2_with fail
    go_ret
    exact ⟨by rw [H.out]; rfl, rfl⟩

theorem glue_length (c : UInt8) (n : Nat) : ∀ ws : List (List UInt8), (∀ w ∈ ws, w.length ≤ n) → (glue c ws).length ≤ (n + 1) * ws.length
  | [], _ => by simp [glue]
  | [w], h => by have := h w (by simp); simp [glue]; omega
  | w :: v :: r, h => by
    have := h w (by simp)
    have ih := glue_length c n (v :: r) fun x hx => h x (List.mem_cons_of_mem _ hx)
    rw [glue]
    simp only [List.length_append, List.length_cons, Nat.mul_add] at ih ⊢
    omega
theorem join_new (c : UInt8) (w : World) (L : List (List UInt8)) (hL : L.length ≤ 1000) (hw : ∀ x ∈ L, x.length ≤ 900) :
    Calls Tryz.prog 23 #[.slice (some ⟨w.heap.size, 0, none⟩) L.length L.length, .string ⟨#[c]⟩] (w.alloc (.cells (L.map encStr).toArray 9)) fun e w' => e = .returned (.string (txt (glue c L))) ∧ Below (w.alloc (.cells (L.map encStr).toArray 9)).heap.size (w.alloc (.cells (L.map encStr).toArray 9)) w' := by
  have hg := glue_length c 900 L hw
  exact join_row c (Row.new (w := w) (L := L) (Nat.le_refl _) (by unfold maxLen; omega)) (by omega) (by omega)
theorem enc_data (s : ByteArray) : encStr s.data.toList = .string s := by unfold encStr; congr 1
theorem join_ten (w : World) (a b c d e f g h i j : ByteArray) (z : a.size ≤ 900 ∧ b.size ≤ 900 ∧ c.size ≤ 900 ∧ d.size ≤ 900 ∧ e.size ≤ 900 ∧ f.size ≤ 900 ∧ g.size ≤ 900 ∧ h.size ≤ 900 ∧ i.size ≤ 900 ∧ j.size ≤ 900) :
    Calls Tryz.prog 23 #[.slice (some ⟨w.heap.size, 0, none⟩) 10 10, .string ⟨#[32]⟩] (w.alloc (.cells #[.string a, .string b, .string c, .string d, .string e, .string f, .string g, .string h, .string i, .string j] 9))
      fun x w' => x = .returned (.string (txt (glue 32 [a.data.toList, b.data.toList, c.data.toList, d.data.toList, e.data.toList, f.data.toList, g.data.toList, h.data.toList, i.data.toList, j.data.toList]))) ∧ Below (w.alloc (.cells #[.string a, .string b, .string c, .string d, .string e, .string f, .string g, .string h, .string i, .string j] 9)).heap.size (w.alloc (.cells #[.string a, .string b, .string c, .string d, .string e, .string f, .string g, .string h, .string i, .string j] 9)) w' := by
  have hj := join_new 32 w [a.data.toList, b.data.toList, c.data.toList, d.data.toList, e.data.toList, f.data.toList, g.data.toList, h.data.toList, i.data.toList, j.data.toList] (show 10 ≤ 1000 by decide) (by
    intro x hx
    simp only [List.mem_cons, List.not_mem_nil, or_false] at hx
    rcases hx with rfl | rfl | rfl | rfl | rfl | rfl | rfl | rfl | rfl | rfl
    all_goals rw [size_data]; omega)
  simp only [List.map_cons, List.map_nil, enc_data] at hj
  exact hj

/-- the number table, and that nothing of the caller's has turned -/
structure WB (W w : World) : Prop where
  below : Below W.heap.size W w
  tens : Tens w
  maxl : MaxL w
theorem WB.keep {W w w' : World} (h : WB W w) (hb : Below w.heap.size w w') : WB W w' := ⟨below_2 h.below hb, h.tens.below hb h.tens.lt, h.maxl.below' hb⟩
theorem WB.drew {W w : World} (h : WB W w) : WB W w.drew := ⟨⟨h.below.os, h.below.tape, h.below.output, h.below.size, h.below.block⟩, h.tens, h.maxl⟩
theorem keep_fam {W w w' : World} {g : Nat} {v0 v1 v2 v3 v4 v5 v6 v7 : Value} (h0 : w.cell? ⟨g, 0, none⟩ = some v0) (h1 : w.cell? ⟨g, 1, none⟩ = some v1) (h2 : w.cell? ⟨g, 2, none⟩ = some v2) (h3 : w.cell? ⟨g, 3, none⟩ = some v3)
    (h4 : w.cell? ⟨g, 4, none⟩ = some v4) (h5 : w.cell? ⟨g, 5, none⟩ = some v5) (h6 : w.cell? ⟨g, 6, none⟩ = some v6) (h7 : w.cell? ⟨g, 7, none⟩ = some v7) (hW : WB W w) (hb : Below w.heap.size w w') :
    w'.cell? ⟨g, 0, none⟩ = some v0 ∧ w'.cell? ⟨g, 1, none⟩ = some v1 ∧ w'.cell? ⟨g, 2, none⟩ = some v2 ∧ w'.cell? ⟨g, 3, none⟩ = some v3 ∧ w'.cell? ⟨g, 4, none⟩ = some v4 ∧ w'.cell? ⟨g, 5, none⟩ = some v5 ∧ w'.cell? ⟨g, 6, none⟩ = some v6 ∧ w'.cell? ⟨g, 7, none⟩ = some v7 ∧ WB W w' := by
  have hlt : g < w.heap.size := World.block_lt_of_cell? w _ h0
  refine ⟨?_, ?_, ?_, ?_, ?_, ?_, ?_, ?_, hW.keep hb⟩
  · rw [hb.cell (p := ⟨g, 0, none⟩) hlt]; exact h0
  · rw [hb.cell (p := ⟨g, 1, none⟩) hlt]; exact h1
  · rw [hb.cell (p := ⟨g, 2, none⟩) hlt]; exact h2
  · rw [hb.cell (p := ⟨g, 3, none⟩) hlt]; exact h3
  · rw [hb.cell (p := ⟨g, 4, none⟩) hlt]; exact h4
  · rw [hb.cell (p := ⟨g, 5, none⟩) hlt]; exact h5
  · rw [hb.cell (p := ⟨g, 6, none⟩) hlt]; exact h6
  · rw [hb.cell (p := ⟨g, 7, none⟩) hlt]; exact h7
end Go.Proofs.YtklpmoimckblcaaGreatDoor
