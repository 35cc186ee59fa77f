/-
  The reference's ReadEvent: what is known while it reads; its two helpers.
-/
import Derived.Test.YtklpmoimckblcaaGreatDoorEvReadN
import Derived.Test.YtklpmoimckblcaaGreatDoorRefWriteEv2
namespace Go.Proofs.YtklpmoimckblcaaGreatDoor
open Go.RowKit Go.Sort

/-- what a cell holds -/
def cellAt (w : World) (a : Addr) : Value := (w.cell? a).getD undef
/-- what is known while the reference's ReadEvent reads: its words, in a variable of its own; its result's block; its event's block -/
structure RV (W : World) (wb eb : Nat) (L : List (List UInt8)) (g cap : Nat) (w : World) : Prop where
  base : WB W W
  errs0 : ErrVars W
  below : Below W.heap.size W w
  res : Blk w W.heap.size 30 (evCs Ev.zero)
  var : Blk w wb 55 #[.slice (some ⟨g, 0, none⟩) L.length cap]
  row : Row w (W.heap.size + 1) (.slice (some ⟨g, 0, none⟩) L.length cap) L
  ev : ∃ cs : Array Value, cs.size = 12 ∧ Blk w eb 30 cs
  n0 : g < wb
  n1 : W.heap.size < wb
  n2 : wb < eb
  small : ∀ x ∈ L, x.length ≤ 1000
section
variable {W w w' : World} {wb eb g cap : Nat} {L : List (List UInt8)}
theorem RV.wbs (h : RV W wb eb L g cap w) : WB W w := h.base.keep h.below
theorem RV.errs (h : RV W wb eb L g cap w) : ErrVars w := h.errs0.below' h.below
theorem RV.keep (hb : Below w.heap.size w w') (h : RV W wb eb L g cap w) : RV W wb eb L g cap w' := by
  obtain ⟨cs, h1, h2⟩ := h.ev
  exact ⟨h.base, h.errs0, below_2 h.below hb, h.res.below' hb, h.var.below' hb, h.row.below hb, ⟨cs, h1, h2.below' hb⟩, h.n0, h.n1, h.n2, h.small⟩
theorem RV.drew (h : RV W wb eb L g cap w) : RV W wb eb L g cap w.drew := ⟨h.base, h.errs0, ⟨h.below.os, h.below.tape, h.below.output, h.below.size, h.below.block⟩, h.res, h.var, h.row, h.ev, h.n0, h.n1, h.n2, h.small⟩
theorem RV.set (h : RV W wb eb L g cap w) (i : Nat) (u : Value) : RV W wb eb L g cap (w.setCell ⟨eb, i, none⟩ u) := by
  obtain ⟨cs, h1, h2⟩ := h.ev
  have hn := h.n0
  have hn1 := h.n1
  have hn2 := h.n2
  have hg := only_setCell (only_refl w (some eb)) (p := ⟨eb, i, none⟩) (.inl rfl) u
  exact ⟨h.base, h.errs0, h.below.setCell (by simp; omega) u, h.res.grown hg (by simp; omega), h.var.grown hg (by simp; omega), h.row.kept hg (by simp [Value.ownBlock]; omega), ⟨_, by rw [Array.size_setIfInBounds]; exact h1, h2.set_ i u⟩, hn, hn1, hn2, h.small⟩
theorem RV.put12 (h : RV W wb eb L g cap w) (u0 u1 u2 u3 u4 u5 u6 u7 u8 u9 u10 u11 : Value) : RV W wb eb L g cap ((((((((((((w.setCell ⟨eb, 0, none⟩ u0).setCell ⟨eb, 1, none⟩ u1).setCell ⟨eb, 2, none⟩ u2).setCell ⟨eb, 3, none⟩ u3).setCell ⟨eb, 4, none⟩ u4).setCell ⟨eb, 5, none⟩ u5).setCell ⟨eb, 6, none⟩ u6).setCell ⟨eb, 7, none⟩ u7).setCell ⟨eb, 8, none⟩ u8).setCell ⟨eb, 9, none⟩ u9).setCell ⟨eb, 10, none⟩ u10).setCell ⟨eb, 11, none⟩ u11) :=
  (((((((((((h.set 0 u0).set 1 u1).set 2 u2).set 3 u3).set 4 u4).set 5 u5).set 6 u6).set 7 u7).set 8 u8).set 9 u9).set 10 u10).set 11 u11
theorem RV.cellv (h : RV W wb eb L g cap w) : w.cell? ⟨wb, 0, none⟩ = some (.slice (some ⟨g, 0, none⟩) L.length cap) := h.var.cell 0
theorem RV.word (h : RV W wb eb L g cap w) (j : Nat) (hj : j < L.length) : w.cell? ⟨g, j, none⟩ = some (.string (txt (L.getD j []))) := h.row.cell j hj
theorem RV.there (h : RV W wb eb L g cap w) (i : Nat) (hi : i < 12) : w.cell? ⟨eb, i, none⟩ = some (cellAt w ⟨eb, i, none⟩) ∧ w.frozen? ⟨eb, i, none⟩ = false := by
  obtain ⟨cs, h1, h2⟩ := h.ev
  refine ⟨?_, h2.frozen i⟩
  unfold cellAt
  rw [h2.cell i, Array.getElem?_eq_getElem (by omega)]
  rfl
theorem RV.le (h : RV W wb eb L g cap w) : L.length ≤ cap ∧ cap ≤ 9223372036854775807 := by
  obtain ⟨g', cap', e, _, _, h3, h4, _⟩ := h.row.parts
  simp only [Value.slice.injEq, true_and] at e
  obtain ⟨_, rfl⟩ := e
  exact ⟨h3, h4⟩
end
theorem RV.start {W w1 : World} {g cap : Nat} {L : List (List UInt8)} (h0 : WB W W) (he : ErrVars W) (hs : ∀ x ∈ L, x.length ≤ 1000) (hr : Row w1 (W.heap.size + 1) (.slice (some ⟨g, 0, none⟩) L.length cap) L)
    (hb : Below (W.heap.size + 1) (W.alloc (.cells (evCs Ev.zero) 30)) w1) :
    RV W w1.heap.size (w1.heap.size + 1) L g cap ((w1.alloc (.cells #[.slice (some ⟨g, 0, none⟩) L.length cap] 55)).alloc (.cells (evCs Ev.zero) 30)) := by
  have hz : (W.alloc (.cells (evCs Ev.zero) 30)).heap.size = W.heap.size + 1 := by simp
  have b0 : Below W.heap.size W (W.alloc (.cells (evCs Ev.zero) 30)) := (Below.refl _ _).alloc (Nat.le_refl _) _
  have b1 : Below W.heap.size W w1 := b0.trans (hb.mono (by omega))
  have hlt : W.heap.size < w1.heap.size := by have := hb.size; rw [hz] at this; omega
  have b2 : Below w1.heap.size w1 ((w1.alloc (.cells #[.slice (some ⟨g, 0, none⟩) L.length cap] 55)).alloc (.cells (evCs Ev.zero) 30)) := alloc2 _ _ _
  obtain ⟨g', cap', e, h1, h2, h3, h4, _⟩ := hr.parts
  simp only [Value.slice.injEq, Option.some.injEq, Addr.mk.injEq, and_true, true_and] at e
  obtain ⟨rfl, rfl⟩ := e
  have hb' := b1.trans (b2.mono b1.size)
  refine ⟨h0, he, hb', ?_, (Blk.new w1 _ _).alloc _, hr.below b2, ⟨evCs Ev.zero, rfl, ?_⟩, h2, hlt, Nat.lt_succ_self _, hs⟩
  · have h5 := (Blk.new W 30 (evCs Ev.zero)).below hb (by omega)
    exact h5.below' b2
  · have h6 := Blk.new (w1.alloc (.cells #[.slice (some ⟨g, 0, none⟩) L.length cap] 55)) 30 (evCs Ev.zero)
    simpa using h6
theorem refread_start (s : ByteArray) (W : World) (hs : s.size ≤ 1000) (h : WB W W) (he : ErrVars W) :
    Calls Tryz.prog 28 #[.string s, .string ⟨#[32]⟩] (W.alloc (.cells (evCs Ev.zero) 30)) fun x w1 => ∃ g cap, x = .returned (.slice (some ⟨g, 0, none⟩) (parts 32 s.data.toList).length cap) ∧
      RV W w1.heap.size (w1.heap.size + 1) (parts 32 s.data.toList) g cap ((w1.alloc (.cells #[.slice (some ⟨g, 0, none⟩) (parts 32 s.data.toList).length cap] 55)).alloc (.cells (evCs Ev.zero) 30)) := by
  have hz : (W.alloc (.cells (evCs Ev.zero) 30)).heap.size = W.heap.size + 1 := by simp
  have hb0 : Below W.heap.size W (W.alloc (.cells (evCs Ev.zero) 30)) := (Below.refl _ _).alloc (Nat.le_refl _) _
  have hsm : ∀ x ∈ parts 32 s.data.toList, x.length ≤ 1000 := parts_word_len 32 _ _ (by rw [size_data]; exact hs)
  refine (split_row 32 s (W.heap.size + 1) (W.alloc (.cells (evCs Ev.zero) 30)) (by omega) (h.maxl.below hb0 h.maxl.lt) (by omega)).mono ?_
  rintro x w1 ⟨v, rfl, hr, hb⟩
  obtain ⟨g, cap, rfl, _⟩ := id hr
  exact ⟨g, cap, rfl, RV.start h he hsm hr (by rw [← hz]; exact hb)⟩
theorem getD_mem {L : List (List UInt8)} {j : Nat} (hj : j < L.length) : L.getD j [] ∈ L := by
  rw [List.getD_eq_getElem?_getD, List.getElem?_eq_getElem hj]
  exact List.getElem_mem hj

set_option maxHeartbeats 1000000 in
theorem rv_num {W w : World} {wb eb g cap : Nat} {L : List (List UInt8)} (k : Nat) (hk : k < L.length) (h : RV W wb eb L g cap w) :
    Calls Tryz.prog 29 #[.int .i64 k, .pointer (some ⟨wb, 0, none⟩)] w fun e w' => e = .returned (.int .i64 (atoiN (L.getD k []))) ∧ Below w.heap.size w w' := by
  have c0 := h.cellv
  have c1 := h.word k hk
  obtain ⟨l1, l2⟩ := h.le
  have hz : (txt (L.getD k [])).size ≤ 1000000 := by rw [txt_size]; have := h.small _ (getD_mem hk); omega
  have hdat : (txt (L.getD k [])).data.toList = L.getD k [] := data_txt _
  have HAY := fun w (h : atoiE (L.getD k []) = true) => atoi_yes (txt (L.getD k [])) w hz (by rw [hdat]; exact h)
  have HAN := fun w hv (h : atoiE (L.getD k []) = false) => atoi_no (txt (L.getD k [])) w hz hv (by rw [hdat]; exact h)
  have HE := Lib.hid h.errs
  rw [hdat] at HAY HAN
  clear hdat h
  generalize L.getD k [] = x at *
  generalize txt x = y at *
  generalize atoiN x = n at *
  cases hE : atoiE x
  · have HA := Lib.hid (fun w hv => HAN w hv hE)
    clear HAY HAN hE
    go_enter Tryz.func29, Tryz.ntmps29
    go_wp2_with (go_at_call 30; refine (HA.out _ HE.out).mono ?_; rintro e w2 ⟨⟨te, pe, rfl⟩, hb⟩; have HB := Lib.hid hb; clear hb)
    go_ret
    exact ⟨rfl, HB.out⟩
  · have HA := Lib.hid (fun w => HAY w hE)
    clear HAY HAN hE
    go_enter Tryz.func29, Tryz.ntmps29
    go_wp2_with (go_at_call 30; refine (HA.out _).mono ?_; rintro e w2 ⟨rfl, hb⟩; have HB := Lib.hid hb; clear hb)
    go_ret
    exact ⟨rfl, HB.out⟩
set_option maxHeartbeats 1000000 in
theorem rv_text {W w : World} {wb eb g cap : Nat} {L : List (List UInt8)} (k : Nat) (hk : k < L.length) (h : RV W wb eb L g cap w) :
    Calls Tryz.prog 31 #[.int .i64 k, .pointer (some ⟨wb, 0, none⟩)] w fun e w' => e = .returned (.string (txt (unL (L.getD k [])))) ∧ w = w' := by
  have c0 := h.cellv
  have c1 := h.word k hk
  obtain ⟨l1, l2⟩ := h.le
  have e1 := under_list (L.getD k [])
  clear h
  generalize L.getD k [] = x at *
  by_cases h95 : x = [95]
  · have HU := Lib.hid (show txt (unL x) = ⟨#[]⟩ by unfold unL; rw [if_pos h95]; rfl)
    rw [show decide (x = [95]) = true by simpa using h95] at e1
    clear h95
    generalize txt (unL x) = u at *
    generalize txt x = y at *
    go_enter Tryz.func31, Tryz.ntmps31
    go_wp2_with fail
    go_ret
    exact ⟨by rw [HU.out]; rfl, rfl⟩
  · have HU := Lib.hid (show txt (unL x) = txt x by unfold unL; rw [if_neg h95])
    rw [show decide (x = [95]) = false by simpa using h95] at e1
    clear h95
    generalize txt (unL x) = u at *
    generalize txt x = y at *
    go_enter Tryz.func31, Tryz.ntmps31
    go_wp2_with fail
    go_ret
    exact ⟨by rw [HU.out]; rfl, rfl⟩
end Go.Proofs.YtklpmoimckblcaaGreatDoor
