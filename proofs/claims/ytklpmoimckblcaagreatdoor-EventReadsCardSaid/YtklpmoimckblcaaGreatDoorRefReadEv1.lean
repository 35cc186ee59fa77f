/-
  The reference's ReadEvent: what its end knows.
-/
import Derived.Test.YtklpmoimckblcaaGreatDoorRefReadEv
import Derived.Test.YtklpmoimckblcaaGreatDoorEvOpen
namespace Go.Proofs.YtklpmoimckblcaaGreatDoor
open Go.RowKit Go.Sort

/-- what is known at the end of the reference's ReadEvent -/
structure RZ (W : World) (eb : Nat) (e : Ev) (w : World) : Prop where
  base : WB W W
  below : Below W.heap.size W w
  res : Blk w W.heap.size 30 (evCs Ev.zero)
  ev : Blk w eb 30 (evCs e)
  lt : W.heap.size < eb
theorem RZ.wb {W w : World} {eb : Nat} {e : Ev} (h : RZ W eb e w) : WB W w := h.base.keep h.below
theorem RZ.keep {W w w' : World} {eb : Nat} {e : Ev} (h : RZ W eb e w) (hb : Below w.heap.size w w') : RZ W eb e w' := ⟨h.base, below_2 h.below hb, h.res.below' hb, h.ev.below' hb, h.lt⟩
theorem RZ.facts {W w : World} {eb : Nat} {e : Ev} (h : RZ W eb e w) : (∀ i, w.cell? ⟨eb, i, none⟩ = (evCs e)[i]?) ∧ (∀ i, w.cell? ⟨W.heap.size, i, none⟩ = (evCs Ev.zero)[i]?) ∧ (∀ i, w.frozen? ⟨W.heap.size, i, none⟩ = false) := ⟨h.ev.cell, h.res.cell, h.res.frozen⟩
theorem RV.toZ {W w : World} {wb eb g cap : Nat} {L : List (List UInt8)} (h : RV W wb eb L g cap w) (e' : Ev) : RZ W eb e' ((((((((((((w.setCell ⟨eb, 0, none⟩ (.int .i64 e'.kind)).setCell ⟨eb, 1, none⟩ (.int .i64 e'.fam.id)).setCell ⟨eb, 2, none⟩ (.string e'.fam.client)).setCell ⟨eb, 3, none⟩ (.string e'.fam.subject)).setCell ⟨eb, 4, none⟩ (.string e'.fam.scope)).setCell ⟨eb, 5, none⟩ (.int .i64 e'.fam.gen)).setCell ⟨eb, 6, none⟩ (.int .i64 e'.fam.made)).setCell ⟨eb, 7, none⟩ (.int .i64 e'.fam.used)).setCell ⟨eb, 8, none⟩ (.string e'.fam.request)).setCell ⟨eb, 9, none⟩ (.bool e'.fam.dead)).setCell ⟨eb, 10, none⟩ (.int .i64 e'.id)).setCell ⟨eb, 11, none⟩ (.int .i64 e'.time)) := by
  have hp := h.put12 (.int .i64 e'.kind) (.int .i64 e'.fam.id) (.string e'.fam.client) (.string e'.fam.subject) (.string e'.fam.scope) (.int .i64 e'.fam.gen) (.int .i64 e'.fam.made) (.int .i64 e'.fam.used) (.string e'.fam.request) (.bool e'.fam.dead) (.int .i64 e'.id) (.int .i64 e'.time)
  have hl : W.heap.size < eb := by have := h.n1; have := h.n2; omega
  refine ⟨h.base, hp.below, hp.res, ?_, hl⟩
  obtain ⟨cs, h1, h2⟩ := h.ev
  obtain ⟨c0, c1, c2, c3, c4, c5, c6, c7, c8, c9, c10, c11, rfl⟩ := array12 h1
  have k0 := h2.at_ 0 (.int .i64 e'.kind) (cs' := #[.int .i64 e'.kind, c1, c2, c3, c4, c5, c6, c7, c8, c9, c10, c11]) rfl
  have k1 := k0.at_ 1 (.int .i64 e'.fam.id) (cs' := #[.int .i64 e'.kind, .int .i64 e'.fam.id, c2, c3, c4, c5, c6, c7, c8, c9, c10, c11]) rfl
  have k2 := k1.at_ 2 (.string e'.fam.client) (cs' := #[.int .i64 e'.kind, .int .i64 e'.fam.id, .string e'.fam.client, c3, c4, c5, c6, c7, c8, c9, c10, c11]) rfl
  have k3 := k2.at_ 3 (.string e'.fam.subject) (cs' := #[.int .i64 e'.kind, .int .i64 e'.fam.id, .string e'.fam.client, .string e'.fam.subject, c4, c5, c6, c7, c8, c9, c10, c11]) rfl
  have k4 := k3.at_ 4 (.string e'.fam.scope) (cs' := #[.int .i64 e'.kind, .int .i64 e'.fam.id, .string e'.fam.client, .string e'.fam.subject, .string e'.fam.scope, c5, c6, c7, c8, c9, c10, c11]) rfl
  have k5 := k4.at_ 5 (.int .i64 e'.fam.gen) (cs' := #[.int .i64 e'.kind, .int .i64 e'.fam.id, .string e'.fam.client, .string e'.fam.subject, .string e'.fam.scope, .int .i64 e'.fam.gen, c6, c7, c8, c9, c10, c11]) rfl
  have k6 := k5.at_ 6 (.int .i64 e'.fam.made) (cs' := #[.int .i64 e'.kind, .int .i64 e'.fam.id, .string e'.fam.client, .string e'.fam.subject, .string e'.fam.scope, .int .i64 e'.fam.gen, .int .i64 e'.fam.made, c7, c8, c9, c10, c11]) rfl
  have k7 := k6.at_ 7 (.int .i64 e'.fam.used) (cs' := #[.int .i64 e'.kind, .int .i64 e'.fam.id, .string e'.fam.client, .string e'.fam.subject, .string e'.fam.scope, .int .i64 e'.fam.gen, .int .i64 e'.fam.made, .int .i64 e'.fam.used, c8, c9, c10, c11]) rfl
  have k8 := k7.at_ 8 (.string e'.fam.request) (cs' := #[.int .i64 e'.kind, .int .i64 e'.fam.id, .string e'.fam.client, .string e'.fam.subject, .string e'.fam.scope, .int .i64 e'.fam.gen, .int .i64 e'.fam.made, .int .i64 e'.fam.used, .string e'.fam.request, c9, c10, c11]) rfl
  have k9 := k8.at_ 9 (.bool e'.fam.dead) (cs' := #[.int .i64 e'.kind, .int .i64 e'.fam.id, .string e'.fam.client, .string e'.fam.subject, .string e'.fam.scope, .int .i64 e'.fam.gen, .int .i64 e'.fam.made, .int .i64 e'.fam.used, .string e'.fam.request, .bool e'.fam.dead, c10, c11]) rfl
  have k10 := k9.at_ 10 (.int .i64 e'.id) (cs' := #[.int .i64 e'.kind, .int .i64 e'.fam.id, .string e'.fam.client, .string e'.fam.subject, .string e'.fam.scope, .int .i64 e'.fam.gen, .int .i64 e'.fam.made, .int .i64 e'.fam.used, .string e'.fam.request, .bool e'.fam.dead, .int .i64 e'.id, c11]) rfl
  have k11 := k10.at_ 11 (.int .i64 e'.time) (cs' := #[.int .i64 e'.kind, .int .i64 e'.fam.id, .string e'.fam.client, .string e'.fam.subject, .string e'.fam.scope, .int .i64 e'.fam.gen, .int .i64 e'.fam.made, .int .i64 e'.fam.used, .string e'.fam.request, .bool e'.fam.dead, .int .i64 e'.id, .int .i64 e'.time]) rfl
  exact k11
theorem RV.zero {W w1 : World} {wb eb g cap : Nat} {L : List (List UInt8)} (h : RV W wb eb L g cap w1) (hz : Blk w1 eb 30 (evCs Ev.zero)) : RZ W eb Ev.zero w1 :=
  ⟨h.base, h.below, h.res, hz, by have := h.n1; have := h.n2; omega⟩
theorem cand_short {ps : List (List UInt8)} (h : ∀ x ∈ ps, x.length ≤ 1000) : (cand ps).fam.short 1000 := by
  by_cases h10 : ps.length = 10
  · rcases ps with _ | ⟨x, _ | ⟨a, _ | ⟨b, _ | ⟨c, _ | ⟨d, _ | ⟨e, _ | ⟨f, _ | ⟨g, _ | ⟨i, _ | ⟨j, _ | ⟨k, r⟩⟩⟩⟩⟩⟩⟩⟩⟩⟩⟩
    all_goals first | (simp at h10; done) | skip
    have un : ∀ l : List UInt8, l.length ≤ 1000 → (unL l).length ≤ 1000 := fun l hl => by
      unfold unL
      split
      · simp
      · exact hl
    refine ⟨?_, ?_, ?_, ?_⟩
    · show (txt b).size ≤ 1000
      rw [txt_size]; exact h b (by simp)
    · show (txt c).size ≤ 1000
      rw [txt_size]; exact h c (by simp)
    · show (txt (unL d)).size ≤ 1000
      rw [txt_size]; exact un d (h d (by simp))
    · show (txt (unL i)).size ≤ 1000
      rw [txt_size]; exact un i (h i (by simp))
  · by_cases h2 : ps.length = 2
    · rcases ps with _ | ⟨x, _ | ⟨a, _ | ⟨b, r⟩⟩⟩
      all_goals first | (simp at h2; done) | skip
      show (if x = [100] then (⟨2, Fam.zero, atoiN a, 0⟩ : Ev) else ⟨3, Fam.zero, 0, atoiN a⟩).fam.short 1000
      split
      · exact zero_short
      · exact zero_short
    · rw [cand_odd h10 h2]
      exact zero_short
theorem ref_yes {l : List UInt8} {e : Ev} (he : cand (parts 32 l) = e) (h1 : evB e = true) (h2 : evL e = l) : readE l = e ∧ (if readB l then (0 : Int) else 3) = 0 := by
  have : readB l = true := readB_iff.2 ⟨by rw [he]; exact h1, by rw [he]; exact h2⟩
  unfold readE
  rw [if_pos this, if_pos this]
  exact ⟨he, rfl⟩
theorem ref_no {l : List UInt8} {e : Ev} (he : cand (parts 32 l) = e) (h : evB e = false ∨ evL e ≠ l) : readE l = Ev.zero ∧ (if readB l then (0 : Int) else 3) = 3 := by
  have : ¬ readB l = true := fun hr => by
    rw [readB_iff, he] at hr
    rcases h with h | h
    · rw [h] at hr; cases hr.1
    · exact h hr.2
  unfold readE
  rw [if_neg this, if_neg this]
  exact ⟨rfl, rfl⟩
theorem line_list (e : Ev) (s : ByteArray) : ((txt (evL e)).toList == s.toList) = decide (evL e = s.data.toList) := by
  rw [toList_txt, ByteArray.toList_eq, Bool.eq_iff_iff]
  simp
/-- what the reference's ReadEvent gives -/
def RefGotE (W : World) (e : Ev) (n : Int) (x : Ending) (w' : World) : Prop := x = .returned (.tuple #[evVal e, .int .i64 n]) ∧ Below W.heap.size W w'
theorem refread_end {W w : World} {A : Act} {e : Ev} {n : Int} (hb : Below W.heap.size W w) (hr : Blk w W.heap.size 30 (evCs e))
    (hp : A.tmps.getD 2 undef = .pointer (some ⟨W.heap.size, 0, none⟩)) (hx : A.tmps.getD 3 undef = .int .i64 n) (hd : A.defers = []) :
    bodyPost Tryz.prog Tryz.f13 (RefGotE W e n) Exit.ret A w :=
  bodyPost_ret (results_row_tmp rfl A.tmps w _ _ _ _ _ hp hx hr Tryz.underlying30 rfl (by kernel_rfl)) hd ⟨rfl, hb⟩
end Go.Proofs.YtklpmoimckblcaaGreatDoor
