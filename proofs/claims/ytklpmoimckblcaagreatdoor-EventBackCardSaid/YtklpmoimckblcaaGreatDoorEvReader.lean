/-
  event's reader: next, num, text.
-/
import Derived.Test.YtklpmoimckblcaaGreatDoorEvRead
import Derived.Test.YtklpmoimckblcaaGreatDoorEvWord
import Derived.Test.YtklpmoimckblcaaGreatDoorAtoi
namespace Go.Proofs.YtklpmoimckblcaaGreatDoor
open Go.RowKit Go.Sort

/-- v is a slice that holds these words, beside the block rb -/
def WordsOf (w : World) (rb : Nat) (v : Value) (ws : List (List UInt8)) : Prop :=
  ∃ g o cap, v = .slice (some ⟨g, o, none⟩) ws.length cap ∧ ws.length ≤ cap ∧ cap ≤ 9223372036854775807 ∧ g < rb ∧ ∀ j, j < ws.length → w.cell? ⟨g, o + j, none⟩ = some (.string (txt (ws.getD j [])))
theorem WordsOf.below {w w' : World} {rb : Nat} {v : Value} {ws : List (List UInt8)} (h : WordsOf w rb v ws) (hb : Below w.heap.size w w') : WordsOf w' rb v ws := by
  obtain ⟨g, o, cap, rfl, h1, h2, h3, h4⟩ := h
  refine ⟨g, o, cap, rfl, h1, h2, h3, fun j hj => ?_⟩
  have hc := h4 j hj
  rw [hb.cell (p := ⟨g, o + j, none⟩) (World.block_lt_of_cell? w _ hc)]
  exact hc
theorem WordsOf.set {w : World} {rb i : Nat} {v u : Value} {ws : List (List UInt8)} (h : WordsOf w rb v ws) : WordsOf (w.setCell ⟨rb, i, none⟩ u) rb v ws := by
  obtain ⟨g, o, cap, rfl, h1, h2, h3, h4⟩ := h
  refine ⟨g, o, cap, rfl, h1, h2, h3, fun j hj => ?_⟩
  rw [World.cell?_setCell_other _ _ _ _ (by simp <;> omega)]
  exact h4 j hj
theorem WordsOf.other {w w' : World} {rb eb : Nat} {v : Value} {ws : List (List UInt8)} (h : WordsOf w rb v ws) (hg : w.grownBy w' (some eb)) (he : rb ≤ eb) : WordsOf w' rb v ws := by
  obtain ⟨g, o, cap, rfl, h1, h2, h3, h4⟩ := h
  refine ⟨g, o, cap, rfl, h1, h2, h3, fun j hj => ?_⟩
  have hc := h4 j hj
  have hb := hg.block g (World.block_lt_of_cell? w _ hc) (by simp; omega)
  rw [← hc]
  simp only [World.cell?, hb]
/-- a reader's block -/
structure RdAt (w : World) (rb : Nat) (st : Rd) : Prop where
  ex : ∃ v, Blk w rb 66 #[v, .bool st.2] ∧ WordsOf w rb v st.1
  small : ∀ x ∈ st.1, x.length ≤ 1000
theorem RdAt.below {w w' : World} {rb : Nat} {st : Rd} (h : RdAt w rb st) (hb : Below w.heap.size w w') : RdAt w' rb st := by
  obtain ⟨⟨v, h1, h2⟩, h3⟩ := h
  exact ⟨⟨v, h1.below' hb, h2.below hb⟩, h3⟩
theorem RdAt.other {w w' : World} {rb eb : Nat} {st : Rd} (h : RdAt w rb st) (hg : w.grownBy w' (some eb)) (he : rb < eb) : RdAt w' rb st := by
  obtain ⟨⟨v, h1, h2⟩, h3⟩ := h
  exact ⟨⟨v, h1.grown hg (by simp; omega), h2.other hg (by omega)⟩, h3⟩
theorem RdAt.bad {w : World} {rb : Nat} {st : Rd} (h : RdAt w rb st) (b : Bool) : RdAt (w.setCell ⟨rb, 1, none⟩ (.bool b)) rb (st.1, b) := by
  obtain ⟨⟨v, h1, h2⟩, h3⟩ := h
  exact ⟨⟨v, h1.set_ 1 (.bool b), h2.set⟩, h3⟩
theorem RdAt.cut {W : World} {rb g o o' cap' : Nat} {v : Value} {x : List UInt8} {r : List (List UInt8)} {b : Bool} (hB : Blk W rb 66 #[v, .bool b]) (h3 : g < rb)
    (h4 : ∀ j, j < (x :: r).length → W.cell? ⟨g, o + j, none⟩ = some (.string (txt ((x :: r).getD j [])))) (hs : ∀ y ∈ x :: r, y.length ≤ 1000) (hc : r.length ≤ cap') (hm : cap' ≤ 9223372036854775807) (ho : r.length = 0 ∨ o' = o + 1) :
    RdAt (W.setCell ⟨rb, 0, none⟩ (.slice (some ⟨g, o', none⟩) r.length cap')) rb (r, b) := by
  refine ⟨⟨_, hB.set_ 0 _, g, o', cap', rfl, hc, hm, h3, fun j hj => ?_⟩, fun y hy => hs y (List.mem_cons_of_mem _ hy)⟩
  rw [World.cell?_setCell_other _ _ _ _ (by simp <;> omega)]
  have e : o' = o + 1 := ho.resolve_left (by have : j < r.length := hj; omega)
  have := h4 (j + 1) (by simpa using hj)
  rw [e, show o + 1 + j = o + (j + 1) by omega, this]
  rfl
theorem nextV_len {st : Rd} (h : ∀ x ∈ st.1, x.length ≤ 1000) : (nextV st).length ≤ 1000 := by
  obtain ⟨ws, b⟩ := st
  cases ws with
  | nil => simp [nextV]
  | cons x r => exact h x (by simp)

set_option maxHeartbeats 1000000 in
theorem rd_next (rb : Nat) (st : Rd) (W : World) (h : RdAt W rb st) :
    Calls Tryz.prog 32 #[.pointer (some ⟨rb, 0, none⟩)] W fun e w' => e = .returned (.string (txt (nextV st))) ∧ RdAt w' rb (nextS st) ∧ W.grownBy w' (some rb) := by
  obtain ⟨ws, b⟩ := st
  have HH := Lib.hid h
  obtain ⟨⟨v, hB, hW⟩, hs⟩ := h
  dsimp only at hB hW hs
  have c0 := hB.cell 0
  have c1 := hB.cell 1
  have f0 := hB.frozen 0
  have f1 := hB.frozen 1
  have hlt := hB.lt
  have HB := Lib.hid hB
  clear hB
  cases ws with
  | nil =>
    obtain ⟨g, o, cap, rfl, h1, h2, h3, h4⟩ := hW
    have HG := Lib.hid (only_setCell (only_refl W (some rb)) (p := ⟨rb, 1, none⟩) (.inl rfl) (.bool true))
    have HR := Lib.hid (HH.out.bad true)
    clear h4
    go_enter Tryz.func32, Tryz.ntmps32
    go_wp2_with fail
    go_ret
    exact ⟨rfl, HR.out, HG.out⟩
  | cons x r =>
    obtain ⟨g, o, cap, rfl, h1, h2, h3, h4⟩ := hW
    have hc : W.cell? ⟨g, o, none⟩ = some (.string (txt x)) := by simpa using h4 0 (by simp)
    have HC := Lib.hid h4
    have hl : r.length + 1 ≤ cap := h1
    clear h4 h1
    go_enter Tryz.func32, Tryz.ntmps32
    go_wp2_with fail
    · go_ret
      exact ⟨rfl, RdAt.cut HB.out h3 HC.out hs (by omega) (by omega) (.inl (by omega)), only_setCell (only_refl W (some rb)) (.inl rfl) _⟩
    · go_ret
      exact ⟨rfl, RdAt.cut HB.out h3 HC.out hs (by omega) (by omega) (.inr rfl), only_setCell (only_refl W (some rb)) (.inl rfl) _⟩

/-- what is known while a reader reads -/
structure RS (W : World) (rb : Nat) (st : Rd) (w : World) : Prop where
  base : WB W W
  errs0 : ErrVars W
  below : Below W.heap.size W w
  le : W.heap.size ≤ rb
  rd : RdAt w rb st
section
variable {W w w' : World} {rb : Nat} {st st' : Rd}
theorem RS.wb (h : RS W rb st w) : WB W w := h.base.keep h.below
theorem RS.errs (h : RS W rb st w) : ErrVars w := h.errs0.below' h.below
theorem RS.keep (h : RS W rb st w) (hb : Below w.heap.size w w') : RS W rb st w' := ⟨h.base, h.errs0, below_2 h.below hb, h.le, h.rd.below hb⟩
theorem RS.turn (h : RS W rb st w) (hr : RdAt w' rb st') (hg : w.grownBy w' (some rb)) : RS W rb st' w' := ⟨h.base, h.errs0, below_of_only h.below hg h.le h.below.size, h.le, hr⟩
theorem RS.setBad (h : RS W rb st w) (b : Bool) : RS W rb (st.1, b) (w.setCell ⟨rb, 1, none⟩ (.bool b)) := h.turn (h.rd.bad b) (only_setCell (only_refl w (some rb)) (.inl rfl) _)
theorem RS.cells (h : RS W rb st w) : w.cell? ⟨rb, 1, none⟩ = some (.bool st.2) ∧ w.frozen? ⟨rb, 1, none⟩ = false ∧ rb < w.heap.size := by
  obtain ⟨⟨v, h1, _⟩, _⟩ := h.rd
  exact ⟨h1.cell 1, h1.frozen 1, h1.lt⟩
end
theorem rs_next {W w : World} {rb : Nat} {st : Rd} (h : RS W rb st w) :
    Calls Tryz.prog 32 #[.pointer (some ⟨rb, 0, none⟩)] w fun e w' => e = .returned (.string (txt (nextV st))) ∧ RS W rb (nextS st) w' ∧ w.grownBy w' (some rb) :=
  (rd_next rb st w h.rd).mono fun _ _ ⟨h1, h2, h3⟩ => ⟨h1, h.turn h2 h3, h3⟩
theorem itoa_list (n : Int) (x : List UInt8) : ((itoS n).toList == (txt x).toList) = decide (Lib.itoa n = x) := by
  rw [itoS_list, toList_txt, Bool.eq_iff_iff]
  simp
theorem rd_same (st : Rd) : (st.1, st.2 || false) = st := by
  obtain ⟨a, b⟩ := st
  simp
theorem rd_true (st : Rd) : (st.1, st.2 || true) = (st.1, true) := by simp

set_option maxHeartbeats 2000000 in
theorem rs_num {W w : World} {rb : Nat} {st : Rd} (h : RS W rb st w) :
    Calls Tryz.prog 33 #[.pointer (some ⟨rb, 0, none⟩)] w fun e w' => e = .returned (.int .i64 (numV st)) ∧ RS W rb (numS st) w' ∧ w.grownBy w' (some rb) := by
  have hz : (txt (nextV st)).size ≤ 1000000 := by rw [txt_size]; have := nextV_len h.rd.small; omega
  have HN := Lib.hid (rs_next h)
  have hS : numS st = ((nextS st).1, (nextS st).2 || !numE (nextV st)) := rfl
  have hV : numV st = atoiN (nextV st) := rfl
  have hE' : numE (nextV st) = (atoiE (nextV st) && decide (Lib.itoa (atoiN (nextV st)) = nextV st)) := rfl
  rw [hE'] at hS
  rw [hV]
  have hbd := atoiN_bounds (nextV st)
  have hl := itoa_list (atoiN (nextV st)) (nextV st)
  have hdat : (txt (nextV st)).data.toList = nextV st := data_txt _
  have HAY := fun w (h : atoiE (nextV st) = true) => atoi_yes (txt (nextV st)) w hz (by rw [hdat]; exact h)
  have HAN := fun w hv (h : atoiE (nextV st) = false) => atoi_no (txt (nextV st)) w hz hv (by rw [hdat]; exact h)
  have HIT := Lib.hid (fun w hT => itoa_any (atoiN (nextV st)) hbd.1 hbd.2 w hT)
  rw [hdat] at HAY HAN
  clear hE' hV hdat h hbd
  generalize numS st = st2 at *
  generalize hx : nextV st = x at *
  generalize hy : txt x = y at *
  generalize hn : atoiN x = n at *
  generalize nextS st = st1 at *
  generalize itoS n = z at *
  cases hE : atoiE x
  · have HA := Lib.hid (fun w hv => HAN w hv hE)
    rw [hE, Bool.false_and, Bool.not_false, rd_true] at hS
    clear HAY HAN hl hE hx hy hn
    have HST := Lib.hid hS
    clear hS
    go_enter Tryz.func33, Tryz.ntmps33
    go_wp2_with fail
    go_at_call 32
    refine HN.out.mono ?_
    rintro e w1 ⟨rfl, h1, hg⟩
    have H1 := Lib.hid h1
    have HG := Lib.hid hg
    clear h1 hg
    go_wp2_with fail
    go_at_call 30
    refine (HA.out _ H1.out.errs).mono ?_
    rintro e w2 ⟨⟨te, pe, rfl⟩, hb⟩
    have H2 := Lib.hid (H1.out.keep hb)
    have HG2 := Lib.hid (only_below HG.out hb)
    clear hb
    obtain ⟨k1, k2, k3⟩ := H2.out.cells
    go_wp2_with fail
    go_ret
    refine ⟨rfl, ?_, only_setCell HG2.out (.inl rfl) _⟩
    rw [HST.out]
    exact H2.out.setBad true
  · have HA := Lib.hid (fun w => HAY w hE)
    rw [hE, Bool.true_and] at hS
    clear HAY HAN hE hx hy hn
    cases hq : decide (Lib.itoa n = x)
    · rw [hq, Bool.not_false, rd_true] at hS
      rw [hq] at hl
      have HST := Lib.hid hS
      clear hS hq
      go_enter Tryz.func33, Tryz.ntmps33
      go_wp2_with fail
      go_at_call 32
      refine HN.out.mono ?_
      rintro e w1 ⟨rfl, h1, hg⟩
      have H1 := Lib.hid h1
      have HG := Lib.hid hg
      clear h1 hg
      go_wp2_with fail
      go_at_call 30
      refine (HA.out _).mono ?_
      rintro e w2 ⟨rfl, hb⟩
      have H2 := Lib.hid (H1.out.keep hb)
      have HG2 := Lib.hid (only_below HG.out hb)
      clear hb
      go_wp2_with fail
      go_at_call 22
      refine (HIT.out _ H2.out.wb.tens).mono ?_
      rintro e w3 ⟨rfl, hb⟩
      have H3 := Lib.hid (H2.out.keep hb)
      have HG3 := Lib.hid (only_below HG2.out hb)
      clear hb
      obtain ⟨k1, k2, k3⟩ := H3.out.cells
      go_wp2_with fail
      go_ret
      refine ⟨rfl, ?_, only_setCell HG3.out (.inl rfl) _⟩
      rw [HST.out]
      exact H3.out.setBad true
    · rw [hq, Bool.not_true, rd_same] at hS
      rw [hq] at hl
      have HST := Lib.hid hS
      clear hS hq
      go_enter Tryz.func33, Tryz.ntmps33
      go_wp2_with fail
      go_at_call 32
      refine HN.out.mono ?_
      rintro e w1 ⟨rfl, h1, hg⟩
      have H1 := Lib.hid h1
      have HG := Lib.hid hg
      clear h1 hg
      go_wp2_with fail
      go_at_call 30
      refine (HA.out _).mono ?_
      rintro e w2 ⟨rfl, hb⟩
      have H2 := Lib.hid (H1.out.keep hb)
      have HG2 := Lib.hid (only_below HG.out hb)
      clear hb
      go_wp2_with fail
      go_at_call 22
      refine (HIT.out _ H2.out.wb.tens).mono ?_
      rintro e w3 ⟨rfl, hb⟩
      have H3 := Lib.hid (H2.out.keep hb)
      have HG3 := Lib.hid (only_below HG2.out hb)
      clear hb
      go_wp2_with fail
      go_ret
      refine ⟨rfl, ?_, HG3.out⟩
      rw [HST.out]
      exact H3.out

theorem under_list (x : List UInt8) : ((txt x).toList == [95]) = decide (x = [95]) := by
  rw [toList_txt, Bool.eq_iff_iff]
  simp
theorem none_list (x : List UInt8) : (txt x).toList.isEmpty = decide (x = []) := by
  rw [toList_txt]
  cases x <;> simp
set_option maxHeartbeats 2000000 in
theorem rs_text {W w : World} {rb : Nat} {st : Rd} (h : RS W rb st w) :
    Calls Tryz.prog 34 #[.pointer (some ⟨rb, 0, none⟩)] w fun e w' => e = .returned (.string (txt (textV st))) ∧ RS W rb (textS st) w' ∧ w.grownBy w' (some rb) := by
  have HN := Lib.hid (rs_next h)
  have hS : textS st = ((nextS st).1, (nextS st).2 || decide (nextV st = [])) := rfl
  have hV : textV st = unL (nextV st) := rfl
  have e1 := under_list (nextV st)
  have e2 := none_list (nextV st)
  rw [hV]
  clear hV h
  generalize textS st = st2 at *
  generalize hx : nextV st = x at *
  generalize hst1 : nextS st = st1 at *
  by_cases h95 : x = [95]
  · have hu : txt (unL x) = ⟨#[]⟩ := by unfold unL; rw [if_pos h95]; rfl
    have h0 : decide (x = []) = false := by rw [h95]; rfl
    rw [h0, rd_same] at hS
    rw [show decide (x = [95]) = true by simpa using h95] at e1
    have HU := Lib.hid hu
    have HST := Lib.hid hS
    clear hu hS h0 hx hst1 h95 e2
    generalize txt x = y at *
    go_enter Tryz.func34, Tryz.ntmps34
    go_wp2_with fail
    go_at_call 32
    refine HN.out.mono ?_
    rintro e w1 ⟨rfl, h1, hg⟩
    have H1 := Lib.hid h1
    have HG := Lib.hid hg
    clear h1 hg
    go_wp2_with fail
    go_ret
    refine ⟨by rw [HU.out]; rfl, ?_, HG.out⟩
    rw [HST.out]
    exact H1.out
  · have hu : txt (unL x) = txt x := by unfold unL; rw [if_neg h95]
    rw [show decide (x = [95]) = false by simpa using h95] at e1
    generalize decide (x = []) = b0 at *
    have HU := Lib.hid hu
    have HST := Lib.hid hS
    clear hu hS hx hst1 h95
    generalize txt (unL x) = u at *
    generalize txt x = y at *
    obtain ⟨ws, b1⟩ := st1
    cases b1
    all_goals
      go_enter Tryz.func34, Tryz.ntmps34
      go_wp2_with fail
      go_at_call 32
      refine HN.out.mono ?_
      rintro e w1 ⟨rfl, h1, hg⟩
      have H1 := Lib.hid h1
      have HG := Lib.hid hg
      clear h1 hg
      obtain ⟨k1, k2, k3⟩ := H1.out.cells
      dsimp only at k1
      go_wp2_with fail
      go_ret
    · refine ⟨by rw [HU.out]; rfl, ?_, only_setCell HG.out (.inl rfl) _⟩
      rw [HST.out]
      exact H1.out.setBad _
    · refine ⟨by rw [HU.out]; rfl, ?_, only_setCell HG.out (.inl rfl) _⟩
      rw [HST.out]
      exact H1.out.setBad _
end Go.Proofs.YtklpmoimckblcaaGreatDoor
