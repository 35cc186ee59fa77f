/-
  event's reader: next, num, text.
-/
import Derived.Test.YtepjcdjpikbbjaaGreatDoorP13
import Derived.Test.YtepjcdjpikbbjaaGreatDoorP05
import Derived.RegionTactic
import Derived.ChangeAlike
import Derived.Laws.ResultCell
namespace Go.Proofs.YtepjcdjpikbbjaaGreatDoor
open Go.RowKit Go.Sort

/-- v is a slice that holds these words, beside the block rb -/
def WordsOf (w : World) (rb : Nat) (v : Value) (ws : List (List UInt8)) : Prop :=
  ∃ g o cap, v = .slice (some ⟨g, o, none⟩) ws.length cap ∧ ws.length ≤ cap ∧ cap ≤ 9223372036854775807 ∧ g < rb ∧ ∀ j, j < ws.length → w.cell? ⟨g, o + j, none⟩ = some (.string (txt (ws.getD j [])))
theorem WordsOf.below {w w' : World} {rb : Nat} {v : Value} {ws : List (List UInt8)} (h : WordsOf w rb v ws) (hb : Below w.heap.size w w') : WordsOf w' rb v ws := by
  obtain ⟨g, o, cap, rfl, h1, h2, h3, h4⟩ := h
  refine ⟨g, o, cap, rfl, h1, h2, h3, fun j hj => ?_⟩
  have hc := h4 j hj
  rw [hb.cell (p := ⟨g, o + j, none⟩) (World.block_lt_of_cell? w _ hc)]
  exact hc
theorem WordsOf.set {w : World} {rb i : Nat} {v u : Value} {ws : List (List UInt8)} (h : WordsOf w rb v ws) : WordsOf (w.setCell ⟨rb, i, none⟩ u) rb v ws := by
  obtain ⟨g, o, cap, rfl, h1, h2, h3, h4⟩ := h
  refine ⟨g, o, cap, rfl, h1, h2, h3, fun j hj => ?_⟩
  rw [World.cell?_setCell_other _ _ _ _ (by simp <;> omega)]
  exact h4 j hj
theorem WordsOf.other {w w' : World} {rb eb : Nat} {v : Value} {ws : List (List UInt8)} (h : WordsOf w rb v ws) (hg : w.grownBy w' (some eb)) (he : rb ≤ eb) : WordsOf w' rb v ws := by
  obtain ⟨g, o, cap, rfl, h1, h2, h3, h4⟩ := h
  refine ⟨g, o, cap, rfl, h1, h2, h3, fun j hj => ?_⟩
  have hc := h4 j hj
  have hb := hg.block g (World.block_lt_of_cell? w _ hc) (by simp; omega)
  rw [← hc]
  simp only [World.cell?, hb]
/-- a reader's block -/
structure RdAt (w : World) (rb : Nat) (st : Rd) : Prop where
  ex : ∃ v, Blk w rb 201 #[v, .bool st.2] ∧ WordsOf w rb v st.1
  small : ∀ x ∈ st.1, x.length ≤ 5000
theorem RdAt.below {w w' : World} {rb : Nat} {st : Rd} (h : RdAt w rb st) (hb : Below w.heap.size w w') : RdAt w' rb st := by
  obtain ⟨⟨v, h1, h2⟩, h3⟩ := h
  exact ⟨⟨v, h1.below' hb, h2.below hb⟩, h3⟩
theorem RdAt.other {w w' : World} {rb eb : Nat} {st : Rd} (h : RdAt w rb st) (hg : w.grownBy w' (some eb)) (he : rb < eb) : RdAt w' rb st := by
  obtain ⟨⟨v, h1, h2⟩, h3⟩ := h
  exact ⟨⟨v, h1.grown hg (by simp; omega), h2.other hg (by omega)⟩, h3⟩
theorem RdAt.bad {w : World} {rb : Nat} {st : Rd} (h : RdAt w rb st) (b : Bool) : RdAt (w.setCell ⟨rb, 1, none⟩ (.bool b)) rb (st.1, b) := by
  obtain ⟨⟨v, h1, h2⟩, h3⟩ := h
  exact ⟨⟨v, h1.set_ 1 (.bool b), h2.set⟩, h3⟩
theorem RdAt.cut {W : World} {rb g o o' cap' : Nat} {v : Value} {x : List UInt8} {r : List (List UInt8)} {b : Bool} (hB : Blk W rb 201 #[v, .bool b]) (h3 : g < rb)
    (h4 : ∀ j, j < (x :: r).length → W.cell? ⟨g, o + j, none⟩ = some (.string (txt ((x :: r).getD j [])))) (hs : ∀ y ∈ x :: r, y.length ≤ 5000) (hc : r.length ≤ cap') (hm : cap' ≤ 9223372036854775807) (ho : r.length = 0 ∨ o' = o + 1) :
    RdAt (W.setCell ⟨rb, 0, none⟩ (.slice (some ⟨g, o', none⟩) r.length cap')) rb (r, b) := by
  refine ⟨⟨_, hB.set_ 0 _, g, o', cap', rfl, hc, hm, h3, fun j hj => ?_⟩, fun y hy => hs y (List.mem_cons_of_mem _ hy)⟩
  rw [World.cell?_setCell_other _ _ _ _ (by simp <;> omega)]
  have e : o' = o + 1 := ho.resolve_left (by have : j < r.length := hj; omega)
  have := h4 (j + 1) (by simpa using hj)
  rw [e, show o + 1 + j = o + (j + 1) by omega, this]
  rfl
theorem nextV_len {st : Rd} (h : ∀ x ∈ st.1, x.length ≤ 5000) : (nextV st).length ≤ 5000 := by
  obtain ⟨ws, b⟩ := st
  cases ws with
  | nil => simp [nextV]
  | cons x r => exact h x (by simp)

set_option maxHeartbeats 1000000 in
theorem rd_next (rb : Nat) (st : Rd) (W : World) (h : RdAt W rb st) :
    Calls Tryz.prog 156 #[.pointer (some ⟨rb, 0, none⟩)] W fun e w' => e = .returned (.string (txt (nextV st))) ∧ RdAt w' rb (nextS st) ∧ W.grownBy w' (some rb) := by
  obtain ⟨ws, b⟩ := st
  have HH := Lib.hid h
  obtain ⟨⟨v, hB, hW⟩, hs⟩ := h
  dsimp only at hB hW hs
  have c0 := hB.cell 0
  have c1 := hB.cell 1
  have f0 := hB.frozen 0
  have f1 := hB.frozen 1
  have hlt := hB.lt
  have HB := Lib.hid hB
  clear hB
  cases ws with
  | nil =>
    obtain ⟨g, o, cap, rfl, h1, h2, h3, h4⟩ := hW
    have HG := Lib.hid (only_setCell (only_refl W (some rb)) (p := ⟨rb, 1, none⟩) (.inl rfl) (.bool true))
    have HR := Lib.hid (HH.out.bad true)
    clear h4
    go_enter Tryz.func156, Tryz.ntmps156
    go_wp2_with fail
    go_ret
    exact ⟨rfl, HR.out, HG.out⟩
  | cons x r =>
    obtain ⟨g, o, cap, rfl, h1, h2, h3, h4⟩ := hW
    have hc : W.cell? ⟨g, o, none⟩ = some (.string (txt x)) := by simpa using h4 0 (by simp)
    have HC := Lib.hid h4
    have hl : r.length + 1 ≤ cap := h1
    clear h4 h1
    go_enter Tryz.func156, Tryz.ntmps156
    go_wp2_with fail
    · go_ret
      exact ⟨rfl, RdAt.cut HB.out h3 HC.out hs (by omega) (by omega) (.inl (by omega)), only_setCell (only_refl W (some rb)) (.inl rfl) _⟩
    · go_ret
      exact ⟨rfl, RdAt.cut HB.out h3 HC.out hs (by omega) (by omega) (.inr rfl), only_setCell (only_refl W (some rb)) (.inl rfl) _⟩

/-- what is known while a reader reads -/
structure RS (W : World) (rb : Nat) (st : Rd) (w : World) : Prop where
  base : WB W W
  errs0 : ErrVars W
  below : Below W.heap.size W w
  le : W.heap.size ≤ rb
  rd : RdAt w rb st
section
variable {W w w' : World} {rb : Nat} {st st' : Rd}
theorem RS.wb (h : RS W rb st w) : WB W w := h.base.keep h.below
theorem RS.errs (h : RS W rb st w) : ErrVars w := h.errs0.below' h.below
theorem RS.keep (h : RS W rb st w) (hb : Below w.heap.size w w') : RS W rb st w' := ⟨h.base, h.errs0, below_2 h.below hb, h.le, h.rd.below hb⟩
theorem RS.turn (h : RS W rb st w) (hr : RdAt w' rb st') (hg : w.grownBy w' (some rb)) : RS W rb st' w' := ⟨h.base, h.errs0, below_of_only h.below hg h.le h.below.size, h.le, hr⟩
theorem RS.setBad (h : RS W rb st w) (b : Bool) : RS W rb (st.1, b) (w.setCell ⟨rb, 1, none⟩ (.bool b)) := h.turn (h.rd.bad b) (only_setCell (only_refl w (some rb)) (.inl rfl) _)
theorem RS.cells (h : RS W rb st w) : w.cell? ⟨rb, 1, none⟩ = some (.bool st.2) ∧ w.frozen? ⟨rb, 1, none⟩ = false ∧ rb < w.heap.size := by
  obtain ⟨⟨v, h1, _⟩, _⟩ := h.rd
  exact ⟨h1.cell 1, h1.frozen 1, h1.lt⟩
end
theorem rs_next {W w : World} {rb : Nat} {st : Rd} (h : RS W rb st w) :
    Calls Tryz.prog 156 #[.pointer (some ⟨rb, 0, none⟩)] w fun e w' => e = .returned (.string (txt (nextV st))) ∧ RS W rb (nextS st) w' ∧ w.grownBy w' (some rb) :=
  (rd_next rb st w h.rd).mono fun _ _ ⟨h1, h2, h3⟩ => ⟨h1, h.turn h2 h3, h3⟩
theorem itoa_list (n : Int) (x : List UInt8) : ((itoS n).toList == (txt x).toList) = decide (Lib.itoa n = x) := by
  rw [itoS_list, toList_txt, Bool.eq_iff_iff]
  simp
theorem rd_same (st : Rd) : (st.1, st.2 || false) = st := by
  obtain ⟨a, b⟩ := st
  simp
theorem rd_true (st : Rd) : (st.1, st.2 || true) = (st.1, true) := by simp

set_option maxHeartbeats 2000000 in
theorem rs_num {W w : World} {rb : Nat} {st : Rd} (h : RS W rb st w) :
    Calls Tryz.prog 157 #[.pointer (some ⟨rb, 0, none⟩)] w fun e w' => e = .returned (.int .i64 (numV st)) ∧ RS W rb (numS st) w' ∧ w.grownBy w' (some rb) := by
  have hz : (txt (nextV st)).size ≤ 1000000 := by rw [txt_size]; have := nextV_len h.rd.small; omega
  have HN := Lib.hid (rs_next h)
  have hS : numS st = ((nextS st).1, (nextS st).2 || !numE (nextV st)) := rfl
  have hV : numV st = atoiN (nextV st) := rfl
  have hE' : numE (nextV st) = (atoiE (nextV st) && decide (Lib.itoa (atoiN (nextV st)) = nextV st)) := rfl
  rw [hE'] at hS
  rw [hV]
  have hbd := atoiN_bounds (nextV st)
  have hl := itoa_list (atoiN (nextV st)) (nextV st)
  have hdat : (txt (nextV st)).data.toList = nextV st := data_txt _
  have HAY := fun w (h : atoiE (nextV st) = true) => atoi_yes (txt (nextV st)) w hz (by rw [hdat]; exact h)
  have HAN := fun w hv (h : atoiE (nextV st) = false) => atoi_no (txt (nextV st)) w hz hv (by rw [hdat]; exact h)
  have HIT := Lib.hid (fun w hT => itoa_any (atoiN (nextV st)) hbd.1 hbd.2 w hT)
  rw [hdat] at HAY HAN
  clear hE' hV hdat h hbd
  generalize numS st = st2 at *
  generalize hx : nextV st = x at *
  generalize hy : txt x = y at *
  generalize hn : atoiN x = n at *
  generalize nextS st = st1 at *
  generalize itoS n = z at *
  cases hE : atoiE x
  · have HA := Lib.hid (fun w hv => HAN w hv hE)
    rw [hE, Bool.false_and, Bool.not_false, rd_true] at hS
    clear HAY HAN hl hE hx hy hn
    have HST := Lib.hid hS
    clear hS
    go_enter Tryz.func157, Tryz.ntmps157
    go_wp2_with fail
    go_at_call 156
    refine HN.out.mono ?_
    rintro e w1 ⟨rfl, h1, hg⟩
    have H1 := Lib.hid h1
    have HG := Lib.hid hg
    clear h1 hg
    go_wp2_with fail
    go_at_call 51
    refine (HA.out _ H1.out.errs).mono ?_
    rintro e w2 ⟨⟨te, pe, rfl⟩, hb⟩
    have H2 := Lib.hid (H1.out.keep hb)
    have HG2 := Lib.hid (only_below HG.out hb)
    clear hb
    obtain ⟨k1, k2, k3⟩ := H2.out.cells
    go_wp2_with fail
    go_ret
    refine ⟨rfl, ?_, only_setCell HG2.out (.inl rfl) _⟩
    rw [HST.out]
    exact H2.out.setBad true
  · have HA := Lib.hid (fun w => HAY w hE)
    rw [hE, Bool.true_and] at hS
    clear HAY HAN hE hx hy hn
    cases hq : decide (Lib.itoa n = x)
    · rw [hq, Bool.not_false, rd_true] at hS
      rw [hq] at hl
      have HST := Lib.hid hS
      clear hS hq
      go_enter Tryz.func157, Tryz.ntmps157
      go_wp2_with fail
      go_at_call 156
      refine HN.out.mono ?_
      rintro e w1 ⟨rfl, h1, hg⟩
      have H1 := Lib.hid h1
      have HG := Lib.hid hg
      clear h1 hg
      go_wp2_with fail
      go_at_call 51
      refine (HA.out _).mono ?_
      rintro e w2 ⟨rfl, hb⟩
      have H2 := Lib.hid (H1.out.keep hb)
      have HG2 := Lib.hid (only_below HG.out hb)
      clear hb
      go_wp2_with fail
      go_at_call 26
      refine (HIT.out _ H2.out.wb.tens).mono ?_
      rintro e w3 ⟨rfl, hb⟩
      have H3 := Lib.hid (H2.out.keep hb)
      have HG3 := Lib.hid (only_below HG2.out hb)
      clear hb
      obtain ⟨k1, k2, k3⟩ := H3.out.cells
      go_wp2_with fail
      go_ret
      refine ⟨rfl, ?_, only_setCell HG3.out (.inl rfl) _⟩
      rw [HST.out]
      exact H3.out.setBad true
    · rw [hq, Bool.not_true, rd_same] at hS
      rw [hq] at hl
      have HST := Lib.hid hS
      clear hS hq
      go_enter Tryz.func157, Tryz.ntmps157
      go_wp2_with fail
      go_at_call 156
      refine HN.out.mono ?_
      rintro e w1 ⟨rfl, h1, hg⟩
      have H1 := Lib.hid h1
      have HG := Lib.hid hg
      clear h1 hg
      go_wp2_with fail
      go_at_call 51
      refine (HA.out _).mono ?_
      rintro e w2 ⟨rfl, hb⟩
      have H2 := Lib.hid (H1.out.keep hb)
      have HG2 := Lib.hid (only_below HG.out hb)
      clear hb
      go_wp2_with fail
      go_at_call 26
      refine (HIT.out _ H2.out.wb.tens).mono ?_
      rintro e w3 ⟨rfl, hb⟩
      have H3 := Lib.hid (H2.out.keep hb)
      have HG3 := Lib.hid (only_below HG2.out hb)
      clear hb
      go_wp2_with fail
      go_ret
      refine ⟨rfl, ?_, HG3.out⟩
      rw [HST.out]
      exact H3.out

theorem under_list (x : List UInt8) : ((txt x).toList == [95]) = decide (x = [95]) := by
  rw [toList_txt, Bool.eq_iff_iff]
  simp
theorem none_list (x : List UInt8) : (txt x).toList.isEmpty = decide (x = []) := by
  rw [toList_txt]
  cases x <;> simp
set_option maxHeartbeats 2000000 in
theorem rs_text {W w : World} {rb : Nat} {st : Rd} (h : RS W rb st w) :
    Calls Tryz.prog 158 #[.pointer (some ⟨rb, 0, none⟩)] w fun e w' => e = .returned (.string (txt (textV st))) ∧ RS W rb (textS st) w' ∧ w.grownBy w' (some rb) := by
  have HN := Lib.hid (rs_next h)
  have hS : textS st = ((nextS st).1, (nextS st).2 || decide (nextV st = [])) := rfl
  have hV : textV st = unL (nextV st) := rfl
  have e1 := under_list (nextV st)
  have e2 := none_list (nextV st)
  rw [hV]
  clear hV h
  generalize textS st = st2 at *
  generalize hx : nextV st = x at *
  generalize hst1 : nextS st = st1 at *
  by_cases h95 : x = [95]
  · have hu : txt (unL x) = ⟨#[]⟩ := by unfold unL; rw [if_pos h95]; rfl
    have h0 : decide (x = []) = false := by rw [h95]; rfl
    rw [h0, rd_same] at hS
    rw [show decide (x = [95]) = true by simpa using h95] at e1
    have HU := Lib.hid hu
    have HST := Lib.hid hS
    clear hu hS h0 hx hst1 h95 e2
    generalize txt x = y at *
    go_enter Tryz.func158, Tryz.ntmps158
    go_wp2_with fail
    go_at_call 156
    refine HN.out.mono ?_
    rintro e w1 ⟨rfl, h1, hg⟩
    have H1 := Lib.hid h1
    have HG := Lib.hid hg
    clear h1 hg
    go_wp2_with fail
    go_ret
    refine ⟨by rw [HU.out]; rfl, ?_, HG.out⟩
    rw [HST.out]
    exact H1.out
  · have hu : txt (unL x) = txt x := by unfold unL; rw [if_neg h95]
    rw [show decide (x = [95]) = false by simpa using h95] at e1
    generalize decide (x = []) = b0 at *
    have HU := Lib.hid hu
    have HST := Lib.hid hS
    clear hu hS hx hst1 h95
    generalize txt (unL x) = u at *
    generalize txt x = y at *
    obtain ⟨ws, b1⟩ := st1
    cases b1
    all_goals
      go_enter Tryz.func158, Tryz.ntmps158
      go_wp2_with fail
      go_at_call 156
      refine HN.out.mono ?_
      rintro e w1 ⟨rfl, h1, hg⟩
      have H1 := Lib.hid h1
      have HG := Lib.hid hg
      clear h1 hg
      obtain ⟨k1, k2, k3⟩ := H1.out.cells
      dsimp only at k1
      go_wp2_with fail
      go_ret
    · refine ⟨by rw [HU.out]; rfl, ?_, only_setCell HG.out (.inl rfl) _⟩
      rw [HST.out]
      exact H1.out.setBad _
    · refine ⟨by rw [HU.out]; rfl, ?_, only_setCell HG.out (.inl rfl) _⟩
      rw [HST.out]
      exact H1.out.setBad _
end Go.Proofs.YtepjcdjpikbbjaaGreatDoor

/-
  event.Read: what is known while it reads.
-/
namespace Go.Proofs.YtepjcdjpikbbjaaGreatDoor
open Go.RowKit Go.Sort

theorem results_row_tmp {P : Program} {fn : Func} {p u : Tmp} {ty : TypeId} (h : fn.results = #[.cell p ty, .tmp u]) (tmps : Array Value) (w : World) (g : Nat) (t : TypeId) (cs : Array Value) (d : TypeDesc) (x : Value)
    (hp : tmps.getD p undef = .pointer (some ⟨g, 0, none⟩)) (hx : tmps.getD u undef = x) (hg : Blk w g t cs)
    (hu : P.underlying ty = some d) (hd : (match d with | .struct _ | .array _ _ => true | _ => false) = true) (hi : (P.info? ty).map (·.size) = some cs.size) :
    (results fn tmps).run P w = .ok (.tuple #[.agg cs, x]) w := by
  rw [results_cell_tmp h, hp, hx]
  simp only [asAddr, Sem.run_pure, Result.andThen]
  rw [run_loadVar_row w g t ty cs (0, 0) d hg hu hd hi]

/-- what is known while event.Read reads: its reader, its result's block, its event's block -/
structure RE (W : World) (rb eb : Nat) (st : Rd) (e : Ev) (w : World) : Prop where
  rs : RS W rb st w
  res : Blk w W.heap.size 116 (evCs Ev.zero)
  ev : Blk w eb 116 (evCs e)
  n1 : W.heap.size < rb
  n2 : rb < eb
section
variable {W w w' : World} {rb eb : Nat} {st st' : Rd} {e e' : Ev}
theorem RE.keep (h : RE W rb eb st e w) (hb : Below w.heap.size w w') : RE W rb eb st e w' := ⟨h.rs.keep hb, h.res.below' hb, h.ev.below' hb, h.n1, h.n2⟩
theorem RE.turn (h : RE W rb eb st e w) (hr : RS W rb st' w') (hg : w.grownBy w' (some rb)) : RE W rb eb st' e w' :=
  ⟨hr, h.res.grown hg (by have := h.n1; simp; omega), h.ev.grown hg (by have := h.n2; simp; omega), h.n1, h.n2⟩
theorem RE.setBad (h : RE W rb eb st e w) (b : Bool) : RE W rb eb (st.1, b) e (w.setCell ⟨rb, 1, none⟩ (.bool b)) := h.turn (h.rs.setBad b) (only_setCell (only_refl w (some rb)) (.inl rfl) _)
theorem RE.put (h : RE W rb eb st e w) (hb : Blk w' eb 116 (evCs e')) (hg : w.grownBy w' (some eb)) : RE W rb eb st e' w' :=
  ⟨⟨h.rs.base, h.rs.errs0, below_of_only h.rs.below hg (by have := h.n1; have := h.n2; omega) h.rs.below.size, h.rs.le, h.rs.rd.other hg h.n2⟩, h.res.grown hg (by have := h.n1; have := h.n2; simp; omega), hb, h.n1, h.n2⟩
theorem RE.set (h : RE W rb eb st e w) (i : Nat) (u : Value) (he : (evCs e).setIfInBounds i u = evCs e') : RE W rb eb st e' (w.setCell ⟨eb, i, none⟩ u) :=
  h.put (by have := h.ev.set_ i u; rwa [he] at this) (only_setCell (only_refl w (some eb)) (.inl rfl) _)
theorem RE.frozen (h : RE W rb eb st e w) (i : Nat) : w.frozen? ⟨eb, i, none⟩ = false := h.ev.frozen i
/-- a family put into the event's block, cell by cell -/
theorem RE.fam {k id ti : Int} {f0 : Fam} (h : RE W rb eb st ⟨k, f0, id, ti⟩ w) (f : Fam) : RE W rb eb st ⟨k, f, id, ti⟩
    (((((((((w.setCell ⟨eb, 1, none⟩ (.int .i64 f.id)).setCell ⟨eb, 2, none⟩ (.string f.client)).setCell ⟨eb, 3, none⟩ (.string f.subject)).setCell ⟨eb, 4, none⟩ (.string f.scope)).setCell ⟨eb, 5, none⟩ (.int .i64 f.gen)).setCell ⟨eb, 6, none⟩ (.int .i64 f.made)).setCell ⟨eb, 7, none⟩ (.int .i64 f.used)).setCell ⟨eb, 8, none⟩ (.string f.request)).setCell ⟨eb, 9, none⟩ (.bool f.dead)) := by
  have h1 := h.set 1 (.int .i64 f.id) (e' := ⟨k, ⟨f.id, f0.client, f0.subject, f0.scope, f0.gen, f0.made, f0.used, f0.request, f0.dead⟩, id, ti⟩) rfl
  have h2 := h1.set 2 (.string f.client) (e' := ⟨k, ⟨f.id, f.client, f0.subject, f0.scope, f0.gen, f0.made, f0.used, f0.request, f0.dead⟩, id, ti⟩) rfl
  have h3 := h2.set 3 (.string f.subject) (e' := ⟨k, ⟨f.id, f.client, f.subject, f0.scope, f0.gen, f0.made, f0.used, f0.request, f0.dead⟩, id, ti⟩) rfl
  have h4 := h3.set 4 (.string f.scope) (e' := ⟨k, ⟨f.id, f.client, f.subject, f.scope, f0.gen, f0.made, f0.used, f0.request, f0.dead⟩, id, ti⟩) rfl
  have h5 := h4.set 5 (.int .i64 f.gen) (e' := ⟨k, ⟨f.id, f.client, f.subject, f.scope, f.gen, f0.made, f0.used, f0.request, f0.dead⟩, id, ti⟩) rfl
  have h6 := h5.set 6 (.int .i64 f.made) (e' := ⟨k, ⟨f.id, f.client, f.subject, f.scope, f.gen, f.made, f0.used, f0.request, f0.dead⟩, id, ti⟩) rfl
  have h7 := h6.set 7 (.int .i64 f.used) (e' := ⟨k, ⟨f.id, f.client, f.subject, f.scope, f.gen, f.made, f.used, f0.request, f0.dead⟩, id, ti⟩) rfl
  have h8 := h7.set 8 (.string f.request) (e' := ⟨k, ⟨f.id, f.client, f.subject, f.scope, f.gen, f.made, f.used, f.request, f0.dead⟩, id, ti⟩) rfl
  exact h8.set 9 (.bool f.dead) (e' := ⟨k, f, id, ti⟩) rfl
theorem RE.facts (h : RE W rb eb st e w) : (∀ i, w.cell? ⟨eb, i, none⟩ = (evCs e)[i]?) ∧ (∀ i, w.frozen? ⟨eb, i, none⟩ = false) ∧ (∀ i, w.cell? ⟨W.heap.size, i, none⟩ = (evCs Ev.zero)[i]?) ∧ (∀ i, w.frozen? ⟨W.heap.size, i, none⟩ = false) :=
  ⟨h.ev.cell, h.ev.frozen, h.res.cell, h.res.frozen⟩
/-- the reader's words -/
theorem RE.words (h : RE W rb eb st e w) : ∃ A cap, w.cell? ⟨rb, 0, none⟩ = some (.slice A st.1.length cap) ∧ w.cell? ⟨rb, 1, none⟩ = some (.bool st.2) ∧ w.frozen? ⟨rb, 1, none⟩ = false := by
  obtain ⟨⟨v, h1, g, o, cap, rfl, _⟩, _⟩ := h.rs.rd
  exact ⟨_, _, h1.cell 0, h1.cell 1, h1.frozen 1⟩
end
theorem RE.start {W w1 : World} {v : Value} {L : List (List UInt8)} (h0 : WB W W) (he : ErrVars W) (hs : ∀ x ∈ L, x.length ≤ 5000) (hr : Row w1 (W.heap.size + 1) v L) (hb : Below (W.heap.size + 1) (W.alloc (.cells (evCs Ev.zero) 116)) w1) :
    RE W w1.heap.size (w1.heap.size + 1) (L, false) Ev.zero ((w1.alloc (.cells #[v, .bool false] 201)).alloc (.cells (evCs Ev.zero) 116)) := by
  have hz : (W.alloc (.cells (evCs Ev.zero) 116)).heap.size = W.heap.size + 1 := by simp
  have b0 : Below W.heap.size W (W.alloc (.cells (evCs Ev.zero) 116)) := (Below.refl _ _).alloc (Nat.le_refl _) _
  have b1 : Below W.heap.size W w1 := b0.trans (hb.mono (by omega))
  have hlt : W.heap.size < w1.heap.size := by have := hb.size; rw [hz] at this; omega
  have b2 : Below w1.heap.size w1 ((w1.alloc (.cells #[v, .bool false] 201)).alloc (.cells (evCs Ev.zero) 116)) := alloc2 _ _ _
  obtain ⟨g, cap, rfl, h1, h2, h3, h4, _⟩ := hr.parts
  have hw : WordsOf w1 w1.heap.size (.slice (some ⟨g, 0, none⟩) L.length cap) L := ⟨g, 0, cap, rfl, h3, h4, h2, fun j hj => by rw [Nat.zero_add]; exact hr.cell j hj⟩
  refine ⟨⟨h0, he, b1.trans (b2.mono b1.size), Nat.le_of_lt hlt, ⟨⟨_, (Blk.new w1 _ _).alloc _, hw.below b2⟩, hs⟩⟩, ?_, ?_, hlt, Nat.lt_succ_self _⟩
  · have h5 := (Blk.new W 116 (evCs Ev.zero)).below hb (by omega)
    exact h5.below' b2
  · have h6 := Blk.new (w1.alloc (.cells #[.slice (some ⟨g, 0, none⟩) L.length cap, .bool false] 201)) 116 (evCs Ev.zero)
    simpa using h6
theorem textV_len {st : Rd} (h : ∀ x ∈ st.1, x.length ≤ 5000) : (txt (textV st)).size ≤ 5000 := by
  rw [txt_size]
  unfold textV unL
  split
  · simp
  · exact nextV_len h
theorem nextS_small {st : Rd} (h : ∀ x ∈ st.1, x.length ≤ 5000) : ∀ x ∈ (nextS st).1, x.length ≤ 5000 := by
  obtain ⟨ws, b⟩ := st
  cases ws with
  | nil => exact h
  | cons y r => exact fun x hx => h x (List.mem_cons_of_mem _ hx)
theorem famV_short {st : Rd} (h : ∀ x ∈ st.1, x.length ≤ 5000) : (famV st).short 5000 := by
  have a1 := nextS_small h
  have a2 := nextS_small (st := numS st) a1
  have a3 := nextS_small (st := textS (numS st)) a2
  have a4 := nextS_small (st := textS (textS (numS st))) a3
  have a5 := nextS_small (st := textS (textS (textS (numS st)))) a4
  have a6 := nextS_small (st := numS (textS (textS (textS (numS st))))) a5
  have a7 := nextS_small (st := numS (numS (textS (textS (textS (numS st)))))) a6
  exact ⟨textV_len (st := numS st) a1, textV_len (st := textS (numS st)) a2, textV_len (st := textS (textS (numS st))) a3, textV_len (st := numS (numS (numS (textS (textS (textS (numS st))))))) a7⟩
theorem zero_short : Fam.zero.short 5000 := by unfold Fam.zero; exact ⟨by decide, by decide, by decide, by decide⟩
theorem progE_short {st : Rd} (h : ∀ x ∈ st.1, x.length ≤ 5000) : (progE st).1.fam.short 5000 := by
  unfold progE
  split
  · exact famV_short (nextS_small h)
  · split
    · exact zero_short
    · split
      · exact zero_short
      · exact zero_short
/-- the event, and the error, of what the reader has read -/
def progRE (st : Rd) : Ev := if progB st then (progE st).1 else Ev.zero
def progRN (st : Rd) : Int := if progB st then 0 else 3
theorem prog_yes {st : Rd} (h1 : (progE st).2.2 = false) (h2 : (progE st).2.1.length = 0) (h3 : evB (progE st).1 = true) : progRE st = (progE st).1 ∧ progRN st = 0 := by
  have : progB st = true := by
    unfold progB
    rw [h1, h3, List.eq_nil_of_length_eq_zero h2]
    rfl
  unfold progRE progRN
  rw [if_pos this, if_pos this]
  exact ⟨rfl, rfl⟩
theorem prog_no {st : Rd} (h : (progE st).2.2 = true ∨ (progE st).2.1.length ≠ 0 ∨ evB (progE st).1 = false) : progRE st = Ev.zero ∧ progRN st = 3 := by
  have : ¬ progB st = true := by
    unfold progB
    rcases h with h | h | h
    · rw [h]; simp
    · have : ¬ (progE st).2.1 = [] := fun e => h (by rw [e]; rfl)
      simp [this]
    · rw [h]; simp
  unfold progRE progRN
  rw [if_neg this, if_neg this]
  exact ⟨rfl, rfl⟩
/-- what event.Read gives -/
def ReadGot (W : World) (e : Ev) (n : Int) (x : Ending) (w' : World) : Prop := x = .returned (.tuple #[evVal e, errV n]) ∧ Below W.heap.size W w'
theorem read_end {W w : World} {A : Act} {e : Ev} {n : Int} (hb : Below W.heap.size W w) (hr : Blk w W.heap.size 116 (evCs e))
    (hp : A.tmps.getD 2 undef = .pointer (some ⟨W.heap.size, 0, none⟩)) (hx : A.tmps.getD 3 undef = errV n) (hd : A.defers = []) :
    bodyPost Tryz.prog Tryz.f106 (ReadGot W e n) Exit.ret A w :=
  bodyPost_ret (results_row_tmp rfl A.tmps w _ _ _ _ _ hp hx hr Tryz.underlying116 rfl (by kernel_rfl)) hd ⟨rfl, hb⟩
/-- the result's block behind twelve stores -/
theorem Blk.at_ {w : World} {g : Nat} {T : TypeId} {cs cs' : Array Value} (h : Blk w g T cs) (i : Nat) (u : Value) (he : cs.setIfInBounds i u = cs') : Blk (w.setCell ⟨g, i, none⟩ u) g T cs' := by
  have := h.set_ i u
  rwa [he] at this
theorem res_sets {w : World} {g : Nat} {T : TypeId} {e e' : Ev} (h : Blk w g T (evCs e)) : Blk (((((((((((((w.setCell ⟨g, 0, none⟩ (.int .i64 e'.kind)).setCell ⟨g, 1, none⟩ (.int .i64 e'.fam.id)).setCell ⟨g, 2, none⟩ (.string e'.fam.client)).setCell ⟨g, 3, none⟩ (.string e'.fam.subject)).setCell ⟨g, 4, none⟩ (.string e'.fam.scope)).setCell ⟨g, 5, none⟩ (.int .i64 e'.fam.gen)).setCell ⟨g, 6, none⟩ (.int .i64 e'.fam.made)).setCell ⟨g, 7, none⟩ (.int .i64 e'.fam.used)).setCell ⟨g, 8, none⟩ (.string e'.fam.request)).setCell ⟨g, 9, none⟩ (.bool e'.fam.dead)).setCell ⟨g, 10, none⟩ (.int .i64 e'.id)).setCell ⟨g, 11, none⟩ (.int .i64 e'.time))) g T (evCs e') := by
  have h1 := h.at_ 0 (.int .i64 e'.kind) (cs' := evCs ⟨e'.kind, ⟨e.fam.id, e.fam.client, e.fam.subject, e.fam.scope, e.fam.gen, e.fam.made, e.fam.used, e.fam.request, e.fam.dead⟩, e.id, e.time⟩) rfl
  have h2 := h1.at_ 1 (.int .i64 e'.fam.id) (cs' := evCs ⟨e'.kind, ⟨e'.fam.id, e.fam.client, e.fam.subject, e.fam.scope, e.fam.gen, e.fam.made, e.fam.used, e.fam.request, e.fam.dead⟩, e.id, e.time⟩) rfl
  have h3 := h2.at_ 2 (.string e'.fam.client) (cs' := evCs ⟨e'.kind, ⟨e'.fam.id, e'.fam.client, e.fam.subject, e.fam.scope, e.fam.gen, e.fam.made, e.fam.used, e.fam.request, e.fam.dead⟩, e.id, e.time⟩) rfl
  have h4 := h3.at_ 3 (.string e'.fam.subject) (cs' := evCs ⟨e'.kind, ⟨e'.fam.id, e'.fam.client, e'.fam.subject, e.fam.scope, e.fam.gen, e.fam.made, e.fam.used, e.fam.request, e.fam.dead⟩, e.id, e.time⟩) rfl
  have h5 := h4.at_ 4 (.string e'.fam.scope) (cs' := evCs ⟨e'.kind, ⟨e'.fam.id, e'.fam.client, e'.fam.subject, e'.fam.scope, e.fam.gen, e.fam.made, e.fam.used, e.fam.request, e.fam.dead⟩, e.id, e.time⟩) rfl
  have h6 := h5.at_ 5 (.int .i64 e'.fam.gen) (cs' := evCs ⟨e'.kind, ⟨e'.fam.id, e'.fam.client, e'.fam.subject, e'.fam.scope, e'.fam.gen, e.fam.made, e.fam.used, e.fam.request, e.fam.dead⟩, e.id, e.time⟩) rfl
  have h7 := h6.at_ 6 (.int .i64 e'.fam.made) (cs' := evCs ⟨e'.kind, ⟨e'.fam.id, e'.fam.client, e'.fam.subject, e'.fam.scope, e'.fam.gen, e'.fam.made, e.fam.used, e.fam.request, e.fam.dead⟩, e.id, e.time⟩) rfl
  have h8 := h7.at_ 7 (.int .i64 e'.fam.used) (cs' := evCs ⟨e'.kind, ⟨e'.fam.id, e'.fam.client, e'.fam.subject, e'.fam.scope, e'.fam.gen, e'.fam.made, e'.fam.used, e.fam.request, e.fam.dead⟩, e.id, e.time⟩) rfl
  have h9 := h8.at_ 8 (.string e'.fam.request) (cs' := evCs ⟨e'.kind, ⟨e'.fam.id, e'.fam.client, e'.fam.subject, e'.fam.scope, e'.fam.gen, e'.fam.made, e'.fam.used, e'.fam.request, e.fam.dead⟩, e.id, e.time⟩) rfl
  have h10 := h9.at_ 9 (.bool e'.fam.dead) (cs' := evCs ⟨e'.kind, ⟨e'.fam.id, e'.fam.client, e'.fam.subject, e'.fam.scope, e'.fam.gen, e'.fam.made, e'.fam.used, e'.fam.request, e'.fam.dead⟩, e.id, e.time⟩) rfl
  have h11 := h10.at_ 10 (.int .i64 e'.id) (cs' := evCs ⟨e'.kind, ⟨e'.fam.id, e'.fam.client, e'.fam.subject, e'.fam.scope, e'.fam.gen, e'.fam.made, e'.fam.used, e'.fam.request, e'.fam.dead⟩, e'.id, e.time⟩) rfl
  have h12 := h11.at_ 11 (.int .i64 e'.time) (cs' := evCs ⟨e'.kind, ⟨e'.fam.id, e'.fam.client, e'.fam.subject, e'.fam.scope, e'.fam.gen, e'.fam.made, e'.fam.used, e'.fam.request, e'.fam.dead⟩, e'.id, e'.time⟩) rfl
  exact h12
theorem res_below {W w : World} {e' : Ev} (h : Below W.heap.size W w) : Below W.heap.size W (((((((((((((w.setCell ⟨W.heap.size, 0, none⟩ (.int .i64 e'.kind)).setCell ⟨W.heap.size, 1, none⟩ (.int .i64 e'.fam.id)).setCell ⟨W.heap.size, 2, none⟩ (.string e'.fam.client)).setCell ⟨W.heap.size, 3, none⟩ (.string e'.fam.subject)).setCell ⟨W.heap.size, 4, none⟩ (.string e'.fam.scope)).setCell ⟨W.heap.size, 5, none⟩ (.int .i64 e'.fam.gen)).setCell ⟨W.heap.size, 6, none⟩ (.int .i64 e'.fam.made)).setCell ⟨W.heap.size, 7, none⟩ (.int .i64 e'.fam.used)).setCell ⟨W.heap.size, 8, none⟩ (.string e'.fam.request)).setCell ⟨W.heap.size, 9, none⟩ (.bool e'.fam.dead)).setCell ⟨W.heap.size, 10, none⟩ (.int .i64 e'.id)).setCell ⟨W.heap.size, 11, none⟩ (.int .i64 e'.time))) :=
  (((((((((((h.setCell (Nat.le_refl _) _).setCell (Nat.le_refl _) _).setCell (Nat.le_refl _) _).setCell (Nat.le_refl _) _).setCell (Nat.le_refl _) _).setCell (Nat.le_refl _) _).setCell (Nat.le_refl _) _).setCell (Nat.le_refl _) _).setCell (Nat.le_refl _) _).setCell (Nat.le_refl _) _).setCell (Nat.le_refl _) _).setCell (Nat.le_refl _) _
end Go.Proofs.YtepjcdjpikbbjaaGreatDoor

/-
  event.Read at a line of a family that is put.
-/
namespace Go.Proofs.YtepjcdjpikbbjaaGreatDoor
open Go.RowKit Go.Sort

theorem read_start (s : ByteArray) (W : World) (hs : s.size ≤ 5000) (h : WB W W) (he : ErrVars W) :
    Calls Tryz.prog 13 #[.string s, .string ⟨#[32]⟩] (W.alloc (.cells (evCs Ev.zero) 116)) fun x w1 => ∃ g cap, x = .returned (.slice (some ⟨g, 0, none⟩) (parts 32 s.data.toList).length cap) ∧
      RE W w1.heap.size (w1.heap.size + 1) (parts 32 s.data.toList, false) Ev.zero ((w1.alloc (.cells #[.slice (some ⟨g, 0, none⟩) (parts 32 s.data.toList).length cap, .bool false] 201)).alloc (.cells (evCs Ev.zero) 116)) := by
  have hz : (W.alloc (.cells (evCs Ev.zero) 116)).heap.size = W.heap.size + 1 := by simp
  have hb0 : Below W.heap.size W (W.alloc (.cells (evCs Ev.zero) 116)) := (Below.refl _ _).alloc (Nat.le_refl _) _
  have hsm : ∀ x ∈ parts 32 s.data.toList, x.length ≤ 5000 := parts_word_len 32 _ _ (by rw [size_data]; exact hs)
  refine (split_row 32 s (W.heap.size + 1) (W.alloc (.cells (evCs Ev.zero) 116)) (by omega) (h.maxl.below hb0 h.maxl.lt) (by omega)).mono ?_
  rintro x w1 ⟨v, rfl, hr, hb⟩
  obtain ⟨g, cap, rfl, _⟩ := id hr
  exact ⟨g, cap, rfl, RE.start h he hsm hr (by rw [← hz]; exact hb)⟩
theorem p_list (x : List UInt8) (c : UInt8) : ((txt x).toList == [c]) = decide (x = [c]) := by
  rw [toList_txt, Bool.eq_iff_iff]
  simp

set_option maxHeartbeats 8000000 in
set_option maxRecDepth 100000 in
theorem read_p (s : ByteArray) (W : World) (hs : s.size ≤ 5000) (h : WB W W) (he : ErrVars W) (hp : nextV (parts 32 s.data.toList, false) = [112]) :
    Calls Tryz.prog 106 #[.string s] W (ReadGot W (progRE (parts 32 s.data.toList, false)) (progRN (parts 32 s.data.toList, false))) := by
  have HSP := Lib.hid (read_start s W hs h he)
  have hE : progE (parts 32 s.data.toList, false) = (⟨1, famV (nextS (parts 32 s.data.toList, false)), 0, 0⟩, famS (nextS (parts 32 s.data.toList, false))) := by unfold progE; rw [if_pos hp]
  have HSH := Lib.hid (progE_short (st := (parts 32 s.data.toList, false)) (parts_word_len 32 _ _ (by rw [size_data]; exact hs)))
  have HY := Lib.hid (@prog_yes (parts 32 s.data.toList, false))
  have HN := Lib.hid (@prog_no (parts 32 s.data.toList, false))
  rw [hE] at HY HN HSH
  clear h he hE
  generalize progRE (parts 32 s.data.toList, false) = eR at *
  generalize progRN (parts 32 s.data.toList, false) = nR at *
  have HP : Hid (txt (nextV (parts 32 s.data.toList, false)) = ⟨#[112]⟩) := Lib.hid (by rw [hp]; rfl)
  clear hp
  generalize parts 32 s.data.toList = L at *
  unfold evCs Ev.zero Fam.zero at HSP
  dsimp only at HSP
  go_enter Tryz.func106, Tryz.ntmps106
  go_wp2_with fail
  go_at_call 13
  refine HSP.out.mono ?_
  rintro x w1 ⟨g, cap, rfl, h1⟩
  have H := Lib.hid h1
  clear h1
  go_wp2_with fail
  generalize ((w1.alloc (.cells #[.slice (some ⟨g, 0, none⟩) L.length cap, .bool false] 201)).alloc (.cells #[.int .i64 0, .int .i64 0, .string ⟨#[]⟩, .string ⟨#[]⟩, .string ⟨#[]⟩, .int .i64 0, .int .i64 0, .int .i64 0, .string ⟨#[]⟩, .bool false, .int .i64 0, .int .i64 0] 116)) = w2 at *
  have hre : w1.heap.size + 1 = w1.heap.size + 1 := rfl
  generalize w1.heap.size + 1 = eb at H hre ⊢
  generalize w1.heap.size = rb at *
  go_at_call 156
  refine (rs_next H.out.rs).mono ?_
  rintro x w3 ⟨rfl, hr, hg⟩
  have H := Lib.hid (H.out.turn hr hg)
  clear hr hg
  rw [HP.out]
  generalize nextS (L, false) = st at *
  have c0 := H.out.ev.cell 0
  have f0 := H.out.ev.frozen 0
  unfold evCs at c0
  go_wp2_with fail
  have H := Lib.hid (H.out.set 0 (.int .i64 1) (e' := ⟨1, Fam.zero, 0, 0⟩) rfl)
  clear c0 f0
  generalize w3.setCell ⟨eb, 0, none⟩ (.int .i64 1) = w4 at *
  go_at_call 157
  refine (rs_num H.out.rs).mono ?_
  rintro x w5 ⟨rfl, hr, hg⟩
  have H := Lib.hid (H.out.turn hr hg)
  clear hr hg
  go_wp2_with fail
  go_at_call 158
  refine (rs_text H.out.rs).mono ?_
  rintro x w5 ⟨rfl, hr, hg⟩
  have H := Lib.hid (H.out.turn hr hg)
  clear hr hg
  go_wp2_with fail
  go_at_call 158
  refine (rs_text H.out.rs).mono ?_
  rintro x w5 ⟨rfl, hr, hg⟩
  have H := Lib.hid (H.out.turn hr hg)
  clear hr hg
  go_wp2_with fail
  go_at_call 158
  refine (rs_text H.out.rs).mono ?_
  rintro x w5 ⟨rfl, hr, hg⟩
  have H := Lib.hid (H.out.turn hr hg)
  clear hr hg
  go_wp2_with fail
  go_at_call 157
  refine (rs_num H.out.rs).mono ?_
  rintro x w5 ⟨rfl, hr, hg⟩
  have H := Lib.hid (H.out.turn hr hg)
  clear hr hg
  go_wp2_with fail
  go_at_call 157
  refine (rs_num H.out.rs).mono ?_
  rintro x w5 ⟨rfl, hr, hg⟩
  have H := Lib.hid (H.out.turn hr hg)
  clear hr hg
  go_wp2_with fail
  go_at_call 157
  refine (rs_num H.out.rs).mono ?_
  rintro x w5 ⟨rfl, hr, hg⟩
  have H := Lib.hid (H.out.turn hr hg)
  clear hr hg
  go_wp2_with fail
  go_at_call 158
  refine (rs_text H.out.rs).mono ?_
  rintro x w5 ⟨rfl, hr, hg⟩
  have H := Lib.hid (H.out.turn hr hg)
  clear hr hg
  have hfv : famV st = ⟨numV st, txt (textV (numS st)), txt (textV (textS (numS st))), txt (textV (textS (textS (numS st)))), numV (textS (textS (textS (numS st)))), numV (numS (textS (textS (textS (numS st))))), numV (numS (numS (textS (textS (textS (numS st)))))), txt (textV (numS (numS (numS (textS (textS (textS (numS st)))))))), decide (nextV (textS (numS (numS (numS (textS (textS (textS (numS st)))))))) = [49])⟩ := rfl
  have hfs : famS st = ((nextS (textS (numS (numS (numS (textS (textS (textS (numS st))))))))).1, (nextS (textS (numS (numS (numS (textS (textS (textS (numS st))))))))).2 || (!decide (nextV (textS (numS (numS (numS (textS (textS (textS (numS st)))))))) = [48]) && !decide (nextV (textS (numS (numS (numS (textS (textS (textS (numS st)))))))) = [49]))) := rfl
  rw [hfv, hfs] at HY HN
  rw [hfv] at HSH
  clear hfv hfs
  generalize textS (numS (numS (numS (textS (textS (textS (numS st))))))) = s8 at *
  generalize numV st = v1 at *
  generalize txt (textV (numS st)) = v2 at *
  generalize txt (textV (textS (numS st))) = v3 at *
  generalize txt (textV (textS (textS (numS st)))) = v4 at *
  generalize numV (textS (textS (textS (numS st)))) = v5 at *
  generalize numV (numS (textS (textS (textS (numS st))))) = v6 at *
  generalize numV (numS (numS (textS (textS (textS (numS st)))))) = v7 at *
  generalize txt (textV (numS (numS (numS (textS (textS (textS (numS st)))))))) = v8 at *
  obtain ⟨hc, hf, _, _⟩ := H.out.facts
  have c1 := hc 1
  have c2 := hc 2
  have c3 := hc 3
  have c4 := hc 4
  have c5 := hc 5
  have c6 := hc 6
  have c7 := hc 7
  have c8 := hc 8
  have c9 := hc 9
  have f1 := hf 1
  have f2 := hf 2
  have f3 := hf 3
  have f4 := hf 4
  have f5 := hf 5
  have f6 := hf 6
  have f7 := hf 7
  have f8 := hf 8
  have f9 := hf 9
  clear hc hf
  unfold evCs Fam.zero at c1 c2 c3 c4 c5 c6 c7 c8 c9
  dsimp only at c1 c2 c3 c4 c5 c6 c7 c8 c9
  go_wp2_with fail
  have H := Lib.hid (H.out.fam ⟨v1, v2, v3, v4, v5, v6, v7, v8, false⟩)
  dsimp only at H
  clear c1 c2 c3 c4 c5 c6 c7 c8 c9 f1 f2 f3 f4 f5 f6 f7 f8 f9
  generalize (((((((((w5.setCell ⟨eb, 1, none⟩ (.int .i64 v1)).setCell ⟨eb, 2, none⟩ (.string v2)).setCell ⟨eb, 3, none⟩ (.string v3)).setCell ⟨eb, 4, none⟩ (.string v4)).setCell ⟨eb, 5, none⟩ (.int .i64 v5)).setCell ⟨eb, 6, none⟩ (.int .i64 v6)).setCell ⟨eb, 7, none⟩ (.int .i64 v7)).setCell ⟨eb, 8, none⟩ (.string v8)).setCell ⟨eb, 9, none⟩ (.bool false)) = w6 at *
  go_at_call 156
  refine (rs_next H.out.rs).mono ?_
  rintro x w7 ⟨rfl, hr, hg⟩
  have H := Lib.hid (H.out.turn hr hg)
  clear hr hg
  have e48 := p_list (nextV s8) 48
  have e49 := p_list (nextV s8) 49
  generalize decide (nextV s8 = [48]) = d48 at *
  generalize decide (nextV s8 = [49]) = d49 at *
  generalize txt (nextV s8) = y at *
  generalize nextS s8 = s9 at *
  obtain ⟨ws9, b9⟩ := s9
  dsimp only at HY HN HSH
  have hlt := H.out.n2
  have hlt1 := H.out.n1
  have hcases : (b9 = true ∨ (b9 = false ∧ d48 = false ∧ d49 = false)) ∨ (b9 = false ∧ d48 = true) ∨ (b9 = false ∧ d48 = false ∧ d49 = true) := by
    cases b9 <;> cases d48 <;> cases d49 <;> simp
  rcases hcases with (rfl | ⟨rfl, rfl, rfl⟩) | ⟨rfl, rfl⟩ | ⟨rfl, rfl, rfl⟩
  · obtain ⟨rfl, rfl⟩ := HN.out (.inl (by simp))
    obtain ⟨hc, hf, hrc, hrf⟩ := H.out.facts
    obtain ⟨A, cap2, k0, k1, k2⟩ := H.out.words
    have c0 := hc 0
    have f0 := hf 0
    have r0 := hrc 0
    have q0 := hrf 0
    have c1 := hc 1
    have f1 := hf 1
    have r1 := hrc 1
    have q1 := hrf 1
    have c2 := hc 2
    have f2 := hf 2
    have r2 := hrc 2
    have q2 := hrf 2
    have c3 := hc 3
    have f3 := hf 3
    have r3 := hrc 3
    have q3 := hrf 3
    have c4 := hc 4
    have f4 := hf 4
    have r4 := hrc 4
    have q4 := hrf 4
    have c5 := hc 5
    have f5 := hf 5
    have r5 := hrc 5
    have q5 := hrf 5
    have c6 := hc 6
    have f6 := hf 6
    have r6 := hrc 6
    have q6 := hrf 6
    have c7 := hc 7
    have f7 := hf 7
    have r7 := hrc 7
    have q7 := hrf 7
    have c8 := hc 8
    have f8 := hf 8
    have r8 := hrc 8
    have q8 := hrf 8
    have c9 := hc 9
    have f9 := hf 9
    have r9 := hrc 9
    have q9 := hrf 9
    have c10 := hc 10
    have f10 := hf 10
    have r10 := hrc 10
    have q10 := hrf 10
    have c11 := hc 11
    have f11 := hf 11
    have r11 := hrc 11
    have q11 := hrf 11
    clear hc hf hrc hrf
    unfold evCs at c0 c1 c2 c3 c4 c5 c6 c7 c8 c9 c10 c11
    unfold evCs Ev.zero Fam.zero at r0 r1 r2 r3 r4 r5 r6 r7 r8 r9 r10 r11
    dsimp only at c0 c1 c2 c3 c4 c5 c6 c7 c8 c9 c10 c11 r0 r1 r2 r3 r4 r5 r6 r7 r8 r9 r10 r11 k0 k1
    go_wp2_with fail
    have H := Lib.hid (H.out.set 9 (.bool d49) (e' := ⟨1, ⟨v1, v2, v3, v4, v5, v6, v7, v8, d49⟩, 0, 0⟩) rfl)
    have H := Lib.hid (H.out.setBad true)
    exact read_end (e := Ev.zero) (res_below (e' := Ev.zero) H.out.rs.below) (res_sets (e' := Ev.zero) H.out.res) rfl rfl rfl
  · obtain ⟨rfl, rfl⟩ := HN.out (.inl (by simp))
    obtain ⟨hc, hf, hrc, hrf⟩ := H.out.facts
    obtain ⟨A, cap2, k0, k1, k2⟩ := H.out.words
    have c0 := hc 0
    have f0 := hf 0
    have r0 := hrc 0
    have q0 := hrf 0
    have c1 := hc 1
    have f1 := hf 1
    have r1 := hrc 1
    have q1 := hrf 1
    have c2 := hc 2
    have f2 := hf 2
    have r2 := hrc 2
    have q2 := hrf 2
    have c3 := hc 3
    have f3 := hf 3
    have r3 := hrc 3
    have q3 := hrf 3
    have c4 := hc 4
    have f4 := hf 4
    have r4 := hrc 4
    have q4 := hrf 4
    have c5 := hc 5
    have f5 := hf 5
    have r5 := hrc 5
    have q5 := hrf 5
    have c6 := hc 6
    have f6 := hf 6
    have r6 := hrc 6
    have q6 := hrf 6
    have c7 := hc 7
    have f7 := hf 7
    have r7 := hrc 7
    have q7 := hrf 7
    have c8 := hc 8
    have f8 := hf 8
    have r8 := hrc 8
    have q8 := hrf 8
    have c9 := hc 9
    have f9 := hf 9
    have r9 := hrc 9
    have q9 := hrf 9
    have c10 := hc 10
    have f10 := hf 10
    have r10 := hrc 10
    have q10 := hrf 10
    have c11 := hc 11
    have f11 := hf 11
    have r11 := hrc 11
    have q11 := hrf 11
    clear hc hf hrc hrf
    unfold evCs at c0 c1 c2 c3 c4 c5 c6 c7 c8 c9 c10 c11
    unfold evCs Ev.zero Fam.zero at r0 r1 r2 r3 r4 r5 r6 r7 r8 r9 r10 r11
    dsimp only at c0 c1 c2 c3 c4 c5 c6 c7 c8 c9 c10 c11 r0 r1 r2 r3 r4 r5 r6 r7 r8 r9 r10 r11 k0 k1
    go_wp2_with fail
    have H := Lib.hid (H.out.set 9 (.bool false) (e' := ⟨1, ⟨v1, v2, v3, v4, v5, v6, v7, v8, false⟩, 0, 0⟩) rfl)
    have H := Lib.hid (H.out.setBad true)
    exact read_end (e := Ev.zero) (res_below (e' := Ev.zero) H.out.rs.below) (res_sets (e' := Ev.zero) H.out.res) rfl rfl rfl
  · obtain ⟨hc, hf, hrc, hrf⟩ := H.out.facts
    obtain ⟨A, cap2, k0, k1, k2⟩ := H.out.words
    have c0 := hc 0
    have f0 := hf 0
    have r0 := hrc 0
    have q0 := hrf 0
    have c1 := hc 1
    have f1 := hf 1
    have r1 := hrc 1
    have q1 := hrf 1
    have c2 := hc 2
    have f2 := hf 2
    have r2 := hrc 2
    have q2 := hrf 2
    have c3 := hc 3
    have f3 := hf 3
    have r3 := hrc 3
    have q3 := hrf 3
    have c4 := hc 4
    have f4 := hf 4
    have r4 := hrc 4
    have q4 := hrf 4
    have c5 := hc 5
    have f5 := hf 5
    have r5 := hrc 5
    have q5 := hrf 5
    have c6 := hc 6
    have f6 := hf 6
    have r6 := hrc 6
    have q6 := hrf 6
    have c7 := hc 7
    have f7 := hf 7
    have r7 := hrc 7
    have q7 := hrf 7
    have c8 := hc 8
    have f8 := hf 8
    have r8 := hrc 8
    have q8 := hrf 8
    have c9 := hc 9
    have f9 := hf 9
    have r9 := hrc 9
    have q9 := hrf 9
    have c10 := hc 10
    have f10 := hf 10
    have r10 := hrc 10
    have q10 := hrf 10
    have c11 := hc 11
    have f11 := hf 11
    have r11 := hrc 11
    have q11 := hrf 11
    clear hc hf hrc hrf
    unfold evCs at c0 c1 c2 c3 c4 c5 c6 c7 c8 c9 c10 c11
    unfold evCs Ev.zero Fam.zero at r0 r1 r2 r3 r4 r5 r6 r7 r8 r9 r10 r11
    dsimp only at c0 c1 c2 c3 c4 c5 c6 c7 c8 c9 c10 c11 r0 r1 r2 r3 r4 r5 r6 r7 r8 r9 r10 r11 k0 k1
    by_cases hw : ws9.length = 0
    · have HRT := Lib.hid (fun w (hm : MaxL w) => ev_right ⟨1, ⟨v1, v2, v3, v4, v5, v6, v7, v8, d49⟩, 0, 0⟩ w HSH.out hm)
      have H8 := Lib.hid ((H.out.set 9 (.bool d49) (e' := ⟨1, ⟨v1, v2, v3, v4, v5, v6, v7, v8, d49⟩, 0, 0⟩) rfl).setBad false)
      generalize hbe : evB ⟨1, ⟨v1, v2, v3, v4, v5, v6, v7, v8, d49⟩, 0, 0⟩ = bE at *
      unfold evVal evCs at HRT
      dsimp only at HRT
      clear hbe
      go_wp2_with fail
      generalize (w7.setCell ⟨eb, 9, none⟩ (.bool d49)).setCell ⟨rb, 1, none⟩ (.bool false) = w8 at *
      go_at_call 159
      refine (HRT.out _ H8.out.rs.wb.maxl).mono ?_
      rintro x w9 ⟨rfl, hb⟩
      have H := Lib.hid (H8.out.keep hb)
      clear hb H8
      clear c0 f0 r0 q0 c1 f1 r1 q1 c2 f2 r2 q2 c3 f3 r3 q3 c4 f4 r4 q4 c5 f5 r5 q5 c6 f6 r6 q6 c7 f7 r7 q7 c8 f8 r8 q8 c9 f9 r9 q9 c10 f10 r10 q10 c11 f11 r11 q11 k0 k1 k2
      obtain ⟨hc, hf, hrc, hrf⟩ := H.out.facts
      obtain ⟨A, cap2, k0, k1, k2⟩ := H.out.words
      have c0 := hc 0
      have f0 := hf 0
      have r0 := hrc 0
      have q0 := hrf 0
      have c1 := hc 1
      have f1 := hf 1
      have r1 := hrc 1
      have q1 := hrf 1
      have c2 := hc 2
      have f2 := hf 2
      have r2 := hrc 2
      have q2 := hrf 2
      have c3 := hc 3
      have f3 := hf 3
      have r3 := hrc 3
      have q3 := hrf 3
      have c4 := hc 4
      have f4 := hf 4
      have r4 := hrc 4
      have q4 := hrf 4
      have c5 := hc 5
      have f5 := hf 5
      have r5 := hrc 5
      have q5 := hrf 5
      have c6 := hc 6
      have f6 := hf 6
      have r6 := hrc 6
      have q6 := hrf 6
      have c7 := hc 7
      have f7 := hf 7
      have r7 := hrc 7
      have q7 := hrf 7
      have c8 := hc 8
      have f8 := hf 8
      have r8 := hrc 8
      have q8 := hrf 8
      have c9 := hc 9
      have f9 := hf 9
      have r9 := hrc 9
      have q9 := hrf 9
      have c10 := hc 10
      have f10 := hf 10
      have r10 := hrc 10
      have q10 := hrf 10
      have c11 := hc 11
      have f11 := hf 11
      have r11 := hrc 11
      have q11 := hrf 11
      clear hc hf hrc hrf
      unfold evCs at c0 c1 c2 c3 c4 c5 c6 c7 c8 c9 c10 c11
      unfold evCs Ev.zero Fam.zero at r0 r1 r2 r3 r4 r5 r6 r7 r8 r9 r10 r11
      dsimp only at c0 c1 c2 c3 c4 c5 c6 c7 c8 c9 c10 c11 r0 r1 r2 r3 r4 r5 r6 r7 r8 r9 r10 r11 k0 k1
      cases bE
      · obtain ⟨rfl, rfl⟩ := HN.out (.inr (.inr rfl))
        go_wp2_with fail
        exact read_end (e := Ev.zero) (res_below (e' := Ev.zero) H.out.rs.below) (res_sets (e' := Ev.zero) H.out.res) rfl rfl rfl
      · obtain ⟨rfl, rfl⟩ := HY.out (by simp) hw rfl
        go_wp2_with fail
        exact read_end (e := ⟨1, ⟨v1, v2, v3, v4, v5, v6, v7, v8, d49⟩, 0, 0⟩) (res_below (e' := ⟨1, ⟨v1, v2, v3, v4, v5, v6, v7, v8, d49⟩, 0, 0⟩) H.out.rs.below) (res_sets (e' := ⟨1, ⟨v1, v2, v3, v4, v5, v6, v7, v8, d49⟩, 0, 0⟩) H.out.res) rfl rfl rfl
    · obtain ⟨rfl, rfl⟩ := HN.out (.inr (.inl hw))
      go_wp2_with fail
      have H := Lib.hid ((H.out.set 9 (.bool d49) (e' := ⟨1, ⟨v1, v2, v3, v4, v5, v6, v7, v8, d49⟩, 0, 0⟩) rfl).setBad false)
      exact read_end (e := Ev.zero) (res_below (e' := Ev.zero) H.out.rs.below) (res_sets (e' := Ev.zero) H.out.res) rfl rfl rfl
  · obtain ⟨hc, hf, hrc, hrf⟩ := H.out.facts
    obtain ⟨A, cap2, k0, k1, k2⟩ := H.out.words
    have c0 := hc 0
    have f0 := hf 0
    have r0 := hrc 0
    have q0 := hrf 0
    have c1 := hc 1
    have f1 := hf 1
    have r1 := hrc 1
    have q1 := hrf 1
    have c2 := hc 2
    have f2 := hf 2
    have r2 := hrc 2
    have q2 := hrf 2
    have c3 := hc 3
    have f3 := hf 3
    have r3 := hrc 3
    have q3 := hrf 3
    have c4 := hc 4
    have f4 := hf 4
    have r4 := hrc 4
    have q4 := hrf 4
    have c5 := hc 5
    have f5 := hf 5
    have r5 := hrc 5
    have q5 := hrf 5
    have c6 := hc 6
    have f6 := hf 6
    have r6 := hrc 6
    have q6 := hrf 6
    have c7 := hc 7
    have f7 := hf 7
    have r7 := hrc 7
    have q7 := hrf 7
    have c8 := hc 8
    have f8 := hf 8
    have r8 := hrc 8
    have q8 := hrf 8
    have c9 := hc 9
    have f9 := hf 9
    have r9 := hrc 9
    have q9 := hrf 9
    have c10 := hc 10
    have f10 := hf 10
    have r10 := hrc 10
    have q10 := hrf 10
    have c11 := hc 11
    have f11 := hf 11
    have r11 := hrc 11
    have q11 := hrf 11
    clear hc hf hrc hrf
    unfold evCs at c0 c1 c2 c3 c4 c5 c6 c7 c8 c9 c10 c11
    unfold evCs Ev.zero Fam.zero at r0 r1 r2 r3 r4 r5 r6 r7 r8 r9 r10 r11
    dsimp only at c0 c1 c2 c3 c4 c5 c6 c7 c8 c9 c10 c11 r0 r1 r2 r3 r4 r5 r6 r7 r8 r9 r10 r11 k0 k1
    by_cases hw : ws9.length = 0
    · have HRT := Lib.hid (fun w (hm : MaxL w) => ev_right ⟨1, ⟨v1, v2, v3, v4, v5, v6, v7, v8, true⟩, 0, 0⟩ w HSH.out hm)
      have H8 := Lib.hid ((H.out.set 9 (.bool true) (e' := ⟨1, ⟨v1, v2, v3, v4, v5, v6, v7, v8, true⟩, 0, 0⟩) rfl).setBad false)
      generalize hbe : evB ⟨1, ⟨v1, v2, v3, v4, v5, v6, v7, v8, true⟩, 0, 0⟩ = bE at *
      unfold evVal evCs at HRT
      dsimp only at HRT
      clear hbe
      go_wp2_with fail
      generalize (w7.setCell ⟨eb, 9, none⟩ (.bool true)).setCell ⟨rb, 1, none⟩ (.bool false) = w8 at *
      go_at_call 159
      refine (HRT.out _ H8.out.rs.wb.maxl).mono ?_
      rintro x w9 ⟨rfl, hb⟩
      have H := Lib.hid (H8.out.keep hb)
      clear hb H8
      clear c0 f0 r0 q0 c1 f1 r1 q1 c2 f2 r2 q2 c3 f3 r3 q3 c4 f4 r4 q4 c5 f5 r5 q5 c6 f6 r6 q6 c7 f7 r7 q7 c8 f8 r8 q8 c9 f9 r9 q9 c10 f10 r10 q10 c11 f11 r11 q11 k0 k1 k2
      obtain ⟨hc, hf, hrc, hrf⟩ := H.out.facts
      obtain ⟨A, cap2, k0, k1, k2⟩ := H.out.words
      have c0 := hc 0
      have f0 := hf 0
      have r0 := hrc 0
      have q0 := hrf 0
      have c1 := hc 1
      have f1 := hf 1
      have r1 := hrc 1
      have q1 := hrf 1
      have c2 := hc 2
      have f2 := hf 2
      have r2 := hrc 2
      have q2 := hrf 2
      have c3 := hc 3
      have f3 := hf 3
      have r3 := hrc 3
      have q3 := hrf 3
      have c4 := hc 4
      have f4 := hf 4
      have r4 := hrc 4
      have q4 := hrf 4
      have c5 := hc 5
      have f5 := hf 5
      have r5 := hrc 5
      have q5 := hrf 5
      have c6 := hc 6
      have f6 := hf 6
      have r6 := hrc 6
      have q6 := hrf 6
      have c7 := hc 7
      have f7 := hf 7
      have r7 := hrc 7
      have q7 := hrf 7
      have c8 := hc 8
      have f8 := hf 8
      have r8 := hrc 8
      have q8 := hrf 8
      have c9 := hc 9
      have f9 := hf 9
      have r9 := hrc 9
      have q9 := hrf 9
      have c10 := hc 10
      have f10 := hf 10
      have r10 := hrc 10
      have q10 := hrf 10
      have c11 := hc 11
      have f11 := hf 11
      have r11 := hrc 11
      have q11 := hrf 11
      clear hc hf hrc hrf
      unfold evCs at c0 c1 c2 c3 c4 c5 c6 c7 c8 c9 c10 c11
      unfold evCs Ev.zero Fam.zero at r0 r1 r2 r3 r4 r5 r6 r7 r8 r9 r10 r11
      dsimp only at c0 c1 c2 c3 c4 c5 c6 c7 c8 c9 c10 c11 r0 r1 r2 r3 r4 r5 r6 r7 r8 r9 r10 r11 k0 k1
      cases bE
      · obtain ⟨rfl, rfl⟩ := HN.out (.inr (.inr rfl))
        go_wp2_with fail
        exact read_end (e := Ev.zero) (res_below (e' := Ev.zero) H.out.rs.below) (res_sets (e' := Ev.zero) H.out.res) rfl rfl rfl
      · obtain ⟨rfl, rfl⟩ := HY.out (by simp) hw rfl
        go_wp2_with fail
        exact read_end (e := ⟨1, ⟨v1, v2, v3, v4, v5, v6, v7, v8, true⟩, 0, 0⟩) (res_below (e' := ⟨1, ⟨v1, v2, v3, v4, v5, v6, v7, v8, true⟩, 0, 0⟩) H.out.rs.below) (res_sets (e' := ⟨1, ⟨v1, v2, v3, v4, v5, v6, v7, v8, true⟩, 0, 0⟩) H.out.res) rfl rfl rfl
    · obtain ⟨rfl, rfl⟩ := HN.out (.inr (.inl hw))
      go_wp2_with fail
      have H := Lib.hid ((H.out.set 9 (.bool true) (e' := ⟨1, ⟨v1, v2, v3, v4, v5, v6, v7, v8, true⟩, 0, 0⟩) rfl).setBad false)
      exact read_end (e := Ev.zero) (res_below (e' := Ev.zero) H.out.rs.below) (res_sets (e' := Ev.zero) H.out.res) rfl rfl rfl
end Go.Proofs.YtepjcdjpikbbjaaGreatDoor
