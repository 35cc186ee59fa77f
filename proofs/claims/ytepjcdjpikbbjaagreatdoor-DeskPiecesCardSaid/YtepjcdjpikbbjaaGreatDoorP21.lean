/-
  A service: Tick.
-/
import Derived.Test.YtepjcdjpikbbjaaGreatDoorP20
namespace Go.Proofs.YtepjcdjpikbbjaaGreatDoor
open Go.RowKit Go.Sort

section
variable {B vb sb db k : Nat} {r : Ru} {z : SS} {v : Value} {W : World}
set_option maxHeartbeats 4000000 in
set_option maxRecDepth 100000 in
theorem svc_tick (h : SW B vb sb db k r z v W) (hk : k < 1000000) (n : Int) :
    Calls Tryz.prog 135 #[.pointer (some ⟨vb, 0, none⟩), .int .i64 n] W (PlanU W B vb sb db k r z (tickP z.s n)) := by
  have HST := Lib.hid (fun w (h : SW B vb sb db k r z v w) => (sx_state h.sx).mono fun _ _ h => got_as h)
  have hfit := h.sx.fit
  have H := Lib.hid h
  clear h
  by_cases hn : okN n = true
  · obtain ⟨hn0, hn1⟩ := okN_iff.1 hn
    have hp : tickP z.s n = .put (tickEv (capN z.s.clock n)) () 0 := by unfold tickP; rw [hn]; rfl
    have HP := Lib.hid hp
    have HAD := Lib.hid (fun w => svc_add z.s.clock n w (okN_iff.1 hfit.clock) ⟨hn0, hn1⟩)
    have HA : Hid (∀ w, SX B sb db k z v w → Calls Tryz.prog 190 #[.pointer (some ⟨sb, 0, none⟩), evVal (tickEv (capN z.s.clock n))] w (DoneX w B sb db k (addS z (tickEv (capN z.s.clock n))))) := Lib.hid fun w h => sx_add h hk _ (by show Fam.zero.short 5000; unfold Fam.short Fam.zero; dsimp only; refine ⟨by decide, by decide, by decide, by decide⟩)
    generalize hQ : addS z (tickEv (capN z.s.clock n)) = q at *
    have HQ := Lib.hid hQ
    generalize capN z.s.clock n = cn at *
    unfold evVal evCs tickEv at HA
    unfold Fam.zero at HA
    dsimp only at HA
    obtain ⟨c0, c1, c2, c3, c4, hlt⟩ := H.out.five
    clear hp hn hfit hQ c1 c2 c3 c4
    go_enter Tryz.func135, Tryz.ntmps135
    go_wp2_with fail
    have HSD := Lib.hid H.out.drew
    have HD : W.drew.cell? ⟨vb, 0, none⟩ = some (.pointer (some ⟨sb, 0, none⟩)) := c0
    clear c0 hlt
    go_region_held3 (fun w' => w'.cell? ⟨vb, 0, none⟩ = some (.pointer (some ⟨sb, 0, none⟩)))
      (first
        | with_reducible assumption
        | with_reducible exact HD)
      (first
        | (go_at_call 184; (with_reducible refine (HAD.out _).mono ?_); rintro x' w2 ⟨rfl, rfl⟩)
        | (go_at_call 177; (with_reducible refine (HST.out _ HSD.out).mono ?_); rintro x' w2 ⟨a4, ac4, rfl, hr4, hb⟩
           have HS2 := Lib.hid (HSD.out.keep hb)
           have HB2 := Lib.hid (below_2 (below_dr (Below.refl W.heap.size W)) hb)
           have hx2 := HS2.out.five.1
           have hsc := st_clock z.s.clock z.s.next a4 z.s.fams.length ac4
           clear hr4 hb)
        | (go_at_call 190; (with_reducible refine (HA.out _ HS2.out.sx).mono ?_); rintro x' w2 ⟨rfl, htw, v2, hsx⟩
           have hend : PutX W B vb sb db k r q (.returned (errV q.2)) w2 := ⟨rfl, (Two.of_below HB2.out).trans htw, v2, HS2.out.two htw hsx⟩
           have hx2 := (HS2.out.two htw hsx).five.1))
    go_wp2_with fail
    go_ret
    obtain ⟨-, htw, v3, h3⟩ := hend
    rw [HP.out, ← HQ.out]
    rw [← HQ.out] at h3
    exact PlanU.put htw h3
  · have hp : tickP z.s n = .say () 2 := by unfold tickP; rw [if_pos (by simpa using hn)]
    have HP := Lib.hid hp
    have hbad : n < 0 ∨ 1099511627776 < n := by
      by_cases h0 : n < 0
      · exact .inl h0
      · exact .inr (by by_cases h1 : 1099511627776 < n; exact h1; exact absurd (okN_iff.2 ⟨by omega, by omega⟩) hn)
    clear hp hn
    rcases hbad with hbad | hbad
    · go_enter Tryz.func135, Tryz.ntmps135
      go_wp2_with fail
      go_ret
      rw [HP.out]
      exact PlanU.say H.out (Below.refl _ _) _ (errV_n (by decide)).symm
    · have h0 : ¬ n < 0 := by omega
      go_enter Tryz.func135, Tryz.ntmps135
      go_wp2_with fail
      go_ret
      rw [HP.out]
      exact PlanU.say H.out (Below.refl _ _) _ (errV_n (by decide)).symm
end
end Go.Proofs.YtepjcdjpikbbjaaGreatDoor

/-
  A service: Mint, Show, State.
-/
namespace Go.Proofs.YtepjcdjpikbbjaaGreatDoor
open Go.RowKit Go.Sort

theorem liveR_e (r : Ru) (s : St) (t : ByteArray) (kind : Int) : (liveR r s t kind).e = liveE r s (tokOf r t) kind := by
  unfold liveR liveE
  by_cases h1 : (tokOf r t).1 ≠ 0
  · rw [if_pos h1, if_pos h1]
  · rw [if_neg h1, if_neg h1]
    by_cases h2 : (tokOf r t).2.1 ≠ kind
    · rw [if_pos h2, if_pos h2]
    · rw [if_neg h2, if_neg h2]
      rcases findF s.fams (tokOf r t).2.2.1 with _ | f
      · rfl
      · rcases hd : f.dead with _ | _
        · rcases ho : oldB r s.clock f with _ | _ <;> simp [hd, ho]
        · simp [hd]
/-- a token that lives: what live gives is what it is said to be -/
theorem liveR_yes {r : Ru} {s : St} {t : ByteArray} {kind : Int} (h : liveE r s (tokOf r t) kind = 0) :
    (liveR r s t kind).gen = (tokOf r t).2.2.2.1 ∧ (liveR r s t kind).ends = (tokOf r t).2.2.2.2 ∧ (liveR r s t kind).f = liveF s (tokOf r t) ∧ liveF s (tokOf r t) ∈ s.fams ∧ findF s.fams (tokOf r t).2.2.1 = some (liveF s (tokOf r t)) := by
  unfold liveE at h
  unfold liveR liveF
  by_cases h1 : (tokOf r t).1 ≠ 0
  · rw [if_pos h1] at h
    exact absurd h h1
  · rw [if_neg h1] at h
    rw [if_neg h1, if_neg h1]
    by_cases h2 : (tokOf r t).2.1 ≠ kind
    · rw [if_pos h2] at h
      cases h
    · rw [if_neg h2] at h
      rw [if_neg h2]
      rcases hf : findF s.fams (tokOf r t).2.2.1 with _ | f
      · rw [hf] at h
        cases h
      · rw [hf] at h
        rcases hd : f.dead with _ | _
        · rcases ho : oldB r s.clock f with _ | _
          · simp only [hd, ho]
            refine ⟨by simp, by simp, by simp, ?_, by simp⟩
            exact List.mem_of_find?_eq_some hf
          · simp [hd, ho] at h
        · simp [hd] at h
theorem svc_state_end {W w : World} {A : Act} {s : St} {v : Value} (hr : FRow w W.heap.size v s.fams) (h1 : v.ownBlock ≠ some W.heap.size) (hb : Below W.heap.size W w)
    (h3 : Blk w W.heap.size 83 #[.int .i64 0, .int .i64 0, .slice none 0 0]) 
    (hp : A.tmps.getD 2 undef = .pointer (some ⟨W.heap.size, 0, none⟩)) (hd : A.defers = []) :
    bodyPost Tryz.prog Tryz.f120 (ApplyGot W s) Exit.ret A (((w.setCell ⟨W.heap.size, 0, none⟩ (.int .i64 s.clock)).setCell ⟨W.heap.size, 1, none⟩ (.int .i64 s.next)).setCell ⟨W.heap.size, 2, none⟩ v) := by
  have e1 := h3.put_ 0 (.int .i64 s.clock) (cs' := #[.int .i64 s.clock, .int .i64 0, .slice none 0 0]) rfl
  have e2 := e1.put_ 1 (.int .i64 s.next) (cs' := #[.int .i64 s.clock, .int .i64 s.next, .slice none 0 0]) rfl
  have e3 := e2.put_ 2 v (cs' := stCs s v) rfl
  have g1 := only_set1 w W.heap.size ⟨W.heap.size, 0, none⟩ rfl (.int .i64 s.clock)
  have g2 := only_setCell g1 (p := ⟨W.heap.size, 1, none⟩) (.inl rfl) (.int .i64 s.next)
  have g3 := only_setCell g2 (p := ⟨W.heap.size, 2, none⟩) (.inl rfl) v
  have kb3 := hb.grown g3 hb.size (fun j hj => by cases hj; exact Nat.le_refl _)
  have kr3 := hr.kept g3 h1
  generalize ((w.setCell ⟨W.heap.size, 0, none⟩ (.int .i64 s.clock)).setCell ⟨W.heap.size, 1, none⟩ (.int .i64 s.next)).setCell ⟨W.heap.size, 2, none⟩ v = w2 at *
  exact bodyPost_ret (results_cell_row rfl A.tmps w2 _ _ _ (0, 0) _ hp e3 Tryz.underlying83 rfl (by kernel_rfl)) hd ⟨v, rfl, kr3, kb3⟩
section
variable {B vb sb db k : Nat} {r : Ru} {z : SS} {v : Value} {W : World}
set_option maxHeartbeats 4000000 in
set_option maxRecDepth 100000 in
theorem svc_state (h : SW B vb sb db k r z v W) :
    Calls Tryz.prog 120 #[.pointer (some ⟨vb, 0, none⟩)] W (ApplyGot W z.s) := by
  have HST := Lib.hid (fun w (h : SW B vb sb db k r z v w) => (sx_state h.sx).mono fun _ _ h => got_as h)
  have hal := (Below.refl W.heap.size W).alloc (Nat.le_refl _) (.cells #[.int .i64 0, .int .i64 0, .slice none 0 0] 83)
  have HAL := Lib.hid hal
  have H1 := Lib.hid (h.keep hal)
  have H3 := Lib.hid (Blk.new W 83 #[.int .i64 0, .int .i64 0, .slice none 0 0])
  have HSZ := Lib.hid (show W.heap.size + 1 ≤ (W.alloc (.cells #[.int .i64 0, .int .i64 0, .slice none 0 0] 83)).heap.size by simp)
  obtain ⟨c0, c1, c2, c3, c4, hlt⟩ := H1.out.five
  obtain ⟨s, lg, wr, of, lf, dn⟩ := z
  obtain ⟨ck, nx, L⟩ := s
  dsimp only at *
  clear h hal
  go_enter Tryz.func120, Tryz.ntmps120
  go_wp2_with fail
  go_at_call 177
  refine (HST.out _ H1.out).mono ?_
  rintro e w1 ⟨a, ac, rfl, hr, hb⟩
  have HR := Lib.hid hr
  have HB := Lib.hid (below_2 HAL.out hb)
  have h3 := H3.out.below' hb
  have H4 := Lib.hid h3
  have z3 := h3.frozen
  have l3 := h3.cell 0
  have l4 := h3.cell 1
  have l5 := h3.cell 2
  clear hr hb h3 c0 c1 c2 c3 c4 hlt HAL H1 H3 HST
  go_wp2_with fail
  have hz := HSZ.out
  exact svc_state_end (s := ⟨ck, nx, L⟩) (HR.out.mono (by omega)) (fun he => by have := (HR.out.lt _ he).1; omega) HB.out H4.out rfl rfl
end
end Go.Proofs.YtepjcdjpikbbjaaGreatDoor

/-
  A service: Show.
-/
namespace Go.Proofs.YtepjcdjpikbbjaaGreatDoor
open Go.RowKit Go.Sort

/-- what Show gives of what live gave -/
def showV (le : Int) (f : Fam) (qg qd ck : Int) : Fam × Int := if le ≠ 0 then (Fam.zero, le) else if f.gen < qg then (Fam.zero, 2) else if qd < ck then (Fam.zero, 10) else (f, 0)
theorem showP_eq (r : Ru) (s : St) (t : ByteArray) : showP r s t = showV (liveE r s (tokOf r t) 2) (liveF s (tokOf r t)) (tokOf r t).2.2.2.1 (tokOf r t).2.2.2.2 s.clock := by
  unfold showP showL showV
  rw [liveR_e]
  by_cases h : liveE r s (tokOf r t) 2 ≠ 0
  · rw [if_pos h, if_pos h]
  · rw [if_neg h, if_neg h]
    obtain ⟨h1, h2, h3, _⟩ := liveR_yes (r := r) (s := s) (t := t) (kind := 2) (by simpa using h)
    rw [h1, h2, h3]
def ShowGot (W : World) (q : Fam × Int) (e : Ending) (w' : World) : Prop := e = .returned (.tuple #[famVal q.1, errV q.2]) ∧ Below W.heap.size W w'
theorem show_end {W w : World} {A : Act} {f : Fam} {q : Fam × Int} (hb : Below W.heap.size W w) (hr : Blk w W.heap.size 95 (famCs f)) (hp : A.tmps.getD 4 undef = .pointer (some ⟨W.heap.size, 0, none⟩)) (hx : A.tmps.getD 5 undef = errV q.2) (hd : A.defers = []) (h : f = q.1) :
    bodyPost Tryz.prog Tryz.f133 (ShowGot W q) Exit.ret A w := by
  refine bodyPost_ret (results_row_tmp rfl A.tmps w _ _ _ _ _ hp hx hr Tryz.underlying95 rfl (by kernel_rfl)) hd ⟨?_, hb⟩
  rw [← h]
  rfl
section
variable {B vb sb db k : Nat} {r : Ru} {z : SS} {v : Value} {W : World}
set_option maxHeartbeats 4000000 in
set_option maxRecDepth 100000 in
theorem svc_show (h : SW B vb sb db k r z v W) (t : ByteArray) (ht : t.size ≤ 5000) :
    Calls Tryz.prog 133 #[.pointer (some ⟨vb, 0, none⟩), .string t] W (ShowGot W (showP r z.s t)) := by
  have HST := Lib.hid (fun w (h : SW B vb sb db k r z v w) => (sx_state h.sx).mono fun _ _ h => got_as h)
  have HL := Lib.hid (fun w (h : SW B vb sb db k r z v w) => svc_live h t 2 ht)
  rw [showP_eq]
  have hal := (Below.refl W.heap.size W).alloc (Nat.le_refl _) (.cells (famCs Fam.zero) 95)
  have HAL := Lib.hid hal
  have H1 := Lib.hid (h.keep hal)
  have HF1 := Lib.hid (Blk.new W 95 (famCs Fam.zero))
  unfold LiveGot v4 at HL
  unfold GotAs at HST
  unfold famCs Fam.zero at HAL H1 HF1
  dsimp only at HAL H1 HF1
  clear h hal
  generalize liveE r z.s (tokOf r t) 2 = le at *
  generalize liveF z.s (tokOf r t) = f at *
  generalize tokOf r t = q at *
  obtain ⟨qe, qk, qf, qg, qd⟩ := q
  obtain ⟨i, cl, su, scp, ge, ma, us, re, de⟩ := f
  unfold famVal famCs at HL
  dsimp only at HL
  dsimp only
  generalize z.s = s at *
  obtain ⟨ck, nx, L⟩ := s
  dsimp only at *
  go_enter Tryz.func133, Tryz.ntmps133
  go_wp2_with fail
  go_at_call 183
  refine (HL.out _ H1.out).mono ?_
  rintro e w1 ⟨rfl, hb⟩
  have HB1 := Lib.hid (below_2 HAL.out hb)
  have H2 := Lib.hid (H1.out.keep hb)
  have HF2 := Lib.hid (HF1.out.below' hb)
  have hfl := HF2.out.lt
  clear hb H1 HF1 HAL HL
  have hal := alloc2 w1 (.cells #[.int .i64 qk, .int .i64 qf, .int .i64 qg, .int .i64 qd] 182) (.cells #[.int .i64 i, .string cl, .string su, .string scp, .int .i64 ge, .int .i64 ma, .int .i64 us, .string re, .bool de] 95)
  have HT3 := Lib.hid ((Blk.new w1 182 #[.int .i64 qk, .int .i64 qf, .int .i64 qg, .int .i64 qd]).alloc (.cells #[.int .i64 i, .string cl, .string su, .string scp, .int .i64 ge, .int .i64 ma, .int .i64 us, .string re, .bool de] 95))
  have hg : Blk ((w1.alloc (.cells #[.int .i64 qk, .int .i64 qf, .int .i64 qg, .int .i64 qd] 182)).alloc (.cells #[.int .i64 i, .string cl, .string su, .string scp, .int .i64 ge, .int .i64 ma, .int .i64 us, .string re, .bool de] 95)) (w1.heap.size + 1) 95 #[.int .i64 i, .string cl, .string su, .string scp, .int .i64 ge, .int .i64 ma, .int .i64 us, .string re, .bool de] := by
    have := Blk.new (w1.alloc (.cells #[.int .i64 qk, .int .i64 qf, .int .i64 qg, .int .i64 qd] 182)) 95 #[.int .i64 i, .string cl, .string su, .string scp, .int .i64 ge, .int .i64 ma, .int .i64 us, .string re, .bool de]
    rw [show (w1.alloc (.cells #[.int .i64 qk, .int .i64 qf, .int .i64 qg, .int .i64 qd] 182)).heap.size = w1.heap.size + 1 by simp] at this
    exact this
  have HG3 := Lib.hid hg
  have H3 := Lib.hid (H2.out.keep hal)
  have HF3 := Lib.hid (HF2.out.below' hal)
  have HB3 := Lib.hid (below_2 HB1.out hal)
  have hz := HF2.out.frozen
  obtain ⟨z0, z1, z2, z3, z4, z5, z6, z7, z8⟩ := fam_cells HF2.out
  have hn0 : W.heap.size ≠ w1.heap.size := by omega
  have hn1 : W.heap.size ≠ w1.heap.size + 1 := by omega
  clear hal hg H2
  by_cases hle : le = 0
  · subst hle
    have e0 : errV 0 = .nilIface := errV_0
    rw [e0]
    clear e0
    by_cases h1 : ge < qg
    · have hq : showV 0 ⟨i, cl, su, scp, ge, ma, us, re, de⟩ qg qd ck = (Fam.zero, 2) := by unfold showV; rw [if_neg (by decide), if_pos h1]
      have HQ := Lib.hid hq
      clear hq H3 HT3 HG3 HF3 HB3
      go_wp2_with fail
      obtain ⟨n1, n2⟩ := nine_sets (f0 := Fam.zero) HF2.out 0 ⟨#[]⟩ ⟨#[]⟩ ⟨#[]⟩ 0 0 0 ⟨#[]⟩ false
      have hb5 := HB1.out.grown n2 HB1.out.size (fun i hi => by cases hi; exact Nat.le_refl _)
      have hb6 := hb5.alloc hb5.size (.cells #[.int .i64 qk, .int .i64 qf, .int .i64 qg, .int .i64 qd] 182)
      have hb7 := hb6.alloc hb6.size (.cells #[.int .i64 i, .string cl, .string su, .string scp, .int .i64 ge, .int .i64 ma, .int .i64 us, .string re, .bool de] 95)
      refine show_end hb7 ((n1.alloc _).alloc _) rfl ?_ rfl ?_
      · rw [HQ.out]; rfl
      · rw [HQ.out]; rfl
    · clear hz z0 z1 z2 z3 z4 z5 z6 z7 z8 HF2 HB1 hn0 hn1
      have H1N := Lib.hid h1
      go_wp2_with fail
      generalize (w1.alloc (.cells #[.int .i64 qk, .int .i64 qf, .int .i64 qg, .int .i64 qd] 182)).alloc (.cells #[.int .i64 i, .string cl, .string su, .string scp, .int .i64 ge, .int .i64 ma, .int .i64 us, .string re, .bool de] 95) = w3 at *
      have HSD := Lib.hid H3.out.drew
      have HTD := Lib.hid HT3.out.drew
      have HGD := Lib.hid HG3.out.drew
      have HFD := Lib.hid HF3.out.drew
      have HBD := Lib.hid (below_dr HB3.out)
      clear H3 HT3 HG3 HF3 HB3
      have HD : w3.drew.cell? ⟨vb, 0, none⟩ = some (.pointer (some ⟨sb, 0, none⟩)) ∧ w3.drew.cell? ⟨w1.heap.size, 3, none⟩ = some (.int .i64 qd) := ⟨HSD.out.five.1, HTD.out.cell 3⟩
      go_region_held3 (fun w' => w'.cell? ⟨vb, 0, none⟩ = some (.pointer (some ⟨sb, 0, none⟩)) ∧ w'.cell? ⟨w1.heap.size, 3, none⟩ = some (.int .i64 qd))
        (first
          | with_reducible assumption
          | with_reducible exact HD)
        (first
          | (go_at_call 177; (with_reducible refine (HST.out _ HSD.out).mono ?_); rintro x' w2 ⟨a4, ac4, rfl, hr4, hb⟩
             have HF4 := Lib.hid (HFD.out.below' hb)
             have HG4 := Lib.hid (HGD.out.below' hb)
             have HB4 := Lib.hid (below_2 HBD.out hb)
             have hx2 : w2.cell? ⟨vb, 0, none⟩ = some (.pointer (some ⟨sb, 0, none⟩)) ∧ w2.cell? ⟨w1.heap.size, 3, none⟩ = some (.int .i64 qd) := ⟨(HSD.out.keep hb).five.1, (HTD.out.below' hb).cell 3⟩
             have hsc := st_clock ck nx a4 L.length ac4
             clear hr4 hb))
      have hz := HF4.out.frozen
      obtain ⟨z0, z1, z2, z3, z4, z5, z6, z7, z8⟩ := fam_cells HF4.out
      by_cases h2 : qd < ck
      · have hq : showV 0 ⟨i, cl, su, scp, ge, ma, us, re, de⟩ qg qd ck = (Fam.zero, 10) := by unfold showV; rw [if_neg (by decide), if_neg (Int.not_lt.2 H1N.out), if_pos h2]
        have HQ := Lib.hid hq
        clear hq
        go_wp2_with fail
        obtain ⟨n1, n2⟩ := nine_sets (f0 := Fam.zero) HF4.out 0 ⟨#[]⟩ ⟨#[]⟩ ⟨#[]⟩ 0 0 0 ⟨#[]⟩ false
        refine show_end (HB4.out.grown n2 HB4.out.size (fun i hi => by cases hi; exact Nat.le_refl _)) n1 rfl ?_ rfl ?_
        · rw [HQ.out]; rfl
        · rw [HQ.out]; rfl
      · have hq : showV 0 ⟨i, cl, su, scp, ge, ma, us, re, de⟩ qg qd ck = (⟨i, cl, su, scp, ge, ma, us, re, de⟩, 0) := by unfold showV; rw [if_neg (by decide), if_neg (Int.not_lt.2 H1N.out), if_neg h2]
        have HQ := Lib.hid hq
        obtain ⟨y0, y1, y2, y3, y4, y5, y6, y7, y8⟩ := fam_cells HG4.out
        clear hq
        go_wp2_with fail
        obtain ⟨n1, n2⟩ := nine_sets (f0 := Fam.zero) HF4.out i cl su scp ge ma us re de
        refine show_end (HB4.out.grown n2 HB4.out.size (fun i hi => by cases hi; exact Nat.le_refl _)) n1 rfl ?_ rfl ?_
        · rw [HQ.out]; rfl
        · rw [HQ.out]
  · have e0 : errV le = .iface 57 (.int .i64 le) := errV_n hle
    have HE := Lib.hid e0
    rw [e0]
    have hq : showV le ⟨i, cl, su, scp, ge, ma, us, re, de⟩ qg qd ck = (Fam.zero, le) := by unfold showV; rw [if_pos hle]
    have HQ := Lib.hid hq
    clear e0 hq hle H3 HT3 HG3 HF3 HB3
    go_wp2_with fail
    obtain ⟨n1, n2⟩ := nine_sets (f0 := Fam.zero) HF2.out 0 ⟨#[]⟩ ⟨#[]⟩ ⟨#[]⟩ 0 0 0 ⟨#[]⟩ false
    have hb5 := HB1.out.grown n2 HB1.out.size (fun i hi => by cases hi; exact Nat.le_refl _)
    have hb6 := hb5.alloc hb5.size (.cells #[.int .i64 qk, .int .i64 qf, .int .i64 qg, .int .i64 qd] 182)
    have hb7 := hb6.alloc hb6.size (.cells #[.int .i64 i, .string cl, .string su, .string scp, .int .i64 ge, .int .i64 ma, .int .i64 us, .string re, .bool de] 95)
    refine show_end hb7 ((n1.alloc _).alloc _) rfl ?_ rfl ?_
    · rw [HQ.out]; exact HE.out.symm
    · rw [HQ.out]; rfl
end
end Go.Proofs.YtepjcdjpikbbjaaGreatDoor

/-
  A service: Mint.
-/
namespace Go.Proofs.YtepjcdjpikbbjaaGreatDoor
open Go.RowKit Go.Sort

/-- what Mint gives of what live gave -/
def mintV (r : Ru) (le : Int) (f : Fam) (qg ck : Int) : ByteArray × Int := if le ≠ 0 then (noneS, le) else if f.gen < qg then (noneS, 2) else if qg < f.gen then (noneS, 8) else (tokS r.key 2 f.id f.gen (capN ck r.access), 0)
theorem mintP_eq (r : Ru) (s : St) (t : ByteArray) : mintP r s t = mintV r (liveE r s (tokOf r t) 1) (liveF s (tokOf r t)) (tokOf r t).2.2.2.1 s.clock := by
  unfold mintP mintL mintV
  rw [liveR_e]
  by_cases h : liveE r s (tokOf r t) 1 ≠ 0
  · rw [if_pos h, if_pos h]
  · rw [if_neg h, if_neg h]
    obtain ⟨h1, h2, h3, _⟩ := liveR_yes (r := r) (s := s) (t := t) (kind := 1) (by simpa using h)
    rw [h1, h3]
def MintGot (W : World) (q : ByteArray × Int) (e : Ending) (w' : World) : Prop := e = .returned (.tuple #[.string q.1, errV q.2]) ∧ Below W.heap.size W w'
theorem right_two {a b c : Int} (ha : okN a = true) (hb : okN b = true) (hc : okN c = true) : rightN 2 a b c = true := by unfold rightN; rw [ha, hb, hc]; simp
theorem capN_ok {a b : Int} (ha : okN a = true) (hb : okN b = true) : okN (capN a b) = true := by
  obtain ⟨a0, a1⟩ := okN_iff.1 ha
  obtain ⟨b0, b1⟩ := okN_iff.1 hb
  refine okN_iff.2 ?_
  unfold capN
  split <;> omega
section
variable {B vb sb db k : Nat} {r : Ru} {z : SS} {v : Value} {W : World}
set_option maxHeartbeats 4000000 in
set_option maxRecDepth 100000 in
theorem svc_mint (h : SW B vb sb db k r z v W) (t : ByteArray) (ht : t.size ≤ 5000) :
    Calls Tryz.prog 130 #[.pointer (some ⟨vb, 0, none⟩), .string t] W (MintGot W (mintP r z.s t)) := by
  have HST := Lib.hid (fun w (h : SW B vb sb db k r z v w) => (sx_state h.sx).mono fun _ _ h => got_as h)
  have HL := Lib.hid (fun w (h : SW B vb sb db k r z v w) => svc_live h t 1 ht)
  rw [mintP_eq]
  have hfit := h.sx.fit
  have hru := ruB_parts h.right
  have hmem : liveE r z.s (tokOf r t) 1 = 0 → famB (liveF z.s (tokOf r t)) = true := fun hh => hfit.fams _ (liveR_yes hh).2.2.2.1
  have hck := hfit.clock
  have H1 := Lib.hid h
  unfold LiveGot v4 at HL
  unfold GotAs at HST
  clear h hfit
  generalize liveE r z.s (tokOf r t) 1 = le at *
  generalize liveF z.s (tokOf r t) = f at *
  generalize tokOf r t = q at *
  obtain ⟨qe, qk, qf, qg, qd⟩ := q
  obtain ⟨i, cl, su, scp, ge, ma, us, re, de⟩ := f
  unfold famVal famCs at HL
  dsimp only at HL
  dsimp only
  generalize z.s = s at *
  obtain ⟨ck, nx, L⟩ := s
  dsimp only at *
  have HAD := Lib.hid (fun w => svc_add ck r.access w (okN_iff.1 hck) (okN_iff.1 hru.2.2.2))
  go_enter Tryz.func130, Tryz.ntmps130
  go_wp2_with fail
  go_at_call 183
  refine (HL.out _ H1.out).mono ?_
  rintro e w1 ⟨rfl, hb⟩
  have H2 := Lib.hid (H1.out.keep hb)
  have HB1 := Lib.hid hb
  clear hb H1 HL
  have hal := alloc2 w1 (.cells #[.int .i64 qk, .int .i64 qf, .int .i64 qg, .int .i64 qd] 182) (.cells #[.int .i64 i, .string cl, .string su, .string scp, .int .i64 ge, .int .i64 ma, .int .i64 us, .string re, .bool de] 95)
  have HT3 := Lib.hid ((Blk.new w1 182 #[.int .i64 qk, .int .i64 qf, .int .i64 qg, .int .i64 qd]).alloc (.cells #[.int .i64 i, .string cl, .string su, .string scp, .int .i64 ge, .int .i64 ma, .int .i64 us, .string re, .bool de] 95))
  have hg : Blk ((w1.alloc (.cells #[.int .i64 qk, .int .i64 qf, .int .i64 qg, .int .i64 qd] 182)).alloc (.cells #[.int .i64 i, .string cl, .string su, .string scp, .int .i64 ge, .int .i64 ma, .int .i64 us, .string re, .bool de] 95)) (w1.heap.size + 1) 95 #[.int .i64 i, .string cl, .string su, .string scp, .int .i64 ge, .int .i64 ma, .int .i64 us, .string re, .bool de] := by
    have := Blk.new (w1.alloc (.cells #[.int .i64 qk, .int .i64 qf, .int .i64 qg, .int .i64 qd] 182)) 95 #[.int .i64 i, .string cl, .string su, .string scp, .int .i64 ge, .int .i64 ma, .int .i64 us, .string re, .bool de]
    rw [show (w1.alloc (.cells #[.int .i64 qk, .int .i64 qf, .int .i64 qg, .int .i64 qd] 182)).heap.size = w1.heap.size + 1 by simp] at this
    exact this
  have HG3 := Lib.hid hg
  have H3 := Lib.hid (H2.out.keep hal)
  have HB3 := Lib.hid (below_2 HB1.out hal)
  clear hal hg H2 HB1
  by_cases hle : le = 0
  · subst hle
    have e0 : errV 0 = .nilIface := errV_0
    rw [e0]
    clear e0
    have hfb := hmem rfl
    clear hmem
    by_cases h1 : ge < qg
    · have hq : mintV r 0 ⟨i, cl, su, scp, ge, ma, us, re, de⟩ qg ck = (noneS, 2) := by unfold mintV; rw [if_neg (by decide), if_pos h1]
      have HQ := Lib.hid hq
      clear hq HT3 HG3 H3
      go_wp2_with fail
      go_ret2
      rw [HQ.out]
      exact ⟨rfl, HB3.out⟩
    · by_cases h2 : qg < ge
      · have hq : mintV r 0 ⟨i, cl, su, scp, ge, ma, us, re, de⟩ qg ck = (noneS, 8) := by unfold mintV; rw [if_neg (by decide), if_neg h1, if_pos h2]
        have HQ := Lib.hid hq
        clear hq HT3 HG3 H3
        go_wp2_with fail
        go_ret2
        rw [HQ.out]
        exact ⟨rfl, HB3.out⟩
      · have hq : mintV r 0 ⟨i, cl, su, scp, ge, ma, us, re, de⟩ qg ck = (tokS r.key 2 i ge (capN ck r.access), 0) := by unfold mintV; rw [if_neg (by decide), if_neg h1, if_neg h2]
        have HQ := Lib.hid hq
        obtain ⟨p1, p2, _⟩ := famB_parts hfb
        have HA : Hid (∀ w, Tens w → Calls Tryz.prog 136 #[.int .i64 r.key, v4 2 i ge (capN ck r.access)] w fun e w' => e = .returned (.tuple #[.string (tokS r.key 2 i ge (capN ck r.access)), .nilIface]) ∧ Below w.heap.size w w') := Lib.hid fun w hT => token_write_yes r.key 2 i ge (capN ck r.access) w hT (right_two p1 p2 (capN_ok hck hru.2.2.2))
        unfold v4 at HA
        generalize tokS r.key 2 i ge (capN ck r.access) = tx at *
        generalize capN ck r.access = ce at *
        clear hq hfb p1 p2 hck hru
        go_wp2_with fail
        generalize (w1.alloc (.cells #[.int .i64 qk, .int .i64 qf, .int .i64 qg, .int .i64 qd] 182)).alloc (.cells #[.int .i64 i, .string cl, .string su, .string scp, .int .i64 ge, .int .i64 ma, .int .i64 us, .string re, .bool de] 95) = w3 at *
        have HSD := Lib.hid H3.out.drew
        have HGD := Lib.hid HG3.out.drew
        have HBD := Lib.hid (below_dr HB3.out)
        clear H3 HT3 HG3 HB3
        have HD : w3.drew.cell? ⟨vb, 0, none⟩ = some (.pointer (some ⟨sb, 0, none⟩)) ∧ w3.drew.cell? ⟨vb, 1, none⟩ = some (.int .i64 r.key) ∧ w3.drew.cell? ⟨vb, 4, none⟩ = some (.int .i64 r.access) ∧ w3.drew.cell? ⟨w1.heap.size + 1, 0, none⟩ = some (.int .i64 i) ∧ w3.drew.cell? ⟨w1.heap.size + 1, 4, none⟩ = some (.int .i64 ge) := ⟨HSD.out.five.1, HSD.out.five.2.1, HSD.out.five.2.2.2.2.1, HGD.out.cell 0, HGD.out.cell 4⟩
        go_region_held3 (fun w' => w'.cell? ⟨vb, 0, none⟩ = some (.pointer (some ⟨sb, 0, none⟩)) ∧ w'.cell? ⟨vb, 1, none⟩ = some (.int .i64 r.key) ∧ w'.cell? ⟨vb, 4, none⟩ = some (.int .i64 r.access) ∧ w'.cell? ⟨w1.heap.size + 1, 0, none⟩ = some (.int .i64 i) ∧ w'.cell? ⟨w1.heap.size + 1, 4, none⟩ = some (.int .i64 ge))
          (first
            | with_reducible assumption
            | with_reducible exact HD)
          (first
            | (go_at_call 184; (with_reducible refine (HAD.out _).mono ?_); rintro x' w2 ⟨rfl, rfl⟩)
            | (go_at_call 177; (with_reducible refine (HST.out _ HSD.out).mono ?_); rintro x' w2 ⟨a4, ac4, rfl, hr4, hb⟩
               have HS4 := Lib.hid (HSD.out.keep hb)
               have HG4 := Lib.hid (HGD.out.below' hb)
               have HB4 := Lib.hid (below_2 HBD.out hb)
               have hx2 : w2.cell? ⟨vb, 0, none⟩ = some (.pointer (some ⟨sb, 0, none⟩)) ∧ w2.cell? ⟨vb, 1, none⟩ = some (.int .i64 r.key) ∧ w2.cell? ⟨vb, 4, none⟩ = some (.int .i64 r.access) ∧ w2.cell? ⟨w1.heap.size + 1, 0, none⟩ = some (.int .i64 i) ∧ w2.cell? ⟨w1.heap.size + 1, 4, none⟩ = some (.int .i64 ge) := ⟨HS4.out.five.1, HS4.out.five.2.1, HS4.out.five.2.2.2.2.1, HG4.out.cell 0, HG4.out.cell 4⟩
               have hsc := st_clock ck nx a4 L.length ac4
               clear hr4 hb)
            | (go_at_call 136; (with_reducible refine (HA.out _ HS4.out.sx.env.tens).mono ?_); rintro x' w2 ⟨rfl, hb⟩
               have hend := below_2 HB4.out hb
               have hx5 : w2.cell? ⟨vb, 0, none⟩ = some (.pointer (some ⟨sb, 0, none⟩)) ∧ w2.cell? ⟨vb, 1, none⟩ = some (.int .i64 r.key) ∧ w2.cell? ⟨vb, 4, none⟩ = some (.int .i64 r.access) ∧ w2.cell? ⟨w1.heap.size + 1, 0, none⟩ = some (.int .i64 i) ∧ w2.cell? ⟨w1.heap.size + 1, 4, none⟩ = some (.int .i64 ge) := ⟨(HS4.out.keep hb).five.1, (HS4.out.keep hb).five.2.1, (HS4.out.keep hb).five.2.2.2.2.1, (HG4.out.below' hb).cell 0, (HG4.out.below' hb).cell 4⟩))
        go_wp2_with fail
        go_ret2
        rw [HQ.out]
        exact ⟨rfl, hend⟩
  · have e0 : errV le = .iface 57 (.int .i64 le) := errV_n hle
    have HE := Lib.hid e0
    rw [e0]
    have hq : mintV r le ⟨i, cl, su, scp, ge, ma, us, re, de⟩ qg ck = (noneS, le) := by unfold mintV; rw [if_pos hle]
    have HQ := Lib.hid hq
    clear e0 hq hle HT3 HG3 H3 hmem
    go_wp2_with fail
    go_ret2
    rw [HQ.out]
    refine ⟨?_, HB3.out⟩
    rw [HE.out]
    rfl
end
end Go.Proofs.YtepjcdjpikbbjaaGreatDoor

/-
  A service: Rotate.
-/
namespace Go.Proofs.YtepjcdjpikbbjaaGreatDoor
open Go.RowKit Go.Sort

theorem rotateP_eq (r : Ru) (s : St) (t request sc : ByteArray) : rotateP r s t request sc = if nameB request.data.toList = false then .say noneS 1 else rotateL r s ⟨liveE r s (tokOf r t) 1, (tokOf r t).2.2.2.1, 0, liveF s (tokOf r t)⟩ request sc := by
  unfold rotateP
  by_cases hn : nameB request.data.toList = false
  · rw [if_pos hn, if_pos hn]
  · rw [if_neg hn, if_neg hn]
    unfold rotateL
    rw [liveR_e]
    by_cases h : liveE r s (tokOf r t) 1 ≠ 0
    · rw [if_pos h, if_pos h]
    · rw [if_neg h, if_neg h]
      obtain ⟨h1, h2, h3, _⟩ := liveR_yes (r := r) (s := s) (t := t) (kind := 1) (by simpa using h)
      rw [h1, h3]
theorem texts_eq (a b : ByteArray) : (a.toList == b.toList) = decide (a.data.toList = b.data.toList) := by
  rw [ByteArray.toList_eq, ByteArray.toList_eq, Bool.eq_iff_iff]
  simp
theorem rotateL_0 (r : Ru) (s : St) (qg : Int) (f : Fam) (request sc : ByteArray) : rotateL r s ⟨0, qg, 0, f⟩ request sc = if f.gen < qg then .say noneS 2
        else if qg = f.gen - 1 ∧ request.data.toList = f.request.data.toList then .say (refreshS r f) 0
        else if qg < f.gen then .put (putEv (deadF f)) noneS 15
        else if scopeN sc.data.toList ≠ 0 then .say noneS (scopeN sc.data.toList)
        else if withB (leastL sc.data.toList) f.scope.data.toList = false then .say noneS 13
        else if f.gen = 1099511627776 then .say noneS 4
        else .put (putEv (turnF s f request sc)) (refreshS r (turnF s f request sc)) 0 := by
  unfold rotateL
  exact if_neg (fun h => h rfl)
theorem rotateL_e {r : Ru} {s : St} {qg le : Int} {f : Fam} {request sc : ByteArray} (h : le ≠ 0) : rotateL r s ⟨le, qg, 0, f⟩ request sc = .say noneS le := by
  unfold rotateL
  exact if_pos h
/-- how far a token's walk goes -/
theorem turn_ways (ge qg : Int) (a b : List UInt8) : ge < qg ∨ (¬ ge < qg ∧ qg = ge - 1 ∧ a = b) ∨ (¬ ge < qg ∧ qg = ge - 1 ∧ a ≠ b) ∨ (¬ ge < qg ∧ qg ≠ ge - 1 ∧ qg < ge) ∨ qg = ge := by
  by_cases h1 : ge < qg
  · exact .inl h1
  · by_cases h2 : qg = ge - 1
    · by_cases h3 : a = b
      · exact .inr (.inl ⟨h1, h2, h3⟩)
      · exact .inr (.inr (.inl ⟨h1, h2, h3⟩))
    · by_cases h3 : qg < ge
      · exact .inr (.inr (.inr (.inl ⟨h1, h2, h3⟩)))
      · exact .inr (.inr (.inr (.inr (by omega))))
section
variable {B vb sb db k : Nat} {r : Ru} {z : SS} {v : Value} {W : World}
set_option maxHeartbeats 4000000 in
set_option maxRecDepth 100000 in
theorem svc_rotate (h : SW B vb sb db k r z v W) (hk : k < 1000000) (t request sc : ByteArray) (ht : t.size ≤ 5000) (h2 : request.size ≤ 5000) (h3 : sc.size ≤ 5000) :
    Calls Tryz.prog 131 #[.pointer (some ⟨vb, 0, none⟩), .string t, .string request, .string sc] W (PlanS W B vb sb db k r z (rotateP r z.s t request sc)) := by
  have HN1 := Lib.hid (fun w => ev_name request w h2)
  have HLS := Lib.hid (fun w hm => scope_least_any sc w h3 hm)
  have HST := Lib.hid (fun w (h : SW B vb sb db k r z v w) => (sx_state h.sx).mono fun _ _ h => got_as h)
  have HL := Lib.hid (fun w (h : SW B vb sb db k r z v w) => svc_live h t 1 ht)
  rw [rotateP_eq]
  have hfit := h.sx.fit
  have hmem : liveE r z.s (tokOf r t) 1 = 0 → famB (liveF z.s (tokOf r t)) = true := fun hh => hfit.fams _ (liveR_yes hh).2.2.2.1
  have hck := hfit.clock
  have HPT := Lib.hid (fun w f (hf : f.short 5000) (h : SW B vb sb db k r z v w) => svc_put h hk f hf)
  have HRF := Lib.hid (fun w z' v' k f hi hg (h : SW B vb sb db k r z' v' w) => svc_refresh h f hi hg)
  have H := Lib.hid h
  unfold LiveGot v4 at HL
  unfold GotAs at HST
  clear h hfit
  rcases hn1 : nameB request.data.toList with _ | _
  · rw [if_pos rfl]
    rw [hn1] at HN1
    go_enter Tryz.func131, Tryz.ntmps131
    go_wp2_with fail
    go_at_call 178
    refine (HN1.out _).mono ?_
    rintro e w1 ⟨rfl, hb⟩
    have H1 := Lib.hid (H.out.keep hb)
    have HB1 := Lib.hid hb
    clear hb
    go_wp2_with fail
    go_ret2
    exact PlanS.say H1.out HB1.out _ (errV_n (by decide)).symm
  · rw [if_neg (by decide)]
    have HNN := Lib.hid hn1
    rw [hn1] at HN1
    clear hn1
    generalize liveE r z.s (tokOf r t) 1 = le at *
    generalize liveF z.s (tokOf r t) = f at *
    generalize tokOf r t = q at *
    obtain ⟨qe, qk, qf, qg, qd⟩ := q
    dsimp only at HL
    dsimp only
    go_enter Tryz.func131, Tryz.ntmps131
    go_wp2_with fail
    go_at_call 178
    refine (HN1.out _).mono ?_
    rintro e w1 ⟨rfl, hb⟩
    have H1 := Lib.hid (H.out.keep hb)
    have HB1 := Lib.hid hb
    clear hb HN1 H
    go_wp2_with fail
    go_at_call 183
    refine (HL.out _ H1.out).mono ?_
    rintro e w2 ⟨rfl, hb⟩
    have H2 := Lib.hid (H1.out.keep hb)
    have HB2 := Lib.hid (below_2 HB1.out hb)
    clear hb HL H1 HB1
    by_cases hle : le = 0
    · subst hle
      have e0 : errV 0 = .nilIface := errV_0
      rw [e0]
      clear e0
      have hfb := hmem rfl
      clear hmem
      have p2 := (famB_parts hfb).2.1
      have p1 := (famB_parts hfb).1
      obtain ⟨g0, g1⟩ := okN_iff.1 p2
      have HFB := Lib.hid hfb
      have HP2 := Lib.hid p2
      have HP1 := Lib.hid p1
      clear hfb p2 p1
      obtain ⟨i, cl, su, scp, ge, ma, us, re, de⟩ := f
      unfold famVal famCs
      dsimp only at *
      have hts := texts_eq request re
      rcases turn_ways ge qg request.data.toList re.data.toList with h1 | ⟨h1, h4, h5⟩ | ⟨h1, h4, h5⟩ | ⟨h1, h4, h5⟩ | h1
      · have hp : rotateL r z.s ⟨0, qg, 0, ⟨i, cl, su, scp, ge, ma, us, re, de⟩⟩ request sc = _ := (rotateL_0 r z.s qg ⟨i, cl, su, scp, ge, ma, us, re, de⟩ request sc).trans (if_pos h1)
        have HP := Lib.hid hp
        clear hp
        clear hts
        have hal := alloc2 w2 (.cells #[.int .i64 qk, .int .i64 qf, .int .i64 qg, .int .i64 qd] 182) (.cells #[.int .i64 i, .string cl, .string su, .string scp, .int .i64 ge, .int .i64 ma, .int .i64 us, .string re, .bool de] 95)
        have H3 := Lib.hid (H2.out.keep hal)
        have HB3 := Lib.hid (below_2 HB2.out hal)
        clear hal
        go_wp2_with fail
        go_ret2
        rw [HP.out]
        exact PlanS.say H3.out HB3.out _ (errV_n (by decide)).symm
      · have hp : rotateL r z.s ⟨0, qg, 0, ⟨i, cl, su, scp, ge, ma, us, re, de⟩⟩ request sc = _ := (rotateL_0 r z.s qg ⟨i, cl, su, scp, ge, ma, us, re, de⟩ request sc).trans ((if_neg h1).trans (if_pos ⟨h4, h5⟩))
        have HP := Lib.hid hp
        clear hp
        rw [decide_eq_true h5] at hts
        subst h4
        have hal := alloc2 w2 (.cells #[.int .i64 qk, .int .i64 qf, .int .i64 (ge - 1), .int .i64 qd] 182) (.cells #[.int .i64 i, .string cl, .string su, .string scp, .int .i64 ge, .int .i64 ma, .int .i64 us, .string re, .bool de] 95)
        have H3 := Lib.hid (H2.out.keep hal)
        have HB3 := Lib.hid (below_2 HB2.out hal)
        have HRF2 := Lib.hid (fun w h => HRF.out w z v k ⟨i, cl, su, scp, ge, ma, us, re, de⟩ HP1.out HP2.out h)
        unfold famVal famCs at HRF2
        dsimp only at HRF2
        generalize refreshS r ⟨i, cl, su, scp, ge, ma, us, re, de⟩ = X at *
        clear hal h5 HRF HPT
        go_wp2_with fail
        go_at_call 180
        refine (HRF2.out _ H3.out).mono ?_
        rintro e w4 ⟨rfl, hb⟩
        have H4 := Lib.hid (H3.out.keep hb)
        have HB4 := Lib.hid (below_2 HB3.out hb)
        clear hb H3 HB3
        go_wp2_with fail
        go_ret2
        rw [HP.out]
        exact PlanS.say H4.out HB4.out _ errV_0.symm
      · have hp : rotateL r z.s ⟨0, qg, 0, ⟨i, cl, su, scp, ge, ma, us, re, de⟩⟩ request sc = _ := (rotateL_0 r z.s qg ⟨i, cl, su, scp, ge, ma, us, re, de⟩ request sc).trans ((if_neg h1).trans ((if_neg (fun h => h5 h.2)).trans (if_pos (show qg < ge by omega))))
        have HP := Lib.hid hp
        clear hp
        rw [decide_eq_false h5] at hts
        subst h4
        clear h5
        have hal := alloc2 w2 (.cells #[.int .i64 qk, .int .i64 qf, .int .i64 (ge - 1), .int .i64 qd] 182) (.cells #[.int .i64 i, .string cl, .string su, .string scp, .int .i64 ge, .int .i64 ma, .int .i64 us, .string re, .bool true] 95)
        have H3 := Lib.hid (H2.out.keep hal)
        have HB3 := Lib.hid (below_2 HB2.out hal)
        have hsh : Fam.short ⟨i, cl, su, scp, ge, ma, us, re, true⟩ 5000 := fam_short (f := ⟨i, cl, su, scp, ge, ma, us, re, de⟩) HFB.out
        have HPT2 := Lib.hid (fun w h => HPT.out w _ hsh h)
        generalize hQ : addS z (putEv (deadF ⟨i, cl, su, scp, ge, ma, us, re, de⟩)) = Q at *
        have hQ2 : addS z (putEv ⟨i, cl, su, scp, ge, ma, us, re, true⟩) = Q := hQ
        rw [hQ2] at HPT2
        have HQ := Lib.hid hQ
        generalize putEv (deadF ⟨i, cl, su, scp, ge, ma, us, re, de⟩) = FE at *
        unfold famVal famCs at HPT2
        dsimp only at HPT2
        clear hal hsh hQ hQ2 H2 HB2 HFB HPT HRF HST HLS
        go_wp2_with fail
        go_at_call 179
        refine (HPT2.out _ H3.out).mono ?_
        rintro e w6 ⟨rfl, htw, v6, h6⟩
        have H6 := Lib.hid h6
        have HT6 := Lib.hid ((Two.of_below HB3.out).trans htw)
        clear htw h6 H3 HB3 HPT2
        by_cases hq : Q.2 = 0
        · have e0 : errV Q.2 = .nilIface := by rw [hq]; exact errV_0
          rw [e0]
          have HQ0 := Lib.hid hq
          clear e0 hq
          go_wp2_with fail
          go_ret2
          rw [HP.out]
          exact PlanS.good (by rw [HQ.out]; exact HQ0.out) HT6.out (by rw [HQ.out]; exact H6.out) _ (errV_n (by decide)).symm
        · have e0 : errV Q.2 = .iface 57 (.int .i64 Q.2) := errV_n hq
          have HE0 := Lib.hid e0
          rw [e0]
          have HQ0 := Lib.hid hq
          clear e0 hq
          go_wp2_with fail
          go_ret2
          rw [← HE0.out, ← HQ.out]
          rw [HP.out]
          exact PlanS.bad (by rw [HQ.out]; exact HQ0.out) HT6.out (by rw [HQ.out]; exact H6.out)
      · have hp : rotateL r z.s ⟨0, qg, 0, ⟨i, cl, su, scp, ge, ma, us, re, de⟩⟩ request sc = _ := (rotateL_0 r z.s qg ⟨i, cl, su, scp, ge, ma, us, re, de⟩ request sc).trans ((if_neg h1).trans ((if_neg (fun h => h4 h.1)).trans (if_pos h5)))
        have HP := Lib.hid hp
        clear hp
        clear hts
        have hal := alloc2 w2 (.cells #[.int .i64 qk, .int .i64 qf, .int .i64 qg, .int .i64 qd] 182) (.cells #[.int .i64 i, .string cl, .string su, .string scp, .int .i64 ge, .int .i64 ma, .int .i64 us, .string re, .bool true] 95)
        have H3 := Lib.hid (H2.out.keep hal)
        have HB3 := Lib.hid (below_2 HB2.out hal)
        have hsh : Fam.short ⟨i, cl, su, scp, ge, ma, us, re, true⟩ 5000 := fam_short (f := ⟨i, cl, su, scp, ge, ma, us, re, de⟩) HFB.out
        have HPT2 := Lib.hid (fun w h => HPT.out w _ hsh h)
        generalize hQ : addS z (putEv (deadF ⟨i, cl, su, scp, ge, ma, us, re, de⟩)) = Q at *
        have hQ2 : addS z (putEv ⟨i, cl, su, scp, ge, ma, us, re, true⟩) = Q := hQ
        rw [hQ2] at HPT2
        have HQ := Lib.hid hQ
        generalize putEv (deadF ⟨i, cl, su, scp, ge, ma, us, re, de⟩) = FE at *
        unfold famVal famCs at HPT2
        dsimp only at HPT2
        clear hal hsh hQ hQ2 H2 HB2 HFB HPT HRF HST HLS
        go_wp2_with fail
        go_at_call 179
        refine (HPT2.out _ H3.out).mono ?_
        rintro e w6 ⟨rfl, htw, v6, h6⟩
        have H6 := Lib.hid h6
        have HT6 := Lib.hid ((Two.of_below HB3.out).trans htw)
        clear htw h6 H3 HB3 HPT2
        by_cases hq : Q.2 = 0
        · have e0 : errV Q.2 = .nilIface := by rw [hq]; exact errV_0
          rw [e0]
          have HQ0 := Lib.hid hq
          clear e0 hq
          go_wp2_with fail
          go_ret2
          rw [HP.out]
          exact PlanS.good (by rw [HQ.out]; exact HQ0.out) HT6.out (by rw [HQ.out]; exact H6.out) _ (errV_n (by decide)).symm
        · have e0 : errV Q.2 = .iface 57 (.int .i64 Q.2) := errV_n hq
          have HE0 := Lib.hid e0
          rw [e0]
          have HQ0 := Lib.hid hq
          clear e0 hq
          go_wp2_with fail
          go_ret2
          rw [← HE0.out, ← HQ.out]
          rw [HP.out]
          exact PlanS.bad (by rw [HQ.out]; exact HQ0.out) HT6.out (by rw [HQ.out]; exact H6.out)
      · subst h1
        have n1 : ¬ qg < qg := by omega
        have n2 : ¬ (qg = qg - 1 ∧ request.data.toList = re.data.toList) := fun h => by have := h.1; omega
        have hp : rotateL r z.s ⟨0, qg, 0, ⟨i, cl, su, scp, qg, ma, us, re, de⟩⟩ request sc = _ := (rotateL_0 r z.s qg ⟨i, cl, su, scp, qg, ma, us, re, de⟩ request sc).trans ((if_neg n1).trans ((if_neg n2).trans (if_neg n1)))
        have HP := Lib.hid hp
        clear hp
        have h4 : qg ≠ qg - 1 := by omega
        clear hts n1 n2
        have hal := alloc2 w2 (.cells #[.int .i64 qk, .int .i64 qf, .int .i64 qg, .int .i64 qd] 182) (.cells #[.int .i64 i, .string cl, .string su, .string scp, .int .i64 qg, .int .i64 ma, .int .i64 us, .string re, .bool de] 95)
        have H3 := Lib.hid (H2.out.keep hal)
        have HB3 := Lib.hid (below_2 HB2.out hal)
        have hg : Blk ((w2.alloc (.cells #[.int .i64 qk, .int .i64 qf, .int .i64 qg, .int .i64 qd] 182)).alloc (.cells #[.int .i64 i, .string cl, .string su, .string scp, .int .i64 qg, .int .i64 ma, .int .i64 us, .string re, .bool de] 95)) (w2.heap.size + 1) 95 (famCs ⟨i, cl, su, scp, qg, ma, us, re, de⟩) := by
          have := Blk.new (w2.alloc (.cells #[.int .i64 qk, .int .i64 qf, .int .i64 qg, .int .i64 qd] 182)) 95 (famCs ⟨i, cl, su, scp, qg, ma, us, re, de⟩)
          rw [show (w2.alloc (.cells #[.int .i64 qk, .int .i64 qf, .int .i64 qg, .int .i64 qd] 182)).heap.size = w2.heap.size + 1 by simp] at this
          exact this
        have HG3 := Lib.hid hg
        have HD3 := Lib.hid hal
        clear hal hg
        go_wp2_with fail
        go_at_call 126
        refine (HLS.out _ H3.out.tm.2.1).mono ?_
        rintro e w3 ⟨rfl, hb⟩
        have H4 := Lib.hid (H3.out.keep hb)
        have HB4 := Lib.hid (below_2 HB3.out hb)
        have HG4 := Lib.hid (HG3.out.below' hb)
        have HD4 := Lib.hid (below_2 HD3.out hb)
        clear hb HLS H3 HB3 HG3 HD3
        by_cases hsn : scopeN sc.data.toList = 0
        · have e0 : errV (scopeN sc.data.toList) = .nilIface := by rw [hsn]; exact errV_0
          rw [e0]
          have hp := HP.out.trans (if_neg (fun h => h hsn))
          have HSN := Lib.hid hsn
          clear e0 hsn HP
          have HP := Lib.hid hp
          clear hp
          have hsb := fam_short HFB.out
          have HWI := Lib.hid (fun w (h : SW B vb sb db k r z v w) => scope_within (txt (leastL sc.data.toList)) scp w (by rw [txt_size_]; have := leastL_len sc.data.toList; omega) hsb.2.2.1 h.tm.2.1)
          obtain ⟨y0, y1, y2, y3, y4, y5, y6, y7, y8⟩ := fam_cells HG4.out
          have hgz := HG4.out.frozen
          clear hsb
          go_wp2_with fail
          go_at_call 185
          refine (HWI.out _ H4.out).mono ?_
          rintro e w4 ⟨rfl, hb⟩
          have H5 := Lib.hid (H4.out.keep hb)
          have HB5 := Lib.hid (below_2 HB4.out hb)
          have HG5 := Lib.hid (HG4.out.below' hb)
          have HD5 := Lib.hid (below_2 HD4.out hb)
          clear hb H4 HB4 HG4 HD4 HWI y0 y1 y2 y3 y4 y5 y6 y7 y8 hgz
          have etl : (txt (leastL sc.data.toList)).data.toList = leastL sc.data.toList := rfl
          rw [etl]
          clear etl
          rcases hwb : withB (leastL sc.data.toList) scp.data.toList with _ | _
          · have hp := HP.out.trans (if_pos hwb)
            clear HP
            have HP := Lib.hid hp
            clear hp hwb
            go_wp2_with fail
            go_ret2
            rw [HP.out]
            exact PlanS.say H5.out HB5.out _ (errV_n (by decide)).symm
          · have hp := HP.out.trans (if_neg (show ¬ withB (leastL sc.data.toList) scp.data.toList = false by rw [hwb]; decide))
            clear HP
            obtain ⟨y0, y1, y2, y3, y4, y5, y6, y7, y8⟩ := fam_cells HG5.out
            have hgz := HG5.out.frozen
            by_cases hmx : qg = 1099511627776
            · have HP := Lib.hid (hp.trans (if_pos hmx))
              clear hp hwb
              subst hmx
              go_wp2_with fail
              go_ret2
              rw [HP.out]
              exact PlanS.say H5.out HB5.out _ (errV_n (by decide)).symm
            · have HP := Lib.hid (hp.trans (if_neg hmx))
              clear hp hwb
              have hd6 := HD5.out.setCell (p := ⟨w2.heap.size + 1, 4, none⟩) (Nat.le_succ _) (.int .i64 (qg + 1))
              have HD6 := Lib.hid hd6
              have H6 := Lib.hid (H2.out.keep hd6)
              have HG6 := Lib.hid (HG5.out.put_ 4 (.int .i64 (qg + 1)) (cs' := famCs ⟨i, cl, su, scp, qg + 1, ma, us, re, de⟩) rfl)
              have HBW := Lib.hid (fun w (h : Below w2.heap.size w2 w) => below_2 HB2.out h)
              obtain ⟨c0, c1, c2, c3, c4, hlt⟩ := H5.out.five
              have hq1 : qg + 1 ≤ 1099511627776 := by omega
              clear hd6
              go_wp2_with fail
              go_at_call 177
              refine (HST.out _ H6.out).mono ?_
              rintro e w5 ⟨a5, ac5, rfl, hr5, hb⟩
              have HD7 := Lib.hid (below_2 HD6.out hb)
              have HG7 := Lib.hid (HG6.out.below' hb)
              have hsc := st_clock z.s.clock z.s.next a5 z.s.fams.length ac5
              clear hr5 hb HD6 H6 HG6 HD5 HG5 H5 HB5 y0 y1 y2 y3 y4 y5 y6 y7 y8 hgz c0 c1 c2 c3 c4 hlt
              obtain ⟨y0, y1, y2, y3, y4, y5, y6, y7, y8⟩ := fam_cells HG7.out
              have hgz := HG7.out.frozen
              obtain ⟨c0, c1, c2, c3, c4, hlt⟩ := (H2.out.keep HD7.out).five
              have hd8 := ((HD7.out.setCell (p := ⟨w2.heap.size + 1, 3, none⟩) (Nat.le_succ _) (.string (txt (leastL sc.data.toList)))).setCell (p := ⟨w2.heap.size + 1, 7, none⟩) (Nat.le_succ _) (.string request)).setCell (p := ⟨w2.heap.size + 1, 6, none⟩) (Nat.le_succ _) (.int .i64 z.s.clock)
              have H8 := Lib.hid (H2.out.keep hd8)
              have HB8 := Lib.hid (HBW.out _ hd8)
              have k3 := HG7.out.put_ 3 (.string (txt (leastL sc.data.toList))) (cs' := famCs ⟨i, cl, su, txt (leastL sc.data.toList), qg + 1, ma, us, re, de⟩) rfl
              have k7 := k3.put_ 7 (.string request) (cs' := famCs ⟨i, cl, su, txt (leastL sc.data.toList), qg + 1, ma, us, request, de⟩) rfl
              have HG8 := Lib.hid (k7.put_ 6 (.int .i64 z.s.clock) (cs' := famCs ⟨i, cl, su, txt (leastL sc.data.toList), qg + 1, ma, z.s.clock, request, de⟩) rfl)
              have hs0 : Fam.short ⟨i, cl, su, scp, qg, ma, us, re, de⟩ 5000 := fam_short HFB.out
              have hlst := leastL_len sc.data.toList
              have hrq := nameB_len HNN.out
              have hsh : Fam.short ⟨i, cl, su, txt (leastL sc.data.toList), qg + 1, ma, z.s.clock, request, de⟩ 5000 := by
                unfold Fam.short at hs0 ⊢
                dsimp only at hs0 ⊢
                rw [txt_size_]
                have e1 : request.size = request.data.toList.length := (size_data request).symm
                exact ⟨hs0.1, hs0.2.1, by omega, by omega⟩
              have HPT2 := Lib.hid (fun w h => HPT.out w _ hsh h)
              have HRF2 := Lib.hid (fun w z' v' k (h : SW B vb sb db k r z' v' w) => HRF.out w z' v' k ⟨i, cl, su, txt (leastL sc.data.toList), qg + 1, ma, z.s.clock, request, de⟩ HP1.out (okN_iff.2 ⟨show 0 ≤ qg + 1 by omega, hq1⟩) h)
              generalize hQ : addS z (putEv (turnF z.s ⟨i, cl, su, scp, qg, ma, us, re, de⟩ request sc)) = Q at *
              have hQ2 : addS z (putEv ⟨i, cl, su, txt (leastL sc.data.toList), qg + 1, ma, z.s.clock, request, de⟩) = Q := hQ
              rw [hQ2] at HPT2
              have HQ := Lib.hid hQ
              generalize hX : refreshS r (turnF z.s ⟨i, cl, su, scp, qg, ma, us, re, de⟩ request sc) = X at *
              have hX2 : refreshS r ⟨i, cl, su, txt (leastL sc.data.toList), qg + 1, ma, z.s.clock, request, de⟩ = X := hX
              rw [hX2] at HRF2
              generalize putEv (turnF z.s ⟨i, cl, su, scp, qg, ma, us, re, de⟩ request sc) = FE at *
              unfold famVal famCs at HPT2 HRF2
              dsimp only at HPT2 HRF2
              clear hd8 k3 k7 hs0 hlst hrq hsh hQ hQ2 hX hX2 HPT HRF HD7 HG7 HBW H2 HB2 HST HFB HP1 HP2 HNN
              go_wp2_with fail
              go_at_call 179
              refine (HPT2.out _ H8.out).mono ?_
              rintro e w6 ⟨rfl, htw, v6, h6⟩
              have H9 := Lib.hid h6
              have HT9 := Lib.hid ((Two.of_below HB8.out).trans htw)
              have HF9 := Lib.hid (HG8.out.two htw (H8.out.sx.apart HG8.out (by decide) (by decide)).1 (H8.out.sx.apart HG8.out (by decide) (by decide)).2)
              clear htw h6 HG8 H8 HB8 HPT2
              by_cases hq : Q.2 = 0
              · have e0 : errV Q.2 = .nilIface := by rw [hq]; exact errV_0
                rw [e0]
                have HQ0 := Lib.hid hq
                clear e0 hq y0 y1 y2 y3 y4 y5 y6 y7 y8 hgz c0 c1 c2 c3 c4 hlt
                obtain ⟨f0, f1, f2, f3, f4, f5, f6, f7, f8⟩ := fam_cells HF9.out
                go_wp2_with fail
                go_at_call 180
                refine (HRF2.out _ _ _ _ H9.out).mono ?_
                rintro e w7 ⟨rfl, hb⟩
                have H10 := Lib.hid (H9.out.keep hb)
                have HT10 := Lib.hid (HT9.out.trans (Two.of_below hb))
                clear hb H9 HT9 f0 f1 f2 f3 f4 f5 f6 f7 f8 HF9
                go_wp2_with fail
                go_ret2
                rw [HP.out]
                exact PlanS.good (by rw [HQ.out]; exact HQ0.out) HT10.out (by rw [HQ.out]; exact H10.out) _ errV_0.symm
              · have e0 : errV Q.2 = .iface 57 (.int .i64 Q.2) := errV_n hq
                have HE0 := Lib.hid e0
                rw [e0]
                have HQ0 := Lib.hid hq
                clear e0 hq y0 y1 y2 y3 y4 y5 y6 y7 y8 hgz c0 c1 c2 c3 c4 hlt
                go_wp2_with fail
                go_ret2
                rw [HP.out, ← HE0.out, ← HQ.out]
                exact PlanS.bad (by rw [HQ.out]; exact HQ0.out) HT9.out (by rw [HQ.out]; exact H9.out)
        · have e0 : errV (scopeN sc.data.toList) = .iface 57 (.int .i64 (scopeN sc.data.toList)) := errV_n hsn
          have HE0 := Lib.hid e0
          rw [e0]
          have hp := HP.out.trans (if_pos hsn)
          clear e0 hsn HP
          have HP := Lib.hid hp
          clear hp
          go_wp2_with fail
          go_ret2
          rw [HP.out]
          exact PlanS.say H4.out HB4.out _ HE0.out.symm
    · have e0 : errV le = .iface 57 (.int .i64 le) := errV_n hle
      have HE := Lib.hid e0
      rw [e0]
      have HP := Lib.hid (rotateL_e (r := r) (s := z.s) (qg := qg) (f := f) (request := request) (sc := sc) hle)
      obtain ⟨i, cl, su, scp, ge, ma, us, re, de⟩ := f
      unfold famVal famCs
      dsimp only at *
      have hal := alloc2 w2 (.cells #[.int .i64 qk, .int .i64 qf, .int .i64 qg, .int .i64 qd] 182) (.cells #[.int .i64 i, .string cl, .string su, .string scp, .int .i64 ge, .int .i64 ma, .int .i64 us, .string re, .bool de] 95)
      have H3 := Lib.hid (H2.out.keep hal)
      have HB3 := Lib.hid (below_2 HB2.out hal)
      clear e0 hle hal hmem
      go_wp2_with fail
      go_ret2
      rw [HP.out]
      exact PlanS.say H3.out HB3.out _ HE.out.symm
end
end Go.Proofs.YtepjcdjpikbbjaaGreatDoor
