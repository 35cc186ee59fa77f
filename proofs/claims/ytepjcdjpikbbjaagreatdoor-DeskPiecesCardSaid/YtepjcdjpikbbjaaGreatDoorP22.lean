/-
  A service: Sweep.
-/
import Derived.Test.YtepjcdjpikbbjaaGreatDoorP21
import Derived.Test.YtepjcdjpikbbjaaGreatDoorP11
import Derived.Test.YtepjcdjpikbbjaaGreatDoorP13
namespace Go.Proofs.YtepjcdjpikbbjaaGreatDoor
open Go.RowKit Go.Sort

def PlanI (W : World) (B vb sb db k : Nat) (r : Ru) (z : SS) (p : Plan Int) (e : Ending) (w' : World) : Prop :=
  e = .returned (.tuple #[.int .i64 (doPlan 0 z p).2.1, errV (doPlan 0 z p).2.2]) ∧ Two sb db W w' ∧ ∃ v', SW B vb sb db (k + 1) r (doPlan 0 z p).1 v' w'
theorem PlanI.say {W w : World} {B vb sb db k : Nat} {r : Ru} {z : SS} {v : Value} {t : Int} {c : Int} (h : SW B vb sb db k r z v w) (hb : Below W.heap.size W w) (u : Value) (hu : u = errV c) : PlanI W B vb sb db k r z (.say t c) (.returned (.tuple #[.int .i64 t, u])) w :=
  ⟨by rw [hu]; rfl, Two.of_below hb, v, h.later⟩
theorem PlanI.bad {W w : World} {B vb sb db k : Nat} {r : Ru} {z : SS} {v' : Value} {ev : Ev} {t : Int} {c : Int} (hc : (addS z ev).2 ≠ 0) (ht : Two sb db W w) (h : SW B vb sb db (k + 1) r (addS z ev).1 v' w) : PlanI W B vb sb db k r z (.put ev t c) (.returned (.tuple #[.int .i64 0, errV (addS z ev).2])) w := by
  have e : doPlan 0 z (.put ev t c) = ((addS z ev).1, 0, (addS z ev).2) := if_neg hc
  unfold PlanI
  rw [e]
  exact ⟨rfl, ht, v', h⟩
theorem PlanI.good {W w : World} {B vb sb db k : Nat} {r : Ru} {z : SS} {v' : Value} {ev : Ev} {t : Int} {c : Int} (hc : (addS z ev).2 = 0) (ht : Two sb db W w) (h : SW B vb sb db (k + 1) r (addS z ev).1 v' w) (u : Value) (hu : u = errV c) : PlanI W B vb sb db k r z (.put ev t c) (.returned (.tuple #[.int .i64 t, u])) w := by
  have e : doPlan 0 z (.put ev t c) = ((addS z ev).1, t, c) := if_pos hc
  unfold PlanI
  rw [e, hu]
  exact ⟨rfl, ht, v', h⟩
theorem find_past {p : Fam → Bool} {L : List Fam} {k : Nat} (h : ∀ j f, j < k → L[j]? = some f → p f = false) : L.find? p = (L.drop k).find? p := by
  induction k generalizing L with
  | zero => rfl
  | succ k ih =>
    cases L with
    | nil => rfl
    | cons g L =>
      rw [List.find?_cons, h 0 g (Nat.succ_pos _) rfl, List.drop_succ_cons]
      exact ih fun j f hj hf => h (j + 1) f (Nat.succ_lt_succ hj) (by simpa using hf)
theorem find_at {p : Fam → Bool} {L : List Fam} {k : Nat} {f : Fam} (h : ∀ j f, j < k → L[j]? = some f → p f = false) (hf : L[k]? = some f) (hp : p f = true) : L.find? p = some f := by
  have hlt := (List.getElem?_eq_some_iff.1 hf).1
  rw [find_past h, List.drop_eq_getElem_cons hlt, List.find?_cons, (List.getElem?_eq_some_iff.1 hf).2, hp]
theorem find_end_none {p : Fam → Bool} {L : List Fam} (h : ∀ j f, j < L.length → L[j]? = some f → p f = false) : L.find? p = none := by
  rw [find_past h, List.drop_length]
  rfl
def SwRel (W : World) (B vb sb db k : Nat) (r : Ru) (z : SS) (v : Value) (cb : Nat) (a1 : Option Addr) (ac : Nat) (i : Value) (w : World) : Prop :=
  ∃ j : Nat, j ≤ z.s.fams.length ∧ i = .int .i64 j ∧ Below W.heap.size W w ∧ SW B vb sb db k r z v w ∧ FRow w W.heap.size (.slice a1 z.s.fams.length ac) z.s.fams ∧ w.cell? ⟨cb, 0, none⟩ = some (.int .i64 z.s.clock) ∧
    ∀ m f, m < j → z.s.fams[m]? = some f → (f.dead || oldB r z.s.clock f) = false
section
variable {B vb sb db k : Nat} {r : Ru} {z : SS} {v : Value} {W : World}
set_option maxHeartbeats 4000000 in
set_option maxRecDepth 100000 in
theorem svc_sweep (h : SW B vb sb db k r z v W) (hk : k < 1000000) :
    Calls Tryz.prog 134 #[.pointer (some ⟨vb, 0, none⟩)] W (PlanI W B vb sb db k r z (sweepP r z.s)) := by
  have HST := Lib.hid (fun w (h : SW B vb sb db k r z v w) => (sx_state h.sx).mono fun _ _ h => got_as h)
  have hfit := h.sx.fit
  have hru := ruB_parts h.right
  have hlen := hfit.len
  have HA : Hid (∀ w id, SX B sb db k z v w → Calls Tryz.prog 190 #[.pointer (some ⟨sb, 0, none⟩), evVal (dropEv id)] w (DoneX w B sb db k (addS z (dropEv id)))) := Lib.hid fun w id h => sx_add h hk _ (by show Fam.zero.short 5000; unfold Fam.short Fam.zero; dsimp only; refine ⟨by decide, by decide, by decide, by decide⟩)
  obtain ⟨c0, c1, c2, c3, c4, hlt⟩ := h.five
  have H := Lib.hid h
  clear h
  go_enter Tryz.func134, Tryz.ntmps134
  go_wp2_with fail
  go_at_call 177
  refine (HST.out _ H.out).mono ?_
  rintro e w1 ⟨a1, ac, rfl, hr, hb⟩
  have H1 := Lib.hid (H.out.keep hb)
  have HB1 := Lib.hid hb
  have HR1 := Lib.hid hr
  clear hr hb c0 c1 c2 c3 c4 hlt H HST
  have hal := (Below.refl w1.heap.size w1).alloc (Nat.le_refl _) (.cells #[.int .i64 z.s.clock, .int .i64 z.s.next, .slice a1 z.s.fams.length ac] 83)
  have H2 := Lib.hid (H1.out.keep hal)
  have HB2 := Lib.hid (below_2 HB1.out hal)
  have HR2 := Lib.hid (HR1.out.below hal)
  have HC2 := Lib.hid ((Blk.new w1 83 #[.int .i64 z.s.clock, .int .i64 z.s.next, .slice a1 z.s.fams.length ac]).cell 0)
  have HSZ := Lib.hid HB1.out.size
  clear hal HB1 H1 HR1
  go_wp2_with fail
  generalize w1.alloc (.cells #[.int .i64 z.s.clock, .int .i64 z.s.next, .slice a1 z.s.fams.length ac] 83) = w2 at *
  generalize w1.heap.size = cb at *
  go_loopw [16] (fun i wr => SwRel W B vb sb db k r z v cb a1 ac i wr) (fun i _ => z.s.fams.length - (intOf i).toNat)
  case atStart => exact ⟨0, Nat.zero_le _, rfl, HB2.out, H2.out, HR2.out, HC2.out, fun j f hj => absurd hj (Nat.not_lt_zero _)⟩
  case round =>
    obtain ⟨j, hj, rfl, hb, hs, hr, hc, hno⟩ := hrel
    have HB := Lib.hid hb
    have HS := Lib.hid hs
    have HR3 := Lib.hid hr
    have HNO := Lib.hid hno
    have HCK := Lib.hid hc
    clear hb hs hr hc hno HR2 HC2 H2 HB2
    by_cases hlt : j < z.s.fams.length
    · obtain ⟨g, rfl, _, ra⟩ := HR3.out.lit hlt
      obtain ⟨f, hf⟩ : ∃ f, z.s.fams[j]? = some f := ⟨_, List.getElem?_eq_getElem hlt⟩
      have HF := Lib.hid hf
      obtain ⟨_, _, gm, gu, _⟩ := famB_parts (hfit.fams f (List.mem_of_getElem? hf))
      have HADU := Lib.hid (fun w => svc_add f.used r.idle w (by have := okN_iff.1 gu; omega) (by have := okN_iff.1 hru.2.1; omega))
      have HADM := Lib.hid (fun w => svc_add f.made r.life w (by have := okN_iff.1 gm; omega) (by have := okN_iff.1 hru.2.2.1; omega))
      have hold : (f.dead || oldB r z.s.clock f) = (f.dead || (decide (capN f.used r.idle < z.s.clock) || decide (capN f.made r.life < z.s.clock))) := rfl
      have HOL := Lib.hid hold
      obtain ⟨i, cl, su, scp, ge, ma, us, re, de⟩ := f
      obtain ⟨e0, e1, e2, e3, e4, e5, e6, e7, e8⟩ := ra.nine hf
      dsimp only at HADU HADM HOL
      have h0 : (0 : Int) ≤ (j : Int) := by omega
      have h1 : (j : Int) < (z.s.fams.length : Int) := by omega
      clear hf ra gm gu hold
      go_wp2_with fail
      have hal := (Below.refl wr.heap.size wr).alloc (Nat.le_refl _) (.cells #[.int .i64 i, .string cl, .string su, .string scp, .int .i64 ge, .int .i64 ma, .int .i64 us, .string re, .bool de] 95)
      have hg := Blk.new wr 95 #[.int .i64 i, .string cl, .string su, .string scp, .int .i64 ge, .int .i64 ma, .int .i64 us, .string re, .bool de]
      have HG4 := Lib.hid hg
      have HS4 := Lib.hid (HS.out.keep hal)
      have HB4 := Lib.hid (below_2 HB.out hal)
      have HR4 := Lib.hid (HR3.out.below hal)
      have hcl := World.block_lt_of_cell? wr _ HCK.out
      have HC4 := Lib.hid ((hal.cell (p := ⟨cb, 0, none⟩) hcl).trans HCK.out)
      have HA2 : Hid (∀ w, SX B sb db k z v w → Calls Tryz.prog 190 #[.pointer (some ⟨sb, 0, none⟩), .agg #[.int .i64 2, .int .i64 0, .string ⟨#[]⟩, .string ⟨#[]⟩, .string ⟨#[]⟩, .int .i64 0, .int .i64 0, .int .i64 0, .string ⟨#[]⟩, .bool false, .int .i64 i, .int .i64 0]] w (DoneX w B sb db k (addS z (dropEv i)))) := Lib.hid fun w h => HA.out w i h
      clear hal hg hcl HB HS HR3 HCK HA e0 e1 e2 e3 e4 e5 e6 e7 e8
      generalize wr.alloc (.cells #[.int .i64 i, .string cl, .string su, .string scp, .int .i64 ge, .int .i64 ma, .int .i64 us, .string re, .bool de] 95) = w4 at *
      generalize wr.heap.size = fb at *
      obtain ⟨d0, d1, d2, d3, d4, d5, d6, d7, d8⟩ := fam_cells HG4.out
      obtain ⟨c0, c1, c2, c3, c4, hvb⟩ := HS4.out.five
      have hck := HC4.out
      cases de
      · by_cases hu : capN us r.idle < z.s.clock
        · have hu' : decide (capN us r.idle < z.s.clock) = true := decide_eq_true hu
          have hp : sweepP r z.s = .put (dropEv i) i 0 := by
            unfold sweepP sweepF
            rw [find_at HNO.out HF.out (by rw [HOL.out]; simp [hu])]
          have HP := Lib.hid hp
          generalize hQ : addS z (dropEv i) = Q at *
          have HQ := Lib.hid hQ
          clear hp hQ HNO HF HR4 HOL
          go_wp2_with fail
          go_quiet ((first
            | (go_at_call 184; exact Calls.quiet_of_same ((HADU.out _).mono fun _ _ h => ⟨h.1, h.2.symm⟩))
            | (go_at_call 184; exact Calls.quiet_of_same ((HADM.out _).mono fun _ _ h => ⟨h.1, h.2.symm⟩))))
          go_wp2_with fail
          have hbd : Below w4.heap.size w4 (w4.drewN nq).drew := below_dr (below_drewN (Below.refl w4.heap.size w4) nq)
          have HSD := Lib.hid (HS4.out.keep hbd)
          have HGD := Lib.hid (HG4.out.below' hbd)
          have HBD := Lib.hid (below_2 HB4.out hbd)
          clear hbd HS4 HG4 HB4 d0 d1 d2 d3 d4 d5 d6 d7 d8 c0 c1 c2 c3 c4 hvb HC4
          generalize w4.drewN nq = w5 at *
          have HD : w5.drew.cell? ⟨vb, 0, none⟩ = some (.pointer (some ⟨sb, 0, none⟩)) ∧ w5.drew.cell? ⟨fb, 0, none⟩ = some (.int .i64 i) := ⟨HSD.out.five.1, HGD.out.cell 0⟩
          go_region_held3 (fun w' => w'.cell? ⟨vb, 0, none⟩ = some (.pointer (some ⟨sb, 0, none⟩)) ∧ w'.cell? ⟨fb, 0, none⟩ = some (.int .i64 i))
            (first
              | with_reducible assumption
              | with_reducible exact HD)
            (first
              | (go_at_call 190; (with_reducible refine (HA2.out _ HSD.out.sx).mono ?_); rintro x' w6 ⟨rfl, htw, v2, hsx⟩
                 have hend : PutX W B vb sb db k r Q (.returned (errV Q.2)) w6 := ⟨rfl, (Two.of_below HBD.out).trans htw, v2, HSD.out.two htw hsx⟩
                 have hx2 : w6.cell? ⟨vb, 0, none⟩ = some (.pointer (some ⟨sb, 0, none⟩)) ∧ w6.cell? ⟨fb, 0, none⟩ = some (.int .i64 i) := ⟨(HSD.out.two htw hsx).five.1, (HGD.out.two htw (HSD.out.sx.apart HGD.out (by decide) (by decide)).1 (HSD.out.sx.apart HGD.out (by decide) (by decide)).2).cell 0⟩))
          obtain ⟨-, htw, v6, h6⟩ := hend
          have H6 := Lib.hid h6
          have HT6 := Lib.hid htw
          clear h6 htw
          by_cases hq : Q.2 = 0
          · have e0 : errV Q.2 = .nilIface := by rw [hq]; exact errV_0
            rw [e0]
            have HQ0 := Lib.hid hq
            clear e0 hq
            go_wp2_with fail
            go_ret2
            rw [HP.out]
            exact PlanI.good (by rw [HQ.out]; exact HQ0.out) HT6.out (by rw [HQ.out]; exact H6.out) _ errV_0.symm
          · have e0 : errV Q.2 = .iface 57 (.int .i64 Q.2) := errV_n hq
            have HE0 := Lib.hid e0
            rw [e0]
            have HQ0 := Lib.hid hq
            clear e0 hq
            go_wp2_with fail
            go_ret2
            rw [HP.out, ← HE0.out, ← HQ.out]
            exact PlanI.bad (by rw [HQ.out]; exact HQ0.out) HT6.out (by rw [HQ.out]; exact H6.out)
        · have hu' : decide (capN us r.idle < z.s.clock) = false := decide_eq_false hu
          by_cases hm : capN ma r.life < z.s.clock
          · have hm' : decide (capN ma r.life < z.s.clock) = true := decide_eq_true hm
            have hp : sweepP r z.s = .put (dropEv i) i 0 := by
              unfold sweepP sweepF
              rw [find_at HNO.out HF.out (by rw [HOL.out]; simp [hm])]
            have HP := Lib.hid hp
            generalize hQ : addS z (dropEv i) = Q at *
            have HQ := Lib.hid hQ
            clear hp hQ HNO HF HR4 HOL
            go_wp2_with fail
            go_quiet ((first
              | (go_at_call 184; exact Calls.quiet_of_same ((HADU.out _).mono fun _ _ h => ⟨h.1, h.2.symm⟩))
              | (go_at_call 184; exact Calls.quiet_of_same ((HADM.out _).mono fun _ _ h => ⟨h.1, h.2.symm⟩))))
            go_wp2_with fail
            have hbd : Below w4.heap.size w4 (w4.drewN nq).drew := below_dr (below_drewN (Below.refl w4.heap.size w4) nq)
            have HSD := Lib.hid (HS4.out.keep hbd)
            have HGD := Lib.hid (HG4.out.below' hbd)
            have HBD := Lib.hid (below_2 HB4.out hbd)
            clear hbd HS4 HG4 HB4 d0 d1 d2 d3 d4 d5 d6 d7 d8 c0 c1 c2 c3 c4 hvb HC4
            generalize w4.drewN nq = w5 at *
            have HD : w5.drew.cell? ⟨vb, 0, none⟩ = some (.pointer (some ⟨sb, 0, none⟩)) ∧ w5.drew.cell? ⟨fb, 0, none⟩ = some (.int .i64 i) := ⟨HSD.out.five.1, HGD.out.cell 0⟩
            go_region_held3 (fun w' => w'.cell? ⟨vb, 0, none⟩ = some (.pointer (some ⟨sb, 0, none⟩)) ∧ w'.cell? ⟨fb, 0, none⟩ = some (.int .i64 i))
              (first
                | with_reducible assumption
                | with_reducible exact HD)
              (first
                | (go_at_call 190; (with_reducible refine (HA2.out _ HSD.out.sx).mono ?_); rintro x' w6 ⟨rfl, htw, v2, hsx⟩
                   have hend : PutX W B vb sb db k r Q (.returned (errV Q.2)) w6 := ⟨rfl, (Two.of_below HBD.out).trans htw, v2, HSD.out.two htw hsx⟩
                   have hx2 : w6.cell? ⟨vb, 0, none⟩ = some (.pointer (some ⟨sb, 0, none⟩)) ∧ w6.cell? ⟨fb, 0, none⟩ = some (.int .i64 i) := ⟨(HSD.out.two htw hsx).five.1, (HGD.out.two htw (HSD.out.sx.apart HGD.out (by decide) (by decide)).1 (HSD.out.sx.apart HGD.out (by decide) (by decide)).2).cell 0⟩))
            obtain ⟨-, htw, v6, h6⟩ := hend
            have H6 := Lib.hid h6
            have HT6 := Lib.hid htw
            clear h6 htw
            by_cases hq : Q.2 = 0
            · have e0 : errV Q.2 = .nilIface := by rw [hq]; exact errV_0
              rw [e0]
              have HQ0 := Lib.hid hq
              clear e0 hq
              go_wp2_with fail
              go_ret2
              rw [HP.out]
              exact PlanI.good (by rw [HQ.out]; exact HQ0.out) HT6.out (by rw [HQ.out]; exact H6.out) _ errV_0.symm
            · have e0 : errV Q.2 = .iface 57 (.int .i64 Q.2) := errV_n hq
              have HE0 := Lib.hid e0
              rw [e0]
              have HQ0 := Lib.hid hq
              clear e0 hq
              go_wp2_with fail
              go_ret2
              rw [HP.out, ← HE0.out, ← HQ.out]
              exact PlanI.bad (by rw [HQ.out]; exact HQ0.out) HT6.out (by rw [HQ.out]; exact H6.out)
          · have hm' : decide (capN ma r.life < z.s.clock) = false := decide_eq_false hm
            have hno : (false || oldB r z.s.clock ⟨i, cl, su, scp, ge, ma, us, re, false⟩) = false := by rw [HOL.out, hu', hm']; rfl
            have HNN := Lib.hid hno
            clear hno
            go_wp2_with fail
            go_quiet ((first
              | (go_at_call 184; exact Calls.quiet_of_same ((HADU.out _).mono fun _ _ h => ⟨h.1, h.2.symm⟩))
              | (go_at_call 184; exact Calls.quiet_of_same ((HADM.out _).mono fun _ _ h => ⟨h.1, h.2.symm⟩))))
            go_wp2_with fail
            have hbd : Below w4.heap.size w4 (w4.drewN nq) := below_drewN (Below.refl w4.heap.size w4) nq
            go_roundw
            case rel => exact ⟨j + 1, by omega, by go_num, below_2 HB4.out hbd, HS4.out.keep hbd, HR4.out.below hbd, (hbd.cell (p := ⟨cb, 0, none⟩) (World.block_lt_of_cell? w4 _ HC4.out)).trans HC4.out, fun m f hm hf => by
              by_cases e : m = j
              · subst e
                rw [HF.out] at hf
                cases hf
                exact HNN.out
              · exact HNO.out m f (by omega) hf⟩
            case measure => simp [intOf]; omega
      · have hp : sweepP r z.s = .put (dropEv i) i 0 := by
          unfold sweepP sweepF
          rw [find_at HNO.out HF.out (rfl)]
        have HP := Lib.hid hp
        generalize hQ : addS z (dropEv i) = Q at *
        have HQ := Lib.hid hQ
        clear hp hQ HNO HF HR4 HOL
        go_wp2_with fail
        go_quiet ((first
          | (go_at_call 184; exact Calls.quiet_of_same ((HADU.out _).mono fun _ _ h => ⟨h.1, h.2.symm⟩))
          | (go_at_call 184; exact Calls.quiet_of_same ((HADM.out _).mono fun _ _ h => ⟨h.1, h.2.symm⟩))))
        go_wp2_with fail
        have hbd : Below w4.heap.size w4 (w4.drewN nq).drew := below_dr (below_drewN (Below.refl w4.heap.size w4) nq)
        have HSD := Lib.hid (HS4.out.keep hbd)
        have HGD := Lib.hid (HG4.out.below' hbd)
        have HBD := Lib.hid (below_2 HB4.out hbd)
        clear hbd HS4 HG4 HB4 d0 d1 d2 d3 d4 d5 d6 d7 d8 c0 c1 c2 c3 c4 hvb HC4
        generalize w4.drewN nq = w5 at *
        have HD : w5.drew.cell? ⟨vb, 0, none⟩ = some (.pointer (some ⟨sb, 0, none⟩)) ∧ w5.drew.cell? ⟨fb, 0, none⟩ = some (.int .i64 i) := ⟨HSD.out.five.1, HGD.out.cell 0⟩
        go_region_held3 (fun w' => w'.cell? ⟨vb, 0, none⟩ = some (.pointer (some ⟨sb, 0, none⟩)) ∧ w'.cell? ⟨fb, 0, none⟩ = some (.int .i64 i))
          (first
            | with_reducible assumption
            | with_reducible exact HD)
          (first
            | (go_at_call 190; (with_reducible refine (HA2.out _ HSD.out.sx).mono ?_); rintro x' w6 ⟨rfl, htw, v2, hsx⟩
               have hend : PutX W B vb sb db k r Q (.returned (errV Q.2)) w6 := ⟨rfl, (Two.of_below HBD.out).trans htw, v2, HSD.out.two htw hsx⟩
               have hx2 : w6.cell? ⟨vb, 0, none⟩ = some (.pointer (some ⟨sb, 0, none⟩)) ∧ w6.cell? ⟨fb, 0, none⟩ = some (.int .i64 i) := ⟨(HSD.out.two htw hsx).five.1, (HGD.out.two htw (HSD.out.sx.apart HGD.out (by decide) (by decide)).1 (HSD.out.sx.apart HGD.out (by decide) (by decide)).2).cell 0⟩))
        obtain ⟨-, htw, v6, h6⟩ := hend
        have H6 := Lib.hid h6
        have HT6 := Lib.hid htw
        clear h6 htw
        by_cases hq : Q.2 = 0
        · have e0 : errV Q.2 = .nilIface := by rw [hq]; exact errV_0
          rw [e0]
          have HQ0 := Lib.hid hq
          clear e0 hq
          go_wp2_with fail
          go_ret2
          rw [HP.out]
          exact PlanI.good (by rw [HQ.out]; exact HQ0.out) HT6.out (by rw [HQ.out]; exact H6.out) _ errV_0.symm
        · have e0 : errV Q.2 = .iface 57 (.int .i64 Q.2) := errV_n hq
          have HE0 := Lib.hid e0
          rw [e0]
          have HQ0 := Lib.hid hq
          clear e0 hq
          go_wp2_with fail
          go_ret2
          rw [HP.out, ← HE0.out, ← HQ.out]
          exact PlanI.bad (by rw [HQ.out]; exact HQ0.out) HT6.out (by rw [HQ.out]; exact H6.out)
    · have hkn : j = z.s.fams.length := by omega
      have hp : sweepP r z.s = .say 0 8 := by
        unfold sweepP sweepF
        rw [find_end_none (fun m f hm hf => HNO.out m f (by omega) hf)]
      have HP := Lib.hid hp
      clear hp
      go_wp2_with fail
      go_ret2
      rw [HP.out]
      exact PlanI.say HS.out HB.out _ (errV_n (by decide)).symm
end
end Go.Proofs.YtepjcdjpikbbjaaGreatDoor

/-
  A service: New.
-/
namespace Go.Proofs.YtepjcdjpikbbjaaGreatDoor
open Go.RowKit Go.Sort

set_option maxHeartbeats 4000000 in
set_option maxRecDepth 100000 in
theorem svc_new_yes {B sb db k : Nat} {r : Ru} {z : SS} {v : Value} {W : World} (h : SX B sb db k z v W) (hr : ruB r = true) :
    Calls Tryz.prog 21 #[.pointer (some ⟨sb, 0, none⟩), .agg #[.int .i64 r.key, .int .i64 r.idle, .int .i64 r.life, .int .i64 r.access]] W fun e w' => ∃ vb, e = .returned (.tuple #[.pointer (some ⟨vb, 0, none⟩), .nilIface]) ∧ SW B vb sb db k r z v w' ∧ W.heap.size ≤ vb ∧ Below W.heap.size W w' := by
  have hB : B ≤ W.heap.size := by obtain ⟨D, n, f, x, h1, _⟩ := h; exact h1.big
  obtain ⟨k1, k2, k3, k4⟩ := ruB_parts hr
  obtain ⟨a0, a1⟩ := okN_iff.1 k1
  obtain ⟨b0, b1⟩ := okN_iff.1 k2
  obtain ⟨d0, d1⟩ := okN_iff.1 k3
  obtain ⟨e0, e1⟩ := okN_iff.1 k4
  have HR := Lib.hid hr
  have H := Lib.hid h
  clear h hr k1 k2 k3 k4
  obtain ⟨ky, il, li, ac⟩ := r
  dsimp only at *
  have hal := alloc2 W (.cells #[.int .i64 ky, .int .i64 il, .int .i64 li, .int .i64 ac] 30) (.cells #[.int .i64 ky, .int .i64 il, .int .i64 li, .int .i64 ac] 3)
  have HAL := Lib.hid hal
  have H1 := Lib.hid (H.out.keep hal)
  have HR3 := Lib.hid ((Blk.new W 30 #[.int .i64 ky, .int .i64 il, .int .i64 li, .int .i64 ac]).alloc (.cells #[.int .i64 ky, .int .i64 il, .int .i64 li, .int .i64 ac] 3))
  have hg : Blk ((W.alloc (.cells #[.int .i64 ky, .int .i64 il, .int .i64 li, .int .i64 ac] 30)).alloc (.cells #[.int .i64 ky, .int .i64 il, .int .i64 li, .int .i64 ac] 3)) (W.heap.size + 1) 3 #[.int .i64 ky, .int .i64 il, .int .i64 li, .int .i64 ac] := by
    have := Blk.new (W.alloc (.cells #[.int .i64 ky, .int .i64 il, .int .i64 li, .int .i64 ac] 30)) 3 #[.int .i64 ky, .int .i64 il, .int .i64 li, .int .i64 ac]
    rw [show (W.alloc (.cells #[.int .i64 ky, .int .i64 il, .int .i64 li, .int .i64 ac] 30)).heap.size = W.heap.size + 1 by simp] at this
    exact this
  have HG3 := Lib.hid hg
  clear hal hg
  go_enter Tryz.func21, Tryz.ntmps21
  go_wp2_with fail
  generalize (W.alloc (.cells #[.int .i64 ky, .int .i64 il, .int .i64 li, .int .i64 ac] 30)).alloc (.cells #[.int .i64 ky, .int .i64 il, .int .i64 li, .int .i64 ac] 3) = w1 at *
  obtain ⟨x0, x1, x2, x3⟩ := tok_cells HG3.out
  obtain ⟨y0, y1, y2, y3⟩ := tok_cells HR3.out
  refine wp_loop_rounds 5 ?_
  rw [rounds_succ]
  go_wp2_with fail
  rw [rounds_succ]
  go_wp2_with fail
  rw [rounds_succ]
  go_wp2_with fail
  rw [rounds_succ]
  go_wp2_with fail
  rw [rounds_succ]
  go_wp2_with fail
  go_ret2
  have hal := (Below.refl w1.heap.size w1).alloc (Nat.le_refl _) (.cells #[.pointer (some ⟨sb, 0, none⟩), .int .i64 ky, .int .i64 il, .int .i64 li, .int .i64 ac] 122)
  exact ⟨w1.heap.size, rfl, ⟨Blk.new w1 _ _, H1.out.keep hal, HR.out, Nat.le_trans hB HAL.out.size⟩, HAL.out.size, below_2 HAL.out hal⟩
theorem okN_not {x : Int} (h : okN x = false) : x < 0 ∨ 1099511627776 < x := by
  by_cases h0 : x < 0
  · exact .inl h0
  · by_cases h1 : 1099511627776 < x
    · exact .inr h1
    · rw [okN_iff.2 ⟨by omega, by omega⟩] at h
      cases h
theorem ruB_not {r : Ru} (h : ruB r = false) : okN r.key = false ∨ (okN r.key = true ∧ (okN r.idle = false ∨ (okN r.idle = true ∧ (okN r.life = false ∨ (okN r.life = true ∧ okN r.access = false))))) := by
  unfold ruB at h
  cases h1 : okN r.key <;> cases h2 : okN r.idle <;> cases h3 : okN r.life <;> cases h4 : okN r.access <;> simp_all
set_option maxHeartbeats 4000000 in
set_option maxRecDepth 100000 in
theorem svc_new_no {sb : Nat} {r : Ru} {W : World} (hr : ruB r = false) :
    Calls Tryz.prog 21 #[.pointer (some ⟨sb, 0, none⟩), .agg #[.int .i64 r.key, .int .i64 r.idle, .int .i64 r.life, .int .i64 r.access]] W fun e w' => e = .returned (.tuple #[.pointer none, errV 2]) ∧ Below W.heap.size W w' := by
  have hn := ruB_not hr
  clear hr
  obtain ⟨ky, il, li, ac⟩ := r
  dsimp only at *
  have hal := alloc2 W (.cells #[.int .i64 ky, .int .i64 il, .int .i64 li, .int .i64 ac] 30) (.cells #[.int .i64 ky, .int .i64 il, .int .i64 li, .int .i64 ac] 3)
  have HAL := Lib.hid hal
  have hg : Blk ((W.alloc (.cells #[.int .i64 ky, .int .i64 il, .int .i64 li, .int .i64 ac] 30)).alloc (.cells #[.int .i64 ky, .int .i64 il, .int .i64 li, .int .i64 ac] 3)) (W.heap.size + 1) 3 #[.int .i64 ky, .int .i64 il, .int .i64 li, .int .i64 ac] := by
    have := Blk.new (W.alloc (.cells #[.int .i64 ky, .int .i64 il, .int .i64 li, .int .i64 ac] 30)) 3 #[.int .i64 ky, .int .i64 il, .int .i64 li, .int .i64 ac]
    rw [show (W.alloc (.cells #[.int .i64 ky, .int .i64 il, .int .i64 li, .int .i64 ac] 30)).heap.size = W.heap.size + 1 by simp] at this
    exact this
  have HG3 := Lib.hid hg
  clear hal hg
  go_enter Tryz.func21, Tryz.ntmps21
  go_wp2_with fail
  generalize (W.alloc (.cells #[.int .i64 ky, .int .i64 il, .int .i64 li, .int .i64 ac] 30)).alloc (.cells #[.int .i64 ky, .int .i64 il, .int .i64 li, .int .i64 ac] 3) = w1 at *
  obtain ⟨x0, x1, x2, x3⟩ := tok_cells HG3.out
  refine wp_loop_rounds 5 ?_
  rcases hn with h | ⟨k1, h | ⟨k2, h | ⟨k3, h⟩⟩⟩
  · rcases okN_not h with hx | hx
    · rw [rounds_succ]
      go_wp2_with fail
      go_ret2
      exact ⟨by rw [errV_n (by decide)]; rfl, HAL.out⟩
    · have hx0 : ¬ ky < 0 := by omega
      rw [rounds_succ]
      go_wp2_with fail
      go_ret2
      exact ⟨by rw [errV_n (by decide)]; rfl, HAL.out⟩
  · obtain ⟨p0, q0⟩ := okN_iff.1 k1
    rcases okN_not h with hx | hx
    · rw [rounds_succ]
      go_wp2_with fail
      rw [rounds_succ]
      go_wp2_with fail
      go_ret2
      exact ⟨by rw [errV_n (by decide)]; rfl, HAL.out⟩
    · have hx0 : ¬ il < 0 := by omega
      rw [rounds_succ]
      go_wp2_with fail
      rw [rounds_succ]
      go_wp2_with fail
      go_ret2
      exact ⟨by rw [errV_n (by decide)]; rfl, HAL.out⟩
  · obtain ⟨p0, q0⟩ := okN_iff.1 k1
    obtain ⟨p1, q1⟩ := okN_iff.1 k2
    rcases okN_not h with hx | hx
    · rw [rounds_succ]
      go_wp2_with fail
      rw [rounds_succ]
      go_wp2_with fail
      rw [rounds_succ]
      go_wp2_with fail
      go_ret2
      exact ⟨by rw [errV_n (by decide)]; rfl, HAL.out⟩
    · have hx0 : ¬ li < 0 := by omega
      rw [rounds_succ]
      go_wp2_with fail
      rw [rounds_succ]
      go_wp2_with fail
      rw [rounds_succ]
      go_wp2_with fail
      go_ret2
      exact ⟨by rw [errV_n (by decide)]; rfl, HAL.out⟩
  · obtain ⟨p0, q0⟩ := okN_iff.1 k1
    obtain ⟨p1, q1⟩ := okN_iff.1 k2
    obtain ⟨p2, q2⟩ := okN_iff.1 k3
    rcases okN_not h with hx | hx
    · rw [rounds_succ]
      go_wp2_with fail
      rw [rounds_succ]
      go_wp2_with fail
      rw [rounds_succ]
      go_wp2_with fail
      rw [rounds_succ]
      go_wp2_with fail
      go_ret2
      exact ⟨by rw [errV_n (by decide)]; rfl, HAL.out⟩
    · have hx0 : ¬ ac < 0 := by omega
      rw [rounds_succ]
      go_wp2_with fail
      rw [rounds_succ]
      go_wp2_with fail
      rw [rounds_succ]
      go_wp2_with fail
      rw [rounds_succ]
      go_wp2_with fail
      go_ret2
      exact ⟨by rw [errV_n (by decide)]; rfl, HAL.out⟩

end Go.Proofs.YtepjcdjpikbbjaaGreatDoor

/-
  The desk, as it lies in memory; what a command comes to.
-/
namespace Go.Proofs.YtepjcdjpikbbjaaGreatDoor
open Go.RowKit Go.Sort

theorem used3 {a b c : Prop} (_ : a) (_ : b) (_ : c) : True := trivial
def dkCs (db sb vb : Nat) (r : Ru) : Array Value := #[.pointer (some ⟨db, 0, none⟩), .pointer (some ⟨sb, 0, none⟩), .pointer (some ⟨vb, 0, none⟩), .int .i64 r.key, .int .i64 r.idle, .int .i64 r.life, .int .i64 r.access]
structure DKW (W : World) (xb vb sb db k : Nat) (r : Ru) (z : SS) (v : Value) (w : World) : Prop where
  at_ : Blk w xb 32 (dkCs db sb vb r)
  sw : SW W.heap.size vb sb db k r z v w
  bx : W.heap.size ≤ xb
  below : Below W.heap.size W w
  err : ErrType W
  eg : 1 < W.heap.size
/-- blocks that a command may turn -/
def mutT (t : TypeId) : Bool := t == 112 || t == 65 || t == 32
def mutB : Obj → Bool
  | .cells _ t _ => mutT t
  | _ => false
structure StayD (w w' : World) : Prop where
  os : w'.os = w.os
  tape : w'.tape = w.tape
  output : w'.output = w.output
  size : w.heap.size ≤ w'.heap.size
  block : ∀ (i : Nat) (o : Obj), w.heap[i]? = some o → mutB o = false → w'.heap[i]? = some o
section
variable {w w' w'' : World}
theorem StayD.trans (h : StayD w w') (k : StayD w' w'') : StayD w w'' := ⟨k.os.trans h.os, k.tape.trans h.tape, k.output.trans h.output, Nat.le_trans h.size k.size, fun i o hi hm => k.block i o (h.block i o hi hm) hm⟩
theorem StayD.of_below (h : Below w.heap.size w w') : StayD w w' := ⟨h.os, h.tape, h.output, h.size, fun i _ hi _ => (h.block i (Array.getElem?_eq_some_iff.1 hi).1).trans hi⟩
theorem StayD.of_two {a b : Nat} {ca cb : Array Value} (h : Two a b w w') (ha : Blk w a 112 ca) (hb : Blk w b 65 cb) : StayD w w' :=
  ⟨h.os, h.tape, h.output, h.size, fun i o hi hm => by
    have hlt := (Array.getElem?_eq_some_iff.1 hi).1
    refine (h.block i hlt ?_ ?_).trans hi
    · rintro rfl
      unfold Blk at ha
      rw [ha] at hi
      cases hi
      rw [show mutB (.cells ca 112 (0, 0)) = true from rfl] at hm
      cases hm
    · rintro rfl
      unfold Blk at hb
      rw [hb] at hi
      cases hi
      rw [show mutB (.cells cb 65 (0, 0)) = true from rfl] at hm
      cases hm⟩
theorem StayD.of_one {x : Nat} {t : TypeId} {cs : Array Value} (h : w.grownBy w' (some x)) (hx : Blk w x t cs) (ht : mutT t = true) : StayD w w' :=
  ⟨h.os, h.tape, h.output, h.size, fun i o hi hm => by
    have hlt := (Array.getElem?_eq_some_iff.1 hi).1
    refine (h.block i hlt ?_).trans hi
    intro he
    cases he
    unfold Blk at hx
    rw [hx] at hi
    cases hi
    rw [show mutB (.cells cs t (0, 0)) = mutT t from rfl, ht] at hm
    cases hm⟩
theorem Blk.stay {g : Nat} {t : TypeId} {cs : Array Value} (h : Blk w g t cs) (k : StayD w w') (ht : mutT t = false) : Blk w' g t cs := k.block g _ h ht
end
section
variable {W w w' : World} {xb vb sb db k : Nat} {r : Ru} {z : SS} {v : Value}
theorem DKW.keep (h : DKW W xb vb sb db k r z v w) (hb : Below w.heap.size w w') : DKW W xb vb sb db k r z v w' := ⟨h.at_.below' hb, h.sw.keep hb, h.bx, below_2 h.below hb, h.err, h.eg⟩
theorem DKW.drew (h : DKW W xb vb sb db k r z v w) : DKW W xb vb sb db k r z v w.drew := h.keep (below_dr (Below.refl _ _))
theorem DKW.later (h : DKW W xb vb sb db k r z v w) : DKW W xb vb sb db (k + 1) r z v w := ⟨h.at_, h.sw.later, h.bx, h.below, h.err, h.eg⟩
theorem DKW.et (h : DKW W xb vb sb db k r z v w) : ErrType w := h.err.below h.below h.eg
theorem DKW.env (h : DKW W xb vb sb db k r z v w) : Env W.heap.size w := h.sw.sx.env
theorem DKW.elt (h : DKW W xb vb sb db k r z v w) : 1 < w.heap.size := Nat.lt_of_lt_of_le h.eg h.below.size
theorem DKW.seven (h : DKW W xb vb sb db k r z v w) : w.cell? ⟨xb, 0, none⟩ = some (.pointer (some ⟨db, 0, none⟩)) ∧ w.cell? ⟨xb, 1, none⟩ = some (.pointer (some ⟨sb, 0, none⟩)) ∧ w.cell? ⟨xb, 2, none⟩ = some (.pointer (some ⟨vb, 0, none⟩)) ∧ w.cell? ⟨xb, 3, none⟩ = some (.int .i64 r.key) ∧ w.cell? ⟨xb, 4, none⟩ = some (.int .i64 r.idle) ∧ w.cell? ⟨xb, 5, none⟩ = some (.int .i64 r.life) ∧ w.cell? ⟨xb, 6, none⟩ = some (.int .i64 r.access) ∧ xb < w.heap.size :=
  ⟨h.at_.cell 0, h.at_.cell 1, h.at_.cell 2, h.at_.cell 3, h.at_.cell 4, h.at_.cell 5, h.at_.cell 6, h.at_.lt⟩
theorem DKW.two {k' : Nat} {z' : SS} {v' : Value} (h : DKW W xb vb sb db k r z v w) (t : Two sb db w w') (hs : SW W.heap.size vb sb db k' r z' v' w') : DKW W xb vb sb db k' r z' v' w' ∧ StayD w w' := by
  obtain ⟨⟨ca, ha⟩, cb, hb⟩ := h.sw.sx.blocks
  obtain ⟨p1, p2, p3⟩ := h.sw.sx.places
  exact ⟨⟨h.at_.two t (h.at_.ne_ ha (by decide)) (h.at_.ne_ hb (by decide)), hs, h.bx, t.below h.below h.below.size p1 p2, h.err, h.eg⟩, StayD.of_two t ha hb⟩
end
/-- a desk somewhere -/
def DKE (W : World) (xb k : Nat) (d : DS) (w : World) : Prop := ∃ vb sb db v, DKW W xb vb sb db k d.r d.z v w
/-- how a command ends: its answer is handed back, or its number is thrown -/
def AnsE (a : Ans) (e : Ending) : Prop := (a.2.2 = 0 ∧ e = .returned (.string a.2.1)) ∨ (a.2.2 ≠ 0 ∧ e = .panicked (errP a.2.2))
def DkDone (W w : World) (xb k : Nat) (a : Ans) (e : Ending) (w' : World) : Prop := AnsE a e ∧ DKE W xb (k + 1) a.1 w' ∧ StayD w w'
section
variable {W w w' w'' : World} {xb vb sb db k : Nat} {r : Ru} {z : SS} {v : Value}
theorem DKW.thrown (h : DKW W xb vb sb db k r z v w) (hb : Below w.heap.size w w') {c : Int} (hc : c ≠ 0) {a : ByteArray} : DkDone W w xb k (⟨r, z⟩, a, c) (.panicked (errP c)) w' := ⟨.inr ⟨hc, rfl⟩, ⟨vb, sb, db, v, (h.keep hb).later⟩, StayD.of_below hb⟩
theorem DKW.told (h : DKW W xb vb sb db k r z v w) (hb : Below w.heap.size w w') (a : ByteArray) : DkDone W w xb k (⟨r, z⟩, a, 0) (.returned (.string a)) w' := ⟨.inl ⟨rfl, rfl⟩, ⟨vb, sb, db, v, (h.keep hb).later⟩, StayD.of_below hb⟩
end
/-- words, where they lie -/
def WAt (w : World) (g off : Nat) (L : List (List UInt8)) : Prop := (∃ o, w.heap[g]? = some o ∧ mutB o = false) ∧ ∀ j x, L[j]? = some x → w.cell? ⟨g, off + j, none⟩ = some (.string (txt x))
theorem WAt.stay {w w' : World} {g off : Nat} {L : List (List UInt8)} (h : WAt w g off L) (hs : StayD w w') : WAt w' g off L := by
  obtain ⟨⟨o, ho, hm⟩, hc⟩ := h
  have hb := hs.block g o ho hm
  refine ⟨⟨o, hb, hm⟩, fun j x hx => ?_⟩
  rw [World.cell?_of_block (w := w) (hb.trans ho.symm)]
  exact hc j x hx
theorem WAt.keep {w w' : World} {g off : Nat} {L : List (List UInt8)} (h : WAt w g off L) (hb : Below w.heap.size w w') : WAt w' g off L := h.stay (StayD.of_below hb)
theorem WAt.drew {w : World} {g off : Nat} {L : List (List UInt8)} (h : WAt w g off L) : WAt w.drew g off L := h
theorem WAt.one {w : World} {g off : Nat} {a : List UInt8} (h : WAt w g off [a]) : w.cell? ⟨g, off, none⟩ = some (.string (txt a)) := h.2 0 a rfl
theorem WAt.two_ {w : World} {g off : Nat} {a b : List UInt8} (h : WAt w g off [a, b]) : w.cell? ⟨g, off, none⟩ = some (.string (txt a)) ∧ w.cell? ⟨g, off + 1, none⟩ = some (.string (txt b)) := ⟨h.2 0 a rfl, h.2 1 b rfl⟩
theorem WAt.three {w : World} {g off : Nat} {a b c : List UInt8} (h : WAt w g off [a, b, c]) : w.cell? ⟨g, off, none⟩ = some (.string (txt a)) ∧ w.cell? ⟨g, off + 1, none⟩ = some (.string (txt b)) ∧ w.cell? ⟨g, off + 2, none⟩ = some (.string (txt c)) := ⟨h.2 0 a rfl, h.2 1 b rfl, h.2 2 c rfl⟩
theorem WAt.four {w : World} {g off : Nat} {a b c e : List UInt8} (h : WAt w g off [a, b, c, e]) : w.cell? ⟨g, off, none⟩ = some (.string (txt a)) ∧ w.cell? ⟨g, off + 1, none⟩ = some (.string (txt b)) ∧ w.cell? ⟨g, off + 2, none⟩ = some (.string (txt c)) ∧ w.cell? ⟨g, off + 3, none⟩ = some (.string (txt e)) := ⟨h.2 0 a rfl, h.2 1 b rfl, h.2 2 c rfl, h.2 3 e rfl⟩
/-- where the desk's service lies, and the words -/
theorem DKW.call {W w : World} {xb vb sb db k : Nat} {r : Ru} {z : SS} {v : Value} (h : DKW W xb vb sb db k r z v w) : w.cell? ⟨xb, 2, none⟩ = some (.pointer (some ⟨vb, 0, none⟩)) := h.seven.2.2.1
theorem plainS_size (b : ByteArray) {n : Nat} (h : b.size ≤ n) : (plainS b).size ≤ n := by
  unfold plainS
  split
  · exact Nat.zero_le _
  · exact h
end Go.Proofs.YtepjcdjpikbbjaaGreatDoor

/-
  The desk's commands: cut.
-/
namespace Go.Proofs.YtepjcdjpikbbjaaGreatDoor
open Go.RowKit Go.Sort

section
variable {W w : World} {xb vb sb db k : Nat} {r : Ru} {z : SS} {v : Value}
set_option maxHeartbeats 4000000 in
set_option maxRecDepth 100000 in
theorem desk_cut (h : DKW W xb vb sb db k r z v w) (hk : k < 1000000) (g off c : Nat) (L : List (List UInt8)) (hw : WAt w g off L) (hl : ∀ x ∈ L, x.length ≤ 5000) :
    Calls Tryz.prog 62 #[.pointer (some ⟨xb, 0, none⟩), .slice (some ⟨g, off, none⟩) L.length c] w (DkDone W w xb k (cutD ⟨r, z⟩ L)) := by
  obtain ⟨⟩ := used3 hk hw hl
  by_cases hL : L.length = 1
  · rcases L with _ | ⟨a, _ | ⟨_, L⟩⟩
    · exact absurd hL (by simp)
    · clear hL
      have HWT := Lib.hid hw
      have d0 := hw.2 0 a rfl
      have l0 := hl a (by simp)
      simp only [Nat.add_zero, List.length_cons, List.length_nil, Nat.zero_add] at *
      clear hw hl
      have H := Lib.hid h
      rcases hn : numE a with _ | _
      · have hcut : cutD ⟨r, z⟩ [a] = bad ⟨r, z⟩ 3 := by show (if numE a = true then _ else _) = _; rw [hn]; rfl
        rw [hcut]
        have HN := Lib.hid (fun w (h : DKW W xb vb sb db k r z v w) => dnum_no (txt a) w (by rw [txt_size]; omega) h.env.tens h.env.errs h.et h.elt (by rw [data_txt]; exact hn))
        unfold Thrown at HN
        obtain ⟨c0, c1, c2, c3, c4, c5, c6, hlt⟩ := h.seven
        clear hcut hn h hk
        go_enter Tryz.func62, Tryz.ntmps62
        go_wp2_with fail
        go_at_call 17
        refine (words_yes _ 1 c w).mono ?_
        rintro e w0 ⟨rfl, rfl⟩
        go_wp2_with fail
        have HSD : DKW W xb vb sb db k r z v w.drew ∧ w.drew.cell? ⟨g, off, none⟩ = some (.string (txt a)) := ⟨H.out.drew, d0⟩
        have HBD := Lib.hid (below_dr (Below.refl w.heap.size w))
        clear c0 c1 c2 c3 c4 c5 c6 hlt d0
        refine wp_region_tail (fun w' => DKW W xb vb sb db k r z v w' ∧ w'.cell? ⟨g, off, none⟩ = some (.string (txt a))) [8] (by kernel_rfl) ?_
        refine wpAnyT_take 16 (i := 0) (v := ?v0_1) rfl (by kernel_rfl) (by kernel_rfl) (by kernel_rfl) (by kernel_rfl) (by kernel_rfl) (fun _ _ _ h => h) (by rfl) ?hy0_1 HSD ?rest0_1
        case hy0_1 => (intro w hSw; obtain ⟨c0, c1, c2, c3, c4, c5, c6, hlt⟩ := DKW.seven (And.left hSw); obtain ⟨_, HD⟩ := hSw; go_simp; (try with_reducible rfl))
        simp only [Act.put]
        refine wpAnyT_take 16 (i := 1) (v := ?v1_2) rfl (by kernel_rfl) (by kernel_rfl) (by kernel_rfl) (by kernel_rfl) (by kernel_rfl) (fun _ _ _ h => h) (by rfl) ?hy1_2 HSD ?rest1_2
        case hy1_2 => (intro w hSw; obtain ⟨c0, c1, c2, c3, c4, c5, c6, hlt⟩ := DKW.seven (And.left hSw); obtain ⟨_, HD⟩ := hSw; go_simp; (try with_reducible rfl))
        simp only [Act.put]
        refine wpAnyT_take 16 (i := 2) (v := ?v2_3) rfl (by kernel_rfl) (by kernel_rfl) (by kernel_rfl) (by kernel_rfl) (by kernel_rfl) (fun _ _ _ h => h) (by rfl) ?hy2_3 HSD ?rest2_3
        case hy2_3 => (intro w hSw; obtain ⟨c0, c1, c2, c3, c4, c5, c6, hlt⟩ := DKW.seven (And.left hSw); obtain ⟨_, HD⟩ := hSw; go_simp; (try with_reducible rfl))
        simp only [Act.put]
        refine wpAnyT_take 16 (i := 3) (v := ?v3_4) rfl (by kernel_rfl) (by kernel_rfl) (by kernel_rfl) (by kernel_rfl) (by kernel_rfl) (fun _ _ _ h => h) (by rfl) ?hy3_4 HSD ?rest3_4
        case hy3_4 => (intro w hSw; obtain ⟨c0, c1, c2, c3, c4, c5, c6, hlt⟩ := DKW.seven (And.left hSw); obtain ⟨_, HD⟩ := hSw; go_simp; (try with_reducible rfl))
        simp only [Act.put]
        refine wpAnyT_take 16 (i := 4) (v := ?v4_5) rfl (by kernel_rfl) (by kernel_rfl) (by kernel_rfl) (by kernel_rfl) (by kernel_rfl) (fun _ _ _ h => h) (by rfl) ?hy4_5 HSD ?rest4_5
        case hy4_5 => (intro w hSw; obtain ⟨c0, c1, c2, c3, c4, c5, c6, hlt⟩ := DKW.seven (And.left hSw); obtain ⟨_, HD⟩ := hSw; go_simp; (try with_reducible rfl))
        simp only [Act.put]
        refine wpAnyT_take 16 (i := 5) (v := ?v5_6) rfl (by kernel_rfl) (by kernel_rfl) (by kernel_rfl) (by kernel_rfl) (by kernel_rfl) (fun _ _ _ h => h) (by rfl) ?hy5_6 HSD ?rest5_6
        case hy5_6 => (intro w hSw; obtain ⟨c0, c1, c2, c3, c4, c5, c6, hlt⟩ := DKW.seven (And.left hSw); obtain ⟨_, HD⟩ := hSw; go_simp; (try with_reducible rfl))
        simp only [Act.put]
        refine wpAnyT_take 16 (i := 6) (v := ?v6_7) rfl (by kernel_rfl) (by kernel_rfl) (by kernel_rfl) (by kernel_rfl) (by kernel_rfl) (fun _ _ _ h => h) (by rfl) ?hy6_7 HSD ?rest6_7
        case hy6_7 => (intro w hSw; obtain ⟨c0, c1, c2, c3, c4, c5, c6, hlt⟩ := DKW.seven (And.left hSw); obtain ⟨_, HD⟩ := hSw; go_simp; (try with_reducible rfl))
        simp only [Act.put]
        refine wpAnyT_one (i := 7) (by kernel_rfl) rfl ?_
        intro K7 hK7
        go_simp
        go_at_call 18
        refine (HN.out _ HSD.1).mono ?_
        rintro x' w2 ⟨rfl, hb⟩
        dsimp only
        exact ⟨rfl, H.out.thrown (below_2 HBD.out hb) (by decide)⟩
      · have hyes : cutD ⟨r, z⟩ [a] = (⟨r, cutS z (atoiN a)⟩, txt cutN, 0) := by show (if numE a = true then _ else _) = _; rw [hn]; rfl
        rw [hyes]
        have HN := Lib.hid (fun w (h : DKW W xb vb sb db k r z v w) => dnum_yes (txt a) w (by rw [txt_size]; omega) h.env.tens (by rw [data_txt]; exact hn))
        rw [data_txt] at HN
        generalize atoiN a = n at *
        obtain ⟨c0, c1, c2, c3, c4, c5, c6, hlt⟩ := h.seven
        have HC := Lib.hid (fun w (h : DKW W xb vb sb db k r z v w) => sx_cut h.sw.sx n)
        clear hyes hn h
        go_enter Tryz.func62, Tryz.ntmps62
        go_wp2_with fail
        go_at_call 17
        refine (words_yes _ 1 c w).mono ?_
        rintro e w0 ⟨rfl, rfl⟩
        go_wp2_with fail
        have HSD : DKW W xb vb sb db k r z v w.drew ∧ w.drew.cell? ⟨g, off, none⟩ = some (.string (txt a)) := ⟨H.out.drew, d0⟩
        have HBD := Lib.hid (below_dr (Below.refl w.heap.size w))
        clear c0 c1 c2 c3 c4 c5 c6 hlt d0
        refine wp_region_tail (fun w' => DKW W xb vb sb db k r z v w' ∧ w'.cell? ⟨g, off, none⟩ = some (.string (txt a))) [8] (by kernel_rfl) ?_
        refine wpAnyT_take 16 (i := 0) (v := ?v0_8) rfl (by kernel_rfl) (by kernel_rfl) (by kernel_rfl) (by kernel_rfl) (by kernel_rfl) (fun _ _ _ h => h) (by rfl) ?hy0_8 HSD ?rest0_8
        case hy0_8 => (intro w hSw; obtain ⟨c0, c1, c2, c3, c4, c5, c6, hlt⟩ := DKW.seven (And.left hSw); obtain ⟨_, HD⟩ := hSw; go_simp; (try with_reducible rfl))
        simp only [Act.put]
        refine wpAnyT_take 16 (i := 1) (v := ?v1_9) rfl (by kernel_rfl) (by kernel_rfl) (by kernel_rfl) (by kernel_rfl) (by kernel_rfl) (fun _ _ _ h => h) (by rfl) ?hy1_9 HSD ?rest1_9
        case hy1_9 => (intro w hSw; obtain ⟨c0, c1, c2, c3, c4, c5, c6, hlt⟩ := DKW.seven (And.left hSw); obtain ⟨_, HD⟩ := hSw; go_simp; (try with_reducible rfl))
        simp only [Act.put]
        refine wpAnyT_take 16 (i := 2) (v := ?v2_10) rfl (by kernel_rfl) (by kernel_rfl) (by kernel_rfl) (by kernel_rfl) (by kernel_rfl) (fun _ _ _ h => h) (by rfl) ?hy2_10 HSD ?rest2_10
        case hy2_10 => (intro w hSw; obtain ⟨c0, c1, c2, c3, c4, c5, c6, hlt⟩ := DKW.seven (And.left hSw); obtain ⟨_, HD⟩ := hSw; go_simp; (try with_reducible rfl))
        simp only [Act.put]
        refine wpAnyT_take 16 (i := 3) (v := ?v3_11) rfl (by kernel_rfl) (by kernel_rfl) (by kernel_rfl) (by kernel_rfl) (by kernel_rfl) (fun _ _ _ h => h) (by rfl) ?hy3_11 HSD ?rest3_11
        case hy3_11 => (intro w hSw; obtain ⟨c0, c1, c2, c3, c4, c5, c6, hlt⟩ := DKW.seven (And.left hSw); obtain ⟨_, HD⟩ := hSw; go_simp; (try with_reducible rfl))
        simp only [Act.put]
        refine wpAnyT_take 16 (i := 4) (v := ?v4_12) rfl (by kernel_rfl) (by kernel_rfl) (by kernel_rfl) (by kernel_rfl) (by kernel_rfl) (fun _ _ _ h => h) (by rfl) ?hy4_12 HSD ?rest4_12
        case hy4_12 => (intro w hSw; obtain ⟨c0, c1, c2, c3, c4, c5, c6, hlt⟩ := DKW.seven (And.left hSw); obtain ⟨_, HD⟩ := hSw; go_simp; (try with_reducible rfl))
        simp only [Act.put]
        refine wpAnyT_take 16 (i := 5) (v := ?v5_13) rfl (by kernel_rfl) (by kernel_rfl) (by kernel_rfl) (by kernel_rfl) (by kernel_rfl) (fun _ _ _ h => h) (by rfl) ?hy5_13 HSD ?rest5_13
        case hy5_13 => (intro w hSw; obtain ⟨c0, c1, c2, c3, c4, c5, c6, hlt⟩ := DKW.seven (And.left hSw); obtain ⟨_, HD⟩ := hSw; go_simp; (try with_reducible rfl))
        simp only [Act.put]
        refine wpAnyT_take 16 (i := 6) (v := ?v6_14) rfl (by kernel_rfl) (by kernel_rfl) (by kernel_rfl) (by kernel_rfl) (by kernel_rfl) (fun _ _ _ h => h) (by rfl) ?hy6_14 HSD ?rest6_14
        case hy6_14 => (intro w hSw; obtain ⟨c0, c1, c2, c3, c4, c5, c6, hlt⟩ := DKW.seven (And.left hSw); obtain ⟨_, HD⟩ := hSw; go_simp; (try with_reducible rfl))
        simp only [Act.put]
        refine wpAnyT_one (i := 7) (by kernel_rfl) rfl ?_
        intro K7 hK7
        go_simp
        go_at_call 18
        refine (HN.out _ HSD.1).mono ?_
        rintro x' w2 ⟨rfl, hb⟩
        dsimp only
        have hs2 : DKW W xb vb sb db k r z v w2 ∧ w2.cell? ⟨g, off, none⟩ = some (.string (txt a)) := ⟨HSD.1.keep hb, by rw [hb.cell (p := ⟨g, off, none⟩) (World.block_lt_of_cell? _ _ HSD.2)]; exact HSD.2⟩
        have HB2 := Lib.hid (below_2 HBD.out hb)
        refine hK7.out _ _ (fun _ => hs2) ?_
        try simp only [Act.put]
        clear HSD HBD hb
        refine wpAnyT_one (i := 8) (by kernel_rfl) rfl ?_
        intro K8 hK8
        go_simp
        go_at_call 119
        refine (HC.out _ hs2.1).mono ?_
        rintro x' w3 ⟨rfl, hs, hg⟩
        have h3 := hs2.1.two (Two.of_two hg) (hs2.1.sw.two (Two.of_two hg) hs)
        have HE := Lib.hid (show DkDone W w xb k (⟨r, cutS z n⟩, txt cutN, 0) (.returned (.string (txt cutN))) w3 from ⟨.inl ⟨rfl, rfl⟩, ⟨vb, sb, db, _, h3.1.later⟩, (StayD.of_below HB2.out).trans h3.2⟩)
        clear hs hg h3 hs2 HB2
        try dsimp only
        refine hK8.out _ _ (fun h => absurd h (by decide)) ?_
        refine wpAnyT_done (by kernel_rfl) ?_ _
        go_wp2_with fail
        go_ret
        exact HE.out
    · exact absurd hL (by simp)
  · have hbad : cutD ⟨r, z⟩ L = bad ⟨r, z⟩ 3 := by
      unfold cutD
      split
      · exact absurd rfl hL
      · rfl
    rw [hbad]
    have HM := Lib.hid (words_no (some ⟨g, off, none⟩) L.length c 1 w h.et (by simpa using (show (L.length : Int) ≠ 1 by omega)))
    have H := Lib.hid h
    clear h hw hl hL hbad hk
    unfold Thrown at HM
    go_enter Tryz.func62, Tryz.ntmps62
    go_wp2_with fail
    go_at_call 17
    refine HM.out.mono ?_
    rintro e w0 ⟨rfl, hb⟩
    dsimp only
    exact ⟨rfl, H.out.thrown hb (by decide)⟩
end
end Go.Proofs.YtepjcdjpikbbjaaGreatDoor

/-
  The desk's commands: kill.
-/
namespace Go.Proofs.YtepjcdjpikbbjaaGreatDoor
open Go.RowKit Go.Sort

section
variable {W w : World} {xb vb sb db k : Nat} {r : Ru} {z : SS} {v : Value}
set_option maxHeartbeats 4000000 in
set_option maxRecDepth 100000 in
theorem desk_kill (h : DKW W xb vb sb db k r z v w) (hk : k < 1000000) (g off c : Nat) (L : List (List UInt8)) (hw : WAt w g off L) (hl : ∀ x ∈ L, x.length ≤ 5000) :
    Calls Tryz.prog 66 #[.pointer (some ⟨xb, 0, none⟩), .slice (some ⟨g, off, none⟩) L.length c] w (DkDone W w xb k (killD ⟨r, z⟩ L)) := by
  obtain ⟨⟩ := used3 hk hw hl
  by_cases hL : L.length = 1
  · rcases L with _ | ⟨a, _ | ⟨_, L⟩⟩
    · exact absurd hL (by simp)
    · clear hL
      have HWT := Lib.hid hw
      have d0 := hw.2 0 a rfl
      have l0 := hl a (by simp)
      simp only [Nat.add_zero, List.length_cons, List.length_nil, Nat.zero_add] at *
      clear hw hl
      have H := Lib.hid h
      rcases hn : numE a with _ | _
      · have hcut : killD ⟨r, z⟩ [a] = bad ⟨r, z⟩ 3 := by show (if numE a = true then _ else _) = _; rw [hn]; rfl
        rw [hcut]
        have HN := Lib.hid (fun w (h : DKW W xb vb sb db k r z v w) => dnum_no (txt a) w (by rw [txt_size]; omega) h.env.tens h.env.errs h.et h.elt (by rw [data_txt]; exact hn))
        unfold Thrown at HN
        obtain ⟨c0, c1, c2, c3, c4, c5, c6, hlt⟩ := h.seven
        clear hcut hn h hk
        go_enter Tryz.func66, Tryz.ntmps66
        go_wp2_with fail
        go_at_call 17
        refine (words_yes _ 1 c w).mono ?_
        rintro e w0 ⟨rfl, rfl⟩
        go_wp2_with fail
        have HSD : DKW W xb vb sb db k r z v w.drew ∧ w.drew.cell? ⟨g, off, none⟩ = some (.string (txt a)) := ⟨H.out.drew, d0⟩
        have HBD := Lib.hid (below_dr (Below.refl w.heap.size w))
        clear c0 c1 c2 c3 c4 c5 c6 hlt d0
        refine wp_region_tail (fun w' => DKW W xb vb sb db k r z v w' ∧ w'.cell? ⟨g, off, none⟩ = some (.string (txt a))) [8, 9] (by kernel_rfl) ?_
        refine wpAnyT_take 16 (i := 0) (v := ?v0_15) rfl (by kernel_rfl) (by kernel_rfl) (by kernel_rfl) (by kernel_rfl) (by kernel_rfl) (fun _ _ _ h => h) (by rfl) ?hy0_15 HSD ?rest0_15
        case hy0_15 => (intro w hSw; obtain ⟨c0, c1, c2, c3, c4, c5, c6, hlt⟩ := DKW.seven (And.left hSw); obtain ⟨_, HD⟩ := hSw; go_simp; (try with_reducible rfl))
        simp only [Act.put]
        refine wpAnyT_take 16 (i := 1) (v := ?v1_16) rfl (by kernel_rfl) (by kernel_rfl) (by kernel_rfl) (by kernel_rfl) (by kernel_rfl) (fun _ _ _ h => h) (by rfl) ?hy1_16 HSD ?rest1_16
        case hy1_16 => (intro w hSw; obtain ⟨c0, c1, c2, c3, c4, c5, c6, hlt⟩ := DKW.seven (And.left hSw); obtain ⟨_, HD⟩ := hSw; go_simp; (try with_reducible rfl))
        simp only [Act.put]
        refine wpAnyT_take 16 (i := 2) (v := ?v2_17) rfl (by kernel_rfl) (by kernel_rfl) (by kernel_rfl) (by kernel_rfl) (by kernel_rfl) (fun _ _ _ h => h) (by rfl) ?hy2_17 HSD ?rest2_17
        case hy2_17 => (intro w hSw; obtain ⟨c0, c1, c2, c3, c4, c5, c6, hlt⟩ := DKW.seven (And.left hSw); obtain ⟨_, HD⟩ := hSw; go_simp; (try with_reducible rfl))
        simp only [Act.put]
        refine wpAnyT_take 16 (i := 3) (v := ?v3_18) rfl (by kernel_rfl) (by kernel_rfl) (by kernel_rfl) (by kernel_rfl) (by kernel_rfl) (fun _ _ _ h => h) (by rfl) ?hy3_18 HSD ?rest3_18
        case hy3_18 => (intro w hSw; obtain ⟨c0, c1, c2, c3, c4, c5, c6, hlt⟩ := DKW.seven (And.left hSw); obtain ⟨_, HD⟩ := hSw; go_simp; (try with_reducible rfl))
        simp only [Act.put]
        refine wpAnyT_take 16 (i := 4) (v := ?v4_19) rfl (by kernel_rfl) (by kernel_rfl) (by kernel_rfl) (by kernel_rfl) (by kernel_rfl) (fun _ _ _ h => h) (by rfl) ?hy4_19 HSD ?rest4_19
        case hy4_19 => (intro w hSw; obtain ⟨c0, c1, c2, c3, c4, c5, c6, hlt⟩ := DKW.seven (And.left hSw); obtain ⟨_, HD⟩ := hSw; go_simp; (try with_reducible rfl))
        simp only [Act.put]
        refine wpAnyT_take 16 (i := 5) (v := ?v5_20) rfl (by kernel_rfl) (by kernel_rfl) (by kernel_rfl) (by kernel_rfl) (by kernel_rfl) (fun _ _ _ h => h) (by rfl) ?hy5_20 HSD ?rest5_20
        case hy5_20 => (intro w hSw; obtain ⟨c0, c1, c2, c3, c4, c5, c6, hlt⟩ := DKW.seven (And.left hSw); obtain ⟨_, HD⟩ := hSw; go_simp; (try with_reducible rfl))
        simp only [Act.put]
        refine wpAnyT_take 16 (i := 6) (v := ?v6_21) rfl (by kernel_rfl) (by kernel_rfl) (by kernel_rfl) (by kernel_rfl) (by kernel_rfl) (fun _ _ _ h => h) (by rfl) ?hy6_21 HSD ?rest6_21
        case hy6_21 => (intro w hSw; obtain ⟨c0, c1, c2, c3, c4, c5, c6, hlt⟩ := DKW.seven (And.left hSw); obtain ⟨_, HD⟩ := hSw; go_simp; (try with_reducible rfl))
        simp only [Act.put]
        refine wpAnyT_one (i := 7) (by kernel_rfl) rfl ?_
        intro K7 hK7
        go_simp
        go_at_call 18
        refine (HN.out _ HSD.1).mono ?_
        rintro x' w2 ⟨rfl, hb⟩
        dsimp only
        exact ⟨rfl, H.out.thrown (below_2 HBD.out hb) (by decide)⟩
      · have hyes : killD ⟨r, z⟩ [a] = (⟨r, (doPlan () z (killP z.s (atoiN a))).1⟩, txt killN, (doPlan () z (killP z.s (atoiN a))).2.2) := by show (if numE a = true then _ else _) = _; rw [hn]; rfl
        rw [hyes]
        have HN := Lib.hid (fun w (h : DKW W xb vb sb db k r z v w) => dnum_yes (txt a) w (by rw [txt_size]; omega) h.env.tens (by rw [data_txt]; exact hn))
        rw [data_txt] at HN
        generalize atoiN a = n at *
        obtain ⟨c0, c1, c2, c3, c4, c5, c6, hlt⟩ := h.seven
        have HC := Lib.hid (fun w (h : DKW W xb vb sb db k r z v w) => (svc_kill h.sw hk n))
        clear hk
        unfold PlanU at HC
        generalize doPlan () z (killP z.s n) = Q at *
        clear hyes hn h
        go_enter Tryz.func66, Tryz.ntmps66
        go_wp2_with fail
        go_at_call 17
        refine (words_yes _ 1 c w).mono ?_
        rintro e w0 ⟨rfl, rfl⟩
        go_wp2_with fail
        have HSD : DKW W xb vb sb db k r z v w.drew ∧ w.drew.cell? ⟨g, off, none⟩ = some (.string (txt a)) := ⟨H.out.drew, d0⟩
        have HBD := Lib.hid (below_dr (Below.refl w.heap.size w))
        clear c0 c1 c2 c3 c4 c5 c6 hlt d0
        refine wp_region_tail (fun w' => DKW W xb vb sb db k r z v w' ∧ w'.cell? ⟨g, off, none⟩ = some (.string (txt a))) [8, 9] (by kernel_rfl) ?_
        refine wpAnyT_take 16 (i := 0) (v := ?v0_22) rfl (by kernel_rfl) (by kernel_rfl) (by kernel_rfl) (by kernel_rfl) (by kernel_rfl) (fun _ _ _ h => h) (by rfl) ?hy0_22 HSD ?rest0_22
        case hy0_22 => (intro w hSw; obtain ⟨c0, c1, c2, c3, c4, c5, c6, hlt⟩ := DKW.seven (And.left hSw); obtain ⟨_, HD⟩ := hSw; go_simp; (try with_reducible rfl))
        simp only [Act.put]
        refine wpAnyT_take 16 (i := 1) (v := ?v1_23) rfl (by kernel_rfl) (by kernel_rfl) (by kernel_rfl) (by kernel_rfl) (by kernel_rfl) (fun _ _ _ h => h) (by rfl) ?hy1_23 HSD ?rest1_23
        case hy1_23 => (intro w hSw; obtain ⟨c0, c1, c2, c3, c4, c5, c6, hlt⟩ := DKW.seven (And.left hSw); obtain ⟨_, HD⟩ := hSw; go_simp; (try with_reducible rfl))
        simp only [Act.put]
        refine wpAnyT_take 16 (i := 2) (v := ?v2_24) rfl (by kernel_rfl) (by kernel_rfl) (by kernel_rfl) (by kernel_rfl) (by kernel_rfl) (fun _ _ _ h => h) (by rfl) ?hy2_24 HSD ?rest2_24
        case hy2_24 => (intro w hSw; obtain ⟨c0, c1, c2, c3, c4, c5, c6, hlt⟩ := DKW.seven (And.left hSw); obtain ⟨_, HD⟩ := hSw; go_simp; (try with_reducible rfl))
        simp only [Act.put]
        refine wpAnyT_take 16 (i := 3) (v := ?v3_25) rfl (by kernel_rfl) (by kernel_rfl) (by kernel_rfl) (by kernel_rfl) (by kernel_rfl) (fun _ _ _ h => h) (by rfl) ?hy3_25 HSD ?rest3_25
        case hy3_25 => (intro w hSw; obtain ⟨c0, c1, c2, c3, c4, c5, c6, hlt⟩ := DKW.seven (And.left hSw); obtain ⟨_, HD⟩ := hSw; go_simp; (try with_reducible rfl))
        simp only [Act.put]
        refine wpAnyT_take 16 (i := 4) (v := ?v4_26) rfl (by kernel_rfl) (by kernel_rfl) (by kernel_rfl) (by kernel_rfl) (by kernel_rfl) (fun _ _ _ h => h) (by rfl) ?hy4_26 HSD ?rest4_26
        case hy4_26 => (intro w hSw; obtain ⟨c0, c1, c2, c3, c4, c5, c6, hlt⟩ := DKW.seven (And.left hSw); obtain ⟨_, HD⟩ := hSw; go_simp; (try with_reducible rfl))
        simp only [Act.put]
        refine wpAnyT_take 16 (i := 5) (v := ?v5_27) rfl (by kernel_rfl) (by kernel_rfl) (by kernel_rfl) (by kernel_rfl) (by kernel_rfl) (fun _ _ _ h => h) (by rfl) ?hy5_27 HSD ?rest5_27
        case hy5_27 => (intro w hSw; obtain ⟨c0, c1, c2, c3, c4, c5, c6, hlt⟩ := DKW.seven (And.left hSw); obtain ⟨_, HD⟩ := hSw; go_simp; (try with_reducible rfl))
        simp only [Act.put]
        refine wpAnyT_take 16 (i := 6) (v := ?v6_28) rfl (by kernel_rfl) (by kernel_rfl) (by kernel_rfl) (by kernel_rfl) (by kernel_rfl) (fun _ _ _ h => h) (by rfl) ?hy6_28 HSD ?rest6_28
        case hy6_28 => (intro w hSw; obtain ⟨c0, c1, c2, c3, c4, c5, c6, hlt⟩ := DKW.seven (And.left hSw); obtain ⟨_, HD⟩ := hSw; go_simp; (try with_reducible rfl))
        simp only [Act.put]
        refine wpAnyT_one (i := 7) (by kernel_rfl) rfl ?_
        intro K7 hK7
        go_simp
        go_at_call 18
        refine (HN.out _ HSD.1).mono ?_
        rintro x' w2 ⟨rfl, hb⟩
        dsimp only
        have hs2 : DKW W xb vb sb db k r z v w2 ∧ w2.cell? ⟨g, off, none⟩ = some (.string (txt a)) := ⟨HSD.1.keep hb, by rw [hb.cell (p := ⟨g, off, none⟩) (World.block_lt_of_cell? _ _ HSD.2)]; exact HSD.2⟩
        have HB2 := Lib.hid (below_2 HBD.out hb)
        refine hK7.out _ _ (fun _ => hs2) ?_
        try simp only [Act.put]
        clear HSD HBD hb
        refine wpAnyT_one (i := 8) (by kernel_rfl) rfl ?_
        intro K8 hK8
        go_simp
        go_at_call 125
        refine (HC.out _ hs2.1).mono ?_
        rintro x' w3 ⟨he, htw, v3, hs⟩
        have h3 := hs2.1.two htw hs
        have HD3 := Lib.hid h3.1
        have HST := Lib.hid ((StayD.of_below HB2.out).trans h3.2)
        clear hs htw h3 hs2 HB2
        by_cases hq : Q.2.2 = 0
        · rw [hq, errV_0] at he
          subst he
          have HQ0 := Lib.hid hq
          clear hq
          try dsimp only
          refine hK8.out _ _ (fun h => absurd h (by decide)) ?_
          try simp only [Act.put]
          refine wpAnyT_one (i := 9) (by kernel_rfl) rfl ?_
          intro K9 hK9
          go_simp
          go_at_call 20
          refine (must_nil _).mono ?_
          rintro x' w4 ⟨rfl, rfl⟩
          try dsimp only
          refine hK9.out _ _ (fun h => absurd h (by decide)) ?_
          refine wpAnyT_done (by kernel_rfl) ?_ _
          go_wp2_with fail
          go_ret
          exact ⟨.inl ⟨HQ0.out, rfl⟩, ⟨vb, sb, db, _, HD3.out⟩, HST.out⟩
        · rw [errV_n hq] at he
          subst he
          have HQ0 := Lib.hid hq
          clear hq
          have HMN := Lib.hid (must_no Q.2.2 w3 HD3.out.et)
          unfold Thrown at HMN
          try dsimp only
          refine hK8.out _ _ (fun h => absurd h (by decide)) ?_
          try simp only [Act.put]
          refine wpAnyT_one (i := 9) (by kernel_rfl) rfl ?_
          intro K9 hK9
          go_simp
          go_at_call 20
          refine HMN.out.mono ?_
          rintro x' w4 ⟨rfl, hb⟩
          dsimp only
          exact ⟨rfl, .inr ⟨HQ0.out, rfl⟩, ⟨vb, sb, db, _, (HD3.out.keep hb)⟩, HST.out.trans (StayD.of_below hb)⟩
    · exact absurd hL (by simp)
  · have hbad : killD ⟨r, z⟩ L = bad ⟨r, z⟩ 3 := by
      unfold killD
      split
      · exact absurd rfl hL
      · rfl
    rw [hbad]
    have HM := Lib.hid (words_no (some ⟨g, off, none⟩) L.length c 1 w h.et (by simpa using (show (L.length : Int) ≠ 1 by omega)))
    have H := Lib.hid h
    clear h hw hl hL hbad hk
    unfold Thrown at HM
    go_enter Tryz.func66, Tryz.ntmps66
    go_wp2_with fail
    go_at_call 17
    refine HM.out.mono ?_
    rintro e w0 ⟨rfl, hb⟩
    dsimp only
    exact ⟨rfl, H.out.thrown hb (by decide)⟩
end
end Go.Proofs.YtepjcdjpikbbjaaGreatDoor
