/-
  A service: live.
-/
import Derived.Test.YtckohmhhcknmaaaGreatDoorP21
import Derived.Test.YtckohmhhcknmaaaGreatDoorP22
import Derived.Test.YtckohmhhcknmaaaGreatDoorP13
namespace Go.Proofs.YtckohmhhcknmaaaGreatDoor
open Go.RowKit Go.Sort

/-- what live gives: the token as it was read, the family (none, or the one of its number), what is wrong -/
def liveF (s : St) (q : Int × Int × Int × Int × Int) : Fam := if q.1 ≠ 0 then Fam.zero else (findF s.fams q.2.2.1).getD Fam.zero
def liveE (r : Ru) (s : St) (q : Int × Int × Int × Int × Int) (kind : Int) : Int :=
  if q.1 ≠ 0 then q.1 else if q.2.1 ≠ kind then 1 else match findF s.fams q.2.2.1 with
    | none => 7
    | some f => if f.dead then 6 else if oldB r s.clock f then 10 else 0
def LiveGot (r : Ru) (s : St) (q : Int × Int × Int × Int × Int) (kind : Int) (W : World) (e : Ending) (w' : World) : Prop :=
  e = .returned (.tuple #[v4 q.2.1 q.2.2.1 q.2.2.2.1 q.2.2.2.2, famVal (liveF s q), errV (liveE r s q kind)]) ∧ Below W.heap.size W w'
theorem results_row2_tmp {P : Program} {fn : Func} {p q u : Tmp} {ty tz : TypeId} (h : fn.results = #[.cell p ty, .cell q tz, .tmp u]) (tmps : Array Value) (w : World) (g g2 : Nat) (t t2 : TypeId) (cs cs2 : Array Value) (d d2 : TypeDesc) (x : Value)
    (hp : tmps.getD p undef = .pointer (some ⟨g, 0, none⟩)) (hq : tmps.getD q undef = .pointer (some ⟨g2, 0, none⟩)) (hx : tmps.getD u undef = x) (hg : Blk w g t cs) (hg2 : Blk w g2 t2 cs2)
    (hu : P.underlying ty = some d) (hd : (match d with | .struct _ | .array _ _ => true | _ => false) = true) (hi : (P.info? ty).map (·.size) = some cs.size)
    (hu2 : P.underlying tz = some d2) (hd2 : (match d2 with | .struct _ | .array _ _ => true | _ => false) = true) (hi2 : (P.info? tz).map (·.size) = some cs2.size) :
    (results fn tmps).run P w = .ok (.tuple #[.agg cs, .agg cs2, x]) w := by
  have e : (results fn tmps).run P w = ((asAddr (tmps.getD p undef)).run P w).andThen fun a w₁ => ((loadVar ty a).run P w₁).andThen fun v w₂ => ((asAddr (tmps.getD q undef)).run P w₂).andThen fun b w₃ => ((loadVar tz b).run P w₃).andThen fun v' w₄ => .ok (.tuple #[v, v', tmps.getD u undef]) w₄ := by
    simp only [results, h]
    simp [Sem.run_bind, Result.andThen]
  rw [e, hp, hq, hx]
  simp only [asAddr, Sem.run_pure, Result.andThen]
  rw [run_loadVar_row w g t ty cs (0, 0) d hg hu hd hi]
  simp only
  rw [run_loadVar_row w g2 t2 tz cs2 (0, 0) d2 hg2 hu2 hd2 hi2]
theorem live_end {r : Ru} {s : St} {q : Int × Int × Int × Int × Int} {kind : Int} {W w : World} {A : Act} {a b c d e : Int} {f : Fam} (hb : Below W.heap.size W w) (ht : Blk w W.heap.size 104 #[.int .i64 a, .int .i64 b, .int .i64 c, .int .i64 d]) (hf : Blk w (W.heap.size + 1) 79 (famCs f))
    (hp : A.tmps.getD 6 undef = .pointer (some ⟨W.heap.size, 0, none⟩)) (hq : A.tmps.getD 7 undef = .pointer (some ⟨W.heap.size + 1, 0, none⟩)) (hx : A.tmps.getD 8 undef = errV e) (hd : A.defers = []) (h1 : q.2 = (a, b, c, d)) (h2 : f = liveF s q) (h3 : e = liveE r s q kind) :
    bodyPost Tryz.prog Tryz.f44 (LiveGot r s q kind W) Exit.ret A w := by
  refine bodyPost_ret (results_row2_tmp rfl A.tmps w _ _ _ _ _ _ _ _ _ hp hq hx ht hf Tryz.underlying104 rfl (by kernel_rfl) Tryz.underlying79 rfl (by kernel_rfl)) hd ⟨?_, hb⟩
  rw [h1, ← h2, ← h3]
  rfl
/-- four stores, and nine -/
theorem thirteen_sets {w : World} {g g2 : Nat} {T T2 : TypeId} {a0 b0 c0 d0 : Value} {f0 : Fam} (h : Blk w g T #[a0, b0, c0, d0]) (h2 : Blk w g2 T2 (famCs f0)) (hne : g ≠ g2) (a b c d : Int) (f : Fam) : ∃ w', w' = (((((((((((((w.setCell ⟨g, 0, none⟩ (.int .i64 a)).setCell ⟨g, 1, none⟩ (.int .i64 b)).setCell ⟨g, 2, none⟩ (.int .i64 c)).setCell ⟨g, 3, none⟩ (.int .i64 d)).setCell ⟨g2, 0, none⟩ (.int .i64 f.id)).setCell ⟨g2, 1, none⟩ (.string f.client)).setCell ⟨g2, 2, none⟩ (.string f.subject)).setCell ⟨g2, 3, none⟩ (.string f.scope)).setCell ⟨g2, 4, none⟩ (.int .i64 f.gen)).setCell ⟨g2, 5, none⟩ (.int .i64 f.made)).setCell ⟨g2, 6, none⟩ (.int .i64 f.used)).setCell ⟨g2, 7, none⟩ (.string f.request)).setCell ⟨g2, 8, none⟩ (.bool f.dead)) ∧
    Blk w' g T #[.int .i64 a, .int .i64 b, .int .i64 c, .int .i64 d] ∧ Blk w' g2 T2 (famCs f) ∧ ∀ {B : Nat} {W : World}, Below B W w → B ≤ g → B ≤ g2 → B ≤ w.heap.size → Below B W w' := by
  have e0 := h.put_ 0 (.int .i64 a) (cs' := #[.int .i64 a, b0, c0, d0]) rfl
  have e1 := e0.put_ 1 (.int .i64 b) (cs' := #[.int .i64 a, .int .i64 b, c0, d0]) rfl
  have e2 := e1.put_ 2 (.int .i64 c) (cs' := #[.int .i64 a, .int .i64 b, .int .i64 c, d0]) rfl
  have e3 := e2.put_ 3 (.int .i64 d) (cs' := #[.int .i64 a, .int .i64 b, .int .i64 c, .int .i64 d]) rfl
  have g0 := only_set1 w g ⟨g, 0, none⟩ rfl (.int .i64 a)
  have g1 := only_setCell g0 (p := ⟨g, 1, none⟩) (.inl rfl) (.int .i64 b)
  have g2' := only_setCell g1 (p := ⟨g, 2, none⟩) (.inl rfl) (.int .i64 c)
  have g3 := only_setCell g2' (p := ⟨g, 3, none⟩) (.inl rfl) (.int .i64 d)
  have hf3 := h2.grown g3 (by simpa using hne.symm)
  obtain ⟨n1, n2⟩ := nine_sets hf3 f.id f.client f.subject f.scope f.gen f.made f.used f.request f.dead
  refine ⟨_, rfl, e3.grown n2 (by simpa using hne), n1, fun hb h1 h2' h3 => ?_⟩
  have hb3 := hb.grown g3 h3 (fun i hi => by cases hi; exact h1)
  exact hb3.grown n2 (Nat.le_trans h3 g3.size) (fun i hi => by cases hi; exact h2')
theorem tok_cells {w : World} {g : Nat} {T : TypeId} {a b c d : Value} (h : Blk w g T #[a, b, c, d]) : w.cell? ⟨g, 0, none⟩ = some a ∧ w.cell? ⟨g, 1, none⟩ = some b ∧ w.cell? ⟨g, 2, none⟩ = some c ∧ w.cell? ⟨g, 3, none⟩ = some d := ⟨h.cell 0, h.cell 1, h.cell 2, h.cell 3⟩
set_option maxHeartbeats 4000000 in
set_option maxRecDepth 100000 in
theorem svc_live {B vb sb db k : Nat} {r : Ru} {z : SS} {v : Value} {W : World} (h : SW B vb sb db k r z v W) (t : ByteArray) (kind : Int) (ht : t.size ≤ 1000) :
    Calls Tryz.prog 44 #[.pointer (some ⟨vb, 0, none⟩), .string t, .int .i64 kind] W (LiveGot r z.s (tokOf r t) kind W) := by
  have HTR : Hid (∀ w, SW B vb sb db k r z v w → Calls Tryz.prog 48 #[.int .i64 r.key, .string t] w (TokGot w (tokOf r t))) := Lib.hid fun w h => token_read r.key t w ht h.sx.env.maxl h.sx.env.tens h.sx.env.errs
  have HFD := Lib.hid (fun w id (h : SW B vb sb db k r z v w) => svc_find h id)
  have HST := Lib.hid (fun w (h : SW B vb sb db k r z v w) => (sx_state h.sx).mono fun _ _ h => got_as h)
  have hfit := h.sx.fit
  have hru := ruB_parts h.right
  have H := Lib.hid h
  clear h
  generalize tokOf r t = q at *
  obtain ⟨qe, qk, qf, qg, qd⟩ := q
  generalize z.s = s at *
  obtain ⟨ck, nx, L⟩ := s
  unfold TokGot v4 at HTR
  unfold GotAs at HST
  dsimp only at *
  have hal := alloc2 W (.cells #[.int .i64 0, .int .i64 0, .int .i64 0, .int .i64 0] 104) (.cells (famCs Fam.zero) 79)
  have HAL := Lib.hid hal
  have H1 := Lib.hid (H.out.keep hal)
  have HT1 := Lib.hid ((Blk.new W 104 #[.int .i64 0, .int .i64 0, .int .i64 0, .int .i64 0]).alloc (.cells (famCs Fam.zero) 79))
  have hf1 : Blk ((W.alloc (.cells #[.int .i64 0, .int .i64 0, .int .i64 0, .int .i64 0] 104)).alloc (.cells (famCs Fam.zero) 79)) (W.heap.size + 1) 79 (famCs Fam.zero) := by
    have := Blk.new (W.alloc (.cells #[.int .i64 0, .int .i64 0, .int .i64 0, .int .i64 0] 104)) 79 (famCs Fam.zero)
    rw [show (W.alloc (.cells #[.int .i64 0, .int .i64 0, .int .i64 0, .int .i64 0] 104)).heap.size = W.heap.size + 1 by simp] at this
    exact this
  have HF1 := Lib.hid hf1
  clear hal hf1 H
  unfold famCs Fam.zero at HAL H1 HT1 HF1
  dsimp only at HAL H1 HT1 HF1
  obtain ⟨c0, c1, c2, c3, c4, hlt⟩ := H1.out.five
  go_enter Tryz.func44, Tryz.ntmps44
  go_wp2_with fail
  go_at_call 48
  refine (HTR.out _ H1.out).mono ?_
  rintro e w1 ⟨rfl, hb⟩
  have HB1 := Lib.hid (below_2 HAL.out hb)
  have H2 := Lib.hid (H1.out.keep hb)
  have HT2 := Lib.hid (HT1.out.below' hb)
  have HF2 := Lib.hid (HF1.out.below' hb)
  clear hb H1 HT1 HF1 HAL c0 c1 c2 c3 c4 hlt HTR
  by_cases hq : qe = 0
  · subst hq
    have e0 : errV 0 = .nilIface := errV_0
    rw [e0]
    clear e0
    obtain ⟨c0, c1, c2, c3, c4, hlt⟩ := H2.out.five
    have hal := (Below.refl w1.heap.size w1).alloc (Nat.le_refl _) (.cells #[.int .i64 qk, .int .i64 qf, .int .i64 qg, .int .i64 qd] 104)
    have H3 := Lib.hid (H2.out.keep hal)
    have HT3 := Lib.hid (HT2.out.below' hal)
    have HF3 := Lib.hid (HF2.out.below' hal)
    have HB3 := Lib.hid (below_2 HB1.out hal)
    have HV3 := Lib.hid (Blk.new w1 104 #[.int .i64 qk, .int .i64 qf, .int .i64 qg, .int .i64 qd])
    clear hal
    go_wp2_with fail
    go_at_call 66
    have hF2l := HF2.out.lt
    clear c0 c1 c2 c3 c4 hlt H2 HT2 HF2 HB1
    refine (HFD.out _ _ H3.out).mono ?_
    generalize hw3 : w1.alloc (.cells #[.int .i64 qk, .int .i64 qf, .int .i64 qg, .int .i64 qd] 104) = w3 at *
    have htb0 : W.heap.size + 1 < w1.heap.size := hF2l
    generalize hv : w1.heap.size = tb at *
    clear hw3 hv
    rintro e w4 ⟨hb, ⟨f, hfd, hmem, rfl⟩ | ⟨hfd, rfl⟩⟩
    · have H4 := Lib.hid (H3.out.keep hb)
      have HT4 := Lib.hid (HT3.out.below' hb)
      have HF4 := Lib.hid (HF3.out.below' hb)
      have HV4 := Lib.hid (HV3.out.below' hb)
      have HB4 := Lib.hid (below_2 HB3.out hb)
      have HFDD := Lib.hid hfd
      obtain ⟨_, _, gm, gu, _⟩ := famB_parts (hfit.fams f hmem)
      have HADU := Lib.hid (fun w => svc_add f.used r.idle w (by have := okN_iff.1 gu; omega) (by have := okN_iff.1 hru.2.1; omega))
      have HADM := Lib.hid (fun w => svc_add f.made r.life w (by have := okN_iff.1 gm; omega) (by have := okN_iff.1 hru.2.2.1; omega))
      clear hb hfd hmem H3 HT3 HF3 HV3 HB3 HFD gm gu
      obtain ⟨i, cl, su, scp, ge, ma, us, re, de⟩ := f
      unfold famVal famCs
      dsimp only at *
      obtain ⟨c0, c1, c2, c3, c4, hlt⟩ := H4.out.five
      go_wp2_with fail
      have hal := (Below.refl w4.heap.size w4).alloc (Nat.le_refl _) (.cells #[.int .i64 i, .string cl, .string su, .string scp, .int .i64 ge, .int .i64 ma, .int .i64 us, .string re, .bool de] 79)
      have HG4 := Lib.hid (Blk.new w4 79 #[.int .i64 i, .string cl, .string su, .string scp, .int .i64 ge, .int .i64 ma, .int .i64 us, .string re, .bool de])
      have H5 := Lib.hid (H4.out.keep hal)
      have HT4b := Lib.hid (HT4.out.below' hal)
      have HF4b := Lib.hid (HF4.out.below' hal)
      have HV4b := Lib.hid (HV4.out.below' hal)
      have HB4b := Lib.hid (below_2 HB4.out hal)
      have hfl := HF4.out.lt
      clear hal HT4 HF4 HV4 HB4 H4 c0 c1 c2 c3 c4 hlt
      go_at_call 39
      refine (HST.out _ H5.out).mono ?_
      generalize w4.alloc (.cells #[.int .i64 i, .string cl, .string su, .string scp, .int .i64 ge, .int .i64 ma, .int .i64 us, .string re, .bool de] 79) = w4b at *
      have hfb0 : W.heap.size + 1 < w4.heap.size := hfl
      generalize w4.heap.size = fb at *
      rintro e w5 ⟨a5, ac5, rfl, hr5, hb⟩
      have H6 := Lib.hid (H5.out.keep hb)
      have HT5 := Lib.hid (HT4b.out.below' hb)
      have HF5 := Lib.hid (HF4b.out.below' hb)
      have HV5 := Lib.hid (HV4b.out.below' hb)
      have HG5 := Lib.hid (HG4.out.below' hb)
      have HB5 := Lib.hid (below_2 HB4b.out hb)
      clear hr5 hb H5 HT4b HF4b HV4b HB4b HG4 HST
      have hcl := st_clock ck nx a5 L.length ac5
      obtain ⟨_, _, d2, d3, _, hlt⟩ := H6.out.five
      obtain ⟨v0, v1, v2, v3⟩ := tok_cells HV5.out
      obtain ⟨g0, g1, g2, g3, g4, g5, g6, g7, g8⟩ := fam_cells (i := i) (cl := cl) (su := su) (sc := scp) (ge := ge) (ma := ma) (us := us) (re := re) (de := de) HG5.out
      obtain ⟨t0, t1, t2, t3⟩ := tok_cells HT5.out
      have htz := HT5.out.frozen
      obtain ⟨z0, z1, z2, z3, z4, z5, z6, z7, z8⟩ := fam_cells (i := 0) (cl := ⟨#[]⟩) (su := ⟨#[]⟩) (sc := ⟨#[]⟩) (ge := 0) (ma := 0) (us := 0) (re := ⟨#[]⟩) (de := false) HF5.out
      have hz := HF5.out.frozen
      by_cases hk : qk = kind
      · have hk' : (qk != kind) = false := by simpa using hk
        have HK := Lib.hid hk
        clear hk
        cases de
        · by_cases hu : capN us r.idle < ck
          · have hu' : decide (capN us r.idle < ck) = true := decide_eq_true hu

            go_wp2_with fail
            go_quiet ((first
              | (go_at_call 43; exact Calls.quiet_of_same ((HADU.out _).mono fun _ _ h => ⟨h.1, h.2.symm⟩))
              | (go_at_call 43; exact Calls.quiet_of_same ((HADM.out _).mono fun _ _ h => ⟨h.1, h.2.symm⟩))))
            go_wp2_with fail

            have ntb0 : tb ≠ W.heap.size := by omega
            have ntb1 : tb ≠ W.heap.size + 1 := by omega
            have nfb0 : fb ≠ W.heap.size := by omega
            have nfb1 : fb ≠ W.heap.size + 1 := by omega
            go_region
            go_wp2_with fail
            obtain ⟨_, rfl, n1, n2, n3⟩ := thirteen_sets (f0 := Fam.zero) (HT5.out.drewN (nq + 1)) (HF5.out.drewN (nq + 1)) (by omega) qk qf qg qd ⟨i, cl, su, scp, ge, ma, us, re, false⟩
            exact live_end (r := r) (q := (0, qk, qf, qg, qd)) (s := ⟨ck, nx, L⟩) (kind := kind) (e := 10) (f := ⟨i, cl, su, scp, ge, ma, us, re, false⟩) (n3 (below_drewN HB5.out (nq + 1)) (Nat.le_refl _) (Nat.le_succ _) HB5.out.size) n1 n2 rfl rfl (by rw [errV_n (show (10 : Int) ≠ 0 by decide)]; rfl) rfl rfl (by unfold liveF; rw [if_neg (show ¬ (0 : Int) ≠ 0 by decide)]; first | rw [HFDD.out]; rfl | rw [HFDD.out]) (by unfold liveE; rw [if_neg (show ¬ (0 : Int) ≠ 0 by decide)]; rw [if_neg (by rw [HK.out]; exact fun h => h rfl), HFDD.out]; simp [oldB, hu])
          · have hu' : decide (capN us r.idle < ck) = false := decide_eq_false hu
            by_cases hm : capN ma r.life < ck
            · have hm' : decide (capN ma r.life < ck) = true := decide_eq_true hm

              go_wp2_with fail
              go_quiet ((first
                | (go_at_call 43; exact Calls.quiet_of_same ((HADU.out _).mono fun _ _ h => ⟨h.1, h.2.symm⟩))
                | (go_at_call 43; exact Calls.quiet_of_same ((HADM.out _).mono fun _ _ h => ⟨h.1, h.2.symm⟩))))
              go_wp2_with fail

              have ntb0 : tb ≠ W.heap.size := by omega
              have ntb1 : tb ≠ W.heap.size + 1 := by omega
              have nfb0 : fb ≠ W.heap.size := by omega
              have nfb1 : fb ≠ W.heap.size + 1 := by omega
              go_region
              go_wp2_with fail
              obtain ⟨_, rfl, n1, n2, n3⟩ := thirteen_sets (f0 := Fam.zero) (HT5.out.drewN (nq + 1)) (HF5.out.drewN (nq + 1)) (by omega) qk qf qg qd ⟨i, cl, su, scp, ge, ma, us, re, false⟩
              exact live_end (r := r) (q := (0, qk, qf, qg, qd)) (s := ⟨ck, nx, L⟩) (kind := kind) (e := 10) (f := ⟨i, cl, su, scp, ge, ma, us, re, false⟩) (n3 (below_drewN HB5.out (nq + 1)) (Nat.le_refl _) (Nat.le_succ _) HB5.out.size) n1 n2 rfl rfl (by rw [errV_n (show (10 : Int) ≠ 0 by decide)]; rfl) rfl rfl (by unfold liveF; rw [if_neg (show ¬ (0 : Int) ≠ 0 by decide)]; first | rw [HFDD.out]; rfl | rw [HFDD.out]) (by unfold liveE; rw [if_neg (show ¬ (0 : Int) ≠ 0 by decide)]; rw [if_neg (by rw [HK.out]; exact fun h => h rfl), HFDD.out]; simp [oldB, hm])
            · have hm' : decide (capN ma r.life < ck) = false := decide_eq_false hm

              go_wp2_with fail
              go_quiet ((first
                | (go_at_call 43; exact Calls.quiet_of_same ((HADU.out _).mono fun _ _ h => ⟨h.1, h.2.symm⟩))
                | (go_at_call 43; exact Calls.quiet_of_same ((HADM.out _).mono fun _ _ h => ⟨h.1, h.2.symm⟩))))
              go_wp2_with fail

              have ntb0 : tb ≠ W.heap.size := by omega
              have ntb1 : tb ≠ W.heap.size + 1 := by omega
              have nfb0 : fb ≠ W.heap.size := by omega
              have nfb1 : fb ≠ W.heap.size + 1 := by omega
              go_region
              go_wp2_with fail
              obtain ⟨_, rfl, n1, n2, n3⟩ := thirteen_sets (f0 := Fam.zero) (HT5.out.drewN (nq + 1)) (HF5.out.drewN (nq + 1)) (by omega) qk qf qg qd ⟨i, cl, su, scp, ge, ma, us, re, false⟩
              exact live_end (r := r) (q := (0, qk, qf, qg, qd)) (s := ⟨ck, nx, L⟩) (kind := kind) (e := 0) (f := ⟨i, cl, su, scp, ge, ma, us, re, false⟩) (n3 (below_drewN HB5.out (nq + 1)) (Nat.le_refl _) (Nat.le_succ _) HB5.out.size) n1 n2 rfl rfl rfl rfl rfl (by unfold liveF; rw [if_neg (show ¬ (0 : Int) ≠ 0 by decide)]; first | rw [HFDD.out]; rfl | rw [HFDD.out]) (by unfold liveE; rw [if_neg (show ¬ (0 : Int) ≠ 0 by decide)]; rw [if_neg (by rw [HK.out]; exact fun h => h rfl), HFDD.out]; simp [oldB, hu, hm])
        · go_wp2_with (first
            | (go_at_call 43; (with_reducible refine (HADU.out _).mono ?_); rintro e w' ⟨rfl, rfl⟩)
            | (go_at_call 43; (with_reducible refine (HADM.out _).mono ?_); rintro e w' ⟨rfl, rfl⟩))

          have ntb0 : tb ≠ W.heap.size := by omega
          have ntb1 : tb ≠ W.heap.size + 1 := by omega
          have nfb0 : fb ≠ W.heap.size := by omega
          have nfb1 : fb ≠ W.heap.size + 1 := by omega
          go_region
          go_wp2_with fail
          obtain ⟨_, rfl, n1, n2, n3⟩ := thirteen_sets (f0 := Fam.zero) HT5.out HF5.out (by omega) qk qf qg qd ⟨i, cl, su, scp, ge, ma, us, re, true⟩
          exact live_end (r := r) (q := (0, qk, qf, qg, qd)) (s := ⟨ck, nx, L⟩) (kind := kind) (e := 6) (f := ⟨i, cl, su, scp, ge, ma, us, re, true⟩) (below_dr (n3 HB5.out (Nat.le_refl _) (Nat.le_succ _) HB5.out.size)) n1.drew n2.drew rfl rfl (by rw [errV_n (show (6 : Int) ≠ 0 by decide)]; rfl) rfl rfl (by unfold liveF; rw [if_neg (show ¬ (0 : Int) ≠ 0 by decide)]; first | rw [HFDD.out]; rfl | rw [HFDD.out]) (by unfold liveE; rw [if_neg (show ¬ (0 : Int) ≠ 0 by decide)]; rw [if_neg (by rw [HK.out]; exact fun h => h rfl), HFDD.out]; rfl)
      · have hk' : (qk != kind) = true := by simpa using hk

        go_wp2_with (first
          | (go_at_call 43; (with_reducible refine (HADU.out _).mono ?_); rintro e w' ⟨rfl, rfl⟩)
          | (go_at_call 43; (with_reducible refine (HADM.out _).mono ?_); rintro e w' ⟨rfl, rfl⟩))

        have ntb0 : tb ≠ W.heap.size := by omega
        have ntb1 : tb ≠ W.heap.size + 1 := by omega
        have nfb0 : fb ≠ W.heap.size := by omega
        have nfb1 : fb ≠ W.heap.size + 1 := by omega
        go_region
        go_wp2_with fail
        obtain ⟨_, rfl, n1, n2, n3⟩ := thirteen_sets (f0 := Fam.zero) HT5.out HF5.out (by omega) qk qf qg qd ⟨i, cl, su, scp, ge, ma, us, re, de⟩
        exact live_end (r := r) (q := (0, qk, qf, qg, qd)) (s := ⟨ck, nx, L⟩) (kind := kind) (e := 1) (f := ⟨i, cl, su, scp, ge, ma, us, re, de⟩) (below_dr (n3 HB5.out (Nat.le_refl _) (Nat.le_succ _) HB5.out.size)) n1.drew n2.drew rfl rfl (by rw [errV_n (show (1 : Int) ≠ 0 by decide)]; rfl) rfl rfl (by unfold liveF; rw [if_neg (show ¬ (0 : Int) ≠ 0 by decide)]; first | rw [HFDD.out]; rfl | rw [HFDD.out]) (by unfold liveE; rw [if_neg (show ¬ (0 : Int) ≠ 0 by decide)]; rw [if_pos hk])
    · have H4 := Lib.hid (H3.out.keep hb)
      have HT4 := Lib.hid (HT3.out.below' hb)
      have HF4 := Lib.hid (HF3.out.below' hb)
      have HV4 := Lib.hid (HV3.out.below' hb)
      have HB4 := Lib.hid (below_2 HB3.out hb)
      have HFDD := Lib.hid hfd
      have HADU := Lib.hid (fun w => svc_add 0 r.idle w (by omega) (by have := okN_iff.1 hru.2.1; omega))
      have HADM := Lib.hid (fun w => svc_add 0 r.life w (by omega) (by have := okN_iff.1 hru.2.2.1; omega))
      clear hb hfd H3 HT3 HF3 HV3 HB3 HFD
      unfold famVal famCs Fam.zero
      dsimp only at *
      obtain ⟨c0, c1, c2, c3, c4, hlt⟩ := H4.out.five
      go_wp2_with fail
      have hal := (Below.refl w4.heap.size w4).alloc (Nat.le_refl _) (.cells #[.int .i64 0, .string ⟨#[]⟩, .string ⟨#[]⟩, .string ⟨#[]⟩, .int .i64 0, .int .i64 0, .int .i64 0, .string ⟨#[]⟩, .bool false] 79)
      have HG4 := Lib.hid (Blk.new w4 79 #[.int .i64 0, .string ⟨#[]⟩, .string ⟨#[]⟩, .string ⟨#[]⟩, .int .i64 0, .int .i64 0, .int .i64 0, .string ⟨#[]⟩, .bool false])
      have H5 := Lib.hid (H4.out.keep hal)
      have HT4b := Lib.hid (HT4.out.below' hal)
      have HF4b := Lib.hid (HF4.out.below' hal)
      have HV4b := Lib.hid (HV4.out.below' hal)
      have HB4b := Lib.hid (below_2 HB4.out hal)
      have hfl := HF4.out.lt
      clear hal HT4 HF4 HV4 HB4 H4 c0 c1 c2 c3 c4 hlt
      go_at_call 39
      refine (HST.out _ H5.out).mono ?_
      generalize w4.alloc (.cells #[.int .i64 0, .string ⟨#[]⟩, .string ⟨#[]⟩, .string ⟨#[]⟩, .int .i64 0, .int .i64 0, .int .i64 0, .string ⟨#[]⟩, .bool false] 79) = w4b at *
      have hfb0 : W.heap.size + 1 < w4.heap.size := hfl
      generalize w4.heap.size = fb at *
      rintro e w5 ⟨a5, ac5, rfl, hr5, hb⟩
      have H6 := Lib.hid (H5.out.keep hb)
      have HT5 := Lib.hid (HT4b.out.below' hb)
      have HF5 := Lib.hid (HF4b.out.below' hb)
      have HV5 := Lib.hid (HV4b.out.below' hb)
      have HG5 := Lib.hid (HG4.out.below' hb)
      have HB5 := Lib.hid (below_2 HB4b.out hb)
      clear hr5 hb H5 HT4b HF4b HV4b HB4b HG4 HST
      have hcl := st_clock ck nx a5 L.length ac5
      obtain ⟨_, _, d2, d3, _, hlt⟩ := H6.out.five
      obtain ⟨v0, v1, v2, v3⟩ := tok_cells HV5.out
      obtain ⟨g0, g1, g2, g3, g4, g5, g6, g7, g8⟩ := fam_cells (i := 0) (cl := ⟨#[]⟩) (su := ⟨#[]⟩) (sc := ⟨#[]⟩) (ge := 0) (ma := 0) (us := 0) (re := ⟨#[]⟩) (de := false) HG5.out
      obtain ⟨t0, t1, t2, t3⟩ := tok_cells HT5.out
      have htz := HT5.out.frozen
      obtain ⟨z0, z1, z2, z3, z4, z5, z6, z7, z8⟩ := fam_cells (i := 0) (cl := ⟨#[]⟩) (su := ⟨#[]⟩) (sc := ⟨#[]⟩) (ge := 0) (ma := 0) (us := 0) (re := ⟨#[]⟩) (de := false) HF5.out
      have hz := HF5.out.frozen
      by_cases hk : qk = kind
      · have hk' : (qk != kind) = false := by simpa using hk
        have HK := Lib.hid hk
        clear hk

        go_wp2_with (first
          | (go_at_call 43; (with_reducible refine (HADU.out _).mono ?_); rintro e w' ⟨rfl, rfl⟩)
          | (go_at_call 43; (with_reducible refine (HADM.out _).mono ?_); rintro e w' ⟨rfl, rfl⟩))

        have ntb0 : tb ≠ W.heap.size := by omega
        have ntb1 : tb ≠ W.heap.size + 1 := by omega
        have nfb0 : fb ≠ W.heap.size := by omega
        have nfb1 : fb ≠ W.heap.size + 1 := by omega
        go_region
        go_wp2_with fail
        obtain ⟨_, rfl, n1, n2, n3⟩ := thirteen_sets (f0 := Fam.zero) HT5.out HF5.out (by omega) qk qf qg qd Fam.zero
        exact live_end (r := r) (q := (0, qk, qf, qg, qd)) (s := ⟨ck, nx, L⟩) (kind := kind) (e := 7) (f := Fam.zero) (below_dr (n3 HB5.out (Nat.le_refl _) (Nat.le_succ _) HB5.out.size)) n1.drew n2.drew rfl rfl (by rw [errV_n (show (7 : Int) ≠ 0 by decide)]; rfl) rfl rfl (by unfold liveF; rw [if_neg (show ¬ (0 : Int) ≠ 0 by decide)]; first | rw [HFDD.out]; rfl | rw [HFDD.out]) (by unfold liveE; rw [if_neg (show ¬ (0 : Int) ≠ 0 by decide)]; rw [if_neg (by rw [HK.out]; exact fun h => h rfl), HFDD.out])
      · have hk' : (qk != kind) = true := by simpa using hk

        go_wp2_with (first
          | (go_at_call 43; (with_reducible refine (HADU.out _).mono ?_); rintro e w' ⟨rfl, rfl⟩)
          | (go_at_call 43; (with_reducible refine (HADM.out _).mono ?_); rintro e w' ⟨rfl, rfl⟩))

        have ntb0 : tb ≠ W.heap.size := by omega
        have ntb1 : tb ≠ W.heap.size + 1 := by omega
        have nfb0 : fb ≠ W.heap.size := by omega
        have nfb1 : fb ≠ W.heap.size + 1 := by omega
        go_region
        go_wp2_with fail
        obtain ⟨_, rfl, n1, n2, n3⟩ := thirteen_sets (f0 := Fam.zero) HT5.out HF5.out (by omega) qk qf qg qd Fam.zero
        exact live_end (r := r) (q := (0, qk, qf, qg, qd)) (s := ⟨ck, nx, L⟩) (kind := kind) (e := 1) (f := Fam.zero) (below_dr (n3 HB5.out (Nat.le_refl _) (Nat.le_succ _) HB5.out.size)) n1.drew n2.drew rfl rfl (by rw [errV_n (show (1 : Int) ≠ 0 by decide)]; rfl) rfl rfl (by unfold liveF; rw [if_neg (show ¬ (0 : Int) ≠ 0 by decide)]; first | rw [HFDD.out]; rfl | rw [HFDD.out]) (by unfold liveE; rw [if_neg (show ¬ (0 : Int) ≠ 0 by decide)]; rw [if_pos hk])
  · have e0 : errV qe = .iface 35 (.int .i64 qe) := errV_n hq
    rw [e0]
    clear e0
    obtain ⟨t0, t1, t2, t3⟩ := tok_cells HT2.out
    have htz := HT2.out.frozen
    obtain ⟨z0, z1, z2, z3, z4, z5, z6, z7, z8⟩ := fam_cells (i := 0) (cl := ⟨#[]⟩) (su := ⟨#[]⟩) (sc := ⟨#[]⟩) (ge := 0) (ma := 0) (us := 0) (re := ⟨#[]⟩) (de := false) HF2.out
    have hz := HF2.out.frozen
    have hw1 : W.heap.size + 1 < w1.heap.size := HF2.out.lt
    have hw0 : W.heap.size < w1.heap.size := HT2.out.lt
    go_wp2_with fail
    obtain ⟨_, rfl, n1, n2, n3⟩ := thirteen_sets (f0 := Fam.zero) HT2.out HF2.out (by omega) qk qf qg qd Fam.zero
    exact live_end ((n3 HB1.out (Nat.le_refl _) (Nat.le_succ _) (by omega)).alloc (by simp; omega) _) (n1.alloc _) (n2.alloc _) rfl rfl (by rw [errV_n hq]; rfl) rfl rfl (by unfold liveF; rw [if_pos hq]) (by unfold liveE; rw [if_pos hq])
end Go.Proofs.YtckohmhhcknmaaaGreatDoor

/-
  A service: Grant.
-/
namespace Go.Proofs.YtckohmhhcknmaaaGreatDoor
open Go.RowKit Go.Sort

/-- what a call that has a plan comes to: a text, and what is wrong -/
def PlanS (W : World) (B vb sb db k : Nat) (r : Ru) (z : SS) (p : Plan ByteArray) (e : Ending) (w' : World) : Prop :=
  e = .returned (.tuple #[.string (doPlan noneS z p).2.1, errV (doPlan noneS z p).2.2]) ∧ Two sb db W w' ∧ ∃ v', SW B vb sb db (k + 1) r (doPlan noneS z p).1 v' w'
theorem PlanS.say {W w : World} {B vb sb db k : Nat} {r : Ru} {z : SS} {v : Value} {t : ByteArray} {c : Int} (h : SW B vb sb db k r z v w) (hb : Below W.heap.size W w) (u : Value) (hu : u = errV c) : PlanS W B vb sb db k r z (.say t c) (.returned (.tuple #[.string t, u])) w :=
  ⟨by rw [hu]; rfl, Two.of_below hb, v, h.later⟩
theorem PlanS.bad {W w : World} {B vb sb db k : Nat} {r : Ru} {z : SS} {v' : Value} {ev : Ev} {t : ByteArray} {c : Int} (hc : (addS z ev).2 ≠ 0) (ht : Two sb db W w) (h : SW B vb sb db (k + 1) r (addS z ev).1 v' w) : PlanS W B vb sb db k r z (.put ev t c) (.returned (.tuple #[.string noneS, errV (addS z ev).2])) w := by
  have e : doPlan noneS z (.put ev t c) = ((addS z ev).1, noneS, (addS z ev).2) := if_neg hc
  unfold PlanS
  rw [e]
  exact ⟨rfl, ht, v', h⟩
theorem PlanS.good {W w : World} {B vb sb db k : Nat} {r : Ru} {z : SS} {v' : Value} {ev : Ev} {t : ByteArray} {c : Int} (hc : (addS z ev).2 = 0) (ht : Two sb db W w) (h : SW B vb sb db (k + 1) r (addS z ev).1 v' w) (u : Value) (hu : u = errV c) : PlanS W B vb sb db k r z (.put ev t c) (.returned (.tuple #[.string t, u])) w := by
  have e : doPlan noneS z (.put ev t c) = ((addS z ev).1, t, c) := if_pos hc
  unfold PlanS
  rw [e, hu]
  exact ⟨rfl, ht, v', h⟩
theorem SW.tm {B vb sb db k : Nat} {r : Ru} {z : SS} {v : Value} {w : World} (h : SW B vb sb db k r z v w) : Tens w ∧ MaxL w ∧ ErrVars w := ⟨h.sx.env.tens, h.sx.env.maxl, h.sx.env.errs⟩
section
variable {B vb sb db k : Nat} {r : Ru} {z : SS} {v : Value} {W : World}
set_option maxHeartbeats 4000000 in
set_option maxRecDepth 100000 in
theorem svc_grant (h : SW B vb sb db k r z v W) (hk : k < 1000000) (client subject sc : ByteArray) (h1 : client.size ≤ 1000) (h2 : subject.size ≤ 1000) (h3 : sc.size ≤ 1000) :
    Calls Tryz.prog 9 #[.pointer (some ⟨vb, 0, none⟩), .string client, .string subject, .string sc] W (PlanS W B vb sb db k r z (grantP r z.s client subject sc)) := by
  have HN1 := Lib.hid (fun w => ev_name client w h1)
  have HN2 := Lib.hid (fun w => ev_name subject w h2)
  have HLS := Lib.hid (fun w hm => scope_least_any sc w h3 hm)
  have HST := Lib.hid (fun w (h : SW B vb sb db k r z v w) => (sx_state h.sx).mono fun _ _ h => got_as h)
  have H := Lib.hid h
  clear h
  rcases hn1 : nameB client.data.toList with _ | _
  · have hp : grantP r z.s client subject sc = .say noneS 1 := by unfold grantP; rw [hn1]; rfl
    have HP := Lib.hid hp
    rw [hn1] at HN1
    clear hp hn1
    go_enter Tryz.func9, Tryz.ntmps9
    go_wp2_with fail
    go_at_call 12
    refine (HN1.out _).mono ?_
    rintro e w1 ⟨rfl, hb⟩
    have H1 := Lib.hid (H.out.keep hb)
    have HB1 := Lib.hid hb
    clear hb
    go_wp2_with fail
    go_ret2
    rw [HP.out]
    exact PlanS.say H1.out HB1.out _ (errV_n (by decide)).symm
  · rw [hn1] at HN1
    rcases hn2 : nameB subject.data.toList with _ | _
    · have hp : grantP r z.s client subject sc = .say noneS 1 := by unfold grantP; rw [hn1, hn2]; rfl
      have HP := Lib.hid hp
      rw [hn2] at HN2
      clear hp hn1 hn2
      go_enter Tryz.func9, Tryz.ntmps9
      go_wp2_with fail
      go_at_call 12
      refine (HN1.out _).mono ?_
      rintro e w1 ⟨rfl, hb⟩
      have H1 := Lib.hid (H.out.keep hb)
      have HB1 := Lib.hid hb
      clear hb
      go_wp2_with fail
      go_at_call 12
      refine (HN2.out _).mono ?_
      rintro e w2 ⟨rfl, hb⟩
      have H2 := Lib.hid (H1.out.keep hb)
      have HB2 := Lib.hid (below_2 HB1.out hb)
      clear hb
      go_wp2_with fail
      go_ret2
      rw [HP.out]
      exact PlanS.say H2.out HB2.out _ (errV_n (by decide)).symm
    · rw [hn2] at HN2
      have HNA := Lib.hid (show (nameB client.data.toList && nameB subject.data.toList) = true by rw [hn1, hn2]; rfl)
      have HNN := Lib.hid (And.intro hn1 hn2)
      clear hn1 hn2
      go_enter Tryz.func9, Tryz.ntmps9
      go_wp2_with fail
      go_at_call 12
      refine (HN1.out _).mono ?_
      rintro e w1 ⟨rfl, hb⟩
      have H1 := Lib.hid (H.out.keep hb)
      have HB1 := Lib.hid hb
      clear hb HN1
      go_wp2_with fail
      go_at_call 12
      refine (HN2.out _).mono ?_
      rintro e w2 ⟨rfl, hb⟩
      have H2 := Lib.hid (H1.out.keep hb)
      have HB2 := Lib.hid (below_2 HB1.out hb)
      clear hb HN2 H1 HB1
      go_wp2_with fail
      go_at_call 38
      refine (HLS.out _ H2.out.tm.2.1).mono ?_
      rintro e w3 ⟨rfl, hb⟩
      have H3 := Lib.hid (H2.out.keep hb)
      have HB3 := Lib.hid (below_2 HB2.out hb)
      clear hb HLS H2 HB2
      by_cases hsn : scopeN sc.data.toList = 0
      · have e0 : errV (scopeN sc.data.toList) = .nilIface := by rw [hsn]; exact errV_0
        rw [e0]
        have HSN := Lib.hid hsn
        clear e0 hsn
        obtain ⟨c0, c1, c2, c3, c4, hlt⟩ := H3.out.five
        go_wp2_with fail
        go_at_call 39
        refine (HST.out _ H3.out).mono ?_
        rintro e w4 ⟨a4, ac4, rfl, hr4, hb⟩
        have H4 := Lib.hid (H3.out.keep hb)
        have HB4 := Lib.hid (below_2 HB3.out hb)
        clear hr4 hb H3 HB3 HST c0 c1 c2 c3 c4 hlt
        by_cases hnx : 1099511627776 < z.s.next
        · have hp : grantP r z.s client subject sc = .say noneS 4 := by unfold grantP; rw [HNA.out, if_neg (by decide), if_neg (by rw [HSN.out]; decide), if_pos hnx]
          have HP := Lib.hid hp
          have hal := (Below.refl w4.heap.size w4).alloc (Nat.le_refl _) (.cells #[.int .i64 z.s.clock, .int .i64 z.s.next, .slice a4 z.s.fams.length ac4] 39)
          have HAL := Lib.hid hal
          clear hp hal
          go_wp2_with fail
          go_ret2
          rw [HP.out]
          exact PlanS.say (H4.out.keep HAL.out) (below_2 HB4.out HAL.out) _ (errV_n (by decide)).symm
        · by_cases hln : 20 ≤ z.s.fams.length
          · have hp : grantP r z.s client subject sc = .say noneS 12 := by unfold grantP; rw [HNA.out, if_neg (by decide), if_neg (by rw [HSN.out]; decide), if_neg hnx, if_pos hln]
            have HP := Lib.hid hp
            have hal := (Below.refl w4.heap.size w4).alloc (Nat.le_refl _) (.cells #[.int .i64 z.s.clock, .int .i64 z.s.next, .slice a4 z.s.fams.length ac4] 39)
            have HAL := Lib.hid hal
            clear hp hal
            go_wp2_with fail
            go_ret2
            rw [HP.out]
            exact PlanS.say (H4.out.keep HAL.out) (below_2 HB4.out HAL.out) _ (errV_n (by decide)).symm
          · have hp : grantP r z.s client subject sc = .put (putEv (grantF z.s client subject sc)) (refreshS r (grantF z.s client subject sc)) 0 := by unfold grantP; rw [HNA.out, if_neg (by decide), if_neg (by rw [HSN.out]; decide), if_neg hnx, if_neg hln]
            have HP := Lib.hid hp
            have hal := alloc2 w4 (.cells #[.int .i64 z.s.clock, .int .i64 z.s.next, .slice a4 z.s.fams.length ac4] 39) (.cells (famCs (grantF z.s client subject sc)) 79)
            have hfb : Blk ((w4.alloc (.cells #[.int .i64 z.s.clock, .int .i64 z.s.next, .slice a4 z.s.fams.length ac4] 39)).alloc (.cells (famCs (grantF z.s client subject sc)) 79)) (w4.heap.size + 1) 79 (famCs (grantF z.s client subject sc)) := by
              have := Blk.new (w4.alloc (.cells #[.int .i64 z.s.clock, .int .i64 z.s.next, .slice a4 z.s.fams.length ac4] 39)) 79 (famCs (grantF z.s client subject sc))
              rw [show (w4.alloc (.cells #[.int .i64 z.s.clock, .int .i64 z.s.next, .slice a4 z.s.fams.length ac4] 39)).heap.size = w4.heap.size + 1 by simp] at this
              exact this
            have HFB := Lib.hid hfb
            have H5 := Lib.hid (H4.out.keep hal)
            have HB5 := Lib.hid (below_2 HB4.out hal)
            have hfit := H4.out.sx.fit
            have hnM := okM_iff.1 hfit.next
            have hidN : okN z.s.next = true := okN_iff.2 (by omega)
            have hlst := leastL_len sc.data.toList
            have hcn := nameB_len HNN.out.1
            have hsn9 := nameB_len HNN.out.2
            have hshort : (grantF z.s client subject sc).short 1000 := by
              unfold grantF Fam.short noneS
              dsimp only
              rw [txt_size_]
              have e1 : client.size = client.data.toList.length := (size_data client).symm
              have e2 : subject.size = subject.data.toList.length := (size_data subject).symm
              refine ⟨by omega, by omega, by omega, by show 0 ≤ 1000; omega⟩
            have HPT := Lib.hid (fun w (h : SW B vb sb db k r z v w) => svc_put h hk (grantF z.s client subject sc) hshort)
            have HRF := Lib.hid (fun w z' v' (h : SW B vb sb db (k + 1) r z' v' w) => svc_refresh h (grantF z.s client subject sc) hidN (show okN 0 = true by decide))
            unfold famVal at HPT HRF
            generalize hQ : addS z (putEv (grantF z.s client subject sc)) = Q at *
            have HQ := Lib.hid hQ
            generalize hX : refreshS r (grantF z.s client subject sc) = X at *
            generalize hF : putEv (grantF z.s client subject sc) = FE at *
            unfold grantF famCs at HPT HRF HFB H5 HB5
            unfold noneS at HPT HRF HFB H5 HB5
            dsimp only at HPT HRF HFB H5 HB5
            clear hX hF hQ
            clear hp hal hfb hfit hnM hidN hlst hcn hsn9 hshort H4 HB4
            go_wp2_with fail
            go_at_call 40
            refine (HPT.out _ H5.out).mono ?_
            rintro e w6 ⟨rfl, htw, v6, h6⟩
            have H6 := Lib.hid h6
            have HT6 := Lib.hid ((Two.of_below HB5.out).trans htw)
            have HF6 := Lib.hid (HFB.out.two htw (H5.out.sx.apart HFB.out (by decide) (by decide)).1 (H5.out.sx.apart HFB.out (by decide) (by decide)).2)
            clear htw h6 HFB H5 HB5 HPT
            by_cases hq : Q.2 = 0
            · have e0 : errV Q.2 = .nilIface := by rw [hq]; exact errV_0
              rw [e0]
              have HQ0 := Lib.hid hq
              clear e0 hq
              obtain ⟨f0, f1, f2, f3, f4, f5, f6, f7, f8⟩ := fam_cells HF6.out
              go_wp2_with fail
              go_at_call 41
              refine (HRF.out _ _ _ H6.out).mono ?_
              rintro e w7 ⟨rfl, hb⟩
              have H7 := Lib.hid (H6.out.keep hb)
              have HT7 := Lib.hid (HT6.out.trans (Two.of_below hb))
              clear hb H6 HT6 f0 f1 f2 f3 f4 f5 f6 f7 f8 HF6
              go_wp2_with fail
              go_ret2
              rw [HP.out]
              exact PlanS.good (by rw [HQ.out]; exact HQ0.out) HT7.out (by rw [HQ.out]; exact H7.out) _ errV_0.symm
            · have e0 : errV Q.2 = .iface 35 (.int .i64 Q.2) := errV_n hq
              have HE0 := Lib.hid e0
              rw [e0]
              have HQ0 := Lib.hid hq
              clear e0 hq
              go_wp2_with fail
              go_ret2
              rw [HP.out, ← HE0.out, ← HQ.out]
              exact PlanS.bad (by rw [HQ.out]; exact HQ0.out) HT6.out (by rw [HQ.out]; exact H6.out)
      · have e0 : errV (scopeN sc.data.toList) = .iface 35 (.int .i64 (scopeN sc.data.toList)) := errV_n hsn
        have hp : grantP r z.s client subject sc = .say noneS (scopeN sc.data.toList) := by unfold grantP; rw [HNA.out, if_neg (by decide), if_pos hsn]
        have HP := Lib.hid hp
        have HE0 := Lib.hid e0
        rw [e0]
        clear e0 hp hsn
        go_wp2_with fail
        go_ret2
        rw [HP.out]
        exact PlanS.say H3.out HB3.out _ HE0.out.symm
end
end Go.Proofs.YtckohmhhcknmaaaGreatDoor

/-
  A service: Kill, Tick.
-/
namespace Go.Proofs.YtckohmhhcknmaaaGreatDoor
open Go.RowKit Go.Sort

/-- what a call that has a plan comes to: what is wrong -/
def PlanU (W : World) (B vb sb db k : Nat) (r : Ru) (z : SS) (p : Plan Unit) (e : Ending) (w' : World) : Prop :=
  e = .returned (errV (doPlan () z p).2.2) ∧ Two sb db W w' ∧ ∃ v', SW B vb sb db (k + 1) r (doPlan () z p).1 v' w'
theorem PlanU.say {W w : World} {B vb sb db k : Nat} {r : Ru} {z : SS} {v : Value} {c : Int} (h : SW B vb sb db k r z v w) (hb : Below W.heap.size W w) (u : Value) (hu : u = errV c) : PlanU W B vb sb db k r z (.say () c) (.returned u) w :=
  ⟨by rw [hu]; rfl, Two.of_below hb, v, h.later⟩
theorem PlanU.put {W w : World} {B vb sb db k : Nat} {r : Ru} {z : SS} {v' : Value} {ev : Ev} (ht : Two sb db W w) (h : SW B vb sb db (k + 1) r (addS z ev).1 v' w) : PlanU W B vb sb db k r z (.put ev () 0) (.returned (errV (addS z ev).2)) w := by
  by_cases hc : (addS z ev).2 = 0
  · have e : doPlan () z (.put ev () 0) = ((addS z ev).1, (), 0) := if_pos hc
    unfold PlanU
    rw [e, hc]
    exact ⟨rfl, ht, v', h⟩
  · have e : doPlan () z (.put ev () 0) = ((addS z ev).1, (), (addS z ev).2) := if_neg hc
    unfold PlanU
    rw [e]
    exact ⟨rfl, ht, v', h⟩
section
variable {B vb sb db k : Nat} {r : Ru} {z : SS} {v : Value} {W : World}
set_option maxHeartbeats 4000000 in
set_option maxRecDepth 100000 in
theorem svc_kill (h : SW B vb sb db k r z v W) (hk : k < 1000000) (id : Int) :
    Calls Tryz.prog 29 #[.pointer (some ⟨vb, 0, none⟩), .int .i64 id] W (PlanU W B vb sb db k r z (killP z.s id)) := by
  have HFD := Lib.hid (svc_find h id)
  have hfit := h.sx.fit
  have H := Lib.hid h
  clear h
  go_enter Tryz.func29, Tryz.ntmps29
  go_wp2_with fail
  go_at_call 66
  refine HFD.out.mono ?_
  rintro e w1 ⟨hb, ⟨f, hfd, hmem, rfl⟩ | ⟨hfd, rfl⟩⟩
  · have H1 := Lib.hid (H.out.keep hb)
    have HB1 := Lib.hid hb
    have hfb := hfit.fams f hmem
    rcases hd : f.dead with _ | _
    · have hp : killP z.s id = .put (putEv (deadF f)) () 0 := by unfold killP; rw [hfd]; simp [hd]
      have HP := Lib.hid hp
      have hsh := fam_short hfb
      have hsh2 : (deadF f).short 1000 := hsh
      have HPT := Lib.hid (fun w (h : SW B vb sb db k r z v w) => svc_put h hk (deadF f) hsh2)
      generalize hQ : addS z (putEv (deadF f)) = Q at *
      have HQ := Lib.hid hQ
      generalize putEv (deadF f) = FE at *
      unfold famVal deadF at HPT
      obtain ⟨i, cl, su, scp, ge, ma, us, re, de⟩ := f
      unfold famCs at HPT
      dsimp only at hd HPT
      subst hd
      unfold famVal famCs
      dsimp only
      have hal := (Below.refl w1.heap.size w1).alloc (Nat.le_refl _) (.cells #[.int .i64 i, .string cl, .string su, .string scp, .int .i64 ge, .int .i64 ma, .int .i64 us, .string re, .bool true] 79)
      have H2 := Lib.hid (H1.out.keep hal)
      have HB2 := Lib.hid (below_2 HB1.out hal)
      clear hp hfd hmem hfb hsh hsh2 hb hal H HFD hQ
      go_wp2_with fail
      go_at_call 40
      refine (HPT.out _ H2.out).mono ?_
      rintro e w3 ⟨rfl, htw, v3, h3⟩
      have H3 := Lib.hid h3
      have HT3 := Lib.hid ((Two.of_below HB2.out).trans htw)
      clear htw h3
      go_wp2_with fail
      go_ret
      rw [HP.out, ← HQ.out]
      exact PlanU.put HT3.out (by rw [HQ.out]; exact H3.out)
    · have hp : killP z.s id = .say () 6 := by unfold killP; rw [hfd]; simp [hd]
      have HP := Lib.hid hp
      obtain ⟨i, cl, su, scp, ge, ma, us, re, de⟩ := f
      dsimp only at hd
      subst hd
      unfold famVal famCs
      dsimp only
      have hal := (Below.refl w1.heap.size w1).alloc (Nat.le_refl _) (.cells #[.int .i64 i, .string cl, .string su, .string scp, .int .i64 ge, .int .i64 ma, .int .i64 us, .string re, .bool true] 79)
      have HAL := Lib.hid hal
      clear hp hfd hmem hfb hb H HFD hal
      go_wp2_with fail
      go_ret
      rw [HP.out]
      exact PlanU.say (H1.out.keep HAL.out) (below_2 HB1.out HAL.out) _ (errV_n (by decide)).symm
  · have hp : killP z.s id = .say () 7 := by unfold killP; rw [hfd]
    have HP := Lib.hid hp
    unfold famVal famCs Fam.zero
    dsimp only
    have hal := (Below.refl w1.heap.size w1).alloc (Nat.le_refl _) (.cells #[.int .i64 0, .string ⟨#[]⟩, .string ⟨#[]⟩, .string ⟨#[]⟩, .int .i64 0, .int .i64 0, .int .i64 0, .string ⟨#[]⟩, .bool false] 79)
    have HAL := Lib.hid hal
    have H1 := Lib.hid (H.out.keep hb)
    have HB1 := Lib.hid hb
    clear hp hfd hb H HFD hal
    go_wp2_with fail
    go_ret
    rw [HP.out]
    exact PlanU.say (H1.out.keep HAL.out) (below_2 HB1.out HAL.out) _ (errV_n (by decide)).symm
end
end Go.Proofs.YtckohmhhcknmaaaGreatDoor

/-
  A service: Tick.
-/
namespace Go.Proofs.YtckohmhhcknmaaaGreatDoor
open Go.RowKit Go.Sort

section
variable {B vb sb db k : Nat} {r : Ru} {z : SS} {v : Value} {W : World}
set_option maxHeartbeats 4000000 in
set_option maxRecDepth 100000 in
theorem svc_tick (h : SW B vb sb db k r z v W) (hk : k < 1000000) (n : Int) :
    Calls Tryz.prog 10 #[.pointer (some ⟨vb, 0, none⟩), .int .i64 n] W (PlanU W B vb sb db k r z (tickP z.s n)) := by
  have HST := Lib.hid (fun w (h : SW B vb sb db k r z v w) => (sx_state h.sx).mono fun _ _ h => got_as h)
  have hfit := h.sx.fit
  have H := Lib.hid h
  clear h
  by_cases hn : okN n = true
  · obtain ⟨hn0, hn1⟩ := okN_iff.1 hn
    have hp : tickP z.s n = .put (tickEv (capN z.s.clock n)) () 0 := by unfold tickP; rw [hn]; rfl
    have HP := Lib.hid hp
    have HAD := Lib.hid (fun w => svc_add z.s.clock n w (okN_iff.1 hfit.clock) ⟨hn0, hn1⟩)
    have HA : Hid (∀ w, SX B sb db k z v w → Calls Tryz.prog 42 #[.pointer (some ⟨sb, 0, none⟩), evVal (tickEv (capN z.s.clock n))] w (DoneX w B sb db k (addS z (tickEv (capN z.s.clock n))))) := Lib.hid fun w h => sx_add h hk _ (by show Fam.zero.short 1000; unfold Fam.short Fam.zero; dsimp only; refine ⟨by decide, by decide, by decide, by decide⟩)
    generalize hQ : addS z (tickEv (capN z.s.clock n)) = q at *
    have HQ := Lib.hid hQ
    generalize capN z.s.clock n = cn at *
    unfold evVal evCs tickEv at HA
    unfold Fam.zero at HA
    dsimp only at HA
    obtain ⟨c0, c1, c2, c3, c4, hlt⟩ := H.out.five
    clear hp hn hfit hQ c1 c2 c3 c4
    go_enter Tryz.func10, Tryz.ntmps10
    go_wp2_with fail
    have HSD := Lib.hid H.out.drew
    have HD : W.drew.cell? ⟨vb, 0, none⟩ = some (.pointer (some ⟨sb, 0, none⟩)) := c0
    clear c0 hlt
    go_region_held3 (fun w' => w'.cell? ⟨vb, 0, none⟩ = some (.pointer (some ⟨sb, 0, none⟩)))
      (first
        | with_reducible assumption
        | with_reducible exact HD)
      (first
        | (go_at_call 43; (with_reducible refine (HAD.out _).mono ?_); rintro x' w2 ⟨rfl, rfl⟩)
        | (go_at_call 39; (with_reducible refine (HST.out _ HSD.out).mono ?_); rintro x' w2 ⟨a4, ac4, rfl, hr4, hb⟩
           have HS2 := Lib.hid (HSD.out.keep hb)
           have HB2 := Lib.hid (below_2 (below_dr (Below.refl W.heap.size W)) hb)
           have hx2 := HS2.out.five.1
           have hsc := st_clock z.s.clock z.s.next a4 z.s.fams.length ac4
           clear hr4 hb)
        | (go_at_call 42; (with_reducible refine (HA.out _ HS2.out.sx).mono ?_); rintro x' w2 ⟨rfl, htw, v2, hsx⟩
           have hend : PutX W B vb sb db k r q (.returned (errV q.2)) w2 := ⟨rfl, (Two.of_below HB2.out).trans htw, v2, HS2.out.two htw hsx⟩
           have hx2 := (HS2.out.two htw hsx).five.1))
    go_wp2_with fail
    go_ret
    obtain ⟨-, htw, v3, h3⟩ := hend
    rw [HP.out, ← HQ.out]
    rw [← HQ.out] at h3
    exact PlanU.put htw h3
  · have hp : tickP z.s n = .say () 2 := by unfold tickP; rw [if_pos (by simpa using hn)]
    have HP := Lib.hid hp
    have hbad : n < 0 ∨ 1099511627776 < n := by
      by_cases h0 : n < 0
      · exact .inl h0
      · exact .inr (by by_cases h1 : 1099511627776 < n; exact h1; exact absurd (okN_iff.2 ⟨by omega, by omega⟩) hn)
    clear hp hn
    rcases hbad with hbad | hbad
    · go_enter Tryz.func10, Tryz.ntmps10
      go_wp2_with fail
      go_ret
      rw [HP.out]
      exact PlanU.say H.out (Below.refl _ _) _ (errV_n (by decide)).symm
    · have h0 : ¬ n < 0 := by omega
      go_enter Tryz.func10, Tryz.ntmps10
      go_wp2_with fail
      go_ret
      rw [HP.out]
      exact PlanU.say H.out (Below.refl _ _) _ (errV_n (by decide)).symm
end
end Go.Proofs.YtckohmhhcknmaaaGreatDoor

/-
  A service: Mint, Show, State.
-/
namespace Go.Proofs.YtckohmhhcknmaaaGreatDoor
open Go.RowKit Go.Sort

theorem liveR_e (r : Ru) (s : St) (t : ByteArray) (kind : Int) : (liveR r s t kind).e = liveE r s (tokOf r t) kind := by
  unfold liveR liveE
  by_cases h1 : (tokOf r t).1 ≠ 0
  · rw [if_pos h1, if_pos h1]
  · rw [if_neg h1, if_neg h1]
    by_cases h2 : (tokOf r t).2.1 ≠ kind
    · rw [if_pos h2, if_pos h2]
    · rw [if_neg h2, if_neg h2]
      rcases findF s.fams (tokOf r t).2.2.1 with _ | f
      · rfl
      · rcases hd : f.dead with _ | _
        · rcases ho : oldB r s.clock f with _ | _ <;> simp [hd, ho]
        · simp [hd]
/-- a token that lives: what live gives is what it is said to be -/
theorem liveR_yes {r : Ru} {s : St} {t : ByteArray} {kind : Int} (h : liveE r s (tokOf r t) kind = 0) :
    (liveR r s t kind).gen = (tokOf r t).2.2.2.1 ∧ (liveR r s t kind).ends = (tokOf r t).2.2.2.2 ∧ (liveR r s t kind).f = liveF s (tokOf r t) ∧ liveF s (tokOf r t) ∈ s.fams ∧ findF s.fams (tokOf r t).2.2.1 = some (liveF s (tokOf r t)) := by
  unfold liveE at h
  unfold liveR liveF
  by_cases h1 : (tokOf r t).1 ≠ 0
  · rw [if_pos h1] at h
    exact absurd h h1
  · rw [if_neg h1] at h
    rw [if_neg h1, if_neg h1]
    by_cases h2 : (tokOf r t).2.1 ≠ kind
    · rw [if_pos h2] at h
      cases h
    · rw [if_neg h2] at h
      rw [if_neg h2]
      rcases hf : findF s.fams (tokOf r t).2.2.1 with _ | f
      · rw [hf] at h
        cases h
      · rw [hf] at h
        rcases hd : f.dead with _ | _
        · rcases ho : oldB r s.clock f with _ | _
          · simp only [hd, ho]
            refine ⟨by simp, by simp, by simp, ?_, by simp⟩
            exact List.mem_of_find?_eq_some hf
          · simp [hd, ho] at h
        · simp [hd] at h
theorem svc_state_end {W w : World} {A : Act} {s : St} {v : Value} (hr : FRow w W.heap.size v s.fams) (h1 : v.ownBlock ≠ some W.heap.size) (hb : Below W.heap.size W w)
    (h3 : Blk w W.heap.size 39 #[.int .i64 0, .int .i64 0, .slice none 0 0]) 
    (hp : A.tmps.getD 2 undef = .pointer (some ⟨W.heap.size, 0, none⟩)) (hd : A.defers = []) :
    bodyPost Tryz.prog Tryz.f14 (ApplyGot W s) Exit.ret A (((w.setCell ⟨W.heap.size, 0, none⟩ (.int .i64 s.clock)).setCell ⟨W.heap.size, 1, none⟩ (.int .i64 s.next)).setCell ⟨W.heap.size, 2, none⟩ v) := by
  have e1 := h3.put_ 0 (.int .i64 s.clock) (cs' := #[.int .i64 s.clock, .int .i64 0, .slice none 0 0]) rfl
  have e2 := e1.put_ 1 (.int .i64 s.next) (cs' := #[.int .i64 s.clock, .int .i64 s.next, .slice none 0 0]) rfl
  have e3 := e2.put_ 2 v (cs' := stCs s v) rfl
  have g1 := only_set1 w W.heap.size ⟨W.heap.size, 0, none⟩ rfl (.int .i64 s.clock)
  have g2 := only_setCell g1 (p := ⟨W.heap.size, 1, none⟩) (.inl rfl) (.int .i64 s.next)
  have g3 := only_setCell g2 (p := ⟨W.heap.size, 2, none⟩) (.inl rfl) v
  have kb3 := hb.grown g3 hb.size (fun j hj => by cases hj; exact Nat.le_refl _)
  have kr3 := hr.kept g3 h1
  generalize ((w.setCell ⟨W.heap.size, 0, none⟩ (.int .i64 s.clock)).setCell ⟨W.heap.size, 1, none⟩ (.int .i64 s.next)).setCell ⟨W.heap.size, 2, none⟩ v = w2 at *
  exact bodyPost_ret (results_cell_row rfl A.tmps w2 _ _ _ (0, 0) _ hp e3 Tryz.underlying39 rfl (by kernel_rfl)) hd ⟨v, rfl, kr3, kb3⟩
section
variable {B vb sb db k : Nat} {r : Ru} {z : SS} {v : Value} {W : World}
set_option maxHeartbeats 4000000 in
set_option maxRecDepth 100000 in
theorem svc_state (h : SW B vb sb db k r z v W) :
    Calls Tryz.prog 14 #[.pointer (some ⟨vb, 0, none⟩)] W (ApplyGot W z.s) := by
  have HST := Lib.hid (fun w (h : SW B vb sb db k r z v w) => (sx_state h.sx).mono fun _ _ h => got_as h)
  have hal := (Below.refl W.heap.size W).alloc (Nat.le_refl _) (.cells #[.int .i64 0, .int .i64 0, .slice none 0 0] 39)
  have HAL := Lib.hid hal
  have H1 := Lib.hid (h.keep hal)
  have H3 := Lib.hid (Blk.new W 39 #[.int .i64 0, .int .i64 0, .slice none 0 0])
  have HSZ := Lib.hid (show W.heap.size + 1 ≤ (W.alloc (.cells #[.int .i64 0, .int .i64 0, .slice none 0 0] 39)).heap.size by simp)
  obtain ⟨c0, c1, c2, c3, c4, hlt⟩ := H1.out.five
  obtain ⟨s, lg, wr, of, lf, dn⟩ := z
  obtain ⟨ck, nx, L⟩ := s
  dsimp only at *
  clear h hal
  go_enter Tryz.func14, Tryz.ntmps14
  go_wp2_with fail
  go_at_call 39
  refine (HST.out _ H1.out).mono ?_
  rintro e w1 ⟨a, ac, rfl, hr, hb⟩
  have HR := Lib.hid hr
  have HB := Lib.hid (below_2 HAL.out hb)
  have h3 := H3.out.below' hb
  have H4 := Lib.hid h3
  have z3 := h3.frozen
  have l3 := h3.cell 0
  have l4 := h3.cell 1
  have l5 := h3.cell 2
  clear hr hb h3 c0 c1 c2 c3 c4 hlt HAL H1 H3 HST
  go_wp2_with fail
  have hz := HSZ.out
  exact svc_state_end (s := ⟨ck, nx, L⟩) (HR.out.mono (by omega)) (fun he => by have := (HR.out.lt _ he).1; omega) HB.out H4.out rfl rfl
end
end Go.Proofs.YtckohmhhcknmaaaGreatDoor

/-
  A service: Show.
-/
namespace Go.Proofs.YtckohmhhcknmaaaGreatDoor
open Go.RowKit Go.Sort

/-- what Show gives of what live gave -/
def showV (le : Int) (f : Fam) (qg qd ck : Int) : Fam × Int := if le ≠ 0 then (Fam.zero, le) else if f.gen < qg then (Fam.zero, 2) else if qd < ck then (Fam.zero, 10) else (f, 0)
theorem showP_eq (r : Ru) (s : St) (t : ByteArray) : showP r s t = showV (liveE r s (tokOf r t) 2) (liveF s (tokOf r t)) (tokOf r t).2.2.2.1 (tokOf r t).2.2.2.2 s.clock := by
  unfold showP showL showV
  rw [liveR_e]
  by_cases h : liveE r s (tokOf r t) 2 ≠ 0
  · rw [if_pos h, if_pos h]
  · rw [if_neg h, if_neg h]
    obtain ⟨h1, h2, h3, _⟩ := liveR_yes (r := r) (s := s) (t := t) (kind := 2) (by simpa using h)
    rw [h1, h2, h3]
def ShowGot (W : World) (q : Fam × Int) (e : Ending) (w' : World) : Prop := e = .returned (.tuple #[famVal q.1, errV q.2]) ∧ Below W.heap.size W w'
theorem show_end {W w : World} {A : Act} {f : Fam} {q : Fam × Int} (hb : Below W.heap.size W w) (hr : Blk w W.heap.size 79 (famCs f)) (hp : A.tmps.getD 4 undef = .pointer (some ⟨W.heap.size, 0, none⟩)) (hx : A.tmps.getD 5 undef = errV q.2) (hd : A.defers = []) (h : f = q.1) :
    bodyPost Tryz.prog Tryz.f27 (ShowGot W q) Exit.ret A w := by
  refine bodyPost_ret (results_row_tmp rfl A.tmps w _ _ _ _ _ hp hx hr Tryz.underlying79 rfl (by kernel_rfl)) hd ⟨?_, hb⟩
  rw [← h]
  rfl
section
variable {B vb sb db k : Nat} {r : Ru} {z : SS} {v : Value} {W : World}
set_option maxHeartbeats 4000000 in
set_option maxRecDepth 100000 in
theorem svc_show (h : SW B vb sb db k r z v W) (t : ByteArray) (ht : t.size ≤ 1000) :
    Calls Tryz.prog 27 #[.pointer (some ⟨vb, 0, none⟩), .string t] W (ShowGot W (showP r z.s t)) := by
  have HST := Lib.hid (fun w (h : SW B vb sb db k r z v w) => (sx_state h.sx).mono fun _ _ h => got_as h)
  have HL := Lib.hid (fun w (h : SW B vb sb db k r z v w) => svc_live h t 2 ht)
  rw [showP_eq]
  have hal := (Below.refl W.heap.size W).alloc (Nat.le_refl _) (.cells (famCs Fam.zero) 79)
  have HAL := Lib.hid hal
  have H1 := Lib.hid (h.keep hal)
  have HF1 := Lib.hid (Blk.new W 79 (famCs Fam.zero))
  unfold LiveGot v4 at HL
  unfold GotAs at HST
  unfold famCs Fam.zero at HAL H1 HF1
  dsimp only at HAL H1 HF1
  clear h hal
  generalize liveE r z.s (tokOf r t) 2 = le at *
  generalize liveF z.s (tokOf r t) = f at *
  generalize tokOf r t = q at *
  obtain ⟨qe, qk, qf, qg, qd⟩ := q
  obtain ⟨i, cl, su, scp, ge, ma, us, re, de⟩ := f
  unfold famVal famCs at HL
  dsimp only at HL
  dsimp only
  generalize z.s = s at *
  obtain ⟨ck, nx, L⟩ := s
  dsimp only at *
  go_enter Tryz.func27, Tryz.ntmps27
  go_wp2_with fail
  go_at_call 44
  refine (HL.out _ H1.out).mono ?_
  rintro e w1 ⟨rfl, hb⟩
  have HB1 := Lib.hid (below_2 HAL.out hb)
  have H2 := Lib.hid (H1.out.keep hb)
  have HF2 := Lib.hid (HF1.out.below' hb)
  have hfl := HF2.out.lt
  clear hb H1 HF1 HAL HL
  have hal := alloc2 w1 (.cells #[.int .i64 qk, .int .i64 qf, .int .i64 qg, .int .i64 qd] 104) (.cells #[.int .i64 i, .string cl, .string su, .string scp, .int .i64 ge, .int .i64 ma, .int .i64 us, .string re, .bool de] 79)
  have HT3 := Lib.hid ((Blk.new w1 104 #[.int .i64 qk, .int .i64 qf, .int .i64 qg, .int .i64 qd]).alloc (.cells #[.int .i64 i, .string cl, .string su, .string scp, .int .i64 ge, .int .i64 ma, .int .i64 us, .string re, .bool de] 79))
  have hg : Blk ((w1.alloc (.cells #[.int .i64 qk, .int .i64 qf, .int .i64 qg, .int .i64 qd] 104)).alloc (.cells #[.int .i64 i, .string cl, .string su, .string scp, .int .i64 ge, .int .i64 ma, .int .i64 us, .string re, .bool de] 79)) (w1.heap.size + 1) 79 #[.int .i64 i, .string cl, .string su, .string scp, .int .i64 ge, .int .i64 ma, .int .i64 us, .string re, .bool de] := by
    have := Blk.new (w1.alloc (.cells #[.int .i64 qk, .int .i64 qf, .int .i64 qg, .int .i64 qd] 104)) 79 #[.int .i64 i, .string cl, .string su, .string scp, .int .i64 ge, .int .i64 ma, .int .i64 us, .string re, .bool de]
    rw [show (w1.alloc (.cells #[.int .i64 qk, .int .i64 qf, .int .i64 qg, .int .i64 qd] 104)).heap.size = w1.heap.size + 1 by simp] at this
    exact this
  have HG3 := Lib.hid hg
  have H3 := Lib.hid (H2.out.keep hal)
  have HF3 := Lib.hid (HF2.out.below' hal)
  have HB3 := Lib.hid (below_2 HB1.out hal)
  have hz := HF2.out.frozen
  obtain ⟨z0, z1, z2, z3, z4, z5, z6, z7, z8⟩ := fam_cells HF2.out
  have hn0 : W.heap.size ≠ w1.heap.size := by omega
  have hn1 : W.heap.size ≠ w1.heap.size + 1 := by omega
  clear hal hg H2
  by_cases hle : le = 0
  · subst hle
    have e0 : errV 0 = .nilIface := errV_0
    rw [e0]
    clear e0
    by_cases h1 : ge < qg
    · have hq : showV 0 ⟨i, cl, su, scp, ge, ma, us, re, de⟩ qg qd ck = (Fam.zero, 2) := by unfold showV; rw [if_neg (by decide), if_pos h1]
      have HQ := Lib.hid hq
      clear hq H3 HT3 HG3 HF3 HB3
      go_wp2_with fail
      obtain ⟨n1, n2⟩ := nine_sets (f0 := Fam.zero) HF2.out 0 ⟨#[]⟩ ⟨#[]⟩ ⟨#[]⟩ 0 0 0 ⟨#[]⟩ false
      have hb5 := HB1.out.grown n2 HB1.out.size (fun i hi => by cases hi; exact Nat.le_refl _)
      have hb6 := hb5.alloc hb5.size (.cells #[.int .i64 qk, .int .i64 qf, .int .i64 qg, .int .i64 qd] 104)
      have hb7 := hb6.alloc hb6.size (.cells #[.int .i64 i, .string cl, .string su, .string scp, .int .i64 ge, .int .i64 ma, .int .i64 us, .string re, .bool de] 79)
      refine show_end hb7 ((n1.alloc _).alloc _) rfl ?_ rfl ?_
      · rw [HQ.out]; rfl
      · rw [HQ.out]; rfl
    · clear hz z0 z1 z2 z3 z4 z5 z6 z7 z8 HF2 HB1 hn0 hn1
      have H1N := Lib.hid h1
      go_wp2_with fail
      generalize (w1.alloc (.cells #[.int .i64 qk, .int .i64 qf, .int .i64 qg, .int .i64 qd] 104)).alloc (.cells #[.int .i64 i, .string cl, .string su, .string scp, .int .i64 ge, .int .i64 ma, .int .i64 us, .string re, .bool de] 79) = w3 at *
      have HSD := Lib.hid H3.out.drew
      have HTD := Lib.hid HT3.out.drew
      have HGD := Lib.hid HG3.out.drew
      have HFD := Lib.hid HF3.out.drew
      have HBD := Lib.hid (below_dr HB3.out)
      clear H3 HT3 HG3 HF3 HB3
      have HD : w3.drew.cell? ⟨vb, 0, none⟩ = some (.pointer (some ⟨sb, 0, none⟩)) ∧ w3.drew.cell? ⟨w1.heap.size, 3, none⟩ = some (.int .i64 qd) := ⟨HSD.out.five.1, HTD.out.cell 3⟩
      go_region_held3 (fun w' => w'.cell? ⟨vb, 0, none⟩ = some (.pointer (some ⟨sb, 0, none⟩)) ∧ w'.cell? ⟨w1.heap.size, 3, none⟩ = some (.int .i64 qd))
        (first
          | with_reducible assumption
          | with_reducible exact HD)
        (first
          | (go_at_call 39; (with_reducible refine (HST.out _ HSD.out).mono ?_); rintro x' w2 ⟨a4, ac4, rfl, hr4, hb⟩
             have HF4 := Lib.hid (HFD.out.below' hb)
             have HG4 := Lib.hid (HGD.out.below' hb)
             have HB4 := Lib.hid (below_2 HBD.out hb)
             have hx2 : w2.cell? ⟨vb, 0, none⟩ = some (.pointer (some ⟨sb, 0, none⟩)) ∧ w2.cell? ⟨w1.heap.size, 3, none⟩ = some (.int .i64 qd) := ⟨(HSD.out.keep hb).five.1, (HTD.out.below' hb).cell 3⟩
             have hsc := st_clock ck nx a4 L.length ac4
             clear hr4 hb))
      have hz := HF4.out.frozen
      obtain ⟨z0, z1, z2, z3, z4, z5, z6, z7, z8⟩ := fam_cells HF4.out
      by_cases h2 : qd < ck
      · have hq : showV 0 ⟨i, cl, su, scp, ge, ma, us, re, de⟩ qg qd ck = (Fam.zero, 10) := by unfold showV; rw [if_neg (by decide), if_neg (Int.not_lt.2 H1N.out), if_pos h2]
        have HQ := Lib.hid hq
        clear hq
        go_wp2_with fail
        obtain ⟨n1, n2⟩ := nine_sets (f0 := Fam.zero) HF4.out 0 ⟨#[]⟩ ⟨#[]⟩ ⟨#[]⟩ 0 0 0 ⟨#[]⟩ false
        refine show_end (HB4.out.grown n2 HB4.out.size (fun i hi => by cases hi; exact Nat.le_refl _)) n1 rfl ?_ rfl ?_
        · rw [HQ.out]; rfl
        · rw [HQ.out]; rfl
      · have hq : showV 0 ⟨i, cl, su, scp, ge, ma, us, re, de⟩ qg qd ck = (⟨i, cl, su, scp, ge, ma, us, re, de⟩, 0) := by unfold showV; rw [if_neg (by decide), if_neg (Int.not_lt.2 H1N.out), if_neg h2]
        have HQ := Lib.hid hq
        obtain ⟨y0, y1, y2, y3, y4, y5, y6, y7, y8⟩ := fam_cells HG4.out
        clear hq
        go_wp2_with fail
        obtain ⟨n1, n2⟩ := nine_sets (f0 := Fam.zero) HF4.out i cl su scp ge ma us re de
        refine show_end (HB4.out.grown n2 HB4.out.size (fun i hi => by cases hi; exact Nat.le_refl _)) n1 rfl ?_ rfl ?_
        · rw [HQ.out]; rfl
        · rw [HQ.out]
  · have e0 : errV le = .iface 35 (.int .i64 le) := errV_n hle
    have HE := Lib.hid e0
    rw [e0]
    have hq : showV le ⟨i, cl, su, scp, ge, ma, us, re, de⟩ qg qd ck = (Fam.zero, le) := by unfold showV; rw [if_pos hle]
    have HQ := Lib.hid hq
    clear e0 hq hle H3 HT3 HG3 HF3 HB3
    go_wp2_with fail
    obtain ⟨n1, n2⟩ := nine_sets (f0 := Fam.zero) HF2.out 0 ⟨#[]⟩ ⟨#[]⟩ ⟨#[]⟩ 0 0 0 ⟨#[]⟩ false
    have hb5 := HB1.out.grown n2 HB1.out.size (fun i hi => by cases hi; exact Nat.le_refl _)
    have hb6 := hb5.alloc hb5.size (.cells #[.int .i64 qk, .int .i64 qf, .int .i64 qg, .int .i64 qd] 104)
    have hb7 := hb6.alloc hb6.size (.cells #[.int .i64 i, .string cl, .string su, .string scp, .int .i64 ge, .int .i64 ma, .int .i64 us, .string re, .bool de] 79)
    refine show_end hb7 ((n1.alloc _).alloc _) rfl ?_ rfl ?_
    · rw [HQ.out]; exact HE.out.symm
    · rw [HQ.out]; rfl
end
end Go.Proofs.YtckohmhhcknmaaaGreatDoor
