/-
  A service: Rotate.
-/
import Derived.Test.YtckohmhhcknmaaaGreatDoorG21
import Derived.Test.YtckohmhhcknmaaaGreatDoorG10
import Derived.Test.YtckohmhhcknmaaaGreatDoorG08
import Derived.Test.YtckohmhhcknmaaaGreatDoorG12
namespace Go.Proofs.YtckohmhhcknmaaaGreatDoor
open Go.RowKit Go.Sort

theorem rotateP_eq (r : Ru) (s : St) (t request sc : ByteArray) : rotateP r s t request sc = if nameB request.data.toList = false then .say noneS 1 else rotateL r s ⟨liveE r s (tokOf r t) 1, (tokOf r t).2.2.2.1, 0, liveF s (tokOf r t)⟩ request sc := by
  unfold rotateP
  by_cases hn : nameB request.data.toList = false
  · rw [if_pos hn, if_pos hn]
  · rw [if_neg hn, if_neg hn]
    unfold rotateL
    rw [liveR_e]
    by_cases h : liveE r s (tokOf r t) 1 ≠ 0
    · rw [if_pos h, if_pos h]
    · rw [if_neg h, if_neg h]
      obtain ⟨h1, h2, h3, _⟩ := liveR_yes (r := r) (s := s) (t := t) (kind := 1) (by simpa using h)
      rw [h1, h3]
theorem texts_eq (a b : ByteArray) : (a.toList == b.toList) = decide (a.data.toList = b.data.toList) := by
  rw [ByteArray.toList_eq, ByteArray.toList_eq, Bool.eq_iff_iff]
  simp
theorem rotateL_0 (r : Ru) (s : St) (qg : Int) (f : Fam) (request sc : ByteArray) : rotateL r s ⟨0, qg, 0, f⟩ request sc = if f.gen < qg then .say noneS 2
        else if qg = f.gen - 1 ∧ request.data.toList = f.request.data.toList then .say (refreshS r f) 0
        else if qg < f.gen then .put (putEv (deadF f)) noneS 15
        else if scopeN sc.data.toList ≠ 0 then .say noneS (scopeN sc.data.toList)
        else if withB (leastL sc.data.toList) f.scope.data.toList = false then .say noneS 13
        else if f.gen = 1099511627776 then .say noneS 4
        else .put (putEv (turnF s f request sc)) (refreshS r (turnF s f request sc)) 0 := by
  unfold rotateL
  exact if_neg (fun h => h rfl)
theorem rotateL_e {r : Ru} {s : St} {qg le : Int} {f : Fam} {request sc : ByteArray} (h : le ≠ 0) : rotateL r s ⟨le, qg, 0, f⟩ request sc = .say noneS le := by
  unfold rotateL
  exact if_pos h
/-- how far a token's walk goes -/
theorem turn_ways (ge qg : Int) (a b : List UInt8) : ge < qg ∨ (¬ ge < qg ∧ qg = ge - 1 ∧ a = b) ∨ (¬ ge < qg ∧ qg = ge - 1 ∧ a ≠ b) ∨ (¬ ge < qg ∧ qg ≠ ge - 1 ∧ qg < ge) ∨ qg = ge := by
  by_cases h1 : ge < qg
  · exact .inl h1
  · by_cases h2 : qg = ge - 1
    · by_cases h3 : a = b
      · exact .inr (.inl ⟨h1, h2, h3⟩)
      · exact .inr (.inr (.inl ⟨h1, h2, h3⟩))
    · by_cases h3 : qg < ge
      · exact .inr (.inr (.inr (.inl ⟨h1, h2, h3⟩)))
      · exact .inr (.inr (.inr (.inr (by omega))))
section
variable {B vb sb db k : Nat} {r : Ru} {z : SS} {v : Value} {W : World}
set_option maxHeartbeats 4000000 in
set_option maxRecDepth 100000 in
theorem svc_rotate (h : SW B vb sb db k r z v W) (hk : k < 1000000) (t request sc : ByteArray) (ht : t.size ≤ 1000) (h2 : request.size ≤ 1000) (h3 : sc.size ≤ 1000) :
    Calls Tryz.prog 11 #[.pointer (some ⟨vb, 0, none⟩), .string t, .string request, .string sc] W (PlanS W B vb sb db k r z (rotateP r z.s t request sc)) := by
  have HN1 := Lib.hid (fun w => ev_name request w h2)
  have HLS := Lib.hid (fun w hm => scope_least_any sc w h3 hm)
  have HST := Lib.hid (fun w (h : SW B vb sb db k r z v w) => (sx_state h.sx).mono fun _ _ h => got_as h)
  have HL := Lib.hid (fun w (h : SW B vb sb db k r z v w) => svc_live h t 1 ht)
  rw [rotateP_eq]
  have hfit := h.sx.fit
  have hmem : liveE r z.s (tokOf r t) 1 = 0 → famB (liveF z.s (tokOf r t)) = true := fun hh => hfit.fams _ (liveR_yes hh).2.2.2.1
  have hck := hfit.clock
  have HPT := Lib.hid (fun w f (hf : f.short 1000) (h : SW B vb sb db k r z v w) => svc_put h hk f hf)
  have HRF := Lib.hid (fun w z' v' k f hi hg (h : SW B vb sb db k r z' v' w) => svc_refresh h f hi hg)
  have H := Lib.hid h
  unfold LiveGot v4 at HL
  unfold GotAs at HST
  clear h hfit
  rcases hn1 : nameB request.data.toList with _ | _
  · rw [if_pos rfl]
    rw [hn1] at HN1
    go_enter Tryz.func11, Tryz.ntmps11
    go_wp2_with fail
    go_at_call 12
    refine (HN1.out _).mono ?_
    rintro e w1 ⟨rfl, hb⟩
    have H1 := Lib.hid (H.out.keep hb)
    have HB1 := Lib.hid hb
    clear hb
    go_wp2_with fail
    go_ret2
    exact PlanS.say H1.out HB1.out _ (errV_n (by decide)).symm
  · rw [if_neg (by decide)]
    have HNN := Lib.hid hn1
    rw [hn1] at HN1
    clear hn1
    generalize liveE r z.s (tokOf r t) 1 = le at *
    generalize liveF z.s (tokOf r t) = f at *
    generalize tokOf r t = q at *
    obtain ⟨qe, qk, qf, qg, qd⟩ := q
    dsimp only at HL
    dsimp only
    go_enter Tryz.func11, Tryz.ntmps11
    go_wp2_with fail
    go_at_call 12
    refine (HN1.out _).mono ?_
    rintro e w1 ⟨rfl, hb⟩
    have H1 := Lib.hid (H.out.keep hb)
    have HB1 := Lib.hid hb
    clear hb HN1 H
    go_wp2_with fail
    go_at_call 44
    refine (HL.out _ H1.out).mono ?_
    rintro e w2 ⟨rfl, hb⟩
    have H2 := Lib.hid (H1.out.keep hb)
    have HB2 := Lib.hid (below_2 HB1.out hb)
    clear hb HL H1 HB1
    by_cases hle : le = 0
    · subst hle
      have e0 : errV 0 = .nilIface := errV_0
      rw [e0]
      clear e0
      have hfb := hmem rfl
      clear hmem
      have p2 := (famB_parts hfb).2.1
      have p1 := (famB_parts hfb).1
      obtain ⟨g0, g1⟩ := okN_iff.1 p2
      have HFB := Lib.hid hfb
      have HP2 := Lib.hid p2
      have HP1 := Lib.hid p1
      clear hfb p2 p1
      obtain ⟨i, cl, su, scp, ge, ma, us, re, de⟩ := f
      unfold famVal famCs
      dsimp only at *
      have hts := texts_eq request re
      rcases turn_ways ge qg request.data.toList re.data.toList with h1 | ⟨h1, h4, h5⟩ | ⟨h1, h4, h5⟩ | ⟨h1, h4, h5⟩ | h1
      · have hp : rotateL r z.s ⟨0, qg, 0, ⟨i, cl, su, scp, ge, ma, us, re, de⟩⟩ request sc = _ := (rotateL_0 r z.s qg ⟨i, cl, su, scp, ge, ma, us, re, de⟩ request sc).trans (if_pos h1)
        have HP := Lib.hid hp
        clear hp
        clear hts
        have hal := alloc2 w2 (.cells #[.int .i64 qk, .int .i64 qf, .int .i64 qg, .int .i64 qd] 104) (.cells #[.int .i64 i, .string cl, .string su, .string scp, .int .i64 ge, .int .i64 ma, .int .i64 us, .string re, .bool de] 79)
        have H3 := Lib.hid (H2.out.keep hal)
        have HB3 := Lib.hid (below_2 HB2.out hal)
        clear hal
        go_wp2_with fail
        go_ret2
        rw [HP.out]
        exact PlanS.say H3.out HB3.out _ (errV_n (by decide)).symm
      · have hp : rotateL r z.s ⟨0, qg, 0, ⟨i, cl, su, scp, ge, ma, us, re, de⟩⟩ request sc = _ := (rotateL_0 r z.s qg ⟨i, cl, su, scp, ge, ma, us, re, de⟩ request sc).trans ((if_neg h1).trans (if_pos ⟨h4, h5⟩))
        have HP := Lib.hid hp
        clear hp
        rw [decide_eq_true h5] at hts
        subst h4
        have hal := alloc2 w2 (.cells #[.int .i64 qk, .int .i64 qf, .int .i64 (ge - 1), .int .i64 qd] 104) (.cells #[.int .i64 i, .string cl, .string su, .string scp, .int .i64 ge, .int .i64 ma, .int .i64 us, .string re, .bool de] 79)
        have H3 := Lib.hid (H2.out.keep hal)
        have HB3 := Lib.hid (below_2 HB2.out hal)
        have HRF2 := Lib.hid (fun w h => HRF.out w z v k ⟨i, cl, su, scp, ge, ma, us, re, de⟩ HP1.out HP2.out h)
        unfold famVal famCs at HRF2
        dsimp only at HRF2
        generalize refreshS r ⟨i, cl, su, scp, ge, ma, us, re, de⟩ = X at *
        clear hal h5 HRF HPT
        go_wp2_with fail
        go_at_call 41
        refine (HRF2.out _ H3.out).mono ?_
        rintro e w4 ⟨rfl, hb⟩
        have H4 := Lib.hid (H3.out.keep hb)
        have HB4 := Lib.hid (below_2 HB3.out hb)
        clear hb H3 HB3
        go_wp2_with fail
        go_ret2
        rw [HP.out]
        exact PlanS.say H4.out HB4.out _ errV_0.symm
      · have hp : rotateL r z.s ⟨0, qg, 0, ⟨i, cl, su, scp, ge, ma, us, re, de⟩⟩ request sc = _ := (rotateL_0 r z.s qg ⟨i, cl, su, scp, ge, ma, us, re, de⟩ request sc).trans ((if_neg h1).trans ((if_neg (fun h => h5 h.2)).trans (if_pos (show qg < ge by omega))))
        have HP := Lib.hid hp
        clear hp
        rw [decide_eq_false h5] at hts
        subst h4
        clear h5
        have hal := alloc2 w2 (.cells #[.int .i64 qk, .int .i64 qf, .int .i64 (ge - 1), .int .i64 qd] 104) (.cells #[.int .i64 i, .string cl, .string su, .string scp, .int .i64 ge, .int .i64 ma, .int .i64 us, .string re, .bool true] 79)
        have H3 := Lib.hid (H2.out.keep hal)
        have HB3 := Lib.hid (below_2 HB2.out hal)
        have hsh : Fam.short ⟨i, cl, su, scp, ge, ma, us, re, true⟩ 1000 := fam_short (f := ⟨i, cl, su, scp, ge, ma, us, re, de⟩) HFB.out
        have HPT2 := Lib.hid (fun w h => HPT.out w _ hsh h)
        generalize hQ : addS z (putEv (deadF ⟨i, cl, su, scp, ge, ma, us, re, de⟩)) = Q at *
        have hQ2 : addS z (putEv ⟨i, cl, su, scp, ge, ma, us, re, true⟩) = Q := hQ
        rw [hQ2] at HPT2
        have HQ := Lib.hid hQ
        generalize putEv (deadF ⟨i, cl, su, scp, ge, ma, us, re, de⟩) = FE at *
        unfold famVal famCs at HPT2
        dsimp only at HPT2
        clear hal hsh hQ hQ2 H2 HB2 HFB HPT HRF HST HLS
        go_wp2_with fail
        go_at_call 40
        refine (HPT2.out _ H3.out).mono ?_
        rintro e w6 ⟨rfl, htw, v6, h6⟩
        have H6 := Lib.hid h6
        have HT6 := Lib.hid ((Two.of_below HB3.out).trans htw)
        clear htw h6 H3 HB3 HPT2
        by_cases hq : Q.2 = 0
        · have e0 : errV Q.2 = .nilIface := by rw [hq]; exact errV_0
          rw [e0]
          have HQ0 := Lib.hid hq
          clear e0 hq
          go_wp2_with fail
          go_ret2
          rw [HP.out]
          exact PlanS.good (by rw [HQ.out]; exact HQ0.out) HT6.out (by rw [HQ.out]; exact H6.out) _ (errV_n (by decide)).symm
        · have e0 : errV Q.2 = .iface 35 (.int .i64 Q.2) := errV_n hq
          have HE0 := Lib.hid e0
          rw [e0]
          have HQ0 := Lib.hid hq
          clear e0 hq
          go_wp2_with fail
          go_ret2
          rw [← HE0.out, ← HQ.out]
          rw [HP.out]
          exact PlanS.bad (by rw [HQ.out]; exact HQ0.out) HT6.out (by rw [HQ.out]; exact H6.out)
      · have hp : rotateL r z.s ⟨0, qg, 0, ⟨i, cl, su, scp, ge, ma, us, re, de⟩⟩ request sc = _ := (rotateL_0 r z.s qg ⟨i, cl, su, scp, ge, ma, us, re, de⟩ request sc).trans ((if_neg h1).trans ((if_neg (fun h => h4 h.1)).trans (if_pos h5)))
        have HP := Lib.hid hp
        clear hp
        clear hts
        have hal := alloc2 w2 (.cells #[.int .i64 qk, .int .i64 qf, .int .i64 qg, .int .i64 qd] 104) (.cells #[.int .i64 i, .string cl, .string su, .string scp, .int .i64 ge, .int .i64 ma, .int .i64 us, .string re, .bool true] 79)
        have H3 := Lib.hid (H2.out.keep hal)
        have HB3 := Lib.hid (below_2 HB2.out hal)
        have hsh : Fam.short ⟨i, cl, su, scp, ge, ma, us, re, true⟩ 1000 := fam_short (f := ⟨i, cl, su, scp, ge, ma, us, re, de⟩) HFB.out
        have HPT2 := Lib.hid (fun w h => HPT.out w _ hsh h)
        generalize hQ : addS z (putEv (deadF ⟨i, cl, su, scp, ge, ma, us, re, de⟩)) = Q at *
        have hQ2 : addS z (putEv ⟨i, cl, su, scp, ge, ma, us, re, true⟩) = Q := hQ
        rw [hQ2] at HPT2
        have HQ := Lib.hid hQ
        generalize putEv (deadF ⟨i, cl, su, scp, ge, ma, us, re, de⟩) = FE at *
        unfold famVal famCs at HPT2
        dsimp only at HPT2
        clear hal hsh hQ hQ2 H2 HB2 HFB HPT HRF HST HLS
        go_wp2_with fail
        go_at_call 40
        refine (HPT2.out _ H3.out).mono ?_
        rintro e w6 ⟨rfl, htw, v6, h6⟩
        have H6 := Lib.hid h6
        have HT6 := Lib.hid ((Two.of_below HB3.out).trans htw)
        clear htw h6 H3 HB3 HPT2
        by_cases hq : Q.2 = 0
        · have e0 : errV Q.2 = .nilIface := by rw [hq]; exact errV_0
          rw [e0]
          have HQ0 := Lib.hid hq
          clear e0 hq
          go_wp2_with fail
          go_ret2
          rw [HP.out]
          exact PlanS.good (by rw [HQ.out]; exact HQ0.out) HT6.out (by rw [HQ.out]; exact H6.out) _ (errV_n (by decide)).symm
        · have e0 : errV Q.2 = .iface 35 (.int .i64 Q.2) := errV_n hq
          have HE0 := Lib.hid e0
          rw [e0]
          have HQ0 := Lib.hid hq
          clear e0 hq
          go_wp2_with fail
          go_ret2
          rw [← HE0.out, ← HQ.out]
          rw [HP.out]
          exact PlanS.bad (by rw [HQ.out]; exact HQ0.out) HT6.out (by rw [HQ.out]; exact H6.out)
      · subst h1
        have n1 : ¬ qg < qg := by omega
        have n2 : ¬ (qg = qg - 1 ∧ request.data.toList = re.data.toList) := fun h => by have := h.1; omega
        have hp : rotateL r z.s ⟨0, qg, 0, ⟨i, cl, su, scp, qg, ma, us, re, de⟩⟩ request sc = _ := (rotateL_0 r z.s qg ⟨i, cl, su, scp, qg, ma, us, re, de⟩ request sc).trans ((if_neg n1).trans ((if_neg n2).trans (if_neg n1)))
        have HP := Lib.hid hp
        clear hp
        have h4 : qg ≠ qg - 1 := by omega
        clear hts n1 n2
        have hal := alloc2 w2 (.cells #[.int .i64 qk, .int .i64 qf, .int .i64 qg, .int .i64 qd] 104) (.cells #[.int .i64 i, .string cl, .string su, .string scp, .int .i64 qg, .int .i64 ma, .int .i64 us, .string re, .bool de] 79)
        have H3 := Lib.hid (H2.out.keep hal)
        have HB3 := Lib.hid (below_2 HB2.out hal)
        have hg : Blk ((w2.alloc (.cells #[.int .i64 qk, .int .i64 qf, .int .i64 qg, .int .i64 qd] 104)).alloc (.cells #[.int .i64 i, .string cl, .string su, .string scp, .int .i64 qg, .int .i64 ma, .int .i64 us, .string re, .bool de] 79)) (w2.heap.size + 1) 79 (famCs ⟨i, cl, su, scp, qg, ma, us, re, de⟩) := by
          have := Blk.new (w2.alloc (.cells #[.int .i64 qk, .int .i64 qf, .int .i64 qg, .int .i64 qd] 104)) 79 (famCs ⟨i, cl, su, scp, qg, ma, us, re, de⟩)
          rw [show (w2.alloc (.cells #[.int .i64 qk, .int .i64 qf, .int .i64 qg, .int .i64 qd] 104)).heap.size = w2.heap.size + 1 by simp] at this
          exact this
        have HG3 := Lib.hid hg
        have HD3 := Lib.hid hal
        clear hal hg
        go_wp2_with fail
        go_at_call 38
        refine (HLS.out _ H3.out.tm.2.1).mono ?_
        rintro e w3 ⟨rfl, hb⟩
        have H4 := Lib.hid (H3.out.keep hb)
        have HB4 := Lib.hid (below_2 HB3.out hb)
        have HG4 := Lib.hid (HG3.out.below' hb)
        have HD4 := Lib.hid (below_2 HD3.out hb)
        clear hb HLS H3 HB3 HG3 HD3
        by_cases hsn : scopeN sc.data.toList = 0
        · have e0 : errV (scopeN sc.data.toList) = .nilIface := by rw [hsn]; exact errV_0
          rw [e0]
          have hp := HP.out.trans (if_neg (fun h => h hsn))
          have HSN := Lib.hid hsn
          clear e0 hsn HP
          have HP := Lib.hid hp
          clear hp
          have hsb := fam_short HFB.out
          have HWI := Lib.hid (fun w (h : SW B vb sb db k r z v w) => scope_within (txt (leastL sc.data.toList)) scp w (by rw [txt_size_]; have := leastL_len sc.data.toList; omega) hsb.2.2.1 h.tm.2.1)
          obtain ⟨y0, y1, y2, y3, y4, y5, y6, y7, y8⟩ := fam_cells HG4.out
          have hgz := HG4.out.frozen
          clear hsb
          go_wp2_with fail
          go_at_call 45
          refine (HWI.out _ H4.out).mono ?_
          rintro e w4 ⟨rfl, hb⟩
          have H5 := Lib.hid (H4.out.keep hb)
          have HB5 := Lib.hid (below_2 HB4.out hb)
          have HG5 := Lib.hid (HG4.out.below' hb)
          have HD5 := Lib.hid (below_2 HD4.out hb)
          clear hb H4 HB4 HG4 HD4 HWI y0 y1 y2 y3 y4 y5 y6 y7 y8 hgz
          have etl : (txt (leastL sc.data.toList)).data.toList = leastL sc.data.toList := rfl
          rw [etl]
          clear etl
          rcases hwb : withB (leastL sc.data.toList) scp.data.toList with _ | _
          · have hp := HP.out.trans (if_pos hwb)
            clear HP
            have HP := Lib.hid hp
            clear hp hwb
            go_wp2_with fail
            go_ret2
            rw [HP.out]
            exact PlanS.say H5.out HB5.out _ (errV_n (by decide)).symm
          · have hp := HP.out.trans (if_neg (show ¬ withB (leastL sc.data.toList) scp.data.toList = false by rw [hwb]; decide))
            clear HP
            obtain ⟨y0, y1, y2, y3, y4, y5, y6, y7, y8⟩ := fam_cells HG5.out
            have hgz := HG5.out.frozen
            by_cases hmx : qg = 1099511627776
            · have HP := Lib.hid (hp.trans (if_pos hmx))
              clear hp hwb
              subst hmx
              go_wp2_with fail
              go_ret2
              rw [HP.out]
              exact PlanS.say H5.out HB5.out _ (errV_n (by decide)).symm
            · have HP := Lib.hid (hp.trans (if_neg hmx))
              clear hp hwb
              have hd6 := HD5.out.setCell (p := ⟨w2.heap.size + 1, 4, none⟩) (Nat.le_succ _) (.int .i64 (qg + 1))
              have HD6 := Lib.hid hd6
              have H6 := Lib.hid (H2.out.keep hd6)
              have HG6 := Lib.hid (HG5.out.put_ 4 (.int .i64 (qg + 1)) (cs' := famCs ⟨i, cl, su, scp, qg + 1, ma, us, re, de⟩) rfl)
              have HBW := Lib.hid (fun w (h : Below w2.heap.size w2 w) => below_2 HB2.out h)
              obtain ⟨c0, c1, c2, c3, c4, hlt⟩ := H5.out.five
              have hq1 : qg + 1 ≤ 1099511627776 := by omega
              clear hd6
              go_wp2_with fail
              go_at_call 39
              refine (HST.out _ H6.out).mono ?_
              rintro e w5 ⟨a5, ac5, rfl, hr5, hb⟩
              have HD7 := Lib.hid (below_2 HD6.out hb)
              have HG7 := Lib.hid (HG6.out.below' hb)
              have hsc := st_clock z.s.clock z.s.next a5 z.s.fams.length ac5
              clear hr5 hb HD6 H6 HG6 HD5 HG5 H5 HB5 y0 y1 y2 y3 y4 y5 y6 y7 y8 hgz c0 c1 c2 c3 c4 hlt
              obtain ⟨y0, y1, y2, y3, y4, y5, y6, y7, y8⟩ := fam_cells HG7.out
              have hgz := HG7.out.frozen
              obtain ⟨c0, c1, c2, c3, c4, hlt⟩ := (H2.out.keep HD7.out).five
              have hd8 := ((HD7.out.setCell (p := ⟨w2.heap.size + 1, 3, none⟩) (Nat.le_succ _) (.string (txt (leastL sc.data.toList)))).setCell (p := ⟨w2.heap.size + 1, 7, none⟩) (Nat.le_succ _) (.string request)).setCell (p := ⟨w2.heap.size + 1, 6, none⟩) (Nat.le_succ _) (.int .i64 z.s.clock)
              have H8 := Lib.hid (H2.out.keep hd8)
              have HB8 := Lib.hid (HBW.out _ hd8)
              have k3 := HG7.out.put_ 3 (.string (txt (leastL sc.data.toList))) (cs' := famCs ⟨i, cl, su, txt (leastL sc.data.toList), qg + 1, ma, us, re, de⟩) rfl
              have k7 := k3.put_ 7 (.string request) (cs' := famCs ⟨i, cl, su, txt (leastL sc.data.toList), qg + 1, ma, us, request, de⟩) rfl
              have HG8 := Lib.hid (k7.put_ 6 (.int .i64 z.s.clock) (cs' := famCs ⟨i, cl, su, txt (leastL sc.data.toList), qg + 1, ma, z.s.clock, request, de⟩) rfl)
              have hs0 : Fam.short ⟨i, cl, su, scp, qg, ma, us, re, de⟩ 1000 := fam_short HFB.out
              have hlst := leastL_len sc.data.toList
              have hrq := nameB_len HNN.out
              have hsh : Fam.short ⟨i, cl, su, txt (leastL sc.data.toList), qg + 1, ma, z.s.clock, request, de⟩ 1000 := by
                unfold Fam.short at hs0 ⊢
                dsimp only at hs0 ⊢
                rw [txt_size_]
                have e1 : request.size = request.data.toList.length := (size_data request).symm
                exact ⟨hs0.1, hs0.2.1, by omega, by omega⟩
              have HPT2 := Lib.hid (fun w h => HPT.out w _ hsh h)
              have HRF2 := Lib.hid (fun w z' v' k (h : SW B vb sb db k r z' v' w) => HRF.out w z' v' k ⟨i, cl, su, txt (leastL sc.data.toList), qg + 1, ma, z.s.clock, request, de⟩ HP1.out (okN_iff.2 ⟨show 0 ≤ qg + 1 by omega, hq1⟩) h)
              generalize hQ : addS z (putEv (turnF z.s ⟨i, cl, su, scp, qg, ma, us, re, de⟩ request sc)) = Q at *
              have hQ2 : addS z (putEv ⟨i, cl, su, txt (leastL sc.data.toList), qg + 1, ma, z.s.clock, request, de⟩) = Q := hQ
              rw [hQ2] at HPT2
              have HQ := Lib.hid hQ
              generalize hX : refreshS r (turnF z.s ⟨i, cl, su, scp, qg, ma, us, re, de⟩ request sc) = X at *
              have hX2 : refreshS r ⟨i, cl, su, txt (leastL sc.data.toList), qg + 1, ma, z.s.clock, request, de⟩ = X := hX
              rw [hX2] at HRF2
              generalize putEv (turnF z.s ⟨i, cl, su, scp, qg, ma, us, re, de⟩ request sc) = FE at *
              unfold famVal famCs at HPT2 HRF2
              dsimp only at HPT2 HRF2
              clear hd8 k3 k7 hs0 hlst hrq hsh hQ hQ2 hX hX2 HPT HRF HD7 HG7 HBW H2 HB2 HST HFB HP1 HP2 HNN
              go_wp2_with fail
              go_at_call 40
              refine (HPT2.out _ H8.out).mono ?_
              rintro e w6 ⟨rfl, htw, v6, h6⟩
              have H9 := Lib.hid h6
              have HT9 := Lib.hid ((Two.of_below HB8.out).trans htw)
              have HF9 := Lib.hid (HG8.out.two htw (H8.out.sx.apart HG8.out (by decide) (by decide)).1 (H8.out.sx.apart HG8.out (by decide) (by decide)).2)
              clear htw h6 HG8 H8 HB8 HPT2
              by_cases hq : Q.2 = 0
              · have e0 : errV Q.2 = .nilIface := by rw [hq]; exact errV_0
                rw [e0]
                have HQ0 := Lib.hid hq
                clear e0 hq y0 y1 y2 y3 y4 y5 y6 y7 y8 hgz c0 c1 c2 c3 c4 hlt
                obtain ⟨f0, f1, f2, f3, f4, f5, f6, f7, f8⟩ := fam_cells HF9.out
                go_wp2_with fail
                go_at_call 41
                refine (HRF2.out _ _ _ _ H9.out).mono ?_
                rintro e w7 ⟨rfl, hb⟩
                have H10 := Lib.hid (H9.out.keep hb)
                have HT10 := Lib.hid (HT9.out.trans (Two.of_below hb))
                clear hb H9 HT9 f0 f1 f2 f3 f4 f5 f6 f7 f8 HF9
                go_wp2_with fail
                go_ret2
                rw [HP.out]
                exact PlanS.good (by rw [HQ.out]; exact HQ0.out) HT10.out (by rw [HQ.out]; exact H10.out) _ errV_0.symm
              · have e0 : errV Q.2 = .iface 35 (.int .i64 Q.2) := errV_n hq
                have HE0 := Lib.hid e0
                rw [e0]
                have HQ0 := Lib.hid hq
                clear e0 hq y0 y1 y2 y3 y4 y5 y6 y7 y8 hgz c0 c1 c2 c3 c4 hlt
                go_wp2_with fail
                go_ret2
                rw [HP.out, ← HE0.out, ← HQ.out]
                exact PlanS.bad (by rw [HQ.out]; exact HQ0.out) HT9.out (by rw [HQ.out]; exact H9.out)
        · have e0 : errV (scopeN sc.data.toList) = .iface 35 (.int .i64 (scopeN sc.data.toList)) := errV_n hsn
          have HE0 := Lib.hid e0
          rw [e0]
          have hp := HP.out.trans (if_pos hsn)
          clear e0 hsn HP
          have HP := Lib.hid hp
          clear hp
          go_wp2_with fail
          go_ret2
          rw [HP.out]
          exact PlanS.say H4.out HB4.out _ HE0.out.symm
    · have e0 : errV le = .iface 35 (.int .i64 le) := errV_n hle
      have HE := Lib.hid e0
      rw [e0]
      have HP := Lib.hid (rotateL_e (r := r) (s := z.s) (qg := qg) (f := f) (request := request) (sc := sc) hle)
      obtain ⟨i, cl, su, scp, ge, ma, us, re, de⟩ := f
      unfold famVal famCs
      dsimp only at *
      have hal := alloc2 w2 (.cells #[.int .i64 qk, .int .i64 qf, .int .i64 qg, .int .i64 qd] 104) (.cells #[.int .i64 i, .string cl, .string su, .string scp, .int .i64 ge, .int .i64 ma, .int .i64 us, .string re, .bool de] 79)
      have H3 := Lib.hid (H2.out.keep hal)
      have HB3 := Lib.hid (below_2 HB2.out hal)
      clear e0 hle hal hmem
      go_wp2_with fail
      go_ret2
      rw [HP.out]
      exact PlanS.say H3.out HB3.out _ HE.out.symm
end
end Go.Proofs.YtckohmhhcknmaaaGreatDoor

/-
  A service: Sweep.
-/
namespace Go.Proofs.YtckohmhhcknmaaaGreatDoor
open Go.RowKit Go.Sort

def PlanI (W : World) (B vb sb db k : Nat) (r : Ru) (z : SS) (p : Plan Int) (e : Ending) (w' : World) : Prop :=
  e = .returned (.tuple #[.int .i64 (doPlan 0 z p).2.1, errV (doPlan 0 z p).2.2]) ∧ Two sb db W w' ∧ ∃ v', SW B vb sb db (k + 1) r (doPlan 0 z p).1 v' w'
theorem PlanI.say {W w : World} {B vb sb db k : Nat} {r : Ru} {z : SS} {v : Value} {t : Int} {c : Int} (h : SW B vb sb db k r z v w) (hb : Below W.heap.size W w) (u : Value) (hu : u = errV c) : PlanI W B vb sb db k r z (.say t c) (.returned (.tuple #[.int .i64 t, u])) w :=
  ⟨by rw [hu]; rfl, Two.of_below hb, v, h.later⟩
theorem PlanI.bad {W w : World} {B vb sb db k : Nat} {r : Ru} {z : SS} {v' : Value} {ev : Ev} {t : Int} {c : Int} (hc : (addS z ev).2 ≠ 0) (ht : Two sb db W w) (h : SW B vb sb db (k + 1) r (addS z ev).1 v' w) : PlanI W B vb sb db k r z (.put ev t c) (.returned (.tuple #[.int .i64 0, errV (addS z ev).2])) w := by
  have e : doPlan 0 z (.put ev t c) = ((addS z ev).1, 0, (addS z ev).2) := if_neg hc
  unfold PlanI
  rw [e]
  exact ⟨rfl, ht, v', h⟩
theorem PlanI.good {W w : World} {B vb sb db k : Nat} {r : Ru} {z : SS} {v' : Value} {ev : Ev} {t : Int} {c : Int} (hc : (addS z ev).2 = 0) (ht : Two sb db W w) (h : SW B vb sb db (k + 1) r (addS z ev).1 v' w) (u : Value) (hu : u = errV c) : PlanI W B vb sb db k r z (.put ev t c) (.returned (.tuple #[.int .i64 t, u])) w := by
  have e : doPlan 0 z (.put ev t c) = ((addS z ev).1, t, c) := if_pos hc
  unfold PlanI
  rw [e, hu]
  exact ⟨rfl, ht, v', h⟩
theorem find_past {p : Fam → Bool} {L : List Fam} {k : Nat} (h : ∀ j f, j < k → L[j]? = some f → p f = false) : L.find? p = (L.drop k).find? p := by
  induction k generalizing L with
  | zero => rfl
  | succ k ih =>
    cases L with
    | nil => rfl
    | cons g L =>
      rw [List.find?_cons, h 0 g (Nat.succ_pos _) rfl, List.drop_succ_cons]
      exact ih fun j f hj hf => h (j + 1) f (Nat.succ_lt_succ hj) (by simpa using hf)
theorem find_at {p : Fam → Bool} {L : List Fam} {k : Nat} {f : Fam} (h : ∀ j f, j < k → L[j]? = some f → p f = false) (hf : L[k]? = some f) (hp : p f = true) : L.find? p = some f := by
  have hlt := (List.getElem?_eq_some_iff.1 hf).1
  rw [find_past h, List.drop_eq_getElem_cons hlt, List.find?_cons, (List.getElem?_eq_some_iff.1 hf).2, hp]
theorem find_end_none {p : Fam → Bool} {L : List Fam} (h : ∀ j f, j < L.length → L[j]? = some f → p f = false) : L.find? p = none := by
  rw [find_past h, List.drop_length]
  rfl
def SwRel (W : World) (B vb sb db k : Nat) (r : Ru) (z : SS) (v : Value) (cb : Nat) (a1 : Option Addr) (ac : Nat) (i : Value) (w : World) : Prop :=
  ∃ j : Nat, j ≤ z.s.fams.length ∧ i = .int .i64 j ∧ Below W.heap.size W w ∧ SW B vb sb db k r z v w ∧ FRow w W.heap.size (.slice a1 z.s.fams.length ac) z.s.fams ∧ w.cell? ⟨cb, 0, none⟩ = some (.int .i64 z.s.clock) ∧
    ∀ m f, m < j → z.s.fams[m]? = some f → (f.dead || oldB r z.s.clock f) = false
section
variable {B vb sb db k : Nat} {r : Ru} {z : SS} {v : Value} {W : World}
set_option maxHeartbeats 4000000 in
set_option maxRecDepth 100000 in
theorem svc_sweep (h : SW B vb sb db k r z v W) (hk : k < 1000000) :
    Calls Tryz.prog 32 #[.pointer (some ⟨vb, 0, none⟩)] W (PlanI W B vb sb db k r z (sweepP r z.s)) := by
  have HST := Lib.hid (fun w (h : SW B vb sb db k r z v w) => (sx_state h.sx).mono fun _ _ h => got_as h)
  have hfit := h.sx.fit
  have hru := ruB_parts h.right
  have hlen := hfit.len
  have HA : Hid (∀ w id, SX B sb db k z v w → Calls Tryz.prog 42 #[.pointer (some ⟨sb, 0, none⟩), evVal (dropEv id)] w (DoneX w B sb db k (addS z (dropEv id)))) := Lib.hid fun w id h => sx_add h hk _ (by show Fam.zero.short 1000; unfold Fam.short Fam.zero; dsimp only; refine ⟨by decide, by decide, by decide, by decide⟩)
  obtain ⟨c0, c1, c2, c3, c4, hlt⟩ := h.five
  have H := Lib.hid h
  clear h
  go_enter Tryz.func32, Tryz.ntmps32
  go_wp2_with fail
  go_at_call 39
  refine (HST.out _ H.out).mono ?_
  rintro e w1 ⟨a1, ac, rfl, hr, hb⟩
  have H1 := Lib.hid (H.out.keep hb)
  have HB1 := Lib.hid hb
  have HR1 := Lib.hid hr
  clear hr hb c0 c1 c2 c3 c4 hlt H HST
  have hal := (Below.refl w1.heap.size w1).alloc (Nat.le_refl _) (.cells #[.int .i64 z.s.clock, .int .i64 z.s.next, .slice a1 z.s.fams.length ac] 39)
  have H2 := Lib.hid (H1.out.keep hal)
  have HB2 := Lib.hid (below_2 HB1.out hal)
  have HR2 := Lib.hid (HR1.out.below hal)
  have HC2 := Lib.hid ((Blk.new w1 39 #[.int .i64 z.s.clock, .int .i64 z.s.next, .slice a1 z.s.fams.length ac]).cell 0)
  have HSZ := Lib.hid HB1.out.size
  clear hal HB1 H1 HR1
  go_wp2_with fail
  generalize w1.alloc (.cells #[.int .i64 z.s.clock, .int .i64 z.s.next, .slice a1 z.s.fams.length ac] 39) = w2 at *
  generalize w1.heap.size = cb at *
  go_loopw [16] (fun i wr => SwRel W B vb sb db k r z v cb a1 ac i wr) (fun i _ => z.s.fams.length - (intOf i).toNat)
  case atStart => exact ⟨0, Nat.zero_le _, rfl, HB2.out, H2.out, HR2.out, HC2.out, fun j f hj => absurd hj (Nat.not_lt_zero _)⟩
  case round =>
    obtain ⟨j, hj, rfl, hb, hs, hr, hc, hno⟩ := hrel
    have HB := Lib.hid hb
    have HS := Lib.hid hs
    have HR3 := Lib.hid hr
    have HNO := Lib.hid hno
    have HCK := Lib.hid hc
    clear hb hs hr hc hno HR2 HC2 H2 HB2
    by_cases hlt : j < z.s.fams.length
    · obtain ⟨g, rfl, _, ra⟩ := HR3.out.lit hlt
      obtain ⟨f, hf⟩ : ∃ f, z.s.fams[j]? = some f := ⟨_, List.getElem?_eq_getElem hlt⟩
      have HF := Lib.hid hf
      obtain ⟨_, _, gm, gu, _⟩ := famB_parts (hfit.fams f (List.mem_of_getElem? hf))
      have HADU := Lib.hid (fun w => svc_add f.used r.idle w (by have := okN_iff.1 gu; omega) (by have := okN_iff.1 hru.2.1; omega))
      have HADM := Lib.hid (fun w => svc_add f.made r.life w (by have := okN_iff.1 gm; omega) (by have := okN_iff.1 hru.2.2.1; omega))
      have hold : (f.dead || oldB r z.s.clock f) = (f.dead || (decide (capN f.used r.idle < z.s.clock) || decide (capN f.made r.life < z.s.clock))) := rfl
      have HOL := Lib.hid hold
      obtain ⟨i, cl, su, scp, ge, ma, us, re, de⟩ := f
      obtain ⟨e0, e1, e2, e3, e4, e5, e6, e7, e8⟩ := ra.nine hf
      dsimp only at HADU HADM HOL
      have h0 : (0 : Int) ≤ (j : Int) := by omega
      have h1 : (j : Int) < (z.s.fams.length : Int) := by omega
      clear hf ra gm gu hold
      go_wp2_with fail
      have hal := (Below.refl wr.heap.size wr).alloc (Nat.le_refl _) (.cells #[.int .i64 i, .string cl, .string su, .string scp, .int .i64 ge, .int .i64 ma, .int .i64 us, .string re, .bool de] 79)
      have hg := Blk.new wr 79 #[.int .i64 i, .string cl, .string su, .string scp, .int .i64 ge, .int .i64 ma, .int .i64 us, .string re, .bool de]
      have HG4 := Lib.hid hg
      have HS4 := Lib.hid (HS.out.keep hal)
      have HB4 := Lib.hid (below_2 HB.out hal)
      have HR4 := Lib.hid (HR3.out.below hal)
      have hcl := World.block_lt_of_cell? wr _ HCK.out
      have HC4 := Lib.hid ((hal.cell (p := ⟨cb, 0, none⟩) hcl).trans HCK.out)
      have HA2 : Hid (∀ w, SX B sb db k z v w → Calls Tryz.prog 42 #[.pointer (some ⟨sb, 0, none⟩), .agg #[.int .i64 2, .int .i64 0, .string ⟨#[]⟩, .string ⟨#[]⟩, .string ⟨#[]⟩, .int .i64 0, .int .i64 0, .int .i64 0, .string ⟨#[]⟩, .bool false, .int .i64 i, .int .i64 0]] w (DoneX w B sb db k (addS z (dropEv i)))) := Lib.hid fun w h => HA.out w i h
      clear hal hg hcl HB HS HR3 HCK HA e0 e1 e2 e3 e4 e5 e6 e7 e8
      generalize wr.alloc (.cells #[.int .i64 i, .string cl, .string su, .string scp, .int .i64 ge, .int .i64 ma, .int .i64 us, .string re, .bool de] 79) = w4 at *
      generalize wr.heap.size = fb at *
      obtain ⟨d0, d1, d2, d3, d4, d5, d6, d7, d8⟩ := fam_cells HG4.out
      obtain ⟨c0, c1, c2, c3, c4, hvb⟩ := HS4.out.five
      have hck := HC4.out
      cases de
      · by_cases hu : capN us r.idle < z.s.clock
        · have hu' : decide (capN us r.idle < z.s.clock) = true := decide_eq_true hu
          have hp : sweepP r z.s = .put (dropEv i) i 0 := by
            unfold sweepP sweepF
            rw [find_at HNO.out HF.out (by rw [HOL.out]; simp [hu])]
          have HP := Lib.hid hp
          generalize hQ : addS z (dropEv i) = Q at *
          have HQ := Lib.hid hQ
          clear hp hQ HNO HF HR4 HOL
          go_wp2_with fail
          go_quiet ((first
            | (go_at_call 43; exact Calls.quiet_of_same ((HADU.out _).mono fun _ _ h => ⟨h.1, h.2.symm⟩))
            | (go_at_call 43; exact Calls.quiet_of_same ((HADM.out _).mono fun _ _ h => ⟨h.1, h.2.symm⟩))))
          go_wp2_with fail
          have hbd : Below w4.heap.size w4 (w4.drewN nq).drew := below_dr (below_drewN (Below.refl w4.heap.size w4) nq)
          have HSD := Lib.hid (HS4.out.keep hbd)
          have HGD := Lib.hid (HG4.out.below' hbd)
          have HBD := Lib.hid (below_2 HB4.out hbd)
          clear hbd HS4 HG4 HB4 d0 d1 d2 d3 d4 d5 d6 d7 d8 c0 c1 c2 c3 c4 hvb HC4
          generalize w4.drewN nq = w5 at *
          have HD : w5.drew.cell? ⟨vb, 0, none⟩ = some (.pointer (some ⟨sb, 0, none⟩)) ∧ w5.drew.cell? ⟨fb, 0, none⟩ = some (.int .i64 i) := ⟨HSD.out.five.1, HGD.out.cell 0⟩
          go_region_held3 (fun w' => w'.cell? ⟨vb, 0, none⟩ = some (.pointer (some ⟨sb, 0, none⟩)) ∧ w'.cell? ⟨fb, 0, none⟩ = some (.int .i64 i))
            (first
              | with_reducible assumption
              | with_reducible exact HD)
            (first
              | (go_at_call 42; (with_reducible refine (HA2.out _ HSD.out.sx).mono ?_); rintro x' w6 ⟨rfl, htw, v2, hsx⟩
                 have hend : PutX W B vb sb db k r Q (.returned (errV Q.2)) w6 := ⟨rfl, (Two.of_below HBD.out).trans htw, v2, HSD.out.two htw hsx⟩
                 have hx2 : w6.cell? ⟨vb, 0, none⟩ = some (.pointer (some ⟨sb, 0, none⟩)) ∧ w6.cell? ⟨fb, 0, none⟩ = some (.int .i64 i) := ⟨(HSD.out.two htw hsx).five.1, (HGD.out.two htw (HSD.out.sx.apart HGD.out (by decide) (by decide)).1 (HSD.out.sx.apart HGD.out (by decide) (by decide)).2).cell 0⟩))
          obtain ⟨-, htw, v6, h6⟩ := hend
          have H6 := Lib.hid h6
          have HT6 := Lib.hid htw
          clear h6 htw
          by_cases hq : Q.2 = 0
          · have e0 : errV Q.2 = .nilIface := by rw [hq]; exact errV_0
            rw [e0]
            have HQ0 := Lib.hid hq
            clear e0 hq
            go_wp2_with fail
            go_ret2
            rw [HP.out]
            exact PlanI.good (by rw [HQ.out]; exact HQ0.out) HT6.out (by rw [HQ.out]; exact H6.out) _ errV_0.symm
          · have e0 : errV Q.2 = .iface 35 (.int .i64 Q.2) := errV_n hq
            have HE0 := Lib.hid e0
            rw [e0]
            have HQ0 := Lib.hid hq
            clear e0 hq
            go_wp2_with fail
            go_ret2
            rw [HP.out, ← HE0.out, ← HQ.out]
            exact PlanI.bad (by rw [HQ.out]; exact HQ0.out) HT6.out (by rw [HQ.out]; exact H6.out)
        · have hu' : decide (capN us r.idle < z.s.clock) = false := decide_eq_false hu
          by_cases hm : capN ma r.life < z.s.clock
          · have hm' : decide (capN ma r.life < z.s.clock) = true := decide_eq_true hm
            have hp : sweepP r z.s = .put (dropEv i) i 0 := by
              unfold sweepP sweepF
              rw [find_at HNO.out HF.out (by rw [HOL.out]; simp [hm])]
            have HP := Lib.hid hp
            generalize hQ : addS z (dropEv i) = Q at *
            have HQ := Lib.hid hQ
            clear hp hQ HNO HF HR4 HOL
            go_wp2_with fail
            go_quiet ((first
              | (go_at_call 43; exact Calls.quiet_of_same ((HADU.out _).mono fun _ _ h => ⟨h.1, h.2.symm⟩))
              | (go_at_call 43; exact Calls.quiet_of_same ((HADM.out _).mono fun _ _ h => ⟨h.1, h.2.symm⟩))))
            go_wp2_with fail
            have hbd : Below w4.heap.size w4 (w4.drewN nq).drew := below_dr (below_drewN (Below.refl w4.heap.size w4) nq)
            have HSD := Lib.hid (HS4.out.keep hbd)
            have HGD := Lib.hid (HG4.out.below' hbd)
            have HBD := Lib.hid (below_2 HB4.out hbd)
            clear hbd HS4 HG4 HB4 d0 d1 d2 d3 d4 d5 d6 d7 d8 c0 c1 c2 c3 c4 hvb HC4
            generalize w4.drewN nq = w5 at *
            have HD : w5.drew.cell? ⟨vb, 0, none⟩ = some (.pointer (some ⟨sb, 0, none⟩)) ∧ w5.drew.cell? ⟨fb, 0, none⟩ = some (.int .i64 i) := ⟨HSD.out.five.1, HGD.out.cell 0⟩
            go_region_held3 (fun w' => w'.cell? ⟨vb, 0, none⟩ = some (.pointer (some ⟨sb, 0, none⟩)) ∧ w'.cell? ⟨fb, 0, none⟩ = some (.int .i64 i))
              (first
                | with_reducible assumption
                | with_reducible exact HD)
              (first
                | (go_at_call 42; (with_reducible refine (HA2.out _ HSD.out.sx).mono ?_); rintro x' w6 ⟨rfl, htw, v2, hsx⟩
                   have hend : PutX W B vb sb db k r Q (.returned (errV Q.2)) w6 := ⟨rfl, (Two.of_below HBD.out).trans htw, v2, HSD.out.two htw hsx⟩
                   have hx2 : w6.cell? ⟨vb, 0, none⟩ = some (.pointer (some ⟨sb, 0, none⟩)) ∧ w6.cell? ⟨fb, 0, none⟩ = some (.int .i64 i) := ⟨(HSD.out.two htw hsx).five.1, (HGD.out.two htw (HSD.out.sx.apart HGD.out (by decide) (by decide)).1 (HSD.out.sx.apart HGD.out (by decide) (by decide)).2).cell 0⟩))
            obtain ⟨-, htw, v6, h6⟩ := hend
            have H6 := Lib.hid h6
            have HT6 := Lib.hid htw
            clear h6 htw
            by_cases hq : Q.2 = 0
            · have e0 : errV Q.2 = .nilIface := by rw [hq]; exact errV_0
              rw [e0]
              have HQ0 := Lib.hid hq
              clear e0 hq
              go_wp2_with fail
              go_ret2
              rw [HP.out]
              exact PlanI.good (by rw [HQ.out]; exact HQ0.out) HT6.out (by rw [HQ.out]; exact H6.out) _ errV_0.symm
            · have e0 : errV Q.2 = .iface 35 (.int .i64 Q.2) := errV_n hq
              have HE0 := Lib.hid e0
              rw [e0]
              have HQ0 := Lib.hid hq
              clear e0 hq
              go_wp2_with fail
              go_ret2
              rw [HP.out, ← HE0.out, ← HQ.out]
              exact PlanI.bad (by rw [HQ.out]; exact HQ0.out) HT6.out (by rw [HQ.out]; exact H6.out)
          · have hm' : decide (capN ma r.life < z.s.clock) = false := decide_eq_false hm
            have hno : (false || oldB r z.s.clock ⟨i, cl, su, scp, ge, ma, us, re, false⟩) = false := by rw [HOL.out, hu', hm']; rfl
            have HNN := Lib.hid hno
            clear hno
            go_wp2_with fail
            go_quiet ((first
              | (go_at_call 43; exact Calls.quiet_of_same ((HADU.out _).mono fun _ _ h => ⟨h.1, h.2.symm⟩))
              | (go_at_call 43; exact Calls.quiet_of_same ((HADM.out _).mono fun _ _ h => ⟨h.1, h.2.symm⟩))))
            go_wp2_with fail
            have hbd : Below w4.heap.size w4 (w4.drewN nq) := below_drewN (Below.refl w4.heap.size w4) nq
            go_roundw
            case rel => exact ⟨j + 1, by omega, by go_num, below_2 HB4.out hbd, HS4.out.keep hbd, HR4.out.below hbd, (hbd.cell (p := ⟨cb, 0, none⟩) (World.block_lt_of_cell? w4 _ HC4.out)).trans HC4.out, fun m f hm hf => by
              by_cases e : m = j
              · subst e
                rw [HF.out] at hf
                cases hf
                exact HNN.out
              · exact HNO.out m f (by omega) hf⟩
            case measure => simp [intOf]; omega
      · have hp : sweepP r z.s = .put (dropEv i) i 0 := by
          unfold sweepP sweepF
          rw [find_at HNO.out HF.out (rfl)]
        have HP := Lib.hid hp
        generalize hQ : addS z (dropEv i) = Q at *
        have HQ := Lib.hid hQ
        clear hp hQ HNO HF HR4 HOL
        go_wp2_with fail
        go_quiet ((first
          | (go_at_call 43; exact Calls.quiet_of_same ((HADU.out _).mono fun _ _ h => ⟨h.1, h.2.symm⟩))
          | (go_at_call 43; exact Calls.quiet_of_same ((HADM.out _).mono fun _ _ h => ⟨h.1, h.2.symm⟩))))
        go_wp2_with fail
        have hbd : Below w4.heap.size w4 (w4.drewN nq).drew := below_dr (below_drewN (Below.refl w4.heap.size w4) nq)
        have HSD := Lib.hid (HS4.out.keep hbd)
        have HGD := Lib.hid (HG4.out.below' hbd)
        have HBD := Lib.hid (below_2 HB4.out hbd)
        clear hbd HS4 HG4 HB4 d0 d1 d2 d3 d4 d5 d6 d7 d8 c0 c1 c2 c3 c4 hvb HC4
        generalize w4.drewN nq = w5 at *
        have HD : w5.drew.cell? ⟨vb, 0, none⟩ = some (.pointer (some ⟨sb, 0, none⟩)) ∧ w5.drew.cell? ⟨fb, 0, none⟩ = some (.int .i64 i) := ⟨HSD.out.five.1, HGD.out.cell 0⟩
        go_region_held3 (fun w' => w'.cell? ⟨vb, 0, none⟩ = some (.pointer (some ⟨sb, 0, none⟩)) ∧ w'.cell? ⟨fb, 0, none⟩ = some (.int .i64 i))
          (first
            | with_reducible assumption
            | with_reducible exact HD)
          (first
            | (go_at_call 42; (with_reducible refine (HA2.out _ HSD.out.sx).mono ?_); rintro x' w6 ⟨rfl, htw, v2, hsx⟩
               have hend : PutX W B vb sb db k r Q (.returned (errV Q.2)) w6 := ⟨rfl, (Two.of_below HBD.out).trans htw, v2, HSD.out.two htw hsx⟩
               have hx2 : w6.cell? ⟨vb, 0, none⟩ = some (.pointer (some ⟨sb, 0, none⟩)) ∧ w6.cell? ⟨fb, 0, none⟩ = some (.int .i64 i) := ⟨(HSD.out.two htw hsx).five.1, (HGD.out.two htw (HSD.out.sx.apart HGD.out (by decide) (by decide)).1 (HSD.out.sx.apart HGD.out (by decide) (by decide)).2).cell 0⟩))
        obtain ⟨-, htw, v6, h6⟩ := hend
        have H6 := Lib.hid h6
        have HT6 := Lib.hid htw
        clear h6 htw
        by_cases hq : Q.2 = 0
        · have e0 : errV Q.2 = .nilIface := by rw [hq]; exact errV_0
          rw [e0]
          have HQ0 := Lib.hid hq
          clear e0 hq
          go_wp2_with fail
          go_ret2
          rw [HP.out]
          exact PlanI.good (by rw [HQ.out]; exact HQ0.out) HT6.out (by rw [HQ.out]; exact H6.out) _ errV_0.symm
        · have e0 : errV Q.2 = .iface 35 (.int .i64 Q.2) := errV_n hq
          have HE0 := Lib.hid e0
          rw [e0]
          have HQ0 := Lib.hid hq
          clear e0 hq
          go_wp2_with fail
          go_ret2
          rw [HP.out, ← HE0.out, ← HQ.out]
          exact PlanI.bad (by rw [HQ.out]; exact HQ0.out) HT6.out (by rw [HQ.out]; exact H6.out)
    · have hkn : j = z.s.fams.length := by omega
      have hp : sweepP r z.s = .say 0 8 := by
        unfold sweepP sweepF
        rw [find_end_none (fun m f hm hf => HNO.out m f (by omega) hf)]
      have HP := Lib.hid hp
      clear hp
      go_wp2_with fail
      go_ret2
      rw [HP.out]
      exact PlanI.say HS.out HB.out _ (errV_n (by decide)).symm
end
end Go.Proofs.YtckohmhhcknmaaaGreatDoor

/-
  A service: New.
-/
namespace Go.Proofs.YtckohmhhcknmaaaGreatDoor
open Go.RowKit Go.Sort

theorem svc_new_nil (r : Ru) (W : World) :
    Calls Tryz.prog 18 #[.pointer none, .agg #[.int .i64 r.key, .int .i64 r.idle, .int .i64 r.life, .int .i64 r.access]] W fun e w' => e = .returned (.tuple #[.pointer none, errV 7]) ∧ Below W.heap.size W w' := by
  have hal := (Below.refl W.heap.size W).alloc (Nat.le_refl _) (.cells #[.int .i64 r.key, .int .i64 r.idle, .int .i64 r.life, .int .i64 r.access] 28)
  have HAL := Lib.hid hal
  clear hal
  go_enter Tryz.func18, Tryz.ntmps18
  go_wp2_with fail
  go_ret2
  exact ⟨by rw [errV_n (by decide)]; rfl, HAL.out⟩
set_option maxHeartbeats 4000000 in
set_option maxRecDepth 100000 in
theorem svc_new_yes {B sb db k : Nat} {r : Ru} {z : SS} {v : Value} {W : World} (h : SX B sb db k z v W) (hr : ruB r = true) :
    Calls Tryz.prog 18 #[.pointer (some ⟨sb, 0, none⟩), .agg #[.int .i64 r.key, .int .i64 r.idle, .int .i64 r.life, .int .i64 r.access]] W fun e w' => ∃ vb, e = .returned (.tuple #[.pointer (some ⟨vb, 0, none⟩), .nilIface]) ∧ SW B vb sb db k r z v w' ∧ W.heap.size ≤ vb ∧ Below W.heap.size W w' := by
  have hB : B ≤ W.heap.size := by obtain ⟨D, n, f, x, h1, _⟩ := h; exact h1.big
  obtain ⟨k1, k2, k3, k4⟩ := ruB_parts hr
  obtain ⟨a0, a1⟩ := okN_iff.1 k1
  obtain ⟨b0, b1⟩ := okN_iff.1 k2
  obtain ⟨d0, d1⟩ := okN_iff.1 k3
  obtain ⟨e0, e1⟩ := okN_iff.1 k4
  have HR := Lib.hid hr
  have H := Lib.hid h
  clear h hr k1 k2 k3 k4
  obtain ⟨ky, il, li, ac⟩ := r
  dsimp only at *
  have hal := alloc2 W (.cells #[.int .i64 ky, .int .i64 il, .int .i64 li, .int .i64 ac] 28) (.cells #[.int .i64 ky, .int .i64 il, .int .i64 li, .int .i64 ac] 3)
  have HAL := Lib.hid hal
  have H1 := Lib.hid (H.out.keep hal)
  have HR3 := Lib.hid ((Blk.new W 28 #[.int .i64 ky, .int .i64 il, .int .i64 li, .int .i64 ac]).alloc (.cells #[.int .i64 ky, .int .i64 il, .int .i64 li, .int .i64 ac] 3))
  have hg : Blk ((W.alloc (.cells #[.int .i64 ky, .int .i64 il, .int .i64 li, .int .i64 ac] 28)).alloc (.cells #[.int .i64 ky, .int .i64 il, .int .i64 li, .int .i64 ac] 3)) (W.heap.size + 1) 3 #[.int .i64 ky, .int .i64 il, .int .i64 li, .int .i64 ac] := by
    have := Blk.new (W.alloc (.cells #[.int .i64 ky, .int .i64 il, .int .i64 li, .int .i64 ac] 28)) 3 #[.int .i64 ky, .int .i64 il, .int .i64 li, .int .i64 ac]
    rw [show (W.alloc (.cells #[.int .i64 ky, .int .i64 il, .int .i64 li, .int .i64 ac] 28)).heap.size = W.heap.size + 1 by simp] at this
    exact this
  have HG3 := Lib.hid hg
  clear hal hg
  go_enter Tryz.func18, Tryz.ntmps18
  go_wp2_with fail
  generalize (W.alloc (.cells #[.int .i64 ky, .int .i64 il, .int .i64 li, .int .i64 ac] 28)).alloc (.cells #[.int .i64 ky, .int .i64 il, .int .i64 li, .int .i64 ac] 3) = w1 at *
  obtain ⟨x0, x1, x2, x3⟩ := tok_cells HG3.out
  obtain ⟨y0, y1, y2, y3⟩ := tok_cells HR3.out
  refine wp_loop_rounds 5 ?_
  rw [rounds_succ]
  go_wp2_with fail
  rw [rounds_succ]
  go_wp2_with fail
  rw [rounds_succ]
  go_wp2_with fail
  rw [rounds_succ]
  go_wp2_with fail
  rw [rounds_succ]
  go_wp2_with fail
  go_ret2
  have hal := (Below.refl w1.heap.size w1).alloc (Nat.le_refl _) (.cells #[.pointer (some ⟨sb, 0, none⟩), .int .i64 ky, .int .i64 il, .int .i64 li, .int .i64 ac] 97)
  exact ⟨w1.heap.size, rfl, ⟨Blk.new w1 _ _, H1.out.keep hal, HR.out, Nat.le_trans hB HAL.out.size⟩, HAL.out.size, below_2 HAL.out hal⟩
theorem okN_not {x : Int} (h : okN x = false) : x < 0 ∨ 1099511627776 < x := by
  by_cases h0 : x < 0
  · exact .inl h0
  · by_cases h1 : 1099511627776 < x
    · exact .inr h1
    · rw [okN_iff.2 ⟨by omega, by omega⟩] at h
      cases h
theorem ruB_not {r : Ru} (h : ruB r = false) : okN r.key = false ∨ (okN r.key = true ∧ (okN r.idle = false ∨ (okN r.idle = true ∧ (okN r.life = false ∨ (okN r.life = true ∧ okN r.access = false))))) := by
  unfold ruB at h
  cases h1 : okN r.key <;> cases h2 : okN r.idle <;> cases h3 : okN r.life <;> cases h4 : okN r.access <;> simp_all
set_option maxHeartbeats 4000000 in
set_option maxRecDepth 100000 in
theorem svc_new_no {sb : Nat} {r : Ru} {W : World} (hr : ruB r = false) :
    Calls Tryz.prog 18 #[.pointer (some ⟨sb, 0, none⟩), .agg #[.int .i64 r.key, .int .i64 r.idle, .int .i64 r.life, .int .i64 r.access]] W fun e w' => e = .returned (.tuple #[.pointer none, errV 2]) ∧ Below W.heap.size W w' := by
  have hn := ruB_not hr
  clear hr
  obtain ⟨ky, il, li, ac⟩ := r
  dsimp only at *
  have hal := alloc2 W (.cells #[.int .i64 ky, .int .i64 il, .int .i64 li, .int .i64 ac] 28) (.cells #[.int .i64 ky, .int .i64 il, .int .i64 li, .int .i64 ac] 3)
  have HAL := Lib.hid hal
  have hg : Blk ((W.alloc (.cells #[.int .i64 ky, .int .i64 il, .int .i64 li, .int .i64 ac] 28)).alloc (.cells #[.int .i64 ky, .int .i64 il, .int .i64 li, .int .i64 ac] 3)) (W.heap.size + 1) 3 #[.int .i64 ky, .int .i64 il, .int .i64 li, .int .i64 ac] := by
    have := Blk.new (W.alloc (.cells #[.int .i64 ky, .int .i64 il, .int .i64 li, .int .i64 ac] 28)) 3 #[.int .i64 ky, .int .i64 il, .int .i64 li, .int .i64 ac]
    rw [show (W.alloc (.cells #[.int .i64 ky, .int .i64 il, .int .i64 li, .int .i64 ac] 28)).heap.size = W.heap.size + 1 by simp] at this
    exact this
  have HG3 := Lib.hid hg
  clear hal hg
  go_enter Tryz.func18, Tryz.ntmps18
  go_wp2_with fail
  generalize (W.alloc (.cells #[.int .i64 ky, .int .i64 il, .int .i64 li, .int .i64 ac] 28)).alloc (.cells #[.int .i64 ky, .int .i64 il, .int .i64 li, .int .i64 ac] 3) = w1 at *
  obtain ⟨x0, x1, x2, x3⟩ := tok_cells HG3.out
  refine wp_loop_rounds 5 ?_
  rcases hn with h | ⟨k1, h | ⟨k2, h | ⟨k3, h⟩⟩⟩
  · rcases okN_not h with hx | hx
    · rw [rounds_succ]
      go_wp2_with fail
      go_ret2
      exact ⟨by rw [errV_n (by decide)]; rfl, HAL.out⟩
    · have hx0 : ¬ ky < 0 := by omega
      rw [rounds_succ]
      go_wp2_with fail
      go_ret2
      exact ⟨by rw [errV_n (by decide)]; rfl, HAL.out⟩
  · obtain ⟨p0, q0⟩ := okN_iff.1 k1
    rcases okN_not h with hx | hx
    · rw [rounds_succ]
      go_wp2_with fail
      rw [rounds_succ]
      go_wp2_with fail
      go_ret2
      exact ⟨by rw [errV_n (by decide)]; rfl, HAL.out⟩
    · have hx0 : ¬ il < 0 := by omega
      rw [rounds_succ]
      go_wp2_with fail
      rw [rounds_succ]
      go_wp2_with fail
      go_ret2
      exact ⟨by rw [errV_n (by decide)]; rfl, HAL.out⟩
  · obtain ⟨p0, q0⟩ := okN_iff.1 k1
    obtain ⟨p1, q1⟩ := okN_iff.1 k2
    rcases okN_not h with hx | hx
    · rw [rounds_succ]
      go_wp2_with fail
      rw [rounds_succ]
      go_wp2_with fail
      rw [rounds_succ]
      go_wp2_with fail
      go_ret2
      exact ⟨by rw [errV_n (by decide)]; rfl, HAL.out⟩
    · have hx0 : ¬ li < 0 := by omega
      rw [rounds_succ]
      go_wp2_with fail
      rw [rounds_succ]
      go_wp2_with fail
      rw [rounds_succ]
      go_wp2_with fail
      go_ret2
      exact ⟨by rw [errV_n (by decide)]; rfl, HAL.out⟩
  · obtain ⟨p0, q0⟩ := okN_iff.1 k1
    obtain ⟨p1, q1⟩ := okN_iff.1 k2
    obtain ⟨p2, q2⟩ := okN_iff.1 k3
    rcases okN_not h with hx | hx
    · rw [rounds_succ]
      go_wp2_with fail
      rw [rounds_succ]
      go_wp2_with fail
      rw [rounds_succ]
      go_wp2_with fail
      rw [rounds_succ]
      go_wp2_with fail
      go_ret2
      exact ⟨by rw [errV_n (by decide)]; rfl, HAL.out⟩
    · have hx0 : ¬ ac < 0 := by omega
      rw [rounds_succ]
      go_wp2_with fail
      rw [rounds_succ]
      go_wp2_with fail
      rw [rounds_succ]
      go_wp2_with fail
      rw [rounds_succ]
      go_wp2_with fail
      go_ret2
      exact ⟨by rw [errV_n (by decide)]; rfl, HAL.out⟩

end Go.Proofs.YtckohmhhcknmaaaGreatDoor

/-
  A service that rotorkeep began: what lies in memory, and its calls by their plans.
-/
namespace Go.Proofs.YtckohmhhcknmaaaGreatDoor
open Go.RowKit Go.Sort

def pickN (x n : Int) : Int := (IntKind.u64.wrap x).tmod n
theorem pickN_in (x : Int) {n : Int} (hn : 0 < n) : 0 ≤ pickN x n ∧ pickN x n < n := by
  have h1 : 0 ≤ IntKind.u64.wrap x := (u64_wrap x).1
  exact ⟨Int.tmod_nonneg _ h1, Int.tmod_lt_of_pos _ hn⟩
set_option maxRecDepth 100000 in
theorem pick_4 (x : Int) (w : World) : Calls Tryz.prog 8 #[.int .i64 x, .int .i64 4] w fun e w' => e = .returned (.int .i64 (pickN x 4)) ∧ w = w' := by
  have h := pickN_in x (n := 4) (by decide)
  go_enter Tryz.func8, Tryz.ntmps8
  go_wp2_with fail
  go_ret
  refine ⟨congrArg (fun z => Ending.returned (.int .i64 z)) ?_, rfl⟩
  have e : IntKind.i64.wrap (pickN x 4) = pickN x 4 := IntWalk.i64_in _ (by omega)
  unfold pickN at e
  first
    | exact e
    | (rw [IntWalk.i64_left] at e; exact e)
set_option maxRecDepth 100000 in
theorem pick_30 (x : Int) (w : World) : Calls Tryz.prog 8 #[.int .i64 x, .int .i64 1073741824] w fun e w' => e = .returned (.int .i64 (pickN x 1073741824)) ∧ w = w' := by
  have h := pickN_in x (n := 1073741824) (by decide)
  go_enter Tryz.func8, Tryz.ntmps8
  go_wp2_with fail
  go_ret
  refine ⟨congrArg (fun z => Ending.returned (.int .i64 z)) ?_, rfl⟩
  have e : IntKind.i64.wrap (pickN x 1073741824) = pickN x 1073741824 := IntWalk.i64_in _ (by omega)
  unfold pickN at e
  first
    | exact e
    | (rw [IntWalk.i64_left] at e; exact e)
set_option maxHeartbeats 4000000 in
set_option maxRecDepth 100000 in
/-- a service over an empty disk -/
theorem begun_yes {B : Nat} {W : World} (hE : Env B W) (hB : B ≤ W.heap.size) {r : Ru} (hr : ruB r = true) :
    Calls Tryz.prog 7 #[.agg #[.int .i64 r.key, .int .i64 r.idle, .int .i64 r.life, .int .i64 r.access]] W fun e w' => ∃ vb sb db v, e = .returned (.pointer (some ⟨vb, 0, none⟩)) ∧ SW B vb sb db 0 r newS v w' ∧ Below W.heap.size W w' ∧ W.heap.size ≤ vb ∧ W.heap.size ≤ sb ∧ W.heap.size ≤ db := by
  have HNW := Lib.hid (fun sb v w (h : SX B sb (W.heap.size + 1) 0 newS v w) => svc_new_yes (r := r) h hr)
  obtain ⟨ky, il, li, ac⟩ := r
  dsimp only at HNW ⊢
  have hal : Below W.heap.size W (W.alloc (.cells #[.int .i64 ky, .int .i64 il, .int .i64 li, .int .i64 ac] 28)) := (Below.refl _ _).alloc (Nat.le_refl _) _
  have h0 : DI B (W.heap.size + 1) Dk.none_ 0 0 0 startS ((W.alloc (.cells #[.int .i64 ky, .int .i64 il, .int .i64 li, .int .i64 ac] 28)).alloc (.cells Tryz.zeroCells59 59)) := by
    have := DI.new (W := W.alloc (.cells #[.int .i64 ky, .int .i64 il, .int .i64 li, .int .i64 ac] 28)) (hE.new hB hal) (Nat.le_trans hB hal.size)
    rw [show (W.alloc (.cells #[.int .i64 ky, .int .i64 il, .int .i64 li, .int .i64 ac] 28)).heap.size = W.heap.size + 1 by simp] at this
    exact this
  have hal2 : Below W.heap.size W ((W.alloc (.cells #[.int .i64 ky, .int .i64 il, .int .i64 li, .int .i64 ac] 28)).alloc (.cells Tryz.zeroCells59 59)) := hal.alloc hal.size _
  have hr0 := (Blk.new W 28 #[.int .i64 ky, .int .i64 il, .int .i64 li, .int .i64 ac]).alloc (.cells Tryz.zeroCells59 59)
  have H0 := Lib.hid h0
  have HB0 := Lib.hid hal2
  have HR0 := Lib.hid hr0
  clear hr hE h0 hal hal2 hr0
  go_enter Tryz.func7, Tryz.ntmps7
  go_wp2_with fail
  go_at_call 17
  refine (sx_first H0.out).mono ?_
  rintro e w1 ⟨sb, v, rfl, hsx, hsb, hb⟩
  have HS := Lib.hid hsx
  have HB1 := Lib.hid (below_2 HB0.out hb)
  have HR1 := Lib.hid (HR0.out.below' hb)
  have hsb' : W.heap.size ≤ sb := Nat.le_trans HB0.out.size hsb
  clear hsx hb hsb H0 HR0
  obtain ⟨y0, y1, y2, y3⟩ := tok_cells HR1.out
  go_wp2_with fail
  go_at_call 18
  refine (HNW.out _ _ _ HS.out).mono ?_
  rintro e w2 ⟨vb, rfl, hsw, hvb, hb⟩
  have HS2 := Lib.hid hsw
  have HB2 := Lib.hid (below_2 HB1.out hb)
  have hvb' := Nat.le_trans HB1.out.size hvb
  clear hsw hb hvb y0 y1 y2 y3
  go_wp2_with fail
  go_ret
  exact ⟨vb, sb, W.heap.size + 1, v, rfl, HS2.out, HB2.out, hvb', hsb', Nat.le_succ _⟩
/-- a service, made since W -/
structure AW (W : World) (B vb sb db k : Nat) (r : Ru) (z : SS) (v : Value) (w : World) : Prop where
  sw : SW B vb sb db k r z v w
  below : Below W.heap.size W w
  hv : W.heap.size ≤ vb
  hs : W.heap.size ≤ sb
  hd : W.heap.size ≤ db
  err : ErrType W
  eg : 0 < W.heap.size
section
variable {W w w' : World} {B vb sb db k : Nat} {r : Ru} {z : SS} {v : Value}
theorem AW.keep (h : AW W B vb sb db k r z v w) (hb : Below w.heap.size w w') : AW W B vb sb db k r z v w' := ⟨h.sw.keep hb, below_2 h.below hb, h.hv, h.hs, h.hd, h.err, h.eg⟩
theorem AW.drew (h : AW W B vb sb db k r z v w) : AW W B vb sb db k r z v w.drew := ⟨h.sw.drew, below_dr h.below, h.hv, h.hs, h.hd, h.err, h.eg⟩
theorem AW.two {k' : Nat} {z' : SS} {v' : Value} (h : AW W B vb sb db k r z v w) (ht : Two sb db w w') (hs : SW B vb sb db k' r z' v' w') : AW W B vb sb db k' r z' v' w' := ⟨hs, ht.below h.below h.below.size h.hs h.hd, h.hv, h.hs, h.hd, h.err, h.eg⟩
theorem AW.et (h : AW W B vb sb db k r z v w) : ErrType w := h.err.below h.below h.eg
theorem AW.cell0 (h : AW W B vb sb db k r z v w) : w.cell? ⟨vb, 0, none⟩ = some (.pointer (some ⟨sb, 0, none⟩)) := h.sw.five.1
/-- a row of families that lies elsewhere is kept -/
theorem SW.rows (h : SW B vb sb db k r z v w) (ht : Two sb db w w') {B' : Nat} {x : Value} {L : List Fam} (hr : FRow w B' x L) : FRow w' B' x L := by
  obtain ⟨⟨ca, ha⟩, cb, hb⟩ := h.sx.blocks
  exact hr.two ht (hr.apart ha (by decide)) (hr.apart hb (by decide))
/-- a block that is none of the store's is kept -/
theorem SW.others (h : SW B vb sb db k r z v w) (ht : Two sb db w w') {g : Nat} {T : TypeId} {cs : Array Value} (hb : Blk w g T cs) (h1 : T ≠ 117) (h2 : T ≠ 59) : Blk w' g T cs := by
  obtain ⟨⟨ca, ha⟩, cb, hc⟩ := h.sx.blocks
  exact hb.two ht (hb.ne_ ha h1) (hb.ne_ hc h2)
/-- what lies elsewhere is kept -/
def Rest (w w' : World) : Prop := (∀ B' x L, FRow w B' x L → FRow w' B' x L) ∧ ∀ g T cs, Blk w g T cs → T ≠ 117 → T ≠ 59 → Blk w' g T cs
theorem SW.rest (h : SW B vb sb db k r z v w) (ht : Two sb db w w') : Rest w w' := ⟨fun _ _ _ hr => h.rows ht hr, fun _ _ _ hb h1 h2 => h.others ht hb h1 h2⟩
/-- a call that told a text -/
def Told (W : World) (B vb sb db k : Nat) (r : Ru) (w : World) (R : SS × ByteArray × Int) (e : Ending) (w' : World) : Prop :=
  e = .returned (.tuple #[.string R.2.1, errV R.2.2]) ∧ (∃ v', AW W B vb sb db (k + 1) r R.1 v' w') ∧ Rest w w'
theorem told_of {p : Plan ByteArray} {e : Ending} (h : AW W B vb sb db k r z v w) (hp : PlanS w B vb sb db k r z p e w') : Told W B vb sb db k r w (doPlan noneS z p) e w' := by
  obtain ⟨he, ht, v', hs⟩ := hp
  exact ⟨he, ⟨v', h.two ht hs⟩, h.sw.rest ht⟩
theorem AW.grant (h : AW W B vb sb db k r z v w) (hk : k < 1000000) (cl su sc : ByteArray) (h1 : cl.size ≤ 1000) (h2 : su.size ≤ 1000) (h3 : sc.size ≤ 1000) :
    Calls Tryz.prog 9 #[.pointer (some ⟨vb, 0, none⟩), .string cl, .string su, .string sc] w (Told W B vb sb db k r w (doPlan noneS z (grantP r z.s cl su sc))) :=
  (svc_grant h.sw hk cl su sc h1 h2 h3).mono fun _ _ hp => told_of h hp
theorem AW.rotate (h : AW W B vb sb db k r z v w) (hk : k < 1000000) (t q sc : ByteArray) (h1 : t.size ≤ 1000) (h2 : q.size ≤ 1000) (h3 : sc.size ≤ 1000) :
    Calls Tryz.prog 11 #[.pointer (some ⟨vb, 0, none⟩), .string t, .string q, .string sc] w (Told W B vb sb db k r w (doPlan noneS z (rotateP r z.s t q sc))) :=
  (svc_rotate h.sw hk t q sc h1 h2 h3).mono fun _ _ hp => told_of h hp
/-- a call that told only what is wrong -/
def ToldU (W : World) (B vb sb db k : Nat) (r : Ru) (w : World) (R : SS × Unit × Int) (e : Ending) (w' : World) : Prop :=
  e = .returned (errV R.2.2) ∧ (∃ v', AW W B vb sb db (k + 1) r R.1 v' w') ∧ Rest w w'
theorem AW.tick (h : AW W B vb sb db k r z v w) (hk : k < 1000000) (n : Int) :
    Calls Tryz.prog 10 #[.pointer (some ⟨vb, 0, none⟩), .int .i64 n] w (ToldU W B vb sb db k r w (doPlan () z (tickP z.s n))) :=
  (svc_tick h.sw hk n).mono fun _ _ ⟨he, ht, v', hs⟩ => ⟨he, ⟨v', h.two ht hs⟩, h.sw.rest ht⟩
theorem AW.state (h : AW W B vb sb db k r z v w) : Calls Tryz.prog 14 #[.pointer (some ⟨vb, 0, none⟩)] w (GotAs w z.s.clock z.s.next z.s.fams) := (svc_state h.sw).mono fun _ _ h => got_as h
theorem AW.granted (h : AW W B vb sb db k r z v w) (hk : k < 1000000) {cl su sc : ByteArray} (h1 : cl.size ≤ 1000) (h2 : su.size ≤ 1000) (h3 : sc.size ≤ 1000) {z' : SS} {t' : ByteArray} {c : Int} (hd : doPlan noneS z (grantP r z.s cl su sc) = (z', t', c)) {u : Value} (hu : errV c = u) :
    Calls Tryz.prog 9 #[.pointer (some ⟨vb, 0, none⟩), .string cl, .string su, .string sc] w fun e w' => e = .returned (.tuple #[.string t', u]) ∧ ∃ v', AW W B vb sb db (k + 1) r z' v' w' :=
  (h.grant hk cl su sc h1 h2 h3).mono fun e w' ⟨he, hv, _⟩ => by
    rw [hd] at he hv
    rw [← hu]
    exact ⟨he, hv⟩
theorem AW.rotated (h : AW W B vb sb db k r z v w) (hk : k < 1000000) {t q sc : ByteArray} (h1 : t.size ≤ 1000) (h2 : q.size ≤ 1000) (h3 : sc.size ≤ 1000) {z' : SS} {t' : ByteArray} {c : Int} (hd : doPlan noneS z (rotateP r z.s t q sc) = (z', t', c)) {u : Value} (hu : errV c = u) :
    Calls Tryz.prog 11 #[.pointer (some ⟨vb, 0, none⟩), .string t, .string q, .string sc] w fun e w' => e = .returned (.tuple #[.string t', u]) ∧ (∃ v', AW W B vb sb db (k + 1) r z' v' w') ∧ Rest w w' :=
  (h.rotate hk t q sc h1 h2 h3).mono fun e w' ⟨he, hv, hr⟩ => by
    rw [hd] at he hv
    rw [← hu]
    exact ⟨he, hv, hr⟩
theorem AW.ticked (h : AW W B vb sb db k r z v w) (hk : k < 1000000) {n : Int} {z' : SS} {c : Int} (hd : doPlan () z (tickP z.s n) = (z', (), c)) {u : Value} (hu : errV c = u) :
    Calls Tryz.prog 10 #[.pointer (some ⟨vb, 0, none⟩), .int .i64 n] w fun e w' => e = .returned u ∧ ∃ v', AW W B vb sb db (k + 1) r z' v' w' :=
  (h.tick hk n).mono fun e w' ⟨he, hv, _⟩ => by
    rw [hd] at he hv
    rw [← hu]
    exact ⟨he, hv⟩
end
end Go.Proofs.YtckohmhhcknmaaaGreatDoor
