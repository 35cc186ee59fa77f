/-
  rotorref's service: Rotate.
-/
import Derived.Test.YtckohmhhcknmaaaGreatDoorP27
import Derived.Test.YtckohmhhcknmaaaGreatDoorP24
import Derived.BigRegion
import Derived.Test.YtckohmhhcknmaaaGreatDoorP03
import Derived.Test.YtckohmhhcknmaaaGreatDoorP09
import Derived.Test.YtckohmhhcknmaaaGreatDoorP25
import Derived.Test.YtckohmhhcknmaaaGreatDoorP08
import Derived.Test.YtckohmhhcknmaaaGreatDoorP11
namespace Go.Proofs.YtckohmhhcknmaaaGreatDoor
open Go.RowKit Go.Sort

section
variable {W : World} {B qb rb : Nat} {r : Ru} {z : SS} {v : Value}
set_option maxHeartbeats 8000000 in
set_option maxRecDepth 100000 in
theorem rsv_rotate (h : RV B qb rb r z v W) (hz : RZ r z) (t request sc : ByteArray) (ht : t.size ≤ 1000) (h2 : request.size ≤ 1000) (h3 : sc.size ≤ 1000) :
    Calls Tryz.prog 23 #[.pointer (some ⟨qb, 0, none⟩), .string t, .string request, .string sc] W (RPlanS W B qb rb r z (rotateP r z.s t request sc)) := by
  have HN1 := Lib.hid (fun w => ref_name request w h2)
  have HLS := Lib.hid (fun w => ref_least sc w h3)
  have HL := Lib.hid (fun w v (h : RV B qb rb r z v w) => rsv_looks h hz t 1 ht)
  rw [rotateP_eq]
  have hfit := hz.fit
  have hmem : liveE r z.s (tokOf r t) 1 = 0 → famB (liveF z.s (tokOf r t)) = true := fun hh => hfit.fams _ (liveR_yes hh).2.2.2.1
  have hll0 := fun hh : liveE r z.s (tokOf r t) 1 = 0 => looks_live hh
  have HPT := Lib.hid (fun w f (hf : f.short 1000) (h : RV B qb rb r z v w) => rsv_put h hz.fit hz.lg f hf)
  have HRF := Lib.hid (fun w z' v' f hi hg (h : RV B qb rb r z' v' w) => rsv_refresh h f hi hg)
  have H := Lib.hid h
  unfold LooksGot v4 at HL
  clear h hfit
  rcases hn1 : nameB request.data.toList with _ | _
  · rw [if_pos rfl]
    rw [hn1] at HN1
    go_enter Tryz.func23, Tryz.ntmps23
    go_wp2_with fail
    go_at_call 57
    refine (HN1.out _).mono ?_
    rintro e w1 ⟨rfl, rfl⟩
    have H1 := H
    have HB1 := Lib.hid (Below.refl W.heap.size W)
    clear H
    go_wp2_with fail
    go_ret2
    exact RPlanS.say H1.out HB1.out
  · rw [if_neg (by decide)]
    have HNN := Lib.hid hn1
    rw [hn1] at HN1
    clear hn1
    generalize liveE r z.s (tokOf r t) 1 = le at *
    generalize liveF z.s (tokOf r t) = f at *
    generalize looksF z.s (tokOf r t) 1 = lf at *
    generalize tokOf r t = q at *
    obtain ⟨qe, qk, qf, qg, qd⟩ := q
    dsimp only at HL
    dsimp only
    go_enter Tryz.func23, Tryz.ntmps23
    go_wp2_with fail
    go_at_call 57
    refine (HN1.out _).mono ?_
    rintro e w1 ⟨rfl, rfl⟩
    have H1 := H
    have HB1 := Lib.hid (Below.refl W.heap.size W)
    clear H HN1
    go_wp2_with fail
    go_at_call 61
    refine (HL.out _ _ H1.out).mono ?_
    rintro e w2 ⟨rfl, hb⟩
    have H2 := Lib.hid (H1.out.keep hb)
    have HB2 := Lib.hid (below_2 HB1.out hb)
    clear hb HL H1 HB1
    have hll : le = 0 → lf = f := hll0
    clear hll0
    by_cases hle : le = 0
    · subst hle
      obtain rfl := hll rfl
      have hfb := hmem rfl
      clear hmem
      have p2 := (famB_parts hfb).2.1
      have p1 := (famB_parts hfb).1
      obtain ⟨g0, g1⟩ := okN_iff.1 p2
      have HFB := Lib.hid hfb
      have HP2 := Lib.hid p2
      have HP1 := Lib.hid p1
      clear hfb p2 p1
      obtain ⟨i, cl, su, scp, ge, ma, us, re, de⟩ := lf
      unfold famVal famCs
      dsimp only at *
      have hts := texts_eq request re
      have hts2 := texts_eq re request
      rcases turn_ways ge qg request.data.toList re.data.toList with h1 | ⟨h1, h4, h5⟩ | ⟨h1, h4, h5⟩ | ⟨h1, h4, h5⟩ | h1
      · have hp : rotateL r z.s ⟨0, qg, 0, ⟨i, cl, su, scp, ge, ma, us, re, de⟩⟩ request sc = _ := (rotateL_0 r z.s qg ⟨i, cl, su, scp, ge, ma, us, re, de⟩ request sc).trans (if_pos h1)
        have HP := Lib.hid hp
        clear hp
        clear hts hts2
        have hal := alloc2 w2 (.cells #[.int .i64 qk, .int .i64 qf, .int .i64 qg, .int .i64 qd] 127) (.cells #[.int .i64 i, .string cl, .string su, .string scp, .int .i64 ge, .int .i64 ma, .int .i64 us, .string re, .bool de] 79)
        have H3 := Lib.hid (H2.out.keep hal)
        have HB3 := Lib.hid (below_2 HB2.out hal)
        clear hal
        go_wp2_with fail
        go_ret2
        rw [HP.out]
        exact RPlanS.say H3.out HB3.out
      · have hp : rotateL r z.s ⟨0, qg, 0, ⟨i, cl, su, scp, ge, ma, us, re, de⟩⟩ request sc = _ := (rotateL_0 r z.s qg ⟨i, cl, su, scp, ge, ma, us, re, de⟩ request sc).trans ((if_neg h1).trans (if_pos ⟨h4, h5⟩))
        have HP := Lib.hid hp
        clear hp
        rw [decide_eq_true h5] at hts
        rw [decide_eq_true h5.symm] at hts2
        subst h4
        have hal := alloc2 w2 (.cells #[.int .i64 qk, .int .i64 qf, .int .i64 (ge - 1), .int .i64 qd] 127) (.cells #[.int .i64 i, .string cl, .string su, .string scp, .int .i64 ge, .int .i64 ma, .int .i64 us, .string re, .bool de] 79)
        have H3 := Lib.hid (H2.out.keep hal)
        have HB3 := Lib.hid (below_2 HB2.out hal)
        have HRF2 := Lib.hid (fun w h => HRF.out w z v ⟨i, cl, su, scp, ge, ma, us, re, de⟩ HP1.out HP2.out h)
        unfold famVal famCs at HRF2
        dsimp only at HRF2
        generalize refreshS r ⟨i, cl, su, scp, ge, ma, us, re, de⟩ = X at *
        clear hal h5 HRF HPT
        go_wp2_with fail
        go_at_call 60
        refine (HRF2.out _ H3.out).mono ?_
        rintro e w4 ⟨rfl, hb⟩
        have H4 := Lib.hid (H3.out.keep hb)
        have HB4 := Lib.hid (below_2 HB3.out hb)
        clear hb H3 HB3
        go_wp2_with fail
        go_ret2
        rw [HP.out]
        exact RPlanS.say H4.out HB4.out
      · have hp : rotateL r z.s ⟨0, qg, 0, ⟨i, cl, su, scp, ge, ma, us, re, de⟩⟩ request sc = _ := (rotateL_0 r z.s qg ⟨i, cl, su, scp, ge, ma, us, re, de⟩ request sc).trans ((if_neg h1).trans ((if_neg (fun h => h5 h.2)).trans (if_pos (show qg < ge by omega))))
        have HP := Lib.hid hp
        clear hp
        rw [decide_eq_false h5] at hts
        rw [decide_eq_false (fun h => h5 h.symm)] at hts2
        subst h4
        clear h5
        have hal := alloc2 w2 (.cells #[.int .i64 qk, .int .i64 qf, .int .i64 (ge - 1), .int .i64 qd] 127) (.cells #[.int .i64 i, .string cl, .string su, .string scp, .int .i64 ge, .int .i64 ma, .int .i64 us, .string re, .bool true] 79)
        have H3 := Lib.hid (H2.out.keep hal)
        have HB3 := Lib.hid (below_2 HB2.out hal)
        have hsh : Fam.short ⟨i, cl, su, scp, ge, ma, us, re, true⟩ 1000 := fam_short (f := ⟨i, cl, su, scp, ge, ma, us, re, de⟩) HFB.out
        have HPT2 := Lib.hid (fun w h => HPT.out w _ hsh h)
        generalize hQ : addS z (putEv (deadF ⟨i, cl, su, scp, ge, ma, us, re, de⟩)) = Q at *
        have hQ2 : addS z (putEv ⟨i, cl, su, scp, ge, ma, us, re, true⟩) = Q := hQ
        rw [hQ2] at HPT2
        have HQ := Lib.hid hQ
        generalize putEv (deadF ⟨i, cl, su, scp, ge, ma, us, re, de⟩) = FE at *
        unfold famVal famCs at HPT2
        dsimp only at HPT2
        clear hal hsh hQ hQ2 H2 HB2 HFB HPT HRF HLS
        go_wp2_with fail
        go_at_call 59
        refine (HPT2.out _ H3.out).mono ?_
        rintro e w6 ⟨rfl, htw, v6, h6⟩
        have H6 := Lib.hid h6
        have HT6 := Lib.hid (only_trans (only_of_below HB3.out _) htw)
        clear htw h6 H3 HB3 HPT2
        by_cases hq : Q.2 = 0
        · have e0 : (.int .i64 Q.2 : Value) = .int .i64 0 := by rw [hq]
          rw [e0]
          have HQ0 := Lib.hid hq
          clear e0 hq
          go_wp2_with fail
          go_ret2
          rw [HP.out]
          exact RPlanS.good (by rw [HQ.out]; exact HQ0.out) HT6.out (by rw [HQ.out]; exact H6.out)
        · have HQ0 := Lib.hid hq
          go_wp2_with fail
          go_ret2
          rw [← HQ.out]
          rw [HP.out]
          exact RPlanS.bad (by rw [HQ.out]; exact HQ0.out) HT6.out (by rw [HQ.out]; exact H6.out)
      · have hp : rotateL r z.s ⟨0, qg, 0, ⟨i, cl, su, scp, ge, ma, us, re, de⟩⟩ request sc = _ := (rotateL_0 r z.s qg ⟨i, cl, su, scp, ge, ma, us, re, de⟩ request sc).trans ((if_neg h1).trans ((if_neg (fun h => h4 h.1)).trans (if_pos h5)))
        have HP := Lib.hid hp
        clear hp
        clear hts hts2
        have hal := alloc2 w2 (.cells #[.int .i64 qk, .int .i64 qf, .int .i64 qg, .int .i64 qd] 127) (.cells #[.int .i64 i, .string cl, .string su, .string scp, .int .i64 ge, .int .i64 ma, .int .i64 us, .string re, .bool true] 79)
        have H3 := Lib.hid (H2.out.keep hal)
        have HB3 := Lib.hid (below_2 HB2.out hal)
        have hsh : Fam.short ⟨i, cl, su, scp, ge, ma, us, re, true⟩ 1000 := fam_short (f := ⟨i, cl, su, scp, ge, ma, us, re, de⟩) HFB.out
        have HPT2 := Lib.hid (fun w h => HPT.out w _ hsh h)
        generalize hQ : addS z (putEv (deadF ⟨i, cl, su, scp, ge, ma, us, re, de⟩)) = Q at *
        have hQ2 : addS z (putEv ⟨i, cl, su, scp, ge, ma, us, re, true⟩) = Q := hQ
        rw [hQ2] at HPT2
        have HQ := Lib.hid hQ
        generalize putEv (deadF ⟨i, cl, su, scp, ge, ma, us, re, de⟩) = FE at *
        unfold famVal famCs at HPT2
        dsimp only at HPT2
        clear hal hsh hQ hQ2 H2 HB2 HFB HPT HRF HLS
        go_wp2_with fail
        go_at_call 59
        refine (HPT2.out _ H3.out).mono ?_
        rintro e w6 ⟨rfl, htw, v6, h6⟩
        have H6 := Lib.hid h6
        have HT6 := Lib.hid (only_trans (only_of_below HB3.out _) htw)
        clear htw h6 H3 HB3 HPT2
        by_cases hq : Q.2 = 0
        · have e0 : (.int .i64 Q.2 : Value) = .int .i64 0 := by rw [hq]
          rw [e0]
          have HQ0 := Lib.hid hq
          clear e0 hq
          go_wp2_with fail
          go_ret2
          rw [HP.out]
          exact RPlanS.good (by rw [HQ.out]; exact HQ0.out) HT6.out (by rw [HQ.out]; exact H6.out)
        · have HQ0 := Lib.hid hq
          go_wp2_with fail
          go_ret2
          rw [← HQ.out]
          rw [HP.out]
          exact RPlanS.bad (by rw [HQ.out]; exact HQ0.out) HT6.out (by rw [HQ.out]; exact H6.out)
      · subst h1
        have n1 : ¬ qg < qg := by omega
        have n2 : ¬ (qg = qg - 1 ∧ request.data.toList = re.data.toList) := fun h => by have := h.1; omega
        have hp : rotateL r z.s ⟨0, qg, 0, ⟨i, cl, su, scp, qg, ma, us, re, de⟩⟩ request sc = _ := (rotateL_0 r z.s qg ⟨i, cl, su, scp, qg, ma, us, re, de⟩ request sc).trans ((if_neg n1).trans ((if_neg n2).trans (if_neg n1)))
        have HP := Lib.hid hp
        clear hp
        have h4 : qg ≠ qg - 1 := by omega
        clear hts hts2 n1 n2
        have hal := alloc2 w2 (.cells #[.int .i64 qk, .int .i64 qf, .int .i64 qg, .int .i64 qd] 127) (.cells #[.int .i64 i, .string cl, .string su, .string scp, .int .i64 qg, .int .i64 ma, .int .i64 us, .string re, .bool de] 79)
        have H3 := Lib.hid (H2.out.keep hal)
        have HB3 := Lib.hid (below_2 HB2.out hal)
        have hg : Blk ((w2.alloc (.cells #[.int .i64 qk, .int .i64 qf, .int .i64 qg, .int .i64 qd] 127)).alloc (.cells #[.int .i64 i, .string cl, .string su, .string scp, .int .i64 qg, .int .i64 ma, .int .i64 us, .string re, .bool de] 79)) (w2.heap.size + 1) 79 (famCs ⟨i, cl, su, scp, qg, ma, us, re, de⟩) := by
          have := Blk.new (w2.alloc (.cells #[.int .i64 qk, .int .i64 qf, .int .i64 qg, .int .i64 qd] 127)) 79 (famCs ⟨i, cl, su, scp, qg, ma, us, re, de⟩)
          rw [show (w2.alloc (.cells #[.int .i64 qk, .int .i64 qf, .int .i64 qg, .int .i64 qd] 127)).heap.size = w2.heap.size + 1 by simp] at this
          exact this
        have HG3 := Lib.hid hg
        have HD3 := Lib.hid hal
        clear hal hg
        go_wp2_with fail
        go_at_call 58
        refine (HLS.out _).mono ?_
        rintro e w3 ⟨rfl, hb⟩
        have H4 := Lib.hid (H3.out.keep hb)
        have HB4 := Lib.hid (below_2 HB3.out hb)
        have HG4 := Lib.hid (HG3.out.below' hb)
        have HD4 := Lib.hid (below_2 HD3.out hb)
        clear hb HLS H3 HB3 HG3 HD3
        by_cases hsn : scopeN sc.data.toList = 0
        · have e0 : (.int .i64 (scopeN sc.data.toList) : Value) = .int .i64 0 := by rw [hsn]
          rw [e0]
          have hp := HP.out.trans (if_neg (fun h => h hsn))
          have HSN := Lib.hid hsn
          clear e0 hsn HP
          have HP := Lib.hid hp
          clear hp
          have hsb := fam_short HFB.out
          have HWI := Lib.hid (fun w => ref_within (txt (leastL sc.data.toList)) scp w (by rw [txt_size_]; have := leastL_len sc.data.toList; omega) hsb.2.2.1)
          obtain ⟨y0, y1, y2, y3, y4, y5, y6, y7, y8⟩ := fam_cells HG4.out
          have hgz := HG4.out.frozen
          clear hsb
          go_wp2_with fail
          go_at_call 62
          refine (HWI.out _).mono ?_
          rintro e w4 ⟨rfl, hb⟩
          have H5 := Lib.hid (H4.out.keep hb)
          have HB5 := Lib.hid (below_2 HB4.out hb)
          have HG5 := Lib.hid (HG4.out.below' hb)
          have HD5 := Lib.hid (below_2 HD4.out hb)
          clear hb H4 HB4 HG4 HD4 HWI y0 y1 y2 y3 y4 y5 y6 y7 y8 hgz
          have etl : (txt (leastL sc.data.toList)).data.toList = leastL sc.data.toList := rfl
          rw [etl]
          clear etl
          rcases hwb : withB (leastL sc.data.toList) scp.data.toList with _ | _
          · have hp := HP.out.trans (if_pos hwb)
            clear HP
            have HP := Lib.hid hp
            clear hp hwb
            go_wp2_with fail
            go_ret2
            rw [HP.out]
            exact RPlanS.say H5.out HB5.out
          · have hp := HP.out.trans (if_neg (show ¬ withB (leastL sc.data.toList) scp.data.toList = false by rw [hwb]; decide))
            clear HP
            obtain ⟨y0, y1, y2, y3, y4, y5, y6, y7, y8⟩ := fam_cells HG5.out
            have hgz := HG5.out.frozen
            by_cases hmx : qg = 1099511627776
            · have HP := Lib.hid (hp.trans (if_pos hmx))
              clear hp hwb
              subst hmx
              go_wp2_with fail
              go_ret2
              rw [HP.out]
              exact RPlanS.say H5.out HB5.out
            · have HP := Lib.hid (hp.trans (if_neg hmx))
              clear hp hwb
              have hd6 := HD5.out.setCell (p := ⟨w2.heap.size + 1, 4, none⟩) (Nat.le_succ _) (.int .i64 (qg + 1))
              have HD6 := Lib.hid hd6
              have H6 := Lib.hid (H2.out.keep hd6)
              have HG6 := Lib.hid (HG5.out.put_ 4 (.int .i64 (qg + 1)) (cs' := famCs ⟨i, cl, su, scp, qg + 1, ma, us, re, de⟩) rfl)
              have HBW := Lib.hid (fun w (h : Below w2.heap.size w2 w) => below_2 HB2.out h)
              obtain ⟨c0, c1, c2, c3, c4, hlt⟩ := H5.out.five
              have hq1 : qg + 1 ≤ 1099511627776 := by omega
              clear hd6
              obtain ⟨d0, d1, d2, hlt2⟩ := H5.out.three
              go_wp2_with fail
              have hd8 := (((HD5.out.setCell (p := ⟨w2.heap.size + 1, 4, none⟩) (Nat.le_succ _) (.int .i64 (qg + 1))).setCell (p := ⟨w2.heap.size + 1, 3, none⟩) (Nat.le_succ _) (.string (txt (leastL sc.data.toList)))).setCell (p := ⟨w2.heap.size + 1, 7, none⟩) (Nat.le_succ _) (.string request)).setCell (p := ⟨w2.heap.size + 1, 6, none⟩) (Nat.le_succ _) (.int .i64 z.s.clock)
              have hd9 := below_dr hd8
              have H8 := Lib.hid (H2.out.keep hd9)
              have HB8 := Lib.hid (HBW.out _ hd9)
              have k4 := HG5.out.put_ 4 (.int .i64 (qg + 1)) (cs' := famCs ⟨i, cl, su, scp, qg + 1, ma, us, re, de⟩) rfl
              have k3 := k4.put_ 3 (.string (txt (leastL sc.data.toList))) (cs' := famCs ⟨i, cl, su, txt (leastL sc.data.toList), qg + 1, ma, us, re, de⟩) rfl
              have k7 := k3.put_ 7 (.string request) (cs' := famCs ⟨i, cl, su, txt (leastL sc.data.toList), qg + 1, ma, us, request, de⟩) rfl
              have HG8 := Lib.hid ((k7.put_ 6 (.int .i64 z.s.clock) (cs' := famCs ⟨i, cl, su, txt (leastL sc.data.toList), qg + 1, ma, z.s.clock, request, de⟩) rfl).drew)
              have hs0 : Fam.short ⟨i, cl, su, scp, qg, ma, us, re, de⟩ 1000 := fam_short HFB.out
              have hlst := leastL_len sc.data.toList
              have hrq := nameB_len HNN.out
              have hsh : Fam.short ⟨i, cl, su, txt (leastL sc.data.toList), qg + 1, ma, z.s.clock, request, de⟩ 1000 := by
                unfold Fam.short at hs0 ⊢
                dsimp only at hs0 ⊢
                rw [txt_size_]
                have e1 : request.size = request.data.toList.length := (size_data request).symm
                exact ⟨hs0.1, hs0.2.1, by omega, by omega⟩
              have HPT2 := Lib.hid (fun w h => HPT.out w _ hsh h)
              have HRF2 := Lib.hid (fun w z' v' (h : RV B qb rb r z' v' w) => HRF.out w z' v' ⟨i, cl, su, txt (leastL sc.data.toList), qg + 1, ma, z.s.clock, request, de⟩ HP1.out (okN_iff.2 ⟨show 0 ≤ qg + 1 by omega, hq1⟩) h)
              generalize hQ : addS z (putEv (turnF z.s ⟨i, cl, su, scp, qg, ma, us, re, de⟩ request sc)) = Q at *
              have hQ2 : addS z (putEv ⟨i, cl, su, txt (leastL sc.data.toList), qg + 1, ma, z.s.clock, request, de⟩) = Q := hQ
              rw [hQ2] at HPT2
              have HQ := Lib.hid hQ
              generalize hX : refreshS r (turnF z.s ⟨i, cl, su, scp, qg, ma, us, re, de⟩ request sc) = X at *
              have hX2 : refreshS r ⟨i, cl, su, txt (leastL sc.data.toList), qg + 1, ma, z.s.clock, request, de⟩ = X := hX
              rw [hX2] at HRF2
              generalize putEv (turnF z.s ⟨i, cl, su, scp, qg, ma, us, re, de⟩ request sc) = FE at *
              unfold famVal famCs at HPT2 HRF2
              dsimp only at HPT2 HRF2
              clear hd8 hd9 k3 k4 k7 hs0 hlst hrq hsh hQ hQ2 hX hX2 HPT HRF HBW H2 HB2 HFB HP1 HP2 HNN H5 HB5 HG5 HD5
              go_region
              go_wp2_with fail
              go_at_call 59
              refine (HPT2.out _ H8.out).mono ?_
              rintro e w6 ⟨rfl, htw, v6, h6⟩
              have H9 := Lib.hid h6
              have HT9 := Lib.hid (only_trans (only_of_below HB8.out _) htw)
              have HF9 := Lib.hid (HG8.out.grown htw (by simpa using HG8.out.ne_ H8.out.ra (by decide)))
              clear htw h6 HG8 H8 HB8 HPT2
              by_cases hq : Q.2 = 0
              · have e0 : (.int .i64 Q.2 : Value) = .int .i64 0 := by rw [hq]
                rw [e0]
                have HQ0 := Lib.hid hq
                clear e0 hq y0 y1 y2 y3 y4 y5 y6 y7 y8 hgz c0 c1 c2 c3 c4 hlt d0 d1 d2 hlt2
                obtain ⟨f0, f1, f2, f3, f4, f5, f6, f7, f8⟩ := fam_cells HF9.out
                go_wp2_with fail
                go_at_call 60
                refine (HRF2.out _ _ _ H9.out).mono ?_
                rintro e w7 ⟨rfl, hb⟩
                have H10 := Lib.hid (H9.out.keep hb)
                have HT10 := Lib.hid (only_trans HT9.out (only_of_below hb _))
                clear hb H9 HT9 f0 f1 f2 f3 f4 f5 f6 f7 f8 HF9
                go_wp2_with fail
                go_ret2
                rw [HP.out]
                exact RPlanS.good (by rw [HQ.out]; exact HQ0.out) HT10.out (by rw [HQ.out]; exact H10.out)
              · have HQ0 := Lib.hid hq
                go_wp2_with fail
                go_ret2
                rw [HP.out, ← HQ.out]
                exact RPlanS.bad (by rw [HQ.out]; exact HQ0.out) HT9.out (by rw [HQ.out]; exact H9.out)
        · have hp := HP.out.trans (if_pos hsn)
          clear HP
          have HP := Lib.hid hp
          clear hp
          go_wp2_with fail
          go_ret2
          rw [HP.out]
          exact RPlanS.say H4.out HB4.out
    · have HP := Lib.hid (rotateL_e (r := r) (s := z.s) (qg := qg) (f := f) (request := request) (sc := sc) hle)
      obtain ⟨i, cl, su, scp, ge, ma, us, re, de⟩ := lf
      unfold famVal famCs
      dsimp only at *
      have hal := alloc2 w2 (.cells #[.int .i64 qk, .int .i64 qf, .int .i64 qg, .int .i64 qd] 127) (.cells #[.int .i64 i, .string cl, .string su, .string scp, .int .i64 ge, .int .i64 ma, .int .i64 us, .string re, .bool de] 79)
      have H3 := Lib.hid (H2.out.keep hal)
      have HB3 := Lib.hid (below_2 HB2.out hal)
      clear hal hmem
      go_wp2_with fail
      go_ret2
      rw [HP.out]
      exact RPlanS.say H3.out HB3.out
end
end Go.Proofs.YtckohmhhcknmaaaGreatDoor

/-
  A service: New.
-/
namespace Go.Proofs.YtckohmhhcknmaaaGreatDoor
open Go.RowKit Go.Sort

theorem svc_new_nil (r : Ru) (W : World) :
    Calls Tryz.prog 18 #[.pointer none, .agg #[.int .i64 r.key, .int .i64 r.idle, .int .i64 r.life, .int .i64 r.access]] W fun e w' => e = .returned (.tuple #[.pointer none, errV 7]) ∧ Below W.heap.size W w' := by
  have hal := (Below.refl W.heap.size W).alloc (Nat.le_refl _) (.cells #[.int .i64 r.key, .int .i64 r.idle, .int .i64 r.life, .int .i64 r.access] 28)
  have HAL := Lib.hid hal
  clear hal
  go_enter Tryz.func18, Tryz.ntmps18
  go_wp2_with fail
  go_ret2
  exact ⟨by rw [errV_n (by decide)]; rfl, HAL.out⟩
set_option maxHeartbeats 4000000 in
set_option maxRecDepth 100000 in
theorem svc_new_yes {B sb db k : Nat} {r : Ru} {z : SS} {v : Value} {W : World} (h : SX B sb db k z v W) (hr : ruB r = true) :
    Calls Tryz.prog 18 #[.pointer (some ⟨sb, 0, none⟩), .agg #[.int .i64 r.key, .int .i64 r.idle, .int .i64 r.life, .int .i64 r.access]] W fun e w' => ∃ vb, e = .returned (.tuple #[.pointer (some ⟨vb, 0, none⟩), .nilIface]) ∧ SW B vb sb db k r z v w' ∧ W.heap.size ≤ vb ∧ Below W.heap.size W w' := by
  have hB : B ≤ W.heap.size := by obtain ⟨D, n, f, x, h1, _⟩ := h; exact h1.big
  obtain ⟨k1, k2, k3, k4⟩ := ruB_parts hr
  obtain ⟨a0, a1⟩ := okN_iff.1 k1
  obtain ⟨b0, b1⟩ := okN_iff.1 k2
  obtain ⟨d0, d1⟩ := okN_iff.1 k3
  obtain ⟨e0, e1⟩ := okN_iff.1 k4
  have HR := Lib.hid hr
  have H := Lib.hid h
  clear h hr k1 k2 k3 k4
  obtain ⟨ky, il, li, ac⟩ := r
  dsimp only at *
  have hal := alloc2 W (.cells #[.int .i64 ky, .int .i64 il, .int .i64 li, .int .i64 ac] 28) (.cells #[.int .i64 ky, .int .i64 il, .int .i64 li, .int .i64 ac] 3)
  have HAL := Lib.hid hal
  have H1 := Lib.hid (H.out.keep hal)
  have HR3 := Lib.hid ((Blk.new W 28 #[.int .i64 ky, .int .i64 il, .int .i64 li, .int .i64 ac]).alloc (.cells #[.int .i64 ky, .int .i64 il, .int .i64 li, .int .i64 ac] 3))
  have hg : Blk ((W.alloc (.cells #[.int .i64 ky, .int .i64 il, .int .i64 li, .int .i64 ac] 28)).alloc (.cells #[.int .i64 ky, .int .i64 il, .int .i64 li, .int .i64 ac] 3)) (W.heap.size + 1) 3 #[.int .i64 ky, .int .i64 il, .int .i64 li, .int .i64 ac] := by
    have := Blk.new (W.alloc (.cells #[.int .i64 ky, .int .i64 il, .int .i64 li, .int .i64 ac] 28)) 3 #[.int .i64 ky, .int .i64 il, .int .i64 li, .int .i64 ac]
    rw [show (W.alloc (.cells #[.int .i64 ky, .int .i64 il, .int .i64 li, .int .i64 ac] 28)).heap.size = W.heap.size + 1 by simp] at this
    exact this
  have HG3 := Lib.hid hg
  clear hal hg
  go_enter Tryz.func18, Tryz.ntmps18
  go_wp2_with fail
  generalize (W.alloc (.cells #[.int .i64 ky, .int .i64 il, .int .i64 li, .int .i64 ac] 28)).alloc (.cells #[.int .i64 ky, .int .i64 il, .int .i64 li, .int .i64 ac] 3) = w1 at *
  obtain ⟨x0, x1, x2, x3⟩ := tok_cells HG3.out
  obtain ⟨y0, y1, y2, y3⟩ := tok_cells HR3.out
  refine wp_loop_rounds 5 ?_
  rw [rounds_succ]
  go_wp2_with fail
  rw [rounds_succ]
  go_wp2_with fail
  rw [rounds_succ]
  go_wp2_with fail
  rw [rounds_succ]
  go_wp2_with fail
  rw [rounds_succ]
  go_wp2_with fail
  go_ret2
  have hal := (Below.refl w1.heap.size w1).alloc (Nat.le_refl _) (.cells #[.pointer (some ⟨sb, 0, none⟩), .int .i64 ky, .int .i64 il, .int .i64 li, .int .i64 ac] 97)
  exact ⟨w1.heap.size, rfl, ⟨Blk.new w1 _ _, H1.out.keep hal, HR.out, Nat.le_trans hB HAL.out.size⟩, HAL.out.size, below_2 HAL.out hal⟩
theorem okN_not {x : Int} (h : okN x = false) : x < 0 ∨ 1099511627776 < x := by
  by_cases h0 : x < 0
  · exact .inl h0
  · by_cases h1 : 1099511627776 < x
    · exact .inr h1
    · rw [okN_iff.2 ⟨by omega, by omega⟩] at h
      cases h
theorem ruB_not {r : Ru} (h : ruB r = false) : okN r.key = false ∨ (okN r.key = true ∧ (okN r.idle = false ∨ (okN r.idle = true ∧ (okN r.life = false ∨ (okN r.life = true ∧ okN r.access = false))))) := by
  unfold ruB at h
  cases h1 : okN r.key <;> cases h2 : okN r.idle <;> cases h3 : okN r.life <;> cases h4 : okN r.access <;> simp_all
set_option maxHeartbeats 4000000 in
set_option maxRecDepth 100000 in
theorem svc_new_no {sb : Nat} {r : Ru} {W : World} (hr : ruB r = false) :
    Calls Tryz.prog 18 #[.pointer (some ⟨sb, 0, none⟩), .agg #[.int .i64 r.key, .int .i64 r.idle, .int .i64 r.life, .int .i64 r.access]] W fun e w' => e = .returned (.tuple #[.pointer none, errV 2]) ∧ Below W.heap.size W w' := by
  have hn := ruB_not hr
  clear hr
  obtain ⟨ky, il, li, ac⟩ := r
  dsimp only at *
  have hal := alloc2 W (.cells #[.int .i64 ky, .int .i64 il, .int .i64 li, .int .i64 ac] 28) (.cells #[.int .i64 ky, .int .i64 il, .int .i64 li, .int .i64 ac] 3)
  have HAL := Lib.hid hal
  have hg : Blk ((W.alloc (.cells #[.int .i64 ky, .int .i64 il, .int .i64 li, .int .i64 ac] 28)).alloc (.cells #[.int .i64 ky, .int .i64 il, .int .i64 li, .int .i64 ac] 3)) (W.heap.size + 1) 3 #[.int .i64 ky, .int .i64 il, .int .i64 li, .int .i64 ac] := by
    have := Blk.new (W.alloc (.cells #[.int .i64 ky, .int .i64 il, .int .i64 li, .int .i64 ac] 28)) 3 #[.int .i64 ky, .int .i64 il, .int .i64 li, .int .i64 ac]
    rw [show (W.alloc (.cells #[.int .i64 ky, .int .i64 il, .int .i64 li, .int .i64 ac] 28)).heap.size = W.heap.size + 1 by simp] at this
    exact this
  have HG3 := Lib.hid hg
  clear hal hg
  go_enter Tryz.func18, Tryz.ntmps18
  go_wp2_with fail
  generalize (W.alloc (.cells #[.int .i64 ky, .int .i64 il, .int .i64 li, .int .i64 ac] 28)).alloc (.cells #[.int .i64 ky, .int .i64 il, .int .i64 li, .int .i64 ac] 3) = w1 at *
  obtain ⟨x0, x1, x2, x3⟩ := tok_cells HG3.out
  refine wp_loop_rounds 5 ?_
  rcases hn with h | ⟨k1, h | ⟨k2, h | ⟨k3, h⟩⟩⟩
  · rcases okN_not h with hx | hx
    · rw [rounds_succ]
      go_wp2_with fail
      go_ret2
      exact ⟨by rw [errV_n (by decide)]; rfl, HAL.out⟩
    · have hx0 : ¬ ky < 0 := by omega
      rw [rounds_succ]
      go_wp2_with fail
      go_ret2
      exact ⟨by rw [errV_n (by decide)]; rfl, HAL.out⟩
  · obtain ⟨p0, q0⟩ := okN_iff.1 k1
    rcases okN_not h with hx | hx
    · rw [rounds_succ]
      go_wp2_with fail
      rw [rounds_succ]
      go_wp2_with fail
      go_ret2
      exact ⟨by rw [errV_n (by decide)]; rfl, HAL.out⟩
    · have hx0 : ¬ il < 0 := by omega
      rw [rounds_succ]
      go_wp2_with fail
      rw [rounds_succ]
      go_wp2_with fail
      go_ret2
      exact ⟨by rw [errV_n (by decide)]; rfl, HAL.out⟩
  · obtain ⟨p0, q0⟩ := okN_iff.1 k1
    obtain ⟨p1, q1⟩ := okN_iff.1 k2
    rcases okN_not h with hx | hx
    · rw [rounds_succ]
      go_wp2_with fail
      rw [rounds_succ]
      go_wp2_with fail
      rw [rounds_succ]
      go_wp2_with fail
      go_ret2
      exact ⟨by rw [errV_n (by decide)]; rfl, HAL.out⟩
    · have hx0 : ¬ li < 0 := by omega
      rw [rounds_succ]
      go_wp2_with fail
      rw [rounds_succ]
      go_wp2_with fail
      rw [rounds_succ]
      go_wp2_with fail
      go_ret2
      exact ⟨by rw [errV_n (by decide)]; rfl, HAL.out⟩
  · obtain ⟨p0, q0⟩ := okN_iff.1 k1
    obtain ⟨p1, q1⟩ := okN_iff.1 k2
    obtain ⟨p2, q2⟩ := okN_iff.1 k3
    rcases okN_not h with hx | hx
    · rw [rounds_succ]
      go_wp2_with fail
      rw [rounds_succ]
      go_wp2_with fail
      rw [rounds_succ]
      go_wp2_with fail
      rw [rounds_succ]
      go_wp2_with fail
      go_ret2
      exact ⟨by rw [errV_n (by decide)]; rfl, HAL.out⟩
    · have hx0 : ¬ ac < 0 := by omega
      rw [rounds_succ]
      go_wp2_with fail
      rw [rounds_succ]
      go_wp2_with fail
      rw [rounds_succ]
      go_wp2_with fail
      rw [rounds_succ]
      go_wp2_with fail
      go_ret2
      exact ⟨by rw [errV_n (by decide)]; rfl, HAL.out⟩

end Go.Proofs.YtckohmhhcknmaaaGreatDoor

/-
  rotorref.Right: may rules be?
-/
namespace Go.Proofs.YtckohmhhcknmaaaGreatDoor
open Go.RowKit Go.Sort

theorem ref_okN (x : Int) (w : World) : Calls Tryz.prog 56 #[.int .i64 x, .int .i64 0, .int .i64 1099511627776] w fun e w' => e = .returned (.bool (okN x)) ∧ w = w' := ref_in3 x 0 1099511627776 w
set_option maxHeartbeats 1000000 in
set_option maxRecDepth 100000 in
theorem ref_right (r : Ru) (W : World) : Calls Tryz.prog 20 #[.agg #[.int .i64 r.key, .int .i64 r.idle, .int .i64 r.life, .int .i64 r.access]] W fun e w' => e = .returned (.bool (ruB r)) ∧ Below W.heap.size W w' := by
  obtain ⟨ky, il, li, ac⟩ := r
  unfold ruB
  dsimp only
  have H1 := Lib.hid (fun w => ref_okN ky w)
  have H2 := Lib.hid (fun w => ref_okN il w)
  have H3 := Lib.hid (fun w => ref_okN li w)
  have H4 := Lib.hid (fun w => ref_okN ac w)
  have hal : Below W.heap.size W (W.alloc (.cells #[.int .i64 ky, .int .i64 il, .int .i64 li, .int .i64 ac] 28)) := (Below.refl _ _).alloc (Nat.le_refl _) _
  have HAL := Lib.hid hal
  obtain ⟨y0, y1, y2, y3⟩ := tok_cells (Blk.new W 28 #[.int .i64 ky, .int .i64 il, .int .i64 li, .int .i64 ac])
  clear hal
  cases h1 : okN ky
  all_goals cases h2 : okN il
  all_goals cases h3 : okN li
  all_goals cases h4 : okN ac
  all_goals
    rw [h1] at H1
    rw [h2] at H2
    rw [h3] at H3
    rw [h4] at H4
    clear h1 h2 h3 h4
    go_enter Tryz.func20, Tryz.ntmps20
    go_wp2_with (first
      | (go_at_call 56; (with_reducible refine (H1.out _).mono ?_); rintro e w' ⟨rfl, rfl⟩)
      | (go_at_call 56; (with_reducible refine (H2.out _).mono ?_); rintro e w' ⟨rfl, rfl⟩)
      | (go_at_call 56; (with_reducible refine (H3.out _).mono ?_); rintro e w' ⟨rfl, rfl⟩)
      | (go_at_call 56; (with_reducible refine (H4.out _).mono ?_); rintro e w' ⟨rfl, rfl⟩))
    go_ret
    exact ⟨rfl, HAL.out⟩
end Go.Proofs.YtckohmhhcknmaaaGreatDoor

/-
  The facts that the statement ScopeOrder begins with, in plain Lean.
-/
namespace Go.Proofs.YtckohmhhcknmaaaGreatDoor

end Go.Proofs.YtckohmhhcknmaaaGreatDoor

/-
  A service with the power on, in plain Lean: what it adds is added; a token that it gave is read as that; one family's turns.
-/
namespace Go.Proofs.YtckohmhhcknmaaaGreatDoor
open Go.RowKit

theorem offS_on {z : SS} (h : z.off = false) : offS z = false := by unfold offS; rw [h]; rfl
theorem SS_eta (z : SS) {s : St} {b c : Bool} (h1 : z.s = s) (h2 : z.off = b) (h3 : z.down = c) : z = ⟨s, z.log, z.writes, b, z.left, c⟩ := by
  subst h1
  subst h2
  subst h3
  rfl
/-- with the power on an event that may be is added -/
theorem addS_on {z : SS} {e : Ev} (ho : z.off = false) (hd : z.down = false) (he : evB e = true) (hl : (applyS z.s e).fams.length ≤ 20) : ∃ lg wr lf, addS z e = (⟨applyS z.s e, lg, wr, false, lf, false⟩, 0) := by
  by_cases h16 : z.log = 16
  · have hk := manyS_keeps (z.s.fams.length + 1) z
    have hrun : runS (z.s.fams.length + 1) z = (manyS (z.s.fams.length + 1) z, true) := by
      have := runS_many (z.s.fams.length + 1) 0 z fun j _ => offS_on ((manyS_keeps j z).2.2.1.trans ho)
      rw [Nat.add_zero] at this
      rw [this]
      rfl
    have hoff : (logS (manyS (z.s.fams.length + 1) z) 0).off = false := hk.2.2.1.trans ho
    refine ⟨(nowS (oneS (logS (manyS (z.s.fams.length + 1) z) 0)) (applyS z.s e)).log, (nowS (oneS (logS (manyS (z.s.fams.length + 1) z) 0)) (applyS z.s e)).writes, (nowS (oneS (logS (manyS (z.s.fams.length + 1) z) 0)) (applyS z.s e)).left, ?_⟩
    rw [addS_save hd he hl h16, saveS_yes hd hrun, if_pos rfl, lastS_on (offS_on hoff)]
    have e1 : (nowS (oneS (logS (manyS (z.s.fams.length + 1) z) 0)) (applyS z.s e)).off = false := hk.2.2.1.trans ho
    have e2 : (nowS (oneS (logS (manyS (z.s.fams.length + 1) z) 0)) (applyS z.s e)).down = false := hk.2.2.2.trans hd
    rw [← e1]
    exact Prod.ext (SS_eta _ rfl rfl (e2.trans e1.symm)) rfl
  · have e1 : (nowS (oneS z) (applyS z.s e)).off = false := ho
    have e2 : (nowS (oneS z) (applyS z.s e)).down = false := hd
    refine ⟨(nowS (oneS z) (applyS z.s e)).log, (nowS (oneS z) (applyS z.s e)).writes, (nowS (oneS z) (applyS z.s e)).left, ?_⟩
    rw [addS_one hd he hl h16, lastS_on (offS_on ho), ← e1]
    exact Prod.ext (SS_eta _ rfl rfl (e2.trans e1.symm)) rfl
/-- an event that is added: what a plan comes to -/
theorem doPlan_on {α : Type} {d : α} {z z' : SS} {ev : Ev} {a : α} {e : Int} (h : addS z ev = (z', 0)) : doPlan d z (.put ev a e) = (z', a, e) := by
  have h2 : (addS z ev).2 = 0 := by rw [h]
  have h1 : (addS z ev).1 = z' := by rw [h]
  have : doPlan d z (.put ev a e) = ((addS z ev).1, a, e) := if_pos h2
  rw [this, h1]
theorem dot_join (B : ByteArray) (l t : List UInt8) (h : B = txt l) : B ++ (⟨#[46]⟩ : ByteArray) ++ (⟨t.toArray⟩ : ByteArray) = txt (l ++ 46 :: t) := by
  have e1 : (⟨#[46]⟩ : ByteArray) = txt [46] := rfl
  have e2 : (⟨t.toArray⟩ : ByteArray) = txt t := rfl
  rw [h, e1, e2, txt_app, txt_app, List.append_assoc]
  rfl
theorem tokS_text {key a b c d : Int} (h : tokOk a b c d) : tokS key a b c d = txt (bodyL a b c d ++ 46 :: tagL key (bodyL a b c d)) := by
  have hb : bodyS a b c d = txt (bodyL a b c d) := bodyS_L (h.1.imp (·.1) (·.1))
  unfold tokS tagS
  rw [dot_join _ _ _ hb, hb, data_txt]
/-- a token's text is that token again -/
theorem tokOf_tokS {r : Ru} {a b c d : Int} (h : tokOk a b c d) : tokOf r (tokS r.key a b c d) = (0, a, b, c, d) := by
  unfold tokOf
  rw [tokS_text h, data_txt, tokR_text h (tagB_tagL _ _), if_pos rfl]
theorem tokS_len {key a b c d : Int} (h : tokOk a b c d) : (tokS key a b c d).size ≤ 100 := by
  have hsz := bodyS_size a b c d (right_ok.2 h)
  rw [bodyS_L (h.1.imp (·.1) (·.1))] at hsz
  have hbl : (bodyL a b c d).length ≤ 70 := hsz
  have htl := tagB_len (tagB_tagL key (bodyL a b c d))
  rw [tokS_text h]
  show (bodyL a b c d ++ 46 :: tagL key (bodyL a b c d)).length ≤ 100
  simp [htl]
  omega
theorem tok_one {b c : Int} (hb : okN b = true) (hc : okN c = true) : tokOk 1 b c 0 := ⟨.inl ⟨rfl, rfl⟩, hb, hc⟩
/-- one family alone -/
structure Ag (z : SS) (c : Int) (f : Fam) : Prop where
  s : z.s = ⟨c, 2, [f]⟩
  off : z.off = false
  down : z.down = false
  id : f.id = 1
  fb : famB f = true
  dead : f.dead = false
  made : f.made = 0
  c0 : 0 ≤ c
theorem capN_ge {a b c : Int} (ha : 0 ≤ a) (hb : c ≤ b) (hc : c ≤ 1000) : ¬ capN a b < c := by
  unfold capN
  split <;> omega
theorem Ag.live {r : Ru} {z : SS} {c : Int} {f : Fam} (h : Ag z c f) (h1 : c ≤ r.idle) (h2 : c ≤ r.life) (h3 : c ≤ 1000) {g : Int} (hg : okN g = true) : liveR r z.s (tokS r.key 1 1 g 0) 1 = ⟨0, g, 0, f⟩ := by
  have hold : oldB r c f = false := by
    unfold oldB
    rw [Bool.or_eq_false_iff]
    refine ⟨decide_eq_false (capN_ge (okN_iff.1 (famB_parts h.fb).2.2.2.1).1 h1 h3), decide_eq_false (capN_ge ?_ h2 h3)⟩
    rw [h.made]
    exact Int.le_refl _
  have hf : findF [f] 1 = some f := by simp [findF, h.id]
  unfold liveR
  rw [tokOf_tokS (tok_one (by decide) hg), h.s]
  simp only [hf, h.dead, hold]
  simp
/-- the family's turn -/
theorem Ag.turn {r : Ru} {z : SS} {c : Int} {f : Fam} (h : Ag z c f) (h1 : c ≤ r.idle) (h2 : c ≤ r.life) (h3 : c ≤ 1000) (hgen : f.gen ≤ 1000) {q sc : ByteArray} (hq : nameB q.data.toList = true) (hs : scopeN sc.data.toList = 0) (hw : withB (leastL sc.data.toList) f.scope.data.toList = true) :
    ∃ f' z', doPlan noneS z (rotateP r z.s (tokS r.key 1 1 f.gen 0) q sc) = (z', tokS r.key 1 1 (f.gen + 1) 0, 0) ∧ Ag z' c f' ∧ f'.gen = f.gen + 1 ∧ f'.request = q ∧ f'.scope = txt (leastL sc.data.toList) := by
  have hfb := famB_parts h.fb
  have hg0 := okN_iff.1 hfb.2.1
  have hg1 : okN (f.gen + 1) = true := okN_iff.2 ⟨by omega, by omega⟩
  have hp : rotateP r z.s (tokS r.key 1 1 f.gen 0) q sc = .put (putEv (turnF z.s f q sc)) (tokS r.key 1 1 (f.gen + 1) 0) 0 := by
    unfold rotateP
    rw [hq, if_neg (by decide), h.live h1 h2 h3 hfb.2.1]
    unfold rotateL
    dsimp only
    rw [if_neg (by simp), if_neg (by omega), if_neg (by omega), if_neg (by omega), if_neg (by simp [hs]), if_neg (by rw [hw]; decide), if_neg (by omega)]
    unfold refreshS turnF
    dsimp only
    rw [h.id]
  have hfb' : famB (turnF z.s f q sc) = true := by
    unfold famB turnF
    dsimp only
    have hsl := scope_least sc.data.toList
    have hll := least_least sc.data.toList
    have hck : okN z.s.clock = true := by rw [h.s]; exact okN_iff.2 ⟨h.c0, by show c ≤ _; omega⟩
    have hsb : scopeB (txt (leastL sc.data.toList)).data.toList = true := by rw [data_txt]; exact scopeB_iff.2 ⟨hsl.1, hll⟩
    have hrq : reqB q.data.toList = true := by unfold reqB; rw [hq]; simp
    rw [hfb.1, hg1, hfb.2.2.1, hck, hfb.2.2.2.2.1, hfb.2.2.2.2.2.1, hrq, hsb]
    rfl
  have hev : evB (putEv (turnF z.s f q sc)) = true := putEv_may hfb'
  have happ : applyS z.s (putEv (turnF z.s f q sc)) = ⟨c, 2, [turnF z.s f q sc]⟩ := by
    rw [applyS_1 rfl, h.s]
    show St.mk c (max 2 (f.id + 1)) (putL [f] (turnF ⟨c, 2, [f]⟩ f q sc)) = _
    rw [h.id]
    have ha : ahead [f] 1 = 0 := by rw [ahead_cons, h.id, if_neg (by decide)]
    have hh : hasB [f] 1 = true := by
      unfold hasB
      rw [ha]
      simp [h.id]
    have hid : (turnF ⟨c, 2, [f]⟩ f q sc).id = 1 := h.id
    unfold putL
    rw [hid, hh, ha]
    rfl
  obtain ⟨lg, wr, lf, hadd⟩ := addS_on h.off h.down hev (by rw [happ]; show 1 ≤ 20; decide)
  refine ⟨turnF z.s f q sc, ⟨applyS z.s (putEv (turnF z.s f q sc)), lg, wr, false, lf, false⟩, ?_, ⟨happ, rfl, rfl, h.id, hfb', h.dead, h.made, h.c0⟩, rfl, rfl, rfl⟩
  rw [hp]
  exact doPlan_on hadd
/-- the same request once more -/
theorem Ag.again {r : Ru} {z : SS} {c : Int} {f : Fam} (h : Ag z c f) (h1 : c ≤ r.idle) (h2 : c ≤ r.life) (h3 : c ≤ 1000) {g : Int} (hg : okN g = true) (hgen : f.gen = g + 1) {q sc : ByteArray} (hq : nameB q.data.toList = true) (hr : f.request = q) :
    doPlan noneS z (rotateP r z.s (tokS r.key 1 1 g 0) q sc) = (z, tokS r.key 1 1 f.gen 0, 0) := by
  have hp : rotateP r z.s (tokS r.key 1 1 g 0) q sc = .say (tokS r.key 1 1 f.gen 0) 0 := by
    unfold rotateP
    rw [hq, if_neg (by decide), h.live h1 h2 h3 hg]
    unfold rotateL
    dsimp only
    rw [if_neg (by simp), if_neg (by omega), if_pos ⟨by omega, by rw [hr]⟩]
    unfold refreshS
    rw [h.id]
  rw [hp]
  rfl
/-- an elder token by another request -/
theorem Ag.stolen {r : Ru} {z : SS} {c : Int} {f : Fam} (h : Ag z c f) (h1 : c ≤ r.idle) (h2 : c ≤ r.life) (h3 : c ≤ 1000) {g : Int} (hg : okN g = true) (hgen : f.gen = g + 1) {q sc : ByteArray} (hq : nameB q.data.toList = true) (hr : q.data.toList ≠ f.request.data.toList) :
    ∃ z', doPlan noneS z (rotateP r z.s (tokS r.key 1 1 g 0) q sc) = (z', noneS, 15) ∧ ∀ t' q' sc' a, tokOf r t' = (0, 1, 1, a, 0) → nameB q'.data.toList = true → doPlan noneS z' (rotateP r z'.s t' q' sc') = (z', noneS, 6) := by
  have hp : rotateP r z.s (tokS r.key 1 1 g 0) q sc = .put (putEv (deadF f)) noneS 15 := by
    unfold rotateP
    rw [hq, if_neg (by decide), h.live h1 h2 h3 hg]
    unfold rotateL
    dsimp only
    rw [if_neg (by simp), if_neg (by omega), if_neg (fun hh => hr hh.2), if_pos (by omega)]
  have hev : evB (putEv (deadF f)) = true := putEv_may h.fb
  have happ : applyS z.s (putEv (deadF f)) = ⟨c, 2, [deadF f]⟩ := by
    rw [applyS_1 rfl, h.s]
    show St.mk c (max 2 (f.id + 1)) (putL [f] (deadF f)) = _
    rw [h.id]
    have ha : ahead [f] 1 = 0 := by rw [ahead_cons, h.id, if_neg (by decide)]
    have hh : hasB [f] 1 = true := by
      unfold hasB
      rw [ha]
      simp [h.id]
    have hid : (deadF f).id = 1 := h.id
    unfold putL
    rw [hid, hh, ha]
    rfl
  obtain ⟨lg, wr, lf, hadd⟩ := addS_on h.off h.down hev (by rw [happ]; show 1 ≤ 20; decide)
  refine ⟨⟨applyS z.s (putEv (deadF f)), lg, wr, false, lf, false⟩, ?_, fun t' q' sc' a ht hq' => ?_⟩
  · rw [hp]
    exact doPlan_on hadd
  · have hf : findF [deadF f] 1 = some (deadF f) := by simp [findF, deadF, h.id]
    have hdd : (deadF f).dead = true := rfl
    have hlv : liveR r ⟨c, 2, [deadF f]⟩ t' 1 = ⟨6, 0, 0, Fam.zero⟩ := by
      unfold liveR
      rw [ht]
      simp [hf, hdd]
    dsimp only
    rw [happ]
    unfold rotateP
    rw [hq', if_neg (by decide), hlv]
    unfold rotateL
    rw [if_pos (by decide)]
    rfl
/-- the first family of an empty store -/
theorem Ag.grant {r : Ru} {cl su sc : ByteArray} (h1 : nameB cl.data.toList = true) (h2 : nameB su.data.toList = true) (hs : scopeN sc.data.toList = 0) :
    ∃ f z, doPlan noneS newS (grantP r newS.s cl su sc) = (z, tokS r.key 1 1 0 0, 0) ∧ Ag z 0 f ∧ f.gen = 0 ∧ f.scope = txt (leastL sc.data.toList) := by
  have hp : grantP r newS.s cl su sc = .put (putEv (grantF newS.s cl su sc)) (tokS r.key 1 1 0 0) 0 := by
    unfold grantP
    rw [h1, h2, if_neg (by decide), if_neg (by simp [hs]), if_neg (by decide), if_neg (by decide)]
    rfl
  have hfb : famB (grantF newS.s cl su sc) = true := by
    unfold famB grantF
    dsimp only
    have hsb : scopeB (txt (leastL sc.data.toList)).data.toList = true := by rw [data_txt]; exact scopeB_iff.2 ⟨(scope_least _).1, least_least _⟩
    rw [h1, h2, hsb]
    rfl
  have happ : applyS newS.s (putEv (grantF newS.s cl su sc)) = ⟨0, 2, [grantF newS.s cl su sc]⟩ := rfl
  obtain ⟨lg, wr, lf, hadd⟩ := addS_on (z := newS) rfl rfl (putEv_may hfb) (by rw [happ]; show 1 ≤ 20; decide)
  refine ⟨grantF newS.s cl su sc, ⟨applyS newS.s (putEv (grantF newS.s cl su sc)), lg, wr, false, lf, false⟩, ?_, ⟨happ, rfl, rfl, rfl, hfb, rfl, rfl, Int.le_refl _⟩, rfl, rfl⟩
  rw [hp]
  exact doPlan_on hadd
end Go.Proofs.YtckohmhhcknmaaaGreatDoor

/-
  A service that rotorkeep began: what lies in memory, and its calls by their plans.
-/
namespace Go.Proofs.YtckohmhhcknmaaaGreatDoor
open Go.RowKit Go.Sort

/-- a service, made since W -/
structure AW (W : World) (B vb sb db k : Nat) (r : Ru) (z : SS) (v : Value) (w : World) : Prop where
  sw : SW B vb sb db k r z v w
  below : Below W.heap.size W w
  hv : W.heap.size ≤ vb
  hs : W.heap.size ≤ sb
  hd : W.heap.size ≤ db
  err : ErrType W
  eg : 0 < W.heap.size
section
variable {W w w' : World} {B vb sb db k : Nat} {r : Ru} {z : SS} {v : Value}
theorem AW.keep (h : AW W B vb sb db k r z v w) (hb : Below w.heap.size w w') : AW W B vb sb db k r z v w' := ⟨h.sw.keep hb, below_2 h.below hb, h.hv, h.hs, h.hd, h.err, h.eg⟩
theorem AW.drew (h : AW W B vb sb db k r z v w) : AW W B vb sb db k r z v w.drew := ⟨h.sw.drew, below_dr h.below, h.hv, h.hs, h.hd, h.err, h.eg⟩
theorem AW.two {k' : Nat} {z' : SS} {v' : Value} (h : AW W B vb sb db k r z v w) (ht : Two sb db w w') (hs : SW B vb sb db k' r z' v' w') : AW W B vb sb db k' r z' v' w' := ⟨hs, ht.below h.below h.below.size h.hs h.hd, h.hv, h.hs, h.hd, h.err, h.eg⟩
theorem AW.et (h : AW W B vb sb db k r z v w) : ErrType w := h.err.below h.below h.eg
/-- a row of families that lies elsewhere is kept -/
theorem SW.rows (h : SW B vb sb db k r z v w) (ht : Two sb db w w') {B' : Nat} {x : Value} {L : List Fam} (hr : FRow w B' x L) : FRow w' B' x L := by
  obtain ⟨⟨ca, ha⟩, cb, hb⟩ := h.sx.blocks
  exact hr.two ht (hr.apart ha (by decide)) (hr.apart hb (by decide))
/-- a block that is none of the store's is kept -/
theorem SW.others (h : SW B vb sb db k r z v w) (ht : Two sb db w w') {g : Nat} {T : TypeId} {cs : Array Value} (hb : Blk w g T cs) (h1 : T ≠ 117) (h2 : T ≠ 59) : Blk w' g T cs := by
  obtain ⟨⟨ca, ha⟩, cb, hc⟩ := h.sx.blocks
  exact hb.two ht (hb.ne_ ha h1) (hb.ne_ hc h2)
/-- what lies elsewhere is kept -/
def Rest (w w' : World) : Prop := (∀ B' x L, FRow w B' x L → FRow w' B' x L) ∧ ∀ g T cs, Blk w g T cs → T ≠ 117 → T ≠ 59 → Blk w' g T cs
theorem SW.rest (h : SW B vb sb db k r z v w) (ht : Two sb db w w') : Rest w w' := ⟨fun _ _ _ hr => h.rows ht hr, fun _ _ _ hb h1 h2 => h.others ht hb h1 h2⟩
/-- a call that told a text -/
def Told (W : World) (B vb sb db k : Nat) (r : Ru) (w : World) (R : SS × ByteArray × Int) (e : Ending) (w' : World) : Prop :=
  e = .returned (.tuple #[.string R.2.1, errV R.2.2]) ∧ (∃ v', AW W B vb sb db (k + 1) r R.1 v' w') ∧ Rest w w'
theorem told_of {p : Plan ByteArray} {e : Ending} (h : AW W B vb sb db k r z v w) (hp : PlanS w B vb sb db k r z p e w') : Told W B vb sb db k r w (doPlan noneS z p) e w' := by
  obtain ⟨he, ht, v', hs⟩ := hp
  exact ⟨he, ⟨v', h.two ht hs⟩, h.sw.rest ht⟩
theorem AW.grant (h : AW W B vb sb db k r z v w) (hk : k < 1000000) (cl su sc : ByteArray) (h1 : cl.size ≤ 1000) (h2 : su.size ≤ 1000) (h3 : sc.size ≤ 1000) :
    Calls Tryz.prog 9 #[.pointer (some ⟨vb, 0, none⟩), .string cl, .string su, .string sc] w (Told W B vb sb db k r w (doPlan noneS z (grantP r z.s cl su sc))) :=
  (svc_grant h.sw hk cl su sc h1 h2 h3).mono fun _ _ hp => told_of h hp
theorem AW.state (h : AW W B vb sb db k r z v w) : Calls Tryz.prog 14 #[.pointer (some ⟨vb, 0, none⟩)] w (GotAs w z.s.clock z.s.next z.s.fams) := (svc_state h.sw).mono fun _ _ h => got_as h
theorem AW.granted (h : AW W B vb sb db k r z v w) (hk : k < 1000000) {cl su sc : ByteArray} (h1 : cl.size ≤ 1000) (h2 : su.size ≤ 1000) (h3 : sc.size ≤ 1000) {z' : SS} {t' : ByteArray} {c : Int} (hd : doPlan noneS z (grantP r z.s cl su sc) = (z', t', c)) {u : Value} (hu : errV c = u) :
    Calls Tryz.prog 9 #[.pointer (some ⟨vb, 0, none⟩), .string cl, .string su, .string sc] w fun e w' => e = .returned (.tuple #[.string t', u]) ∧ ∃ v', AW W B vb sb db (k + 1) r z' v' w' :=
  (h.grant hk cl su sc h1 h2 h3).mono fun e w' ⟨he, hv, _⟩ => by
    rw [hd] at he hv
    rw [← hu]
    exact ⟨he, hv⟩
end
end Go.Proofs.YtckohmhhcknmaaaGreatDoor
