/-
  StorePlays: the walk.
-/
import Derived.Test.YtdogilbnbbeljaaGreatDoorH44
namespace Go.Proofs.YtdogilbnbbeljaaGreatDoor
open Go.RowKit Go.Sort

set_option maxHeartbeats 16000000 in
set_option maxRecDepth 100000 in
theorem plays_walk (W : World) (A : Option Addr) (g off cap : Nat) (E : List DoP) (hE : E.length ≤ 120) (hA : E ≠ [] → A = some ⟨g, off, none⟩) (hdos : E ≠ [] → DpsAt W g off E ∧ g < W.heap.size)
    (hEnv : Env W.heap.size W) (het : ErrType W) (hs : ∀ d ∈ E, d.ev.fam.len ≤ 1000000000000000) :
    Calls Tryz.prog 4 #[.slice A E.length cap] W fun x w' => x = .returned (.bool true) ∧ Below W.heap.size W w' := by
  have HA := Lib.hid hA
  have HS := Lib.hid hs
  have HD := Lib.hid hdos
  have HEN := Lib.hid hEnv
  have HET := Lib.hid het
  clear hA hdos hEnv het hs
  go_enter Tryz.func4, Tryz.ntmps4
  go_wp2_with fail
  go_at_call 6
  have HDI := Lib.hid (DI.new HEN.out (Nat.le_refl _))
  have hb0 : Below W.heap.size W (W.alloc (.cells Tryz.zeroCells28 28)) := (Below.refl _ _).alloc (Nat.le_refl _) _
  refine (sx_first HDI.out).mono ?_
  rintro e w1 ⟨sb, v, rfl, hsx, hsb, hb⟩
  have HSX := Lib.hid hsx
  have HB := Lib.hid (below_2 hb0 hb)
  have hsb' : W.heap.size ≤ sb := Nat.le_trans hb0.size hsb
  clear hsx hb hb0 hsb HDI
  go_wp2_with fail
  go_at_call 6
  refine (store_open_nil _).mono ?_
  rintro e w2 ⟨rfl, rfl⟩
  go_wp2_with fail
  go_at_call 16
  refine (new_store _).mono ?_
  rintro e w2 ⟨rb, rfl, hra, hrb, hb⟩
  have HPL := Lib.hid (show PL W g off E W.heap.size rb 0 sb newS v (.slice none 0 0) w2 from ⟨HSX.out.keep hb, hra, FRow.nil _ _, Nat.le_trans HB.out.size hrb, below_2 HB.out hb, HET.out, HET.out.lt, HD.out⟩)
  clear hra hrb hb HSX HB
  --LOOP
  go_wp2_with fail
  go_at_call 17
  refine (bare_no 7 7 _ HPL.out.et).mono ?_
  rintro e w3 ⟨rfl, hb⟩
  have HP0 := Lib.hid (HPL.out.keep hb)
  clear hb HPL
  go_wp2_with fail
  go_loopw [4, 9] (fun sv i wr => PlRel W g off E W.heap.size rb sv i wr) (fun _ i _ => E.length - (intOf i).toNat)
  case atStart => exact ⟨0, sb, newS, v, _, Nat.zero_le _, rfl, rfl, HP0.out⟩
  case round =>
    obtain ⟨k, sb, z, v, vr, hk, rfl, rfl, hpl⟩ := hrel
    have HP := Lib.hid hpl
    clear hpl HP0
    by_cases hlt : k < E.length
    · obtain rfl := HA.out (by rintro rfl; simp at hlt)
      obtain ⟨e, he⟩ : ∃ e, E[k]? = some e := ⟨_, List.getElem?_eq_getElem hlt⟩
      have hbig := HS.out e (List.mem_of_getElem? he)
      have h0 : (0 : Int) ≤ (k : Int) := by omega
      have h1 : (k : Int) < (E.length : Int) := by omega
      have HM := Lib.hid (fun w => law_short e.ev w hbig)
      obtain ⟨wh, q, ⟨kd, ⟨i, cl, su, sc, ge, ma, us, re, de⟩, id, ti⟩⟩ := e
      obtain ⟨d0, d1, d2, d3, d4, d5, d6, d7, d8, d9, d10, d11, d12, d13⟩ := HP.out.fourteen he
      have HE := Lib.hid he
      unfold evVal evCs at HM
      dsimp only at HM hbig
      clear he
      have hal : Below wr.heap.size wr (wr.alloc (.cells (dpCs ⟨wh, q, ⟨kd, ⟨i, cl, su, sc, ge, ma, us, re, de⟩, id, ti⟩⟩) 58)) := (Below.refl _ _).alloc (Nat.le_refl _) _
      have HX0 := Lib.hid (show XB wr.heap.size ⟨wh, q, ⟨kd, ⟨i, cl, su, sc, ge, ma, us, re, de⟩, id, ti⟩⟩ (wr.alloc (.cells (dpCs ⟨wh, q, ⟨kd, ⟨i, cl, su, sc, ge, ma, us, re, de⟩, id, ti⟩⟩) 58)) from Blk.new wr _ _)
      have HP1 := Lib.hid (HP.out.keep hal)
      unfold dpCs at HX0 HP1
      dsimp only at HX0 HP1
      clear hal HP
      go_wp2_with fail
      go_at_call 18
      refine (HM.out _).mono ?_
      rintro x' w1 ⟨rfl, hb⟩
      have HX1 := Lib.hid (XB.keep HX0.out hb)
      have HQ := Lib.hid (HP1.out.keep hb)
      clear hb HX0 HP1 HM d0 d1 d2 d3 d4 d5 d6 d7 d8 d9 d10 d11 d12 d13
      by_cases hsh : (Fam.mk i cl su sc ge ma us re de).len ≤ 300
      · have HSH := Lib.hid (Fam.short_of (f := ⟨i, cl, su, sc, ge, ma, us, re, de⟩) (n := 1000) (by omega))
        have hdec : decide ((Fam.mk i cl su sc ge ma us re de).len ≤ 300) = true := decide_eq_true hsh
        obtain ⟨_, x0, x1, x2, x3, x4, x5, x6, x7, x8, x9, x10, x11, x12, x13⟩ := XB.all HX1.out
        clear hsh
        by_cases hw : wh < 0 ∨ 4 < wh
        · as_aux_lemma =>
            have hw3 : ¬ wh = 0 := by omega
            go_wp2_with fail
            have HP := Lib.hid (HQ.out.later)

            have hfit := HP.out.sx.fit
            have hlen := hfit.len
            obtain ⟨ra, rc, hrv⟩ := HP.out.rr.slice
            subst hrv
            have HD := PL.tail HP.out.drew
            have HT1 := Lib.hid (fun w (h : PL W g off E W.heap.size rb (k + 1) sb z v (.slice ra z.s.fams.length rc) w) => h.state)
            have HT2 := Lib.hid (fun w (h : PL W g off E W.heap.size rb (k + 1) sb z v (.slice ra z.s.fams.length rc) w) => h.logged)
            have HT3 := Lib.hid (fun w (h : PL W g off E W.heap.size rb (k + 1) sb z v (.slice ra z.s.fams.length rc) w) => h.downed)
            have HT4 := Lib.hid (fun w (h : PL W g off E W.heap.size rb (k + 1) sb z v (.slice ra z.s.fams.length rc) w) => h.written)
            have HSA := Lib.hid (fun w a1 c1 B' (h : PL W g off E W.heap.size rb (k + 1) sb z v (.slice ra z.s.fams.length rc) w) hr => h.same (a1 := a1) (c1 := c1) (B' := B') hr)
            clear hfit hlen HP
            have hq1 : ((z).log != (z).log) = false := by simp
            have hq2 : ((z).down != (z).down) = false := by simp
            have hq3 : ((z).writes != (z).writes) = false := by simp
            go_wp2_with fail
            go_region_held3 (fun w' => PL W g off E W.heap.size rb (k + 1) sb z v (.slice ra z.s.fams.length rc) w' ∧ w'.cell? ⟨rb, 0, none⟩ = some (.int .i64 (z).s.clock) ∧ w'.cell? ⟨rb, 1, none⟩ = some (.int .i64 (z).s.next) ∧ w'.cell? ⟨rb, 2, none⟩ = some (.slice ra (z).s.fams.length rc) ∧ w'.cell? ⟨rb, 3, none⟩ = some (.int .i64 (z).log) ∧ w'.cell? ⟨rb, 4, none⟩ = some (.int .i64 (z).writes) ∧ w'.cell? ⟨rb, 7, none⟩ = some (.bool (z).down))
              (first
                | with_reducible assumption
                | with_reducible exact HD
                | with_reducible exact PL.tail (PL.keep (And.left (by assumption)) (by assumption)))
              (first
                | (go_at_call 14; (with_reducible refine (HT1.out _ (And.left (by assumption))).mono ?_); rintro x' w7 ⟨a1, c1, rfl, hr1, hb1⟩)
                | (go_at_call 15; (with_reducible refine (HSA.out _ _ _ _ (And.left (by assumption)) hr1).mono ?_); rintro x' w8 ⟨q9, rfl, hq9, hb2⟩; obtain rfl := hq9 trivial)
                | (go_at_call 24; (with_reducible refine (HT2.out _ (And.left (by assumption))).mono ?_); rintro x' w9 ⟨rfl, hb3⟩)
                | (go_at_call 25; (with_reducible refine (HT3.out _ (And.left (by assumption))).mono ?_); rintro x' w10 ⟨rfl, hb4⟩)
                | (go_at_call 26; (with_reducible refine (HT4.out _ (And.left (by assumption))).mono ?_); rintro x' w11 ⟨rfl, rfl⟩))
            go_wp2_with fail
            go_roundw
            case rel => exact ⟨k + 1, sb, z, v, _, by omega, by go_num, rfl, And.left (by assumption)⟩
            case measure => simp [intOf]; omega
        · have hc : wh = 0 ∨ wh = 1 ∨ wh = 2 ∨ wh = 3 ∨ wh = 4 := by omega
          clear hw
          rcases hc with rfl | rfl | rfl | rfl | rfl
          · as_aux_lemma =>
              have HADD : Hid (∀ w, SX W.heap.size sb W.heap.size k z v w → Calls Tryz.prog 11 #[.pointer (some ⟨sb, 0, none⟩), evVal ⟨kd, ⟨i, cl, su, sc, ge, ma, us, re, de⟩, id, ti⟩] w (DoneX w W.heap.size sb W.heap.size k (addS z ⟨kd, ⟨i, cl, su, sc, ge, ma, us, re, de⟩, id, ti⟩))) := Lib.hid fun w h => sx_add h (by omega) ⟨kd, ⟨i, cl, su, sc, ge, ma, us, re, de⟩, id, ti⟩ HSH.out
              have hlg := HQ.out.sx.log_
              have hfit := HQ.out.sx.fit
              have HREF : Hid (∀ w, RAt w rb z vr → FRow w W.heap.size vr z.s.fams → W.heap.size ≤ w.heap.size → Calls Tryz.prog 19 #[.pointer (some ⟨rb, 0, none⟩), evVal ⟨kd, ⟨i, cl, su, sc, ge, ma, us, re, de⟩, id, ti⟩] w (RefAdd w W.heap.size rb (addS z ⟨kd, ⟨i, cl, su, sc, ge, ma, us, re, de⟩, id, ti⟩))) := Lib.hid fun w h hr hB => ref_add W.heap.size rb z vr ⟨kd, ⟨i, cl, su, sc, ge, ma, us, re, de⟩, id, ti⟩ w h hr hB hfit HSH.out (by omega)
              have HHP := Lib.hid (fun w => law_happens ⟨kd, ⟨i, cl, su, sc, ge, ma, us, re, de⟩, id, ti⟩ w)
              generalize addS z ⟨kd, ⟨i, cl, su, sc, ge, ma, us, re, de⟩, id, ti⟩ = R at *
              unfold evVal evCs at HADD HREF HHP
              dsimp only at HADD HREF HHP
              clear hlg hfit
              go_wp2_with fail
              have HQD := HQ.out.drew
              have HXD := XB.all (show XB wr.heap.size ⟨0, q, ⟨kd, ⟨i, cl, su, sc, ge, ma, us, re, de⟩, id, ti⟩⟩ w1.drew from HX1.out)
              obtain ⟨⟨ca, hca⟩, cb, hcb⟩ := HQD.sx.blocks
              clear HQ HX1 x0 x1 x2 x3 x4 x5 x6 x7 x8 x9 x10 x11 x12 x13 HSH
              go_region_held3 (fun w' => XB wr.heap.size ⟨0, q, ⟨kd, ⟨i, cl, su, sc, ge, ma, us, re, de⟩, id, ti⟩⟩ w' ∧ w'.cell? ⟨wr.heap.size, 0, none⟩ = some (.int .i64 0) ∧ w'.cell? ⟨wr.heap.size, 1, none⟩ = some (.int .i64 q) ∧ w'.cell? ⟨wr.heap.size, 2, none⟩ = some (.int .i64 kd) ∧ w'.cell? ⟨wr.heap.size, 3, none⟩ = some (.int .i64 i) ∧ w'.cell? ⟨wr.heap.size, 4, none⟩ = some (.string cl) ∧ w'.cell? ⟨wr.heap.size, 5, none⟩ = some (.string su) ∧ w'.cell? ⟨wr.heap.size, 6, none⟩ = some (.string sc) ∧ w'.cell? ⟨wr.heap.size, 7, none⟩ = some (.int .i64 ge) ∧ w'.cell? ⟨wr.heap.size, 8, none⟩ = some (.int .i64 ma) ∧ w'.cell? ⟨wr.heap.size, 9, none⟩ = some (.int .i64 us) ∧ w'.cell? ⟨wr.heap.size, 10, none⟩ = some (.string re) ∧ w'.cell? ⟨wr.heap.size, 11, none⟩ = some (.bool de) ∧ w'.cell? ⟨wr.heap.size, 12, none⟩ = some (.int .i64 id) ∧ w'.cell? ⟨wr.heap.size, 13, none⟩ = some (.int .i64 ti))
                (first
                  | with_reducible assumption
                  | with_reducible exact HXD)
                (first
                  | (go_at_call 11; (with_reducible refine (HADD.out _ HQD.sx).mono ?_); rintro x' w2 ⟨rfl, htw, v2, hsx⟩
                     obtain ⟨hra2, hrr2, hbe2, hsx2⟩ := HQD.turn htw hsx
                     have hx2 := XB.all (XB.two (And.left HXD) htw hca hcb))
                  | (go_at_call 20; (with_reducible refine (HHP.out _).mono ?_); rintro x' w3 ⟨rfl, hb3⟩
                     have hra3 := hra2.below' hb3
                     have hrr3 := hrr2.below hb3
                     have hbe3 := below_2 hbe2 hb3
                     have hsx3 := hsx2.keep hb3
                     have hx3 := XB.all (XB.keep (And.left hx2) hb3))
                  | (go_at_call 19; (with_reducible refine (HREF.out _ hra3 hrr3 hbe3.size).mono ?_); rintro x' w4 ⟨rfl, hg4, v4, hra4, hrr4⟩
                     have hpl4 := HQD.join hra3 hbe3 hsx3 hra4 hrr4 hg4
                     have hx4 := XB.all (XB.far (And.left hx3) hg4 hra3))
                  | (go_at_call 17; (with_reducible refine (bare_same _ _ hpl4.et).mono ?_); rintro x' w5 ⟨rfl, hb5⟩
                     have hpl5 := hpl4.keep hb5
                     have hx5 := XB.all (XB.keep (And.left hx4) hb5)))
              have HP := Lib.hid hpl5
              clear hpl5 hpl4 hx5 hx4 hx3 hx2 hra4 hrr4 hg4 hra3 hrr3 hbe3 hsx3 hra2 hrr2 hbe2 hsx2 hsx htw hb3 hb5 HXD HQD hca hcb HADD HREF HHP

              have hfit := HP.out.sx.fit
              have hlen := hfit.len
              obtain ⟨ra, rc, hrv⟩ := HP.out.rr.slice
              subst hrv
              have HD := PL.tail HP.out.drew
              have HT1 := Lib.hid (fun w (h : PL W g off E W.heap.size rb (k + 1) sb R.1 v2 (.slice ra R.1.s.fams.length rc) w) => h.state)
              have HT2 := Lib.hid (fun w (h : PL W g off E W.heap.size rb (k + 1) sb R.1 v2 (.slice ra R.1.s.fams.length rc) w) => h.logged)
              have HT3 := Lib.hid (fun w (h : PL W g off E W.heap.size rb (k + 1) sb R.1 v2 (.slice ra R.1.s.fams.length rc) w) => h.downed)
              have HT4 := Lib.hid (fun w (h : PL W g off E W.heap.size rb (k + 1) sb R.1 v2 (.slice ra R.1.s.fams.length rc) w) => h.written)
              have HSA := Lib.hid (fun w a1 c1 B' (h : PL W g off E W.heap.size rb (k + 1) sb R.1 v2 (.slice ra R.1.s.fams.length rc) w) hr => h.same (a1 := a1) (c1 := c1) (B' := B') hr)
              clear hfit hlen HP
              have hq1 : ((R.1).log != (R.1).log) = false := by simp
              have hq2 : ((R.1).down != (R.1).down) = false := by simp
              have hq3 : ((R.1).writes != (R.1).writes) = false := by simp
              go_wp2_with fail
              go_region_held3 (fun w' => PL W g off E W.heap.size rb (k + 1) sb R.1 v2 (.slice ra R.1.s.fams.length rc) w' ∧ w'.cell? ⟨rb, 0, none⟩ = some (.int .i64 (R.1).s.clock) ∧ w'.cell? ⟨rb, 1, none⟩ = some (.int .i64 (R.1).s.next) ∧ w'.cell? ⟨rb, 2, none⟩ = some (.slice ra (R.1).s.fams.length rc) ∧ w'.cell? ⟨rb, 3, none⟩ = some (.int .i64 (R.1).log) ∧ w'.cell? ⟨rb, 4, none⟩ = some (.int .i64 (R.1).writes) ∧ w'.cell? ⟨rb, 7, none⟩ = some (.bool (R.1).down))
                (first
                  | with_reducible assumption
                  | with_reducible exact HD
                  | with_reducible exact PL.tail (PL.keep (And.left (by assumption)) (by assumption)))
                (first
                  | (go_at_call 14; (with_reducible refine (HT1.out _ (And.left (by assumption))).mono ?_); rintro x' w7 ⟨a1, c1, rfl, hr1, hb1⟩)
                  | (go_at_call 15; (with_reducible refine (HSA.out _ _ _ _ (And.left (by assumption)) hr1).mono ?_); rintro x' w8 ⟨q9, rfl, hq9, hb2⟩; obtain rfl := hq9 trivial)
                  | (go_at_call 24; (with_reducible refine (HT2.out _ (And.left (by assumption))).mono ?_); rintro x' w9 ⟨rfl, hb3⟩)
                  | (go_at_call 25; (with_reducible refine (HT3.out _ (And.left (by assumption))).mono ?_); rintro x' w10 ⟨rfl, hb4⟩)
                  | (go_at_call 26; (with_reducible refine (HT4.out _ (And.left (by assumption))).mono ?_); rintro x' w11 ⟨rfl, rfl⟩))
              go_wp2_with fail
              go_roundw
              case rel => exact ⟨k + 1, sb, R.1, v2, _, by omega, by go_num, rfl, And.left (by assumption)⟩
              case measure => simp [intOf]; omega
          · as_aux_lemma =>
              have HSV := Lib.hid (sx_save HQ.out.sx (by omega))
              have HSS := Lib.hid (saveS_s z).1
              have hl := HQ.out.sx.fit.len
              have HRS := Lib.hid (fun w h hr => ref_save rb z vr W.heap.size w h hr (by omega))
              generalize saveS z = R at *
              clear hl
              go_wp2_with fail
              go_at_call 10
              refine HSV.out.mono ?_
              rintro x' w2 ⟨rfl, htw, v2, hsx⟩
              obtain ⟨hra, hrr, hbe, hsx⟩ := HQ.out.turn htw hsx
              have HA2 := Lib.hid hra
              have HR2 := Lib.hid hrr
              have HB2 := Lib.hid hbe
              have HS2 := Lib.hid hsx
              clear htw hra hrr hbe hsx HSV
              go_wp2_with fail
              go_at_call 21
              refine (HRS.out _ HA2.out HR2.out).mono ?_
              rintro x' w3 ⟨rfl, hra, hg⟩
              have HP9 := Lib.hid (HQ.out.join HA2.out HB2.out HS2.out hra (by rw [HSS.out]; exact HR2.out.kept hg (HA2.out.apart HR2.out)) hg)
              clear hra hg HRS HA2 HR2 HB2 HS2 HSS HQ

              have HET9 := Lib.hid HP9.out.et
              go_wp2_with fail
              go_at_call 17
              refine (bare_same _ _ HET9.out).mono ?_
              rintro x' w8 ⟨rfl, hb⟩
              have HP := Lib.hid (HP9.out.keep hb)
              clear hb HP9 HET9 HX1 x0 x1 x2 x3 x4 x5 x6 x7 x8 x9 x10 x11 x12 x13

              have hfit := HP.out.sx.fit
              have hlen := hfit.len
              obtain ⟨ra, rc, hrv⟩ := HP.out.rr.slice
              subst hrv
              have HD := PL.tail HP.out.drew
              have HT1 := Lib.hid (fun w (h : PL W g off E W.heap.size rb (k + 1) sb R.1 v2 (.slice ra R.1.s.fams.length rc) w) => h.state)
              have HT2 := Lib.hid (fun w (h : PL W g off E W.heap.size rb (k + 1) sb R.1 v2 (.slice ra R.1.s.fams.length rc) w) => h.logged)
              have HT3 := Lib.hid (fun w (h : PL W g off E W.heap.size rb (k + 1) sb R.1 v2 (.slice ra R.1.s.fams.length rc) w) => h.downed)
              have HT4 := Lib.hid (fun w (h : PL W g off E W.heap.size rb (k + 1) sb R.1 v2 (.slice ra R.1.s.fams.length rc) w) => h.written)
              have HSA := Lib.hid (fun w a1 c1 B' (h : PL W g off E W.heap.size rb (k + 1) sb R.1 v2 (.slice ra R.1.s.fams.length rc) w) hr => h.same (a1 := a1) (c1 := c1) (B' := B') hr)
              clear hfit hlen HP
              have hq1 : ((R.1).log != (R.1).log) = false := by simp
              have hq2 : ((R.1).down != (R.1).down) = false := by simp
              have hq3 : ((R.1).writes != (R.1).writes) = false := by simp
              go_wp2_with fail
              go_region_held3 (fun w' => PL W g off E W.heap.size rb (k + 1) sb R.1 v2 (.slice ra R.1.s.fams.length rc) w' ∧ w'.cell? ⟨rb, 0, none⟩ = some (.int .i64 (R.1).s.clock) ∧ w'.cell? ⟨rb, 1, none⟩ = some (.int .i64 (R.1).s.next) ∧ w'.cell? ⟨rb, 2, none⟩ = some (.slice ra (R.1).s.fams.length rc) ∧ w'.cell? ⟨rb, 3, none⟩ = some (.int .i64 (R.1).log) ∧ w'.cell? ⟨rb, 4, none⟩ = some (.int .i64 (R.1).writes) ∧ w'.cell? ⟨rb, 7, none⟩ = some (.bool (R.1).down))
                (first
                  | with_reducible assumption
                  | with_reducible exact HD
                  | with_reducible exact PL.tail (PL.keep (And.left (by assumption)) (by assumption)))
                (first
                  | (go_at_call 14; (with_reducible refine (HT1.out _ (And.left (by assumption))).mono ?_); rintro x' w7 ⟨a1, c1, rfl, hr1, hb1⟩)
                  | (go_at_call 15; (with_reducible refine (HSA.out _ _ _ _ (And.left (by assumption)) hr1).mono ?_); rintro x' w8 ⟨q9, rfl, hq9, hb2⟩; obtain rfl := hq9 trivial)
                  | (go_at_call 24; (with_reducible refine (HT2.out _ (And.left (by assumption))).mono ?_); rintro x' w9 ⟨rfl, hb3⟩)
                  | (go_at_call 25; (with_reducible refine (HT3.out _ (And.left (by assumption))).mono ?_); rintro x' w10 ⟨rfl, hb4⟩)
                  | (go_at_call 26; (with_reducible refine (HT4.out _ (And.left (by assumption))).mono ?_); rintro x' w11 ⟨rfl, rfl⟩))
              go_wp2_with fail
              go_roundw
              case rel => exact ⟨k + 1, sb, R.1, v2, _, by omega, by go_num, rfl, And.left (by assumption)⟩
              case measure => simp [intOf]; omega
          · as_aux_lemma =>
              have HCT := Lib.hid (sx_cut HQ.out.sx q)
              have HRC := Lib.hid (fun w h => ref_cut rb z vr q w h)
              go_wp2_with fail
              go_at_call 9
              refine HCT.out.mono ?_
              rintro x' w2 ⟨rfl, hsx, hg⟩
              have HX2 := Lib.hid (XB.disk HX1.out hg HQ.out.sx.blocks.2.choose_spec)
              obtain ⟨hra, hrr, hbe, hsx⟩ := HQ.out.turn (Two.of_two hg) hsx
              have HA2 := Lib.hid hra
              have HR2 := Lib.hid hrr
              have HB2 := Lib.hid hbe
              have HS2 := Lib.hid hsx
              clear hg hra hrr hbe hsx HCT HX1 x0 x1 x2 x3 x4 x5 x6 x7 x8 x9 x10 x11 x12 x13
              obtain ⟨_, x0, x1, _⟩ := XB.all HX2.out
              go_wp2_with fail
              go_at_call 22
              refine (HRC.out _ HA2.out).mono ?_
              rintro x' w3 ⟨rfl, hra, hg⟩
              have HP := Lib.hid (HQ.out.join HA2.out HB2.out HS2.out hra (HR2.out.kept hg (HA2.out.apart HR2.out)) hg).later
              clear hra hg HRC HA2 HR2 HB2 HS2 HQ HX2 x0 x1

              have hfit := HP.out.sx.fit
              have hlen := hfit.len
              obtain ⟨ra, rc, hrv⟩ := HP.out.rr.slice
              subst hrv
              have HD := PL.tail HP.out.drew
              have HT1 := Lib.hid (fun w (h : PL W g off E W.heap.size rb (k + 1) sb (cutS z q) v (.slice ra (cutS z q).s.fams.length rc) w) => h.state)
              have HT2 := Lib.hid (fun w (h : PL W g off E W.heap.size rb (k + 1) sb (cutS z q) v (.slice ra (cutS z q).s.fams.length rc) w) => h.logged)
              have HT3 := Lib.hid (fun w (h : PL W g off E W.heap.size rb (k + 1) sb (cutS z q) v (.slice ra (cutS z q).s.fams.length rc) w) => h.downed)
              have HT4 := Lib.hid (fun w (h : PL W g off E W.heap.size rb (k + 1) sb (cutS z q) v (.slice ra (cutS z q).s.fams.length rc) w) => h.written)
              have HSA := Lib.hid (fun w a1 c1 B' (h : PL W g off E W.heap.size rb (k + 1) sb (cutS z q) v (.slice ra (cutS z q).s.fams.length rc) w) hr => h.same (a1 := a1) (c1 := c1) (B' := B') hr)
              clear hfit hlen HP
              have hq1 : (((cutS z q)).log != ((cutS z q)).log) = false := by simp
              have hq2 : (((cutS z q)).down != ((cutS z q)).down) = false := by simp
              have hq3 : (((cutS z q)).writes != ((cutS z q)).writes) = false := by simp
              go_wp2_with fail
              go_region_held3 (fun w' => PL W g off E W.heap.size rb (k + 1) sb (cutS z q) v (.slice ra (cutS z q).s.fams.length rc) w' ∧ w'.cell? ⟨rb, 0, none⟩ = some (.int .i64 ((cutS z q)).s.clock) ∧ w'.cell? ⟨rb, 1, none⟩ = some (.int .i64 ((cutS z q)).s.next) ∧ w'.cell? ⟨rb, 2, none⟩ = some (.slice ra ((cutS z q)).s.fams.length rc) ∧ w'.cell? ⟨rb, 3, none⟩ = some (.int .i64 ((cutS z q)).log) ∧ w'.cell? ⟨rb, 4, none⟩ = some (.int .i64 ((cutS z q)).writes) ∧ w'.cell? ⟨rb, 7, none⟩ = some (.bool ((cutS z q)).down))
                (first
                  | with_reducible assumption
                  | with_reducible exact HD
                  | with_reducible exact PL.tail (PL.keep (And.left (by assumption)) (by assumption)))
                (first
                  | (go_at_call 14; (with_reducible refine (HT1.out _ (And.left (by assumption))).mono ?_); rintro x' w7 ⟨a1, c1, rfl, hr1, hb1⟩)
                  | (go_at_call 15; (with_reducible refine (HSA.out _ _ _ _ (And.left (by assumption)) hr1).mono ?_); rintro x' w8 ⟨q9, rfl, hq9, hb2⟩; obtain rfl := hq9 trivial)
                  | (go_at_call 24; (with_reducible refine (HT2.out _ (And.left (by assumption))).mono ?_); rintro x' w9 ⟨rfl, hb3⟩)
                  | (go_at_call 25; (with_reducible refine (HT3.out _ (And.left (by assumption))).mono ?_); rintro x' w10 ⟨rfl, hb4⟩)
                  | (go_at_call 26; (with_reducible refine (HT4.out _ (And.left (by assumption))).mono ?_); rintro x' w11 ⟨rfl, rfl⟩))
              go_wp2_with fail
              go_roundw
              case rel => exact ⟨k + 1, sb, (cutS z q), v, _, by omega, by go_num, rfl, And.left (by assumption)⟩
              case measure => simp [intOf]; omega
          · as_aux_lemma =>
              have HCT := Lib.hid (sx_cut HQ.out.sx (-1))
              have HRC := Lib.hid (fun w h => ref_open rb z vr w h)
              go_wp2_with fail
              go_at_call 9
              refine HCT.out.mono ?_
              rintro x' w2 ⟨rfl, hsx, hg⟩
              obtain ⟨hra, hrr, hbe, hsx⟩ := HQ.out.turn (Two.of_two hg) hsx
              have HA2 := Lib.hid hra
              have HR2 := Lib.hid hrr
              have HB2 := Lib.hid hbe
              have HS2 := Lib.hid hsx
              clear hg hra hrr hbe hsx HCT HX1 x0 x1 x2 x3 x4 x5 x6 x7 x8 x9 x10 x11 x12 x13
              go_wp2_with fail
              go_at_call 6
              refine (sx_open HS2.out).mono ?_
              rintro x' w3 ⟨sb2, v2, rfl, hsx, hold, hsb, hb⟩
              have HA3 := Lib.hid (HA2.out.below' hb)
              have HR3 := Lib.hid (HR2.out.below hb)
              have HB3 := Lib.hid (below_2 HB2.out hb)
              have HS3 := Lib.hid (upS_cut hsx)
              clear hsx hold hsb hb HA2 HR2 HB2 HS2
              go_wp2_with fail
              go_at_call 23
              refine (HRC.out _ HA3.out).mono ?_
              rintro x' w4 ⟨rfl, hra, hg⟩
              have HP := Lib.hid (HQ.out.join HA3.out HB3.out HS3.out hra (HR3.out.kept hg (HA3.out.apart HR3.out)) hg).later
              clear hra hg HRC HA3 HR3 HB3 HS3 HQ

              have hfit := HP.out.sx.fit
              have hlen := hfit.len
              obtain ⟨ra, rc, hrv⟩ := HP.out.rr.slice
              subst hrv
              have HD := PL.tail HP.out.drew
              have HT1 := Lib.hid (fun w (h : PL W g off E W.heap.size rb (k + 1) sb2 (openS z) v2 (.slice ra (openS z).s.fams.length rc) w) => h.state)
              have HT2 := Lib.hid (fun w (h : PL W g off E W.heap.size rb (k + 1) sb2 (openS z) v2 (.slice ra (openS z).s.fams.length rc) w) => h.logged)
              have HT3 := Lib.hid (fun w (h : PL W g off E W.heap.size rb (k + 1) sb2 (openS z) v2 (.slice ra (openS z).s.fams.length rc) w) => h.downed)
              have HT4 := Lib.hid (fun w (h : PL W g off E W.heap.size rb (k + 1) sb2 (openS z) v2 (.slice ra (openS z).s.fams.length rc) w) => h.written)
              have HSA := Lib.hid (fun w a1 c1 B' (h : PL W g off E W.heap.size rb (k + 1) sb2 (openS z) v2 (.slice ra (openS z).s.fams.length rc) w) hr => h.same (a1 := a1) (c1 := c1) (B' := B') hr)
              clear hfit hlen HP
              have hq1 : (((openS z)).log != ((openS z)).log) = false := by simp
              have hq2 : (((openS z)).down != ((openS z)).down) = false := by simp
              have hq3 : (((openS z)).writes != ((openS z)).writes) = false := by simp
              go_wp2_with fail
              go_region_held3 (fun w' => PL W g off E W.heap.size rb (k + 1) sb2 (openS z) v2 (.slice ra (openS z).s.fams.length rc) w' ∧ w'.cell? ⟨rb, 0, none⟩ = some (.int .i64 ((openS z)).s.clock) ∧ w'.cell? ⟨rb, 1, none⟩ = some (.int .i64 ((openS z)).s.next) ∧ w'.cell? ⟨rb, 2, none⟩ = some (.slice ra ((openS z)).s.fams.length rc) ∧ w'.cell? ⟨rb, 3, none⟩ = some (.int .i64 ((openS z)).log) ∧ w'.cell? ⟨rb, 4, none⟩ = some (.int .i64 ((openS z)).writes) ∧ w'.cell? ⟨rb, 7, none⟩ = some (.bool ((openS z)).down))
                (first
                  | with_reducible assumption
                  | with_reducible exact HD
                  | with_reducible exact PL.tail (PL.keep (And.left (by assumption)) (by assumption)))
                (first
                  | (go_at_call 14; (with_reducible refine (HT1.out _ (And.left (by assumption))).mono ?_); rintro x' w7 ⟨a1, c1, rfl, hr1, hb1⟩)
                  | (go_at_call 15; (with_reducible refine (HSA.out _ _ _ _ (And.left (by assumption)) hr1).mono ?_); rintro x' w8 ⟨q9, rfl, hq9, hb2⟩; obtain rfl := hq9 trivial)
                  | (go_at_call 24; (with_reducible refine (HT2.out _ (And.left (by assumption))).mono ?_); rintro x' w9 ⟨rfl, hb3⟩)
                  | (go_at_call 25; (with_reducible refine (HT3.out _ (And.left (by assumption))).mono ?_); rintro x' w10 ⟨rfl, hb4⟩)
                  | (go_at_call 26; (with_reducible refine (HT4.out _ (And.left (by assumption))).mono ?_); rintro x' w11 ⟨rfl, rfl⟩))
              go_wp2_with fail
              go_roundw
              case rel => exact ⟨k + 1, sb2, (openS z), v2, _, by omega, by go_num, rfl, And.left (by assumption)⟩
              case measure => simp [intOf]; omega
          · as_aux_lemma =>
              have HOP := Lib.hid (sx_open HQ.out.sx)
              go_wp2_with fail
              go_at_call 6
              refine HOP.out.mono ?_
              rintro x' w2 ⟨sb2, v2, rfl, hst, hold, hsb2, hb⟩
              obtain ⟨ra, rc, hrv⟩ := HQ.out.rr.slice
              subst hrv
              have hpt : PT W g off E W.heap.size rb k sb sb2 z v v2 (.slice ra z.s.fams.length rc) w2 := ⟨HQ.out.keep hb, hst⟩
              have HD0 := PT.tail hpt.drew
              have HU1 := Lib.hid (fun w (h : PT W g off E W.heap.size rb k sb sb2 z v v2 (.slice ra z.s.fams.length rc) w) => h.state)
              have HU2 := Lib.hid (fun w (h : PT W g off E W.heap.size rb k sb sb2 z v v2 (.slice ra z.s.fams.length rc) w) => h.logged)
              have HU3 := Lib.hid (fun w (h : PT W g off E W.heap.size rb k sb sb2 z v v2 (.slice ra z.s.fams.length rc) w) => h.downed)
              have HUS := Lib.hid (fun w a1 c1 B' (h : PT W g off E W.heap.size rb k sb sb2 z v v2 (.slice ra z.s.fams.length rc) w) hr => h.pl.same (a1 := a1) (c1 := c1) (B' := B') hr)
              have hq0 : (z.log != z.log) = false := by simp
              clear hst hold hsb2 hb hpt HOP HQ HX1 x0 x1 x2 x3 x4 x5 x6 x7 x8 x9 x10 x11 x12 x13
              go_wp2_with fail
              go_region_held3 (fun w' => PT W g off E W.heap.size rb k sb sb2 z v v2 (.slice ra z.s.fams.length rc) w' ∧ w'.cell? ⟨rb, 0, none⟩ = some (.int .i64 z.s.clock) ∧ w'.cell? ⟨rb, 1, none⟩ = some (.int .i64 z.s.next) ∧ w'.cell? ⟨rb, 2, none⟩ = some (.slice ra z.s.fams.length rc) ∧ w'.cell? ⟨rb, 3, none⟩ = some (.int .i64 z.log))
                (first
                  | with_reducible assumption
                  | with_reducible exact HD0
                  | with_reducible exact PT.tail (PT.keep (And.left (by assumption)) (by assumption)))
                (first
                  | (go_at_call 14; (with_reducible refine (HU1.out _ (And.left (by assumption))).mono ?_); rintro x' w7 ⟨a1, c1, rfl, hr1, hb1⟩)
                  | (go_at_call 15; (with_reducible refine (HUS.out _ _ _ _ (And.left (by assumption)) hr1).mono ?_); rintro x' w8 ⟨q9, rfl, hq9, hb2⟩; obtain rfl := hq9 trivial)
                  | (go_at_call 24; (with_reducible refine (HU2.out _ (And.left (by assumption))).mono ?_); rintro x' w9 ⟨rfl, hb3⟩)
                  | (go_at_call 25; (with_reducible refine (HU3.out _ (And.left (by assumption))).mono ?_); rintro x' w10 ⟨rfl, hb4⟩
                     have hp9 := PT.pl (PT.keep (And.left (by assumption)) hb4)))
              have HP := Lib.hid hp9.later
              clear hp9 hr1 hb1 hb2 hb3 hb4 HU1 HU2 HU3 HUS HD0 hq0

              have hfit := HP.out.sx.fit
              have hlen := hfit.len
              have HD := PL.tail HP.out.drew
              have HT1 := Lib.hid (fun w (h : PL W g off E W.heap.size rb (k + 1) sb z v (.slice ra z.s.fams.length rc) w) => h.state)
              have HT2 := Lib.hid (fun w (h : PL W g off E W.heap.size rb (k + 1) sb z v (.slice ra z.s.fams.length rc) w) => h.logged)
              have HT3 := Lib.hid (fun w (h : PL W g off E W.heap.size rb (k + 1) sb z v (.slice ra z.s.fams.length rc) w) => h.downed)
              have HT4 := Lib.hid (fun w (h : PL W g off E W.heap.size rb (k + 1) sb z v (.slice ra z.s.fams.length rc) w) => h.written)
              have HSA := Lib.hid (fun w a1 c1 B' (h : PL W g off E W.heap.size rb (k + 1) sb z v (.slice ra z.s.fams.length rc) w) hr => h.same (a1 := a1) (c1 := c1) (B' := B') hr)
              clear hfit hlen HP
              have hq1 : ((z).log != (z).log) = false := by simp
              have hq2 : ((z).down != (z).down) = false := by simp
              have hq3 : ((z).writes != (z).writes) = false := by simp
              go_wp2_with fail
              go_region_held3 (fun w' => PL W g off E W.heap.size rb (k + 1) sb z v (.slice ra z.s.fams.length rc) w' ∧ w'.cell? ⟨rb, 0, none⟩ = some (.int .i64 (z).s.clock) ∧ w'.cell? ⟨rb, 1, none⟩ = some (.int .i64 (z).s.next) ∧ w'.cell? ⟨rb, 2, none⟩ = some (.slice ra (z).s.fams.length rc) ∧ w'.cell? ⟨rb, 3, none⟩ = some (.int .i64 (z).log) ∧ w'.cell? ⟨rb, 4, none⟩ = some (.int .i64 (z).writes) ∧ w'.cell? ⟨rb, 7, none⟩ = some (.bool (z).down))
                (first
                  | with_reducible assumption
                  | with_reducible exact HD
                  | with_reducible exact PL.tail (PL.keep (And.left (by assumption)) (by assumption)))
                (first
                  | (go_at_call 14; (with_reducible refine (HT1.out _ (And.left (by assumption))).mono ?_); rintro x' w7 ⟨a1, c1, rfl, hr1, hb1⟩)
                  | (go_at_call 15; (with_reducible refine (HSA.out _ _ _ _ (And.left (by assumption)) hr1).mono ?_); rintro x' w8 ⟨q9, rfl, hq9, hb2⟩; obtain rfl := hq9 trivial)
                  | (go_at_call 24; (with_reducible refine (HT2.out _ (And.left (by assumption))).mono ?_); rintro x' w9 ⟨rfl, hb3⟩)
                  | (go_at_call 25; (with_reducible refine (HT3.out _ (And.left (by assumption))).mono ?_); rintro x' w10 ⟨rfl, hb4⟩)
                  | (go_at_call 26; (with_reducible refine (HT4.out _ (And.left (by assumption))).mono ?_); rintro x' w11 ⟨rfl, rfl⟩))
              go_wp2_with fail
              go_roundw
              case rel => exact ⟨k + 1, sb, z, v, _, by omega, by go_num, rfl, And.left (by assumption)⟩
              case measure => simp [intOf]; omega
      · have hdec : decide ((Fam.mk i cl su sc ge ma us re de).len ≤ 300) = false := decide_eq_false hsh
        clear hsh
        go_wp2_with fail
        go_roundw
        case rel => exact ⟨k + 1, sb, z, v, vr, by omega, by go_num, rfl, HQ.out.later⟩
        case measure => simp [intOf]; omega
    · go_wp2_with fail
      go_ret
      exact ⟨rfl, HP.out.below⟩
end Go.Proofs.YtdogilbnbbeljaaGreatDoor
