/-
  rotorref's service: looks.
-/
import Derived.Test.YtckohmhhcknmaaaGreatDoorP25
import Derived.Test.YtckohmhhcknmaaaGreatDoorP26
import Derived.Test.YtckohmhhcknmaaaGreatDoorP23
import Derived.Test.YtckohmhhcknmaaaGreatDoorP24
import Derived.Test.YtckohmhhcknmaaaGreatDoorP13
import Derived.Test.YtckohmhhcknmaaaGreatDoorP09
namespace Go.Proofs.YtckohmhhcknmaaaGreatDoor
open Go.RowKit Go.Sort

/-- what looks gives: the token as it was read, the family (none, or the one of its number), what is wrong -/
def looksF (s : St) (q : Int × Int × Int × Int × Int) (kind : Int) : Fam := if q.1 ≠ 0 then Fam.zero else if q.2.1 ≠ kind then Fam.zero else (findF s.fams q.2.2.1).getD Fam.zero
def LooksGot (r : Ru) (s : St) (q : Int × Int × Int × Int × Int) (kind : Int) (W : World) (e : Ending) (w' : World) : Prop :=
  e = .returned (.tuple #[v4 q.2.1 q.2.2.1 q.2.2.2.1 q.2.2.2.2, famVal (looksF s q kind), .int .i64 (liveE r s q kind)]) ∧ Below W.heap.size W w'
theorem looks_end {r : Ru} {s : St} {q : Int × Int × Int × Int × Int} {kind : Int} {W w : World} {A : Act} {a b c d e : Int} {f : Fam} (hb : Below W.heap.size W w) (ht : Blk w W.heap.size 127 #[.int .i64 a, .int .i64 b, .int .i64 c, .int .i64 d]) (hf : Blk w (W.heap.size + 1) 79 (famCs f))
    (hp : A.tmps.getD 6 undef = .pointer (some ⟨W.heap.size, 0, none⟩)) (hq : A.tmps.getD 7 undef = .pointer (some ⟨W.heap.size + 1, 0, none⟩)) (hx : A.tmps.getD 8 undef = .int .i64 e) (hd : A.defers = []) (h1 : q.2 = (a, b, c, d)) (h2 : f = looksF s q kind) (h3 : e = liveE r s q kind) :
    bodyPost Tryz.prog Tryz.f61 (LooksGot r s q kind W) Exit.ret A w := by
  refine bodyPost_ret (results_row2_tmp rfl A.tmps w _ _ _ _ _ _ _ _ _ hp hq hx ht hf Tryz.underlying127 rfl (by kernel_rfl) Tryz.underlying79 rfl (by kernel_rfl)) hd ⟨?_, hb⟩
  rw [h1, ← h2, ← h3]
  rfl
def LkRel (W : World) (B qb rb tb : Nat) (r : Ru) (z : SS) (v : Value) (qk qf qg qd : Int) (i : Value) (w : World) : Prop :=
  ∃ j : Nat, j ≤ z.s.fams.length ∧ i = .int .i64 j ∧ Below W.heap.size W w ∧ RV B qb rb r z v w ∧ Blk w W.heap.size 127 #[.int .i64 0, .int .i64 0, .int .i64 0, .int .i64 0] ∧ Blk w (W.heap.size + 1) 79 (famCs Fam.zero) ∧ Blk w tb 127 #[.int .i64 qk, .int .i64 qf, .int .i64 qg, .int .i64 qd] ∧ ∀ m f, m < j → z.s.fams[m]? = some f → decide (f.id = qf) = false
section
variable {W : World} {B qb rb : Nat} {r : Ru} {z : SS} {v : Value}
set_option maxHeartbeats 8000000 in
set_option maxRecDepth 100000 in
theorem rsv_looks (h : RV B qb rb r z v W) (hz : RZ r z) (t : ByteArray) (kind : Int) (ht : t.size ≤ 1000) :
    Calls Tryz.prog 61 #[.pointer (some ⟨qb, 0, none⟩), .string t, .int .i64 kind] W (LooksGot r z.s (tokOf r t) kind W) := by
  have HTR : Hid (∀ w v, RV B qb rb r z v w → Calls Tryz.prog 108 #[.int .i64 r.key, .string t] w (RefReadGot w (tokOf r t))) := Lib.hid fun w v h => ref_read r.key t w ht h.env.maxl h.env.tens h.tab h.env.errs
  have hfit := hz.fit
  have hlen := hfit.len
  have HOLD := Lib.hid (fun w v f (hf : famB f = true) (h : RV B qb rb r z v w) => rsv_old h hz.ru f hf)
  obtain ⟨sa, sc, rfl⟩ := h.rr.slice
  have H := Lib.hid h
  clear h
  generalize tokOf r t = q at *
  obtain ⟨qe, qk, qf, qg, qd⟩ := q
  unfold RefReadGot v4 at HTR
  dsimp only at HTR
  have hal := alloc2 W (.cells #[.int .i64 0, .int .i64 0, .int .i64 0, .int .i64 0] 127) (.cells (famCs Fam.zero) 79)
  have HAL := Lib.hid hal
  have H1 := Lib.hid (H.out.keep hal)
  have HT1 := Lib.hid ((Blk.new W 127 #[.int .i64 0, .int .i64 0, .int .i64 0, .int .i64 0]).alloc (.cells (famCs Fam.zero) 79))
  have hf1 : Blk ((W.alloc (.cells #[.int .i64 0, .int .i64 0, .int .i64 0, .int .i64 0] 127)).alloc (.cells (famCs Fam.zero) 79)) (W.heap.size + 1) 79 (famCs Fam.zero) := by
    have := Blk.new (W.alloc (.cells #[.int .i64 0, .int .i64 0, .int .i64 0, .int .i64 0] 127)) 79 (famCs Fam.zero)
    rw [show (W.alloc (.cells #[.int .i64 0, .int .i64 0, .int .i64 0, .int .i64 0] 127)).heap.size = W.heap.size + 1 by simp] at this
    exact this
  have HF1 := Lib.hid hf1
  clear hal hf1 H
  unfold famCs Fam.zero at HAL H1 HT1 HF1
  dsimp only at HAL H1 HT1 HF1
  obtain ⟨c0, c1, c2, c3, c4, hlt⟩ := H1.out.five
  go_enter Tryz.func61, Tryz.ntmps61
  go_wp2_with fail
  go_at_call 108
  refine (HTR.out _ _ H1.out).mono ?_
  rintro e w1 ⟨rfl, hb⟩
  have HB1 := Lib.hid (below_2 HAL.out hb)
  have H2 := Lib.hid (H1.out.keep hb)
  have HT2 := Lib.hid (HT1.out.below' hb)
  have HF2 := Lib.hid (HF1.out.below' hb)
  clear hb H1 HT1 HF1 HAL c0 c1 c2 c3 c4 hlt HTR
  have hal := (Below.refl w1.heap.size w1).alloc (Nat.le_refl _) (.cells #[.int .i64 qk, .int .i64 qf, .int .i64 qg, .int .i64 qd] 127)
  have H3 := Lib.hid (H2.out.keep hal)
  have HT3 := Lib.hid (HT2.out.below' hal)
  have HF3 := Lib.hid (HF2.out.below' hal)
  have HB3 := Lib.hid (below_2 HB1.out hal)
  have HV3 := Lib.hid (Blk.new w1 127 #[.int .i64 qk, .int .i64 qf, .int .i64 qg, .int .i64 qd])
  have hF2l := HF2.out.lt
  clear hal H2 HT2 HF2 HB1
  have hz0 := HT3.out.frozen
  have hz1 := HF3.out.frozen
  obtain ⟨v0, v1, v2, v3⟩ := tok_cells HV3.out
  obtain ⟨t0, t1, t2, t3⟩ := tok_cells HT3.out
  obtain ⟨z0, z1, z2, z3, z4, z5, z6, z7, z8⟩ := fam_cells (i := 0) (cl := ⟨#[]⟩) (su := ⟨#[]⟩) (sc := ⟨#[]⟩) (ge := 0) (ma := 0) (us := 0) (re := ⟨#[]⟩) (de := false) HF3.out
  by_cases hq : qe = 0
  · subst hq
    by_cases hk : qk = kind
    · have hk' : (qk != kind) = false := by simpa using hk
      have HK := Lib.hid hk
      obtain ⟨c0, c1, c2, c3, c4, hlt⟩ := H3.out.five
      obtain ⟨d0, d1, d2, hlt2⟩ := H3.out.three
      clear hk
      go_wp2_with fail
      clear v0 v1 v2 v3 t0 t1 t2 t3 z0 z1 z2 z3 z4 z5 z6 z7 z8 hz0 hz1 c0 c1 c2 c3 c4 d0 d1 d2 hlt hlt2
      generalize w1.alloc (.cells #[.int .i64 qk, .int .i64 qf, .int .i64 qg, .int .i64 qd] 127) = w3 at *
      have htb : W.heap.size + 1 < w1.heap.size := hF2l
      clear hF2l
      generalize w1.heap.size = tb at *
      go_loopw [43] (fun i wr => LkRel W B qb rb tb r z (.slice sa z.s.fams.length sc) qk qf qg qd i wr) (fun i _ => z.s.fams.length - (intOf i).toNat)
      case atStart => exact ⟨0, Nat.zero_le _, rfl, HB3.out, H3.out, HT3.out, HF3.out, HV3.out, fun j f hj => absurd hj (Nat.not_lt_zero _)⟩
      case round =>
        obtain ⟨j, hj, rfl, hb, hs, hht, hhf, hhv, hno⟩ := hrel
        have HB4 := Lib.hid hb
        have HS4 := Lib.hid hs
        have HT4 := Lib.hid hht
        have HF4 := Lib.hid hhf
        have HV4 := Lib.hid hhv
        have HNO := Lib.hid hno
        clear hb hs hht hhf hhv hno H3 HT3 HF3 HB3 HV3
        by_cases hlt : j < z.s.fams.length
        · obtain ⟨g, rfl, _, ra⟩ := HS4.out.rr.lit hlt
          obtain ⟨f, hf⟩ : ∃ f, z.s.fams[j]? = some f := ⟨_, List.getElem?_eq_getElem hlt⟩
          have HFF := Lib.hid hf
          have hfb := hfit.fams f (List.mem_of_getElem? hf)
          have HO := Lib.hid (fun w (h : RV B qb rb r z (.slice (some ⟨g, 0, none⟩) z.s.fams.length sc) w) => HOLD.out w _ f hfb h)
          have h0 : (0 : Int) ≤ (j : Int) := by omega
          have h1 : (j : Int) < (z.s.fams.length : Int) := by omega
          obtain ⟨i, cl, su, scp, ge, ma, us, re, de⟩ := f
          unfold famVal famCs at HO
          obtain ⟨e0, e1, e2, e3, e4, e5, e6, e7, e8⟩ := ra.nine hf
          have hal := (Below.refl wr.heap.size wr).alloc (Nat.le_refl _) (.cells #[.int .i64 i, .string cl, .string su, .string scp, .int .i64 ge, .int .i64 ma, .int .i64 us, .string re, .bool de] 79)
          have HS5 := Lib.hid (HS4.out.keep hal)
          have HT5 := Lib.hid (HT4.out.below' hal)
          have HF5 := Lib.hid (HF4.out.below' hal)
          have HV5 := Lib.hid (HV4.out.below' hal)
          have HB5 := Lib.hid (below_2 HB4.out hal)
          have HG5 := Lib.hid (Blk.new wr 79 #[.int .i64 i, .string cl, .string su, .string scp, .int .i64 ge, .int .i64 ma, .int .i64 us, .string re, .bool de])
          have hfl : W.heap.size + 1 < wr.heap.size := HF4.out.lt
          dsimp only at HO
          obtain ⟨v0, v1, v2, v3⟩ := tok_cells HV5.out
          clear hal hfb ra HS4 HT4 HF4 HV4 HB4
          by_cases hid : i = qf
          · subst hid
            have HFD := Lib.hid (show findF z.s.fams i = some ⟨i, cl, su, scp, ge, ma, us, re, de⟩ from find_at HNO.out hf (decide_eq_true rfl))
            clear hf HNO HFF
            cases de
            · generalize hob : oldB r z.s.clock ⟨i, cl, su, scp, ge, ma, us, re, false⟩ = ob at *
              have HOB := Lib.hid hob
              clear hob
              go_wp2_with fail
              generalize wr.alloc (.cells #[.int .i64 i, .string cl, .string su, .string scp, .int .i64 ge, .int .i64 ma, .int .i64 us, .string re, .bool false] 79) = w5 at *
              generalize wr.heap.size = fb at *
              clear e0 e1 e2 e3 e4 e5 e6 e7 e8 v0 v1 v2 v3
              go_at_call 68
              refine (HO.out _ HS5.out).mono ?_
              rintro e w6 ⟨rfl, hb6⟩
              have HT6 := Lib.hid (HT5.out.below' hb6)
              have HF6 := Lib.hid (HF5.out.below' hb6)
              have HV6 := Lib.hid (HV5.out.below' hb6)
              have HG6 := Lib.hid (HG5.out.below' hb6)
              have HB6 := Lib.hid (below_2 HB5.out hb6)
              clear hb6 HS5 HT5 HF5 HV5 HG5 HB5
              cases ob
              · have ntb0 : tb ≠ W.heap.size := by omega
                have ntb1 : tb ≠ W.heap.size + 1 := by omega
                have nfb0 : fb ≠ W.heap.size := by omega
                have nfb1 : fb ≠ W.heap.size + 1 := by omega
                have htz := HT6.out.frozen
                have hz := HF6.out.frozen
                obtain ⟨v0, v1, v2, v3⟩ := tok_cells HV6.out
                obtain ⟨g0, g1, g2, g3, g4, g5, g6, g7, g8⟩ := fam_cells (i := i) (cl := cl) (su := su) (sc := scp) (ge := ge) (ma := ma) (us := us) (re := re) (de := false) HG6.out
                obtain ⟨t0, t1, t2, t3⟩ := tok_cells HT6.out
                obtain ⟨z0, z1, z2, z3, z4, z5, z6, z7, z8⟩ := fam_cells (i := 0) (cl := ⟨#[]⟩) (su := ⟨#[]⟩) (sc := ⟨#[]⟩) (ge := 0) (ma := 0) (us := 0) (re := ⟨#[]⟩) (de := false) HF6.out
                go_wp2_with fail
                go_region
                go_wp2_with fail
                obtain ⟨_, rfl, n1, n2, n3⟩ := thirteen_sets (f0 := Fam.zero) HT6.out HF6.out (by omega) qk i qg qd ⟨i, cl, su, scp, ge, ma, us, re, false⟩
                exact looks_end (q := (0, qk, i, qg, qd)) (f := ⟨i, cl, su, scp, ge, ma, us, re, false⟩) (below_dr (n3 HB6.out (Nat.le_refl _) (Nat.le_succ _) HB6.out.size)) n1.drew n2.drew rfl rfl rfl rfl rfl (by unfold looksF; rw [if_neg (show ¬ (0 : Int) ≠ 0 by decide), if_neg (by rw [HK.out]; exact fun h => h rfl)]; show _ = (findF z.s.fams i).getD Fam.zero; rw [HFD.out]; rfl) (by unfold liveE; rw [if_neg (show ¬ (0 : Int) ≠ 0 by decide), if_neg (by rw [HK.out]; exact fun h => h rfl)]; dsimp only; rw [HFD.out]; simp [HOB.out])
              · have ntb0 : tb ≠ W.heap.size := by omega
                have ntb1 : tb ≠ W.heap.size + 1 := by omega
                have nfb0 : fb ≠ W.heap.size := by omega
                have nfb1 : fb ≠ W.heap.size + 1 := by omega
                have htz := HT6.out.frozen
                have hz := HF6.out.frozen
                obtain ⟨v0, v1, v2, v3⟩ := tok_cells HV6.out
                obtain ⟨g0, g1, g2, g3, g4, g5, g6, g7, g8⟩ := fam_cells (i := i) (cl := cl) (su := su) (sc := scp) (ge := ge) (ma := ma) (us := us) (re := re) (de := false) HG6.out
                obtain ⟨t0, t1, t2, t3⟩ := tok_cells HT6.out
                obtain ⟨z0, z1, z2, z3, z4, z5, z6, z7, z8⟩ := fam_cells (i := 0) (cl := ⟨#[]⟩) (su := ⟨#[]⟩) (sc := ⟨#[]⟩) (ge := 0) (ma := 0) (us := 0) (re := ⟨#[]⟩) (de := false) HF6.out
                go_wp2_with fail
                go_region
                go_wp2_with fail
                obtain ⟨_, rfl, n1, n2, n3⟩ := thirteen_sets (f0 := Fam.zero) HT6.out HF6.out (by omega) qk i qg qd ⟨i, cl, su, scp, ge, ma, us, re, false⟩
                exact looks_end (q := (0, qk, i, qg, qd)) (f := ⟨i, cl, su, scp, ge, ma, us, re, false⟩) (below_dr (n3 HB6.out (Nat.le_refl _) (Nat.le_succ _) HB6.out.size)) n1.drew n2.drew rfl rfl rfl rfl rfl (by unfold looksF; rw [if_neg (show ¬ (0 : Int) ≠ 0 by decide), if_neg (by rw [HK.out]; exact fun h => h rfl)]; show _ = (findF z.s.fams i).getD Fam.zero; rw [HFD.out]; rfl) (by unfold liveE; rw [if_neg (show ¬ (0 : Int) ≠ 0 by decide), if_neg (by rw [HK.out]; exact fun h => h rfl)]; dsimp only; rw [HFD.out]; simp [HOB.out])
            · go_wp2_with fail
              generalize wr.alloc (.cells #[.int .i64 i, .string cl, .string su, .string scp, .int .i64 ge, .int .i64 ma, .int .i64 us, .string re, .bool true] 79) = w5 at *
              generalize wr.heap.size = fb at *
              clear e0 e1 e2 e3 e4 e5 e6 e7 e8 v0 v1 v2 v3 HS5 HO HOLD
              have ntb0 : tb ≠ W.heap.size := by omega
              have ntb1 : tb ≠ W.heap.size + 1 := by omega
              have nfb0 : fb ≠ W.heap.size := by omega
              have nfb1 : fb ≠ W.heap.size + 1 := by omega
              have htz := HT5.out.frozen
              have hz := HF5.out.frozen
              obtain ⟨v0, v1, v2, v3⟩ := tok_cells HV5.out
              obtain ⟨g0, g1, g2, g3, g4, g5, g6, g7, g8⟩ := fam_cells (i := i) (cl := cl) (su := su) (sc := scp) (ge := ge) (ma := ma) (us := us) (re := re) (de := true) HG5.out
              obtain ⟨t0, t1, t2, t3⟩ := tok_cells HT5.out
              obtain ⟨z0, z1, z2, z3, z4, z5, z6, z7, z8⟩ := fam_cells (i := 0) (cl := ⟨#[]⟩) (su := ⟨#[]⟩) (sc := ⟨#[]⟩) (ge := 0) (ma := 0) (us := 0) (re := ⟨#[]⟩) (de := false) HF5.out
              go_wp2_with fail
              go_region
              go_wp2_with fail
              obtain ⟨_, rfl, n1, n2, n3⟩ := thirteen_sets (f0 := Fam.zero) HT5.out HF5.out (by omega) qk i qg qd ⟨i, cl, su, scp, ge, ma, us, re, true⟩
              exact looks_end (q := (0, qk, i, qg, qd)) (f := ⟨i, cl, su, scp, ge, ma, us, re, true⟩) (below_dr (n3 HB5.out (Nat.le_refl _) (Nat.le_succ _) HB5.out.size)) n1.drew n2.drew rfl rfl rfl rfl rfl (by unfold looksF; rw [if_neg (show ¬ (0 : Int) ≠ 0 by decide), if_neg (by rw [HK.out]; exact fun h => h rfl)]; show _ = (findF z.s.fams i).getD Fam.zero; rw [HFD.out]; rfl) (by unfold liveE; rw [if_neg (show ¬ (0 : Int) ≠ 0 by decide), if_neg (by rw [HK.out]; exact fun h => h rfl)]; dsimp only; rw [HFD.out]; simp)
          · have HID := Lib.hid hid
            clear hf
            go_wp2_with fail
            go_roundw
            case rel => exact ⟨j + 1, by omega, by go_num, HB5.out, HS5.out, HT5.out, HF5.out, HV5.out, fun m f hm hf => by
              by_cases e : m = j
              · subst e
                rw [HFF.out] at hf
                cases hf
                exact decide_eq_false HID.out
              · exact HNO.out m f (by omega) hf⟩
            case measure => simp [intOf]; omega
        · have hkn : j = z.s.fams.length := by omega
          have HFD := Lib.hid (show findF z.s.fams qf = none from find_end_none (fun m f hm hf => HNO.out m f (by omega) hf))
          have htz := HT4.out.frozen
          have hz := HF4.out.frozen
          have hfl : W.heap.size + 1 < wr.heap.size := HF4.out.lt
          obtain ⟨v0, v1, v2, v3⟩ := tok_cells HV4.out
          obtain ⟨t0, t1, t2, t3⟩ := tok_cells HT4.out
          obtain ⟨z0, z1, z2, z3, z4, z5, z6, z7, z8⟩ := fam_cells (i := 0) (cl := ⟨#[]⟩) (su := ⟨#[]⟩) (sc := ⟨#[]⟩) (ge := 0) (ma := 0) (us := 0) (re := ⟨#[]⟩) (de := false) HF4.out
          go_wp2_with fail
          obtain ⟨_, rfl, n1, n2, n3⟩ := thirteen_sets (f0 := Fam.zero) HT4.out HF4.out (by omega) qk qf qg qd Fam.zero
          exact looks_end (q := (0, qk, qf, qg, qd)) (n3 HB4.out (Nat.le_refl _) (Nat.le_succ _) HB4.out.size) n1 n2 rfl rfl rfl rfl rfl (by unfold looksF; rw [if_neg (show ¬ (0 : Int) ≠ 0 by decide), if_neg (by rw [HK.out]; exact fun h => h rfl)]; show _ = (findF z.s.fams qf).getD Fam.zero; rw [HFD.out]; rfl) (by unfold liveE; rw [if_neg (show ¬ (0 : Int) ≠ 0 by decide), if_neg (by rw [HK.out]; exact fun h => h rfl)]; dsimp only; rw [HFD.out])
    · have hk' : (qk != kind) = true := by simpa using hk
      go_wp2_with fail
      obtain ⟨_, rfl, n1, n2, n3⟩ := thirteen_sets (f0 := Fam.zero) HT3.out HF3.out (by omega) qk qf qg qd Fam.zero
      exact looks_end (q := (0, qk, qf, qg, qd)) (n3 HB3.out (Nat.le_refl _) (Nat.le_succ _) HB3.out.size) n1 n2 rfl rfl rfl rfl rfl (by unfold looksF; rw [if_neg (show ¬ (0 : Int) ≠ 0 by decide), if_pos hk]) (by unfold liveE; rw [if_neg (show ¬ (0 : Int) ≠ 0 by decide), if_pos hk])
  · go_wp2_with fail
    obtain ⟨_, rfl, n1, n2, n3⟩ := thirteen_sets (f0 := Fam.zero) HT3.out HF3.out (by omega) qk qf qg qd Fam.zero
    exact looks_end (q := (qe, qk, qf, qg, qd)) (n3 HB3.out (Nat.le_refl _) (Nat.le_succ _) HB3.out.size) n1 n2 rfl rfl rfl rfl rfl (by unfold looksF; rw [if_pos hq]) (by unfold liveE; rw [if_pos hq])
end
end Go.Proofs.YtckohmhhcknmaaaGreatDoor

/-
  rotorref's service: Mint.
-/
namespace Go.Proofs.YtckohmhhcknmaaaGreatDoor
open Go.RowKit Go.Sort

theorem looks_live {r : Ru} {s : St} {q : Int × Int × Int × Int × Int} {kind : Int} (h : liveE r s q kind = 0) : looksF s q kind = liveF s q := by
  unfold liveE at h
  unfold looksF liveF
  by_cases h1 : q.1 ≠ 0
  · rw [if_pos h1] at h
    exact absurd h h1
  · rw [if_neg h1, if_neg h1]
    by_cases h2 : q.2.1 ≠ kind
    · rw [if_neg h1, if_pos h2] at h
      cases h
    · rw [if_neg h2]
section
variable {W : World} {B qb rb : Nat} {r : Ru} {z : SS} {v : Value}
set_option maxHeartbeats 4000000 in
set_option maxRecDepth 100000 in
theorem rsv_mint (h : RV B qb rb r z v W) (hz : RZ r z) (t : ByteArray) (ht : t.size ≤ 1000) :
    Calls Tryz.prog 24 #[.pointer (some ⟨qb, 0, none⟩), .string t] W fun e w' => e = .returned (.tuple #[.string (mintP r z.s t).1, .int .i64 (mintP r z.s t).2]) ∧ Below W.heap.size W w' := by
  have HL := Lib.hid (fun w v (h : RV B qb rb r z v w) => rsv_looks h hz t 1 ht)
  have hfit := hz.fit
  have hru := ruB_parts hz.ru
  rw [mintP_eq]
  have hll := fun hh : liveE r z.s (tokOf r t) 1 = 0 => looks_live hh
  have hmem : liveE r z.s (tokOf r t) 1 = 0 → famB (liveF z.s (tokOf r t)) = true := fun hh => hfit.fams _ (liveR_yes hh).2.2.2.1
  have H := Lib.hid h
  unfold LooksGot v4 at HL
  clear h
  generalize liveE r z.s (tokOf r t) 1 = le at *
  generalize liveF z.s (tokOf r t) = f at *
  generalize looksF z.s (tokOf r t) 1 = lf at *
  generalize tokOf r t = q at *
  obtain ⟨qe, qk, qf, qg, qd⟩ := q
  dsimp only at HL ⊢
  go_enter Tryz.func24, Tryz.ntmps24
  go_wp2_with fail
  go_at_call 61
  refine (HL.out _ _ H.out).mono ?_
  rintro e w1 ⟨rfl, hb⟩
  have H1 := Lib.hid (H.out.keep hb)
  have HB1 := Lib.hid hb
  clear hb HL H
  by_cases hle : le = 0
  · obtain rfl := hll hle
    have hfb := hmem hle
    subst hle
    have hpt := famB_parts hfb
    obtain ⟨i, cl, su, scp, ge, ma, us, re, de⟩ := lf
    unfold famVal famCs
    dsimp only at hpt ⊢
    have hal := alloc2 w1 (.cells #[.int .i64 qk, .int .i64 qf, .int .i64 qg, .int .i64 qd] 127) (.cells #[.int .i64 i, .string cl, .string su, .string scp, .int .i64 ge, .int .i64 ma, .int .i64 us, .string re, .bool de] 79)
    have HB2 := Lib.hid (below_2 HB1.out hal)
    by_cases h1 : ge < qg
    · have hv : mintV r 0 ⟨i, cl, su, scp, ge, ma, us, re, de⟩ qg z.s.clock = (noneS, 2) := by unfold mintV; rw [if_neg (fun h => h rfl), if_pos h1]
      have HV := Lib.hid hv
      clear hv hll hmem hal
      go_wp2_with fail
      go_ret2
      rw [HV.out]
      exact ⟨rfl, HB2.out⟩
    · by_cases h2 : qg < ge
      · have hv : mintV r 0 ⟨i, cl, su, scp, ge, ma, us, re, de⟩ qg z.s.clock = (noneS, 8) := by unfold mintV; rw [if_neg (fun h => h rfl), if_neg h1, if_pos h2]
        have HV := Lib.hid hv
        clear hv hll hmem hal
        go_wp2_with fail
        go_ret2
        rw [HV.out]
        exact ⟨rfl, HB2.out⟩
      · have hv : mintV r 0 ⟨i, cl, su, scp, ge, ma, us, re, de⟩ qg z.s.clock = (tokS r.key 2 i ge (capN z.s.clock r.access), 0) := by unfold mintV; rw [if_neg (fun h => h rfl), if_neg h1, if_neg h2]
        have HV := Lib.hid hv
        have HAD := Lib.hid (fun w => rsv_add z.s.clock r.access w (okN_iff.1 hfit.clock) (okN_iff.1 hru.2.2.2))
        have HWR := Lib.hid (fun w (h : RV B qb rb r z v w) => ref_write_yes r.key 2 i ge (capN z.s.clock r.access) w h.env.tens h.tab (right_two hpt.1 hpt.2.1 (capN_ok hfit.clock hru.2.2.2)) (.inr ⟨rfl, (capN_ok hfit.clock hru.2.2.2)⟩))
        unfold v4 at HWR
        generalize tokS r.key 2 i ge (capN z.s.clock r.access) = x at *
        generalize capN z.s.clock r.access = cn at *
        have H2 := Lib.hid (H1.out.keep hal)
        have hg2 : Blk ((w1.alloc (.cells #[.int .i64 qk, .int .i64 qf, .int .i64 qg, .int .i64 qd] 127)).alloc (.cells #[.int .i64 i, .string cl, .string su, .string scp, .int .i64 ge, .int .i64 ma, .int .i64 us, .string re, .bool de] 79)) (w1.heap.size + 1) 79 #[.int .i64 i, .string cl, .string su, .string scp, .int .i64 ge, .int .i64 ma, .int .i64 us, .string re, .bool de] := by
          have := Blk.new (w1.alloc (.cells #[.int .i64 qk, .int .i64 qf, .int .i64 qg, .int .i64 qd] 127)) 79 #[.int .i64 i, .string cl, .string su, .string scp, .int .i64 ge, .int .i64 ma, .int .i64 us, .string re, .bool de]
          rw [show (w1.alloc (.cells #[.int .i64 qk, .int .i64 qf, .int .i64 qg, .int .i64 qd] 127)).heap.size = w1.heap.size + 1 by simp] at this
          exact this
        have HG2 := Lib.hid hg2
        clear hv hll hmem hal hg2 hfb hpt hru hfit H1
        go_wp2_with fail
        generalize (w1.alloc (.cells #[.int .i64 qk, .int .i64 qf, .int .i64 qg, .int .i64 qd] 127)).alloc (.cells #[.int .i64 i, .string cl, .string su, .string scp, .int .i64 ge, .int .i64 ma, .int .i64 us, .string re, .bool de] 79) = w2 at *
        generalize w1.heap.size + 1 = fb at *
        have HSD := H2.out.drew
        have HGD : Blk w2.drew fb 79 #[.int .i64 i, .string cl, .string su, .string scp, .int .i64 ge, .int .i64 ma, .int .i64 us, .string re, .bool de] := HG2.out
        have HBD := below_dr HB2.out
        have HD : w2.drew.cell? ⟨qb, 0, none⟩ = some (.pointer (some ⟨rb, 0, none⟩)) ∧ w2.drew.cell? ⟨qb, 1, none⟩ = some (.int .i64 r.key) ∧ w2.drew.cell? ⟨qb, 4, none⟩ = some (.int .i64 r.access) ∧ w2.drew.cell? ⟨rb, 0, none⟩ = some (.int .i64 z.s.clock) ∧ w2.drew.cell? ⟨fb, 0, none⟩ = some (.int .i64 i) ∧ w2.drew.cell? ⟨fb, 4, none⟩ = some (.int .i64 ge) := ⟨HSD.five.1, HSD.five.2.1, HSD.five.2.2.2.2.1, HSD.three.1, HGD.cell 0, HGD.cell 4⟩
        go_region_held3 (fun w' => w'.cell? ⟨qb, 0, none⟩ = some (.pointer (some ⟨rb, 0, none⟩)) ∧ w'.cell? ⟨qb, 1, none⟩ = some (.int .i64 r.key) ∧ w'.cell? ⟨qb, 4, none⟩ = some (.int .i64 r.access) ∧ w'.cell? ⟨rb, 0, none⟩ = some (.int .i64 z.s.clock) ∧ w'.cell? ⟨fb, 0, none⟩ = some (.int .i64 i) ∧ w'.cell? ⟨fb, 4, none⟩ = some (.int .i64 ge))
          (first
            | with_reducible assumption
            | with_reducible exact HD)
          (first
            | (go_at_call 64; (with_reducible refine (HAD.out _).mono ?_); rintro x' w3 ⟨rfl, rfl⟩)
            | (go_at_call 63; (with_reducible refine (HWR.out _ HSD).mono ?_); rintro x' w4 ⟨rfl, hb4⟩
               have hs4 := HSD.keep hb4
               have hk := HGD.below' hb4
               have hbe := below_2 HBD hb4
               have hx4 : w4.cell? ⟨qb, 0, none⟩ = some (.pointer (some ⟨rb, 0, none⟩)) ∧ w4.cell? ⟨qb, 1, none⟩ = some (.int .i64 r.key) ∧ w4.cell? ⟨qb, 4, none⟩ = some (.int .i64 r.access) ∧ w4.cell? ⟨rb, 0, none⟩ = some (.int .i64 z.s.clock) ∧ w4.cell? ⟨fb, 0, none⟩ = some (.int .i64 i) ∧ w4.cell? ⟨fb, 4, none⟩ = some (.int .i64 ge) := ⟨hs4.five.1, hs4.five.2.1, hs4.five.2.2.2.2.1, hs4.three.1, hk.cell 0, hk.cell 4⟩))
        go_wp2_with fail
        go_ret2
        rw [HV.out]
        exact ⟨rfl, hbe⟩
  · have hv : mintV r le f qg z.s.clock = (noneS, le) := by unfold mintV; rw [if_pos hle]
    have HV := Lib.hid hv
    obtain ⟨i, cl, su, scp, ge, ma, us, re, de⟩ := lf
    unfold famVal famCs
    dsimp only
    have hal := alloc2 w1 (.cells #[.int .i64 qk, .int .i64 qf, .int .i64 qg, .int .i64 qd] 127) (.cells #[.int .i64 i, .string cl, .string su, .string scp, .int .i64 ge, .int .i64 ma, .int .i64 us, .string re, .bool de] 79)
    have HB2 := Lib.hid (below_2 HB1.out hal)
    clear hv hll hmem hal
    go_wp2_with fail
    go_ret2
    rw [HV.out]
    exact ⟨rfl, HB2.out⟩
end
end Go.Proofs.YtckohmhhcknmaaaGreatDoor

/-
  rotorref's service: Show.
-/
namespace Go.Proofs.YtckohmhhcknmaaaGreatDoor
open Go.RowKit Go.Sort

def RShowGot (W : World) (q : Fam × Int) (e : Ending) (w' : World) : Prop := e = .returned (.tuple #[famVal q.1, .int .i64 q.2]) ∧ Below W.heap.size W w'
theorem rshow_end {W w : World} {A : Act} {f : Fam} {q : Fam × Int} (hb : Below W.heap.size W w) (hr : Blk w W.heap.size 79 (famCs f)) (hp : A.tmps.getD 4 undef = .pointer (some ⟨W.heap.size, 0, none⟩)) (hx : A.tmps.getD 5 undef = .int .i64 q.2) (hd : A.defers = []) (h : f = q.1) :
    bodyPost Tryz.prog Tryz.f26 (RShowGot W q) Exit.ret A w := by
  refine bodyPost_ret (results_row_tmp rfl A.tmps w _ _ _ _ _ hp hx hr Tryz.underlying79 rfl (by kernel_rfl)) hd ⟨?_, hb⟩
  rw [← h]
  rfl
section
variable {W : World} {B qb rb : Nat} {r : Ru} {z : SS} {v : Value}
set_option maxHeartbeats 4000000 in
set_option maxRecDepth 100000 in
theorem rsv_show (h : RV B qb rb r z v W) (hz : RZ r z) (t : ByteArray) (ht : t.size ≤ 1000) :
    Calls Tryz.prog 26 #[.pointer (some ⟨qb, 0, none⟩), .string t] W (RShowGot W (showP r z.s t)) := by
  have HL := Lib.hid (fun w v (h : RV B qb rb r z v w) => rsv_looks h hz t 2 ht)
  rw [showP_eq]
  have hll := fun hh : liveE r z.s (tokOf r t) 2 = 0 => looks_live hh
  have hal := (Below.refl W.heap.size W).alloc (Nat.le_refl _) (.cells (famCs Fam.zero) 79)
  have HAL := Lib.hid hal
  have H1 := Lib.hid (h.keep hal)
  have HF1 := Lib.hid (Blk.new W 79 (famCs Fam.zero))
  unfold LooksGot v4 at HL
  unfold famCs Fam.zero at HAL H1 HF1
  dsimp only at HAL H1 HF1
  clear h hal
  generalize liveE r z.s (tokOf r t) 2 = le at *
  generalize liveF z.s (tokOf r t) = f at *
  generalize looksF z.s (tokOf r t) 2 = lf at *
  generalize tokOf r t = q at *
  obtain ⟨qe, qk, qf, qg, qd⟩ := q
  dsimp only at HL ⊢
  go_enter Tryz.func26, Tryz.ntmps26
  go_wp2_with fail
  go_at_call 61
  refine (HL.out _ _ H1.out).mono ?_
  rintro e w1 ⟨rfl, hb⟩
  have HB1 := Lib.hid (below_2 HAL.out hb)
  have H2 := Lib.hid (H1.out.keep hb)
  have HF2 := Lib.hid (HF1.out.below' hb)
  have hfl := HF2.out.lt
  clear hb H1 HF1 HAL HL
  have hlf : le = 0 → lf = f := hll
  clear hll
  obtain ⟨i, cl, su, scp, ge, ma, us, re, de⟩ := lf
  unfold famVal famCs
  dsimp only
  have hal := alloc2 w1 (.cells #[.int .i64 qk, .int .i64 qf, .int .i64 qg, .int .i64 qd] 127) (.cells #[.int .i64 i, .string cl, .string su, .string scp, .int .i64 ge, .int .i64 ma, .int .i64 us, .string re, .bool de] 79)
  have H3 := Lib.hid (H2.out.keep hal)
  have HF3 := Lib.hid (HF2.out.below' hal)
  have HB3 := Lib.hid (below_2 HB1.out hal)
  have hz := HF3.out.frozen
  have hg3 : Blk ((w1.alloc (.cells #[.int .i64 qk, .int .i64 qf, .int .i64 qg, .int .i64 qd] 127)).alloc (.cells #[.int .i64 i, .string cl, .string su, .string scp, .int .i64 ge, .int .i64 ma, .int .i64 us, .string re, .bool de] 79)) (w1.heap.size + 1) 79 #[.int .i64 i, .string cl, .string su, .string scp, .int .i64 ge, .int .i64 ma, .int .i64 us, .string re, .bool de] := by
    have := Blk.new (w1.alloc (.cells #[.int .i64 qk, .int .i64 qf, .int .i64 qg, .int .i64 qd] 127)) 79 #[.int .i64 i, .string cl, .string su, .string scp, .int .i64 ge, .int .i64 ma, .int .i64 us, .string re, .bool de]
    rw [show (w1.alloc (.cells #[.int .i64 qk, .int .i64 qf, .int .i64 qg, .int .i64 qd] 127)).heap.size = w1.heap.size + 1 by simp] at this
    exact this
  have HG3 := Lib.hid hg3
  have HT3 := Lib.hid ((Blk.new w1 127 #[.int .i64 qk, .int .i64 qf, .int .i64 qg, .int .i64 qd]).alloc (.cells #[.int .i64 i, .string cl, .string su, .string scp, .int .i64 ge, .int .i64 ma, .int .i64 us, .string re, .bool de] 79))
  clear hg3
  obtain ⟨y0, y1, y2, y3, y4, y5, y6, y7, y8⟩ := fam_cells HG3.out
  obtain ⟨t0, t1, t2, t3⟩ := tok_cells HT3.out
  obtain ⟨z0, z1, z2, z3, z4, z5, z6, z7, z8⟩ := fam_cells (i := 0) (cl := ⟨#[]⟩) (su := ⟨#[]⟩) (sc := ⟨#[]⟩) (ge := 0) (ma := 0) (us := 0) (re := ⟨#[]⟩) (de := false) HF3.out
  have hn0 : W.heap.size ≠ w1.heap.size := by omega
  have hn1 : W.heap.size ≠ w1.heap.size + 1 := by omega
  clear hal H2 HF2 HB1
  by_cases hle : le = 0
  · obtain rfl := hlf hle
    subst hle
    by_cases h1 : ge < qg
    · have hq : showV 0 ⟨i, cl, su, scp, ge, ma, us, re, de⟩ qg qd z.s.clock = (Fam.zero, 2) := by unfold showV; rw [if_neg (by decide), if_pos h1]
      have HQ := Lib.hid hq
      clear hq hlf
      go_wp2_with fail
      go_quiet (fail)
      have hbd := below_drewN (Below.refl ((w1.alloc (.cells #[.int .i64 qk, .int .i64 qf, .int .i64 qg, .int .i64 qd] 127)).alloc (.cells #[.int .i64 i, .string cl, .string su, .string scp, .int .i64 ge, .int .i64 ma, .int .i64 us, .string re, .bool de] 79)).heap.size ((w1.alloc (.cells #[.int .i64 qk, .int .i64 qf, .int .i64 qg, .int .i64 qd] 127)).alloc (.cells #[.int .i64 i, .string cl, .string su, .string scp, .int .i64 ge, .int .i64 ma, .int .i64 us, .string re, .bool de] 79))) nq
      have HF4 := Lib.hid (HF3.out.below' hbd)
      have HB4 := Lib.hid (below_2 HB3.out hbd)
      clear hbd
      go_wp2_with fail
      obtain ⟨n1, n2⟩ := nine_sets (f0 := Fam.zero) HF4.out 0 ⟨#[]⟩ ⟨#[]⟩ ⟨#[]⟩ 0 0 0 ⟨#[]⟩ false
      refine rshow_end (HB4.out.grown n2 HB4.out.size (fun i hi => by cases hi; exact Nat.le_refl _)) n1 rfl ?_ rfl ?_
      · rw [HQ.out]; rfl
      · rw [HQ.out]; rfl
    · obtain ⟨c0, c1, c2, c3, c4, hlt⟩ := H3.out.five
      obtain ⟨d0, d1, d2, hlt2⟩ := H3.out.three
      by_cases h2 : qd < z.s.clock
      · have hq : showV 0 ⟨i, cl, su, scp, ge, ma, us, re, de⟩ qg qd z.s.clock = (Fam.zero, 10) := by unfold showV; rw [if_neg (by decide), if_neg h1, if_pos h2]
        have HQ := Lib.hid hq
        clear hq hlf
        go_wp2_with fail
        go_quiet (fail)
        have hbd := below_drewN (Below.refl ((w1.alloc (.cells #[.int .i64 qk, .int .i64 qf, .int .i64 qg, .int .i64 qd] 127)).alloc (.cells #[.int .i64 i, .string cl, .string su, .string scp, .int .i64 ge, .int .i64 ma, .int .i64 us, .string re, .bool de] 79)).heap.size ((w1.alloc (.cells #[.int .i64 qk, .int .i64 qf, .int .i64 qg, .int .i64 qd] 127)).alloc (.cells #[.int .i64 i, .string cl, .string su, .string scp, .int .i64 ge, .int .i64 ma, .int .i64 us, .string re, .bool de] 79))) nq
        have HF4 := Lib.hid (HF3.out.below' hbd)
        have HB4 := Lib.hid (below_2 HB3.out hbd)
        clear hbd
        go_wp2_with fail
        obtain ⟨n1, n2⟩ := nine_sets (f0 := Fam.zero) HF4.out 0 ⟨#[]⟩ ⟨#[]⟩ ⟨#[]⟩ 0 0 0 ⟨#[]⟩ false
        refine rshow_end (HB4.out.grown n2 HB4.out.size (fun i hi => by cases hi; exact Nat.le_refl _)) n1 rfl ?_ rfl ?_
        · rw [HQ.out]; rfl
        · rw [HQ.out]; rfl
      · have hq : showV 0 ⟨i, cl, su, scp, ge, ma, us, re, de⟩ qg qd z.s.clock = (⟨i, cl, su, scp, ge, ma, us, re, de⟩, 0) := by unfold showV; rw [if_neg (by decide), if_neg h1, if_neg h2]
        have HQ := Lib.hid hq
        clear hq hlf
        go_wp2_with fail
        go_quiet (fail)
        have hbd := below_drewN (Below.refl ((w1.alloc (.cells #[.int .i64 qk, .int .i64 qf, .int .i64 qg, .int .i64 qd] 127)).alloc (.cells #[.int .i64 i, .string cl, .string su, .string scp, .int .i64 ge, .int .i64 ma, .int .i64 us, .string re, .bool de] 79)).heap.size ((w1.alloc (.cells #[.int .i64 qk, .int .i64 qf, .int .i64 qg, .int .i64 qd] 127)).alloc (.cells #[.int .i64 i, .string cl, .string su, .string scp, .int .i64 ge, .int .i64 ma, .int .i64 us, .string re, .bool de] 79))) nq
        have HF4 := Lib.hid (HF3.out.below' hbd)
        have HB4 := Lib.hid (below_2 HB3.out hbd)
        clear hbd
        go_wp2_with fail
        obtain ⟨n1, n2⟩ := nine_sets (f0 := Fam.zero) HF4.out i cl su scp ge ma us re de
        refine rshow_end (HB4.out.grown n2 HB4.out.size (fun i hi => by cases hi; exact Nat.le_refl _)) n1 rfl ?_ rfl ?_
        · rw [HQ.out]; rfl
        · rw [HQ.out]
  · have hq : showV le f qg qd z.s.clock = (Fam.zero, le) := by unfold showV; rw [if_pos hle]
    have HQ := Lib.hid hq
    have hle' : (le == 0) = false := by simpa using hle
    have hle2 : decide (le = 0) = false := decide_eq_false hle
    clear hq hlf
    go_wp2_with fail
    go_quiet (fail)
    have hbd := below_drewN (Below.refl ((w1.alloc (.cells #[.int .i64 qk, .int .i64 qf, .int .i64 qg, .int .i64 qd] 127)).alloc (.cells #[.int .i64 i, .string cl, .string su, .string scp, .int .i64 ge, .int .i64 ma, .int .i64 us, .string re, .bool de] 79)).heap.size ((w1.alloc (.cells #[.int .i64 qk, .int .i64 qf, .int .i64 qg, .int .i64 qd] 127)).alloc (.cells #[.int .i64 i, .string cl, .string su, .string scp, .int .i64 ge, .int .i64 ma, .int .i64 us, .string re, .bool de] 79))) nq
    have HF4 := Lib.hid (HF3.out.below' hbd)
    have HB4 := Lib.hid (below_2 HB3.out hbd)
    clear hbd
    go_wp2_with fail
    obtain ⟨n1, n2⟩ := nine_sets (f0 := Fam.zero) HF4.out 0 ⟨#[]⟩ ⟨#[]⟩ ⟨#[]⟩ 0 0 0 ⟨#[]⟩ false
    refine rshow_end (HB4.out.grown n2 HB4.out.size (fun i hi => by cases hi; exact Nat.le_refl _)) n1 rfl ?_ rfl ?_
    · rw [HQ.out]; rfl
    · rw [HQ.out]; rfl
end
end Go.Proofs.YtckohmhhcknmaaaGreatDoor

/-
  rotorref's service: Grant.
-/
namespace Go.Proofs.YtckohmhhcknmaaaGreatDoor
open Go.RowKit Go.Sort

section
variable {W : World} {B qb rb : Nat} {r : Ru} {z : SS} {v : Value}
set_option maxHeartbeats 4000000 in
set_option maxRecDepth 100000 in
theorem rsv_grant (h : RV B qb rb r z v W) (hz : RZ r z) (client subject sc : ByteArray) (h1 : client.size ≤ 1000) (h2 : subject.size ≤ 1000) (h3 : sc.size ≤ 1000) :
    Calls Tryz.prog 22 #[.pointer (some ⟨qb, 0, none⟩), .string client, .string subject, .string sc] W (RPlanS W B qb rb r z (grantP r z.s client subject sc)) := by
  have HN1 := Lib.hid (fun w => ref_name client w h1)
  have HN2 := Lib.hid (fun w => ref_name subject w h2)
  have HLS := Lib.hid (fun w => ref_least sc w h3)
  have hfit := hz.fit
  have hlen := hfit.len
  have HPT := Lib.hid (fun w v f (hf : f.short 1000) (h : RV B qb rb r z v w) => rsv_put h hz.fit hz.lg f hf)
  have HRF := Lib.hid (fun w z' v' f hi hg (h : RV B qb rb r z' v' w) => rsv_refresh h f hi hg)
  obtain ⟨sa, sc', rfl⟩ := h.rr.slice
  have H := Lib.hid h
  clear h
  rcases hn1 : nameB client.data.toList with _ | _
  · have hp : grantP r z.s client subject sc = .say noneS 1 := by unfold grantP; rw [hn1]; rfl
    have HP := Lib.hid hp
    rw [hn1] at HN1
    clear hp hn1
    go_enter Tryz.func22, Tryz.ntmps22
    go_wp2_with fail
    go_at_call 57
    refine (HN1.out _).mono ?_
    rintro e w1 ⟨rfl, rfl⟩
    go_wp2_with fail
    go_ret2
    rw [HP.out]
    exact RPlanS.say H.out (Below.refl _ _)
  · rw [hn1] at HN1
    rcases hn2 : nameB subject.data.toList with _ | _
    · have hp : grantP r z.s client subject sc = .say noneS 1 := by unfold grantP; rw [hn1, hn2]; rfl
      have HP := Lib.hid hp
      rw [hn2] at HN2
      clear hp hn1 hn2
      go_enter Tryz.func22, Tryz.ntmps22
      go_wp2_with fail
      go_at_call 57
      refine (HN1.out _).mono ?_
      rintro e w1 ⟨rfl, rfl⟩
      go_wp2_with fail
      go_at_call 57
      refine (HN2.out _).mono ?_
      rintro e w1 ⟨rfl, rfl⟩
      go_wp2_with fail
      go_ret2
      rw [HP.out]
      exact RPlanS.say H.out (Below.refl _ _)
    · rw [hn2] at HN2
      have HNA := Lib.hid (show (nameB client.data.toList && nameB subject.data.toList) = true by rw [hn1, hn2]; rfl)
      have HNN := Lib.hid (And.intro hn1 hn2)
      clear hn1 hn2
      go_enter Tryz.func22, Tryz.ntmps22
      go_wp2_with fail
      go_at_call 57
      refine (HN1.out _).mono ?_
      rintro e w1 ⟨rfl, rfl⟩
      go_wp2_with fail
      go_at_call 57
      refine (HN2.out _).mono ?_
      rintro e w1 ⟨rfl, rfl⟩
      clear HN1 HN2
      go_wp2_with fail
      go_at_call 58
      refine (HLS.out _).mono ?_
      rintro e w3 ⟨rfl, hb⟩
      have H3 := Lib.hid (H.out.keep hb)
      have HB3 := Lib.hid hb
      clear hb HLS H
      by_cases hsn : scopeN sc.data.toList = 0
      · have e0 : (.int .i64 (scopeN sc.data.toList) : Value) = .int .i64 0 := by rw [hsn]
        rw [e0]
        have HSN := Lib.hid hsn
        clear e0 hsn
        obtain ⟨c0, c1, c2, c3, c4, hlt⟩ := H3.out.five
        obtain ⟨d0, d1, d2, hlt2⟩ := H3.out.three
        have hal := (Below.refl w3.heap.size w3).alloc (Nat.le_refl _) (.cells #[.int .i64 z.s.clock, .int .i64 z.s.next, .slice sa z.s.fams.length sc'] 39)
        have H4 := Lib.hid (H3.out.keep hal)
        have HB4 := Lib.hid (below_2 HB3.out hal)
        clear hal
        by_cases hnx : 1099511627776 < z.s.next
        · have hp : grantP r z.s client subject sc = .say noneS 4 := by unfold grantP; rw [HNA.out, if_neg (by decide), if_neg (by rw [HSN.out]; decide), if_pos hnx]
          have HP := Lib.hid hp
          clear hp
          go_wp2_with fail
          go_ret2
          rw [HP.out]
          exact RPlanS.say H4.out HB4.out
        · by_cases hln : 20 ≤ z.s.fams.length
          · have hp : grantP r z.s client subject sc = .say noneS 12 := by unfold grantP; rw [HNA.out, if_neg (by decide), if_neg (by rw [HSN.out]; decide), if_neg hnx, if_pos hln]
            have HP := Lib.hid hp
            clear hp
            go_wp2_with fail
            go_ret2
            rw [HP.out]
            exact RPlanS.say H4.out HB4.out
          · have hp : grantP r z.s client subject sc = .put (putEv (grantF z.s client subject sc)) (refreshS r (grantF z.s client subject sc)) 0 := by unfold grantP; rw [HNA.out, if_neg (by decide), if_neg (by rw [HSN.out]; decide), if_neg hnx, if_neg hln]
            have HP := Lib.hid hp
            have hal := alloc2 w3 (.cells #[.int .i64 z.s.clock, .int .i64 z.s.next, .slice sa z.s.fams.length sc'] 39) (.cells (famCs (grantF z.s client subject sc)) 79)
            have hfb : Blk ((w3.alloc (.cells #[.int .i64 z.s.clock, .int .i64 z.s.next, .slice sa z.s.fams.length sc'] 39)).alloc (.cells (famCs (grantF z.s client subject sc)) 79)) (w3.heap.size + 1) 79 (famCs (grantF z.s client subject sc)) := by
              have := Blk.new (w3.alloc (.cells #[.int .i64 z.s.clock, .int .i64 z.s.next, .slice sa z.s.fams.length sc'] 39)) 79 (famCs (grantF z.s client subject sc))
              rw [show (w3.alloc (.cells #[.int .i64 z.s.clock, .int .i64 z.s.next, .slice sa z.s.fams.length sc'] 39)).heap.size = w3.heap.size + 1 by simp] at this
              exact this
            have HFB := Lib.hid hfb
            have H5 := Lib.hid (H3.out.keep hal)
            have HB5 := Lib.hid (below_2 HB3.out hal)
            have hnM := okM_iff.1 hfit.next
            have hidN : okN z.s.next = true := okN_iff.2 (by omega)
            have hlst := leastL_len sc.data.toList
            have hcn := nameB_len HNN.out.1
            have hsn9 := nameB_len HNN.out.2
            have hshort : (grantF z.s client subject sc).short 1000 := by
              unfold grantF Fam.short noneS
              dsimp only
              rw [txt_size_]
              have e1 : client.size = client.data.toList.length := (size_data client).symm
              have e2 : subject.size = subject.data.toList.length := (size_data subject).symm
              refine ⟨by omega, by omega, by omega, by show 0 ≤ 1000; omega⟩
            have HP2 := Lib.hid (fun w (h : RV B qb rb r z (.slice sa z.s.fams.length sc') w) => HPT.out w _ (grantF z.s client subject sc) hshort h)
            have HR2 := Lib.hid (fun w z' v' (h : RV B qb rb r z' v' w) => HRF.out w z' v' (grantF z.s client subject sc) hidN (show okN 0 = true by decide) h)
            unfold famVal at HP2 HR2
            generalize hQ : addS z (putEv (grantF z.s client subject sc)) = Q at *
            have HQ := Lib.hid hQ
            generalize hX : refreshS r (grantF z.s client subject sc) = X at *
            generalize hF : putEv (grantF z.s client subject sc) = FE at *
            unfold grantF famCs at HP2 HR2 HFB H5 HB5
            unfold noneS at HP2 HR2 HFB H5 HB5
            dsimp only at HP2 HR2 HFB H5 HB5
            clear hX hF hQ
            clear hp hal hfb hnM hidN hlst hcn hsn9 hshort H4 HB4 H3 HB3 HPT HRF
            go_wp2_with fail
            go_at_call 59
            refine (HP2.out _ H5.out).mono ?_
            rintro e w6 ⟨rfl, hg, v6, h6⟩
            have H6 := Lib.hid h6
            have HT6 := Lib.hid (only_trans (only_of_below HB5.out _) hg)
            have HF6 := Lib.hid (HFB.out.grown hg (by simpa using HFB.out.ne_ H5.out.ra (by decide)))
            clear hg h6 HFB H5 HB5 HP2
            by_cases hq : Q.2 = 0
            · have e0 : (.int .i64 Q.2 : Value) = .int .i64 0 := by rw [hq]
              rw [e0]
              have HQ0 := Lib.hid hq
              clear e0 hq
              obtain ⟨f0, f1, f2, f3, f4, f5, f6, f7, f8⟩ := fam_cells HF6.out
              go_wp2_with fail
              go_at_call 60
              refine (HR2.out _ _ _ H6.out).mono ?_
              rintro e w7 ⟨rfl, hb⟩
              have H7 := Lib.hid (H6.out.keep hb)
              have HT7 := Lib.hid (only_trans HT6.out (only_of_below hb _))
              clear hb H6 HT6 f0 f1 f2 f3 f4 f5 f6 f7 f8 HF6
              go_wp2_with fail
              go_ret2
              rw [HP.out]
              exact RPlanS.good (by rw [HQ.out]; exact HQ0.out) HT7.out (by rw [HQ.out]; exact H7.out)
            · have HQ0 := Lib.hid hq
              go_wp2_with fail
              go_ret2
              rw [HP.out, ← HQ.out]
              exact RPlanS.bad (by rw [HQ.out]; exact HQ0.out) HT6.out (by rw [HQ.out]; exact H6.out)
      · have hp : grantP r z.s client subject sc = .say noneS (scopeN sc.data.toList) := by unfold grantP; rw [HNA.out, if_neg (by decide), if_pos hsn]
        have HP := Lib.hid hp
        clear hp
        go_wp2_with fail
        go_ret2
        rw [HP.out]
        exact RPlanS.say H3.out HB3.out
end
end Go.Proofs.YtckohmhhcknmaaaGreatDoor

/-
  The reference's Within.
-/
namespace Go.Proofs.YtckohmhhcknmaaaGreatDoor
open Go.RowKit Go.Sort

theorem count_01 {L : List (List UInt8)} (h : L.Nodup) (x : List UInt8) : L.count x = if L.contains x then 1 else 0 := by
  by_cases hx : x ∈ L
  · rw [if_pos (List.contains_iff_mem.2 hx)]
    have h1 := List.nodup_iff_count.1 h x
    have h2 := List.count_pos_iff.2 hx
    omega
  · rw [List.count_eq_zero.2 hx, if_neg (fun h => hx (List.contains_iff_mem.1 h))]
def inB (b : List UInt8) (w : List UInt8) : Bool := (scopeL b).contains w
def OutRel (a b : List UInt8) (n i : Value) : Prop := ∃ k : Nat, k ≤ (scopeL a).length ∧ i = .int .i64 k ∧ n = .int .i64 (((scopeL a).take k).countP (inB b))
def InnRel (b x : List UInt8) (N : Nat) (n j : Value) : Prop := ∃ k : Nat, k ≤ (scopeL b).length ∧ j = .int .i64 k ∧ n = .int .i64 ((N + ((scopeL b).take k).count x : Nat))
theorem wi_next {L : List (List UInt8)} {k : Nat} (h : k < L.length) : L.take (k + 1) = L.take k ++ [L.getD k []] := by
  rw [List.take_add_one, List.getElem?_eq_getElem h]
  simp [List.getD, h]
theorem countP_take_le (L : List (List UInt8)) (p : List UInt8 → Bool) (k : Nat) : (L.take k).countP p ≤ k := Nat.le_trans List.countP_le_length (List.length_take_le _ _)
theorem count_take_le (L : List (List UInt8)) (x : List UInt8) (k : Nat) : (L.take k).count x ≤ k := Nat.le_trans List.count_le_length (List.length_take_le _ _)
theorem within_count (a b : List UInt8) : decide (((scopeL a).countP (inB b) : Int) = ((scopeL a).length : Int)) = withinB a b := by
  rw [Bool.eq_iff_iff, decide_eq_true_eq]
  unfold withinB
  rw [List.all_eq_true]
  have : ((scopeL a).countP (inB b) : Int) = ((scopeL a).length : Int) ↔ (scopeL a).countP (inB b) = (scopeL a).length := by omega
  rw [this, List.countP_eq_length]
  rfl

set_option maxHeartbeats 8000000 in
theorem ref_within (a b : ByteArray) (W : World) (ha : a.size ≤ 1000) (hb : b.size ≤ 1000) :
    Calls Tryz.prog 62 #[.string a, .string b] W fun e w' => e = .returned (.tuple #[.bool (withB a.data.toList b.data.toList), .int .i64 (withN a.data.toList b.data.toList)]) ∧ Below W.heap.size W w' := by
  have H1 := Lib.hid (ref_scope a W ha)
  have HB := Lib.hid (fun w => ref_scope b w hb)
  by_cases h0 : scopeN a.data.toList = 0
  · have E := Lib.hid h0
    have W2 := Lib.hid (withN_2 (b := b.data.toList) h0)
    clear h0
    by_cases h1 : scopeN b.data.toList = 0
    · have E2 := Lib.hid h1
      have W3 := Lib.hid (show withN a.data.toList b.data.toList = 0 by rw [W2.out, h1])
      clear h1
      go_enter Tryz.func62, Tryz.ntmps62
      go_wp2_with fail
      go_at_call 107
      refine H1.out.mono ?_
      rintro e w1 ⟨v, rfl, hr1, hb1⟩
      rw [E.out]
      have HR1 := Lib.hid hr1
      have HB1 := Lib.hid hb1
      clear hr1 hb1
      go_wp2_with fail
      go_at_call 107
      refine (HB.out _).mono ?_
      rintro e w2 ⟨u, rfl, hr2, hb2⟩
      rw [E2.out]
      have HR2 := Lib.hid (RowOrNil.below HR1.out hb2)
      have HR3 := Lib.hid hr2
      have HB2 := Lib.hid (HB1.out.trans (hb2.mono HB1.out.size))
      have hl1 := (scopeL_small a.data.toList).1
      have hl2 := (scopeL_small b.data.toList).1
      obtain ⟨A, cap, ev, hcA⟩ := HR2.out.slice
      subst ev
      obtain ⟨B, cap', eu, hcB⟩ := HR3.out.slice
      subst eu
      have HCA := Lib.hid hcA
      have HCB := Lib.hid hcB
      clear hr2 hb2 hcA hcB
      go_wp2_with fail
      go_loop [9, 32] (fun n i => OutRel a.data.toList b.data.toList n i) (fun _ i => (scopeL a.data.toList).length - (intOf i).toNat)
      case atStart => exact ⟨0, Nat.zero_le _, rfl, rfl⟩
      case round =>
        obtain ⟨k, hk, rfl, rfl⟩ := hrel
        have hcl := countP_take_le (scopeL a.data.toList) (inB b.data.toList) k
        by_cases hlt : k < (scopeL a.data.toList).length
        · obtain ⟨g, eA, hc⟩ := HCA.out k hlt
          subst eA
          have HT := Lib.hid (wi_next hlt)
          generalize hx : (scopeL a.data.toList).getD k [] = x at *
          have HX := Lib.hid hx
          clear hx
          generalize hN : ((scopeL a.data.toList).take k).countP (inB b.data.toList) = N at *
          have HN := Lib.hid hN
          clear hN
          go_wp2_with fail
          go_loop [9, 38] (fun n i => InnRel b.data.toList x N n i) (fun _ i => (scopeL b.data.toList).length - (intOf i).toNat)
          case atStart => exact ⟨0, Nat.zero_le _, rfl, by simp⟩
          case round =>
            obtain ⟨j, hj, rfl, rfl⟩ := hrel
            have hcl2 := count_take_le (scopeL b.data.toList) x j
            by_cases hjt : j < (scopeL b.data.toList).length
            · obtain ⟨g2, eB, hc2⟩ := HCB.out j hjt
              subst eB
              have HT2 := Lib.hid (wi_next hjt)
              generalize hy : (scopeL b.data.toList).getD j [] = y at *
              have HY := Lib.hid hy
              clear hy
              generalize hM : ((scopeL b.data.toList).take j).count x = M at *
              have HM := Lib.hid hM
              clear hM
              by_cases hxy : x = y
              · have et : ((txt x).toList == (txt y).toList) = true := by rw [hxy]; simp
                have HXY := Lib.hid hxy
                clear hxy
                go_wp2_with fail
                go_round
                case rel =>
                  refine ⟨j + 1, by omega, by go_num, ?_⟩
                  rw [HT2.out, List.count_append, HM.out, HXY.out]
                  simp
                  go_num
                case measure => simp [intOf]; omega
              · have et : ((txt x).toList == (txt y).toList) = false := by rw [toList_txt, toList_txt]; simpa using hxy
                have HXY := Lib.hid hxy
                clear hxy
                go_wp2_with fail
                go_round
                case rel =>
                  refine ⟨j + 1, by omega, by go_num, ?_⟩
                  rw [HT2.out, List.count_append, HM.out, List.count_singleton]
                  rw [if_neg (by simpa using fun h => HXY.out h.symm)]
                  go_num
                case measure => simp [intOf]; omega
            · have ej : j = (scopeL b.data.toList).length := by omega
              have hcount := count_01 (scopeL_up b.data.toList).nodup x
              have HC := Lib.hid (show ((scopeL b.data.toList).take j).count x = if inB b.data.toList x then 1 else 0 by rw [ej, List.take_length, hcount]; rfl)
              clear hcount ej
              generalize ((scopeL b.data.toList).take j).count x = M at *
              go_wp2_with fail
              go_round
              case rel =>
                refine ⟨k + 1, by omega, by go_num, ?_⟩
                rw [HT.out, List.countP_append, HN.out, HC.out]
                cases hin : inB b.data.toList x
                · simp [hin]
                · simp [hin]
              case measure => simp [intOf]; omega
        · have ek : k = (scopeL a.data.toList).length := by omega
          have HW := Lib.hid (show decide ((((scopeL a.data.toList).take k).countP (inB b.data.toList) : Int) = ((scopeL a.data.toList).length : Int)) = withinB a.data.toList b.data.toList by
            rw [ek, List.take_length]; exact within_count _ _)
          clear ek
          generalize ((scopeL a.data.toList).take k).countP (inB b.data.toList) = N at *
          go_wp2_with fail
          go_ret2
          refine ⟨?_, HB2.out⟩
          rw [W3.out]
          unfold withB
          rw [W3.out, ← HW.out]
          simp
          rfl
    · have E2 := Lib.hid (show (scopeN b.data.toList == 0) = false by simpa using h1)
      have E3 := Lib.hid h1
      have W3 := Lib.hid (withB_bad (a := a.data.toList) (b := b.data.toList) (by rw [W2.out]; exact h1))
      clear h1
      go_enter Tryz.func62, Tryz.ntmps62
      go_wp2_with fail
      go_at_call 107
      refine H1.out.mono ?_
      rintro e w1 ⟨v, rfl, hr1, hb1⟩
      rw [E.out]
      have HB1 := Lib.hid hb1
      clear hr1 hb1
      go_wp2_with fail
      go_at_call 107
      refine (HB.out _).mono ?_
      rintro e w2 ⟨u, rfl, hr2, hb2⟩
      have HB2 := Lib.hid (HB1.out.trans (hb2.mono HB1.out.size))
      clear hr2 hb2
      have e3 := E3.out
      have e4 := E2.out
      go_wp2_with fail
      go_ret2
      exact ⟨by rw [W3.out, W2.out]; rfl, HB2.out⟩
  · have E2 := Lib.hid (show (scopeN a.data.toList == 0) = false by simpa using h0)
    have E3 := Lib.hid h0
    have W2 := Lib.hid (withN_1 (b := b.data.toList) h0)
    have W3 := Lib.hid (withB_bad (a := a.data.toList) (b := b.data.toList) (by rw [W2.out]; exact h0))
    clear h0
    go_enter Tryz.func62, Tryz.ntmps62
    go_wp2_with fail
    go_at_call 107
    refine H1.out.mono ?_
    rintro e w1 ⟨v, rfl, hr1, hb1⟩
    have HB1 := Lib.hid hb1
    clear hr1 hb1
    have e3 := E3.out
    have e4 := E2.out
    go_wp2_with fail
    go_ret2
    exact ⟨by rw [W3.out, W2.out]; rfl, HB1.out⟩
end Go.Proofs.YtckohmhhcknmaaaGreatDoor
