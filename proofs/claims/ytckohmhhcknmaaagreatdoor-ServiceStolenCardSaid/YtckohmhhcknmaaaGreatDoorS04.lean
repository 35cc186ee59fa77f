/-
  ServiceStolen: asks: Mint.
-/
import Derived.Test.YtckohmhhcknmaaaGreatDoorS02
namespace Go.Proofs.YtckohmhhcknmaaaGreatDoor
open Go.RowKit Go.Sort Go.Maps

section
variable {W w : World} {hb vb sb db k m1 m2 m3 c : Nat} {r : Ru} {z : SS} {v tv : Value} {T : List ByteArray} {K : Kn}
set_option maxHeartbeats 16000000 in
set_option maxRecDepth 100000 in
theorem asks_2 (h : HL W hb vb sb db k m1 m2 m3 c r z v tv T K w) (_ : k < 1000000) (hc : c ≤ 900000) (hT : T.length ≤ 1000) (key ti n : Int) (sc : ByteArray) (hkey : r.key = key) :
    Calls Tryz.prog 16 #[.pointer (some ⟨hb, 0, none⟩), .int .i64 key, .agg #[.int .i64 2, .int .i64 ti, .int .i64 n, .string sc]] w (AskGot W hb vb sb db k m1 m2 m3 c r T) := by
  obtain ⟨ta, tc, rfl⟩ := h.toks.slice
  have hal := (Below.refl w.heap.size w).alloc (Nat.le_refl _) (.cells #[.int .i64 2, .int .i64 ti, .int .i64 n, .string sc] 53)
  have H0 := Lib.hid (h.keep hal)
  have HX0 := Lib.hid (Blk.new w 53 #[.int .i64 2, .int .i64 ti, .int .i64 n, .string sc])
  obtain ⟨c0, c1, c2, c3, c4⟩ := H0.out.five
  obtain ⟨x0, x1, x2, x3⟩ := tok_cells HX0.out
  have hto : ∀ t : ByteArray, tokR (fun B => tagL key B) (parts 46 t.data.toList) = tokOf r t := fun t => by unfold tokOf; rw [hkey]
  have HRD := Lib.hid (fun (t : ByteArray) (ht : t.size ≤ 100) w (h : HL W hb vb sb db k m1 m2 m3 c r z v (.slice ta T.length tc) T K w) => by
    have := token_read key t w (by omega) h.aw.sw.sx.env.maxl h.aw.sw.sx.env.tens h.aw.sw.sx.env.errs
    rw [hto] at this
    exact this)
  unfold TokGot v4 at HRD
  clear h hal hto hkey
  rcases Nat.eq_zero_or_pos T.length with h0 | h0
  · have hd0 : decide (0 < T.length) = false := decide_eq_false (by omega)
    go_enter Tryz.func16, Tryz.ntmps16
    go_wp2_with fail
    have HTT := Lib.hid (show (⟨#[]⟩ : ByteArray).size ≤ 100 by decide)
    have H1 := H0
    have HX1 := HX0
    clear H0 HX0 c0 c1 c2 c3 c4 x0 x1 x2 x3 hd0 h0
    generalize w.alloc (.cells #[.int .i64 2, .int .i64 ti, .int .i64 n, .string sc] 53) = w1 at *
    generalize w.heap.size = xb at *

    have HID := Lib.hid (show tokId r ⟨#[]⟩ = (tokOf r ⟨#[]⟩).2.2.1 from rfl)
    have HR2 := Lib.hid (HRD.out ⟨#[]⟩ HTT.out)
    generalize tokOf r ⟨#[]⟩ = tq at *
    obtain ⟨qe, qk, qf, qg, qd⟩ := tq
    dsimp only at HR2 HID
    go_at_call 48
    refine (HR2.out _ H1.out).mono ?_
    rintro e w2 ⟨rfl, hbd⟩
    have hal := (Below.refl w2.heap.size w2).alloc (Nat.le_refl _) (.cells #[.int .i64 qk, .int .i64 qf, .int .i64 qg, .int .i64 qd] 104)
    have H2 := Lib.hid ((H1.out.keep hbd).keep hal)
    have HX2 := Lib.hid ((HX1.out.below' hbd).below' hal)
    have HO2 := Lib.hid (Blk.new w2 104 #[.int .i64 qk, .int .i64 qf, .int .i64 qg, .int .i64 qd])
    have hob : W.heap.size ≤ w2.heap.size := (H1.out.keep hbd).aw.below.size
    clear hbd hal H1 HX1 HRD HR2
    obtain ⟨x0, x1, x2, x3⟩ := tok_cells HX2.out
    obtain ⟨o0, o1, o2, o3⟩ := tok_cells HO2.out
    obtain ⟨c0, c1, c2, c3, c4⟩ := H2.out.five
    go_wp2_with fail
    generalize w2.alloc (.cells #[.int .i64 qk, .int .i64 qf, .int .i64 qg, .int .i64 qd] 104) = w3 at *
    generalize w2.heap.size = ob at *

    have HMT := Lib.hid (H2.out.mint ⟨#[]⟩ (by have := HTT.out; omega))
    go_at_call 25
    refine HMT.out.mono ?_
    rintro e w9 ⟨got, code, hgs, hlv, rfl, h9, hrest⟩
    have H9 := Lib.hid h9
    have HX9 := Lib.hid (hrest.2 _ _ _ HX2.out (by decide) (by decide))
    have HO9 := Lib.hid (hrest.2 _ _ _ HO2.out (by decide) (by decide))
    have HGS := Lib.hid hgs
    have HLI := Lib.hid hlv
    clear h9 hrest hlv H2 HX2 HO2 x0 x1 x2 x3 o0 o1 o2 o3 c0 c1 c2 c3 c4 HMT
    by_cases h00 : code = 0
    · subst h00
      have e00 : errV 0 = .nilIface := errV_0
      rw [e00]
      clear e00
      have hqf : okN qf = true := by rw [← HID.out]; exact tok_id r ⟨#[]⟩
      have HLV := Lib.hid (show K.stolen qf = false by rw [← HID.out]; exact HLI.out rfl)
      go_wp2_with fail
      obtain ⟨x0, x1, x2, x3⟩ := tok_cells HX9.out
      have hst : ∀ nn, (Instr.lookup 45 (.map (some m1)) (.int .i64 qf) false).run Tryz.prog (w9.drewN nn) = .ok (.bool false) (w9.drewN nn) := fun nn => by
        have := (show MapIB Tryz.prog 3 4 (w9.drewN nn) m1 _ _ from H9.out.map1).look (T := 45) Tryz.underlying45 Tryz.underlying3 Tryz.underlying4 (by rfl) qf (int_key qf hqf)
        rw [show K.stolen qf = false from HLV.out] at this
        exact this
      obtain ⟨c0, c1, c2, c3, c4⟩ := H9.out.five
      obtain ⟨o0, o1, o2, o3⟩ := tok_cells HO9.out
      go_quiet (fail)
      have hbd := below_drewN (Below.refl w9.heap.size w9) nq
      have HA := Lib.hid (H9.out.keep hbd)
      clear hbd H9 HX9 HO9 x0 x1 x2 x3 hst c0 c1 c2 c3 c4 o0 o1 o2 o3
      generalize w9.drewN nq = u at *
      rcases hge : got.toList.isEmpty with _ | _
      · obtain ⟨i0, hii, hz0, hz1, hz2⟩ := info_parts strInfo
        obtain ⟨c0, c1, c2, c3, c4⟩ := HA.out.five
        have hrow : u.ownsRow W.heap.size 9 1 (.slice ta T.length tc) T.length (T.map Value.string) := HA.out.toks
        have hWu := HA.out.aw.below.size
        have HA1 := Lib.hid (HA.out.keep ((Below.refl u.heap.size u).alloc (Nat.le_refl _) (.cells #[.string got] 9)))
        go_wp2_with
          (at_builtin; refine wpList_append_own _ rfl _ _ 48 rfl W.heap.size 9 i0 (.string ByteArray.empty) 1 16 Tryz.underlying48 hii hz0 hz1 hz2 rfl (by decide) _ _ _ rfl (hrow.alloc _) ⟨u.heap.size, 0, none⟩ 1 1 [.string got] rfl rfl (cell_one_new _ _ _) (fun x hx => by simp at hx; subst hx; rfl) (by unfold maxLen; omega) (by omega) (by simp; omega) ?_; intro v' wn hown hgrow hnil
           have HO := Lib.hid hown
           have HG := Lib.hid hgrow
           have hbk := HA1.out.blk.grown hgrow (HA1.out.toks.apart HA1.out.blk (by decide)).symm
           obtain ⟨xa, xn, xc, rfl⟩ := own_slice hown
           have mv : wn.cell? ⟨hb, 1, none⟩ = some (.slice ta T.length tc) := hbk.cell 1
           have mz := hbk.frozen
           clear hown hgrow hnil hrow)
        have HE := Lib.hid (HA1.out.given HG.out HO.out HGS.out)
        go_at_call 51
        refine (narrows_yes HE.out (by omega)).mono ?_
        rintro e wf ⟨rfl, cf, Kf, hcf, hf⟩
        have HF := Lib.hid hf
        clear hf
        go_wp2_with fail
        go_ret
        exact ⟨rfl, _, cf, _, _, _, _, Kf, Nat.le_succ _, by omega, by rw [List.length_append]; exact Nat.le_refl _, HF.out⟩
      · go_wp2_with fail
        go_at_call 51
        refine (narrows_yes HA.out (by omega)).mono ?_
        rintro e wf ⟨rfl, cf, Kf, hcf, hf⟩
        have HF := Lib.hid hf
        clear hf
        go_wp2_with fail
        go_ret
        exact ⟨rfl, _, cf, _, _, _, _, Kf, Nat.le_succ _, by omega, Nat.le_succ _, HF.out⟩
    · have e1 : errV code = .iface 35 (.int .i64 code) := errV_n h00
      rw [e1]
      clear e1
      go_wp2_with fail
      obtain ⟨x0, x1, x2, x3⟩ := tok_cells HX9.out
      go_quiet (fail)
      have hbd := below_drewN (Below.refl w9.heap.size w9) nq
      have HA := Lib.hid (H9.out.keep hbd)
      clear hbd H9 HX9 HO9 x0 x1 x2 x3 
      generalize w9.drewN nq = u at *
      rcases hge : got.toList.isEmpty with _ | _
      · obtain ⟨i0, hii, hz0, hz1, hz2⟩ := info_parts strInfo
        obtain ⟨c0, c1, c2, c3, c4⟩ := HA.out.five
        have hrow : u.ownsRow W.heap.size 9 1 (.slice ta T.length tc) T.length (T.map Value.string) := HA.out.toks
        have hWu := HA.out.aw.below.size
        have HA1 := Lib.hid (HA.out.keep ((Below.refl u.heap.size u).alloc (Nat.le_refl _) (.cells #[.string got] 9)))
        go_wp2_with
          (at_builtin; refine wpList_append_own _ rfl _ _ 48 rfl W.heap.size 9 i0 (.string ByteArray.empty) 1 16 Tryz.underlying48 hii hz0 hz1 hz2 rfl (by decide) _ _ _ rfl (hrow.alloc _) ⟨u.heap.size, 0, none⟩ 1 1 [.string got] rfl rfl (cell_one_new _ _ _) (fun x hx => by simp at hx; subst hx; rfl) (by unfold maxLen; omega) (by omega) (by simp; omega) ?_; intro v' wn hown hgrow hnil
           have HO := Lib.hid hown
           have HG := Lib.hid hgrow
           have hbk := HA1.out.blk.grown hgrow (HA1.out.toks.apart HA1.out.blk (by decide)).symm
           obtain ⟨xa, xn, xc, rfl⟩ := own_slice hown
           have mv : wn.cell? ⟨hb, 1, none⟩ = some (.slice ta T.length tc) := hbk.cell 1
           have mz := hbk.frozen
           clear hown hgrow hnil hrow)
        have HE := Lib.hid (HA1.out.given HG.out HO.out HGS.out)
        go_at_call 51
        refine (narrows_yes HE.out (by omega)).mono ?_
        rintro e wf ⟨rfl, cf, Kf, hcf, hf⟩
        have HF := Lib.hid hf
        clear hf
        go_wp2_with fail
        go_ret
        exact ⟨rfl, _, cf, _, _, _, _, Kf, Nat.le_succ _, by omega, by rw [List.length_append]; exact Nat.le_refl _, HF.out⟩
      · go_wp2_with fail
        go_at_call 51
        refine (narrows_yes HA.out (by omega)).mono ?_
        rintro e wf ⟨rfl, cf, Kf, hcf, hf⟩
        have HF := Lib.hid hf
        clear hf
        go_wp2_with fail
        go_ret
        exact ⟨rfl, _, cf, _, _, _, _, Kf, Nat.le_succ _, by omega, Nat.le_succ _, HF.out⟩
  · have hd0 : decide (0 < T.length) = true := decide_eq_true h0
    have HPK := Lib.hid (fun w => pick_n ti (T.length : Int) w (by omega) (by omega))
    have hp := pickN_in ti (n := (T.length : Int)) (by omega)
    obtain ⟨p, hpp⟩ : ∃ p : Nat, pickN ti (T.length : Int) = p := ⟨_, (Int.toNat_of_nonneg hp.1).symm⟩
    rw [hpp] at HPK hp
    obtain ⟨tt, htt⟩ : ∃ t, T[p]? = some t := ⟨_, List.getElem?_eq_getElem (by omega)⟩
    obtain ⟨tg, rfl, hcell⟩ := H0.out.toks.lit htt
    have HTT := Lib.hid (H0.out.small tt (List.mem_of_getElem? htt))
    obtain ⟨hp0, hp1⟩ := hp
    clear hpp htt
    go_enter Tryz.func16, Tryz.ntmps16
    go_wp2_with fail
    go_quiet ((go_at_call 8; exact Calls.quiet_of_same ((HPK.out _).mono fun _ _ h => ⟨h.1, h.2.symm⟩)))
    go_wp2_with fail
    have hbd : Below (w.alloc (.cells #[.int .i64 2, .int .i64 ti, .int .i64 n, .string sc] 53)).heap.size (w.alloc (.cells #[.int .i64 2, .int .i64 ti, .int .i64 n, .string sc] 53)) ((w.alloc (.cells #[.int .i64 2, .int .i64 ti, .int .i64 n, .string sc] 53)).drewN nq) := below_drewN (Below.refl _ _) nq
    have H1 := Lib.hid (H0.out.keep hbd)
    have HX1 := Lib.hid (HX0.out.below' hbd)
    clear H0 HX0 c0 c1 c2 c3 c4 x0 x1 x2 x3 hd0 h0 hcell hp0 hp1 HPK hbd
    generalize (w.alloc (.cells #[.int .i64 2, .int .i64 ti, .int .i64 n, .string sc] 53)).drewN nq = w1 at *
    generalize w.heap.size = xb at *

    have HID := Lib.hid (show tokId r tt = (tokOf r tt).2.2.1 from rfl)
    have HR2 := Lib.hid (HRD.out tt HTT.out)
    generalize tokOf r tt = tq at *
    obtain ⟨qe, qk, qf, qg, qd⟩ := tq
    dsimp only at HR2 HID
    go_at_call 48
    refine (HR2.out _ H1.out).mono ?_
    rintro e w2 ⟨rfl, hbd⟩
    have hal := (Below.refl w2.heap.size w2).alloc (Nat.le_refl _) (.cells #[.int .i64 qk, .int .i64 qf, .int .i64 qg, .int .i64 qd] 104)
    have H2 := Lib.hid ((H1.out.keep hbd).keep hal)
    have HX2 := Lib.hid ((HX1.out.below' hbd).below' hal)
    have HO2 := Lib.hid (Blk.new w2 104 #[.int .i64 qk, .int .i64 qf, .int .i64 qg, .int .i64 qd])
    have hob : W.heap.size ≤ w2.heap.size := (H1.out.keep hbd).aw.below.size
    clear hbd hal H1 HX1 HRD HR2
    obtain ⟨x0, x1, x2, x3⟩ := tok_cells HX2.out
    obtain ⟨o0, o1, o2, o3⟩ := tok_cells HO2.out
    obtain ⟨c0, c1, c2, c3, c4⟩ := H2.out.five
    go_wp2_with fail
    generalize w2.alloc (.cells #[.int .i64 qk, .int .i64 qf, .int .i64 qg, .int .i64 qd] 104) = w3 at *
    generalize w2.heap.size = ob at *

    have HMT := Lib.hid (H2.out.mint tt (by have := HTT.out; omega))
    go_at_call 25
    refine HMT.out.mono ?_
    rintro e w9 ⟨got, code, hgs, hlv, rfl, h9, hrest⟩
    have H9 := Lib.hid h9
    have HX9 := Lib.hid (hrest.2 _ _ _ HX2.out (by decide) (by decide))
    have HO9 := Lib.hid (hrest.2 _ _ _ HO2.out (by decide) (by decide))
    have HGS := Lib.hid hgs
    have HLI := Lib.hid hlv
    clear h9 hrest hlv H2 HX2 HO2 x0 x1 x2 x3 o0 o1 o2 o3 c0 c1 c2 c3 c4 HMT
    by_cases h00 : code = 0
    · subst h00
      have e00 : errV 0 = .nilIface := errV_0
      rw [e00]
      clear e00
      have hqf : okN qf = true := by rw [← HID.out]; exact tok_id r tt
      have HLV := Lib.hid (show K.stolen qf = false by rw [← HID.out]; exact HLI.out rfl)
      go_wp2_with fail
      obtain ⟨x0, x1, x2, x3⟩ := tok_cells HX9.out
      have hst : ∀ nn, (Instr.lookup 45 (.map (some m1)) (.int .i64 qf) false).run Tryz.prog (w9.drewN nn) = .ok (.bool false) (w9.drewN nn) := fun nn => by
        have := (show MapIB Tryz.prog 3 4 (w9.drewN nn) m1 _ _ from H9.out.map1).look (T := 45) Tryz.underlying45 Tryz.underlying3 Tryz.underlying4 (by rfl) qf (int_key qf hqf)
        rw [show K.stolen qf = false from HLV.out] at this
        exact this
      obtain ⟨c0, c1, c2, c3, c4⟩ := H9.out.five
      obtain ⟨o0, o1, o2, o3⟩ := tok_cells HO9.out
      go_quiet (fail)
      have hbd := below_drewN (Below.refl w9.heap.size w9) nq
      have HA := Lib.hid (H9.out.keep hbd)
      clear hbd H9 HX9 HO9 x0 x1 x2 x3 hst c0 c1 c2 c3 c4 o0 o1 o2 o3
      generalize w9.drewN nq = u at *
      rcases hge : got.toList.isEmpty with _ | _
      · obtain ⟨i0, hii, hz0, hz1, hz2⟩ := info_parts strInfo
        obtain ⟨c0, c1, c2, c3, c4⟩ := HA.out.five
        have hrow : u.ownsRow W.heap.size 9 1 (.slice (some ⟨tg, 0, none⟩) T.length tc) T.length (T.map Value.string) := HA.out.toks
        have hWu := HA.out.aw.below.size
        have HA1 := Lib.hid (HA.out.keep ((Below.refl u.heap.size u).alloc (Nat.le_refl _) (.cells #[.string got] 9)))
        go_wp2_with
          (at_builtin; refine wpList_append_own _ rfl _ _ 48 rfl W.heap.size 9 i0 (.string ByteArray.empty) 1 16 Tryz.underlying48 hii hz0 hz1 hz2 rfl (by decide) _ _ _ rfl (hrow.alloc _) ⟨u.heap.size, 0, none⟩ 1 1 [.string got] rfl rfl (cell_one_new _ _ _) (fun x hx => by simp at hx; subst hx; rfl) (by unfold maxLen; omega) (by omega) (by simp; omega) ?_; intro v' wn hown hgrow hnil
           have HO := Lib.hid hown
           have HG := Lib.hid hgrow
           have hbk := HA1.out.blk.grown hgrow (HA1.out.toks.apart HA1.out.blk (by decide)).symm
           obtain ⟨xa, xn, xc, rfl⟩ := own_slice hown
           have mv : wn.cell? ⟨hb, 1, none⟩ = some (.slice (some ⟨tg, 0, none⟩) T.length tc) := hbk.cell 1
           have mz := hbk.frozen
           clear hown hgrow hnil hrow)
        have HE := Lib.hid (HA1.out.given HG.out HO.out HGS.out)
        go_at_call 51
        refine (narrows_yes HE.out (by omega)).mono ?_
        rintro e wf ⟨rfl, cf, Kf, hcf, hf⟩
        have HF := Lib.hid hf
        clear hf
        go_wp2_with fail
        go_ret
        exact ⟨rfl, _, cf, _, _, _, _, Kf, Nat.le_succ _, by omega, by rw [List.length_append]; exact Nat.le_refl _, HF.out⟩
      · go_wp2_with fail
        go_at_call 51
        refine (narrows_yes HA.out (by omega)).mono ?_
        rintro e wf ⟨rfl, cf, Kf, hcf, hf⟩
        have HF := Lib.hid hf
        clear hf
        go_wp2_with fail
        go_ret
        exact ⟨rfl, _, cf, _, _, _, _, Kf, Nat.le_succ _, by omega, Nat.le_succ _, HF.out⟩
    · have e1 : errV code = .iface 35 (.int .i64 code) := errV_n h00
      rw [e1]
      clear e1
      go_wp2_with fail
      obtain ⟨x0, x1, x2, x3⟩ := tok_cells HX9.out
      go_quiet (fail)
      have hbd := below_drewN (Below.refl w9.heap.size w9) nq
      have HA := Lib.hid (H9.out.keep hbd)
      clear hbd H9 HX9 HO9 x0 x1 x2 x3 
      generalize w9.drewN nq = u at *
      rcases hge : got.toList.isEmpty with _ | _
      · obtain ⟨i0, hii, hz0, hz1, hz2⟩ := info_parts strInfo
        obtain ⟨c0, c1, c2, c3, c4⟩ := HA.out.five
        have hrow : u.ownsRow W.heap.size 9 1 (.slice (some ⟨tg, 0, none⟩) T.length tc) T.length (T.map Value.string) := HA.out.toks
        have hWu := HA.out.aw.below.size
        have HA1 := Lib.hid (HA.out.keep ((Below.refl u.heap.size u).alloc (Nat.le_refl _) (.cells #[.string got] 9)))
        go_wp2_with
          (at_builtin; refine wpList_append_own _ rfl _ _ 48 rfl W.heap.size 9 i0 (.string ByteArray.empty) 1 16 Tryz.underlying48 hii hz0 hz1 hz2 rfl (by decide) _ _ _ rfl (hrow.alloc _) ⟨u.heap.size, 0, none⟩ 1 1 [.string got] rfl rfl (cell_one_new _ _ _) (fun x hx => by simp at hx; subst hx; rfl) (by unfold maxLen; omega) (by omega) (by simp; omega) ?_; intro v' wn hown hgrow hnil
           have HO := Lib.hid hown
           have HG := Lib.hid hgrow
           have hbk := HA1.out.blk.grown hgrow (HA1.out.toks.apart HA1.out.blk (by decide)).symm
           obtain ⟨xa, xn, xc, rfl⟩ := own_slice hown
           have mv : wn.cell? ⟨hb, 1, none⟩ = some (.slice (some ⟨tg, 0, none⟩) T.length tc) := hbk.cell 1
           have mz := hbk.frozen
           clear hown hgrow hnil hrow)
        have HE := Lib.hid (HA1.out.given HG.out HO.out HGS.out)
        go_at_call 51
        refine (narrows_yes HE.out (by omega)).mono ?_
        rintro e wf ⟨rfl, cf, Kf, hcf, hf⟩
        have HF := Lib.hid hf
        clear hf
        go_wp2_with fail
        go_ret
        exact ⟨rfl, _, cf, _, _, _, _, Kf, Nat.le_succ _, by omega, by rw [List.length_append]; exact Nat.le_refl _, HF.out⟩
      · go_wp2_with fail
        go_at_call 51
        refine (narrows_yes HA.out (by omega)).mono ?_
        rintro e wf ⟨rfl, cf, Kf, hcf, hf⟩
        have HF := Lib.hid hf
        clear hf
        go_wp2_with fail
        go_ret
        exact ⟨rfl, _, cf, _, _, _, _, Kf, Nat.le_succ _, by omega, Nat.le_succ _, HF.out⟩
end
end Go.Proofs.YtckohmhhcknmaaaGreatDoor

/-
  ServiceStolen: asks: Show.
-/
namespace Go.Proofs.YtckohmhhcknmaaaGreatDoor
open Go.RowKit Go.Sort Go.Maps

section
variable {W w : World} {hb vb sb db k m1 m2 m3 c : Nat} {r : Ru} {z : SS} {v tv : Value} {T : List ByteArray} {K : Kn}
set_option maxHeartbeats 16000000 in
set_option maxRecDepth 100000 in
theorem asks_3 (h : HL W hb vb sb db k m1 m2 m3 c r z v tv T K w) (_ : k < 1000000) (hc : c ≤ 900000) (hT : T.length ≤ 1000) (key ti n : Int) (sc : ByteArray) (hkey : r.key = key) :
    Calls Tryz.prog 16 #[.pointer (some ⟨hb, 0, none⟩), .int .i64 key, .agg #[.int .i64 3, .int .i64 ti, .int .i64 n, .string sc]] w (AskGot W hb vb sb db k m1 m2 m3 c r T) := by
  obtain ⟨ta, tc, rfl⟩ := h.toks.slice
  have hal := (Below.refl w.heap.size w).alloc (Nat.le_refl _) (.cells #[.int .i64 3, .int .i64 ti, .int .i64 n, .string sc] 53)
  have H0 := Lib.hid (h.keep hal)
  have HX0 := Lib.hid (Blk.new w 53 #[.int .i64 3, .int .i64 ti, .int .i64 n, .string sc])
  obtain ⟨c0, c1, c2, c3, c4⟩ := H0.out.five
  obtain ⟨x0, x1, x2, x3⟩ := tok_cells HX0.out
  have hto : ∀ t : ByteArray, tokR (fun B => tagL key B) (parts 46 t.data.toList) = tokOf r t := fun t => by unfold tokOf; rw [hkey]
  have HRD := Lib.hid (fun (t : ByteArray) (ht : t.size ≤ 100) w (h : HL W hb vb sb db k m1 m2 m3 c r z v (.slice ta T.length tc) T K w) => by
    have := token_read key t w (by omega) h.aw.sw.sx.env.maxl h.aw.sw.sx.env.tens h.aw.sw.sx.env.errs
    rw [hto] at this
    exact this)
  unfold TokGot v4 at HRD
  clear h hal hto hkey
  rcases Nat.eq_zero_or_pos T.length with h0 | h0
  · have hd0 : decide (0 < T.length) = false := decide_eq_false (by omega)
    go_enter Tryz.func16, Tryz.ntmps16
    go_wp2_with fail
    have HTT := Lib.hid (show (⟨#[]⟩ : ByteArray).size ≤ 100 by decide)
    have H1 := H0
    have HX1 := HX0
    clear H0 HX0 c0 c1 c2 c3 c4 x0 x1 x2 x3 hd0 h0
    generalize w.alloc (.cells #[.int .i64 3, .int .i64 ti, .int .i64 n, .string sc] 53) = w1 at *
    generalize w.heap.size = xb at *

    have HID := Lib.hid (show tokId r ⟨#[]⟩ = (tokOf r ⟨#[]⟩).2.2.1 from rfl)
    have HR2 := Lib.hid (HRD.out ⟨#[]⟩ HTT.out)
    generalize tokOf r ⟨#[]⟩ = tq at *
    obtain ⟨qe, qk, qf, qg, qd⟩ := tq
    dsimp only at HR2 HID
    go_at_call 48
    refine (HR2.out _ H1.out).mono ?_
    rintro e w2 ⟨rfl, hbd⟩
    have hal := (Below.refl w2.heap.size w2).alloc (Nat.le_refl _) (.cells #[.int .i64 qk, .int .i64 qf, .int .i64 qg, .int .i64 qd] 104)
    have H2 := Lib.hid ((H1.out.keep hbd).keep hal)
    have HX2 := Lib.hid ((HX1.out.below' hbd).below' hal)
    have HO2 := Lib.hid (Blk.new w2 104 #[.int .i64 qk, .int .i64 qf, .int .i64 qg, .int .i64 qd])
    have hob : W.heap.size ≤ w2.heap.size := (H1.out.keep hbd).aw.below.size
    clear hbd hal H1 HX1 HRD HR2
    obtain ⟨x0, x1, x2, x3⟩ := tok_cells HX2.out
    obtain ⟨o0, o1, o2, o3⟩ := tok_cells HO2.out
    obtain ⟨c0, c1, c2, c3, c4⟩ := H2.out.five
    go_wp2_with fail
    generalize w2.alloc (.cells #[.int .i64 qk, .int .i64 qf, .int .i64 qg, .int .i64 qd] 104) = w3 at *
    generalize w2.heap.size = ob at *

    have HMT := Lib.hid (H2.out.show ⟨#[]⟩ (by have := HTT.out; omega))
    go_at_call 27
    refine HMT.out.mono ?_
    rintro e w9 ⟨fo, code, hlv, rfl, h9, hrest⟩
    have H9 := Lib.hid h9
    have HX9 := Lib.hid (hrest.2 _ _ _ HX2.out (by decide) (by decide))
    have HO9 := Lib.hid (hrest.2 _ _ _ HO2.out (by decide) (by decide))
    have HLI := Lib.hid hlv
    clear h9 hrest hlv H2 HX2 HO2 x0 x1 x2 x3 o0 o1 o2 o3 c0 c1 c2 c3 c4 HMT
    by_cases h00 : code = 0
    · subst h00
      have e00 : errV 0 = .nilIface := errV_0
      rw [e00]
      clear e00
      have hqf : okN qf = true := by rw [← HID.out]; exact tok_id r ⟨#[]⟩
      have HLV := Lib.hid (show K.stolen qf = false by rw [← HID.out]; exact HLI.out rfl)
      go_wp2_with fail
      obtain ⟨x0, x1, x2, x3⟩ := tok_cells HX9.out
      have hst : ∀ nn, (Instr.lookup 45 (.map (some m1)) (.int .i64 qf) false).run Tryz.prog (w9.drewN nn) = .ok (.bool false) (w9.drewN nn) := fun nn => by
        have := (show MapIB Tryz.prog 3 4 (w9.drewN nn) m1 _ _ from H9.out.map1).look (T := 45) Tryz.underlying45 Tryz.underlying3 Tryz.underlying4 (by rfl) qf (int_key qf hqf)
        rw [show K.stolen qf = false from HLV.out] at this
        exact this
      obtain ⟨c0, c1, c2, c3, c4⟩ := H9.out.five
      obtain ⟨o0, o1, o2, o3⟩ := tok_cells HO9.out
      go_quiet (fail)
      have hbd := below_drewN (Below.refl w9.heap.size w9) nq
      have HA := Lib.hid (H9.out.keep hbd)
      clear hbd H9 HX9 HO9 x0 x1 x2 x3 hst c0 c1 c2 c3 c4 o0 o1 o2 o3
      generalize w9.drewN nq = u at *
      go_wp2_with fail
      go_at_call 51
      refine (narrows_yes HA.out (by omega)).mono ?_
      rintro e wf ⟨rfl, cf, Kf, hcf, hf⟩
      have HF := Lib.hid hf
      clear hf
      go_wp2_with fail
      go_ret
      exact ⟨rfl, _, cf, _, _, _, _, Kf, Nat.le_succ _, by omega, Nat.le_succ _, HF.out⟩
    · have e1 : errV code = .iface 35 (.int .i64 code) := errV_n h00
      rw [e1]
      clear e1
      go_wp2_with fail
      obtain ⟨x0, x1, x2, x3⟩ := tok_cells HX9.out
      go_quiet (fail)
      have hbd := below_drewN (Below.refl w9.heap.size w9) nq
      have HA := Lib.hid (H9.out.keep hbd)
      clear hbd H9 HX9 HO9 x0 x1 x2 x3 
      generalize w9.drewN nq = u at *
      go_wp2_with fail
      go_at_call 51
      refine (narrows_yes HA.out (by omega)).mono ?_
      rintro e wf ⟨rfl, cf, Kf, hcf, hf⟩
      have HF := Lib.hid hf
      clear hf
      go_wp2_with fail
      go_ret
      exact ⟨rfl, _, cf, _, _, _, _, Kf, Nat.le_succ _, by omega, Nat.le_succ _, HF.out⟩
  · have hd0 : decide (0 < T.length) = true := decide_eq_true h0
    have HPK := Lib.hid (fun w => pick_n ti (T.length : Int) w (by omega) (by omega))
    have hp := pickN_in ti (n := (T.length : Int)) (by omega)
    obtain ⟨p, hpp⟩ : ∃ p : Nat, pickN ti (T.length : Int) = p := ⟨_, (Int.toNat_of_nonneg hp.1).symm⟩
    rw [hpp] at HPK hp
    obtain ⟨tt, htt⟩ : ∃ t, T[p]? = some t := ⟨_, List.getElem?_eq_getElem (by omega)⟩
    obtain ⟨tg, rfl, hcell⟩ := H0.out.toks.lit htt
    have HTT := Lib.hid (H0.out.small tt (List.mem_of_getElem? htt))
    obtain ⟨hp0, hp1⟩ := hp
    clear hpp htt
    go_enter Tryz.func16, Tryz.ntmps16
    go_wp2_with fail
    go_quiet ((go_at_call 8; exact Calls.quiet_of_same ((HPK.out _).mono fun _ _ h => ⟨h.1, h.2.symm⟩)))
    go_wp2_with fail
    have hbd : Below (w.alloc (.cells #[.int .i64 3, .int .i64 ti, .int .i64 n, .string sc] 53)).heap.size (w.alloc (.cells #[.int .i64 3, .int .i64 ti, .int .i64 n, .string sc] 53)) ((w.alloc (.cells #[.int .i64 3, .int .i64 ti, .int .i64 n, .string sc] 53)).drewN nq) := below_drewN (Below.refl _ _) nq
    have H1 := Lib.hid (H0.out.keep hbd)
    have HX1 := Lib.hid (HX0.out.below' hbd)
    clear H0 HX0 c0 c1 c2 c3 c4 x0 x1 x2 x3 hd0 h0 hcell hp0 hp1 HPK hbd
    generalize (w.alloc (.cells #[.int .i64 3, .int .i64 ti, .int .i64 n, .string sc] 53)).drewN nq = w1 at *
    generalize w.heap.size = xb at *

    have HID := Lib.hid (show tokId r tt = (tokOf r tt).2.2.1 from rfl)
    have HR2 := Lib.hid (HRD.out tt HTT.out)
    generalize tokOf r tt = tq at *
    obtain ⟨qe, qk, qf, qg, qd⟩ := tq
    dsimp only at HR2 HID
    go_at_call 48
    refine (HR2.out _ H1.out).mono ?_
    rintro e w2 ⟨rfl, hbd⟩
    have hal := (Below.refl w2.heap.size w2).alloc (Nat.le_refl _) (.cells #[.int .i64 qk, .int .i64 qf, .int .i64 qg, .int .i64 qd] 104)
    have H2 := Lib.hid ((H1.out.keep hbd).keep hal)
    have HX2 := Lib.hid ((HX1.out.below' hbd).below' hal)
    have HO2 := Lib.hid (Blk.new w2 104 #[.int .i64 qk, .int .i64 qf, .int .i64 qg, .int .i64 qd])
    have hob : W.heap.size ≤ w2.heap.size := (H1.out.keep hbd).aw.below.size
    clear hbd hal H1 HX1 HRD HR2
    obtain ⟨x0, x1, x2, x3⟩ := tok_cells HX2.out
    obtain ⟨o0, o1, o2, o3⟩ := tok_cells HO2.out
    obtain ⟨c0, c1, c2, c3, c4⟩ := H2.out.five
    go_wp2_with fail
    generalize w2.alloc (.cells #[.int .i64 qk, .int .i64 qf, .int .i64 qg, .int .i64 qd] 104) = w3 at *
    generalize w2.heap.size = ob at *

    have HMT := Lib.hid (H2.out.show tt (by have := HTT.out; omega))
    go_at_call 27
    refine HMT.out.mono ?_
    rintro e w9 ⟨fo, code, hlv, rfl, h9, hrest⟩
    have H9 := Lib.hid h9
    have HX9 := Lib.hid (hrest.2 _ _ _ HX2.out (by decide) (by decide))
    have HO9 := Lib.hid (hrest.2 _ _ _ HO2.out (by decide) (by decide))
    have HLI := Lib.hid hlv
    clear h9 hrest hlv H2 HX2 HO2 x0 x1 x2 x3 o0 o1 o2 o3 c0 c1 c2 c3 c4 HMT
    by_cases h00 : code = 0
    · subst h00
      have e00 : errV 0 = .nilIface := errV_0
      rw [e00]
      clear e00
      have hqf : okN qf = true := by rw [← HID.out]; exact tok_id r tt
      have HLV := Lib.hid (show K.stolen qf = false by rw [← HID.out]; exact HLI.out rfl)
      go_wp2_with fail
      obtain ⟨x0, x1, x2, x3⟩ := tok_cells HX9.out
      have hst : ∀ nn, (Instr.lookup 45 (.map (some m1)) (.int .i64 qf) false).run Tryz.prog (w9.drewN nn) = .ok (.bool false) (w9.drewN nn) := fun nn => by
        have := (show MapIB Tryz.prog 3 4 (w9.drewN nn) m1 _ _ from H9.out.map1).look (T := 45) Tryz.underlying45 Tryz.underlying3 Tryz.underlying4 (by rfl) qf (int_key qf hqf)
        rw [show K.stolen qf = false from HLV.out] at this
        exact this
      obtain ⟨c0, c1, c2, c3, c4⟩ := H9.out.five
      obtain ⟨o0, o1, o2, o3⟩ := tok_cells HO9.out
      go_quiet (fail)
      have hbd := below_drewN (Below.refl w9.heap.size w9) nq
      have HA := Lib.hid (H9.out.keep hbd)
      clear hbd H9 HX9 HO9 x0 x1 x2 x3 hst c0 c1 c2 c3 c4 o0 o1 o2 o3
      generalize w9.drewN nq = u at *
      go_wp2_with fail
      go_at_call 51
      refine (narrows_yes HA.out (by omega)).mono ?_
      rintro e wf ⟨rfl, cf, Kf, hcf, hf⟩
      have HF := Lib.hid hf
      clear hf
      go_wp2_with fail
      go_ret
      exact ⟨rfl, _, cf, _, _, _, _, Kf, Nat.le_succ _, by omega, Nat.le_succ _, HF.out⟩
    · have e1 : errV code = .iface 35 (.int .i64 code) := errV_n h00
      rw [e1]
      clear e1
      go_wp2_with fail
      obtain ⟨x0, x1, x2, x3⟩ := tok_cells HX9.out
      go_quiet (fail)
      have hbd := below_drewN (Below.refl w9.heap.size w9) nq
      have HA := Lib.hid (H9.out.keep hbd)
      clear hbd H9 HX9 HO9 x0 x1 x2 x3 
      generalize w9.drewN nq = u at *
      go_wp2_with fail
      go_at_call 51
      refine (narrows_yes HA.out (by omega)).mono ?_
      rintro e wf ⟨rfl, cf, Kf, hcf, hf⟩
      have HF := Lib.hid hf
      clear hf
      go_wp2_with fail
      go_ret
      exact ⟨rfl, _, cf, _, _, _, _, Kf, Nat.le_succ _, by omega, Nat.le_succ _, HF.out⟩
end
end Go.Proofs.YtckohmhhcknmaaaGreatDoor

/-
  ServiceStolen: asks: Kill.
-/
namespace Go.Proofs.YtckohmhhcknmaaaGreatDoor
open Go.RowKit Go.Sort Go.Maps

section
variable {W w : World} {hb vb sb db k m1 m2 m3 c : Nat} {r : Ru} {z : SS} {v tv : Value} {T : List ByteArray} {K : Kn}
set_option maxHeartbeats 16000000 in
set_option maxRecDepth 100000 in
theorem asks_4 (h : HL W hb vb sb db k m1 m2 m3 c r z v tv T K w) (hk : k < 1000000) (hc : c ≤ 900000) (hT : T.length ≤ 1000) (key ti n : Int) (sc : ByteArray) (hkey : r.key = key) :
    Calls Tryz.prog 16 #[.pointer (some ⟨hb, 0, none⟩), .int .i64 key, .agg #[.int .i64 4, .int .i64 ti, .int .i64 n, .string sc]] w (AskGot W hb vb sb db k m1 m2 m3 c r T) := by
  obtain ⟨ta, tc, rfl⟩ := h.toks.slice
  have hal := (Below.refl w.heap.size w).alloc (Nat.le_refl _) (.cells #[.int .i64 4, .int .i64 ti, .int .i64 n, .string sc] 53)
  have H0 := Lib.hid (h.keep hal)
  have HX0 := Lib.hid (Blk.new w 53 #[.int .i64 4, .int .i64 ti, .int .i64 n, .string sc])
  obtain ⟨c0, c1, c2, c3, c4⟩ := H0.out.five
  obtain ⟨x0, x1, x2, x3⟩ := tok_cells HX0.out
  have hto : ∀ t : ByteArray, tokR (fun B => tagL key B) (parts 46 t.data.toList) = tokOf r t := fun t => by unfold tokOf; rw [hkey]
  have HRD := Lib.hid (fun (t : ByteArray) (ht : t.size ≤ 100) w (h : HL W hb vb sb db k m1 m2 m3 c r z v (.slice ta T.length tc) T K w) => by
    have := token_read key t w (by omega) h.aw.sw.sx.env.maxl h.aw.sw.sx.env.tens h.aw.sw.sx.env.errs
    rw [hto] at this
    exact this)
  unfold TokGot v4 at HRD
  clear h hal hto hkey
  rcases Nat.eq_zero_or_pos T.length with h0 | h0
  · have hd0 : decide (0 < T.length) = false := decide_eq_false (by omega)
    go_enter Tryz.func16, Tryz.ntmps16
    go_wp2_with fail
    have HTT := Lib.hid (show (⟨#[]⟩ : ByteArray).size ≤ 100 by decide)
    have H1 := H0
    have HX1 := HX0
    clear H0 HX0 c0 c1 c2 c3 c4 x0 x1 x2 x3 hd0 h0
    generalize w.alloc (.cells #[.int .i64 4, .int .i64 ti, .int .i64 n, .string sc] 53) = w1 at *
    generalize w.heap.size = xb at *

    have HID := Lib.hid (show tokId r ⟨#[]⟩ = (tokOf r ⟨#[]⟩).2.2.1 from rfl)
    have HR2 := Lib.hid (HRD.out ⟨#[]⟩ HTT.out)
    generalize tokOf r ⟨#[]⟩ = tq at *
    obtain ⟨qe, qk, qf, qg, qd⟩ := tq
    dsimp only at HR2 HID
    go_at_call 48
    refine (HR2.out _ H1.out).mono ?_
    rintro e w2 ⟨rfl, hbd⟩
    have hal := (Below.refl w2.heap.size w2).alloc (Nat.le_refl _) (.cells #[.int .i64 qk, .int .i64 qf, .int .i64 qg, .int .i64 qd] 104)
    have H2 := Lib.hid ((H1.out.keep hbd).keep hal)
    have HX2 := Lib.hid ((HX1.out.below' hbd).below' hal)
    have HO2 := Lib.hid (Blk.new w2 104 #[.int .i64 qk, .int .i64 qf, .int .i64 qg, .int .i64 qd])
    have hob : W.heap.size ≤ w2.heap.size := (H1.out.keep hbd).aw.below.size
    clear hbd hal H1 HX1 HRD HR2
    obtain ⟨x0, x1, x2, x3⟩ := tok_cells HX2.out
    obtain ⟨o0, o1, o2, o3⟩ := tok_cells HO2.out
    obtain ⟨c0, c1, c2, c3, c4⟩ := H2.out.five
    go_wp2_with fail
    generalize w2.alloc (.cells #[.int .i64 qk, .int .i64 qf, .int .i64 qg, .int .i64 qd] 104) = w3 at *
    generalize w2.heap.size = ob at *

    have HOB := Lib.hid hob
    have HPK := Lib.hid (fun w => pick_n n 5 w (by decide) (by decide))
    have HRT := Lib.hid (fun x w (h : HL W hb vb sb db k m1 m2 m3 c r z v (.slice ta T.length tc) T K w) => h.kill hk x)
    have HD := H2.out.drew
    have HDX : Blk w3.drew xb 53 #[.int .i64 4, .int .i64 ti, .int .i64 n, .string sc] := HX2.out
    have HDO : Blk w3.drew ob 104 #[.int .i64 qk, .int .i64 qf, .int .i64 qg, .int .i64 qd] := HO2.out
    have HDC : w3.drew.cell? ⟨hb, 0, none⟩ = some (.pointer (some ⟨vb, 0, none⟩)) ∧ w3.drew.cell? ⟨xb, 2, none⟩ = some (.int .i64 n) := ⟨HD.five.1, HDX.cell 2⟩
    clear H2 HX2 HO2 x0 x1 x2 x3 o0 o1 o2 o3 c0 c1 c2 c3 c4
    go_region_held3 (fun w' => w'.cell? ⟨hb, 0, none⟩ = some (.pointer (some ⟨vb, 0, none⟩)) ∧ w'.cell? ⟨xb, 2, none⟩ = some (.int .i64 n))
      (first
        | with_reducible assumption
        | with_reducible exact HDC)
      (first
        | (go_at_call 8; (with_reducible refine (HPK.out _).mono ?_); rintro x' w5 ⟨rfl, rfl⟩)
        | (go_at_call 29; (with_reducible refine (HRT.out _ _ HD).mono ?_); rintro x' w8 ⟨z6, code, rfl, ⟨v6, h6⟩, hrest⟩
           have HX6 := hrest.2 _ _ _ HDX (by decide) (by decide)
           have HO6 := hrest.2 _ _ _ HDO (by decide) (by decide)
           have hc6 : w8.cell? ⟨hb, 0, none⟩ = some (.pointer (some ⟨vb, 0, none⟩)) ∧ w8.cell? ⟨xb, 2, none⟩ = some (.int .i64 n) := ⟨h6.five.1, HX6.cell 2⟩))
    have H9 := Lib.hid h6
    have HX9 := Lib.hid HX6
    have HO9 := Lib.hid HO6
    clear HD HDX HDO HDC h6 hrest HX6 HO6 hc6 HRT HPK

    have hz4 := HO9.out.frozen
    obtain ⟨o0, o1, o2, o3⟩ := tok_cells HO9.out
    go_wp2_with fail
    obtain ⟨wz, hwz, hgz, hoz⟩ := four_turns HO9.out (.int .i64 0) (.int .i64 0) (.int .i64 0) (.int .i64 0)
    rw [← hwz]
    have HZ := Lib.hid (H9.out.aside hgz HO9.out HOB.out (by decide) (by decide) (by decide) (by decide) (by decide) (by decide))
    have HZX := Lib.hid (HX9.out.grown hgz (by simpa using HX9.out.ne_ HO9.out (by decide)))
    have HZO := Lib.hid hoz
    clear hwz hgz hoz H9 HX9 HO9 o0 o1 o2 o3 hz4
    have H9 := HZ
    have HX9 := HZX
    have HO9 := HZO
    clear HZ HZX HZO
    generalize wz = w9 at *

    obtain ⟨x0, x1, x2, x3⟩ := tok_cells HX9.out
    go_quiet (fail)
    have hbd := below_drewN (Below.refl w9.heap.size w9) nq
    have HA := Lib.hid (H9.out.keep hbd)
    clear hbd H9 HX9 HO9 x0 x1 x2 x3 
    generalize w9.drewN nq = u at *
    go_wp2_with fail
    go_at_call 51
    refine (narrows_yes HA.out (by omega)).mono ?_
    rintro e wf ⟨rfl, cf, Kf, hcf, hf⟩
    have HF := Lib.hid hf
    clear hf
    go_wp2_with fail
    go_ret
    exact ⟨rfl, _, cf, _, _, _, _, Kf, Nat.le_refl _, by omega, Nat.le_succ _, HF.out⟩
  · have hd0 : decide (0 < T.length) = true := decide_eq_true h0
    have HPK := Lib.hid (fun w => pick_n ti (T.length : Int) w (by omega) (by omega))
    have hp := pickN_in ti (n := (T.length : Int)) (by omega)
    obtain ⟨p, hpp⟩ : ∃ p : Nat, pickN ti (T.length : Int) = p := ⟨_, (Int.toNat_of_nonneg hp.1).symm⟩
    rw [hpp] at HPK hp
    obtain ⟨tt, htt⟩ : ∃ t, T[p]? = some t := ⟨_, List.getElem?_eq_getElem (by omega)⟩
    obtain ⟨tg, rfl, hcell⟩ := H0.out.toks.lit htt
    have HTT := Lib.hid (H0.out.small tt (List.mem_of_getElem? htt))
    obtain ⟨hp0, hp1⟩ := hp
    clear hpp htt
    go_enter Tryz.func16, Tryz.ntmps16
    go_wp2_with fail
    go_quiet ((go_at_call 8; exact Calls.quiet_of_same ((HPK.out _).mono fun _ _ h => ⟨h.1, h.2.symm⟩)))
    go_wp2_with fail
    have hbd : Below (w.alloc (.cells #[.int .i64 4, .int .i64 ti, .int .i64 n, .string sc] 53)).heap.size (w.alloc (.cells #[.int .i64 4, .int .i64 ti, .int .i64 n, .string sc] 53)) ((w.alloc (.cells #[.int .i64 4, .int .i64 ti, .int .i64 n, .string sc] 53)).drewN nq) := below_drewN (Below.refl _ _) nq
    have H1 := Lib.hid (H0.out.keep hbd)
    have HX1 := Lib.hid (HX0.out.below' hbd)
    clear H0 HX0 c0 c1 c2 c3 c4 x0 x1 x2 x3 hd0 h0 hcell hp0 hp1 HPK hbd
    generalize (w.alloc (.cells #[.int .i64 4, .int .i64 ti, .int .i64 n, .string sc] 53)).drewN nq = w1 at *
    generalize w.heap.size = xb at *

    have HID := Lib.hid (show tokId r tt = (tokOf r tt).2.2.1 from rfl)
    have HR2 := Lib.hid (HRD.out tt HTT.out)
    generalize tokOf r tt = tq at *
    obtain ⟨qe, qk, qf, qg, qd⟩ := tq
    dsimp only at HR2 HID
    go_at_call 48
    refine (HR2.out _ H1.out).mono ?_
    rintro e w2 ⟨rfl, hbd⟩
    have hal := (Below.refl w2.heap.size w2).alloc (Nat.le_refl _) (.cells #[.int .i64 qk, .int .i64 qf, .int .i64 qg, .int .i64 qd] 104)
    have H2 := Lib.hid ((H1.out.keep hbd).keep hal)
    have HX2 := Lib.hid ((HX1.out.below' hbd).below' hal)
    have HO2 := Lib.hid (Blk.new w2 104 #[.int .i64 qk, .int .i64 qf, .int .i64 qg, .int .i64 qd])
    have hob : W.heap.size ≤ w2.heap.size := (H1.out.keep hbd).aw.below.size
    clear hbd hal H1 HX1 HRD HR2
    obtain ⟨x0, x1, x2, x3⟩ := tok_cells HX2.out
    obtain ⟨o0, o1, o2, o3⟩ := tok_cells HO2.out
    obtain ⟨c0, c1, c2, c3, c4⟩ := H2.out.five
    go_wp2_with fail
    generalize w2.alloc (.cells #[.int .i64 qk, .int .i64 qf, .int .i64 qg, .int .i64 qd] 104) = w3 at *
    generalize w2.heap.size = ob at *

    have HOB := Lib.hid hob
    have HPK := Lib.hid (fun w => pick_n n 5 w (by decide) (by decide))
    have HRT := Lib.hid (fun x w (h : HL W hb vb sb db k m1 m2 m3 c r z v (.slice (some ⟨tg, 0, none⟩) T.length tc) T K w) => h.kill hk x)
    have HD := H2.out.drew
    have HDX : Blk w3.drew xb 53 #[.int .i64 4, .int .i64 ti, .int .i64 n, .string sc] := HX2.out
    have HDO : Blk w3.drew ob 104 #[.int .i64 qk, .int .i64 qf, .int .i64 qg, .int .i64 qd] := HO2.out
    have HDC : w3.drew.cell? ⟨hb, 0, none⟩ = some (.pointer (some ⟨vb, 0, none⟩)) ∧ w3.drew.cell? ⟨xb, 2, none⟩ = some (.int .i64 n) := ⟨HD.five.1, HDX.cell 2⟩
    clear H2 HX2 HO2 x0 x1 x2 x3 o0 o1 o2 o3 c0 c1 c2 c3 c4
    go_region_held3 (fun w' => w'.cell? ⟨hb, 0, none⟩ = some (.pointer (some ⟨vb, 0, none⟩)) ∧ w'.cell? ⟨xb, 2, none⟩ = some (.int .i64 n))
      (first
        | with_reducible assumption
        | with_reducible exact HDC)
      (first
        | (go_at_call 8; (with_reducible refine (HPK.out _).mono ?_); rintro x' w5 ⟨rfl, rfl⟩)
        | (go_at_call 29; (with_reducible refine (HRT.out _ _ HD).mono ?_); rintro x' w8 ⟨z6, code, rfl, ⟨v6, h6⟩, hrest⟩
           have HX6 := hrest.2 _ _ _ HDX (by decide) (by decide)
           have HO6 := hrest.2 _ _ _ HDO (by decide) (by decide)
           have hc6 : w8.cell? ⟨hb, 0, none⟩ = some (.pointer (some ⟨vb, 0, none⟩)) ∧ w8.cell? ⟨xb, 2, none⟩ = some (.int .i64 n) := ⟨h6.five.1, HX6.cell 2⟩))
    have H9 := Lib.hid h6
    have HX9 := Lib.hid HX6
    have HO9 := Lib.hid HO6
    clear HD HDX HDO HDC h6 hrest HX6 HO6 hc6 HRT HPK

    have hz4 := HO9.out.frozen
    obtain ⟨o0, o1, o2, o3⟩ := tok_cells HO9.out
    go_wp2_with fail
    obtain ⟨wz, hwz, hgz, hoz⟩ := four_turns HO9.out (.int .i64 0) (.int .i64 0) (.int .i64 0) (.int .i64 0)
    rw [← hwz]
    have HZ := Lib.hid (H9.out.aside hgz HO9.out HOB.out (by decide) (by decide) (by decide) (by decide) (by decide) (by decide))
    have HZX := Lib.hid (HX9.out.grown hgz (by simpa using HX9.out.ne_ HO9.out (by decide)))
    have HZO := Lib.hid hoz
    clear hwz hgz hoz H9 HX9 HO9 o0 o1 o2 o3 hz4
    have H9 := HZ
    have HX9 := HZX
    have HO9 := HZO
    clear HZ HZX HZO
    generalize wz = w9 at *

    obtain ⟨x0, x1, x2, x3⟩ := tok_cells HX9.out
    go_quiet (fail)
    have hbd := below_drewN (Below.refl w9.heap.size w9) nq
    have HA := Lib.hid (H9.out.keep hbd)
    clear hbd H9 HX9 HO9 x0 x1 x2 x3 
    generalize w9.drewN nq = u at *
    go_wp2_with fail
    go_at_call 51
    refine (narrows_yes HA.out (by omega)).mono ?_
    rintro e wf ⟨rfl, cf, Kf, hcf, hf⟩
    have HF := Lib.hid hf
    clear hf
    go_wp2_with fail
    go_ret
    exact ⟨rfl, _, cf, _, _, _, _, Kf, Nat.le_refl _, by omega, Nat.le_succ _, HF.out⟩
end
end Go.Proofs.YtckohmhhcknmaaaGreatDoor

/-
  ServiceStolen: asks: Tick.
-/
namespace Go.Proofs.YtckohmhhcknmaaaGreatDoor
open Go.RowKit Go.Sort Go.Maps

section
variable {W w : World} {hb vb sb db k m1 m2 m3 c : Nat} {r : Ru} {z : SS} {v tv : Value} {T : List ByteArray} {K : Kn}
set_option maxHeartbeats 16000000 in
set_option maxRecDepth 100000 in
theorem asks_5 (h : HL W hb vb sb db k m1 m2 m3 c r z v tv T K w) (hk : k < 1000000) (hc : c ≤ 900000) (hT : T.length ≤ 1000) (key ti n : Int) (sc : ByteArray) (hkey : r.key = key) :
    Calls Tryz.prog 16 #[.pointer (some ⟨hb, 0, none⟩), .int .i64 key, .agg #[.int .i64 5, .int .i64 ti, .int .i64 n, .string sc]] w (AskGot W hb vb sb db k m1 m2 m3 c r T) := by
  obtain ⟨ta, tc, rfl⟩ := h.toks.slice
  have hal := (Below.refl w.heap.size w).alloc (Nat.le_refl _) (.cells #[.int .i64 5, .int .i64 ti, .int .i64 n, .string sc] 53)
  have H0 := Lib.hid (h.keep hal)
  have HX0 := Lib.hid (Blk.new w 53 #[.int .i64 5, .int .i64 ti, .int .i64 n, .string sc])
  obtain ⟨c0, c1, c2, c3, c4⟩ := H0.out.five
  obtain ⟨x0, x1, x2, x3⟩ := tok_cells HX0.out
  have hto : ∀ t : ByteArray, tokR (fun B => tagL key B) (parts 46 t.data.toList) = tokOf r t := fun t => by unfold tokOf; rw [hkey]
  have HRD := Lib.hid (fun (t : ByteArray) (ht : t.size ≤ 100) w (h : HL W hb vb sb db k m1 m2 m3 c r z v (.slice ta T.length tc) T K w) => by
    have := token_read key t w (by omega) h.aw.sw.sx.env.maxl h.aw.sw.sx.env.tens h.aw.sw.sx.env.errs
    rw [hto] at this
    exact this)
  unfold TokGot v4 at HRD
  clear h hal hto hkey
  rcases Nat.eq_zero_or_pos T.length with h0 | h0
  · have hd0 : decide (0 < T.length) = false := decide_eq_false (by omega)
    go_enter Tryz.func16, Tryz.ntmps16
    go_wp2_with fail
    have HTT := Lib.hid (show (⟨#[]⟩ : ByteArray).size ≤ 100 by decide)
    have H1 := H0
    have HX1 := HX0
    clear H0 HX0 c0 c1 c2 c3 c4 x0 x1 x2 x3 hd0 h0
    generalize w.alloc (.cells #[.int .i64 5, .int .i64 ti, .int .i64 n, .string sc] 53) = w1 at *
    generalize w.heap.size = xb at *

    have HID := Lib.hid (show tokId r ⟨#[]⟩ = (tokOf r ⟨#[]⟩).2.2.1 from rfl)
    have HR2 := Lib.hid (HRD.out ⟨#[]⟩ HTT.out)
    generalize tokOf r ⟨#[]⟩ = tq at *
    obtain ⟨qe, qk, qf, qg, qd⟩ := tq
    dsimp only at HR2 HID
    go_at_call 48
    refine (HR2.out _ H1.out).mono ?_
    rintro e w2 ⟨rfl, hbd⟩
    have hal := (Below.refl w2.heap.size w2).alloc (Nat.le_refl _) (.cells #[.int .i64 qk, .int .i64 qf, .int .i64 qg, .int .i64 qd] 104)
    have H2 := Lib.hid ((H1.out.keep hbd).keep hal)
    have HX2 := Lib.hid ((HX1.out.below' hbd).below' hal)
    have HO2 := Lib.hid (Blk.new w2 104 #[.int .i64 qk, .int .i64 qf, .int .i64 qg, .int .i64 qd])
    have hob : W.heap.size ≤ w2.heap.size := (H1.out.keep hbd).aw.below.size
    clear hbd hal H1 HX1 HRD HR2
    obtain ⟨x0, x1, x2, x3⟩ := tok_cells HX2.out
    obtain ⟨o0, o1, o2, o3⟩ := tok_cells HO2.out
    obtain ⟨c0, c1, c2, c3, c4⟩ := H2.out.five
    go_wp2_with fail
    generalize w2.alloc (.cells #[.int .i64 qk, .int .i64 qf, .int .i64 qg, .int .i64 qd] 104) = w3 at *
    generalize w2.heap.size = ob at *

    have HOB := Lib.hid hob
    have HPK := Lib.hid (fun w => pick_n n 9 w (by decide) (by decide))
    have HRT := Lib.hid (fun x w (h : HL W hb vb sb db k m1 m2 m3 c r z v (.slice ta T.length tc) T K w) => h.tick hk x)
    have HD := H2.out.drew
    have HDX : Blk w3.drew xb 53 #[.int .i64 5, .int .i64 ti, .int .i64 n, .string sc] := HX2.out
    have HDO : Blk w3.drew ob 104 #[.int .i64 qk, .int .i64 qf, .int .i64 qg, .int .i64 qd] := HO2.out
    have HDC : w3.drew.cell? ⟨hb, 0, none⟩ = some (.pointer (some ⟨vb, 0, none⟩)) ∧ w3.drew.cell? ⟨xb, 2, none⟩ = some (.int .i64 n) := ⟨HD.five.1, HDX.cell 2⟩
    clear H2 HX2 HO2 x0 x1 x2 x3 o0 o1 o2 o3 c0 c1 c2 c3 c4
    go_region_held3 (fun w' => w'.cell? ⟨hb, 0, none⟩ = some (.pointer (some ⟨vb, 0, none⟩)) ∧ w'.cell? ⟨xb, 2, none⟩ = some (.int .i64 n))
      (first
        | with_reducible assumption
        | with_reducible exact HDC)
      (first
        | (go_at_call 8; (with_reducible refine (HPK.out _).mono ?_); rintro x' w5 ⟨rfl, rfl⟩)
        | (go_at_call 10; (with_reducible refine (HRT.out _ _ HD).mono ?_); rintro x' w8 ⟨z6, code, rfl, ⟨v6, h6⟩, hrest⟩
           have HX6 := hrest.2 _ _ _ HDX (by decide) (by decide)
           have HO6 := hrest.2 _ _ _ HDO (by decide) (by decide)
           have hc6 : w8.cell? ⟨hb, 0, none⟩ = some (.pointer (some ⟨vb, 0, none⟩)) ∧ w8.cell? ⟨xb, 2, none⟩ = some (.int .i64 n) := ⟨h6.five.1, HX6.cell 2⟩))
    have H9 := Lib.hid h6
    have HX9 := Lib.hid HX6
    have HO9 := Lib.hid HO6
    clear HD HDX HDO HDC h6 hrest HX6 HO6 hc6 HRT HPK

    have hz4 := HO9.out.frozen
    obtain ⟨o0, o1, o2, o3⟩ := tok_cells HO9.out
    go_wp2_with fail
    obtain ⟨wz, hwz, hgz, hoz⟩ := four_turns HO9.out (.int .i64 0) (.int .i64 0) (.int .i64 0) (.int .i64 0)
    rw [← hwz]
    have HZ := Lib.hid (H9.out.aside hgz HO9.out HOB.out (by decide) (by decide) (by decide) (by decide) (by decide) (by decide))
    have HZX := Lib.hid (HX9.out.grown hgz (by simpa using HX9.out.ne_ HO9.out (by decide)))
    have HZO := Lib.hid hoz
    clear hwz hgz hoz H9 HX9 HO9 o0 o1 o2 o3 hz4
    have H9 := HZ
    have HX9 := HZX
    have HO9 := HZO
    clear HZ HZX HZO
    generalize wz = w9 at *

    obtain ⟨x0, x1, x2, x3⟩ := tok_cells HX9.out
    go_quiet (fail)
    have hbd := below_drewN (Below.refl w9.heap.size w9) nq
    have HA := Lib.hid (H9.out.keep hbd)
    clear hbd H9 HX9 HO9 x0 x1 x2 x3 
    generalize w9.drewN nq = u at *
    go_wp2_with fail
    go_at_call 51
    refine (narrows_yes HA.out (by omega)).mono ?_
    rintro e wf ⟨rfl, cf, Kf, hcf, hf⟩
    have HF := Lib.hid hf
    clear hf
    go_wp2_with fail
    go_ret
    exact ⟨rfl, _, cf, _, _, _, _, Kf, Nat.le_refl _, by omega, Nat.le_succ _, HF.out⟩
  · have hd0 : decide (0 < T.length) = true := decide_eq_true h0
    have HPK := Lib.hid (fun w => pick_n ti (T.length : Int) w (by omega) (by omega))
    have hp := pickN_in ti (n := (T.length : Int)) (by omega)
    obtain ⟨p, hpp⟩ : ∃ p : Nat, pickN ti (T.length : Int) = p := ⟨_, (Int.toNat_of_nonneg hp.1).symm⟩
    rw [hpp] at HPK hp
    obtain ⟨tt, htt⟩ : ∃ t, T[p]? = some t := ⟨_, List.getElem?_eq_getElem (by omega)⟩
    obtain ⟨tg, rfl, hcell⟩ := H0.out.toks.lit htt
    have HTT := Lib.hid (H0.out.small tt (List.mem_of_getElem? htt))
    obtain ⟨hp0, hp1⟩ := hp
    clear hpp htt
    go_enter Tryz.func16, Tryz.ntmps16
    go_wp2_with fail
    go_quiet ((go_at_call 8; exact Calls.quiet_of_same ((HPK.out _).mono fun _ _ h => ⟨h.1, h.2.symm⟩)))
    go_wp2_with fail
    have hbd : Below (w.alloc (.cells #[.int .i64 5, .int .i64 ti, .int .i64 n, .string sc] 53)).heap.size (w.alloc (.cells #[.int .i64 5, .int .i64 ti, .int .i64 n, .string sc] 53)) ((w.alloc (.cells #[.int .i64 5, .int .i64 ti, .int .i64 n, .string sc] 53)).drewN nq) := below_drewN (Below.refl _ _) nq
    have H1 := Lib.hid (H0.out.keep hbd)
    have HX1 := Lib.hid (HX0.out.below' hbd)
    clear H0 HX0 c0 c1 c2 c3 c4 x0 x1 x2 x3 hd0 h0 hcell hp0 hp1 HPK hbd
    generalize (w.alloc (.cells #[.int .i64 5, .int .i64 ti, .int .i64 n, .string sc] 53)).drewN nq = w1 at *
    generalize w.heap.size = xb at *

    have HID := Lib.hid (show tokId r tt = (tokOf r tt).2.2.1 from rfl)
    have HR2 := Lib.hid (HRD.out tt HTT.out)
    generalize tokOf r tt = tq at *
    obtain ⟨qe, qk, qf, qg, qd⟩ := tq
    dsimp only at HR2 HID
    go_at_call 48
    refine (HR2.out _ H1.out).mono ?_
    rintro e w2 ⟨rfl, hbd⟩
    have hal := (Below.refl w2.heap.size w2).alloc (Nat.le_refl _) (.cells #[.int .i64 qk, .int .i64 qf, .int .i64 qg, .int .i64 qd] 104)
    have H2 := Lib.hid ((H1.out.keep hbd).keep hal)
    have HX2 := Lib.hid ((HX1.out.below' hbd).below' hal)
    have HO2 := Lib.hid (Blk.new w2 104 #[.int .i64 qk, .int .i64 qf, .int .i64 qg, .int .i64 qd])
    have hob : W.heap.size ≤ w2.heap.size := (H1.out.keep hbd).aw.below.size
    clear hbd hal H1 HX1 HRD HR2
    obtain ⟨x0, x1, x2, x3⟩ := tok_cells HX2.out
    obtain ⟨o0, o1, o2, o3⟩ := tok_cells HO2.out
    obtain ⟨c0, c1, c2, c3, c4⟩ := H2.out.five
    go_wp2_with fail
    generalize w2.alloc (.cells #[.int .i64 qk, .int .i64 qf, .int .i64 qg, .int .i64 qd] 104) = w3 at *
    generalize w2.heap.size = ob at *

    have HOB := Lib.hid hob
    have HPK := Lib.hid (fun w => pick_n n 9 w (by decide) (by decide))
    have HRT := Lib.hid (fun x w (h : HL W hb vb sb db k m1 m2 m3 c r z v (.slice (some ⟨tg, 0, none⟩) T.length tc) T K w) => h.tick hk x)
    have HD := H2.out.drew
    have HDX : Blk w3.drew xb 53 #[.int .i64 5, .int .i64 ti, .int .i64 n, .string sc] := HX2.out
    have HDO : Blk w3.drew ob 104 #[.int .i64 qk, .int .i64 qf, .int .i64 qg, .int .i64 qd] := HO2.out
    have HDC : w3.drew.cell? ⟨hb, 0, none⟩ = some (.pointer (some ⟨vb, 0, none⟩)) ∧ w3.drew.cell? ⟨xb, 2, none⟩ = some (.int .i64 n) := ⟨HD.five.1, HDX.cell 2⟩
    clear H2 HX2 HO2 x0 x1 x2 x3 o0 o1 o2 o3 c0 c1 c2 c3 c4
    go_region_held3 (fun w' => w'.cell? ⟨hb, 0, none⟩ = some (.pointer (some ⟨vb, 0, none⟩)) ∧ w'.cell? ⟨xb, 2, none⟩ = some (.int .i64 n))
      (first
        | with_reducible assumption
        | with_reducible exact HDC)
      (first
        | (go_at_call 8; (with_reducible refine (HPK.out _).mono ?_); rintro x' w5 ⟨rfl, rfl⟩)
        | (go_at_call 10; (with_reducible refine (HRT.out _ _ HD).mono ?_); rintro x' w8 ⟨z6, code, rfl, ⟨v6, h6⟩, hrest⟩
           have HX6 := hrest.2 _ _ _ HDX (by decide) (by decide)
           have HO6 := hrest.2 _ _ _ HDO (by decide) (by decide)
           have hc6 : w8.cell? ⟨hb, 0, none⟩ = some (.pointer (some ⟨vb, 0, none⟩)) ∧ w8.cell? ⟨xb, 2, none⟩ = some (.int .i64 n) := ⟨h6.five.1, HX6.cell 2⟩))
    have H9 := Lib.hid h6
    have HX9 := Lib.hid HX6
    have HO9 := Lib.hid HO6
    clear HD HDX HDO HDC h6 hrest HX6 HO6 hc6 HRT HPK

    have hz4 := HO9.out.frozen
    obtain ⟨o0, o1, o2, o3⟩ := tok_cells HO9.out
    go_wp2_with fail
    obtain ⟨wz, hwz, hgz, hoz⟩ := four_turns HO9.out (.int .i64 0) (.int .i64 0) (.int .i64 0) (.int .i64 0)
    rw [← hwz]
    have HZ := Lib.hid (H9.out.aside hgz HO9.out HOB.out (by decide) (by decide) (by decide) (by decide) (by decide) (by decide))
    have HZX := Lib.hid (HX9.out.grown hgz (by simpa using HX9.out.ne_ HO9.out (by decide)))
    have HZO := Lib.hid hoz
    clear hwz hgz hoz H9 HX9 HO9 o0 o1 o2 o3 hz4
    have H9 := HZ
    have HX9 := HZX
    have HO9 := HZO
    clear HZ HZX HZO
    generalize wz = w9 at *

    obtain ⟨x0, x1, x2, x3⟩ := tok_cells HX9.out
    go_quiet (fail)
    have hbd := below_drewN (Below.refl w9.heap.size w9) nq
    have HA := Lib.hid (H9.out.keep hbd)
    clear hbd H9 HX9 HO9 x0 x1 x2 x3 
    generalize w9.drewN nq = u at *
    go_wp2_with fail
    go_at_call 51
    refine (narrows_yes HA.out (by omega)).mono ?_
    rintro e wf ⟨rfl, cf, Kf, hcf, hf⟩
    have HF := Lib.hid hf
    clear hf
    go_wp2_with fail
    go_ret
    exact ⟨rfl, _, cf, _, _, _, _, Kf, Nat.le_refl _, by omega, Nat.le_succ _, HF.out⟩
end
end Go.Proofs.YtckohmhhcknmaaaGreatDoor

/-
  ServiceStolen: asks: Sweep.
-/
namespace Go.Proofs.YtckohmhhcknmaaaGreatDoor
open Go.RowKit Go.Sort Go.Maps

section
variable {W w : World} {hb vb sb db k m1 m2 m3 c : Nat} {r : Ru} {z : SS} {v tv : Value} {T : List ByteArray} {K : Kn}
set_option maxHeartbeats 16000000 in
set_option maxRecDepth 100000 in
theorem asks_6 (h : HL W hb vb sb db k m1 m2 m3 c r z v tv T K w) (hk : k < 1000000) (hc : c ≤ 900000) (hT : T.length ≤ 1000) (key ti n : Int) (sc : ByteArray) (hkey : r.key = key) :
    Calls Tryz.prog 16 #[.pointer (some ⟨hb, 0, none⟩), .int .i64 key, .agg #[.int .i64 6, .int .i64 ti, .int .i64 n, .string sc]] w (AskGot W hb vb sb db k m1 m2 m3 c r T) := by
  obtain ⟨ta, tc, rfl⟩ := h.toks.slice
  have hal := (Below.refl w.heap.size w).alloc (Nat.le_refl _) (.cells #[.int .i64 6, .int .i64 ti, .int .i64 n, .string sc] 53)
  have H0 := Lib.hid (h.keep hal)
  have HX0 := Lib.hid (Blk.new w 53 #[.int .i64 6, .int .i64 ti, .int .i64 n, .string sc])
  obtain ⟨c0, c1, c2, c3, c4⟩ := H0.out.five
  obtain ⟨x0, x1, x2, x3⟩ := tok_cells HX0.out
  have hto : ∀ t : ByteArray, tokR (fun B => tagL key B) (parts 46 t.data.toList) = tokOf r t := fun t => by unfold tokOf; rw [hkey]
  have HRD := Lib.hid (fun (t : ByteArray) (ht : t.size ≤ 100) w (h : HL W hb vb sb db k m1 m2 m3 c r z v (.slice ta T.length tc) T K w) => by
    have := token_read key t w (by omega) h.aw.sw.sx.env.maxl h.aw.sw.sx.env.tens h.aw.sw.sx.env.errs
    rw [hto] at this
    exact this)
  unfold TokGot v4 at HRD
  clear h hal hto hkey
  rcases Nat.eq_zero_or_pos T.length with h0 | h0
  · have hd0 : decide (0 < T.length) = false := decide_eq_false (by omega)
    go_enter Tryz.func16, Tryz.ntmps16
    go_wp2_with fail
    have HTT := Lib.hid (show (⟨#[]⟩ : ByteArray).size ≤ 100 by decide)
    have H1 := H0
    have HX1 := HX0
    clear H0 HX0 c0 c1 c2 c3 c4 x0 x1 x2 x3 hd0 h0
    generalize w.alloc (.cells #[.int .i64 6, .int .i64 ti, .int .i64 n, .string sc] 53) = w1 at *
    generalize w.heap.size = xb at *

    have HID := Lib.hid (show tokId r ⟨#[]⟩ = (tokOf r ⟨#[]⟩).2.2.1 from rfl)
    have HR2 := Lib.hid (HRD.out ⟨#[]⟩ HTT.out)
    generalize tokOf r ⟨#[]⟩ = tq at *
    obtain ⟨qe, qk, qf, qg, qd⟩ := tq
    dsimp only at HR2 HID
    go_at_call 48
    refine (HR2.out _ H1.out).mono ?_
    rintro e w2 ⟨rfl, hbd⟩
    have hal := (Below.refl w2.heap.size w2).alloc (Nat.le_refl _) (.cells #[.int .i64 qk, .int .i64 qf, .int .i64 qg, .int .i64 qd] 104)
    have H2 := Lib.hid ((H1.out.keep hbd).keep hal)
    have HX2 := Lib.hid ((HX1.out.below' hbd).below' hal)
    have HO2 := Lib.hid (Blk.new w2 104 #[.int .i64 qk, .int .i64 qf, .int .i64 qg, .int .i64 qd])
    have hob : W.heap.size ≤ w2.heap.size := (H1.out.keep hbd).aw.below.size
    clear hbd hal H1 HX1 HRD HR2
    obtain ⟨x0, x1, x2, x3⟩ := tok_cells HX2.out
    obtain ⟨o0, o1, o2, o3⟩ := tok_cells HO2.out
    obtain ⟨c0, c1, c2, c3, c4⟩ := H2.out.five
    go_wp2_with fail
    generalize w2.alloc (.cells #[.int .i64 qk, .int .i64 qf, .int .i64 qg, .int .i64 qd] 104) = w3 at *
    generalize w2.heap.size = ob at *

    have HOB := Lib.hid hob
    have HMT := Lib.hid (H2.out.sweep hk)
    go_at_call 32
    refine HMT.out.mono ?_
    rintro e w8 ⟨z6, xx, code, rfl, ⟨v6, h6⟩, hrest⟩
    have H9 := Lib.hid h6
    have HX9 := Lib.hid (hrest.2 _ _ _ HX2.out (by decide) (by decide))
    have HO9 := Lib.hid (hrest.2 _ _ _ HO2.out (by decide) (by decide))
    clear h6 hrest H2 HX2 HO2 x0 x1 x2 x3 o0 o1 o2 o3 c0 c1 c2 c3 c4 HMT

    have hz4 := HO9.out.frozen
    obtain ⟨o0, o1, o2, o3⟩ := tok_cells HO9.out
    go_wp2_with fail
    obtain ⟨wz, hwz, hgz, hoz⟩ := four_turns HO9.out (.int .i64 0) (.int .i64 0) (.int .i64 0) (.int .i64 0)
    rw [← hwz]
    have HZ := Lib.hid (H9.out.aside hgz HO9.out HOB.out (by decide) (by decide) (by decide) (by decide) (by decide) (by decide))
    have HZX := Lib.hid (HX9.out.grown hgz (by simpa using HX9.out.ne_ HO9.out (by decide)))
    have HZO := Lib.hid hoz
    clear hwz hgz hoz H9 HX9 HO9 o0 o1 o2 o3 hz4
    have H9 := HZ
    have HX9 := HZX
    have HO9 := HZO
    clear HZ HZX HZO
    generalize wz = w9 at *

    obtain ⟨x0, x1, x2, x3⟩ := tok_cells HX9.out
    go_quiet (fail)
    have hbd := below_drewN (Below.refl w9.heap.size w9) nq
    have HA := Lib.hid (H9.out.keep hbd)
    clear hbd H9 HX9 HO9 x0 x1 x2 x3 
    generalize w9.drewN nq = u at *
    go_wp2_with fail
    go_at_call 51
    refine (narrows_yes HA.out (by omega)).mono ?_
    rintro e wf ⟨rfl, cf, Kf, hcf, hf⟩
    have HF := Lib.hid hf
    clear hf
    go_wp2_with fail
    go_ret
    exact ⟨rfl, _, cf, _, _, _, _, Kf, Nat.le_refl _, by omega, Nat.le_succ _, HF.out⟩
  · have hd0 : decide (0 < T.length) = true := decide_eq_true h0
    have HPK := Lib.hid (fun w => pick_n ti (T.length : Int) w (by omega) (by omega))
    have hp := pickN_in ti (n := (T.length : Int)) (by omega)
    obtain ⟨p, hpp⟩ : ∃ p : Nat, pickN ti (T.length : Int) = p := ⟨_, (Int.toNat_of_nonneg hp.1).symm⟩
    rw [hpp] at HPK hp
    obtain ⟨tt, htt⟩ : ∃ t, T[p]? = some t := ⟨_, List.getElem?_eq_getElem (by omega)⟩
    obtain ⟨tg, rfl, hcell⟩ := H0.out.toks.lit htt
    have HTT := Lib.hid (H0.out.small tt (List.mem_of_getElem? htt))
    obtain ⟨hp0, hp1⟩ := hp
    clear hpp htt
    go_enter Tryz.func16, Tryz.ntmps16
    go_wp2_with fail
    go_quiet ((go_at_call 8; exact Calls.quiet_of_same ((HPK.out _).mono fun _ _ h => ⟨h.1, h.2.symm⟩)))
    go_wp2_with fail
    have hbd : Below (w.alloc (.cells #[.int .i64 6, .int .i64 ti, .int .i64 n, .string sc] 53)).heap.size (w.alloc (.cells #[.int .i64 6, .int .i64 ti, .int .i64 n, .string sc] 53)) ((w.alloc (.cells #[.int .i64 6, .int .i64 ti, .int .i64 n, .string sc] 53)).drewN nq) := below_drewN (Below.refl _ _) nq
    have H1 := Lib.hid (H0.out.keep hbd)
    have HX1 := Lib.hid (HX0.out.below' hbd)
    clear H0 HX0 c0 c1 c2 c3 c4 x0 x1 x2 x3 hd0 h0 hcell hp0 hp1 HPK hbd
    generalize (w.alloc (.cells #[.int .i64 6, .int .i64 ti, .int .i64 n, .string sc] 53)).drewN nq = w1 at *
    generalize w.heap.size = xb at *

    have HID := Lib.hid (show tokId r tt = (tokOf r tt).2.2.1 from rfl)
    have HR2 := Lib.hid (HRD.out tt HTT.out)
    generalize tokOf r tt = tq at *
    obtain ⟨qe, qk, qf, qg, qd⟩ := tq
    dsimp only at HR2 HID
    go_at_call 48
    refine (HR2.out _ H1.out).mono ?_
    rintro e w2 ⟨rfl, hbd⟩
    have hal := (Below.refl w2.heap.size w2).alloc (Nat.le_refl _) (.cells #[.int .i64 qk, .int .i64 qf, .int .i64 qg, .int .i64 qd] 104)
    have H2 := Lib.hid ((H1.out.keep hbd).keep hal)
    have HX2 := Lib.hid ((HX1.out.below' hbd).below' hal)
    have HO2 := Lib.hid (Blk.new w2 104 #[.int .i64 qk, .int .i64 qf, .int .i64 qg, .int .i64 qd])
    have hob : W.heap.size ≤ w2.heap.size := (H1.out.keep hbd).aw.below.size
    clear hbd hal H1 HX1 HRD HR2
    obtain ⟨x0, x1, x2, x3⟩ := tok_cells HX2.out
    obtain ⟨o0, o1, o2, o3⟩ := tok_cells HO2.out
    obtain ⟨c0, c1, c2, c3, c4⟩ := H2.out.five
    go_wp2_with fail
    generalize w2.alloc (.cells #[.int .i64 qk, .int .i64 qf, .int .i64 qg, .int .i64 qd] 104) = w3 at *
    generalize w2.heap.size = ob at *

    have HOB := Lib.hid hob
    have HMT := Lib.hid (H2.out.sweep hk)
    go_at_call 32
    refine HMT.out.mono ?_
    rintro e w8 ⟨z6, xx, code, rfl, ⟨v6, h6⟩, hrest⟩
    have H9 := Lib.hid h6
    have HX9 := Lib.hid (hrest.2 _ _ _ HX2.out (by decide) (by decide))
    have HO9 := Lib.hid (hrest.2 _ _ _ HO2.out (by decide) (by decide))
    clear h6 hrest H2 HX2 HO2 x0 x1 x2 x3 o0 o1 o2 o3 c0 c1 c2 c3 c4 HMT

    have hz4 := HO9.out.frozen
    obtain ⟨o0, o1, o2, o3⟩ := tok_cells HO9.out
    go_wp2_with fail
    obtain ⟨wz, hwz, hgz, hoz⟩ := four_turns HO9.out (.int .i64 0) (.int .i64 0) (.int .i64 0) (.int .i64 0)
    rw [← hwz]
    have HZ := Lib.hid (H9.out.aside hgz HO9.out HOB.out (by decide) (by decide) (by decide) (by decide) (by decide) (by decide))
    have HZX := Lib.hid (HX9.out.grown hgz (by simpa using HX9.out.ne_ HO9.out (by decide)))
    have HZO := Lib.hid hoz
    clear hwz hgz hoz H9 HX9 HO9 o0 o1 o2 o3 hz4
    have H9 := HZ
    have HX9 := HZX
    have HO9 := HZO
    clear HZ HZX HZO
    generalize wz = w9 at *

    obtain ⟨x0, x1, x2, x3⟩ := tok_cells HX9.out
    go_quiet (fail)
    have hbd := below_drewN (Below.refl w9.heap.size w9) nq
    have HA := Lib.hid (H9.out.keep hbd)
    clear hbd H9 HX9 HO9 x0 x1 x2 x3 
    generalize w9.drewN nq = u at *
    go_wp2_with fail
    go_at_call 51
    refine (narrows_yes HA.out (by omega)).mono ?_
    rintro e wf ⟨rfl, cf, Kf, hcf, hf⟩
    have HF := Lib.hid hf
    clear hf
    go_wp2_with fail
    go_ret
    exact ⟨rfl, _, cf, _, _, _, _, Kf, Nat.le_refl _, by omega, Nat.le_succ _, HF.out⟩
end
end Go.Proofs.YtckohmhhcknmaaaGreatDoor
