/-
  ServiceStolen: asks: Rotate.
-/
import Derived.Test.YtckohmhhcknmaaaGreatDoorS02
namespace Go.Proofs.YtckohmhhcknmaaaGreatDoor
open Go.RowKit Go.Sort Go.Maps

section
variable {W w : World} {hb vb sb db k m1 m2 m3 c : Nat} {r : Ru} {z : SS} {v tv : Value} {T : List ByteArray} {K : Kn}
set_option maxHeartbeats 16000000 in
set_option maxRecDepth 100000 in
theorem asks_1 (h : HL W hb vb sb db k m1 m2 m3 c r z v tv T K w) (hk : k < 1000000) (hc : c ≤ 900000) (hT : T.length ≤ 1000) (key ti n : Int) (sc : ByteArray) (hkey : r.key = key) :
    Calls Tryz.prog 16 #[.pointer (some ⟨hb, 0, none⟩), .int .i64 key, .agg #[.int .i64 1, .int .i64 ti, .int .i64 n, .string sc]] w (AskGot W hb vb sb db k m1 m2 m3 c r T) := by
  obtain ⟨ta, tc, rfl⟩ := h.toks.slice
  have hal := (Below.refl w.heap.size w).alloc (Nat.le_refl _) (.cells #[.int .i64 1, .int .i64 ti, .int .i64 n, .string sc] 53)
  have H0 := Lib.hid (h.keep hal)
  have HX0 := Lib.hid (Blk.new w 53 #[.int .i64 1, .int .i64 ti, .int .i64 n, .string sc])
  obtain ⟨c0, c1, c2, c3, c4⟩ := H0.out.five
  obtain ⟨x0, x1, x2, x3⟩ := tok_cells HX0.out
  have hto : ∀ t : ByteArray, tokR (fun B => tagL key B) (parts 46 t.data.toList) = tokOf r t := fun t => by unfold tokOf; rw [hkey]
  have HRD := Lib.hid (fun (t : ByteArray) (ht : t.size ≤ 100) w (h : HL W hb vb sb db k m1 m2 m3 c r z v (.slice ta T.length tc) T K w) => by
    have := token_read key t w (by omega) h.aw.sw.sx.env.maxl h.aw.sw.sx.env.tens h.aw.sw.sx.env.errs
    rw [hto] at this
    exact this)
  unfold TokGot v4 at HRD
  clear h hal hto hkey
  rcases Nat.eq_zero_or_pos T.length with h0 | h0
  · have hd0 : decide (0 < T.length) = false := decide_eq_false (by omega)
    go_enter Tryz.func16, Tryz.ntmps16
    go_wp2_with fail
    have HTT := Lib.hid (show (⟨#[]⟩ : ByteArray).size ≤ 100 by decide)
    have H1 := H0
    have HX1 := HX0
    clear H0 HX0 c0 c1 c2 c3 c4 x0 x1 x2 x3 hd0 h0
    generalize w.alloc (.cells #[.int .i64 1, .int .i64 ti, .int .i64 n, .string sc] 53) = w1 at *
    generalize w.heap.size = xb at *

    have HID := Lib.hid (show tokId r ⟨#[]⟩ = (tokOf r ⟨#[]⟩).2.2.1 from rfl)
    have HR2 := Lib.hid (HRD.out ⟨#[]⟩ HTT.out)
    generalize tokOf r ⟨#[]⟩ = tq at *
    obtain ⟨qe, qk, qf, qg, qd⟩ := tq
    dsimp only at HR2 HID
    go_at_call 48
    refine (HR2.out _ H1.out).mono ?_
    rintro e w2 ⟨rfl, hbd⟩
    have hal := (Below.refl w2.heap.size w2).alloc (Nat.le_refl _) (.cells #[.int .i64 qk, .int .i64 qf, .int .i64 qg, .int .i64 qd] 104)
    have H2 := Lib.hid ((H1.out.keep hbd).keep hal)
    have HX2 := Lib.hid ((HX1.out.below' hbd).below' hal)
    have HO2 := Lib.hid (Blk.new w2 104 #[.int .i64 qk, .int .i64 qf, .int .i64 qg, .int .i64 qd])
    have hob : W.heap.size ≤ w2.heap.size := (H1.out.keep hbd).aw.below.size
    clear hbd hal H1 HX1 HRD HR2
    obtain ⟨x0, x1, x2, x3⟩ := tok_cells HX2.out
    obtain ⟨o0, o1, o2, o3⟩ := tok_cells HO2.out
    obtain ⟨c0, c1, c2, c3, c4⟩ := H2.out.five
    go_wp2_with fail
    generalize w2.alloc (.cells #[.int .i64 qk, .int .i64 qf, .int .i64 qg, .int .i64 qd] 104) = w3 at *
    generalize w2.heap.size = ob at *

    have HRQ := Lib.hid (fun w => req_of n w)
    have HSC := Lib.hid (fun x w => scp_of x w)
    have HRT := Lib.hid (fun x w (h : HL W hb vb sb db k m1 m2 m3 c r z v (.slice ta T.length tc) T K w) => h.rotate hk ⟨#[]⟩ (reqF n) (scpF x) (by have := HTT.out; omega) (by have := reqF_size n; omega) (by have := scpF_size x; omega))
    have HD := H2.out.drew
    have HDX : Blk w3.drew xb 53 #[.int .i64 1, .int .i64 ti, .int .i64 n, .string sc] := HX2.out
    have HDO : Blk w3.drew ob 104 #[.int .i64 qk, .int .i64 qf, .int .i64 qg, .int .i64 qd] := HO2.out
    have HDC : w3.drew.cell? ⟨hb, 0, none⟩ = some (.pointer (some ⟨vb, 0, none⟩)) ∧ w3.drew.cell? ⟨xb, 0, none⟩ = some (.int .i64 1) ∧ w3.drew.cell? ⟨xb, 1, none⟩ = some (.int .i64 ti) ∧ w3.drew.cell? ⟨xb, 2, none⟩ = some (.int .i64 n) ∧ w3.drew.cell? ⟨xb, 3, none⟩ = some (.string sc) := ⟨HD.five.1, HDX.cell 0, HDX.cell 1, HDX.cell 2, HDX.cell 3⟩
    clear H2 HX2 HO2 x0 x1 x2 x3 o0 o1 o2 o3 c0 c1 c2 c3 c4
    go_region_held3 (fun w' => w'.cell? ⟨hb, 0, none⟩ = some (.pointer (some ⟨vb, 0, none⟩)) ∧ w'.cell? ⟨xb, 0, none⟩ = some (.int .i64 1) ∧ w'.cell? ⟨xb, 1, none⟩ = some (.int .i64 ti) ∧ w'.cell? ⟨xb, 2, none⟩ = some (.int .i64 n) ∧ w'.cell? ⟨xb, 3, none⟩ = some (.string sc))
      (first
        | with_reducible assumption
        | with_reducible exact HDC)
      (first
        | (go_at_call 50; (with_reducible refine (HRQ.out _).mono ?_); rintro x' w4 ⟨rfl, hb4⟩
           have HA4 := HD.keep hb4
           have HX4 := HDX.below' hb4
           have HO4 := HDO.below' hb4
           have hc4 : w4.cell? ⟨hb, 0, none⟩ = some (.pointer (some ⟨vb, 0, none⟩)) ∧ w4.cell? ⟨xb, 0, none⟩ = some (.int .i64 1) ∧ w4.cell? ⟨xb, 1, none⟩ = some (.int .i64 ti) ∧ w4.cell? ⟨xb, 2, none⟩ = some (.int .i64 n) ∧ w4.cell? ⟨xb, 3, none⟩ = some (.string sc) := ⟨HA4.five.1, HX4.cell 0, HX4.cell 1, HX4.cell 2, HX4.cell 3⟩)
        | (go_at_call 49; (with_reducible refine (HSC.out _ _).mono ?_); rintro x' w5 ⟨rfl, hb5⟩
           have HA5 := HA4.keep hb5
           have HX5 := HX4.below' hb5
           have HO5 := HO4.below' hb5
           have hc5 : w5.cell? ⟨hb, 0, none⟩ = some (.pointer (some ⟨vb, 0, none⟩)) ∧ w5.cell? ⟨xb, 0, none⟩ = some (.int .i64 1) ∧ w5.cell? ⟨xb, 1, none⟩ = some (.int .i64 ti) ∧ w5.cell? ⟨xb, 2, none⟩ = some (.int .i64 n) ∧ w5.cell? ⟨xb, 3, none⟩ = some (.string sc) := ⟨HA5.five.1, HX5.cell 0, HX5.cell 1, HX5.cell 2, HX5.cell 3⟩)
        | (go_at_call 11; (with_reducible refine (HRT.out _ _ HA5).mono ?_); rintro x' w6 ⟨z6, got, code, htu, rfl, ⟨v6, h6⟩, hrest⟩
           have HX6 := hrest.2 _ _ _ HX5 (by decide) (by decide)
           have HO6 := hrest.2 _ _ _ HO5 (by decide) (by decide)
           have hc6 : w6.cell? ⟨hb, 0, none⟩ = some (.pointer (some ⟨vb, 0, none⟩)) ∧ w6.cell? ⟨xb, 0, none⟩ = some (.int .i64 1) ∧ w6.cell? ⟨xb, 1, none⟩ = some (.int .i64 ti) ∧ w6.cell? ⟨xb, 2, none⟩ = some (.int .i64 n) ∧ w6.cell? ⟨xb, 3, none⟩ = some (.string sc) := ⟨h6.five.1, HX6.cell 0, HX6.cell 1, HX6.cell 2, HX6.cell 3⟩))
    have HTU := Lib.hid htu
    have HGS := Lib.hid (show got.size ≤ 100 from htu.size)
    have H6 := Lib.hid h6
    have HX7 := Lib.hid HX6
    have HO7 := Lib.hid HO6
    clear HD HDX HDO HDC hb4 HA4 HX4 HO4 hc4 hb5 HA5 HX5 HO5 hc5 htu h6 hrest HX6 HO6 hc6 HRT HSC
    by_cases h15 : code = 15
    · subst h15
      have e15 : errV 15 = .iface 35 (.int .i64 15) := errV_n (by decide)
      rw [e15]
      clear e15
      go_wp2_with fail
      go_at_call 13
      refine (tell_no 15 _ H6.out.aw.et).mono ?_
      rintro e w8 ⟨rfl, hb8⟩
      have H8 := Lib.hid (H6.out.keep (below_dr hb8))
      have HX8 := Lib.hid (HX7.out.below' (below_dr hb8))
      have HO8 := Lib.hid (HO7.out.below' (below_dr hb8))
      clear hb8 H6 HX7 HO7
      go_wp2_with fail
      obtain ⟨c0, c1, c2, c3, c4⟩ := H8.out.five
      obtain ⟨o0, o1, o2, o3⟩ := tok_cells HO8.out
      have hqf : okN qf = true := by rw [← HID.out]; exact tok_id r ⟨#[]⟩
      obtain ⟨w9, hput, hmap, hgm⟩ := H8.out.map1.put (T := 45) Tryz.underlying45 Tryz.underlying3 Tryz.underlying4 (by unfold maxLen; omega) qf (int_key qf hqf) true
      have hkn : KnOk r z6.s (K.steal qf) := H8.out.known.steal (by rw [← HID.out]; exact (HTU.out.spoilt rfl).1) (by rw [← HID.out]; exact (HTU.out.spoilt rfl).2)
      have H9 := Lib.hid (H8.out.put1 (K' := K.steal qf) hgm hmap rfl rfl hkn)
      have HX9 := Lib.hid (HX8.out.grown hgm (by simpa using (H8.out.map1.ne HX8.out).symm))
      have HO9 := Lib.hid (HO8.out.grown hgm (by simpa using (H8.out.map1.ne HO8.out).symm))
      clear hmap hgm hkn H8 HX8 HO8
      go_still_tail 6, (by kernel_rfl)
      change wpList _ _ _ _ _ w8.drew
      go_wp2_with fail
      clear hput c0 c1 c2 c3 c4 o0 o1 o2 o3
      obtain ⟨x0, x1, x2, x3⟩ := tok_cells HX9.out
      go_quiet (fail)
      have hbd := below_drewN (Below.refl w9.heap.size w9) nq
      have HA := Lib.hid (H9.out.keep hbd)
      clear hbd H9 HX9 HO9 x0 x1 x2 x3 
      generalize w9.drewN nq = u at *
      rcases hge : got.toList.isEmpty with _ | _
      · obtain ⟨i0, hii, hz0, hz1, hz2⟩ := info_parts strInfo
        obtain ⟨c0, c1, c2, c3, c4⟩ := HA.out.five
        have hrow : u.ownsRow W.heap.size 9 1 (.slice ta T.length tc) T.length (T.map Value.string) := HA.out.toks
        have hWu := HA.out.aw.below.size
        have HA1 := Lib.hid (HA.out.keep ((Below.refl u.heap.size u).alloc (Nat.le_refl _) (.cells #[.string got] 9)))
        go_wp2_with
          (at_builtin; refine wpList_append_own _ rfl _ _ 48 rfl W.heap.size 9 i0 (.string ByteArray.empty) 1 16 Tryz.underlying48 hii hz0 hz1 hz2 rfl (by decide) _ _ _ rfl (hrow.alloc _) ⟨u.heap.size, 0, none⟩ 1 1 [.string got] rfl rfl (cell_one_new _ _ _) (fun x hx => by simp at hx; subst hx; rfl) (by unfold maxLen; omega) (by omega) (by simp; omega) ?_; intro v' wn hown hgrow hnil
           have HO := Lib.hid hown
           have HG := Lib.hid hgrow
           have hbk := HA1.out.blk.grown hgrow (HA1.out.toks.apart HA1.out.blk (by decide)).symm
           obtain ⟨xa, xn, xc, rfl⟩ := own_slice hown
           have mv : wn.cell? ⟨hb, 1, none⟩ = some (.slice ta T.length tc) := hbk.cell 1
           have mz := hbk.frozen
           clear hown hgrow hnil hrow)
        have HE := Lib.hid (HA1.out.given HG.out HO.out HGS.out)
        go_at_call 51
        refine (narrows_yes HE.out (by omega)).mono ?_
        rintro e wf ⟨rfl, cf, Kf, hcf, hf⟩
        have HF := Lib.hid hf
        clear hf
        go_wp2_with fail
        go_ret
        exact ⟨rfl, _, cf, _, _, _, _, Kf, Nat.le_refl _, by omega, by rw [List.length_append]; exact Nat.le_refl _, HF.out⟩
      · go_wp2_with fail
        go_at_call 51
        refine (narrows_yes HA.out (by omega)).mono ?_
        rintro e wf ⟨rfl, cf, Kf, hcf, hf⟩
        have HF := Lib.hid hf
        clear hf
        go_wp2_with fail
        go_ret
        exact ⟨rfl, _, cf, _, _, _, _, Kf, Nat.le_refl _, by omega, Nat.le_succ _, HF.out⟩
    · by_cases h00 : code = 0
      · subst h00
        have e00 : errV 0 = .nilIface := errV_0
        rw [e00]
        clear e00
        go_wp2_with fail
        go_at_call 13
        refine (tell_nil _).mono ?_
        rintro e w8 ⟨rfl, rfl⟩
        obtain ⟨c0, c1, c2, c3, c4⟩ := H6.out.five
        obtain ⟨x0, x1, x2, x3⟩ := tok_cells HX7.out
        have hlk := H6.out.map3.look (T := 47) Tryz.underlying47 Tryz.underlying9 (by rfl) ⟨#[]⟩ (by show (⟨#[]⟩ : ByteArray).size ≤ maxLen; have := HTT.out; unfold maxLen; omega)
        have hlk2 : (Instr.lookup 47 (.map (some m3)) (.string ⟨#[]⟩) true).run Tryz.prog w6 = .ok (.tuple #[.string ((K.taken ⟨#[]⟩).getD ByteArray.empty), .bool (K.taken ⟨#[]⟩).isSome]) w6 := hlk
        clear hlk
        rcases hq : K.taken ⟨#[]⟩ with _ | pq
        · rw [hq] at hlk2
          simp only [Option.getD_none, Option.isSome_none] at hlk2
          go_wp2_with fail
          clear c0 c1 c2 c3 c4 x0 x1 x2 x3 hlk2 hq

          have HA8 := H6.out.drew
          have HX8 : Blk w6.drew xb 53 #[.int .i64 1, .int .i64 ti, .int .i64 n, .string sc] := HX7.out
          have HO8 : Blk w6.drew ob 104 #[.int .i64 qk, .int .i64 qf, .int .i64 qg, .int .i64 qd] := HO7.out
          have hc8 : w6.drew.cell? ⟨hb, 4, none⟩ = some (.map (some m3)) ∧ w6.drew.cell? ⟨xb, 2, none⟩ = some (.int .i64 n) := ⟨HA8.five.2.2.2.2, HX8.cell 2⟩
          go_region_held3 (fun w' => w'.cell? ⟨hb, 4, none⟩ = some (.map (some m3)) ∧ w'.cell? ⟨xb, 2, none⟩ = some (.int .i64 n))
            (first
              | with_reducible assumption
              | with_reducible exact hc8)
            (first
              | (go_at_call 50; (with_reducible refine (HRQ.out _).mono ?_); rintro x' wx ⟨rfl, hbx⟩
                 have HAx := HA8.keep hbx
                 have HXx := HX8.below' hbx
                 have HOx := HO8.below' hbx
                 have hcx : wx.cell? ⟨hb, 4, none⟩ = some (.map (some m3)) ∧ wx.cell? ⟨xb, 2, none⟩ = some (.int .i64 n) := ⟨HAx.five.2.2.2.2, HXx.cell 2⟩
                 obtain ⟨w9, hput, hmap, hgm⟩ := HAx.map3.put (T := 47) Tryz.underlying47 Tryz.underlying9 (by unfold maxLen; omega) ⟨#[]⟩ (by show (⟨#[]⟩ : ByteArray).size ≤ maxLen; have := HTT.out; unfold maxLen; omega) (reqF n) (by have := reqF_size n; unfold maxLen; omega) (K.take ⟨#[]⟩ (reqF n)).taken (by simp [Kn.take]) (fun y hy => by simp [Kn.take, hy])
                 have hput' : (Instr.mapUpdate 47 (.map (some m3)) (.string ⟨#[]⟩) (.string (reqF n))).run Tryz.prog wx = .ok () w9 := hput
                 have hkn : KnOk r z6.s (K.take ⟨#[]⟩ (reqF n)) := HAx.known.take (HTU.out.next rfl) (HTU.out.mine rfl)
                 have h9 := HAx.put3 (K' := K.take ⟨#[]⟩ (reqF n)) hgm hmap rfl rfl hkn
                 have hx9 := HXx.grown hgm (by simpa using (HAx.map3.ne HXx).symm)
                 have ho9 := HOx.grown hgm (by simpa using (HAx.map3.ne HOx).symm)
                 have hc9 : w9.cell? ⟨hb, 4, none⟩ = some (.map (some m3)) ∧ w9.cell? ⟨xb, 2, none⟩ = some (.int .i64 n) := ⟨h9.five.2.2.2.2, hx9.cell 2⟩))
          have H9 := Lib.hid h9
          have HX9 := Lib.hid hx9
          have HO9 := Lib.hid ho9
          clear HA8 HX8 HO8 hc8 hbx HAx HXx HOx hcx hput hput' hmap hgm hkn h9 hx9 ho9 hc9
          have hqf : okN qf = true := by rw [← HID.out]; exact tok_id r ⟨#[]⟩
          have HLV := Lib.hid (show K.stolen qf = false by rw [← HID.out]; exact HTU.out.live rfl)
          go_wp2_with fail

          obtain ⟨x0, x1, x2, x3⟩ := tok_cells HX9.out
          have hst : ∀ nn, (Instr.lookup 45 (.map (some m1)) (.int .i64 qf) false).run Tryz.prog (w9.drewN nn) = .ok (.bool false) (w9.drewN nn) := fun nn => by
            have := (show MapIB Tryz.prog 3 4 (w9.drewN nn) m1 _ _ from H9.out.map1).look (T := 45) Tryz.underlying45 Tryz.underlying3 Tryz.underlying4 (by rfl) qf (int_key qf hqf)
            rw [show (K.take ⟨#[]⟩ (reqF n)).stolen qf = false from HLV.out] at this
            exact this
          obtain ⟨c0, c1, c2, c3, c4⟩ := H9.out.five
          obtain ⟨o0, o1, o2, o3⟩ := tok_cells HO9.out
          go_quiet (fail)
          have hbd := below_drewN (Below.refl w9.heap.size w9) nq
          have HA := Lib.hid (H9.out.keep hbd)
          clear hbd H9 HX9 HO9 x0 x1 x2 x3 hst c0 c1 c2 c3 c4 o0 o1 o2 o3
          generalize w9.drewN nq = u at *
          rcases hge : got.toList.isEmpty with _ | _
          · obtain ⟨i0, hii, hz0, hz1, hz2⟩ := info_parts strInfo
            obtain ⟨c0, c1, c2, c3, c4⟩ := HA.out.five
            have hrow : u.ownsRow W.heap.size 9 1 (.slice ta T.length tc) T.length (T.map Value.string) := HA.out.toks
            have hWu := HA.out.aw.below.size
            have HA1 := Lib.hid (HA.out.keep ((Below.refl u.heap.size u).alloc (Nat.le_refl _) (.cells #[.string got] 9)))
            go_wp2_with
              (at_builtin; refine wpList_append_own _ rfl _ _ 48 rfl W.heap.size 9 i0 (.string ByteArray.empty) 1 16 Tryz.underlying48 hii hz0 hz1 hz2 rfl (by decide) _ _ _ rfl (hrow.alloc _) ⟨u.heap.size, 0, none⟩ 1 1 [.string got] rfl rfl (cell_one_new _ _ _) (fun x hx => by simp at hx; subst hx; rfl) (by unfold maxLen; omega) (by omega) (by simp; omega) ?_; intro v' wn hown hgrow hnil
               have HO := Lib.hid hown
               have HG := Lib.hid hgrow
               have hbk := HA1.out.blk.grown hgrow (HA1.out.toks.apart HA1.out.blk (by decide)).symm
               obtain ⟨xa, xn, xc, rfl⟩ := own_slice hown
               have mv : wn.cell? ⟨hb, 1, none⟩ = some (.slice ta T.length tc) := hbk.cell 1
               have mz := hbk.frozen
               clear hown hgrow hnil hrow)
            have HE := Lib.hid (HA1.out.given HG.out HO.out HGS.out)
            go_at_call 51
            refine (narrows_yes HE.out (by omega)).mono ?_
            rintro e wf ⟨rfl, cf, Kf, hcf, hf⟩
            have HF := Lib.hid hf
            clear hf
            go_wp2_with fail
            go_ret
            exact ⟨rfl, _, cf, _, _, _, _, Kf, Nat.le_refl _, by omega, by rw [List.length_append]; exact Nat.le_refl _, HF.out⟩
          · go_wp2_with fail
            go_at_call 51
            refine (narrows_yes HA.out (by omega)).mono ?_
            rintro e wf ⟨rfl, cf, Kf, hcf, hf⟩
            have HF := Lib.hid hf
            clear hf
            go_wp2_with fail
            go_ret
            exact ⟨rfl, _, cf, _, _, _, _, Kf, Nat.le_refl _, by omega, Nat.le_succ _, HF.out⟩
        · obtain rfl := HTU.out.alone rfl pq hq
          rw [hq] at hlk2
          simp only [Option.getD_some, Option.isSome_some] at hlk2
          go_wp2_with fail
          go_at_call 50
          refine (HRQ.out _).mono ?_
          rintro x' wp ⟨rfl, hbp⟩
          have HP8 := Lib.hid (H6.out.keep hbp)
          have HXP := Lib.hid (HX7.out.below' hbp)
          have HOP := Lib.hid (HO7.out.below' hbp)
          clear hbp H6 HX7 HO7 c0 c1 c2 c3 c4 x0 x1 x2 x3 hlk2 hq
          go_wp2_with fail

          have HA8 := HP8.out.drew
          have HX8 : Blk wp.drew xb 53 #[.int .i64 1, .int .i64 ti, .int .i64 n, .string sc] := HXP.out
          have HO8 : Blk wp.drew ob 104 #[.int .i64 qk, .int .i64 qf, .int .i64 qg, .int .i64 qd] := HOP.out
          have hc8 : wp.drew.cell? ⟨hb, 4, none⟩ = some (.map (some m3)) ∧ wp.drew.cell? ⟨xb, 2, none⟩ = some (.int .i64 n) := ⟨HA8.five.2.2.2.2, HX8.cell 2⟩
          go_region_held3 (fun w' => w'.cell? ⟨hb, 4, none⟩ = some (.map (some m3)) ∧ w'.cell? ⟨xb, 2, none⟩ = some (.int .i64 n))
            (first
              | with_reducible assumption
              | with_reducible exact hc8)
            (first
              | (go_at_call 50; (with_reducible refine (HRQ.out _).mono ?_); rintro x' wx ⟨rfl, hbx⟩
                 have HAx := HA8.keep hbx
                 have HXx := HX8.below' hbx
                 have HOx := HO8.below' hbx
                 have hcx : wx.cell? ⟨hb, 4, none⟩ = some (.map (some m3)) ∧ wx.cell? ⟨xb, 2, none⟩ = some (.int .i64 n) := ⟨HAx.five.2.2.2.2, HXx.cell 2⟩
                 obtain ⟨w9, hput, hmap, hgm⟩ := HAx.map3.put (T := 47) Tryz.underlying47 Tryz.underlying9 (by unfold maxLen; omega) ⟨#[]⟩ (by show (⟨#[]⟩ : ByteArray).size ≤ maxLen; have := HTT.out; unfold maxLen; omega) (reqF n) (by have := reqF_size n; unfold maxLen; omega) (K.take ⟨#[]⟩ (reqF n)).taken (by simp [Kn.take]) (fun y hy => by simp [Kn.take, hy])
                 have hput' : (Instr.mapUpdate 47 (.map (some m3)) (.string ⟨#[]⟩) (.string (reqF n))).run Tryz.prog wx = .ok () w9 := hput
                 have hkn : KnOk r z6.s (K.take ⟨#[]⟩ (reqF n)) := HAx.known.take (HTU.out.next rfl) (HTU.out.mine rfl)
                 have h9 := HAx.put3 (K' := K.take ⟨#[]⟩ (reqF n)) hgm hmap rfl rfl hkn
                 have hx9 := HXx.grown hgm (by simpa using (HAx.map3.ne HXx).symm)
                 have ho9 := HOx.grown hgm (by simpa using (HAx.map3.ne HOx).symm)
                 have hc9 : w9.cell? ⟨hb, 4, none⟩ = some (.map (some m3)) ∧ w9.cell? ⟨xb, 2, none⟩ = some (.int .i64 n) := ⟨h9.five.2.2.2.2, hx9.cell 2⟩))
          have H9 := Lib.hid h9
          have HX9 := Lib.hid hx9
          have HO9 := Lib.hid ho9
          clear HA8 HX8 HO8 hc8 hbx HAx HXx HOx hcx hput hput' hmap hgm hkn h9 hx9 ho9 hc9
          have hqf : okN qf = true := by rw [← HID.out]; exact tok_id r ⟨#[]⟩
          have HLV := Lib.hid (show K.stolen qf = false by rw [← HID.out]; exact HTU.out.live rfl)
          go_wp2_with fail

          obtain ⟨x0, x1, x2, x3⟩ := tok_cells HX9.out
          have hst : ∀ nn, (Instr.lookup 45 (.map (some m1)) (.int .i64 qf) false).run Tryz.prog (w9.drewN nn) = .ok (.bool false) (w9.drewN nn) := fun nn => by
            have := (show MapIB Tryz.prog 3 4 (w9.drewN nn) m1 _ _ from H9.out.map1).look (T := 45) Tryz.underlying45 Tryz.underlying3 Tryz.underlying4 (by rfl) qf (int_key qf hqf)
            rw [show (K.take ⟨#[]⟩ (reqF n)).stolen qf = false from HLV.out] at this
            exact this
          obtain ⟨c0, c1, c2, c3, c4⟩ := H9.out.five
          obtain ⟨o0, o1, o2, o3⟩ := tok_cells HO9.out
          go_quiet (fail)
          have hbd := below_drewN (Below.refl w9.heap.size w9) nq
          have HA := Lib.hid (H9.out.keep hbd)
          clear hbd H9 HX9 HO9 x0 x1 x2 x3 hst c0 c1 c2 c3 c4 o0 o1 o2 o3
          generalize w9.drewN nq = u at *
          rcases hge : got.toList.isEmpty with _ | _
          · obtain ⟨i0, hii, hz0, hz1, hz2⟩ := info_parts strInfo
            obtain ⟨c0, c1, c2, c3, c4⟩ := HA.out.five
            have hrow : u.ownsRow W.heap.size 9 1 (.slice ta T.length tc) T.length (T.map Value.string) := HA.out.toks
            have hWu := HA.out.aw.below.size
            have HA1 := Lib.hid (HA.out.keep ((Below.refl u.heap.size u).alloc (Nat.le_refl _) (.cells #[.string got] 9)))
            go_wp2_with
              (at_builtin; refine wpList_append_own _ rfl _ _ 48 rfl W.heap.size 9 i0 (.string ByteArray.empty) 1 16 Tryz.underlying48 hii hz0 hz1 hz2 rfl (by decide) _ _ _ rfl (hrow.alloc _) ⟨u.heap.size, 0, none⟩ 1 1 [.string got] rfl rfl (cell_one_new _ _ _) (fun x hx => by simp at hx; subst hx; rfl) (by unfold maxLen; omega) (by omega) (by simp; omega) ?_; intro v' wn hown hgrow hnil
               have HO := Lib.hid hown
               have HG := Lib.hid hgrow
               have hbk := HA1.out.blk.grown hgrow (HA1.out.toks.apart HA1.out.blk (by decide)).symm
               obtain ⟨xa, xn, xc, rfl⟩ := own_slice hown
               have mv : wn.cell? ⟨hb, 1, none⟩ = some (.slice ta T.length tc) := hbk.cell 1
               have mz := hbk.frozen
               clear hown hgrow hnil hrow)
            have HE := Lib.hid (HA1.out.given HG.out HO.out HGS.out)
            go_at_call 51
            refine (narrows_yes HE.out (by omega)).mono ?_
            rintro e wf ⟨rfl, cf, Kf, hcf, hf⟩
            have HF := Lib.hid hf
            clear hf
            go_wp2_with fail
            go_ret
            exact ⟨rfl, _, cf, _, _, _, _, Kf, Nat.le_refl _, by omega, by rw [List.length_append]; exact Nat.le_refl _, HF.out⟩
          · go_wp2_with fail
            go_at_call 51
            refine (narrows_yes HA.out (by omega)).mono ?_
            rintro e wf ⟨rfl, cf, Kf, hcf, hf⟩
            have HF := Lib.hid hf
            clear hf
            go_wp2_with fail
            go_ret
            exact ⟨rfl, _, cf, _, _, _, _, Kf, Nat.le_refl _, by omega, Nat.le_succ _, HF.out⟩
      · have e1 : errV code = .iface 35 (.int .i64 code) := errV_n h00
        rw [e1]
        clear e1
        go_wp2_with fail
        go_at_call 13
        refine (tell_no code _ H6.out.aw.et).mono ?_
        rintro e w8 ⟨rfl, hb8⟩
        have H9 := Lib.hid (H6.out.keep hb8)
        have HX9 := Lib.hid (HX7.out.below' hb8)
        have HO9 := Lib.hid (HO7.out.below' hb8)
        clear hb8 H6 HX7 HO7
        go_wp2_with fail
        generalize w8 = w9 at *
        obtain ⟨x0, x1, x2, x3⟩ := tok_cells HX9.out
        go_quiet (fail)
        have hbd := below_drewN (Below.refl w9.heap.size w9) nq
        have HA := Lib.hid (H9.out.keep hbd)
        clear hbd H9 HX9 HO9 x0 x1 x2 x3 
        generalize w9.drewN nq = u at *
        rcases hge : got.toList.isEmpty with _ | _
        · obtain ⟨i0, hii, hz0, hz1, hz2⟩ := info_parts strInfo
          obtain ⟨c0, c1, c2, c3, c4⟩ := HA.out.five
          have hrow : u.ownsRow W.heap.size 9 1 (.slice ta T.length tc) T.length (T.map Value.string) := HA.out.toks
          have hWu := HA.out.aw.below.size
          have HA1 := Lib.hid (HA.out.keep ((Below.refl u.heap.size u).alloc (Nat.le_refl _) (.cells #[.string got] 9)))
          go_wp2_with
            (at_builtin; refine wpList_append_own _ rfl _ _ 48 rfl W.heap.size 9 i0 (.string ByteArray.empty) 1 16 Tryz.underlying48 hii hz0 hz1 hz2 rfl (by decide) _ _ _ rfl (hrow.alloc _) ⟨u.heap.size, 0, none⟩ 1 1 [.string got] rfl rfl (cell_one_new _ _ _) (fun x hx => by simp at hx; subst hx; rfl) (by unfold maxLen; omega) (by omega) (by simp; omega) ?_; intro v' wn hown hgrow hnil
             have HO := Lib.hid hown
             have HG := Lib.hid hgrow
             have hbk := HA1.out.blk.grown hgrow (HA1.out.toks.apart HA1.out.blk (by decide)).symm
             obtain ⟨xa, xn, xc, rfl⟩ := own_slice hown
             have mv : wn.cell? ⟨hb, 1, none⟩ = some (.slice ta T.length tc) := hbk.cell 1
             have mz := hbk.frozen
             clear hown hgrow hnil hrow)
          have HE := Lib.hid (HA1.out.given HG.out HO.out HGS.out)
          go_at_call 51
          refine (narrows_yes HE.out (by omega)).mono ?_
          rintro e wf ⟨rfl, cf, Kf, hcf, hf⟩
          have HF := Lib.hid hf
          clear hf
          go_wp2_with fail
          go_ret
          exact ⟨rfl, _, cf, _, _, _, _, Kf, Nat.le_refl _, by omega, by rw [List.length_append]; exact Nat.le_refl _, HF.out⟩
        · go_wp2_with fail
          go_at_call 51
          refine (narrows_yes HA.out (by omega)).mono ?_
          rintro e wf ⟨rfl, cf, Kf, hcf, hf⟩
          have HF := Lib.hid hf
          clear hf
          go_wp2_with fail
          go_ret
          exact ⟨rfl, _, cf, _, _, _, _, Kf, Nat.le_refl _, by omega, Nat.le_succ _, HF.out⟩
  · have hd0 : decide (0 < T.length) = true := decide_eq_true h0
    have HPK := Lib.hid (fun w => pick_n ti (T.length : Int) w (by omega) (by omega))
    have hp := pickN_in ti (n := (T.length : Int)) (by omega)
    obtain ⟨p, hpp⟩ : ∃ p : Nat, pickN ti (T.length : Int) = p := ⟨_, (Int.toNat_of_nonneg hp.1).symm⟩
    rw [hpp] at HPK hp
    obtain ⟨tt, htt⟩ : ∃ t, T[p]? = some t := ⟨_, List.getElem?_eq_getElem (by omega)⟩
    obtain ⟨tg, rfl, hcell⟩ := H0.out.toks.lit htt
    have HTT := Lib.hid (H0.out.small tt (List.mem_of_getElem? htt))
    obtain ⟨hp0, hp1⟩ := hp
    clear hpp htt
    go_enter Tryz.func16, Tryz.ntmps16
    go_wp2_with fail
    go_quiet ((go_at_call 8; exact Calls.quiet_of_same ((HPK.out _).mono fun _ _ h => ⟨h.1, h.2.symm⟩)))
    go_wp2_with fail
    have hbd : Below (w.alloc (.cells #[.int .i64 1, .int .i64 ti, .int .i64 n, .string sc] 53)).heap.size (w.alloc (.cells #[.int .i64 1, .int .i64 ti, .int .i64 n, .string sc] 53)) ((w.alloc (.cells #[.int .i64 1, .int .i64 ti, .int .i64 n, .string sc] 53)).drewN nq) := below_drewN (Below.refl _ _) nq
    have H1 := Lib.hid (H0.out.keep hbd)
    have HX1 := Lib.hid (HX0.out.below' hbd)
    clear H0 HX0 c0 c1 c2 c3 c4 x0 x1 x2 x3 hd0 h0 hcell hp0 hp1 HPK hbd
    generalize (w.alloc (.cells #[.int .i64 1, .int .i64 ti, .int .i64 n, .string sc] 53)).drewN nq = w1 at *
    generalize w.heap.size = xb at *

    have HID := Lib.hid (show tokId r tt = (tokOf r tt).2.2.1 from rfl)
    have HR2 := Lib.hid (HRD.out tt HTT.out)
    generalize tokOf r tt = tq at *
    obtain ⟨qe, qk, qf, qg, qd⟩ := tq
    dsimp only at HR2 HID
    go_at_call 48
    refine (HR2.out _ H1.out).mono ?_
    rintro e w2 ⟨rfl, hbd⟩
    have hal := (Below.refl w2.heap.size w2).alloc (Nat.le_refl _) (.cells #[.int .i64 qk, .int .i64 qf, .int .i64 qg, .int .i64 qd] 104)
    have H2 := Lib.hid ((H1.out.keep hbd).keep hal)
    have HX2 := Lib.hid ((HX1.out.below' hbd).below' hal)
    have HO2 := Lib.hid (Blk.new w2 104 #[.int .i64 qk, .int .i64 qf, .int .i64 qg, .int .i64 qd])
    have hob : W.heap.size ≤ w2.heap.size := (H1.out.keep hbd).aw.below.size
    clear hbd hal H1 HX1 HRD HR2
    obtain ⟨x0, x1, x2, x3⟩ := tok_cells HX2.out
    obtain ⟨o0, o1, o2, o3⟩ := tok_cells HO2.out
    obtain ⟨c0, c1, c2, c3, c4⟩ := H2.out.five
    go_wp2_with fail
    generalize w2.alloc (.cells #[.int .i64 qk, .int .i64 qf, .int .i64 qg, .int .i64 qd] 104) = w3 at *
    generalize w2.heap.size = ob at *

    have HRQ := Lib.hid (fun w => req_of n w)
    have HSC := Lib.hid (fun x w => scp_of x w)
    have HRT := Lib.hid (fun x w (h : HL W hb vb sb db k m1 m2 m3 c r z v (.slice (some ⟨tg, 0, none⟩) T.length tc) T K w) => h.rotate hk tt (reqF n) (scpF x) (by have := HTT.out; omega) (by have := reqF_size n; omega) (by have := scpF_size x; omega))
    have HD := H2.out.drew
    have HDX : Blk w3.drew xb 53 #[.int .i64 1, .int .i64 ti, .int .i64 n, .string sc] := HX2.out
    have HDO : Blk w3.drew ob 104 #[.int .i64 qk, .int .i64 qf, .int .i64 qg, .int .i64 qd] := HO2.out
    have HDC : w3.drew.cell? ⟨hb, 0, none⟩ = some (.pointer (some ⟨vb, 0, none⟩)) ∧ w3.drew.cell? ⟨xb, 0, none⟩ = some (.int .i64 1) ∧ w3.drew.cell? ⟨xb, 1, none⟩ = some (.int .i64 ti) ∧ w3.drew.cell? ⟨xb, 2, none⟩ = some (.int .i64 n) ∧ w3.drew.cell? ⟨xb, 3, none⟩ = some (.string sc) := ⟨HD.five.1, HDX.cell 0, HDX.cell 1, HDX.cell 2, HDX.cell 3⟩
    clear H2 HX2 HO2 x0 x1 x2 x3 o0 o1 o2 o3 c0 c1 c2 c3 c4
    go_region_held3 (fun w' => w'.cell? ⟨hb, 0, none⟩ = some (.pointer (some ⟨vb, 0, none⟩)) ∧ w'.cell? ⟨xb, 0, none⟩ = some (.int .i64 1) ∧ w'.cell? ⟨xb, 1, none⟩ = some (.int .i64 ti) ∧ w'.cell? ⟨xb, 2, none⟩ = some (.int .i64 n) ∧ w'.cell? ⟨xb, 3, none⟩ = some (.string sc))
      (first
        | with_reducible assumption
        | with_reducible exact HDC)
      (first
        | (go_at_call 50; (with_reducible refine (HRQ.out _).mono ?_); rintro x' w4 ⟨rfl, hb4⟩
           have HA4 := HD.keep hb4
           have HX4 := HDX.below' hb4
           have HO4 := HDO.below' hb4
           have hc4 : w4.cell? ⟨hb, 0, none⟩ = some (.pointer (some ⟨vb, 0, none⟩)) ∧ w4.cell? ⟨xb, 0, none⟩ = some (.int .i64 1) ∧ w4.cell? ⟨xb, 1, none⟩ = some (.int .i64 ti) ∧ w4.cell? ⟨xb, 2, none⟩ = some (.int .i64 n) ∧ w4.cell? ⟨xb, 3, none⟩ = some (.string sc) := ⟨HA4.five.1, HX4.cell 0, HX4.cell 1, HX4.cell 2, HX4.cell 3⟩)
        | (go_at_call 49; (with_reducible refine (HSC.out _ _).mono ?_); rintro x' w5 ⟨rfl, hb5⟩
           have HA5 := HA4.keep hb5
           have HX5 := HX4.below' hb5
           have HO5 := HO4.below' hb5
           have hc5 : w5.cell? ⟨hb, 0, none⟩ = some (.pointer (some ⟨vb, 0, none⟩)) ∧ w5.cell? ⟨xb, 0, none⟩ = some (.int .i64 1) ∧ w5.cell? ⟨xb, 1, none⟩ = some (.int .i64 ti) ∧ w5.cell? ⟨xb, 2, none⟩ = some (.int .i64 n) ∧ w5.cell? ⟨xb, 3, none⟩ = some (.string sc) := ⟨HA5.five.1, HX5.cell 0, HX5.cell 1, HX5.cell 2, HX5.cell 3⟩)
        | (go_at_call 11; (with_reducible refine (HRT.out _ _ HA5).mono ?_); rintro x' w6 ⟨z6, got, code, htu, rfl, ⟨v6, h6⟩, hrest⟩
           have HX6 := hrest.2 _ _ _ HX5 (by decide) (by decide)
           have HO6 := hrest.2 _ _ _ HO5 (by decide) (by decide)
           have hc6 : w6.cell? ⟨hb, 0, none⟩ = some (.pointer (some ⟨vb, 0, none⟩)) ∧ w6.cell? ⟨xb, 0, none⟩ = some (.int .i64 1) ∧ w6.cell? ⟨xb, 1, none⟩ = some (.int .i64 ti) ∧ w6.cell? ⟨xb, 2, none⟩ = some (.int .i64 n) ∧ w6.cell? ⟨xb, 3, none⟩ = some (.string sc) := ⟨h6.five.1, HX6.cell 0, HX6.cell 1, HX6.cell 2, HX6.cell 3⟩))
    have HTU := Lib.hid htu
    have HGS := Lib.hid (show got.size ≤ 100 from htu.size)
    have H6 := Lib.hid h6
    have HX7 := Lib.hid HX6
    have HO7 := Lib.hid HO6
    clear HD HDX HDO HDC hb4 HA4 HX4 HO4 hc4 hb5 HA5 HX5 HO5 hc5 htu h6 hrest HX6 HO6 hc6 HRT HSC
    by_cases h15 : code = 15
    · subst h15
      have e15 : errV 15 = .iface 35 (.int .i64 15) := errV_n (by decide)
      rw [e15]
      clear e15
      go_wp2_with fail
      go_at_call 13
      refine (tell_no 15 _ H6.out.aw.et).mono ?_
      rintro e w8 ⟨rfl, hb8⟩
      have H8 := Lib.hid (H6.out.keep (below_dr hb8))
      have HX8 := Lib.hid (HX7.out.below' (below_dr hb8))
      have HO8 := Lib.hid (HO7.out.below' (below_dr hb8))
      clear hb8 H6 HX7 HO7
      go_wp2_with fail
      obtain ⟨c0, c1, c2, c3, c4⟩ := H8.out.five
      obtain ⟨o0, o1, o2, o3⟩ := tok_cells HO8.out
      have hqf : okN qf = true := by rw [← HID.out]; exact tok_id r tt
      obtain ⟨w9, hput, hmap, hgm⟩ := H8.out.map1.put (T := 45) Tryz.underlying45 Tryz.underlying3 Tryz.underlying4 (by unfold maxLen; omega) qf (int_key qf hqf) true
      have hkn : KnOk r z6.s (K.steal qf) := H8.out.known.steal (by rw [← HID.out]; exact (HTU.out.spoilt rfl).1) (by rw [← HID.out]; exact (HTU.out.spoilt rfl).2)
      have H9 := Lib.hid (H8.out.put1 (K' := K.steal qf) hgm hmap rfl rfl hkn)
      have HX9 := Lib.hid (HX8.out.grown hgm (by simpa using (H8.out.map1.ne HX8.out).symm))
      have HO9 := Lib.hid (HO8.out.grown hgm (by simpa using (H8.out.map1.ne HO8.out).symm))
      clear hmap hgm hkn H8 HX8 HO8
      go_still_tail 6, (by kernel_rfl)
      change wpList _ _ _ _ _ w8.drew
      go_wp2_with fail
      clear hput c0 c1 c2 c3 c4 o0 o1 o2 o3
      obtain ⟨x0, x1, x2, x3⟩ := tok_cells HX9.out
      go_quiet (fail)
      have hbd := below_drewN (Below.refl w9.heap.size w9) nq
      have HA := Lib.hid (H9.out.keep hbd)
      clear hbd H9 HX9 HO9 x0 x1 x2 x3 
      generalize w9.drewN nq = u at *
      rcases hge : got.toList.isEmpty with _ | _
      · obtain ⟨i0, hii, hz0, hz1, hz2⟩ := info_parts strInfo
        obtain ⟨c0, c1, c2, c3, c4⟩ := HA.out.five
        have hrow : u.ownsRow W.heap.size 9 1 (.slice (some ⟨tg, 0, none⟩) T.length tc) T.length (T.map Value.string) := HA.out.toks
        have hWu := HA.out.aw.below.size
        have HA1 := Lib.hid (HA.out.keep ((Below.refl u.heap.size u).alloc (Nat.le_refl _) (.cells #[.string got] 9)))
        go_wp2_with
          (at_builtin; refine wpList_append_own _ rfl _ _ 48 rfl W.heap.size 9 i0 (.string ByteArray.empty) 1 16 Tryz.underlying48 hii hz0 hz1 hz2 rfl (by decide) _ _ _ rfl (hrow.alloc _) ⟨u.heap.size, 0, none⟩ 1 1 [.string got] rfl rfl (cell_one_new _ _ _) (fun x hx => by simp at hx; subst hx; rfl) (by unfold maxLen; omega) (by omega) (by simp; omega) ?_; intro v' wn hown hgrow hnil
           have HO := Lib.hid hown
           have HG := Lib.hid hgrow
           have hbk := HA1.out.blk.grown hgrow (HA1.out.toks.apart HA1.out.blk (by decide)).symm
           obtain ⟨xa, xn, xc, rfl⟩ := own_slice hown
           have mv : wn.cell? ⟨hb, 1, none⟩ = some (.slice (some ⟨tg, 0, none⟩) T.length tc) := hbk.cell 1
           have mz := hbk.frozen
           clear hown hgrow hnil hrow)
        have HE := Lib.hid (HA1.out.given HG.out HO.out HGS.out)
        go_at_call 51
        refine (narrows_yes HE.out (by omega)).mono ?_
        rintro e wf ⟨rfl, cf, Kf, hcf, hf⟩
        have HF := Lib.hid hf
        clear hf
        go_wp2_with fail
        go_ret
        exact ⟨rfl, _, cf, _, _, _, _, Kf, Nat.le_refl _, by omega, by rw [List.length_append]; exact Nat.le_refl _, HF.out⟩
      · go_wp2_with fail
        go_at_call 51
        refine (narrows_yes HA.out (by omega)).mono ?_
        rintro e wf ⟨rfl, cf, Kf, hcf, hf⟩
        have HF := Lib.hid hf
        clear hf
        go_wp2_with fail
        go_ret
        exact ⟨rfl, _, cf, _, _, _, _, Kf, Nat.le_refl _, by omega, Nat.le_succ _, HF.out⟩
    · by_cases h00 : code = 0
      · subst h00
        have e00 : errV 0 = .nilIface := errV_0
        rw [e00]
        clear e00
        go_wp2_with fail
        go_at_call 13
        refine (tell_nil _).mono ?_
        rintro e w8 ⟨rfl, rfl⟩
        obtain ⟨c0, c1, c2, c3, c4⟩ := H6.out.five
        obtain ⟨x0, x1, x2, x3⟩ := tok_cells HX7.out
        have hlk := H6.out.map3.look (T := 47) Tryz.underlying47 Tryz.underlying9 (by rfl) tt (by show (tt : ByteArray).size ≤ maxLen; have := HTT.out; unfold maxLen; omega)
        have hlk2 : (Instr.lookup 47 (.map (some m3)) (.string tt) true).run Tryz.prog w6 = .ok (.tuple #[.string ((K.taken tt).getD ByteArray.empty), .bool (K.taken tt).isSome]) w6 := hlk
        clear hlk
        rcases hq : K.taken tt with _ | pq
        · rw [hq] at hlk2
          simp only [Option.getD_none, Option.isSome_none] at hlk2
          go_wp2_with fail
          clear c0 c1 c2 c3 c4 x0 x1 x2 x3 hlk2 hq

          have HA8 := H6.out.drew
          have HX8 : Blk w6.drew xb 53 #[.int .i64 1, .int .i64 ti, .int .i64 n, .string sc] := HX7.out
          have HO8 : Blk w6.drew ob 104 #[.int .i64 qk, .int .i64 qf, .int .i64 qg, .int .i64 qd] := HO7.out
          have hc8 : w6.drew.cell? ⟨hb, 4, none⟩ = some (.map (some m3)) ∧ w6.drew.cell? ⟨xb, 2, none⟩ = some (.int .i64 n) := ⟨HA8.five.2.2.2.2, HX8.cell 2⟩
          go_region_held3 (fun w' => w'.cell? ⟨hb, 4, none⟩ = some (.map (some m3)) ∧ w'.cell? ⟨xb, 2, none⟩ = some (.int .i64 n))
            (first
              | with_reducible assumption
              | with_reducible exact hc8)
            (first
              | (go_at_call 50; (with_reducible refine (HRQ.out _).mono ?_); rintro x' wx ⟨rfl, hbx⟩
                 have HAx := HA8.keep hbx
                 have HXx := HX8.below' hbx
                 have HOx := HO8.below' hbx
                 have hcx : wx.cell? ⟨hb, 4, none⟩ = some (.map (some m3)) ∧ wx.cell? ⟨xb, 2, none⟩ = some (.int .i64 n) := ⟨HAx.five.2.2.2.2, HXx.cell 2⟩
                 obtain ⟨w9, hput, hmap, hgm⟩ := HAx.map3.put (T := 47) Tryz.underlying47 Tryz.underlying9 (by unfold maxLen; omega) tt (by show (tt : ByteArray).size ≤ maxLen; have := HTT.out; unfold maxLen; omega) (reqF n) (by have := reqF_size n; unfold maxLen; omega) (K.take tt (reqF n)).taken (by simp [Kn.take]) (fun y hy => by simp [Kn.take, hy])
                 have hput' : (Instr.mapUpdate 47 (.map (some m3)) (.string tt) (.string (reqF n))).run Tryz.prog wx = .ok () w9 := hput
                 have hkn : KnOk r z6.s (K.take tt (reqF n)) := HAx.known.take (HTU.out.next rfl) (HTU.out.mine rfl)
                 have h9 := HAx.put3 (K' := K.take tt (reqF n)) hgm hmap rfl rfl hkn
                 have hx9 := HXx.grown hgm (by simpa using (HAx.map3.ne HXx).symm)
                 have ho9 := HOx.grown hgm (by simpa using (HAx.map3.ne HOx).symm)
                 have hc9 : w9.cell? ⟨hb, 4, none⟩ = some (.map (some m3)) ∧ w9.cell? ⟨xb, 2, none⟩ = some (.int .i64 n) := ⟨h9.five.2.2.2.2, hx9.cell 2⟩))
          have H9 := Lib.hid h9
          have HX9 := Lib.hid hx9
          have HO9 := Lib.hid ho9
          clear HA8 HX8 HO8 hc8 hbx HAx HXx HOx hcx hput hput' hmap hgm hkn h9 hx9 ho9 hc9
          have hqf : okN qf = true := by rw [← HID.out]; exact tok_id r tt
          have HLV := Lib.hid (show K.stolen qf = false by rw [← HID.out]; exact HTU.out.live rfl)
          go_wp2_with fail

          obtain ⟨x0, x1, x2, x3⟩ := tok_cells HX9.out
          have hst : ∀ nn, (Instr.lookup 45 (.map (some m1)) (.int .i64 qf) false).run Tryz.prog (w9.drewN nn) = .ok (.bool false) (w9.drewN nn) := fun nn => by
            have := (show MapIB Tryz.prog 3 4 (w9.drewN nn) m1 _ _ from H9.out.map1).look (T := 45) Tryz.underlying45 Tryz.underlying3 Tryz.underlying4 (by rfl) qf (int_key qf hqf)
            rw [show (K.take tt (reqF n)).stolen qf = false from HLV.out] at this
            exact this
          obtain ⟨c0, c1, c2, c3, c4⟩ := H9.out.five
          obtain ⟨o0, o1, o2, o3⟩ := tok_cells HO9.out
          go_quiet (fail)
          have hbd := below_drewN (Below.refl w9.heap.size w9) nq
          have HA := Lib.hid (H9.out.keep hbd)
          clear hbd H9 HX9 HO9 x0 x1 x2 x3 hst c0 c1 c2 c3 c4 o0 o1 o2 o3
          generalize w9.drewN nq = u at *
          rcases hge : got.toList.isEmpty with _ | _
          · obtain ⟨i0, hii, hz0, hz1, hz2⟩ := info_parts strInfo
            obtain ⟨c0, c1, c2, c3, c4⟩ := HA.out.five
            have hrow : u.ownsRow W.heap.size 9 1 (.slice (some ⟨tg, 0, none⟩) T.length tc) T.length (T.map Value.string) := HA.out.toks
            have hWu := HA.out.aw.below.size
            have HA1 := Lib.hid (HA.out.keep ((Below.refl u.heap.size u).alloc (Nat.le_refl _) (.cells #[.string got] 9)))
            go_wp2_with
              (at_builtin; refine wpList_append_own _ rfl _ _ 48 rfl W.heap.size 9 i0 (.string ByteArray.empty) 1 16 Tryz.underlying48 hii hz0 hz1 hz2 rfl (by decide) _ _ _ rfl (hrow.alloc _) ⟨u.heap.size, 0, none⟩ 1 1 [.string got] rfl rfl (cell_one_new _ _ _) (fun x hx => by simp at hx; subst hx; rfl) (by unfold maxLen; omega) (by omega) (by simp; omega) ?_; intro v' wn hown hgrow hnil
               have HO := Lib.hid hown
               have HG := Lib.hid hgrow
               have hbk := HA1.out.blk.grown hgrow (HA1.out.toks.apart HA1.out.blk (by decide)).symm
               obtain ⟨xa, xn, xc, rfl⟩ := own_slice hown
               have mv : wn.cell? ⟨hb, 1, none⟩ = some (.slice (some ⟨tg, 0, none⟩) T.length tc) := hbk.cell 1
               have mz := hbk.frozen
               clear hown hgrow hnil hrow)
            have HE := Lib.hid (HA1.out.given HG.out HO.out HGS.out)
            go_at_call 51
            refine (narrows_yes HE.out (by omega)).mono ?_
            rintro e wf ⟨rfl, cf, Kf, hcf, hf⟩
            have HF := Lib.hid hf
            clear hf
            go_wp2_with fail
            go_ret
            exact ⟨rfl, _, cf, _, _, _, _, Kf, Nat.le_refl _, by omega, by rw [List.length_append]; exact Nat.le_refl _, HF.out⟩
          · go_wp2_with fail
            go_at_call 51
            refine (narrows_yes HA.out (by omega)).mono ?_
            rintro e wf ⟨rfl, cf, Kf, hcf, hf⟩
            have HF := Lib.hid hf
            clear hf
            go_wp2_with fail
            go_ret
            exact ⟨rfl, _, cf, _, _, _, _, Kf, Nat.le_refl _, by omega, Nat.le_succ _, HF.out⟩
        · obtain rfl := HTU.out.alone rfl pq hq
          rw [hq] at hlk2
          simp only [Option.getD_some, Option.isSome_some] at hlk2
          go_wp2_with fail
          go_at_call 50
          refine (HRQ.out _).mono ?_
          rintro x' wp ⟨rfl, hbp⟩
          have HP8 := Lib.hid (H6.out.keep hbp)
          have HXP := Lib.hid (HX7.out.below' hbp)
          have HOP := Lib.hid (HO7.out.below' hbp)
          clear hbp H6 HX7 HO7 c0 c1 c2 c3 c4 x0 x1 x2 x3 hlk2 hq
          go_wp2_with fail

          have HA8 := HP8.out.drew
          have HX8 : Blk wp.drew xb 53 #[.int .i64 1, .int .i64 ti, .int .i64 n, .string sc] := HXP.out
          have HO8 : Blk wp.drew ob 104 #[.int .i64 qk, .int .i64 qf, .int .i64 qg, .int .i64 qd] := HOP.out
          have hc8 : wp.drew.cell? ⟨hb, 4, none⟩ = some (.map (some m3)) ∧ wp.drew.cell? ⟨xb, 2, none⟩ = some (.int .i64 n) := ⟨HA8.five.2.2.2.2, HX8.cell 2⟩
          go_region_held3 (fun w' => w'.cell? ⟨hb, 4, none⟩ = some (.map (some m3)) ∧ w'.cell? ⟨xb, 2, none⟩ = some (.int .i64 n))
            (first
              | with_reducible assumption
              | with_reducible exact hc8)
            (first
              | (go_at_call 50; (with_reducible refine (HRQ.out _).mono ?_); rintro x' wx ⟨rfl, hbx⟩
                 have HAx := HA8.keep hbx
                 have HXx := HX8.below' hbx
                 have HOx := HO8.below' hbx
                 have hcx : wx.cell? ⟨hb, 4, none⟩ = some (.map (some m3)) ∧ wx.cell? ⟨xb, 2, none⟩ = some (.int .i64 n) := ⟨HAx.five.2.2.2.2, HXx.cell 2⟩
                 obtain ⟨w9, hput, hmap, hgm⟩ := HAx.map3.put (T := 47) Tryz.underlying47 Tryz.underlying9 (by unfold maxLen; omega) tt (by show (tt : ByteArray).size ≤ maxLen; have := HTT.out; unfold maxLen; omega) (reqF n) (by have := reqF_size n; unfold maxLen; omega) (K.take tt (reqF n)).taken (by simp [Kn.take]) (fun y hy => by simp [Kn.take, hy])
                 have hput' : (Instr.mapUpdate 47 (.map (some m3)) (.string tt) (.string (reqF n))).run Tryz.prog wx = .ok () w9 := hput
                 have hkn : KnOk r z6.s (K.take tt (reqF n)) := HAx.known.take (HTU.out.next rfl) (HTU.out.mine rfl)
                 have h9 := HAx.put3 (K' := K.take tt (reqF n)) hgm hmap rfl rfl hkn
                 have hx9 := HXx.grown hgm (by simpa using (HAx.map3.ne HXx).symm)
                 have ho9 := HOx.grown hgm (by simpa using (HAx.map3.ne HOx).symm)
                 have hc9 : w9.cell? ⟨hb, 4, none⟩ = some (.map (some m3)) ∧ w9.cell? ⟨xb, 2, none⟩ = some (.int .i64 n) := ⟨h9.five.2.2.2.2, hx9.cell 2⟩))
          have H9 := Lib.hid h9
          have HX9 := Lib.hid hx9
          have HO9 := Lib.hid ho9
          clear HA8 HX8 HO8 hc8 hbx HAx HXx HOx hcx hput hput' hmap hgm hkn h9 hx9 ho9 hc9
          have hqf : okN qf = true := by rw [← HID.out]; exact tok_id r tt
          have HLV := Lib.hid (show K.stolen qf = false by rw [← HID.out]; exact HTU.out.live rfl)
          go_wp2_with fail

          obtain ⟨x0, x1, x2, x3⟩ := tok_cells HX9.out
          have hst : ∀ nn, (Instr.lookup 45 (.map (some m1)) (.int .i64 qf) false).run Tryz.prog (w9.drewN nn) = .ok (.bool false) (w9.drewN nn) := fun nn => by
            have := (show MapIB Tryz.prog 3 4 (w9.drewN nn) m1 _ _ from H9.out.map1).look (T := 45) Tryz.underlying45 Tryz.underlying3 Tryz.underlying4 (by rfl) qf (int_key qf hqf)
            rw [show (K.take tt (reqF n)).stolen qf = false from HLV.out] at this
            exact this
          obtain ⟨c0, c1, c2, c3, c4⟩ := H9.out.five
          obtain ⟨o0, o1, o2, o3⟩ := tok_cells HO9.out
          go_quiet (fail)
          have hbd := below_drewN (Below.refl w9.heap.size w9) nq
          have HA := Lib.hid (H9.out.keep hbd)
          clear hbd H9 HX9 HO9 x0 x1 x2 x3 hst c0 c1 c2 c3 c4 o0 o1 o2 o3
          generalize w9.drewN nq = u at *
          rcases hge : got.toList.isEmpty with _ | _
          · obtain ⟨i0, hii, hz0, hz1, hz2⟩ := info_parts strInfo
            obtain ⟨c0, c1, c2, c3, c4⟩ := HA.out.five
            have hrow : u.ownsRow W.heap.size 9 1 (.slice (some ⟨tg, 0, none⟩) T.length tc) T.length (T.map Value.string) := HA.out.toks
            have hWu := HA.out.aw.below.size
            have HA1 := Lib.hid (HA.out.keep ((Below.refl u.heap.size u).alloc (Nat.le_refl _) (.cells #[.string got] 9)))
            go_wp2_with
              (at_builtin; refine wpList_append_own _ rfl _ _ 48 rfl W.heap.size 9 i0 (.string ByteArray.empty) 1 16 Tryz.underlying48 hii hz0 hz1 hz2 rfl (by decide) _ _ _ rfl (hrow.alloc _) ⟨u.heap.size, 0, none⟩ 1 1 [.string got] rfl rfl (cell_one_new _ _ _) (fun x hx => by simp at hx; subst hx; rfl) (by unfold maxLen; omega) (by omega) (by simp; omega) ?_; intro v' wn hown hgrow hnil
               have HO := Lib.hid hown
               have HG := Lib.hid hgrow
               have hbk := HA1.out.blk.grown hgrow (HA1.out.toks.apart HA1.out.blk (by decide)).symm
               obtain ⟨xa, xn, xc, rfl⟩ := own_slice hown
               have mv : wn.cell? ⟨hb, 1, none⟩ = some (.slice (some ⟨tg, 0, none⟩) T.length tc) := hbk.cell 1
               have mz := hbk.frozen
               clear hown hgrow hnil hrow)
            have HE := Lib.hid (HA1.out.given HG.out HO.out HGS.out)
            go_at_call 51
            refine (narrows_yes HE.out (by omega)).mono ?_
            rintro e wf ⟨rfl, cf, Kf, hcf, hf⟩
            have HF := Lib.hid hf
            clear hf
            go_wp2_with fail
            go_ret
            exact ⟨rfl, _, cf, _, _, _, _, Kf, Nat.le_refl _, by omega, by rw [List.length_append]; exact Nat.le_refl _, HF.out⟩
          · go_wp2_with fail
            go_at_call 51
            refine (narrows_yes HA.out (by omega)).mono ?_
            rintro e wf ⟨rfl, cf, Kf, hcf, hf⟩
            have HF := Lib.hid hf
            clear hf
            go_wp2_with fail
            go_ret
            exact ⟨rfl, _, cf, _, _, _, _, Kf, Nat.le_refl _, by omega, Nat.le_succ _, HF.out⟩
      · have e1 : errV code = .iface 35 (.int .i64 code) := errV_n h00
        rw [e1]
        clear e1
        go_wp2_with fail
        go_at_call 13
        refine (tell_no code _ H6.out.aw.et).mono ?_
        rintro e w8 ⟨rfl, hb8⟩
        have H9 := Lib.hid (H6.out.keep hb8)
        have HX9 := Lib.hid (HX7.out.below' hb8)
        have HO9 := Lib.hid (HO7.out.below' hb8)
        clear hb8 H6 HX7 HO7
        go_wp2_with fail
        generalize w8 = w9 at *
        obtain ⟨x0, x1, x2, x3⟩ := tok_cells HX9.out
        go_quiet (fail)
        have hbd := below_drewN (Below.refl w9.heap.size w9) nq
        have HA := Lib.hid (H9.out.keep hbd)
        clear hbd H9 HX9 HO9 x0 x1 x2 x3 
        generalize w9.drewN nq = u at *
        rcases hge : got.toList.isEmpty with _ | _
        · obtain ⟨i0, hii, hz0, hz1, hz2⟩ := info_parts strInfo
          obtain ⟨c0, c1, c2, c3, c4⟩ := HA.out.five
          have hrow : u.ownsRow W.heap.size 9 1 (.slice (some ⟨tg, 0, none⟩) T.length tc) T.length (T.map Value.string) := HA.out.toks
          have hWu := HA.out.aw.below.size
          have HA1 := Lib.hid (HA.out.keep ((Below.refl u.heap.size u).alloc (Nat.le_refl _) (.cells #[.string got] 9)))
          go_wp2_with
            (at_builtin; refine wpList_append_own _ rfl _ _ 48 rfl W.heap.size 9 i0 (.string ByteArray.empty) 1 16 Tryz.underlying48 hii hz0 hz1 hz2 rfl (by decide) _ _ _ rfl (hrow.alloc _) ⟨u.heap.size, 0, none⟩ 1 1 [.string got] rfl rfl (cell_one_new _ _ _) (fun x hx => by simp at hx; subst hx; rfl) (by unfold maxLen; omega) (by omega) (by simp; omega) ?_; intro v' wn hown hgrow hnil
             have HO := Lib.hid hown
             have HG := Lib.hid hgrow
             have hbk := HA1.out.blk.grown hgrow (HA1.out.toks.apart HA1.out.blk (by decide)).symm
             obtain ⟨xa, xn, xc, rfl⟩ := own_slice hown
             have mv : wn.cell? ⟨hb, 1, none⟩ = some (.slice (some ⟨tg, 0, none⟩) T.length tc) := hbk.cell 1
             have mz := hbk.frozen
             clear hown hgrow hnil hrow)
          have HE := Lib.hid (HA1.out.given HG.out HO.out HGS.out)
          go_at_call 51
          refine (narrows_yes HE.out (by omega)).mono ?_
          rintro e wf ⟨rfl, cf, Kf, hcf, hf⟩
          have HF := Lib.hid hf
          clear hf
          go_wp2_with fail
          go_ret
          exact ⟨rfl, _, cf, _, _, _, _, Kf, Nat.le_refl _, by omega, by rw [List.length_append]; exact Nat.le_refl _, HF.out⟩
        · go_wp2_with fail
          go_at_call 51
          refine (narrows_yes HA.out (by omega)).mono ?_
          rintro e wf ⟨rfl, cf, Kf, hcf, hf⟩
          have HF := Lib.hid hf
          clear hf
          go_wp2_with fail
          go_ret
          exact ⟨rfl, _, cf, _, _, _, _, Kf, Nat.le_refl _, by omega, Nat.le_succ _, HF.out⟩
end
end Go.Proofs.YtckohmhhcknmaaaGreatDoor
