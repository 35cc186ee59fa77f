/-
  rotorref.ReadToken where the tag may be: the walk.
-/
import Derived.Test.YtckohmhhcknmaaaGreatDoorP25
import Derived.Deep.RegionHeld3
namespace Go.Proofs.YtckohmhhcknmaaaGreatDoor
open Go.RowKit Go.Sort

structure RX (W : World) (nb : Nat) (n0 n1 n2 : Int) (w : World) : Prop where
  rk : RK W w
  arr : Blk w nb 239 #[.int .i64 n0, .int .i64 n1, .int .i64 n2]
theorem RX.keep {W w w' : World} {nb : Nat} {n0 n1 n2 : Int} (h : RX W nb n0 n1 n2 w) (hb : Below w.heap.size w w') : RX W nb n0 n1 n2 w' := ⟨h.rk.keep hb, h.arr.below' hb⟩
theorem RX.named {W w : World} {nb : Nat} {n0 n1 n2 : Int} (_h : RX W nb n0 n1 n2 w) : ∃ x, x = w := ⟨w, rfl⟩
theorem RX.drew {W w : World} {nb : Nat} {n0 n1 n2 : Int} (h : RX W nb n0 n1 n2 w) (n : Nat) : RX W nb n0 n1 n2 (w.drewN n) := h.keep (below_drewN (Below.refl _ _) n)
theorem RX.facts {W w : World} {nb : Nat} {n0 n1 n2 : Int} (h : RX W nb n0 n1 n2 w) : w.cell? ⟨nb, 0, none⟩ = some (.int .i64 n0) ∧ w.cell? ⟨nb, 1, none⟩ = some (.int .i64 n1) ∧ w.cell? ⟨nb, 2, none⟩ = some (.int .i64 n2) ∧ nb < w.heap.size :=
  ⟨h.arr.cell 0, h.arr.cell 1, h.arr.cell 2, h.arr.lt⟩
theorem keep_rx {W w w' : World} {nb tb : Nat} {n0 n1 n2 : Int} {x y z u : Value} (h0 : w.cell? ⟨tb, 0, none⟩ = some x) (h1 : w.cell? ⟨tb, 1, none⟩ = some y) (h2 : w.cell? ⟨tb, 2, none⟩ = some z) (h3 : w.cell? ⟨tb, 3, none⟩ = some u) (h : RX W nb n0 n1 n2 w) (hb : Below w.heap.size w w') :
    w'.cell? ⟨tb, 0, none⟩ = some x ∧ w'.cell? ⟨tb, 1, none⟩ = some y ∧ w'.cell? ⟨tb, 2, none⟩ = some z ∧ w'.cell? ⟨tb, 3, none⟩ = some u ∧ RX W nb n0 n1 n2 w' := by
  have hlt : tb < w.heap.size := World.block_lt_of_cell? w _ h0
  exact ⟨(hb.cell (p := ⟨tb, 0, none⟩) hlt).trans h0, (hb.cell (p := ⟨tb, 1, none⟩) hlt).trans h1, (hb.cell (p := ⟨tb, 2, none⟩) hlt).trans h2, (hb.cell (p := ⟨tb, 3, none⟩) hlt).trans h3, h.keep hb⟩
theorem right2_ok {a b c : Int} (h : rightN 2 a b c = true) : okN c = true := by
  simp [rightN] at h
  exact h.1.1
theorem keep_four {w w' : World} {tb : Nat} {x0 x1 x2 x3 : Value} (h : w.cell? ⟨tb, 0, none⟩ = some x0 ∧ w.cell? ⟨tb, 1, none⟩ = some x1 ∧ w.cell? ⟨tb, 2, none⟩ = some x2 ∧ w.cell? ⟨tb, 3, none⟩ = some x3) (hb : Below w.heap.size w w') :
    w'.cell? ⟨tb, 0, none⟩ = some x0 ∧ w'.cell? ⟨tb, 1, none⟩ = some x1 ∧ w'.cell? ⟨tb, 2, none⟩ = some x2 ∧ w'.cell? ⟨tb, 3, none⟩ = some x3 := by
  obtain ⟨h0, h1, h2, h3⟩ := h
  have hlt : tb < w.heap.size := World.block_lt_of_cell? w _ h0
  exact ⟨(hb.cell (p := ⟨tb, 0, none⟩) hlt).trans h0, (hb.cell (p := ⟨tb, 1, none⟩) hlt).trans h1, (hb.cell (p := ⟨tb, 2, none⟩) hlt).trans h2, (hb.cell (p := ⟨tb, 3, none⟩) hlt).trans h3⟩
theorem tag_q (key : Int) {T B : ByteArray} {L : List (List UInt8)} (hL : parts 46 B.data.toList = L) : (T.toList == (tagS key B).toList) = decide (T.data.toList = tagL key (glue 46 L)) := by
  rw [← hL, glue_parts, ByteArray.toList_eq, ByteArray.toList_eq]
  have : (tagS key B).data.toList = tagL key B.data.toList := by simp [tagS]
  rw [this, Bool.eq_iff_iff]
  simp
set_option maxHeartbeats 8000000 in
set_option maxRecDepth 100000 in
theorem refRead_main (key : Int) (s B T : ByteArray) (k : Nat) (W : World) (hs : s.size ≤ 1000) (h : Cut s B T k) (hb : tagB T.data.toList = true) (hm : MaxL W) (hT : Tens W) (hT2 : Tab15 W) (hv : ErrVars W) :
    Calls Tryz.prog 108 #[.int .i64 key, .string s] W (RefReadGot W (tokR (fun B => tagL key B) (parts 46 s.data.toList))) := by
  have HR := Lib.hid (RK.start hm hT hT2 hv)
  have HL := Lib.hid (fun w => Tryz.strings_LastIndexByte s 46 (by omega) w)
  rw [h.at_] at HL
  have hk := h.lt
  have hE := h.tag
  have hE2 := h.body
  have HPT := Lib.hid h.parts
  have HTB := Lib.hid hb
  have hz : T.size = s.size - (k + 1) := by rw [← hE, ByteArray.size_extract]; omega
  have hzB : B.size = k := by rw [← hE2, ByteArray.size_extract]; omega
  have hBs : B.size ≤ 1000 := by omega
  have hk0 : ¬ (k : Int) < 0 := by omega
  have hTs : T.size ≤ 1000 := by omega
  have h16 : T.size = 16 := by
    unfold tagB at hb
    rw [Bool.and_eq_true] at hb
    have := hb.1
    rw [decide_eq_true_eq, size_data] at this
    exact this
  have e16 : ((T.size : Int) != 16) = false := by simp; omega
  have ht16 : 16 ≤ T.size := by omega
  have hlen := parts_word_len 46 _ 1000 (by rw [size_data]; exact hBs : B.data.toList.length ≤ 1000)
  have HLN := Lib.hid hlen
  have hpl := parts_len 46 B.data.toList
  rw [size_data] at hpl
  have hpp := parts_pos 46 B.data.toList
  have HSP := Lib.hid (fun w (hm : MaxL w) (hw : W.heap.size + 1 ≤ w.heap.size) => split_row 46 B (W.heap.size + 1) w (by omega) hm hw)
  clear h hm hT hT2 hv hb hz h16 hzB hlen
  go_enter Tryz.func108, Tryz.ntmps108
  go_wp2_with (go_at_call 138; refine (HL.out _).mono ?_; rintro e w1 ⟨rfl, rfl⟩)
  clear hE
  go_loop [30] (fun i => HexRel T i) (fun i => 16 - (intOf i).toNat)
  case atStart => exact ⟨0, by omega, rfl, fun m _ hm => by omega⟩
  case round =>
    obtain ⟨j, hj, rfl, hno⟩ := hrel
    clear hno
    by_cases hlt : j < 16
    · have hjT : j < T.size := by omega
      have hcase := hex_case T j hjT
      rw [hex_of HTB.out j hjT] at hcase
      have HI := Lib.hid (fun w => Tryz.strings_IndexByte ⟨#[48, 49, 50, 51, 52, 53, 54, 55, 56, 57, 97, 98, 99, 100, 101, 102]⟩ (T[j].toNat : Int) w)
      generalize Lib.indexByte (⟨#[48, 49, 50, 51, 52, 53, 54, 55, 56, 57, 97, 98, 99, 100, 101, 102]⟩ : ByteArray).data.toList ((T[j].toNat : Int).toNat.toUInt8) = n at *
      have hn : 0 ≤ n := by simpa using hcase.symm
      have hn2 : ¬ n < 0 := by omega
      clear hcase
      go_wp2_with (go_at_call 148; refine (HI.out _).mono ?_; rintro e w2 ⟨rfl, rfl⟩)
      go_round
      case rel => exact ⟨j + 1, by omega, by go_num, fun m hm hmj => hex_of HTB.out m hm⟩
      case measure => simp [intOf]; omega
    · generalize hL : parts 46 B.data.toList = L at *
      have HL2 := Lib.hid hL
      clear hL
      go_wp2_with
        (go_at_call 93; refine (HSP.out _ HR.out.maxl (by simp)).mono ?_; rintro e w3 ⟨v, rfl, hr, hb⟩
         have HR3 := Lib.hid (HR.out.keep hb)
         obtain ⟨g, cap, rfl, hg1, hg2, hcap, hmax, _⟩ := hr.parts
         have HROW := Lib.hid hr
         clear hr hb)
      all_goals
        have HRN := Lib.hid (RN.start HR3.out HROW.out hg1 hg2)
        have hnb : w3.heap.size = w3.heap.size := rfl
        generalize w3.alloc (.cells #[.int .i64 0, .int .i64 0, .int .i64 0] 239) = w4 at *
        generalize w3.heap.size = nb at *
        clear HR3 HROW hnb
        go_loopw [47] (fun i w => WRel W L (.slice (some ⟨g, 0, none⟩) L.length cap) nb i w) (fun i _ => L.length - (intOf i).toNat)
        case atStart => exact ⟨0, Nat.zero_le _, rfl, HRN.out⟩
        case round =>
          obtain ⟨m, hm, rfl, hrn⟩ := hrel
          have HRN2 := Lib.hid hrn
          by_cases hml : m < L.length - 1
          · first
            | (exfalso; omega)
            | (have hc := hrn.row.cell (m + 1) (by omega)
               have hc' : wr.cell? ⟨g, 1 + m, none⟩ = some (.string (txt (L.getD (m + 1) []))) := by rw [Nat.add_comm 1 m]; exact hc
               have hcl := HLN.out (L.getD (m + 1) []) (by simp [List.getD, show m + 1 < L.length by omega])
               have hts := txt_size (L.getD (m + 1) [])
               have htd := data_txt (L.getD (m + 1) [])
               generalize hx : L.getD (m + 1) [] = x at *
               have HX := Lib.hid hx
               have HTD := Lib.hid htd
               have hxs : (txt x).size ≤ 1000000 := by omega
               clear hx htd hts
               generalize txt x = y at *
               by_cases h3 : m < 3
               · have HAT := Lib.hid (fun w (hv : ErrVars w) => atoi_some y w hxs hv)
                 have harr : ∀ w, RN W L (.slice (some ⟨g, 0, none⟩) L.length cap) nb (nums3 L m) w → w.cell? ⟨nb, m, none⟩ = some (.int .i64 0) ∧ w.frozen? ⟨nb, m, none⟩ = false ∧ nb < w.heap.size := fun w h => by
                   refine ⟨?_, h.arr.frozen m, h.arr.lt⟩
                   rw [h.arr.cell m]
                   have : m = 0 ∨ m = 1 ∨ m = 2 := by omega
                   rcases this with rfl | rfl | rfl <;> simp [nums3, numAt]
                 have HARR := Lib.hid harr
                 clear harr
                 go_wp2_with
                   (go_at_call 99; refine (HAT.out _ HRN2.out.rk.errs).mono ?_; rintro e w5 ⟨⟨ev, rfl⟩, hb5⟩
                    have HRN3 := Lib.hid (HRN2.out.keep hb5)
                    obtain ⟨q1, q2, q3⟩ := HARR.out _ HRN3.out
                    clear hb5)
                 go_roundw
                 case rel =>
                   refine ⟨m + 1, by omega, by go_num, ?_⟩
                   have h := HRN3.out.set m (.int .i64 (atoiN y.data.toList))
                   rw [HTD.out, ← HX.out, nums3_set L m h3] at h
                   rw [HTD.out, ← HX.out]
                   exact h
                 case measure => simp [intOf]; omega
               · go_wp2_with fail
                 go_roundw
                 case rel => exact ⟨m + 1, by omega, by go_num, by rw [nums3_far L m h3]; exact HRN2.out⟩
                 case measure => simp [intOf]; omega)
          · have em : m = L.length - 1 := by omega
            clear hrn
            have HTC := Lib.hid (tok_cases B L HL2.out)
            rw [← em] at HTC
            have HRX : Hid (RX W nb (numAt L m 0) (numAt L m 1) (numAt L m 2) wr) := Lib.hid ⟨HRN2.out.rk, HRN2.out.arr⟩
            clear em HRN2 HRN
            go_wp2_with fail
            generalize numAt L m 0 = n0 at *
            generalize numAt L m 1 = n1 at *
            generalize numAt L m 2 = n2 at *
            refine wp_loop_rounds 3 ?_
            rcases HTC.out with ⟨⟨hr1, hb1⟩, htok⟩ | ⟨miss1, ⟨hr2, hb2⟩, htok⟩ | ⟨miss1, miss2, htok⟩
            · rw [rounds_succ]
              obtain ⟨a0, a1, a2, lnb⟩ := HRX.out.facts
              go_wp2_with fail
              have HX1h := Lib.hid (HRX.out.keep ((Below.refl _ _).alloc (Nat.le_refl _) (.cells #[.int .i64 1, .int .i64 n0, .int .i64 n1, .int .i64 0] 127)))
              have HT1h := Lib.hid (Blk.new wr 127 #[.int .i64 1, .int .i64 n0, .int .i64 n1, .int .i64 0])
              generalize wr.alloc (.cells #[.int .i64 1, .int .i64 n0, .int .i64 n1, .int .i64 0] 127) = wa1h at *
              generalize wr.heap.size = tb1h at *
              clear a0 a1 a2 lnb
              have HW1h := Lib.hid (ref_write_yes key 1 n0 n1 0 wa1h HX1h.out.rk.tens HX1h.out.rk.tab hr1 (.inl ⟨rfl, rfl⟩))
              have HBD1h := Lib.hid (fun w (hT : Tens w) => ref_body 1 n0 n1 0 w hT hr1)
              unfold v4 at *
              go_at_call 63
              refine HW1h.out.mono ?_
              rintro e wb1h ⟨rfl, hb⟩
              have HY1h := Lib.hid (HX1h.out.keep hb)
              have HU1h := Lib.hid (HT1h.out.below' hb)
              clear hb
              go_wp2_with fail
              have hc0 := HU1h.out.cell 0
              have hc1 := HU1h.out.cell 1
              have hc2 := HU1h.out.cell 2
              have hc3 := HU1h.out.cell 3
              simp at hc0 hc1 hc2 hc3
              have hslB : ∀ w : World, (Instr.slice 9 (.string s) none (some (.int .i64 (k : Int))) none).run Tryz.prog w = .ok (.string B) w := fun w => by rw [run_slice_string_h w 9 _ Tryz.underlying9 .i64 (k : Int) (by omega) (by omega), show (k : Int).toNat = k by omega, hE2]
              have hY2 : RX W nb n0 n1 n2 wb1h.drew := HY1h.out.drew 1
              have hq1 : bodyS 1 n0 n1 0 = B := hb1
              generalize bodyS 1 n0 n1 0 = bs1h at *
              have eqb : (bs1h.toList == B.toList) = true := by rw [hq1]; simp
              clear hq1 hb1
              go_region_held3 (fun w' => w'.cell? ⟨tb1h, 0, none⟩ = some (.int .i64 1) ∧ w'.cell? ⟨tb1h, 1, none⟩ = some (.int .i64 n0) ∧ w'.cell? ⟨tb1h, 2, none⟩ = some (.int .i64 n1) ∧ w'.cell? ⟨tb1h, 3, none⟩ = some (.int .i64 0) ∧ RX W nb n0 n1 n2 w')
                (first
                  | (refine ⟨?_, ?_, ?_, ?_, hY2⟩ <;> go_keep)
                  | (go_split_ands
                     exact keep_rx (by assumption) (by assumption) (by assumption) (by assumption) (by assumption) (by assumption)))
                ((go_at_call 109; refine (HBD1h.out _ (by (go_split_ands; exact RK.tens (RX.rk (W := W) (nb := nb) (n0 := n0) (n1 := n1) (n2 := n2) (by assumption))))).mono ?_; rintro e w1 ⟨rfl, hb1⟩))
              go_split_ands
              rename_i s0 s1 s2 s3 rX
              obtain ⟨wz1h, hwz⟩ := RX.named rX
              subst hwz
              have HZ1h := Lib.hid rX
              have HZT1h := Lib.hid (And.intro s0 (And.intro s1 (And.intro s2 s3)))
              clear s0 s1 s2 s3 rX hY2 hc0 hc1 hc2 hc3
              skip
              skip
              have HTG := Lib.hid (fun w (hT : Tab15 w) => ref_tagS key B w (by omega) hT)
              have HTQ := Lib.hid (tag_q key (T := T) HL2.out)
              generalize tagS key B = TG at *
              go_wp2_with fail
              go_at_call 110
              refine (HTG.out _ HZ1h.out.rk.tab).mono ?_
              rintro e wt ⟨rfl, hbt⟩
              have HF := Lib.hid (HZ1h.out.keep hbt)
              obtain ⟨t0, t1, t2, t3⟩ := keep_four HZT1h.out hbt
              clear hbt
              obtain ⟨⟨r0, r1, r2, r3⟩, ⟨f0, f1, f2, f3⟩, lW⟩ := HF.out.rk.facts
              skip
              cases hq : (T.toList == TG.toList)
              · have HQ := Lib.hid (HTQ.out.symm.trans hq)
                go_wp2_with fail
                rw [HPT.out, tokR_app HTB.out, htok]
                simp only [of_decide_eq_false HQ.out, if_false]
                exact ref_end (four_below HF.out.rk.below _ _ _ _) (four_sets HF.out.rk.res _ _ _ _) rfl rfl rfl
              · have HQ := Lib.hid (HTQ.out.symm.trans hq)
                go_wp2_with fail
                rw [HPT.out, tokR_app HTB.out, htok]
                simp only [of_decide_eq_true HQ.out, if_true]
                exact ref_end (four_below HF.out.rk.below _ _ _ _) (four_sets HF.out.rk.res _ _ _ _) rfl rfl rfl
            · have ok2 := right2_ok hr2
              rcases miss1 with hw1 | ⟨hr1, hb1⟩
              · rw [rounds_succ]
                obtain ⟨a0, a1, a2, lnb⟩ := HRX.out.facts
                go_wp2_with fail
                have HX1w := Lib.hid (HRX.out.keep ((Below.refl _ _).alloc (Nat.le_refl _) (.cells #[.int .i64 1, .int .i64 n0, .int .i64 n1, .int .i64 0] 127)))
                have HT1w := Lib.hid (Blk.new wr 127 #[.int .i64 1, .int .i64 n0, .int .i64 n1, .int .i64 0])
                generalize wr.alloc (.cells #[.int .i64 1, .int .i64 n0, .int .i64 n1, .int .i64 0] 127) = wa1w at *
                generalize wr.heap.size = tb1w at *
                clear a0 a1 a2 lnb
                have HW1w := Lib.hid (ref_write_no key 1 n0 n1 0 wa1w hw1)
                unfold v4 at *
                go_at_call 63
                refine HW1w.out.mono ?_
                rintro e wb1w ⟨rfl, hb⟩
                have HY1w := Lib.hid (HX1w.out.keep hb)
                have HU1w := Lib.hid (HT1w.out.below' hb)
                clear hb
                go_wp2_with fail
                go_quiet (fail)
                have HZ1w := Lib.hid (HY1w.out.drew nq)
                generalize wb1w.drewN nq = wz1w at *
                go_wp2_with fail
                go_wp2_with fail
                rw [rounds_succ]
                obtain ⟨a0, a1, a2, lnb⟩ := HZ1w.out.facts
                go_wp2_with fail
                have HX2h := Lib.hid (HZ1w.out.keep ((Below.refl _ _).alloc (Nat.le_refl _) (.cells #[.int .i64 2, .int .i64 n0, .int .i64 n1, .int .i64 n2] 127)))
                have HT2h := Lib.hid (Blk.new wz1w 127 #[.int .i64 2, .int .i64 n0, .int .i64 n1, .int .i64 n2])
                generalize wz1w.alloc (.cells #[.int .i64 2, .int .i64 n0, .int .i64 n1, .int .i64 n2] 127) = wa2h at *
                generalize wz1w.heap.size = tb2h at *
                clear a0 a1 a2 lnb
                have HW2h := Lib.hid (ref_write_yes key 2 n0 n1 n2 wa2h HX2h.out.rk.tens HX2h.out.rk.tab hr2 (.inr ⟨rfl, ok2⟩))
                have HBD2h := Lib.hid (fun w (hT : Tens w) => ref_body 2 n0 n1 n2 w hT hr2)
                unfold v4 at *
                go_at_call 63
                refine HW2h.out.mono ?_
                rintro e wb2h ⟨rfl, hb⟩
                have HY2h := Lib.hid (HX2h.out.keep hb)
                have HU2h := Lib.hid (HT2h.out.below' hb)
                clear hb
                go_wp2_with fail
                have hc0 := HU2h.out.cell 0
                have hc1 := HU2h.out.cell 1
                have hc2 := HU2h.out.cell 2
                have hc3 := HU2h.out.cell 3
                simp at hc0 hc1 hc2 hc3
                have hslB : ∀ w : World, (Instr.slice 9 (.string s) none (some (.int .i64 (k : Int))) none).run Tryz.prog w = .ok (.string B) w := fun w => by rw [run_slice_string_h w 9 _ Tryz.underlying9 .i64 (k : Int) (by omega) (by omega), show (k : Int).toNat = k by omega, hE2]
                have hY2 : RX W nb n0 n1 n2 wb2h.drew := HY2h.out.drew 1
                have hq2 : bodyS 2 n0 n1 n2 = B := hb2
                generalize bodyS 2 n0 n1 n2 = bs2h at *
                have eqb : (bs2h.toList == B.toList) = true := by rw [hq2]; simp
                clear hq2 hb2
                go_region_held3 (fun w' => w'.cell? ⟨tb2h, 0, none⟩ = some (.int .i64 2) ∧ w'.cell? ⟨tb2h, 1, none⟩ = some (.int .i64 n0) ∧ w'.cell? ⟨tb2h, 2, none⟩ = some (.int .i64 n1) ∧ w'.cell? ⟨tb2h, 3, none⟩ = some (.int .i64 n2) ∧ RX W nb n0 n1 n2 w')
                  (first
                    | (refine ⟨?_, ?_, ?_, ?_, hY2⟩ <;> go_keep)
                    | (go_split_ands
                       exact keep_rx (by assumption) (by assumption) (by assumption) (by assumption) (by assumption) (by assumption)))
                  ((go_at_call 109; refine (HBD2h.out _ (by (go_split_ands; exact RK.tens (RX.rk (W := W) (nb := nb) (n0 := n0) (n1 := n1) (n2 := n2) (by assumption))))).mono ?_; rintro e w1 ⟨rfl, hb1⟩))
                go_split_ands
                rename_i s0 s1 s2 s3 rX
                obtain ⟨wz2h, hwz⟩ := RX.named rX
                subst hwz
                have HZ2h := Lib.hid rX
                have HZT2h := Lib.hid (And.intro s0 (And.intro s1 (And.intro s2 s3)))
                clear s0 s1 s2 s3 rX hY2 hc0 hc1 hc2 hc3
                skip
                have HTG := Lib.hid (fun w (hT : Tab15 w) => ref_tagS key B w (by omega) hT)
                have HTQ := Lib.hid (tag_q key (T := T) HL2.out)
                generalize tagS key B = TG at *
                go_wp2_with fail
                go_at_call 110
                refine (HTG.out _ HZ2h.out.rk.tab).mono ?_
                rintro e wt ⟨rfl, hbt⟩
                have HF := Lib.hid (HZ2h.out.keep hbt)
                obtain ⟨t0, t1, t2, t3⟩ := keep_four HZT2h.out hbt
                clear hbt
                obtain ⟨⟨r0, r1, r2, r3⟩, ⟨f0, f1, f2, f3⟩, lW⟩ := HF.out.rk.facts
                skip
                cases hq : (T.toList == TG.toList)
                · have HQ := Lib.hid (HTQ.out.symm.trans hq)
                  go_wp2_with fail
                  rw [HPT.out, tokR_app HTB.out, htok]
                  simp only [of_decide_eq_false HQ.out, if_false]
                  exact ref_end (four_below HF.out.rk.below _ _ _ _) (four_sets HF.out.rk.res _ _ _ _) rfl rfl rfl
                · have HQ := Lib.hid (HTQ.out.symm.trans hq)
                  go_wp2_with fail
                  rw [HPT.out, tokR_app HTB.out, htok]
                  simp only [of_decide_eq_true HQ.out, if_true]
                  exact ref_end (four_below HF.out.rk.below _ _ _ _) (four_sets HF.out.rk.res _ _ _ _) rfl rfl rfl
              · rw [rounds_succ]
                obtain ⟨a0, a1, a2, lnb⟩ := HRX.out.facts
                go_wp2_with fail
                have HX1r := Lib.hid (HRX.out.keep ((Below.refl _ _).alloc (Nat.le_refl _) (.cells #[.int .i64 1, .int .i64 n0, .int .i64 n1, .int .i64 0] 127)))
                have HT1r := Lib.hid (Blk.new wr 127 #[.int .i64 1, .int .i64 n0, .int .i64 n1, .int .i64 0])
                generalize wr.alloc (.cells #[.int .i64 1, .int .i64 n0, .int .i64 n1, .int .i64 0] 127) = wa1r at *
                generalize wr.heap.size = tb1r at *
                clear a0 a1 a2 lnb
                have HW1r := Lib.hid (ref_write_yes key 1 n0 n1 0 wa1r HX1r.out.rk.tens HX1r.out.rk.tab hr1 (.inl ⟨rfl, rfl⟩))
                have HBD1r := Lib.hid (fun w (hT : Tens w) => ref_body 1 n0 n1 0 w hT hr1)
                unfold v4 at *
                go_at_call 63
                refine HW1r.out.mono ?_
                rintro e wb1r ⟨rfl, hb⟩
                have HY1r := Lib.hid (HX1r.out.keep hb)
                have HU1r := Lib.hid (HT1r.out.below' hb)
                clear hb
                go_wp2_with fail
                have hc0 := HU1r.out.cell 0
                have hc1 := HU1r.out.cell 1
                have hc2 := HU1r.out.cell 2
                have hc3 := HU1r.out.cell 3
                simp at hc0 hc1 hc2 hc3
                have hslB : ∀ w : World, (Instr.slice 9 (.string s) none (some (.int .i64 (k : Int))) none).run Tryz.prog w = .ok (.string B) w := fun w => by rw [run_slice_string_h w 9 _ Tryz.underlying9 .i64 (k : Int) (by omega) (by omega), show (k : Int).toNat = k by omega, hE2]
                have hY2 : RX W nb n0 n1 n2 wb1r.drew := HY1r.out.drew 1
                have hq1 : bodyS 1 n0 n1 0 ≠ B := hb1
                generalize bodyS 1 n0 n1 0 = bs1r at *
                have eqb : (bs1r.toList == B.toList) = false := by rw [ByteArray.toList_eq, ByteArray.toList_eq]; simpa using fun h => hq1 (by rw [← txt_data bs1r, h, txt_data])
                clear hq1 hb1
                go_region_held3 (fun w' => w'.cell? ⟨tb1r, 0, none⟩ = some (.int .i64 1) ∧ w'.cell? ⟨tb1r, 1, none⟩ = some (.int .i64 n0) ∧ w'.cell? ⟨tb1r, 2, none⟩ = some (.int .i64 n1) ∧ w'.cell? ⟨tb1r, 3, none⟩ = some (.int .i64 0) ∧ RX W nb n0 n1 n2 w')
                  (first
                    | (refine ⟨?_, ?_, ?_, ?_, hY2⟩ <;> go_keep)
                    | (go_split_ands
                       exact keep_rx (by assumption) (by assumption) (by assumption) (by assumption) (by assumption) (by assumption)))
                  ((go_at_call 109; refine (HBD1r.out _ (by (go_split_ands; exact RK.tens (RX.rk (W := W) (nb := nb) (n0 := n0) (n1 := n1) (n2 := n2) (by assumption))))).mono ?_; rintro e w1 ⟨rfl, hb1⟩))
                go_split_ands
                rename_i s0 s1 s2 s3 rX
                obtain ⟨wz1r, hwz⟩ := RX.named rX
                subst hwz
                have HZ1r := Lib.hid rX
                have HZT1r := Lib.hid (And.intro s0 (And.intro s1 (And.intro s2 s3)))
                clear s0 s1 s2 s3 rX hY2 hc0 hc1 hc2 hc3
                skip
                go_wp2_with fail
                rw [rounds_succ]
                obtain ⟨a0, a1, a2, lnb⟩ := HZ1r.out.facts
                go_wp2_with fail
                have HX2h := Lib.hid (HZ1r.out.keep ((Below.refl _ _).alloc (Nat.le_refl _) (.cells #[.int .i64 2, .int .i64 n0, .int .i64 n1, .int .i64 n2] 127)))
                have HT2h := Lib.hid (Blk.new wz1r 127 #[.int .i64 2, .int .i64 n0, .int .i64 n1, .int .i64 n2])
                generalize wz1r.alloc (.cells #[.int .i64 2, .int .i64 n0, .int .i64 n1, .int .i64 n2] 127) = wa2h at *
                generalize wz1r.heap.size = tb2h at *
                clear a0 a1 a2 lnb
                have HW2h := Lib.hid (ref_write_yes key 2 n0 n1 n2 wa2h HX2h.out.rk.tens HX2h.out.rk.tab hr2 (.inr ⟨rfl, ok2⟩))
                have HBD2h := Lib.hid (fun w (hT : Tens w) => ref_body 2 n0 n1 n2 w hT hr2)
                unfold v4 at *
                go_at_call 63
                refine HW2h.out.mono ?_
                rintro e wb2h ⟨rfl, hb⟩
                have HY2h := Lib.hid (HX2h.out.keep hb)
                have HU2h := Lib.hid (HT2h.out.below' hb)
                clear hb
                go_wp2_with fail
                have hc0 := HU2h.out.cell 0
                have hc1 := HU2h.out.cell 1
                have hc2 := HU2h.out.cell 2
                have hc3 := HU2h.out.cell 3
                simp at hc0 hc1 hc2 hc3
                have hslB : ∀ w : World, (Instr.slice 9 (.string s) none (some (.int .i64 (k : Int))) none).run Tryz.prog w = .ok (.string B) w := fun w => by rw [run_slice_string_h w 9 _ Tryz.underlying9 .i64 (k : Int) (by omega) (by omega), show (k : Int).toNat = k by omega, hE2]
                have hY2 : RX W nb n0 n1 n2 wb2h.drew := HY2h.out.drew 1
                have hq2 : bodyS 2 n0 n1 n2 = B := hb2
                generalize bodyS 2 n0 n1 n2 = bs2h at *
                have eqb : (bs2h.toList == B.toList) = true := by rw [hq2]; simp
                clear hq2 hb2
                go_region_held3 (fun w' => w'.cell? ⟨tb2h, 0, none⟩ = some (.int .i64 2) ∧ w'.cell? ⟨tb2h, 1, none⟩ = some (.int .i64 n0) ∧ w'.cell? ⟨tb2h, 2, none⟩ = some (.int .i64 n1) ∧ w'.cell? ⟨tb2h, 3, none⟩ = some (.int .i64 n2) ∧ RX W nb n0 n1 n2 w')
                  (first
                    | (refine ⟨?_, ?_, ?_, ?_, hY2⟩ <;> go_keep)
                    | (go_split_ands
                       exact keep_rx (by assumption) (by assumption) (by assumption) (by assumption) (by assumption) (by assumption)))
                  ((go_at_call 109; refine (HBD2h.out _ (by (go_split_ands; exact RK.tens (RX.rk (W := W) (nb := nb) (n0 := n0) (n1 := n1) (n2 := n2) (by assumption))))).mono ?_; rintro e w1 ⟨rfl, hb1⟩))
                go_split_ands
                rename_i s0 s1 s2 s3 rX
                obtain ⟨wz2h, hwz⟩ := RX.named rX
                subst hwz
                have HZ2h := Lib.hid rX
                have HZT2h := Lib.hid (And.intro s0 (And.intro s1 (And.intro s2 s3)))
                clear s0 s1 s2 s3 rX hY2 hc0 hc1 hc2 hc3
                skip
                have HTG := Lib.hid (fun w (hT : Tab15 w) => ref_tagS key B w (by omega) hT)
                have HTQ := Lib.hid (tag_q key (T := T) HL2.out)
                generalize tagS key B = TG at *
                go_wp2_with fail
                go_at_call 110
                refine (HTG.out _ HZ2h.out.rk.tab).mono ?_
                rintro e wt ⟨rfl, hbt⟩
                have HF := Lib.hid (HZ2h.out.keep hbt)
                obtain ⟨t0, t1, t2, t3⟩ := keep_four HZT2h.out hbt
                clear hbt
                obtain ⟨⟨r0, r1, r2, r3⟩, ⟨f0, f1, f2, f3⟩, lW⟩ := HF.out.rk.facts
                skip
                cases hq : (T.toList == TG.toList)
                · have HQ := Lib.hid (HTQ.out.symm.trans hq)
                  go_wp2_with fail
                  rw [HPT.out, tokR_app HTB.out, htok]
                  simp only [of_decide_eq_false HQ.out, if_false]
                  exact ref_end (four_below HF.out.rk.below _ _ _ _) (four_sets HF.out.rk.res _ _ _ _) rfl rfl rfl
                · have HQ := Lib.hid (HTQ.out.symm.trans hq)
                  go_wp2_with fail
                  rw [HPT.out, tokR_app HTB.out, htok]
                  simp only [of_decide_eq_true HQ.out, if_true]
                  exact ref_end (four_below HF.out.rk.below _ _ _ _) (four_sets HF.out.rk.res _ _ _ _) rfl rfl rfl
            · rcases miss1 with hw1 | ⟨hr1, hb1⟩
              · rcases miss2 with hw2 | ⟨hr2, hb2⟩
                · rw [rounds_succ]
                  obtain ⟨a0, a1, a2, lnb⟩ := HRX.out.facts
                  go_wp2_with fail
                  have HX1w := Lib.hid (HRX.out.keep ((Below.refl _ _).alloc (Nat.le_refl _) (.cells #[.int .i64 1, .int .i64 n0, .int .i64 n1, .int .i64 0] 127)))
                  have HT1w := Lib.hid (Blk.new wr 127 #[.int .i64 1, .int .i64 n0, .int .i64 n1, .int .i64 0])
                  generalize wr.alloc (.cells #[.int .i64 1, .int .i64 n0, .int .i64 n1, .int .i64 0] 127) = wa1w at *
                  generalize wr.heap.size = tb1w at *
                  clear a0 a1 a2 lnb
                  have HW1w := Lib.hid (ref_write_no key 1 n0 n1 0 wa1w hw1)
                  unfold v4 at *
                  go_at_call 63
                  refine HW1w.out.mono ?_
                  rintro e wb1w ⟨rfl, hb⟩
                  have HY1w := Lib.hid (HX1w.out.keep hb)
                  have HU1w := Lib.hid (HT1w.out.below' hb)
                  clear hb
                  go_wp2_with fail
                  go_quiet (fail)
                  have HZ1w := Lib.hid (HY1w.out.drew nq)
                  generalize wb1w.drewN nq = wz1w at *
                  go_wp2_with fail
                  go_wp2_with fail
                  rw [rounds_succ]
                  obtain ⟨a0, a1, a2, lnb⟩ := HZ1w.out.facts
                  go_wp2_with fail
                  have HX2w := Lib.hid (HZ1w.out.keep ((Below.refl _ _).alloc (Nat.le_refl _) (.cells #[.int .i64 2, .int .i64 n0, .int .i64 n1, .int .i64 n2] 127)))
                  have HT2w := Lib.hid (Blk.new wz1w 127 #[.int .i64 2, .int .i64 n0, .int .i64 n1, .int .i64 n2])
                  generalize wz1w.alloc (.cells #[.int .i64 2, .int .i64 n0, .int .i64 n1, .int .i64 n2] 127) = wa2w at *
                  generalize wz1w.heap.size = tb2w at *
                  clear a0 a1 a2 lnb
                  have HW2w := Lib.hid (ref_write_no key 2 n0 n1 n2 wa2w hw2)
                  unfold v4 at *
                  go_at_call 63
                  refine HW2w.out.mono ?_
                  rintro e wb2w ⟨rfl, hb⟩
                  have HY2w := Lib.hid (HX2w.out.keep hb)
                  have HU2w := Lib.hid (HT2w.out.below' hb)
                  clear hb
                  go_wp2_with fail
                  go_quiet (fail)
                  have HZ2w := Lib.hid (HY2w.out.drew nq)
                  generalize wb2w.drewN nq = wz2w at *
                  go_wp2_with fail
                  go_wp2_with fail
                  rw [rounds_succ]
                  obtain ⟨⟨r0, r1, r2, r3⟩, ⟨f0, f1, f2, f3⟩, lW⟩ := HZ2w.out.rk.facts
                  go_wp2_with fail
                  rw [HPT.out, tokR_app HTB.out, htok]
                  exact ref_end (four_below HZ2w.out.rk.below _ _ _ _) (four_sets HZ2w.out.rk.res _ _ _ _) rfl rfl rfl
                · have ok2 := right2_ok hr2
                  rw [rounds_succ]
                  obtain ⟨a0, a1, a2, lnb⟩ := HRX.out.facts
                  go_wp2_with fail
                  have HX1w := Lib.hid (HRX.out.keep ((Below.refl _ _).alloc (Nat.le_refl _) (.cells #[.int .i64 1, .int .i64 n0, .int .i64 n1, .int .i64 0] 127)))
                  have HT1w := Lib.hid (Blk.new wr 127 #[.int .i64 1, .int .i64 n0, .int .i64 n1, .int .i64 0])
                  generalize wr.alloc (.cells #[.int .i64 1, .int .i64 n0, .int .i64 n1, .int .i64 0] 127) = wa1w at *
                  generalize wr.heap.size = tb1w at *
                  clear a0 a1 a2 lnb
                  have HW1w := Lib.hid (ref_write_no key 1 n0 n1 0 wa1w hw1)
                  unfold v4 at *
                  go_at_call 63
                  refine HW1w.out.mono ?_
                  rintro e wb1w ⟨rfl, hb⟩
                  have HY1w := Lib.hid (HX1w.out.keep hb)
                  have HU1w := Lib.hid (HT1w.out.below' hb)
                  clear hb
                  go_wp2_with fail
                  go_quiet (fail)
                  have HZ1w := Lib.hid (HY1w.out.drew nq)
                  generalize wb1w.drewN nq = wz1w at *
                  go_wp2_with fail
                  go_wp2_with fail
                  rw [rounds_succ]
                  obtain ⟨a0, a1, a2, lnb⟩ := HZ1w.out.facts
                  go_wp2_with fail
                  have HX2r := Lib.hid (HZ1w.out.keep ((Below.refl _ _).alloc (Nat.le_refl _) (.cells #[.int .i64 2, .int .i64 n0, .int .i64 n1, .int .i64 n2] 127)))
                  have HT2r := Lib.hid (Blk.new wz1w 127 #[.int .i64 2, .int .i64 n0, .int .i64 n1, .int .i64 n2])
                  generalize wz1w.alloc (.cells #[.int .i64 2, .int .i64 n0, .int .i64 n1, .int .i64 n2] 127) = wa2r at *
                  generalize wz1w.heap.size = tb2r at *
                  clear a0 a1 a2 lnb
                  have HW2r := Lib.hid (ref_write_yes key 2 n0 n1 n2 wa2r HX2r.out.rk.tens HX2r.out.rk.tab hr2 (.inr ⟨rfl, ok2⟩))
                  have HBD2r := Lib.hid (fun w (hT : Tens w) => ref_body 2 n0 n1 n2 w hT hr2)
                  unfold v4 at *
                  go_at_call 63
                  refine HW2r.out.mono ?_
                  rintro e wb2r ⟨rfl, hb⟩
                  have HY2r := Lib.hid (HX2r.out.keep hb)
                  have HU2r := Lib.hid (HT2r.out.below' hb)
                  clear hb
                  go_wp2_with fail
                  have hc0 := HU2r.out.cell 0
                  have hc1 := HU2r.out.cell 1
                  have hc2 := HU2r.out.cell 2
                  have hc3 := HU2r.out.cell 3
                  simp at hc0 hc1 hc2 hc3
                  have hslB : ∀ w : World, (Instr.slice 9 (.string s) none (some (.int .i64 (k : Int))) none).run Tryz.prog w = .ok (.string B) w := fun w => by rw [run_slice_string_h w 9 _ Tryz.underlying9 .i64 (k : Int) (by omega) (by omega), show (k : Int).toNat = k by omega, hE2]
                  have hY2 : RX W nb n0 n1 n2 wb2r.drew := HY2r.out.drew 1
                  have hq2 : bodyS 2 n0 n1 n2 ≠ B := hb2
                  generalize bodyS 2 n0 n1 n2 = bs2r at *
                  have eqb : (bs2r.toList == B.toList) = false := by rw [ByteArray.toList_eq, ByteArray.toList_eq]; simpa using fun h => hq2 (by rw [← txt_data bs2r, h, txt_data])
                  clear hq2 hb2
                  go_region_held3 (fun w' => w'.cell? ⟨tb2r, 0, none⟩ = some (.int .i64 2) ∧ w'.cell? ⟨tb2r, 1, none⟩ = some (.int .i64 n0) ∧ w'.cell? ⟨tb2r, 2, none⟩ = some (.int .i64 n1) ∧ w'.cell? ⟨tb2r, 3, none⟩ = some (.int .i64 n2) ∧ RX W nb n0 n1 n2 w')
                    (first
                      | (refine ⟨?_, ?_, ?_, ?_, hY2⟩ <;> go_keep)
                      | (go_split_ands
                         exact keep_rx (by assumption) (by assumption) (by assumption) (by assumption) (by assumption) (by assumption)))
                    ((go_at_call 109; refine (HBD2r.out _ (by (go_split_ands; exact RK.tens (RX.rk (W := W) (nb := nb) (n0 := n0) (n1 := n1) (n2 := n2) (by assumption))))).mono ?_; rintro e w1 ⟨rfl, hb1⟩))
                  go_split_ands
                  rename_i s0 s1 s2 s3 rX
                  obtain ⟨wz2r, hwz⟩ := RX.named rX
                  subst hwz
                  have HZ2r := Lib.hid rX
                  have HZT2r := Lib.hid (And.intro s0 (And.intro s1 (And.intro s2 s3)))
                  clear s0 s1 s2 s3 rX hY2 hc0 hc1 hc2 hc3
                  skip
                  go_wp2_with fail
                  rw [rounds_succ]
                  obtain ⟨⟨r0, r1, r2, r3⟩, ⟨f0, f1, f2, f3⟩, lW⟩ := HZ2r.out.rk.facts
                  go_wp2_with fail
                  rw [HPT.out, tokR_app HTB.out, htok]
                  exact ref_end (four_below HZ2r.out.rk.below _ _ _ _) (four_sets HZ2r.out.rk.res _ _ _ _) rfl rfl rfl
              · rcases miss2 with hw2 | ⟨hr2, hb2⟩
                · rw [rounds_succ]
                  obtain ⟨a0, a1, a2, lnb⟩ := HRX.out.facts
                  go_wp2_with fail
                  have HX1r := Lib.hid (HRX.out.keep ((Below.refl _ _).alloc (Nat.le_refl _) (.cells #[.int .i64 1, .int .i64 n0, .int .i64 n1, .int .i64 0] 127)))
                  have HT1r := Lib.hid (Blk.new wr 127 #[.int .i64 1, .int .i64 n0, .int .i64 n1, .int .i64 0])
                  generalize wr.alloc (.cells #[.int .i64 1, .int .i64 n0, .int .i64 n1, .int .i64 0] 127) = wa1r at *
                  generalize wr.heap.size = tb1r at *
                  clear a0 a1 a2 lnb
                  have HW1r := Lib.hid (ref_write_yes key 1 n0 n1 0 wa1r HX1r.out.rk.tens HX1r.out.rk.tab hr1 (.inl ⟨rfl, rfl⟩))
                  have HBD1r := Lib.hid (fun w (hT : Tens w) => ref_body 1 n0 n1 0 w hT hr1)
                  unfold v4 at *
                  go_at_call 63
                  refine HW1r.out.mono ?_
                  rintro e wb1r ⟨rfl, hb⟩
                  have HY1r := Lib.hid (HX1r.out.keep hb)
                  have HU1r := Lib.hid (HT1r.out.below' hb)
                  clear hb
                  go_wp2_with fail
                  have hc0 := HU1r.out.cell 0
                  have hc1 := HU1r.out.cell 1
                  have hc2 := HU1r.out.cell 2
                  have hc3 := HU1r.out.cell 3
                  simp at hc0 hc1 hc2 hc3
                  have hslB : ∀ w : World, (Instr.slice 9 (.string s) none (some (.int .i64 (k : Int))) none).run Tryz.prog w = .ok (.string B) w := fun w => by rw [run_slice_string_h w 9 _ Tryz.underlying9 .i64 (k : Int) (by omega) (by omega), show (k : Int).toNat = k by omega, hE2]
                  have hY2 : RX W nb n0 n1 n2 wb1r.drew := HY1r.out.drew 1
                  have hq1 : bodyS 1 n0 n1 0 ≠ B := hb1
                  generalize bodyS 1 n0 n1 0 = bs1r at *
                  have eqb : (bs1r.toList == B.toList) = false := by rw [ByteArray.toList_eq, ByteArray.toList_eq]; simpa using fun h => hq1 (by rw [← txt_data bs1r, h, txt_data])
                  clear hq1 hb1
                  go_region_held3 (fun w' => w'.cell? ⟨tb1r, 0, none⟩ = some (.int .i64 1) ∧ w'.cell? ⟨tb1r, 1, none⟩ = some (.int .i64 n0) ∧ w'.cell? ⟨tb1r, 2, none⟩ = some (.int .i64 n1) ∧ w'.cell? ⟨tb1r, 3, none⟩ = some (.int .i64 0) ∧ RX W nb n0 n1 n2 w')
                    (first
                      | (refine ⟨?_, ?_, ?_, ?_, hY2⟩ <;> go_keep)
                      | (go_split_ands
                         exact keep_rx (by assumption) (by assumption) (by assumption) (by assumption) (by assumption) (by assumption)))
                    ((go_at_call 109; refine (HBD1r.out _ (by (go_split_ands; exact RK.tens (RX.rk (W := W) (nb := nb) (n0 := n0) (n1 := n1) (n2 := n2) (by assumption))))).mono ?_; rintro e w1 ⟨rfl, hb1⟩))
                  go_split_ands
                  rename_i s0 s1 s2 s3 rX
                  obtain ⟨wz1r, hwz⟩ := RX.named rX
                  subst hwz
                  have HZ1r := Lib.hid rX
                  have HZT1r := Lib.hid (And.intro s0 (And.intro s1 (And.intro s2 s3)))
                  clear s0 s1 s2 s3 rX hY2 hc0 hc1 hc2 hc3
                  skip
                  go_wp2_with fail
                  rw [rounds_succ]
                  obtain ⟨a0, a1, a2, lnb⟩ := HZ1r.out.facts
                  go_wp2_with fail
                  have HX2w := Lib.hid (HZ1r.out.keep ((Below.refl _ _).alloc (Nat.le_refl _) (.cells #[.int .i64 2, .int .i64 n0, .int .i64 n1, .int .i64 n2] 127)))
                  have HT2w := Lib.hid (Blk.new wz1r 127 #[.int .i64 2, .int .i64 n0, .int .i64 n1, .int .i64 n2])
                  generalize wz1r.alloc (.cells #[.int .i64 2, .int .i64 n0, .int .i64 n1, .int .i64 n2] 127) = wa2w at *
                  generalize wz1r.heap.size = tb2w at *
                  clear a0 a1 a2 lnb
                  have HW2w := Lib.hid (ref_write_no key 2 n0 n1 n2 wa2w hw2)
                  unfold v4 at *
                  go_at_call 63
                  refine HW2w.out.mono ?_
                  rintro e wb2w ⟨rfl, hb⟩
                  have HY2w := Lib.hid (HX2w.out.keep hb)
                  have HU2w := Lib.hid (HT2w.out.below' hb)
                  clear hb
                  go_wp2_with fail
                  go_quiet (fail)
                  have HZ2w := Lib.hid (HY2w.out.drew nq)
                  generalize wb2w.drewN nq = wz2w at *
                  go_wp2_with fail
                  go_wp2_with fail
                  rw [rounds_succ]
                  obtain ⟨⟨r0, r1, r2, r3⟩, ⟨f0, f1, f2, f3⟩, lW⟩ := HZ2w.out.rk.facts
                  go_wp2_with fail
                  rw [HPT.out, tokR_app HTB.out, htok]
                  exact ref_end (four_below HZ2w.out.rk.below _ _ _ _) (four_sets HZ2w.out.rk.res _ _ _ _) rfl rfl rfl
                · have ok2 := right2_ok hr2
                  rw [rounds_succ]
                  obtain ⟨a0, a1, a2, lnb⟩ := HRX.out.facts
                  go_wp2_with fail
                  have HX1r := Lib.hid (HRX.out.keep ((Below.refl _ _).alloc (Nat.le_refl _) (.cells #[.int .i64 1, .int .i64 n0, .int .i64 n1, .int .i64 0] 127)))
                  have HT1r := Lib.hid (Blk.new wr 127 #[.int .i64 1, .int .i64 n0, .int .i64 n1, .int .i64 0])
                  generalize wr.alloc (.cells #[.int .i64 1, .int .i64 n0, .int .i64 n1, .int .i64 0] 127) = wa1r at *
                  generalize wr.heap.size = tb1r at *
                  clear a0 a1 a2 lnb
                  have HW1r := Lib.hid (ref_write_yes key 1 n0 n1 0 wa1r HX1r.out.rk.tens HX1r.out.rk.tab hr1 (.inl ⟨rfl, rfl⟩))
                  have HBD1r := Lib.hid (fun w (hT : Tens w) => ref_body 1 n0 n1 0 w hT hr1)
                  unfold v4 at *
                  go_at_call 63
                  refine HW1r.out.mono ?_
                  rintro e wb1r ⟨rfl, hb⟩
                  have HY1r := Lib.hid (HX1r.out.keep hb)
                  have HU1r := Lib.hid (HT1r.out.below' hb)
                  clear hb
                  go_wp2_with fail
                  have hc0 := HU1r.out.cell 0
                  have hc1 := HU1r.out.cell 1
                  have hc2 := HU1r.out.cell 2
                  have hc3 := HU1r.out.cell 3
                  simp at hc0 hc1 hc2 hc3
                  have hslB : ∀ w : World, (Instr.slice 9 (.string s) none (some (.int .i64 (k : Int))) none).run Tryz.prog w = .ok (.string B) w := fun w => by rw [run_slice_string_h w 9 _ Tryz.underlying9 .i64 (k : Int) (by omega) (by omega), show (k : Int).toNat = k by omega, hE2]
                  have hY2 : RX W nb n0 n1 n2 wb1r.drew := HY1r.out.drew 1
                  have hq1 : bodyS 1 n0 n1 0 ≠ B := hb1
                  generalize bodyS 1 n0 n1 0 = bs1r at *
                  have eqb : (bs1r.toList == B.toList) = false := by rw [ByteArray.toList_eq, ByteArray.toList_eq]; simpa using fun h => hq1 (by rw [← txt_data bs1r, h, txt_data])
                  clear hq1 hb1
                  go_region_held3 (fun w' => w'.cell? ⟨tb1r, 0, none⟩ = some (.int .i64 1) ∧ w'.cell? ⟨tb1r, 1, none⟩ = some (.int .i64 n0) ∧ w'.cell? ⟨tb1r, 2, none⟩ = some (.int .i64 n1) ∧ w'.cell? ⟨tb1r, 3, none⟩ = some (.int .i64 0) ∧ RX W nb n0 n1 n2 w')
                    (first
                      | (refine ⟨?_, ?_, ?_, ?_, hY2⟩ <;> go_keep)
                      | (go_split_ands
                         exact keep_rx (by assumption) (by assumption) (by assumption) (by assumption) (by assumption) (by assumption)))
                    ((go_at_call 109; refine (HBD1r.out _ (by (go_split_ands; exact RK.tens (RX.rk (W := W) (nb := nb) (n0 := n0) (n1 := n1) (n2 := n2) (by assumption))))).mono ?_; rintro e w1 ⟨rfl, hb1⟩))
                  go_split_ands
                  rename_i s0 s1 s2 s3 rX
                  obtain ⟨wz1r, hwz⟩ := RX.named rX
                  subst hwz
                  have HZ1r := Lib.hid rX
                  have HZT1r := Lib.hid (And.intro s0 (And.intro s1 (And.intro s2 s3)))
                  clear s0 s1 s2 s3 rX hY2 hc0 hc1 hc2 hc3
                  skip
                  go_wp2_with fail
                  rw [rounds_succ]
                  obtain ⟨a0, a1, a2, lnb⟩ := HZ1r.out.facts
                  go_wp2_with fail
                  have HX2r := Lib.hid (HZ1r.out.keep ((Below.refl _ _).alloc (Nat.le_refl _) (.cells #[.int .i64 2, .int .i64 n0, .int .i64 n1, .int .i64 n2] 127)))
                  have HT2r := Lib.hid (Blk.new wz1r 127 #[.int .i64 2, .int .i64 n0, .int .i64 n1, .int .i64 n2])
                  generalize wz1r.alloc (.cells #[.int .i64 2, .int .i64 n0, .int .i64 n1, .int .i64 n2] 127) = wa2r at *
                  generalize wz1r.heap.size = tb2r at *
                  clear a0 a1 a2 lnb
                  have HW2r := Lib.hid (ref_write_yes key 2 n0 n1 n2 wa2r HX2r.out.rk.tens HX2r.out.rk.tab hr2 (.inr ⟨rfl, ok2⟩))
                  have HBD2r := Lib.hid (fun w (hT : Tens w) => ref_body 2 n0 n1 n2 w hT hr2)
                  unfold v4 at *
                  go_at_call 63
                  refine HW2r.out.mono ?_
                  rintro e wb2r ⟨rfl, hb⟩
                  have HY2r := Lib.hid (HX2r.out.keep hb)
                  have HU2r := Lib.hid (HT2r.out.below' hb)
                  clear hb
                  go_wp2_with fail
                  have hc0 := HU2r.out.cell 0
                  have hc1 := HU2r.out.cell 1
                  have hc2 := HU2r.out.cell 2
                  have hc3 := HU2r.out.cell 3
                  simp at hc0 hc1 hc2 hc3
                  have hslB : ∀ w : World, (Instr.slice 9 (.string s) none (some (.int .i64 (k : Int))) none).run Tryz.prog w = .ok (.string B) w := fun w => by rw [run_slice_string_h w 9 _ Tryz.underlying9 .i64 (k : Int) (by omega) (by omega), show (k : Int).toNat = k by omega, hE2]
                  have hY2 : RX W nb n0 n1 n2 wb2r.drew := HY2r.out.drew 1
                  have hq2 : bodyS 2 n0 n1 n2 ≠ B := hb2
                  generalize bodyS 2 n0 n1 n2 = bs2r at *
                  have eqb : (bs2r.toList == B.toList) = false := by rw [ByteArray.toList_eq, ByteArray.toList_eq]; simpa using fun h => hq2 (by rw [← txt_data bs2r, h, txt_data])
                  clear hq2 hb2
                  go_region_held3 (fun w' => w'.cell? ⟨tb2r, 0, none⟩ = some (.int .i64 2) ∧ w'.cell? ⟨tb2r, 1, none⟩ = some (.int .i64 n0) ∧ w'.cell? ⟨tb2r, 2, none⟩ = some (.int .i64 n1) ∧ w'.cell? ⟨tb2r, 3, none⟩ = some (.int .i64 n2) ∧ RX W nb n0 n1 n2 w')
                    (first
                      | (refine ⟨?_, ?_, ?_, ?_, hY2⟩ <;> go_keep)
                      | (go_split_ands
                         exact keep_rx (by assumption) (by assumption) (by assumption) (by assumption) (by assumption) (by assumption)))
                    ((go_at_call 109; refine (HBD2r.out _ (by (go_split_ands; exact RK.tens (RX.rk (W := W) (nb := nb) (n0 := n0) (n1 := n1) (n2 := n2) (by assumption))))).mono ?_; rintro e w1 ⟨rfl, hb1⟩))
                  go_split_ands
                  rename_i s0 s1 s2 s3 rX
                  obtain ⟨wz2r, hwz⟩ := RX.named rX
                  subst hwz
                  have HZ2r := Lib.hid rX
                  have HZT2r := Lib.hid (And.intro s0 (And.intro s1 (And.intro s2 s3)))
                  clear s0 s1 s2 s3 rX hY2 hc0 hc1 hc2 hc3
                  skip
                  go_wp2_with fail
                  rw [rounds_succ]
                  obtain ⟨⟨r0, r1, r2, r3⟩, ⟨f0, f1, f2, f3⟩, lW⟩ := HZ2r.out.rk.facts
                  go_wp2_with fail
                  rw [HPT.out, tokR_app HTB.out, htok]
                  exact ref_end (four_below HZ2r.out.rk.below _ _ _ _) (four_sets HZ2r.out.rk.res _ _ _ _) rfl rfl rfl
end Go.Proofs.YtckohmhhcknmaaaGreatDoor

/-
  rotorref.ReadToken: the token that any text is, or what is wrong with it.
-/
namespace Go.Proofs.YtckohmhhcknmaaaGreatDoor
open Go.RowKit

theorem ref_read (key : Int) (s : ByteArray) (W : World) (hs : s.size ≤ 1000) (hm : MaxL W) (hT : Tens W) (hT2 : Tab15 W) (hv : ErrVars W) :
    Calls Tryz.prog 108 #[.int .i64 key, .string s] W (RefReadGot W (tokR (fun B => tagL key B) (parts 46 s.data.toList))) := by
  rcases cut_or s with ⟨h1, h2⟩ | ⟨B, T, k, h⟩
  · rw [h2, tokR_none (by rfl)]
    exact refRead_none key s W hs h1 hm hT hT2 hv
  · cases hb : tagB T.data.toList
    · have e : tokR (fun B => tagL key B) (parts 46 s.data.toList) = (3, 0, 0, 0, 0) := by
        rw [h.parts]
        unfold tokR
        have e1 : (parts 46 B.data.toList ++ [T.data.toList]).getLastD [] = T.data.toList := by simp
        rw [e1, hb]
        cases tokP (parts 46 B.data.toList ++ [T.data.toList]).dropLast <;> rfl
      rw [e]
      exact refRead_tag key s B T k W hs h hb hm hT hT2 hv
    · exact refRead_main key s B T k W hs h hb hm hT hT2 hv

end Go.Proofs.YtckohmhhcknmaaaGreatDoor
