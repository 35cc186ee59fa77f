/-
  The desk's commands: token.
-/
import Derived.Test.YtepjcdjpikbbjaaGreatDoorP22
import Derived.Test.YtepjcdjpikbbjaaGreatDoorP11
import Derived.Test.YtepjcdjpikbbjaaGreatDoorP24
namespace Go.Proofs.YtepjcdjpikbbjaaGreatDoor
open Go.RowKit Go.Sort

theorem index_ra (a : List UInt8) (n : Int) (hn : Lib.index [114, 97] a = n) (w : World) (hm : MaxL w) : Calls Tryz.prog 58 #[.string ⟨#[114, 97]⟩, .string (txt a)] w fun e w' => e = .returned (.int .i64 n) ∧ w = w' := by
  obtain ⟨m, hm⟩ := hm
  refine (Tryz.strings_Index ⟨#[114, 97]⟩ (txt a) m w (by decide) hm).mono ?_
  rintro e w' ⟨rfl, rfl⟩
  rw [data_txt]
  exact ⟨by rw [show (⟨#[114, 97]⟩ : ByteArray).data.toList = [114, 97] from rfl, hn], rfl⟩
section
variable {W w : World} {xb vb sb db k : Nat} {r : Ru} {z : SS} {v : Value}
set_option maxHeartbeats 16000000 in
set_option maxRecDepth 100000 in
theorem desk_token (h : DKW W xb vb sb db k r z v w) (hk : k < 1000000) (g off c : Nat) (L : List (List UInt8)) (hw : WAt w g off L) (hl : ∀ x ∈ L, x.length ≤ 5000) :
    Calls Tryz.prog 77 #[.pointer (some ⟨xb, 0, none⟩), .slice (some ⟨g, off, none⟩) L.length c] w (DkDone W w xb k (tokenD ⟨r, z⟩ L)) := by
  obtain ⟨⟩ := used3 hk hw hl
  by_cases hL : L.length = 4
  · rcases L with _ | ⟨a, _ | ⟨b, _ | ⟨c_, _ | ⟨e_, _ | ⟨_, L⟩⟩⟩⟩⟩
    · exact absurd hL (by simp)
    · exact absurd hL (by simp)
    · exact absurd hL (by simp)
    · exact absurd hL (by simp)
    · clear hL
      have HWT := Lib.hid hw
      have d0 := hw.2 0 a rfl
      have d1 := hw.2 1 b rfl
      have d2 := hw.2 2 c_ rfl
      have d3 := hw.2 3 e_ rfl
      have l0 := hl a (by simp)
      have l1 := hl b (by simp)
      have l2 := hl c_ (by simp)
      have l3 := hl e_ (by simp)
      simp only [Nat.add_zero, List.length_cons, List.length_nil, Nat.zero_add, Nat.reduceAdd] at *
      clear hw hl
      have H := Lib.hid h
      have hD : tokenD ⟨r, z⟩ [a, b, c_, e_] = (if kindN a ≠ 0 ∧ (numE b && numE c_ && numE e_) = true then (if rightN (kindN a) (atoiN b) (atoiN c_) (atoiN e_) = true then (⟨r, z⟩, tokS r.key (kindN a) (atoiN b) (atoiN c_) (atoiN e_), 0) else bad ⟨r, z⟩ 1) else bad ⟨r, z⟩ 3) := rfl
      have HDD := Lib.hid hD
      clear hD
      obtain ⟨c0, c1, c2, c3, c4, c5, c6, hlt⟩ := h.seven
      have HM := Lib.hid (must_no 3 w h.et)
      have hml := h.env.maxl
      clear h hk
      by_cases ha : a.length = 1
      · obtain ⟨x, rfl⟩ := List.length_eq_one_iff.1 ha
        clear ha
        by_cases h1 : x = 114
        · subst h1
          have hkn : kindN [114] = 1 := rfl
          have hdd := HDD.out
          rw [hkn] at hdd
          have HDK := Lib.hid hdd
          clear hdd HDD
          have HIX := Lib.hid (index_ra [114] 0 (by decide) w hml)
          clear hml hkn
          go_enter Tryz.func77, Tryz.ntmps77
          go_wp2_with fail
          go_at_call 17
          refine (words_yes _ 4 c w).mono ?_
          rintro e w0 ⟨rfl, rfl⟩
          go_wp2_with fail
          go_at_call 58
          refine HIX.out.mono ?_
          rintro x' w1 ⟨rfl, rfl⟩
          dsimp only
          go_wp2_with fail
          have HSD : Below w.heap.size w w.drew := below_dr (Below.refl w.heap.size w)
          clear c0 c1 c2 c3 c4 c5 c6 hlt d0 d1 d2 d3
          refine wp_region_tail (fun w' => Below w.heap.size w w') [] (by kernel_rfl) ?_
          refine wpAnyT_take 16 (i := 0) (v := ?v0_14) rfl (by kernel_rfl) (by kernel_rfl) (by kernel_rfl) (by kernel_rfl) (by kernel_rfl) (fun _ _ _ h => h) (by rfl) ?hy0_14 HSD ?rest0_14
          case hy0_14 => (intro w hSw; go_simp; (try with_reducible rfl))
          simp only [Act.put]
          refine wpAnyT_take 16 (i := 1) (v := ?v1_15) rfl (by kernel_rfl) (by kernel_rfl) (by kernel_rfl) (by kernel_rfl) (by kernel_rfl) (fun _ _ _ h => h) (by rfl) ?hy1_15 HSD ?rest1_15
          case hy1_15 => (intro w hSw; go_simp; (try with_reducible rfl))
          simp only [Act.put]
          refine wpAnyT_take 16 (i := 2) (v := ?v2_16) rfl (by kernel_rfl) (by kernel_rfl) (by kernel_rfl) (by kernel_rfl) (by kernel_rfl) (fun _ _ _ h => h) (by rfl) ?hy2_16 HSD ?rest2_16
          case hy2_16 => (intro w hSw; go_simp; (try with_reducible rfl))
          simp only [Act.put]
          refine wpAnyT_take 16 (i := 3) (v := ?v3_17) rfl (by kernel_rfl) (by kernel_rfl) (by kernel_rfl) (by kernel_rfl) (by kernel_rfl) (fun _ _ _ h => h) (by rfl) ?hy3_17 HSD ?rest3_17
          case hy3_17 => (intro w hSw; go_simp; (try with_reducible rfl))
          simp only [Act.put]
          refine wpAnyT_take 16 (i := 4) (v := ?v4_18) rfl (by kernel_rfl) (by kernel_rfl) (by kernel_rfl) (by kernel_rfl) (by kernel_rfl) (fun _ _ _ h => h) (by rfl) ?hy4_18 HSD ?rest4_18
          case hy4_18 => (intro w hSw; have c3 := (DKW.seven (H.out.keep hSw)).2.2.2.1; go_simp; (try with_reducible rfl))
          simp only [Act.put]
          refine wpAnyT_take 16 (i := 5) (v := ?v5_19) rfl (by kernel_rfl) (by kernel_rfl) (by kernel_rfl) (by kernel_rfl) (by kernel_rfl) (fun _ _ _ h => h) (by rfl) ?hy5_19 HSD ?rest5_19
          case hy5_19 => (intro w hSw; go_simp; (try with_reducible rfl))
          simp only [Act.put]
          refine wpAnyT_take 16 (i := 6) (v := ?v6_20) rfl (by kernel_rfl) (by kernel_rfl) (by kernel_rfl) (by kernel_rfl) (by kernel_rfl) (fun _ _ _ h => h) (by rfl) ?hy6_20 HSD ?rest6_20
          case hy6_20 => (intro w hSw; go_simp; (try with_reducible rfl))
          simp only [Act.put]
          refine wpAnyT_take 16 (i := 7) (v := ?v7_21) rfl (by kernel_rfl) (by kernel_rfl) (by kernel_rfl) (by kernel_rfl) (by kernel_rfl) (fun _ _ _ h => h) (by rfl) ?hy7_21 HSD ?rest7_21
          case hy7_21 => (intro w hSw; go_simp; (try with_reducible rfl))
          simp only [Act.put]
          refine wpAnyT_take 16 (i := 8) (v := ?v8_22) rfl (by kernel_rfl) (by kernel_rfl) (by kernel_rfl) (by kernel_rfl) (by kernel_rfl) (fun _ _ _ h => h) (by rfl) ?hy8_22 HSD ?rest8_22
          case hy8_22 => (intro w hSw; have d1 := (WAt.four (HWT.out.keep hSw)).2.1; go_simp; (try with_reducible rfl))
          simp only [Act.put]
          refine wpAnyT_take 16 (i := 10) (v := ?v10_23) rfl (by kernel_rfl) (by kernel_rfl) (by kernel_rfl) (by kernel_rfl) (by kernel_rfl) (fun _ _ _ h => h) (by rfl) ?hy10_23 HSD ?rest10_23
          case hy10_23 => (intro w hSw; go_simp; (try with_reducible rfl))
          simp only [Act.put]
          refine wpAnyT_take 16 (i := 11) (v := ?v11_24) rfl (by kernel_rfl) (by kernel_rfl) (by kernel_rfl) (by kernel_rfl) (by kernel_rfl) (fun _ _ _ h => h) (by rfl) ?hy11_24 HSD ?rest11_24
          case hy11_24 => (intro w hSw; go_simp; (try with_reducible rfl))
          simp only [Act.put]
          refine wpAnyT_take 16 (i := 12) (v := ?v12_25) rfl (by kernel_rfl) (by kernel_rfl) (by kernel_rfl) (by kernel_rfl) (by kernel_rfl) (fun _ _ _ h => h) (by rfl) ?hy12_25 HSD ?rest12_25
          case hy12_25 => (intro w hSw; have d2 := (WAt.four (HWT.out.keep hSw)).2.2.1; go_simp; (try with_reducible rfl))
          simp only [Act.put]
          refine wpAnyT_take 16 (i := 14) (v := ?v14_26) rfl (by kernel_rfl) (by kernel_rfl) (by kernel_rfl) (by kernel_rfl) (by kernel_rfl) (fun _ _ _ h => h) (by rfl) ?hy14_26 HSD ?rest14_26
          case hy14_26 => (intro w hSw; go_simp; (try with_reducible rfl))
          simp only [Act.put]
          refine wpAnyT_take 16 (i := 15) (v := ?v15_27) rfl (by kernel_rfl) (by kernel_rfl) (by kernel_rfl) (by kernel_rfl) (by kernel_rfl) (fun _ _ _ h => h) (by rfl) ?hy15_27 HSD ?rest15_27
          case hy15_27 => (intro w hSw; go_simp; (try with_reducible rfl))
          simp only [Act.put]
          refine wpAnyT_take 16 (i := 16) (v := ?v16_28) rfl (by kernel_rfl) (by kernel_rfl) (by kernel_rfl) (by kernel_rfl) (by kernel_rfl) (fun _ _ _ h => h) (by rfl) ?hy16_28 HSD ?rest16_28
          case hy16_28 => (intro w hSw; have d3 := (WAt.four (HWT.out.keep hSw)).2.2.2; go_simp; (try with_reducible rfl))
          simp only [Act.put]
          refine wpAnyT_one (i := 9) (by kernel_rfl) rfl ?_
          intro K9 hK9
          go_simp
          go_at_call 18
          rcases hn1 : numE b with _ | _
          · refine (dnum_no (txt b) _ (by rw [txt_size]; omega) (H.out.keep HSD).env.tens (H.out.keep HSD).env.errs (H.out.keep HSD).et (H.out.keep HSD).elt (by rw [data_txt]; exact hn1)).mono ?_
            rintro x' w2 ⟨rfl, hb⟩
            dsimp only
            have hno : ¬ ((1 : Int) ≠ 0 ∧ (numE b && numE c_ && numE e_) = true) := by simp [hn1]
            rw [HDK.out, if_neg hno]
            exact ⟨rfl, H.out.thrown (below_2 HSD hb) (by decide)⟩
          have hy1 := dnum_yes (txt b) _ (by rw [txt_size]; omega) (H.out.keep HSD).env.tens (by rw [data_txt]; exact hn1)
          rw [data_txt] at hy1
          refine hy1.mono ?_
          rintro x' w3 ⟨rfl, hb1⟩
          dsimp only
          have hB1 := below_2 HSD hb1
          clear hy1
          refine hK9.out _ _ (fun _ => hB1) ?_
          try simp only [Act.put]
          refine wpAnyT_one (i := 13) (by kernel_rfl) rfl ?_
          intro K13 hK13
          go_simp
          go_at_call 18
          rcases hn2 : numE c_ with _ | _
          · refine (dnum_no (txt c_) _ (by rw [txt_size]; omega) (H.out.keep hB1).env.tens (H.out.keep hB1).env.errs (H.out.keep hB1).et (H.out.keep hB1).elt (by rw [data_txt]; exact hn2)).mono ?_
            rintro x' w2 ⟨rfl, hb⟩
            dsimp only
            have hno : ¬ ((1 : Int) ≠ 0 ∧ (numE b && numE c_ && numE e_) = true) := by simp [hn2]
            rw [HDK.out, if_neg hno]
            exact ⟨rfl, H.out.thrown (below_2 hB1 hb) (by decide)⟩
          have hy2 := dnum_yes (txt c_) _ (by rw [txt_size]; omega) (H.out.keep hB1).env.tens (by rw [data_txt]; exact hn2)
          rw [data_txt] at hy2
          refine hy2.mono ?_
          rintro x' w4 ⟨rfl, hb2⟩
          dsimp only
          have hB2 := below_2 hB1 hb2
          clear hy2
          refine hK13.out _ _ (fun _ => hB2) ?_
          try simp only [Act.put]
          refine wpAnyT_one (i := 17) (by kernel_rfl) rfl ?_
          intro K17 hK17
          go_simp
          go_at_call 18
          rcases hn3 : numE e_ with _ | _
          · refine (dnum_no (txt e_) _ (by rw [txt_size]; omega) (H.out.keep hB2).env.tens (H.out.keep hB2).env.errs (H.out.keep hB2).et (H.out.keep hB2).elt (by rw [data_txt]; exact hn3)).mono ?_
            rintro x' w2 ⟨rfl, hb⟩
            dsimp only
            have hno : ¬ ((1 : Int) ≠ 0 ∧ (numE b && numE c_ && numE e_) = true) := by simp [hn3]
            rw [HDK.out, if_neg hno]
            exact ⟨rfl, H.out.thrown (below_2 hB2 hb) (by decide)⟩
          have hy3 := dnum_yes (txt e_) _ (by rw [txt_size]; omega) (H.out.keep hB2).env.tens (by rw [data_txt]; exact hn3)
          rw [data_txt] at hy3
          refine hy3.mono ?_
          rintro x' w5 ⟨rfl, hb3⟩
          dsimp only
          have hB3 := below_2 hB2 hb3
          clear hy3
          refine hK17.out _ _ (fun _ => hB3) ?_
          try simp only [Act.put]
          refine wpAnyT_take 16 (i := 18) (v := ?v18_29) rfl (by kernel_rfl) (by kernel_rfl) (by kernel_rfl) (by kernel_rfl) (by kernel_rfl) (fun _ _ _ h => h) (by rfl) ?hy18_29 hB3 ?rest18_29
          case hy18_29 => (intro w hSw; go_simp; (try with_reducible rfl))
          simp only [Act.put]
          have hyes : (1 : Int) ≠ 0 ∧ (numE b && numE c_ && numE e_) = true := ⟨by decide, by rw [hn1, hn2, hn3]; rfl⟩
          have HY := Lib.hid hyes
          clear hyes
          rcases hr : rightN 1 (atoiN b) (atoiN c_) (atoiN e_) with _ | _
          · have HR := Lib.hid hr
            have HTW := Lib.hid (token_write_no r.key 1 (atoiN b) (atoiN c_) (atoiN e_) w5 hr)
            clear hr
            unfold v4 at HTW
            rw [errV_n (show (1 : Int) ≠ 0 by decide)] at HTW
            refine wpAnyT_one (i := 19) (by kernel_rfl) rfl ?_
            intro K19 hK19
            go_simp
            go_at_call 136
            refine HTW.out.mono ?_
            rintro x' w7 ⟨rfl, hb7⟩
            dsimp only
            have hB7 := below_2 hB3 hb7
            have HB7 := Lib.hid hB7
            refine hK19.out _ _ (fun _ => hB7) ?_
            try simp only [Act.put]
            refine wpAnyT_take 16 (i := 20) (v := ?v20_30) rfl (by kernel_rfl) (by kernel_rfl) (by kernel_rfl) (by kernel_rfl) (by kernel_rfl) (fun _ _ _ h => h) (by rfl) ?hy20_30 hB7 ?rest20_30
            case hy20_30 => (intro w hSw; go_simp; (try with_reducible rfl))
            simp only [Act.put]
            refine wpAnyT_take 16 (i := 21) (v := ?v21_31) rfl (by kernel_rfl) (by kernel_rfl) (by kernel_rfl) (by kernel_rfl) (by kernel_rfl) (fun _ _ _ h => h) (by rfl) ?hy21_31 hB7 ?rest21_31
            case hy21_31 => (intro w hSw; go_simp; (try with_reducible rfl))
            simp only [Act.put]
            refine wpAnyT_take 16 (i := 22) (v := ?v22_32) rfl (by kernel_rfl) (by kernel_rfl) (by kernel_rfl) (by kernel_rfl) (by kernel_rfl) (fun _ _ _ h => h) (by rfl) ?hy22_32 hB7 ?rest22_32
            case hy22_32 => (intro w hSw; go_simp; (try with_reducible rfl))
            simp only [Act.put]
            refine wpAnyT_take 16 (i := 23) (v := ?v23_33) rfl (by kernel_rfl) (by kernel_rfl) (by kernel_rfl) (by kernel_rfl) (by kernel_rfl) (fun _ _ _ h => h) (by rfl) ?hy23_33 hB7 ?rest23_33
            case hy23_33 => (intro w hSw; go_simp; (try with_reducible rfl))
            simp only [Act.put]
            refine wpAnyT_take 16 (i := 24) (v := ?v24_34) rfl (by kernel_rfl) (by kernel_rfl) (by kernel_rfl) (by kernel_rfl) (by kernel_rfl) (fun _ _ _ h => h) (by rfl) ?hy24_34 hB7 ?rest24_34
            case hy24_34 => (intro w hSw; go_simp; (try with_reducible rfl))
            simp only [Act.put]
            refine wpAnyT_done (by kernel_rfl) ?_ _
            clear hB7 hb7 HTW
            go_wp2_with fail
            go_at_call 20
            refine (must_no 1 _ (H.out.keep HB7.out).et).mono ?_
            rintro x' w8 ⟨rfl, hb⟩
            dsimp only
            rw [HDK.out, if_pos HY.out, if_neg (by rw [HR.out]; decide)]
            exact ⟨rfl, H.out.thrown (below_2 HB7.out hb) (by decide)⟩
          · have HR := Lib.hid hr
            have HTW := Lib.hid (token_write_yes r.key 1 (atoiN b) (atoiN c_) (atoiN e_) w5 (H.out.keep hB3).env.tens hr)
            clear hr
            unfold v4 at HTW
            refine wpAnyT_one (i := 19) (by kernel_rfl) rfl ?_
            intro K19 hK19
            go_simp
            go_at_call 136
            refine HTW.out.mono ?_
            rintro x' w7 ⟨rfl, hb7⟩
            dsimp only
            have hB7 := below_2 hB3 hb7
            have HB7 := Lib.hid hB7
            refine hK19.out _ _ (fun _ => hB7) ?_
            try simp only [Act.put]
            refine wpAnyT_take 16 (i := 20) (v := ?v20_35) rfl (by kernel_rfl) (by kernel_rfl) (by kernel_rfl) (by kernel_rfl) (by kernel_rfl) (fun _ _ _ h => h) (by rfl) ?hy20_35 hB7 ?rest20_35
            case hy20_35 => (intro w hSw; go_simp; (try with_reducible rfl))
            simp only [Act.put]
            refine wpAnyT_take 16 (i := 21) (v := ?v21_36) rfl (by kernel_rfl) (by kernel_rfl) (by kernel_rfl) (by kernel_rfl) (by kernel_rfl) (fun _ _ _ h => h) (by rfl) ?hy21_36 hB7 ?rest21_36
            case hy21_36 => (intro w hSw; go_simp; (try with_reducible rfl))
            simp only [Act.put]
            refine wpAnyT_take 16 (i := 22) (v := ?v22_37) rfl (by kernel_rfl) (by kernel_rfl) (by kernel_rfl) (by kernel_rfl) (by kernel_rfl) (fun _ _ _ h => h) (by rfl) ?hy22_37 hB7 ?rest22_37
            case hy22_37 => (intro w hSw; go_simp; (try with_reducible rfl))
            simp only [Act.put]
            refine wpAnyT_take 16 (i := 23) (v := ?v23_38) rfl (by kernel_rfl) (by kernel_rfl) (by kernel_rfl) (by kernel_rfl) (by kernel_rfl) (fun _ _ _ h => h) (by rfl) ?hy23_38 hB7 ?rest23_38
            case hy23_38 => (intro w hSw; go_simp; (try with_reducible rfl))
            simp only [Act.put]
            refine wpAnyT_take 16 (i := 24) (v := ?v24_39) rfl (by kernel_rfl) (by kernel_rfl) (by kernel_rfl) (by kernel_rfl) (by kernel_rfl) (fun _ _ _ h => h) (by rfl) ?hy24_39 hB7 ?rest24_39
            case hy24_39 => (intro w hSw; go_simp; (try with_reducible rfl))
            simp only [Act.put]
            refine wpAnyT_done (by kernel_rfl) ?_ _
            clear hB7 hb7 HTW
            go_wp2_with fail
            go_at_call 20
            refine (must_nil _).mono ?_
            rintro x' w8 ⟨rfl, rfl⟩
            dsimp only
            go_wp2_with fail
            go_ret
            rw [HDK.out, if_pos HY.out, if_pos HR.out]
            exact H.out.told HB7.out _
        · by_cases h2 : x = 97
          · subst h2
            have hkn : kindN [97] = 2 := rfl
            have hdd := HDD.out
            rw [hkn] at hdd
            have HDK := Lib.hid hdd
            clear hdd HDD
            have HIX := Lib.hid (index_ra [97] 1 (by decide) w hml)
            clear hml hkn
            go_enter Tryz.func77, Tryz.ntmps77
            go_wp2_with fail
            go_at_call 17
            refine (words_yes _ 4 c w).mono ?_
            rintro e w0 ⟨rfl, rfl⟩
            go_wp2_with fail
            go_at_call 58
            refine HIX.out.mono ?_
            rintro x' w1 ⟨rfl, rfl⟩
            dsimp only
            go_wp2_with fail
            have HSD : Below w.heap.size w w.drew := below_dr (Below.refl w.heap.size w)
            clear c0 c1 c2 c3 c4 c5 c6 hlt d0 d1 d2 d3
            refine wp_region_tail (fun w' => Below w.heap.size w w') [] (by kernel_rfl) ?_
            refine wpAnyT_take 16 (i := 0) (v := ?v0_40) rfl (by kernel_rfl) (by kernel_rfl) (by kernel_rfl) (by kernel_rfl) (by kernel_rfl) (fun _ _ _ h => h) (by rfl) ?hy0_40 HSD ?rest0_40
            case hy0_40 => (intro w hSw; go_simp; (try with_reducible rfl))
            simp only [Act.put]
            refine wpAnyT_take 16 (i := 1) (v := ?v1_41) rfl (by kernel_rfl) (by kernel_rfl) (by kernel_rfl) (by kernel_rfl) (by kernel_rfl) (fun _ _ _ h => h) (by rfl) ?hy1_41 HSD ?rest1_41
            case hy1_41 => (intro w hSw; go_simp; (try with_reducible rfl))
            simp only [Act.put]
            refine wpAnyT_take 16 (i := 2) (v := ?v2_42) rfl (by kernel_rfl) (by kernel_rfl) (by kernel_rfl) (by kernel_rfl) (by kernel_rfl) (fun _ _ _ h => h) (by rfl) ?hy2_42 HSD ?rest2_42
            case hy2_42 => (intro w hSw; go_simp; (try with_reducible rfl))
            simp only [Act.put]
            refine wpAnyT_take 16 (i := 3) (v := ?v3_43) rfl (by kernel_rfl) (by kernel_rfl) (by kernel_rfl) (by kernel_rfl) (by kernel_rfl) (fun _ _ _ h => h) (by rfl) ?hy3_43 HSD ?rest3_43
            case hy3_43 => (intro w hSw; go_simp; (try with_reducible rfl))
            simp only [Act.put]
            refine wpAnyT_take 16 (i := 4) (v := ?v4_44) rfl (by kernel_rfl) (by kernel_rfl) (by kernel_rfl) (by kernel_rfl) (by kernel_rfl) (fun _ _ _ h => h) (by rfl) ?hy4_44 HSD ?rest4_44
            case hy4_44 => (intro w hSw; have c3 := (DKW.seven (H.out.keep hSw)).2.2.2.1; go_simp; (try with_reducible rfl))
            simp only [Act.put]
            refine wpAnyT_take 16 (i := 5) (v := ?v5_45) rfl (by kernel_rfl) (by kernel_rfl) (by kernel_rfl) (by kernel_rfl) (by kernel_rfl) (fun _ _ _ h => h) (by rfl) ?hy5_45 HSD ?rest5_45
            case hy5_45 => (intro w hSw; go_simp; (try with_reducible rfl))
            simp only [Act.put]
            refine wpAnyT_take 16 (i := 6) (v := ?v6_46) rfl (by kernel_rfl) (by kernel_rfl) (by kernel_rfl) (by kernel_rfl) (by kernel_rfl) (fun _ _ _ h => h) (by rfl) ?hy6_46 HSD ?rest6_46
            case hy6_46 => (intro w hSw; go_simp; (try with_reducible rfl))
            simp only [Act.put]
            refine wpAnyT_take 16 (i := 7) (v := ?v7_47) rfl (by kernel_rfl) (by kernel_rfl) (by kernel_rfl) (by kernel_rfl) (by kernel_rfl) (fun _ _ _ h => h) (by rfl) ?hy7_47 HSD ?rest7_47
            case hy7_47 => (intro w hSw; go_simp; (try with_reducible rfl))
            simp only [Act.put]
            refine wpAnyT_take 16 (i := 8) (v := ?v8_48) rfl (by kernel_rfl) (by kernel_rfl) (by kernel_rfl) (by kernel_rfl) (by kernel_rfl) (fun _ _ _ h => h) (by rfl) ?hy8_48 HSD ?rest8_48
            case hy8_48 => (intro w hSw; have d1 := (WAt.four (HWT.out.keep hSw)).2.1; go_simp; (try with_reducible rfl))
            simp only [Act.put]
            refine wpAnyT_take 16 (i := 10) (v := ?v10_49) rfl (by kernel_rfl) (by kernel_rfl) (by kernel_rfl) (by kernel_rfl) (by kernel_rfl) (fun _ _ _ h => h) (by rfl) ?hy10_49 HSD ?rest10_49
            case hy10_49 => (intro w hSw; go_simp; (try with_reducible rfl))
            simp only [Act.put]
            refine wpAnyT_take 16 (i := 11) (v := ?v11_50) rfl (by kernel_rfl) (by kernel_rfl) (by kernel_rfl) (by kernel_rfl) (by kernel_rfl) (fun _ _ _ h => h) (by rfl) ?hy11_50 HSD ?rest11_50
            case hy11_50 => (intro w hSw; go_simp; (try with_reducible rfl))
            simp only [Act.put]
            refine wpAnyT_take 16 (i := 12) (v := ?v12_51) rfl (by kernel_rfl) (by kernel_rfl) (by kernel_rfl) (by kernel_rfl) (by kernel_rfl) (fun _ _ _ h => h) (by rfl) ?hy12_51 HSD ?rest12_51
            case hy12_51 => (intro w hSw; have d2 := (WAt.four (HWT.out.keep hSw)).2.2.1; go_simp; (try with_reducible rfl))
            simp only [Act.put]
            refine wpAnyT_take 16 (i := 14) (v := ?v14_52) rfl (by kernel_rfl) (by kernel_rfl) (by kernel_rfl) (by kernel_rfl) (by kernel_rfl) (fun _ _ _ h => h) (by rfl) ?hy14_52 HSD ?rest14_52
            case hy14_52 => (intro w hSw; go_simp; (try with_reducible rfl))
            simp only [Act.put]
            refine wpAnyT_take 16 (i := 15) (v := ?v15_53) rfl (by kernel_rfl) (by kernel_rfl) (by kernel_rfl) (by kernel_rfl) (by kernel_rfl) (fun _ _ _ h => h) (by rfl) ?hy15_53 HSD ?rest15_53
            case hy15_53 => (intro w hSw; go_simp; (try with_reducible rfl))
            simp only [Act.put]
            refine wpAnyT_take 16 (i := 16) (v := ?v16_54) rfl (by kernel_rfl) (by kernel_rfl) (by kernel_rfl) (by kernel_rfl) (by kernel_rfl) (fun _ _ _ h => h) (by rfl) ?hy16_54 HSD ?rest16_54
            case hy16_54 => (intro w hSw; have d3 := (WAt.four (HWT.out.keep hSw)).2.2.2; go_simp; (try with_reducible rfl))
            simp only [Act.put]
            refine wpAnyT_one (i := 9) (by kernel_rfl) rfl ?_
            intro K9 hK9
            go_simp
            go_at_call 18
            rcases hn1 : numE b with _ | _
            · refine (dnum_no (txt b) _ (by rw [txt_size]; omega) (H.out.keep HSD).env.tens (H.out.keep HSD).env.errs (H.out.keep HSD).et (H.out.keep HSD).elt (by rw [data_txt]; exact hn1)).mono ?_
              rintro x' w2 ⟨rfl, hb⟩
              dsimp only
              have hno : ¬ ((2 : Int) ≠ 0 ∧ (numE b && numE c_ && numE e_) = true) := by simp [hn1]
              rw [HDK.out, if_neg hno]
              exact ⟨rfl, H.out.thrown (below_2 HSD hb) (by decide)⟩
            have hy1 := dnum_yes (txt b) _ (by rw [txt_size]; omega) (H.out.keep HSD).env.tens (by rw [data_txt]; exact hn1)
            rw [data_txt] at hy1
            refine hy1.mono ?_
            rintro x' w3 ⟨rfl, hb1⟩
            dsimp only
            have hB1 := below_2 HSD hb1
            clear hy1
            refine hK9.out _ _ (fun _ => hB1) ?_
            try simp only [Act.put]
            refine wpAnyT_one (i := 13) (by kernel_rfl) rfl ?_
            intro K13 hK13
            go_simp
            go_at_call 18
            rcases hn2 : numE c_ with _ | _
            · refine (dnum_no (txt c_) _ (by rw [txt_size]; omega) (H.out.keep hB1).env.tens (H.out.keep hB1).env.errs (H.out.keep hB1).et (H.out.keep hB1).elt (by rw [data_txt]; exact hn2)).mono ?_
              rintro x' w2 ⟨rfl, hb⟩
              dsimp only
              have hno : ¬ ((2 : Int) ≠ 0 ∧ (numE b && numE c_ && numE e_) = true) := by simp [hn2]
              rw [HDK.out, if_neg hno]
              exact ⟨rfl, H.out.thrown (below_2 hB1 hb) (by decide)⟩
            have hy2 := dnum_yes (txt c_) _ (by rw [txt_size]; omega) (H.out.keep hB1).env.tens (by rw [data_txt]; exact hn2)
            rw [data_txt] at hy2
            refine hy2.mono ?_
            rintro x' w4 ⟨rfl, hb2⟩
            dsimp only
            have hB2 := below_2 hB1 hb2
            clear hy2
            refine hK13.out _ _ (fun _ => hB2) ?_
            try simp only [Act.put]
            refine wpAnyT_one (i := 17) (by kernel_rfl) rfl ?_
            intro K17 hK17
            go_simp
            go_at_call 18
            rcases hn3 : numE e_ with _ | _
            · refine (dnum_no (txt e_) _ (by rw [txt_size]; omega) (H.out.keep hB2).env.tens (H.out.keep hB2).env.errs (H.out.keep hB2).et (H.out.keep hB2).elt (by rw [data_txt]; exact hn3)).mono ?_
              rintro x' w2 ⟨rfl, hb⟩
              dsimp only
              have hno : ¬ ((2 : Int) ≠ 0 ∧ (numE b && numE c_ && numE e_) = true) := by simp [hn3]
              rw [HDK.out, if_neg hno]
              exact ⟨rfl, H.out.thrown (below_2 hB2 hb) (by decide)⟩
            have hy3 := dnum_yes (txt e_) _ (by rw [txt_size]; omega) (H.out.keep hB2).env.tens (by rw [data_txt]; exact hn3)
            rw [data_txt] at hy3
            refine hy3.mono ?_
            rintro x' w5 ⟨rfl, hb3⟩
            dsimp only
            have hB3 := below_2 hB2 hb3
            clear hy3
            refine hK17.out _ _ (fun _ => hB3) ?_
            try simp only [Act.put]
            refine wpAnyT_take 16 (i := 18) (v := ?v18_55) rfl (by kernel_rfl) (by kernel_rfl) (by kernel_rfl) (by kernel_rfl) (by kernel_rfl) (fun _ _ _ h => h) (by rfl) ?hy18_55 hB3 ?rest18_55
            case hy18_55 => (intro w hSw; go_simp; (try with_reducible rfl))
            simp only [Act.put]
            have hyes : (2 : Int) ≠ 0 ∧ (numE b && numE c_ && numE e_) = true := ⟨by decide, by rw [hn1, hn2, hn3]; rfl⟩
            have HY := Lib.hid hyes
            clear hyes
            rcases hr : rightN 2 (atoiN b) (atoiN c_) (atoiN e_) with _ | _
            · have HR := Lib.hid hr
              have HTW := Lib.hid (token_write_no r.key 2 (atoiN b) (atoiN c_) (atoiN e_) w5 hr)
              clear hr
              unfold v4 at HTW
              rw [errV_n (show (1 : Int) ≠ 0 by decide)] at HTW
              refine wpAnyT_one (i := 19) (by kernel_rfl) rfl ?_
              intro K19 hK19
              go_simp
              go_at_call 136
              refine HTW.out.mono ?_
              rintro x' w7 ⟨rfl, hb7⟩
              dsimp only
              have hB7 := below_2 hB3 hb7
              have HB7 := Lib.hid hB7
              refine hK19.out _ _ (fun _ => hB7) ?_
              try simp only [Act.put]
              refine wpAnyT_take 16 (i := 20) (v := ?v20_56) rfl (by kernel_rfl) (by kernel_rfl) (by kernel_rfl) (by kernel_rfl) (by kernel_rfl) (fun _ _ _ h => h) (by rfl) ?hy20_56 hB7 ?rest20_56
              case hy20_56 => (intro w hSw; go_simp; (try with_reducible rfl))
              simp only [Act.put]
              refine wpAnyT_take 16 (i := 21) (v := ?v21_57) rfl (by kernel_rfl) (by kernel_rfl) (by kernel_rfl) (by kernel_rfl) (by kernel_rfl) (fun _ _ _ h => h) (by rfl) ?hy21_57 hB7 ?rest21_57
              case hy21_57 => (intro w hSw; go_simp; (try with_reducible rfl))
              simp only [Act.put]
              refine wpAnyT_take 16 (i := 22) (v := ?v22_58) rfl (by kernel_rfl) (by kernel_rfl) (by kernel_rfl) (by kernel_rfl) (by kernel_rfl) (fun _ _ _ h => h) (by rfl) ?hy22_58 hB7 ?rest22_58
              case hy22_58 => (intro w hSw; go_simp; (try with_reducible rfl))
              simp only [Act.put]
              refine wpAnyT_take 16 (i := 23) (v := ?v23_59) rfl (by kernel_rfl) (by kernel_rfl) (by kernel_rfl) (by kernel_rfl) (by kernel_rfl) (fun _ _ _ h => h) (by rfl) ?hy23_59 hB7 ?rest23_59
              case hy23_59 => (intro w hSw; go_simp; (try with_reducible rfl))
              simp only [Act.put]
              refine wpAnyT_take 16 (i := 24) (v := ?v24_60) rfl (by kernel_rfl) (by kernel_rfl) (by kernel_rfl) (by kernel_rfl) (by kernel_rfl) (fun _ _ _ h => h) (by rfl) ?hy24_60 hB7 ?rest24_60
              case hy24_60 => (intro w hSw; go_simp; (try with_reducible rfl))
              simp only [Act.put]
              refine wpAnyT_done (by kernel_rfl) ?_ _
              clear hB7 hb7 HTW
              go_wp2_with fail
              go_at_call 20
              refine (must_no 1 _ (H.out.keep HB7.out).et).mono ?_
              rintro x' w8 ⟨rfl, hb⟩
              dsimp only
              rw [HDK.out, if_pos HY.out, if_neg (by rw [HR.out]; decide)]
              exact ⟨rfl, H.out.thrown (below_2 HB7.out hb) (by decide)⟩
            · have HR := Lib.hid hr
              have HTW := Lib.hid (token_write_yes r.key 2 (atoiN b) (atoiN c_) (atoiN e_) w5 (H.out.keep hB3).env.tens hr)
              clear hr
              unfold v4 at HTW
              refine wpAnyT_one (i := 19) (by kernel_rfl) rfl ?_
              intro K19 hK19
              go_simp
              go_at_call 136
              refine HTW.out.mono ?_
              rintro x' w7 ⟨rfl, hb7⟩
              dsimp only
              have hB7 := below_2 hB3 hb7
              have HB7 := Lib.hid hB7
              refine hK19.out _ _ (fun _ => hB7) ?_
              try simp only [Act.put]
              refine wpAnyT_take 16 (i := 20) (v := ?v20_61) rfl (by kernel_rfl) (by kernel_rfl) (by kernel_rfl) (by kernel_rfl) (by kernel_rfl) (fun _ _ _ h => h) (by rfl) ?hy20_61 hB7 ?rest20_61
              case hy20_61 => (intro w hSw; go_simp; (try with_reducible rfl))
              simp only [Act.put]
              refine wpAnyT_take 16 (i := 21) (v := ?v21_62) rfl (by kernel_rfl) (by kernel_rfl) (by kernel_rfl) (by kernel_rfl) (by kernel_rfl) (fun _ _ _ h => h) (by rfl) ?hy21_62 hB7 ?rest21_62
              case hy21_62 => (intro w hSw; go_simp; (try with_reducible rfl))
              simp only [Act.put]
              refine wpAnyT_take 16 (i := 22) (v := ?v22_63) rfl (by kernel_rfl) (by kernel_rfl) (by kernel_rfl) (by kernel_rfl) (by kernel_rfl) (fun _ _ _ h => h) (by rfl) ?hy22_63 hB7 ?rest22_63
              case hy22_63 => (intro w hSw; go_simp; (try with_reducible rfl))
              simp only [Act.put]
              refine wpAnyT_take 16 (i := 23) (v := ?v23_64) rfl (by kernel_rfl) (by kernel_rfl) (by kernel_rfl) (by kernel_rfl) (by kernel_rfl) (fun _ _ _ h => h) (by rfl) ?hy23_64 hB7 ?rest23_64
              case hy23_64 => (intro w hSw; go_simp; (try with_reducible rfl))
              simp only [Act.put]
              refine wpAnyT_take 16 (i := 24) (v := ?v24_65) rfl (by kernel_rfl) (by kernel_rfl) (by kernel_rfl) (by kernel_rfl) (by kernel_rfl) (fun _ _ _ h => h) (by rfl) ?hy24_65 hB7 ?rest24_65
              case hy24_65 => (intro w hSw; go_simp; (try with_reducible rfl))
              simp only [Act.put]
              refine wpAnyT_done (by kernel_rfl) ?_ _
              clear hB7 hb7 HTW
              go_wp2_with fail
              go_at_call 20
              refine (must_nil _).mono ?_
              rintro x' w8 ⟨rfl, rfl⟩
              dsimp only
              go_wp2_with fail
              go_ret
              rw [HDK.out, if_pos HY.out, if_pos HR.out]
              exact H.out.told HB7.out _
          · have hkn : kindN [x] = 0 := by unfold kindN; rw [if_neg (by simpa using h1), if_neg (by simpa using h2)]
            have hno : ¬ (kindN [x] ≠ 0 ∧ (numE b && numE c_ && numE e_) = true) := by simp [hkn]
            have hdd := HDD.out
            rw [if_neg hno] at hdd
            rw [hdd]
            clear hdd HDD
            have HIX := Lib.hid (index_ra [x] (-1) (by simp [Lib.index, List.isPrefixOf, h1, h2]) w hml)
            clear hml hkn hno h1 h2
            go_enter Tryz.func77, Tryz.ntmps77
            go_wp2_with fail
            go_at_call 17
            refine (words_yes _ 4 c w).mono ?_
            rintro e w0 ⟨rfl, rfl⟩
            go_wp2_with fail
            go_at_call 58
            refine HIX.out.mono ?_
            rintro x' w1 ⟨rfl, rfl⟩
            dsimp only
            go_wp2_with fail
            go_at_call 20
            refine HM.out.mono ?_
            rintro x' w2 ⟨rfl, hb⟩
            dsimp only
            exact ⟨rfl, H.out.thrown hb (by decide)⟩
      · have hkn : kindN a = 0 := by unfold kindN; rw [if_neg (by rintro rfl; exact ha rfl), if_neg (by rintro rfl; exact ha rfl)]
        have hno : ¬ (kindN a ≠ 0 ∧ (numE b && numE c_ && numE e_) = true) := by simp [hkn]
        have hdd := HDD.out
        rw [if_neg hno] at hdd
        rw [hdd]
        clear hdd HDD
        have HIX := Lib.hid (index_ra a _ rfl w hml)
        have hsz : ((txt a).size : Int) ≠ 1 := by rw [txt_size]; omega
        have hd1 : (((txt a).size : Int) != 1) = true := by simpa using hsz
        clear hml hkn hno ha hsz
        go_enter Tryz.func77, Tryz.ntmps77
        go_wp2_with fail
        go_at_call 17
        refine (words_yes _ 4 c w).mono ?_
        rintro e w0 ⟨rfl, rfl⟩
        go_wp2_with fail
        go_at_call 58
        refine HIX.out.mono ?_
        rintro x' w1 ⟨rfl, rfl⟩
        dsimp only
        go_wp2_with fail
        go_at_call 20
        refine HM.out.mono ?_
        rintro x' w2 ⟨rfl, hb⟩
        dsimp only
        exact ⟨rfl, H.out.thrown hb (by decide)⟩
    · exact absurd hL (by simp)
  · have hbad : tokenD ⟨r, z⟩ L = bad ⟨r, z⟩ 3 := by
      unfold tokenD
      split
      · exact absurd rfl hL
      · rfl
    rw [hbad]
    have HM := Lib.hid (words_no (some ⟨g, off, none⟩) L.length c 4 w h.et (by simpa using (show (L.length : Int) ≠ 4 by omega)))
    have H := Lib.hid h
    clear h hw hl hL hbad hk
    unfold Thrown at HM
    go_enter Tryz.func77, Tryz.ntmps77
    go_wp2_with fail
    go_at_call 17
    refine HM.out.mono ?_
    rintro e w0 ⟨rfl, hb⟩
    dsimp only
    exact ⟨rfl, H.out.thrown hb (by decide)⟩
end
end Go.Proofs.YtepjcdjpikbbjaaGreatDoor

/-
  A family as a text, by the desk and by the reference.
-/
namespace Go.Proofs.YtepjcdjpikbbjaaGreatDoor
open Go.RowKit Go.Sort

/-- numbers and texts that a family's text may have -/
structure FamI (f : Fam) : Prop where
  id : okI f.id
  gen : okI f.gen
  made : okI f.made
  used : okI f.used
  cl : f.client.size ≤ 900
  su : f.subject.size ≤ 900
  sc : f.scope.size ≤ 900
  re : f.request.size ≤ 900
theorem FamI.zero : FamI Fam.zero := ⟨⟨by decide, by decide⟩, ⟨by decide, by decide⟩, ⟨by decide, by decide⟩, ⟨by decide, by decide⟩, by decide, by decide, by decide, by decide⟩
theorem FamI.of {f : Fam} (h : famB f = true) : FamI f := by
  obtain ⟨n1, n2, n3, n4, n5, n6, n7, n8⟩ := famB_parts h
  refine ⟨okI_of n1, okI_of n2, okI_of n3, okI_of n4, ?_, ?_, ?_, ?_⟩
  · have := nameB_len n5; rw [size_data] at this; omega
  · have := nameB_len n6; rw [size_data] at this; omega
  · have := scopeB_len n8; rw [size_data] at this; omega
  · have := reqB_len n7; rw [size_data] at this; omega
theorem wordS_size (b : ByteArray) {n : Nat} (h : b.size ≤ n) (h1 : 1 ≤ n) : (wordS b).size ≤ n := by
  unfold wordS
  split
  · exact h1
  · exact h
theorem wordS_eq (s : ByteArray) : txt (wordL s.data.toList) = wordS s := by
  unfold wordL wordS
  split
  · rfl
  · exact txt_data s
theorem famT_size {f : Fam} (h : FamI f) : (famT f).size ≤ 4000 := by
  have e1 := joinS_size (L := [f.id]) (by simp) (by simpa using h.id)
  have e2 := joinS_size (L := [f.gen, f.made, f.used]) (by simp) (by simpa using ⟨h.gen, h.made, h.used⟩)
  have e3 := wordS_size f.scope h.sc (by decide)
  have e4 := wordS_size f.request h.re (by decide)
  have e5 := h.cl
  have e6 := h.su
  have sp : (⟨#[32]⟩ : ByteArray).size = 1 := rfl
  have sd : (⟨#[32, 100, 101, 97, 100]⟩ : ByteArray).size = 5 := rfl
  unfold famT famT0
  split
  · simp only [ByteArray.size_append]; omega
  · simp only [ByteArray.size_append]; omega
theorem desk_word_ (s : ByteArray) (w : World) : Calls Tryz.prog 127 #[.string s] w fun e w' => e = .returned (.string (txt (wordL s.data.toList))) ∧ w = w' := by rw [wordS_eq]; exact desk_word s w
set_option maxHeartbeats 8000000 in
set_option maxRecDepth 100000 in
theorem desk_family (f : Fam) (W : World) (hf : FamI f) (h : WB W W) :
    Calls Tryz.prog 122 #[famVal f] W fun x w' => x = .returned (.string (famT f)) ∧ Below W.heap.size W w' := by
  obtain ⟨i, cl, su, sc, ge, ma, us, re, de⟩ := f
  obtain ⟨n1, n2, n3, n4, z2, z3, z4, z8⟩ := hf
  dsimp only at n1 n2 n3 n4 z2 z3 z4 z8
  have z1 := joinS_size (L := [i]) (by simp) (by simpa using n1)
  have z5 := joinS_size (L := [ge, ma, us]) (by simp) (by simpa using ⟨n2, n3, n4⟩)
  have z6 := wordS_size sc z4 (by decide)
  have z7 := wordS_size re z8 (by decide)
  have HI1 := Lib.hid (fun g w hw hi => desk_join g [i] w hw hi (by simp) (by simp) (by simpa using n1))
  have HI3 := Lib.hid (fun g w hw hi => desk_join g [ge, ma, us] w hw hi (by simp) (by simp) (by simpa using ⟨n2, n3, n4⟩))
  have HW1 := Lib.hid (fun w => desk_word_ sc w)
  have HW2 := Lib.hid (fun w => desk_word_ re w)
  have HF := Lib.hid (show famT ⟨i, cl, su, sc, ge, ma, us, re, de⟩ = if de then joinS [i] ++ ⟨#[32]⟩ ++ cl ++ ⟨#[32]⟩ ++ su ++ ⟨#[32]⟩ ++ wordS sc ++ ⟨#[32]⟩ ++ joinS [ge, ma, us] ++ ⟨#[32]⟩ ++ wordS re ++ ⟨#[32, 100, 101, 97, 100]⟩ else joinS [i] ++ ⟨#[32]⟩ ++ cl ++ ⟨#[32]⟩ ++ su ++ ⟨#[32]⟩ ++ wordS sc ++ ⟨#[32]⟩ ++ joinS [ge, ma, us] ++ ⟨#[32]⟩ ++ wordS re from rfl)
  simp only [List.length_cons, List.length_nil, Nat.zero_add, Nat.reduceAdd] at HI1 HI3
  rw [wordS_eq sc] at HW1
  rw [wordS_eq re] at HW2
  rw [HF.out]
  clear HF n1 n2 n3 n4
  generalize joinS [i] = one at *
  generalize joinS [ge, ma, us] = three at *
  generalize wordS sc = sw at *
  generalize wordS re = rw_ at *
  have sp : (⟨#[32]⟩ : ByteArray).size = 1 := rfl
  have sd : (⟨#[32, 100, 101, 97, 100]⟩ : ByteArray).size = 5 := rfl
  have q1 := add_any one ⟨#[32]⟩ (by (try simp only [ByteArray.size_append]); omega)
  have q2 := add_any (one ++ ⟨#[32]⟩) cl (by (try simp only [ByteArray.size_append]); omega)
  have q3 := add_any (one ++ ⟨#[32]⟩ ++ cl) ⟨#[32]⟩ (by (try simp only [ByteArray.size_append]); omega)
  have q4 := add_any (one ++ ⟨#[32]⟩ ++ cl ++ ⟨#[32]⟩) su (by (try simp only [ByteArray.size_append]); omega)
  have q5 := add_any (one ++ ⟨#[32]⟩ ++ cl ++ ⟨#[32]⟩ ++ su) ⟨#[32]⟩ (by (try simp only [ByteArray.size_append]); omega)
  have q6 := add_any (one ++ ⟨#[32]⟩ ++ cl ++ ⟨#[32]⟩ ++ su ++ ⟨#[32]⟩) sw (by (try simp only [ByteArray.size_append]); omega)
  have q7 := add_any (one ++ ⟨#[32]⟩ ++ cl ++ ⟨#[32]⟩ ++ su ++ ⟨#[32]⟩ ++ sw) ⟨#[32]⟩ (by (try simp only [ByteArray.size_append]); omega)
  have q8 := add_any (one ++ ⟨#[32]⟩ ++ cl ++ ⟨#[32]⟩ ++ su ++ ⟨#[32]⟩ ++ sw ++ ⟨#[32]⟩) three (by (try simp only [ByteArray.size_append]); omega)
  have q9 := add_any (one ++ ⟨#[32]⟩ ++ cl ++ ⟨#[32]⟩ ++ su ++ ⟨#[32]⟩ ++ sw ++ ⟨#[32]⟩ ++ three) ⟨#[32]⟩ (by (try simp only [ByteArray.size_append]); omega)
  have q10 := add_any (one ++ ⟨#[32]⟩ ++ cl ++ ⟨#[32]⟩ ++ su ++ ⟨#[32]⟩ ++ sw ++ ⟨#[32]⟩ ++ three ++ ⟨#[32]⟩) rw_ (by (try simp only [ByteArray.size_append]); omega)
  have q11 := add_any (one ++ ⟨#[32]⟩ ++ cl ++ ⟨#[32]⟩ ++ su ++ ⟨#[32]⟩ ++ sw ++ ⟨#[32]⟩ ++ three ++ ⟨#[32]⟩ ++ rw_) ⟨#[32, 100, 101, 97, 100]⟩ (by (try simp only [ByteArray.size_append]); omega)
  clear z1 z2 z3 z4 z5 z6 z7 z8 sp sd
  unfold famVal famCs at *
  dsimp only at *
  have hwb := h.alloc (.cells #[.int .i64 i, .string cl, .string su, .string sc, .int .i64 ge, .int .i64 ma, .int .i64 us, .string re, .bool de] 95)
  have H0 := Lib.hid h
  clear h
  cases de
  all_goals
    simp only [Bool.false_eq_true, if_false, if_true]
    go_enter Tryz.func122, Tryz.ntmps122
    go_wp2_with fail
  · obtain ⟨d0, d1, d2, d3, d4, d5, d6, d7, d8⟩ := fam_cells (Blk.new W 95 (famCs ⟨i, cl, su, sc, ge, ma, us, re, false⟩))
    unfold famCs at d0 d1 d2 d3 d4 d5 d6 d7 d8
    dsimp only at d0 d1 d2 d3 d4 d5 d6 d7 d8
    generalize W.alloc (.cells #[.int .i64 i, .string cl, .string su, .string sc, .int .i64 ge, .int .i64 ma, .int .i64 us, .string re, .bool false] 95) = w2 at *
    have hwb2 := hwb.drew
    clear hwb
    go_region_held3 (fun w' => w'.cell? ⟨W.heap.size, 8, none⟩ = some (.bool false) ∧ w'.cell? ⟨W.heap.size, 0, none⟩ = some (.int .i64 i) ∧ w'.cell? ⟨W.heap.size, 1, none⟩ = some (.string cl) ∧ w'.cell? ⟨W.heap.size, 2, none⟩ = some (.string su) ∧ w'.cell? ⟨W.heap.size, 3, none⟩ = some (.string sc) ∧ w'.cell? ⟨W.heap.size, 4, none⟩ = some (.int .i64 ge) ∧ w'.cell? ⟨W.heap.size, 5, none⟩ = some (.int .i64 ma) ∧ w'.cell? ⟨W.heap.size, 6, none⟩ = some (.int .i64 us) ∧ w'.cell? ⟨W.heap.size, 7, none⟩ = some (.string re) ∧ WB W w')
      (first
        | (refine ⟨?_, ?_, ?_, ?_, ?_, ?_, ?_, ?_, ?_, hwb2⟩ <;> go_keep)
        | assumption
        | (go_split_ands
           exact keep_fam9 (by assumption) (by assumption) (by assumption) (by assumption) (by assumption) (by assumption) (by assumption) (by assumption) (by assumption) (by assumption) (by assumption))
        | (go_split_ands
           exact keep_fam9 (by assumption) (by assumption) (by assumption) (by assumption) (by assumption) (by assumption) (by assumption) (by assumption) (by assumption) (by assumption) ((Below.refl _ _).alloc (Nat.le_refl _) _)))
      (first
        | (go_at_call 121; with_reducible refine (HI1.out _ _ ?_ ?_).mono ?_; (· exact WB.self (by (go_split_ands; assumption))); (· first | exact IntsAt.drw (ints_1 _ 3 i) | exact IntsAt.drw ((ints_1 _ 3 i).alloc _) | exact IntsAt.drw (ints_11 _ _ 3 i)); rintro e w1 ⟨rfl, hb1⟩)
        | (go_at_call 121; with_reducible refine (HI3.out _ _ ?_ ?_).mono ?_; (· exact WB.self (by (go_split_ands; assumption))); (· first | exact ints_3 _ 3 ge ma us | exact IntsAt.below (IntsAt.drw (ints_31 _ _ 3 ge ma us)) (by assumption) | exact IntsAt.below (IntsAt.drw ((ints_3 _ 3 ge ma us).alloc _)) (by assumption)); rintro e w1 ⟨rfl, hb1⟩)
        | (go_at_call 127; with_reducible refine (HW1.out _).mono ?_; rintro e w1 ⟨rfl, rfl⟩)
        | (go_at_call 127; with_reducible refine (HW2.out _).mono ?_; rintro e w1 ⟨rfl, rfl⟩))
    all_goals
      go_split_ands
      go_wp2_with fail
      go_ret
      exact ⟨rfl, WB.below (by assumption)⟩
  · obtain ⟨d0, d1, d2, d3, d4, d5, d6, d7, d8⟩ := fam_cells (Blk.new W 95 (famCs ⟨i, cl, su, sc, ge, ma, us, re, true⟩))
    unfold famCs at d0 d1 d2 d3 d4 d5 d6 d7 d8
    dsimp only at d0 d1 d2 d3 d4 d5 d6 d7 d8
    generalize W.alloc (.cells #[.int .i64 i, .string cl, .string su, .string sc, .int .i64 ge, .int .i64 ma, .int .i64 us, .string re, .bool true] 95) = w2 at *
    have hwb2 := hwb.drew
    clear hwb
    go_region_held3 (fun w' => w'.cell? ⟨W.heap.size, 8, none⟩ = some (.bool true) ∧ w'.cell? ⟨W.heap.size, 0, none⟩ = some (.int .i64 i) ∧ w'.cell? ⟨W.heap.size, 1, none⟩ = some (.string cl) ∧ w'.cell? ⟨W.heap.size, 2, none⟩ = some (.string su) ∧ w'.cell? ⟨W.heap.size, 3, none⟩ = some (.string sc) ∧ w'.cell? ⟨W.heap.size, 4, none⟩ = some (.int .i64 ge) ∧ w'.cell? ⟨W.heap.size, 5, none⟩ = some (.int .i64 ma) ∧ w'.cell? ⟨W.heap.size, 6, none⟩ = some (.int .i64 us) ∧ w'.cell? ⟨W.heap.size, 7, none⟩ = some (.string re) ∧ WB W w')
      (first
        | (refine ⟨?_, ?_, ?_, ?_, ?_, ?_, ?_, ?_, ?_, hwb2⟩ <;> go_keep)
        | assumption
        | (go_split_ands
           exact keep_fam9 (by assumption) (by assumption) (by assumption) (by assumption) (by assumption) (by assumption) (by assumption) (by assumption) (by assumption) (by assumption) (by assumption))
        | (go_split_ands
           exact keep_fam9 (by assumption) (by assumption) (by assumption) (by assumption) (by assumption) (by assumption) (by assumption) (by assumption) (by assumption) (by assumption) ((Below.refl _ _).alloc (Nat.le_refl _) _)))
      (first
        | (go_at_call 121; with_reducible refine (HI1.out _ _ ?_ ?_).mono ?_; (· exact WB.self (by (go_split_ands; assumption))); (· first | exact IntsAt.drw (ints_1 _ 3 i) | exact IntsAt.drw ((ints_1 _ 3 i).alloc _) | exact IntsAt.drw (ints_11 _ _ 3 i)); rintro e w1 ⟨rfl, hb1⟩)
        | (go_at_call 121; with_reducible refine (HI3.out _ _ ?_ ?_).mono ?_; (· exact WB.self (by (go_split_ands; assumption))); (· first | exact ints_3 _ 3 ge ma us | exact IntsAt.below (IntsAt.drw (ints_31 _ _ 3 ge ma us)) (by assumption) | exact IntsAt.below (IntsAt.drw ((ints_3 _ 3 ge ma us).alloc _)) (by assumption)); rintro e w1 ⟨rfl, hb1⟩)
        | (go_at_call 127; with_reducible refine (HW1.out _).mono ?_; rintro e w1 ⟨rfl, rfl⟩)
        | (go_at_call 127; with_reducible refine (HW2.out _).mono ?_; rintro e w1 ⟨rfl, rfl⟩))
    all_goals
      go_split_ands
      go_wp2_with fail
      go_ret
      exact ⟨rfl, WB.below (by assumption)⟩
end Go.Proofs.YtepjcdjpikbbjaaGreatDoor
