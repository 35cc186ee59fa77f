/-
  The reference's ReadEvent at two words; at another number of words; at all.
-/
import Derived.Test.YtklpmoimckblcaaGreatDoorRefReadEv2
namespace Go.Proofs.YtklpmoimckblcaaGreatDoor
open Go.RowKit Go.Sort

set_option maxHeartbeats 16000000 in
set_option maxRecDepth 100000 in
theorem refread_d (s : ByteArray) (W : World) (hs : s.size ≤ 1000) (h : WB W W) (he : ErrVars W) (a0 a1 : List UInt8) (hL : parts 32 s.data.toList = [a0, a1]) (hd : a0 = [100]) :
    Calls Tryz.prog 13 #[.string s] W (RefGotE W (readE s.data.toList) (if readB s.data.toList then 0 else 3)) := by
  have hsm : ∀ x ∈ parts 32 s.data.toList, x.length ≤ 1000 := parts_word_len 32 _ _ (by rw [size_data]; exact hs)
  have hsh := cand_short hsm
  have hcand : cand (parts 32 s.data.toList) = ⟨2, Fam.zero, atoiN a1, 0⟩ := by rw [hL, hd]; rfl
  rw [hcand] at hsh
  have HWY := Lib.hid (fun (hy : evB (⟨2, Fam.zero, atoiN a1, 0⟩) = true) w (hw : WB w w) => refw_yes (⟨2, Fam.zero, atoiN a1, 0⟩) w hsh hw hy)
  have HWN := Lib.hid (fun (hy : evB (⟨2, Fam.zero, atoiN a1, 0⟩) = false) w (hw : WB w w) => refw_no (⟨2, Fam.zero, atoiN a1, 0⟩) w hsh hw hy)
  have HY := Lib.hid (fun h1 h2 => ref_yes hcand h1 h2)
  have HN := Lib.hid (fun h => ref_no hcand h)
  generalize readE s.data.toList = eR at *
  generalize (if readB s.data.toList then (0 : Int) else 3) = nR at *
  clear hsm hsh hcand
  have HSP := Lib.hid (refread_start s W hs h he)
  rw [hL] at HSP
  unfold evCs Ev.zero Fam.zero at HSP
  dsimp only at HSP

  have e0 := p_list a0 100
  rw [show decide (a0 = [100]) = true by simpa using hd] at e0
  clear hd
  go_enter Tryz.func13, Tryz.ntmps13
  go_wp2_with fail
  go_at_call 28
  refine HSP.out.mono ?_
  rintro x w1 ⟨g, cap, rfl, h1⟩
  have H := Lib.hid h1
  clear h1
  have hlt0 := H.out.n0
  have k1 := H.out.word 0 (show 0 < 2 by decide)
  have k2 : w1.cell? ⟨g, 0, none⟩ = some (.string (txt a0)) := ((alloc2 w1 _ _).cell (p := ⟨g, 0, none⟩) hlt0).symm.trans k1
  have hcap : 2 ≤ cap ∧ cap ≤ 9223372036854775807 := H.out.le
  obtain ⟨hcap1, hcap2⟩ := hcap
  have hc2 : [a0, a1].length = 2 := rfl
  rw [hc2] at H
  clear k1 hc2
  go_wp2_with fail
  generalize ((w1.alloc (.cells #[.slice (some ⟨g, 0, none⟩) 2 cap] 55)).alloc (.cells #[.int .i64 0, .int .i64 0, .string ⟨#[]⟩, .string ⟨#[]⟩, .string ⟨#[]⟩, .int .i64 0, .int .i64 0, .int .i64 0, .string ⟨#[]⟩, .bool false, .int .i64 0, .int .i64 0] 30)) = w2 at *
  have hre : w1.heap.size + 1 = w1.heap.size + 1 := rfl
  generalize w1.heap.size + 1 = eb at H hre ⊢
  generalize w1.heap.size = wb at *
  have hlt := H.out.n2
  have hlt1 := H.out.n1
  clear k2 e0 HSP hre
  have HN1 : Hid (∀ w, RV W wb eb [a0, a1] g cap w → Calls Tryz.prog 29 #[.int .i64 1, .pointer (some ⟨wb, 0, none⟩)] w fun e w' => e = .returned (.int .i64 (atoiN a1)) ∧ Below w.heap.size w w') := Lib.hid fun w h => rv_num (L := [a0, a1]) 1 (show 1 < 2 by decide) h
  go_at_call 29
  refine (HN1.out _ H.out).mono ?_
  rintro x w7 ⟨rfl, hb⟩
  have H7 := Lib.hid (RV.keep hb H.out)
  clear hb H HN1
  obtain ⟨x0, y0, x1, y1, x2, y2, x3, y3, x4, y4, x5, y5, x6, y6, x7, y7, x8, y8, x9, y9, x10, y10, x11, y11⟩ := H7.out.all12
  have H := Lib.hid (RV.toZ H7.out ⟨2, Fam.zero, atoiN a1, 0⟩)
  unfold Fam.zero at H
  dsimp only at H
  generalize atoiN a1 = v1 at *
  go_wp2_with fail
  generalize ((((((((((((w7.setCell ⟨eb, 0, none⟩ (.int .i64 2)).setCell ⟨eb, 1, none⟩ (.int .i64 0)).setCell ⟨eb, 2, none⟩ (.string ⟨#[]⟩)).setCell ⟨eb, 3, none⟩ (.string ⟨#[]⟩)).setCell ⟨eb, 4, none⟩ (.string ⟨#[]⟩)).setCell ⟨eb, 5, none⟩ (.int .i64 0)).setCell ⟨eb, 6, none⟩ (.int .i64 0)).setCell ⟨eb, 7, none⟩ (.int .i64 0)).setCell ⟨eb, 8, none⟩ (.string ⟨#[]⟩)).setCell ⟨eb, 9, none⟩ (.bool false)).setCell ⟨eb, 10, none⟩ (.int .i64 v1)).setCell ⟨eb, 11, none⟩ (.int .i64 0)) = wz at *
  clear x0 y0 x1 y1 x2 y2 x3 y3 x4 y4 x5 y5 x6 y6 x7 y7 x8 y8 x9 y9 x10 y10 x11 y11 H7
  obtain ⟨hc, hrc, hrf⟩ := H.out.facts
  have c0 := hc 0
  have r0 := hrc 0
  have q0 := hrf 0
  have c1 := hc 1
  have r1 := hrc 1
  have q1 := hrf 1
  have c2 := hc 2
  have r2 := hrc 2
  have q2 := hrf 2
  have c3 := hc 3
  have r3 := hrc 3
  have q3 := hrf 3
  have c4 := hc 4
  have r4 := hrc 4
  have q4 := hrf 4
  have c5 := hc 5
  have r5 := hrc 5
  have q5 := hrf 5
  have c6 := hc 6
  have r6 := hrc 6
  have q6 := hrf 6
  have c7 := hc 7
  have r7 := hrc 7
  have q7 := hrf 7
  have c8 := hc 8
  have r8 := hrc 8
  have q8 := hrf 8
  have c9 := hc 9
  have r9 := hrc 9
  have q9 := hrf 9
  have c10 := hc 10
  have r10 := hrc 10
  have q10 := hrf 10
  have c11 := hc 11
  have r11 := hrc 11
  have q11 := hrf 11
  clear hc hrc hrf
  unfold evCs at c0 c1 c2 c3 c4 c5 c6 c7 c8 c9 c10 c11
  unfold evCs Ev.zero Fam.zero at r0 r1 r2 r3 r4 r5 r6 r7 r8 r9 r10 r11
  dsimp only at c0 r0 c1 r1 c2 r2 c3 r3 c4 r4 c5 r5 c6 r6 c7 r7 c8 r8 c9 r9 c10 r10 c11 r11
  have hltz := H.out.lt
  cases hbe : evB (⟨2, Fam.zero, v1, 0⟩)
  · have HW := Lib.hid (HWN.out hbe)
    unfold evVal evCs Fam.zero at HW
    dsimp only at HW
    obtain ⟨rfl, rfl⟩ := HN.out (.inl hbe)
    go_at_call 7
    refine (HW.out _ H.out.wb.self).mono ?_
    rintro x w9 ⟨rfl, hb⟩
    have H := Lib.hid (H.out.keep hb)
    clear hb
    clear c0 r0 q0 c1 r1 q1 c2 r2 q2 c3 r3 q3 c4 r4 q4 c5 r5 q5 c6 r6 q6 c7 r7 q7 c8 r8 q8 c9 r9 q9 c10 r10 q10 c11 r11 q11
    obtain ⟨hc, hrc, hrf⟩ := H.out.facts
    have c0 := hc 0
    have r0 := hrc 0
    have q0 := hrf 0
    have c1 := hc 1
    have r1 := hrc 1
    have q1 := hrf 1
    have c2 := hc 2
    have r2 := hrc 2
    have q2 := hrf 2
    have c3 := hc 3
    have r3 := hrc 3
    have q3 := hrf 3
    have c4 := hc 4
    have r4 := hrc 4
    have q4 := hrf 4
    have c5 := hc 5
    have r5 := hrc 5
    have q5 := hrf 5
    have c6 := hc 6
    have r6 := hrc 6
    have q6 := hrf 6
    have c7 := hc 7
    have r7 := hrc 7
    have q7 := hrf 7
    have c8 := hc 8
    have r8 := hrc 8
    have q8 := hrf 8
    have c9 := hc 9
    have r9 := hrc 9
    have q9 := hrf 9
    have c10 := hc 10
    have r10 := hrc 10
    have q10 := hrf 10
    have c11 := hc 11
    have r11 := hrc 11
    have q11 := hrf 11
    clear hc hrc hrf
    unfold evCs at c0 c1 c2 c3 c4 c5 c6 c7 c8 c9 c10 c11
    unfold evCs Ev.zero Fam.zero at r0 r1 r2 r3 r4 r5 r6 r7 r8 r9 r10 r11
    dsimp only at c0 r0 c1 r1 c2 r2 c3 r3 c4 r4 c5 r5 c6 r6 c7 r7 c8 r8 c9 r9 c10 r10 c11 r11
    go_wp2_with fail
    exact refread_end (e := Ev.zero) (res_below (e' := Ev.zero) H.out.below) (res_sets (e' := Ev.zero) H.out.res) rfl rfl rfl
  · have HW := Lib.hid (HWY.out hbe)
    have hq := line_list (⟨2, Fam.zero, v1, 0⟩) s
    generalize txt (evL (⟨2, Fam.zero, v1, 0⟩)) = line at *
    unfold evVal evCs Fam.zero at HW
    dsimp only at HW
    go_at_call 7
    refine (HW.out _ H.out.wb.self).mono ?_
    rintro x w9 ⟨rfl, hb⟩
    have H := Lib.hid (H.out.keep hb)
    clear hb
    clear c0 r0 q0 c1 r1 q1 c2 r2 q2 c3 r3 q3 c4 r4 q4 c5 r5 q5 c6 r6 q6 c7 r7 q7 c8 r8 q8 c9 r9 q9 c10 r10 q10 c11 r11 q11
    obtain ⟨hc, hrc, hrf⟩ := H.out.facts
    have c0 := hc 0
    have r0 := hrc 0
    have q0 := hrf 0
    have c1 := hc 1
    have r1 := hrc 1
    have q1 := hrf 1
    have c2 := hc 2
    have r2 := hrc 2
    have q2 := hrf 2
    have c3 := hc 3
    have r3 := hrc 3
    have q3 := hrf 3
    have c4 := hc 4
    have r4 := hrc 4
    have q4 := hrf 4
    have c5 := hc 5
    have r5 := hrc 5
    have q5 := hrf 5
    have c6 := hc 6
    have r6 := hrc 6
    have q6 := hrf 6
    have c7 := hc 7
    have r7 := hrc 7
    have q7 := hrf 7
    have c8 := hc 8
    have r8 := hrc 8
    have q8 := hrf 8
    have c9 := hc 9
    have r9 := hrc 9
    have q9 := hrf 9
    have c10 := hc 10
    have r10 := hrc 10
    have q10 := hrf 10
    have c11 := hc 11
    have r11 := hrc 11
    have q11 := hrf 11
    clear hc hrc hrf
    unfold evCs at c0 c1 c2 c3 c4 c5 c6 c7 c8 c9 c10 c11
    unfold evCs Ev.zero Fam.zero at r0 r1 r2 r3 r4 r5 r6 r7 r8 r9 r10 r11
    dsimp only at c0 r0 c1 r1 c2 r2 c3 r3 c4 r4 c5 r5 c6 r6 c7 r7 c8 r8 c9 r9 c10 r10 c11 r11
    by_cases he : evL (⟨2, Fam.zero, v1, 0⟩) = s.data.toList
    · rw [show decide (evL (⟨2, Fam.zero, v1, 0⟩) = s.data.toList) = true by simpa using he] at hq
      obtain ⟨rfl, rfl⟩ := HY.out hbe he
      clear he
      go_wp2_with fail
      exact refread_end (e := ⟨2, Fam.zero, v1, 0⟩) (res_below (e' := ⟨2, Fam.zero, v1, 0⟩) H.out.below) (res_sets (e' := ⟨2, Fam.zero, v1, 0⟩) H.out.res) rfl rfl rfl
    · rw [show decide (evL (⟨2, Fam.zero, v1, 0⟩) = s.data.toList) = false by simpa using he] at hq
      obtain ⟨rfl, rfl⟩ := HN.out (.inr he)
      clear he
      go_wp2_with fail
      exact refread_end (e := Ev.zero) (res_below (e' := Ev.zero) H.out.below) (res_sets (e' := Ev.zero) H.out.res) rfl rfl rfl
set_option maxHeartbeats 16000000 in
set_option maxRecDepth 100000 in
theorem refread_c (s : ByteArray) (W : World) (hs : s.size ≤ 1000) (h : WB W W) (he : ErrVars W) (a0 a1 : List UInt8) (hL : parts 32 s.data.toList = [a0, a1]) (hd : a0 ≠ [100]) :
    Calls Tryz.prog 13 #[.string s] W (RefGotE W (readE s.data.toList) (if readB s.data.toList then 0 else 3)) := by
  have hsm : ∀ x ∈ parts 32 s.data.toList, x.length ≤ 1000 := parts_word_len 32 _ _ (by rw [size_data]; exact hs)
  have hsh := cand_short hsm
  have hcand : cand (parts 32 s.data.toList) = ⟨3, Fam.zero, 0, atoiN a1⟩ := by rw [hL]; exact if_neg hd
  rw [hcand] at hsh
  have HWY := Lib.hid (fun (hy : evB (⟨3, Fam.zero, 0, atoiN a1⟩) = true) w (hw : WB w w) => refw_yes (⟨3, Fam.zero, 0, atoiN a1⟩) w hsh hw hy)
  have HWN := Lib.hid (fun (hy : evB (⟨3, Fam.zero, 0, atoiN a1⟩) = false) w (hw : WB w w) => refw_no (⟨3, Fam.zero, 0, atoiN a1⟩) w hsh hw hy)
  have HY := Lib.hid (fun h1 h2 => ref_yes hcand h1 h2)
  have HN := Lib.hid (fun h => ref_no hcand h)
  generalize readE s.data.toList = eR at *
  generalize (if readB s.data.toList then (0 : Int) else 3) = nR at *
  clear hsm hsh hcand
  have HSP := Lib.hid (refread_start s W hs h he)
  rw [hL] at HSP
  unfold evCs Ev.zero Fam.zero at HSP
  dsimp only at HSP

  have e0 := p_list a0 100
  rw [show decide (a0 = [100]) = false by simpa using hd] at e0
  clear hd
  go_enter Tryz.func13, Tryz.ntmps13
  go_wp2_with fail
  go_at_call 28
  refine HSP.out.mono ?_
  rintro x w1 ⟨g, cap, rfl, h1⟩
  have H := Lib.hid h1
  clear h1
  have hlt0 := H.out.n0
  have k1 := H.out.word 0 (show 0 < 2 by decide)
  have k2 : w1.cell? ⟨g, 0, none⟩ = some (.string (txt a0)) := ((alloc2 w1 _ _).cell (p := ⟨g, 0, none⟩) hlt0).symm.trans k1
  have hcap : 2 ≤ cap ∧ cap ≤ 9223372036854775807 := H.out.le
  obtain ⟨hcap1, hcap2⟩ := hcap
  have hc2 : [a0, a1].length = 2 := rfl
  rw [hc2] at H
  clear k1 hc2
  go_wp2_with fail
  generalize ((w1.alloc (.cells #[.slice (some ⟨g, 0, none⟩) 2 cap] 55)).alloc (.cells #[.int .i64 0, .int .i64 0, .string ⟨#[]⟩, .string ⟨#[]⟩, .string ⟨#[]⟩, .int .i64 0, .int .i64 0, .int .i64 0, .string ⟨#[]⟩, .bool false, .int .i64 0, .int .i64 0] 30)) = w2 at *
  have hre : w1.heap.size + 1 = w1.heap.size + 1 := rfl
  generalize w1.heap.size + 1 = eb at H hre ⊢
  generalize w1.heap.size = wb at *
  have hlt := H.out.n2
  have hlt1 := H.out.n1
  clear k2 e0 HSP hre
  have HN1 : Hid (∀ w, RV W wb eb [a0, a1] g cap w → Calls Tryz.prog 29 #[.int .i64 1, .pointer (some ⟨wb, 0, none⟩)] w fun e w' => e = .returned (.int .i64 (atoiN a1)) ∧ Below w.heap.size w w') := Lib.hid fun w h => rv_num (L := [a0, a1]) 1 (show 1 < 2 by decide) h
  go_at_call 29
  refine (HN1.out _ H.out).mono ?_
  rintro x w7 ⟨rfl, hb⟩
  have H7 := Lib.hid (RV.keep hb H.out)
  clear hb H HN1
  obtain ⟨x0, y0, x1, y1, x2, y2, x3, y3, x4, y4, x5, y5, x6, y6, x7, y7, x8, y8, x9, y9, x10, y10, x11, y11⟩ := H7.out.all12
  have H := Lib.hid (RV.toZ H7.out ⟨3, Fam.zero, 0, atoiN a1⟩)
  unfold Fam.zero at H
  dsimp only at H
  generalize atoiN a1 = v1 at *
  go_wp2_with fail
  generalize ((((((((((((w7.setCell ⟨eb, 0, none⟩ (.int .i64 3)).setCell ⟨eb, 1, none⟩ (.int .i64 0)).setCell ⟨eb, 2, none⟩ (.string ⟨#[]⟩)).setCell ⟨eb, 3, none⟩ (.string ⟨#[]⟩)).setCell ⟨eb, 4, none⟩ (.string ⟨#[]⟩)).setCell ⟨eb, 5, none⟩ (.int .i64 0)).setCell ⟨eb, 6, none⟩ (.int .i64 0)).setCell ⟨eb, 7, none⟩ (.int .i64 0)).setCell ⟨eb, 8, none⟩ (.string ⟨#[]⟩)).setCell ⟨eb, 9, none⟩ (.bool false)).setCell ⟨eb, 10, none⟩ (.int .i64 0)).setCell ⟨eb, 11, none⟩ (.int .i64 v1)) = wz at *
  clear x0 y0 x1 y1 x2 y2 x3 y3 x4 y4 x5 y5 x6 y6 x7 y7 x8 y8 x9 y9 x10 y10 x11 y11 H7
  obtain ⟨hc, hrc, hrf⟩ := H.out.facts
  have c0 := hc 0
  have r0 := hrc 0
  have q0 := hrf 0
  have c1 := hc 1
  have r1 := hrc 1
  have q1 := hrf 1
  have c2 := hc 2
  have r2 := hrc 2
  have q2 := hrf 2
  have c3 := hc 3
  have r3 := hrc 3
  have q3 := hrf 3
  have c4 := hc 4
  have r4 := hrc 4
  have q4 := hrf 4
  have c5 := hc 5
  have r5 := hrc 5
  have q5 := hrf 5
  have c6 := hc 6
  have r6 := hrc 6
  have q6 := hrf 6
  have c7 := hc 7
  have r7 := hrc 7
  have q7 := hrf 7
  have c8 := hc 8
  have r8 := hrc 8
  have q8 := hrf 8
  have c9 := hc 9
  have r9 := hrc 9
  have q9 := hrf 9
  have c10 := hc 10
  have r10 := hrc 10
  have q10 := hrf 10
  have c11 := hc 11
  have r11 := hrc 11
  have q11 := hrf 11
  clear hc hrc hrf
  unfold evCs at c0 c1 c2 c3 c4 c5 c6 c7 c8 c9 c10 c11
  unfold evCs Ev.zero Fam.zero at r0 r1 r2 r3 r4 r5 r6 r7 r8 r9 r10 r11
  dsimp only at c0 r0 c1 r1 c2 r2 c3 r3 c4 r4 c5 r5 c6 r6 c7 r7 c8 r8 c9 r9 c10 r10 c11 r11
  have hltz := H.out.lt
  cases hbe : evB (⟨3, Fam.zero, 0, v1⟩)
  · have HW := Lib.hid (HWN.out hbe)
    unfold evVal evCs Fam.zero at HW
    dsimp only at HW
    obtain ⟨rfl, rfl⟩ := HN.out (.inl hbe)
    go_at_call 7
    refine (HW.out _ H.out.wb.self).mono ?_
    rintro x w9 ⟨rfl, hb⟩
    have H := Lib.hid (H.out.keep hb)
    clear hb
    clear c0 r0 q0 c1 r1 q1 c2 r2 q2 c3 r3 q3 c4 r4 q4 c5 r5 q5 c6 r6 q6 c7 r7 q7 c8 r8 q8 c9 r9 q9 c10 r10 q10 c11 r11 q11
    obtain ⟨hc, hrc, hrf⟩ := H.out.facts
    have c0 := hc 0
    have r0 := hrc 0
    have q0 := hrf 0
    have c1 := hc 1
    have r1 := hrc 1
    have q1 := hrf 1
    have c2 := hc 2
    have r2 := hrc 2
    have q2 := hrf 2
    have c3 := hc 3
    have r3 := hrc 3
    have q3 := hrf 3
    have c4 := hc 4
    have r4 := hrc 4
    have q4 := hrf 4
    have c5 := hc 5
    have r5 := hrc 5
    have q5 := hrf 5
    have c6 := hc 6
    have r6 := hrc 6
    have q6 := hrf 6
    have c7 := hc 7
    have r7 := hrc 7
    have q7 := hrf 7
    have c8 := hc 8
    have r8 := hrc 8
    have q8 := hrf 8
    have c9 := hc 9
    have r9 := hrc 9
    have q9 := hrf 9
    have c10 := hc 10
    have r10 := hrc 10
    have q10 := hrf 10
    have c11 := hc 11
    have r11 := hrc 11
    have q11 := hrf 11
    clear hc hrc hrf
    unfold evCs at c0 c1 c2 c3 c4 c5 c6 c7 c8 c9 c10 c11
    unfold evCs Ev.zero Fam.zero at r0 r1 r2 r3 r4 r5 r6 r7 r8 r9 r10 r11
    dsimp only at c0 r0 c1 r1 c2 r2 c3 r3 c4 r4 c5 r5 c6 r6 c7 r7 c8 r8 c9 r9 c10 r10 c11 r11
    go_wp2_with fail
    exact refread_end (e := Ev.zero) (res_below (e' := Ev.zero) H.out.below) (res_sets (e' := Ev.zero) H.out.res) rfl rfl rfl
  · have HW := Lib.hid (HWY.out hbe)
    have hq := line_list (⟨3, Fam.zero, 0, v1⟩) s
    generalize txt (evL (⟨3, Fam.zero, 0, v1⟩)) = line at *
    unfold evVal evCs Fam.zero at HW
    dsimp only at HW
    go_at_call 7
    refine (HW.out _ H.out.wb.self).mono ?_
    rintro x w9 ⟨rfl, hb⟩
    have H := Lib.hid (H.out.keep hb)
    clear hb
    clear c0 r0 q0 c1 r1 q1 c2 r2 q2 c3 r3 q3 c4 r4 q4 c5 r5 q5 c6 r6 q6 c7 r7 q7 c8 r8 q8 c9 r9 q9 c10 r10 q10 c11 r11 q11
    obtain ⟨hc, hrc, hrf⟩ := H.out.facts
    have c0 := hc 0
    have r0 := hrc 0
    have q0 := hrf 0
    have c1 := hc 1
    have r1 := hrc 1
    have q1 := hrf 1
    have c2 := hc 2
    have r2 := hrc 2
    have q2 := hrf 2
    have c3 := hc 3
    have r3 := hrc 3
    have q3 := hrf 3
    have c4 := hc 4
    have r4 := hrc 4
    have q4 := hrf 4
    have c5 := hc 5
    have r5 := hrc 5
    have q5 := hrf 5
    have c6 := hc 6
    have r6 := hrc 6
    have q6 := hrf 6
    have c7 := hc 7
    have r7 := hrc 7
    have q7 := hrf 7
    have c8 := hc 8
    have r8 := hrc 8
    have q8 := hrf 8
    have c9 := hc 9
    have r9 := hrc 9
    have q9 := hrf 9
    have c10 := hc 10
    have r10 := hrc 10
    have q10 := hrf 10
    have c11 := hc 11
    have r11 := hrc 11
    have q11 := hrf 11
    clear hc hrc hrf
    unfold evCs at c0 c1 c2 c3 c4 c5 c6 c7 c8 c9 c10 c11
    unfold evCs Ev.zero Fam.zero at r0 r1 r2 r3 r4 r5 r6 r7 r8 r9 r10 r11
    dsimp only at c0 r0 c1 r1 c2 r2 c3 r3 c4 r4 c5 r5 c6 r6 c7 r7 c8 r8 c9 r9 c10 r10 c11 r11
    by_cases he : evL (⟨3, Fam.zero, 0, v1⟩) = s.data.toList
    · rw [show decide (evL (⟨3, Fam.zero, 0, v1⟩) = s.data.toList) = true by simpa using he] at hq
      obtain ⟨rfl, rfl⟩ := HY.out hbe he
      clear he
      go_wp2_with fail
      exact refread_end (e := ⟨3, Fam.zero, 0, v1⟩) (res_below (e' := ⟨3, Fam.zero, 0, v1⟩) H.out.below) (res_sets (e' := ⟨3, Fam.zero, 0, v1⟩) H.out.res) rfl rfl rfl
    · rw [show decide (evL (⟨3, Fam.zero, 0, v1⟩) = s.data.toList) = false by simpa using he] at hq
      obtain ⟨rfl, rfl⟩ := HN.out (.inr he)
      clear he
      go_wp2_with fail
      exact refread_end (e := Ev.zero) (res_below (e' := Ev.zero) H.out.below) (res_sets (e' := Ev.zero) H.out.res) rfl rfl rfl
set_option maxHeartbeats 16000000 in
set_option maxRecDepth 100000 in
theorem refread_o (s : ByteArray) (W : World) (hs : s.size ≤ 1000) (h : WB W W) (he : ErrVars W) (h10 : (parts 32 s.data.toList).length ≠ 10) (h2 : (parts 32 s.data.toList).length ≠ 2) :
    Calls Tryz.prog 13 #[.string s] W (RefGotE W (readE s.data.toList) (if readB s.data.toList then 0 else 3)) := by
  have hsm : ∀ x ∈ parts 32 s.data.toList, x.length ≤ 1000 := parts_word_len 32 _ _ (by rw [size_data]; exact hs)
  have hsh := cand_short hsm
  have hcand : cand (parts 32 s.data.toList) = Ev.zero := by exact cand_odd h10 h2
  rw [hcand] at hsh
  have HWY := Lib.hid (fun (hy : evB (Ev.zero) = true) w (hw : WB w w) => refw_yes (Ev.zero) w hsh hw hy)
  have HWN := Lib.hid (fun (hy : evB (Ev.zero) = false) w (hw : WB w w) => refw_no (Ev.zero) w hsh hw hy)
  have HY := Lib.hid (fun h1 h2 => ref_yes hcand h1 h2)
  have HN := Lib.hid (fun h => ref_no hcand h)
  generalize readE s.data.toList = eR at *
  generalize (if readB s.data.toList then (0 : Int) else 3) = nR at *
  clear hsm hsh hcand
  have HSP := Lib.hid (refread_start s W hs h he)
  unfold evCs Ev.zero Fam.zero at HSP
  dsimp only at HSP

  have e10 : (((parts 32 s.data.toList).length : Int) == 10) = false := by simp; omega

  have e2 : (((parts 32 s.data.toList).length : Int) == 2) = false := by simp; omega
  generalize parts 32 s.data.toList = L at *
  go_enter Tryz.func13, Tryz.ntmps13
  go_wp2_with fail
  go_at_call 28
  refine HSP.out.mono ?_
  rintro x w1 ⟨g, cap, rfl, h1⟩
  have H := Lib.hid h1
  clear h1
  have hz : Blk ((w1.alloc (.cells #[.slice (some ⟨g, 0, none⟩) L.length cap] 55)).alloc (.cells (evCs Ev.zero) 30)) (w1.heap.size + 1) 30 (evCs Ev.zero) := by
    have h6 := Blk.new (w1.alloc (.cells #[.slice (some ⟨g, 0, none⟩) L.length cap] 55)) 30 (evCs Ev.zero)
    simpa using h6
  have H : Hid (RZ W (w1.heap.size + 1) Ev.zero ((w1.alloc (.cells #[.slice (some ⟨g, 0, none⟩) L.length cap] 55)).alloc (.cells #[.int .i64 0, .int .i64 0, .string ⟨#[]⟩, .string ⟨#[]⟩, .string ⟨#[]⟩, .int .i64 0, .int .i64 0, .int .i64 0, .string ⟨#[]⟩, .bool false, .int .i64 0, .int .i64 0] 30))) := Lib.hid (RV.zero H.out hz)
  clear hz HSP
  go_wp2_with fail
  generalize ((w1.alloc (.cells #[.slice (some ⟨g, 0, none⟩) L.length cap] 55)).alloc (.cells #[.int .i64 0, .int .i64 0, .string ⟨#[]⟩, .string ⟨#[]⟩, .string ⟨#[]⟩, .int .i64 0, .int .i64 0, .int .i64 0, .string ⟨#[]⟩, .bool false, .int .i64 0, .int .i64 0] 30)) = wz at *
  have HW := Lib.hid (HWN.out evB_zero)
  unfold evVal evCs Ev.zero Fam.zero at HW
  dsimp only at HW
  obtain ⟨rfl, rfl⟩ := HN.out (.inl evB_zero)
  have hltz := H.out.lt
  go_at_call 7
  refine (HW.out _ H.out.wb.self).mono ?_
  rintro x w9 ⟨rfl, hb⟩
  have H := Lib.hid (H.out.keep hb)
  clear hb
  obtain ⟨_, hrc, hrf⟩ := H.out.facts
  have r0 := hrc 0
  have q0 := hrf 0
  have r1 := hrc 1
  have q1 := hrf 1
  have r2 := hrc 2
  have q2 := hrf 2
  have r3 := hrc 3
  have q3 := hrf 3
  have r4 := hrc 4
  have q4 := hrf 4
  have r5 := hrc 5
  have q5 := hrf 5
  have r6 := hrc 6
  have q6 := hrf 6
  have r7 := hrc 7
  have q7 := hrf 7
  have r8 := hrc 8
  have q8 := hrf 8
  have r9 := hrc 9
  have q9 := hrf 9
  have r10 := hrc 10
  have q10 := hrf 10
  have r11 := hrc 11
  have q11 := hrf 11
  clear hrc hrf
  unfold evCs Ev.zero Fam.zero at r0 r1 r2 r3 r4 r5 r6 r7 r8 r9 r10 r11
  dsimp only at r0 r1 r2 r3 r4 r5 r6 r7 r8 r9 r10 r11
  go_wp2_with fail
  exact refread_end (e := Ev.zero) (res_below (e' := Ev.zero) H.out.below) (res_sets (e' := Ev.zero) H.out.res) rfl rfl rfl
theorem ref_readEv (s : ByteArray) (W : World) (hs : s.size ≤ 1000) (h : WB W W) (he : ErrVars W) :
    Calls Tryz.prog 13 #[.string s] W (RefGotE W (readE s.data.toList) (if readB s.data.toList then 0 else 3)) := by
  by_cases h10 : (parts 32 s.data.toList).length = 10
  · generalize hL : parts 32 s.data.toList = L at h10
    rcases L with _ | ⟨a0, _ | ⟨a1, _ | ⟨a2, _ | ⟨a3, _ | ⟨a4, _ | ⟨a5, _ | ⟨a6, _ | ⟨a7, _ | ⟨a8, _ | ⟨a9, _ | ⟨a10, r⟩⟩⟩⟩⟩⟩⟩⟩⟩⟩⟩
    all_goals first | (simp at h10; done) | exact refread_ten s W hs h he _ _ _ _ _ _ _ _ _ _ hL
  · by_cases h2 : (parts 32 s.data.toList).length = 2
    · generalize hL : parts 32 s.data.toList = L at h2
      rcases L with _ | ⟨a0, _ | ⟨a1, _ | ⟨a2, r⟩⟩⟩
      all_goals first | (simp at h2; done) | skip
      by_cases hd : a0 = [100]
      · exact refread_d s W hs h he a0 a1 hL hd
      · exact refread_c s W hs h he a0 a1 hL hd
    · exact refread_o s W hs h he h10 h2
end Go.Proofs.YtklpmoimckblcaaGreatDoor
