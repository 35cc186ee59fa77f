/-
  The reference's ReadEvent at ten words.
-/
import Derived.Test.YtklpmoimckblcaaGreatDoorRefReadEv1
namespace Go.Proofs.YtklpmoimckblcaaGreatDoor
open Go.RowKit Go.Sort

theorem RV.ten {W w : World} {wb eb g cap : Nat} {a0 a1 a2 a3 a4 a5 a6 a7 a8 a9 : List UInt8} (h : RV W wb eb [a0, a1, a2, a3, a4, a5, a6, a7, a8, a9] g cap w) :
    RV W wb eb [a0, a1, a2, a3, a4, a5, a6, a7, a8, a9] g cap w ∧ w.cell? ⟨wb, 0, none⟩ = some (.slice (some ⟨g, 0, none⟩) 10 cap) ∧ w.cell? ⟨g, 2, none⟩ = some (.string (txt a2)) ∧ w.cell? ⟨g, 3, none⟩ = some (.string (txt a3)) ∧ w.cell? ⟨g, 9, none⟩ = some (.string (txt a9)) :=
  ⟨h, h.cellv, h.word 2 (show 2 < 10 by decide), h.word 3 (show 3 < 10 by decide), h.word 9 (show 9 < 10 by decide)⟩
theorem RV.all12 {W w : World} {wb eb g cap : Nat} {L : List (List UInt8)} (h : RV W wb eb L g cap w) :
    w.cell? ⟨eb, 0, none⟩ = some (cellAt w ⟨eb, 0, none⟩) ∧ w.frozen? ⟨eb, 0, none⟩ = false ∧ w.cell? ⟨eb, 1, none⟩ = some (cellAt w ⟨eb, 1, none⟩) ∧ w.frozen? ⟨eb, 1, none⟩ = false ∧ w.cell? ⟨eb, 2, none⟩ = some (cellAt w ⟨eb, 2, none⟩) ∧ w.frozen? ⟨eb, 2, none⟩ = false ∧ w.cell? ⟨eb, 3, none⟩ = some (cellAt w ⟨eb, 3, none⟩) ∧ w.frozen? ⟨eb, 3, none⟩ = false ∧ w.cell? ⟨eb, 4, none⟩ = some (cellAt w ⟨eb, 4, none⟩) ∧ w.frozen? ⟨eb, 4, none⟩ = false ∧ w.cell? ⟨eb, 5, none⟩ = some (cellAt w ⟨eb, 5, none⟩) ∧ w.frozen? ⟨eb, 5, none⟩ = false ∧ w.cell? ⟨eb, 6, none⟩ = some (cellAt w ⟨eb, 6, none⟩) ∧ w.frozen? ⟨eb, 6, none⟩ = false ∧ w.cell? ⟨eb, 7, none⟩ = some (cellAt w ⟨eb, 7, none⟩) ∧ w.frozen? ⟨eb, 7, none⟩ = false ∧ w.cell? ⟨eb, 8, none⟩ = some (cellAt w ⟨eb, 8, none⟩) ∧ w.frozen? ⟨eb, 8, none⟩ = false ∧ w.cell? ⟨eb, 9, none⟩ = some (cellAt w ⟨eb, 9, none⟩) ∧ w.frozen? ⟨eb, 9, none⟩ = false ∧ w.cell? ⟨eb, 10, none⟩ = some (cellAt w ⟨eb, 10, none⟩) ∧ w.frozen? ⟨eb, 10, none⟩ = false ∧ w.cell? ⟨eb, 11, none⟩ = some (cellAt w ⟨eb, 11, none⟩) ∧ w.frozen? ⟨eb, 11, none⟩ = false :=
  ⟨(h.there 0 (by decide)).1, (h.there 0 (by decide)).2, (h.there 1 (by decide)).1, (h.there 1 (by decide)).2, (h.there 2 (by decide)).1, (h.there 2 (by decide)).2, (h.there 3 (by decide)).1, (h.there 3 (by decide)).2, (h.there 4 (by decide)).1, (h.there 4 (by decide)).2, (h.there 5 (by decide)).1, (h.there 5 (by decide)).2, (h.there 6 (by decide)).1, (h.there 6 (by decide)).2, (h.there 7 (by decide)).1, (h.there 7 (by decide)).2, (h.there 8 (by decide)).1, (h.there 8 (by decide)).2, (h.there 9 (by decide)).1, (h.there 9 (by decide)).2, (h.there 10 (by decide)).1, (h.there 10 (by decide)).2, (h.there 11 (by decide)).1, (h.there 11 (by decide)).2⟩

set_option maxHeartbeats 16000000 in
set_option maxRecDepth 100000 in
theorem refread_ten (s : ByteArray) (W : World) (hs : s.size ≤ 1000) (h : WB W W) (he : ErrVars W) (a0 a1 a2 a3 a4 a5 a6 a7 a8 a9 : List UInt8) (hL : parts 32 s.data.toList = [a0, a1, a2, a3, a4, a5, a6, a7, a8, a9]) :
    Calls Tryz.prog 13 #[.string s] W (RefGotE W (readE s.data.toList) (if readB s.data.toList then 0 else 3)) := by
  have hsm : ∀ x ∈ parts 32 s.data.toList, x.length ≤ 1000 := parts_word_len 32 _ _ (by rw [size_data]; exact hs)
  have hsh := cand_short hsm
  have hcand : cand (parts 32 s.data.toList) = ⟨1, ⟨atoiN a1, txt a2, txt a3, txt (unL a4), atoiN a5, atoiN a6, atoiN a7, txt (unL a8), decide (a9 = [49])⟩, 0, 0⟩ := by rw [hL]; rfl
  rw [hcand] at hsh
  have HWY := Lib.hid (fun (hy : evB (⟨1, ⟨atoiN a1, txt a2, txt a3, txt (unL a4), atoiN a5, atoiN a6, atoiN a7, txt (unL a8), decide (a9 = [49])⟩, 0, 0⟩) = true) w (hw : WB w w) => refw_yes (⟨1, ⟨atoiN a1, txt a2, txt a3, txt (unL a4), atoiN a5, atoiN a6, atoiN a7, txt (unL a8), decide (a9 = [49])⟩, 0, 0⟩) w hsh hw hy)
  have HWN := Lib.hid (fun (hy : evB (⟨1, ⟨atoiN a1, txt a2, txt a3, txt (unL a4), atoiN a5, atoiN a6, atoiN a7, txt (unL a8), decide (a9 = [49])⟩, 0, 0⟩) = false) w (hw : WB w w) => refw_no (⟨1, ⟨atoiN a1, txt a2, txt a3, txt (unL a4), atoiN a5, atoiN a6, atoiN a7, txt (unL a8), decide (a9 = [49])⟩, 0, 0⟩) w hsh hw hy)
  have HY := Lib.hid (fun h1 h2 => ref_yes hcand h1 h2)
  have HN := Lib.hid (fun h => ref_no hcand h)
  generalize readE s.data.toList = eR at *
  generalize (if readB s.data.toList then (0 : Int) else 3) = nR at *
  clear hsm hsh hcand
  have HSP := Lib.hid (refread_start s W hs h he)
  rw [hL] at HSP
  unfold evCs Ev.zero Fam.zero at HSP
  dsimp only at HSP
  go_enter Tryz.func13, Tryz.ntmps13
  go_wp2_with fail
  go_at_call 28
  refine HSP.out.mono ?_
  rintro x w1 ⟨g, cap, rfl, h1⟩
  have H := Lib.hid h1
  clear h1
  go_wp2_with fail
  have hc10 : [a0, a1, a2, a3, a4, a5, a6, a7, a8, a9].length = 10 := rfl
  rw [hc10] at H
  clear hc10
  generalize ((w1.alloc (.cells #[.slice (some ⟨g, 0, none⟩) 10 cap] 55)).alloc (.cells #[.int .i64 0, .int .i64 0, .string ⟨#[]⟩, .string ⟨#[]⟩, .string ⟨#[]⟩, .int .i64 0, .int .i64 0, .int .i64 0, .string ⟨#[]⟩, .bool false, .int .i64 0, .int .i64 0] 30)) = w2 at *
  have hre : w1.heap.size + 1 = w1.heap.size + 1 := rfl
  generalize w1.heap.size + 1 = eb at H hre ⊢
  generalize w1.heap.size = wb at *
  have hlt := H.out.n2
  have hlt0 := H.out.n0
  have hlt1 := H.out.n1
  have HN1 : Hid (∀ w, RV W wb eb [a0, a1, a2, a3, a4, a5, a6, a7, a8, a9] g cap w → Calls Tryz.prog 29 #[.int .i64 1, .pointer (some ⟨wb, 0, none⟩)] w fun e w' => e = .returned (.int .i64 (atoiN a1)) ∧ Below w.heap.size w w') := Lib.hid fun w h => rv_num (L := [a0, a1, a2, a3, a4, a5, a6, a7, a8, a9]) 1 (show 1 < 10 by decide) h
  have HN5 : Hid (∀ w, RV W wb eb [a0, a1, a2, a3, a4, a5, a6, a7, a8, a9] g cap w → Calls Tryz.prog 29 #[.int .i64 5, .pointer (some ⟨wb, 0, none⟩)] w fun e w' => e = .returned (.int .i64 (atoiN a5)) ∧ Below w.heap.size w w') := Lib.hid fun w h => rv_num (L := [a0, a1, a2, a3, a4, a5, a6, a7, a8, a9]) 5 (show 5 < 10 by decide) h
  have HN6 : Hid (∀ w, RV W wb eb [a0, a1, a2, a3, a4, a5, a6, a7, a8, a9] g cap w → Calls Tryz.prog 29 #[.int .i64 6, .pointer (some ⟨wb, 0, none⟩)] w fun e w' => e = .returned (.int .i64 (atoiN a6)) ∧ Below w.heap.size w w') := Lib.hid fun w h => rv_num (L := [a0, a1, a2, a3, a4, a5, a6, a7, a8, a9]) 6 (show 6 < 10 by decide) h
  have HN7 : Hid (∀ w, RV W wb eb [a0, a1, a2, a3, a4, a5, a6, a7, a8, a9] g cap w → Calls Tryz.prog 29 #[.int .i64 7, .pointer (some ⟨wb, 0, none⟩)] w fun e w' => e = .returned (.int .i64 (atoiN a7)) ∧ Below w.heap.size w w') := Lib.hid fun w h => rv_num (L := [a0, a1, a2, a3, a4, a5, a6, a7, a8, a9]) 7 (show 7 < 10 by decide) h
  have HT4 : Hid (∀ w, RV W wb eb [a0, a1, a2, a3, a4, a5, a6, a7, a8, a9] g cap w → Calls Tryz.prog 31 #[.int .i64 4, .pointer (some ⟨wb, 0, none⟩)] w fun e w' => e = .returned (.string (txt (unL a4))) ∧ w = w') := Lib.hid fun w h => rv_text (L := [a0, a1, a2, a3, a4, a5, a6, a7, a8, a9]) 4 (show 4 < 10 by decide) h
  have HT8 : Hid (∀ w, RV W wb eb [a0, a1, a2, a3, a4, a5, a6, a7, a8, a9] g cap w → Calls Tryz.prog 31 #[.int .i64 8, .pointer (some ⟨wb, 0, none⟩)] w fun e w' => e = .returned (.string (txt (unL a8))) ∧ w = w' ∧ RV W wb eb [a0, a1, a2, a3, a4, a5, a6, a7, a8, a9] g cap w' ∧ w'.cell? ⟨eb, 0, none⟩ = some (cellAt w' ⟨eb, 0, none⟩) ∧ w'.frozen? ⟨eb, 0, none⟩ = false ∧ w'.cell? ⟨eb, 1, none⟩ = some (cellAt w' ⟨eb, 1, none⟩) ∧ w'.frozen? ⟨eb, 1, none⟩ = false ∧ w'.cell? ⟨eb, 2, none⟩ = some (cellAt w' ⟨eb, 2, none⟩) ∧ w'.frozen? ⟨eb, 2, none⟩ = false ∧ w'.cell? ⟨eb, 3, none⟩ = some (cellAt w' ⟨eb, 3, none⟩) ∧ w'.frozen? ⟨eb, 3, none⟩ = false ∧ w'.cell? ⟨eb, 4, none⟩ = some (cellAt w' ⟨eb, 4, none⟩) ∧ w'.frozen? ⟨eb, 4, none⟩ = false ∧ w'.cell? ⟨eb, 5, none⟩ = some (cellAt w' ⟨eb, 5, none⟩) ∧ w'.frozen? ⟨eb, 5, none⟩ = false ∧ w'.cell? ⟨eb, 6, none⟩ = some (cellAt w' ⟨eb, 6, none⟩) ∧ w'.frozen? ⟨eb, 6, none⟩ = false ∧ w'.cell? ⟨eb, 7, none⟩ = some (cellAt w' ⟨eb, 7, none⟩) ∧ w'.frozen? ⟨eb, 7, none⟩ = false ∧ w'.cell? ⟨eb, 8, none⟩ = some (cellAt w' ⟨eb, 8, none⟩) ∧ w'.frozen? ⟨eb, 8, none⟩ = false ∧ w'.cell? ⟨eb, 9, none⟩ = some (cellAt w' ⟨eb, 9, none⟩) ∧ w'.frozen? ⟨eb, 9, none⟩ = false ∧ w'.cell? ⟨eb, 10, none⟩ = some (cellAt w' ⟨eb, 10, none⟩) ∧ w'.frozen? ⟨eb, 10, none⟩ = false ∧ w'.cell? ⟨eb, 11, none⟩ = some (cellAt w' ⟨eb, 11, none⟩) ∧ w'.frozen? ⟨eb, 11, none⟩ = false) := Lib.hid fun w h => (rv_text (L := [a0, a1, a2, a3, a4, a5, a6, a7, a8, a9]) 8 (show 8 < 10 by decide) h).mono fun e w' hh => ⟨hh.1, hh.2, hh.2 ▸ h, hh.2 ▸ h.all12⟩
  have e9 := p_list a9 49
  have hlc := H.out.le
  have hcap : 10 ≤ cap ∧ cap ≤ 9223372036854775807 := hlc
  obtain ⟨hcap1, hcap2⟩ := hcap
  clear hlc HSP
  have HD := H.out.drew
  clear hre
  go_region_held3 (fun w' => RV W wb eb [a0, a1, a2, a3, a4, a5, a6, a7, a8, a9] g cap w' ∧ w'.cell? ⟨wb, 0, none⟩ = some (.slice (some ⟨g, 0, none⟩) 10 cap) ∧ w'.cell? ⟨g, 2, none⟩ = some (.string (txt a2)) ∧ w'.cell? ⟨g, 3, none⟩ = some (.string (txt a3)) ∧ w'.cell? ⟨g, 9, none⟩ = some (.string (txt a9)))
    (first
      | with_reducible assumption
      | with_reducible exact RV.ten HD
      | with_reducible exact RV.ten (RV.keep (by assumption) (And.left (by assumption)))
      | with_reducible exact RV.ten (RV.put12 (And.left (by assumption)) _ _ _ _ _ _ _ _ _ _ _ _))
    (first
      | (go_at_call 29; with_reducible refine (HN1.out _ (And.left (by assumption))).mono ?_; rintro e w1 ⟨rfl, hb1⟩)
      | (go_at_call 29; with_reducible refine (HN5.out _ (And.left (by assumption))).mono ?_; rintro e w1 ⟨rfl, hb1⟩)
      | (go_at_call 29; with_reducible refine (HN6.out _ (And.left (by assumption))).mono ?_; rintro e w1 ⟨rfl, hb1⟩)
      | (go_at_call 29; with_reducible refine (HN7.out _ (And.left (by assumption))).mono ?_; rintro e w1 ⟨rfl, hb1⟩)
      | (go_at_call 31; with_reducible refine (HT4.out _ (And.left (by assumption))).mono ?_; rintro e w1 ⟨rfl, rfl⟩)
      | (go_at_call 31; with_reducible refine (HT8.out _ (And.left (by assumption))).mono ?_; rintro e w1 ⟨rfl, rfl, hrv8, x0, y0, x1, y1, x2, y2, x3, y3, x4, y4, x5, y5, x6, y6, x7, y7, x8, y8, x9, y9, x10, y10, x11, y11⟩))
  have H := Lib.hid (RV.toZ hrv8 ⟨1, ⟨atoiN a1, txt a2, txt a3, txt (unL a4), atoiN a5, atoiN a6, atoiN a7, txt (unL a8), decide (a9 = [49])⟩, 0, 0⟩)
  have H := Lib.hid (RV.toZ hrv8 ⟨1, ⟨atoiN a1, txt a2, txt a3, txt (unL a4), atoiN a5, atoiN a6, atoiN a7, txt (unL a8), decide (a9 = [49])⟩, 0, 0⟩)
  dsimp only at H
  clear x0 y0 x1 y1 x2 y2 x3 y3 x4 y4 x5 y5 x6 y6 x7 y7 x8 y8 x9 y9 x10 y10 x11 y11 hrv8 HN1 HN5 HN6 HN7 HT4 HT8 HD e9 hcap1 hcap2
  generalize ((((((((((((w1.setCell ⟨eb, 0, none⟩ (.int .i64 1)).setCell ⟨eb, 1, none⟩ (.int .i64 (atoiN a1))).setCell ⟨eb, 2, none⟩ (.string (txt a2))).setCell ⟨eb, 3, none⟩ (.string (txt a3))).setCell ⟨eb, 4, none⟩ (.string (txt (unL a4)))).setCell ⟨eb, 5, none⟩ (.int .i64 (atoiN a5))).setCell ⟨eb, 6, none⟩ (.int .i64 (atoiN a6))).setCell ⟨eb, 7, none⟩ (.int .i64 (atoiN a7))).setCell ⟨eb, 8, none⟩ (.string (txt (unL a8)))).setCell ⟨eb, 9, none⟩ (.bool (decide (a9 = [49])))).setCell ⟨eb, 10, none⟩ (.int .i64 0)).setCell ⟨eb, 11, none⟩ (.int .i64 0)) = wz at *
  generalize atoiN a1 = v1 at *
  generalize txt a2 = v2 at *
  generalize txt a3 = v3 at *
  generalize txt (unL a4) = v4 at *
  generalize atoiN a5 = v5 at *
  generalize atoiN a6 = v6 at *
  generalize atoiN a7 = v7 at *
  generalize txt (unL a8) = v8 at *
  generalize decide (a9 = [49]) = v9 at *
  obtain ⟨hc, hrc, hrf⟩ := H.out.facts
  have c0 := hc 0
  have r0 := hrc 0
  have q0 := hrf 0
  have c1 := hc 1
  have r1 := hrc 1
  have q1 := hrf 1
  have c2 := hc 2
  have r2 := hrc 2
  have q2 := hrf 2
  have c3 := hc 3
  have r3 := hrc 3
  have q3 := hrf 3
  have c4 := hc 4
  have r4 := hrc 4
  have q4 := hrf 4
  have c5 := hc 5
  have r5 := hrc 5
  have q5 := hrf 5
  have c6 := hc 6
  have r6 := hrc 6
  have q6 := hrf 6
  have c7 := hc 7
  have r7 := hrc 7
  have q7 := hrf 7
  have c8 := hc 8
  have r8 := hrc 8
  have q8 := hrf 8
  have c9 := hc 9
  have r9 := hrc 9
  have q9 := hrf 9
  have c10 := hc 10
  have r10 := hrc 10
  have q10 := hrf 10
  have c11 := hc 11
  have r11 := hrc 11
  have q11 := hrf 11
  clear hc hrc hrf
  unfold evCs at c0 c1 c2 c3 c4 c5 c6 c7 c8 c9 c10 c11
  unfold evCs Ev.zero Fam.zero at r0 r1 r2 r3 r4 r5 r6 r7 r8 r9 r10 r11
  dsimp only at c0 r0 c1 r1 c2 r2 c3 r3 c4 r4 c5 r5 c6 r6 c7 r7 c8 r8 c9 r9 c10 r10 c11 r11
  have hlt := H.out.lt
  go_wp2_with fail
  cases hbe : evB (⟨1, ⟨v1, v2, v3, v4, v5, v6, v7, v8, v9⟩, 0, 0⟩)
  · have HW := Lib.hid (HWN.out hbe)
    unfold evVal evCs at HW
    dsimp only at HW
    obtain ⟨rfl, rfl⟩ := HN.out (.inl hbe)
    go_at_call 7
    refine (HW.out _ H.out.wb.self).mono ?_
    rintro x w9 ⟨rfl, hb⟩
    have H := Lib.hid (H.out.keep hb)
    clear hb
    clear c0 r0 q0 c1 r1 q1 c2 r2 q2 c3 r3 q3 c4 r4 q4 c5 r5 q5 c6 r6 q6 c7 r7 q7 c8 r8 q8 c9 r9 q9 c10 r10 q10 c11 r11 q11
    obtain ⟨hc, hrc, hrf⟩ := H.out.facts
    have c0 := hc 0
    have r0 := hrc 0
    have q0 := hrf 0
    have c1 := hc 1
    have r1 := hrc 1
    have q1 := hrf 1
    have c2 := hc 2
    have r2 := hrc 2
    have q2 := hrf 2
    have c3 := hc 3
    have r3 := hrc 3
    have q3 := hrf 3
    have c4 := hc 4
    have r4 := hrc 4
    have q4 := hrf 4
    have c5 := hc 5
    have r5 := hrc 5
    have q5 := hrf 5
    have c6 := hc 6
    have r6 := hrc 6
    have q6 := hrf 6
    have c7 := hc 7
    have r7 := hrc 7
    have q7 := hrf 7
    have c8 := hc 8
    have r8 := hrc 8
    have q8 := hrf 8
    have c9 := hc 9
    have r9 := hrc 9
    have q9 := hrf 9
    have c10 := hc 10
    have r10 := hrc 10
    have q10 := hrf 10
    have c11 := hc 11
    have r11 := hrc 11
    have q11 := hrf 11
    clear hc hrc hrf
    unfold evCs at c0 c1 c2 c3 c4 c5 c6 c7 c8 c9 c10 c11
    unfold evCs Ev.zero Fam.zero at r0 r1 r2 r3 r4 r5 r6 r7 r8 r9 r10 r11
    dsimp only at c0 r0 c1 r1 c2 r2 c3 r3 c4 r4 c5 r5 c6 r6 c7 r7 c8 r8 c9 r9 c10 r10 c11 r11
    go_wp2_with fail
    exact refread_end (e := Ev.zero) (res_below (e' := Ev.zero) H.out.below) (res_sets (e' := Ev.zero) H.out.res) rfl rfl rfl
  · have HW := Lib.hid (HWY.out hbe)
    unfold evVal evCs at HW
    dsimp only at HW
    have hq := line_list (⟨1, ⟨v1, v2, v3, v4, v5, v6, v7, v8, v9⟩, 0, 0⟩) s
    generalize txt (evL (⟨1, ⟨v1, v2, v3, v4, v5, v6, v7, v8, v9⟩, 0, 0⟩)) = line at *
    go_at_call 7
    refine (HW.out _ H.out.wb.self).mono ?_
    rintro x w9 ⟨rfl, hb⟩
    have H := Lib.hid (H.out.keep hb)
    clear hb
    clear c0 r0 q0 c1 r1 q1 c2 r2 q2 c3 r3 q3 c4 r4 q4 c5 r5 q5 c6 r6 q6 c7 r7 q7 c8 r8 q8 c9 r9 q9 c10 r10 q10 c11 r11 q11
    obtain ⟨hc, hrc, hrf⟩ := H.out.facts
    have c0 := hc 0
    have r0 := hrc 0
    have q0 := hrf 0
    have c1 := hc 1
    have r1 := hrc 1
    have q1 := hrf 1
    have c2 := hc 2
    have r2 := hrc 2
    have q2 := hrf 2
    have c3 := hc 3
    have r3 := hrc 3
    have q3 := hrf 3
    have c4 := hc 4
    have r4 := hrc 4
    have q4 := hrf 4
    have c5 := hc 5
    have r5 := hrc 5
    have q5 := hrf 5
    have c6 := hc 6
    have r6 := hrc 6
    have q6 := hrf 6
    have c7 := hc 7
    have r7 := hrc 7
    have q7 := hrf 7
    have c8 := hc 8
    have r8 := hrc 8
    have q8 := hrf 8
    have c9 := hc 9
    have r9 := hrc 9
    have q9 := hrf 9
    have c10 := hc 10
    have r10 := hrc 10
    have q10 := hrf 10
    have c11 := hc 11
    have r11 := hrc 11
    have q11 := hrf 11
    clear hc hrc hrf
    unfold evCs at c0 c1 c2 c3 c4 c5 c6 c7 c8 c9 c10 c11
    unfold evCs Ev.zero Fam.zero at r0 r1 r2 r3 r4 r5 r6 r7 r8 r9 r10 r11
    dsimp only at c0 r0 c1 r1 c2 r2 c3 r3 c4 r4 c5 r5 c6 r6 c7 r7 c8 r8 c9 r9 c10 r10 c11 r11
    by_cases he : evL (⟨1, ⟨v1, v2, v3, v4, v5, v6, v7, v8, v9⟩, 0, 0⟩) = s.data.toList
    · rw [show decide (evL (⟨1, ⟨v1, v2, v3, v4, v5, v6, v7, v8, v9⟩, 0, 0⟩) = s.data.toList) = true by simpa using he] at hq
      obtain ⟨rfl, rfl⟩ := HY.out hbe he
      clear he
      go_wp2_with fail
      exact refread_end (e := ⟨1, ⟨v1, v2, v3, v4, v5, v6, v7, v8, v9⟩, 0, 0⟩) (res_below (e' := ⟨1, ⟨v1, v2, v3, v4, v5, v6, v7, v8, v9⟩, 0, 0⟩) H.out.below) (res_sets (e' := ⟨1, ⟨v1, v2, v3, v4, v5, v6, v7, v8, v9⟩, 0, 0⟩) H.out.res) rfl rfl rfl
    · rw [show decide (evL (⟨1, ⟨v1, v2, v3, v4, v5, v6, v7, v8, v9⟩, 0, 0⟩) = s.data.toList) = false by simpa using he] at hq
      obtain ⟨rfl, rfl⟩ := HN.out (.inr he)
      clear he
      go_wp2_with fail
      exact refread_end (e := Ev.zero) (res_below (e' := Ev.zero) H.out.below) (res_sets (e' := Ev.zero) H.out.res) rfl rfl rfl
end Go.Proofs.YtklpmoimckblcaaGreatDoor
