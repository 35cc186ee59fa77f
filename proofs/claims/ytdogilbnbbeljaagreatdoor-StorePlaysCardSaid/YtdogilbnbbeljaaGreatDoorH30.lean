/-
  event.Read at a line of a family that is put.
-/
import Derived.Test.YtdogilbnbbeljaaGreatDoorH29
namespace Go.Proofs.YtdogilbnbbeljaaGreatDoor
open Go.RowKit Go.Sort

theorem read_start (s : ByteArray) (W : World) (hs : s.size ≤ 1000) (h : WB W W) (he : ErrVars W) :
    Calls Tryz.prog 49 #[.string s, .string ⟨#[32]⟩] (W.alloc (.cells (evCs Ev.zero) 42)) fun x w1 => ∃ g cap, x = .returned (.slice (some ⟨g, 0, none⟩) (parts 32 s.data.toList).length cap) ∧
      RE W w1.heap.size (w1.heap.size + 1) (parts 32 s.data.toList, false) Ev.zero ((w1.alloc (.cells #[.slice (some ⟨g, 0, none⟩) (parts 32 s.data.toList).length cap, .bool false] 143)).alloc (.cells (evCs Ev.zero) 42)) := by
  have hz : (W.alloc (.cells (evCs Ev.zero) 42)).heap.size = W.heap.size + 1 := by simp
  have hb0 : Below W.heap.size W (W.alloc (.cells (evCs Ev.zero) 42)) := (Below.refl _ _).alloc (Nat.le_refl _) _
  have hsm : ∀ x ∈ parts 32 s.data.toList, x.length ≤ 1000 := parts_word_len 32 _ _ (by rw [size_data]; exact hs)
  refine (split_row 32 s (W.heap.size + 1) (W.alloc (.cells (evCs Ev.zero) 42)) (by omega) (h.maxl.below hb0 h.maxl.lt) (by omega)).mono ?_
  rintro x w1 ⟨v, rfl, hr, hb⟩
  obtain ⟨g, cap, rfl, _⟩ := id hr
  exact ⟨g, cap, rfl, RE.start h he hsm hr (by rw [← hz]; exact hb)⟩
theorem p_list (x : List UInt8) (c : UInt8) : ((txt x).toList == [c]) = decide (x = [c]) := by
  rw [toList_txt, Bool.eq_iff_iff]
  simp

set_option maxHeartbeats 8000000 in
set_option maxRecDepth 100000 in
theorem read_p (s : ByteArray) (W : World) (hs : s.size ≤ 1000) (h : WB W W) (he : ErrVars W) (hp : nextV (parts 32 s.data.toList, false) = [112]) :
    Calls Tryz.prog 51 #[.string s] W (ReadGot W (progRE (parts 32 s.data.toList, false)) (progRN (parts 32 s.data.toList, false))) := by
  have HSP := Lib.hid (read_start s W hs h he)
  have hE : progE (parts 32 s.data.toList, false) = (⟨1, famV (nextS (parts 32 s.data.toList, false)), 0, 0⟩, famS (nextS (parts 32 s.data.toList, false))) := by unfold progE; rw [if_pos hp]
  have HSH := Lib.hid (progE_short (st := (parts 32 s.data.toList, false)) (parts_word_len 32 _ _ (by rw [size_data]; exact hs)))
  have HY := Lib.hid (@prog_yes (parts 32 s.data.toList, false))
  have HN := Lib.hid (@prog_no (parts 32 s.data.toList, false))
  rw [hE] at HY HN HSH
  clear h he hE
  generalize progRE (parts 32 s.data.toList, false) = eR at *
  generalize progRN (parts 32 s.data.toList, false) = nR at *
  have HP : Hid (txt (nextV (parts 32 s.data.toList, false)) = ⟨#[112]⟩) := Lib.hid (by rw [hp]; rfl)
  clear hp
  generalize parts 32 s.data.toList = L at *
  unfold evCs Ev.zero Fam.zero at HSP
  dsimp only at HSP
  go_enter Tryz.func51, Tryz.ntmps51
  go_wp2_with fail
  go_at_call 49
  refine HSP.out.mono ?_
  rintro x w1 ⟨g, cap, rfl, h1⟩
  have H := Lib.hid h1
  clear h1
  go_wp2_with fail
  generalize ((w1.alloc (.cells #[.slice (some ⟨g, 0, none⟩) L.length cap, .bool false] 143)).alloc (.cells #[.int .i64 0, .int .i64 0, .string ⟨#[]⟩, .string ⟨#[]⟩, .string ⟨#[]⟩, .int .i64 0, .int .i64 0, .int .i64 0, .string ⟨#[]⟩, .bool false, .int .i64 0, .int .i64 0] 42)) = w2 at *
  have hre : w1.heap.size + 1 = w1.heap.size + 1 := rfl
  generalize w1.heap.size + 1 = eb at H hre ⊢
  generalize w1.heap.size = rb at *
  go_at_call 74
  refine (rs_next H.out.rs).mono ?_
  rintro x w3 ⟨rfl, hr, hg⟩
  have H := Lib.hid (H.out.turn hr hg)
  clear hr hg
  rw [HP.out]
  generalize nextS (L, false) = st at *
  have c0 := H.out.ev.cell 0
  have f0 := H.out.ev.frozen 0
  unfold evCs at c0
  go_wp2_with fail
  have H := Lib.hid (H.out.set 0 (.int .i64 1) (e' := ⟨1, Fam.zero, 0, 0⟩) rfl)
  clear c0 f0
  generalize w3.setCell ⟨eb, 0, none⟩ (.int .i64 1) = w4 at *
  go_at_call 75
  refine (rs_num H.out.rs).mono ?_
  rintro x w5 ⟨rfl, hr, hg⟩
  have H := Lib.hid (H.out.turn hr hg)
  clear hr hg
  go_wp2_with fail
  go_at_call 76
  refine (rs_text H.out.rs).mono ?_
  rintro x w5 ⟨rfl, hr, hg⟩
  have H := Lib.hid (H.out.turn hr hg)
  clear hr hg
  go_wp2_with fail
  go_at_call 76
  refine (rs_text H.out.rs).mono ?_
  rintro x w5 ⟨rfl, hr, hg⟩
  have H := Lib.hid (H.out.turn hr hg)
  clear hr hg
  go_wp2_with fail
  go_at_call 76
  refine (rs_text H.out.rs).mono ?_
  rintro x w5 ⟨rfl, hr, hg⟩
  have H := Lib.hid (H.out.turn hr hg)
  clear hr hg
  go_wp2_with fail
  go_at_call 75
  refine (rs_num H.out.rs).mono ?_
  rintro x w5 ⟨rfl, hr, hg⟩
  have H := Lib.hid (H.out.turn hr hg)
  clear hr hg
  go_wp2_with fail
  go_at_call 75
  refine (rs_num H.out.rs).mono ?_
  rintro x w5 ⟨rfl, hr, hg⟩
  have H := Lib.hid (H.out.turn hr hg)
  clear hr hg
  go_wp2_with fail
  go_at_call 75
  refine (rs_num H.out.rs).mono ?_
  rintro x w5 ⟨rfl, hr, hg⟩
  have H := Lib.hid (H.out.turn hr hg)
  clear hr hg
  go_wp2_with fail
  go_at_call 76
  refine (rs_text H.out.rs).mono ?_
  rintro x w5 ⟨rfl, hr, hg⟩
  have H := Lib.hid (H.out.turn hr hg)
  clear hr hg
  have hfv : famV st = ⟨numV st, txt (textV (numS st)), txt (textV (textS (numS st))), txt (textV (textS (textS (numS st)))), numV (textS (textS (textS (numS st)))), numV (numS (textS (textS (textS (numS st))))), numV (numS (numS (textS (textS (textS (numS st)))))), txt (textV (numS (numS (numS (textS (textS (textS (numS st)))))))), decide (nextV (textS (numS (numS (numS (textS (textS (textS (numS st)))))))) = [49])⟩ := rfl
  have hfs : famS st = ((nextS (textS (numS (numS (numS (textS (textS (textS (numS st))))))))).1, (nextS (textS (numS (numS (numS (textS (textS (textS (numS st))))))))).2 || (!decide (nextV (textS (numS (numS (numS (textS (textS (textS (numS st)))))))) = [48]) && !decide (nextV (textS (numS (numS (numS (textS (textS (textS (numS st)))))))) = [49]))) := rfl
  rw [hfv, hfs] at HY HN
  rw [hfv] at HSH
  clear hfv hfs
  generalize textS (numS (numS (numS (textS (textS (textS (numS st))))))) = s8 at *
  generalize numV st = v1 at *
  generalize txt (textV (numS st)) = v2 at *
  generalize txt (textV (textS (numS st))) = v3 at *
  generalize txt (textV (textS (textS (numS st)))) = v4 at *
  generalize numV (textS (textS (textS (numS st)))) = v5 at *
  generalize numV (numS (textS (textS (textS (numS st))))) = v6 at *
  generalize numV (numS (numS (textS (textS (textS (numS st)))))) = v7 at *
  generalize txt (textV (numS (numS (numS (textS (textS (textS (numS st)))))))) = v8 at *
  obtain ⟨hc, hf, _, _⟩ := H.out.facts
  have c1 := hc 1
  have c2 := hc 2
  have c3 := hc 3
  have c4 := hc 4
  have c5 := hc 5
  have c6 := hc 6
  have c7 := hc 7
  have c8 := hc 8
  have c9 := hc 9
  have f1 := hf 1
  have f2 := hf 2
  have f3 := hf 3
  have f4 := hf 4
  have f5 := hf 5
  have f6 := hf 6
  have f7 := hf 7
  have f8 := hf 8
  have f9 := hf 9
  clear hc hf
  unfold evCs Fam.zero at c1 c2 c3 c4 c5 c6 c7 c8 c9
  dsimp only at c1 c2 c3 c4 c5 c6 c7 c8 c9
  go_wp2_with fail
  have H := Lib.hid (H.out.fam ⟨v1, v2, v3, v4, v5, v6, v7, v8, false⟩)
  dsimp only at H
  clear c1 c2 c3 c4 c5 c6 c7 c8 c9 f1 f2 f3 f4 f5 f6 f7 f8 f9
  generalize (((((((((w5.setCell ⟨eb, 1, none⟩ (.int .i64 v1)).setCell ⟨eb, 2, none⟩ (.string v2)).setCell ⟨eb, 3, none⟩ (.string v3)).setCell ⟨eb, 4, none⟩ (.string v4)).setCell ⟨eb, 5, none⟩ (.int .i64 v5)).setCell ⟨eb, 6, none⟩ (.int .i64 v6)).setCell ⟨eb, 7, none⟩ (.int .i64 v7)).setCell ⟨eb, 8, none⟩ (.string v8)).setCell ⟨eb, 9, none⟩ (.bool false)) = w6 at *
  go_at_call 74
  refine (rs_next H.out.rs).mono ?_
  rintro x w7 ⟨rfl, hr, hg⟩
  have H := Lib.hid (H.out.turn hr hg)
  clear hr hg
  have e48 := p_list (nextV s8) 48
  have e49 := p_list (nextV s8) 49
  generalize decide (nextV s8 = [48]) = d48 at *
  generalize decide (nextV s8 = [49]) = d49 at *
  generalize txt (nextV s8) = y at *
  generalize nextS s8 = s9 at *
  obtain ⟨ws9, b9⟩ := s9
  dsimp only at HY HN HSH
  have hlt := H.out.n2
  have hlt1 := H.out.n1
  have hcases : (b9 = true ∨ (b9 = false ∧ d48 = false ∧ d49 = false)) ∨ (b9 = false ∧ d48 = true) ∨ (b9 = false ∧ d48 = false ∧ d49 = true) := by
    cases b9 <;> cases d48 <;> cases d49 <;> simp
  rcases hcases with (rfl | ⟨rfl, rfl, rfl⟩) | ⟨rfl, rfl⟩ | ⟨rfl, rfl, rfl⟩
  · obtain ⟨rfl, rfl⟩ := HN.out (.inl (by simp))
    obtain ⟨hc, hf, hrc, hrf⟩ := H.out.facts
    obtain ⟨A, cap2, k0, k1, k2⟩ := H.out.words
    have c0 := hc 0
    have f0 := hf 0
    have r0 := hrc 0
    have q0 := hrf 0
    have c1 := hc 1
    have f1 := hf 1
    have r1 := hrc 1
    have q1 := hrf 1
    have c2 := hc 2
    have f2 := hf 2
    have r2 := hrc 2
    have q2 := hrf 2
    have c3 := hc 3
    have f3 := hf 3
    have r3 := hrc 3
    have q3 := hrf 3
    have c4 := hc 4
    have f4 := hf 4
    have r4 := hrc 4
    have q4 := hrf 4
    have c5 := hc 5
    have f5 := hf 5
    have r5 := hrc 5
    have q5 := hrf 5
    have c6 := hc 6
    have f6 := hf 6
    have r6 := hrc 6
    have q6 := hrf 6
    have c7 := hc 7
    have f7 := hf 7
    have r7 := hrc 7
    have q7 := hrf 7
    have c8 := hc 8
    have f8 := hf 8
    have r8 := hrc 8
    have q8 := hrf 8
    have c9 := hc 9
    have f9 := hf 9
    have r9 := hrc 9
    have q9 := hrf 9
    have c10 := hc 10
    have f10 := hf 10
    have r10 := hrc 10
    have q10 := hrf 10
    have c11 := hc 11
    have f11 := hf 11
    have r11 := hrc 11
    have q11 := hrf 11
    clear hc hf hrc hrf
    unfold evCs at c0 c1 c2 c3 c4 c5 c6 c7 c8 c9 c10 c11
    unfold evCs Ev.zero Fam.zero at r0 r1 r2 r3 r4 r5 r6 r7 r8 r9 r10 r11
    dsimp only at c0 c1 c2 c3 c4 c5 c6 c7 c8 c9 c10 c11 r0 r1 r2 r3 r4 r5 r6 r7 r8 r9 r10 r11 k0 k1
    go_wp2_with fail
    have H := Lib.hid (H.out.set 9 (.bool d49) (e' := ⟨1, ⟨v1, v2, v3, v4, v5, v6, v7, v8, d49⟩, 0, 0⟩) rfl)
    have H := Lib.hid (H.out.setBad true)
    exact read_end (e := Ev.zero) (res_below (e' := Ev.zero) H.out.rs.below) (res_sets (e' := Ev.zero) H.out.res) rfl rfl rfl
  · obtain ⟨rfl, rfl⟩ := HN.out (.inl (by simp))
    obtain ⟨hc, hf, hrc, hrf⟩ := H.out.facts
    obtain ⟨A, cap2, k0, k1, k2⟩ := H.out.words
    have c0 := hc 0
    have f0 := hf 0
    have r0 := hrc 0
    have q0 := hrf 0
    have c1 := hc 1
    have f1 := hf 1
    have r1 := hrc 1
    have q1 := hrf 1
    have c2 := hc 2
    have f2 := hf 2
    have r2 := hrc 2
    have q2 := hrf 2
    have c3 := hc 3
    have f3 := hf 3
    have r3 := hrc 3
    have q3 := hrf 3
    have c4 := hc 4
    have f4 := hf 4
    have r4 := hrc 4
    have q4 := hrf 4
    have c5 := hc 5
    have f5 := hf 5
    have r5 := hrc 5
    have q5 := hrf 5
    have c6 := hc 6
    have f6 := hf 6
    have r6 := hrc 6
    have q6 := hrf 6
    have c7 := hc 7
    have f7 := hf 7
    have r7 := hrc 7
    have q7 := hrf 7
    have c8 := hc 8
    have f8 := hf 8
    have r8 := hrc 8
    have q8 := hrf 8
    have c9 := hc 9
    have f9 := hf 9
    have r9 := hrc 9
    have q9 := hrf 9
    have c10 := hc 10
    have f10 := hf 10
    have r10 := hrc 10
    have q10 := hrf 10
    have c11 := hc 11
    have f11 := hf 11
    have r11 := hrc 11
    have q11 := hrf 11
    clear hc hf hrc hrf
    unfold evCs at c0 c1 c2 c3 c4 c5 c6 c7 c8 c9 c10 c11
    unfold evCs Ev.zero Fam.zero at r0 r1 r2 r3 r4 r5 r6 r7 r8 r9 r10 r11
    dsimp only at c0 c1 c2 c3 c4 c5 c6 c7 c8 c9 c10 c11 r0 r1 r2 r3 r4 r5 r6 r7 r8 r9 r10 r11 k0 k1
    go_wp2_with fail
    have H := Lib.hid (H.out.set 9 (.bool false) (e' := ⟨1, ⟨v1, v2, v3, v4, v5, v6, v7, v8, false⟩, 0, 0⟩) rfl)
    have H := Lib.hid (H.out.setBad true)
    exact read_end (e := Ev.zero) (res_below (e' := Ev.zero) H.out.rs.below) (res_sets (e' := Ev.zero) H.out.res) rfl rfl rfl
  · obtain ⟨hc, hf, hrc, hrf⟩ := H.out.facts
    obtain ⟨A, cap2, k0, k1, k2⟩ := H.out.words
    have c0 := hc 0
    have f0 := hf 0
    have r0 := hrc 0
    have q0 := hrf 0
    have c1 := hc 1
    have f1 := hf 1
    have r1 := hrc 1
    have q1 := hrf 1
    have c2 := hc 2
    have f2 := hf 2
    have r2 := hrc 2
    have q2 := hrf 2
    have c3 := hc 3
    have f3 := hf 3
    have r3 := hrc 3
    have q3 := hrf 3
    have c4 := hc 4
    have f4 := hf 4
    have r4 := hrc 4
    have q4 := hrf 4
    have c5 := hc 5
    have f5 := hf 5
    have r5 := hrc 5
    have q5 := hrf 5
    have c6 := hc 6
    have f6 := hf 6
    have r6 := hrc 6
    have q6 := hrf 6
    have c7 := hc 7
    have f7 := hf 7
    have r7 := hrc 7
    have q7 := hrf 7
    have c8 := hc 8
    have f8 := hf 8
    have r8 := hrc 8
    have q8 := hrf 8
    have c9 := hc 9
    have f9 := hf 9
    have r9 := hrc 9
    have q9 := hrf 9
    have c10 := hc 10
    have f10 := hf 10
    have r10 := hrc 10
    have q10 := hrf 10
    have c11 := hc 11
    have f11 := hf 11
    have r11 := hrc 11
    have q11 := hrf 11
    clear hc hf hrc hrf
    unfold evCs at c0 c1 c2 c3 c4 c5 c6 c7 c8 c9 c10 c11
    unfold evCs Ev.zero Fam.zero at r0 r1 r2 r3 r4 r5 r6 r7 r8 r9 r10 r11
    dsimp only at c0 c1 c2 c3 c4 c5 c6 c7 c8 c9 c10 c11 r0 r1 r2 r3 r4 r5 r6 r7 r8 r9 r10 r11 k0 k1
    by_cases hw : ws9.length = 0
    · have HRT := Lib.hid (fun w (hm : MaxL w) => ev_right ⟨1, ⟨v1, v2, v3, v4, v5, v6, v7, v8, d49⟩, 0, 0⟩ w HSH.out hm)
      have H8 := Lib.hid ((H.out.set 9 (.bool d49) (e' := ⟨1, ⟨v1, v2, v3, v4, v5, v6, v7, v8, d49⟩, 0, 0⟩) rfl).setBad false)
      generalize hbe : evB ⟨1, ⟨v1, v2, v3, v4, v5, v6, v7, v8, d49⟩, 0, 0⟩ = bE at *
      unfold evVal evCs at HRT
      dsimp only at HRT
      clear hbe
      go_wp2_with fail
      generalize (w7.setCell ⟨eb, 9, none⟩ (.bool d49)).setCell ⟨rb, 1, none⟩ (.bool false) = w8 at *
      go_at_call 53
      refine (HRT.out _ H8.out.rs.wb.maxl).mono ?_
      rintro x w9 ⟨rfl, hb⟩
      have H := Lib.hid (H8.out.keep hb)
      clear hb H8
      clear c0 f0 r0 q0 c1 f1 r1 q1 c2 f2 r2 q2 c3 f3 r3 q3 c4 f4 r4 q4 c5 f5 r5 q5 c6 f6 r6 q6 c7 f7 r7 q7 c8 f8 r8 q8 c9 f9 r9 q9 c10 f10 r10 q10 c11 f11 r11 q11 k0 k1 k2
      obtain ⟨hc, hf, hrc, hrf⟩ := H.out.facts
      obtain ⟨A, cap2, k0, k1, k2⟩ := H.out.words
      have c0 := hc 0
      have f0 := hf 0
      have r0 := hrc 0
      have q0 := hrf 0
      have c1 := hc 1
      have f1 := hf 1
      have r1 := hrc 1
      have q1 := hrf 1
      have c2 := hc 2
      have f2 := hf 2
      have r2 := hrc 2
      have q2 := hrf 2
      have c3 := hc 3
      have f3 := hf 3
      have r3 := hrc 3
      have q3 := hrf 3
      have c4 := hc 4
      have f4 := hf 4
      have r4 := hrc 4
      have q4 := hrf 4
      have c5 := hc 5
      have f5 := hf 5
      have r5 := hrc 5
      have q5 := hrf 5
      have c6 := hc 6
      have f6 := hf 6
      have r6 := hrc 6
      have q6 := hrf 6
      have c7 := hc 7
      have f7 := hf 7
      have r7 := hrc 7
      have q7 := hrf 7
      have c8 := hc 8
      have f8 := hf 8
      have r8 := hrc 8
      have q8 := hrf 8
      have c9 := hc 9
      have f9 := hf 9
      have r9 := hrc 9
      have q9 := hrf 9
      have c10 := hc 10
      have f10 := hf 10
      have r10 := hrc 10
      have q10 := hrf 10
      have c11 := hc 11
      have f11 := hf 11
      have r11 := hrc 11
      have q11 := hrf 11
      clear hc hf hrc hrf
      unfold evCs at c0 c1 c2 c3 c4 c5 c6 c7 c8 c9 c10 c11
      unfold evCs Ev.zero Fam.zero at r0 r1 r2 r3 r4 r5 r6 r7 r8 r9 r10 r11
      dsimp only at c0 c1 c2 c3 c4 c5 c6 c7 c8 c9 c10 c11 r0 r1 r2 r3 r4 r5 r6 r7 r8 r9 r10 r11 k0 k1
      cases bE
      · obtain ⟨rfl, rfl⟩ := HN.out (.inr (.inr rfl))
        go_wp2_with fail
        exact read_end (e := Ev.zero) (res_below (e' := Ev.zero) H.out.rs.below) (res_sets (e' := Ev.zero) H.out.res) rfl rfl rfl
      · obtain ⟨rfl, rfl⟩ := HY.out (by simp) hw rfl
        go_wp2_with fail
        exact read_end (e := ⟨1, ⟨v1, v2, v3, v4, v5, v6, v7, v8, d49⟩, 0, 0⟩) (res_below (e' := ⟨1, ⟨v1, v2, v3, v4, v5, v6, v7, v8, d49⟩, 0, 0⟩) H.out.rs.below) (res_sets (e' := ⟨1, ⟨v1, v2, v3, v4, v5, v6, v7, v8, d49⟩, 0, 0⟩) H.out.res) rfl rfl rfl
    · obtain ⟨rfl, rfl⟩ := HN.out (.inr (.inl hw))
      go_wp2_with fail
      have H := Lib.hid ((H.out.set 9 (.bool d49) (e' := ⟨1, ⟨v1, v2, v3, v4, v5, v6, v7, v8, d49⟩, 0, 0⟩) rfl).setBad false)
      exact read_end (e := Ev.zero) (res_below (e' := Ev.zero) H.out.rs.below) (res_sets (e' := Ev.zero) H.out.res) rfl rfl rfl
  · obtain ⟨hc, hf, hrc, hrf⟩ := H.out.facts
    obtain ⟨A, cap2, k0, k1, k2⟩ := H.out.words
    have c0 := hc 0
    have f0 := hf 0
    have r0 := hrc 0
    have q0 := hrf 0
    have c1 := hc 1
    have f1 := hf 1
    have r1 := hrc 1
    have q1 := hrf 1
    have c2 := hc 2
    have f2 := hf 2
    have r2 := hrc 2
    have q2 := hrf 2
    have c3 := hc 3
    have f3 := hf 3
    have r3 := hrc 3
    have q3 := hrf 3
    have c4 := hc 4
    have f4 := hf 4
    have r4 := hrc 4
    have q4 := hrf 4
    have c5 := hc 5
    have f5 := hf 5
    have r5 := hrc 5
    have q5 := hrf 5
    have c6 := hc 6
    have f6 := hf 6
    have r6 := hrc 6
    have q6 := hrf 6
    have c7 := hc 7
    have f7 := hf 7
    have r7 := hrc 7
    have q7 := hrf 7
    have c8 := hc 8
    have f8 := hf 8
    have r8 := hrc 8
    have q8 := hrf 8
    have c9 := hc 9
    have f9 := hf 9
    have r9 := hrc 9
    have q9 := hrf 9
    have c10 := hc 10
    have f10 := hf 10
    have r10 := hrc 10
    have q10 := hrf 10
    have c11 := hc 11
    have f11 := hf 11
    have r11 := hrc 11
    have q11 := hrf 11
    clear hc hf hrc hrf
    unfold evCs at c0 c1 c2 c3 c4 c5 c6 c7 c8 c9 c10 c11
    unfold evCs Ev.zero Fam.zero at r0 r1 r2 r3 r4 r5 r6 r7 r8 r9 r10 r11
    dsimp only at c0 c1 c2 c3 c4 c5 c6 c7 c8 c9 c10 c11 r0 r1 r2 r3 r4 r5 r6 r7 r8 r9 r10 r11 k0 k1
    by_cases hw : ws9.length = 0
    · have HRT := Lib.hid (fun w (hm : MaxL w) => ev_right ⟨1, ⟨v1, v2, v3, v4, v5, v6, v7, v8, true⟩, 0, 0⟩ w HSH.out hm)
      have H8 := Lib.hid ((H.out.set 9 (.bool true) (e' := ⟨1, ⟨v1, v2, v3, v4, v5, v6, v7, v8, true⟩, 0, 0⟩) rfl).setBad false)
      generalize hbe : evB ⟨1, ⟨v1, v2, v3, v4, v5, v6, v7, v8, true⟩, 0, 0⟩ = bE at *
      unfold evVal evCs at HRT
      dsimp only at HRT
      clear hbe
      go_wp2_with fail
      generalize (w7.setCell ⟨eb, 9, none⟩ (.bool true)).setCell ⟨rb, 1, none⟩ (.bool false) = w8 at *
      go_at_call 53
      refine (HRT.out _ H8.out.rs.wb.maxl).mono ?_
      rintro x w9 ⟨rfl, hb⟩
      have H := Lib.hid (H8.out.keep hb)
      clear hb H8
      clear c0 f0 r0 q0 c1 f1 r1 q1 c2 f2 r2 q2 c3 f3 r3 q3 c4 f4 r4 q4 c5 f5 r5 q5 c6 f6 r6 q6 c7 f7 r7 q7 c8 f8 r8 q8 c9 f9 r9 q9 c10 f10 r10 q10 c11 f11 r11 q11 k0 k1 k2
      obtain ⟨hc, hf, hrc, hrf⟩ := H.out.facts
      obtain ⟨A, cap2, k0, k1, k2⟩ := H.out.words
      have c0 := hc 0
      have f0 := hf 0
      have r0 := hrc 0
      have q0 := hrf 0
      have c1 := hc 1
      have f1 := hf 1
      have r1 := hrc 1
      have q1 := hrf 1
      have c2 := hc 2
      have f2 := hf 2
      have r2 := hrc 2
      have q2 := hrf 2
      have c3 := hc 3
      have f3 := hf 3
      have r3 := hrc 3
      have q3 := hrf 3
      have c4 := hc 4
      have f4 := hf 4
      have r4 := hrc 4
      have q4 := hrf 4
      have c5 := hc 5
      have f5 := hf 5
      have r5 := hrc 5
      have q5 := hrf 5
      have c6 := hc 6
      have f6 := hf 6
      have r6 := hrc 6
      have q6 := hrf 6
      have c7 := hc 7
      have f7 := hf 7
      have r7 := hrc 7
      have q7 := hrf 7
      have c8 := hc 8
      have f8 := hf 8
      have r8 := hrc 8
      have q8 := hrf 8
      have c9 := hc 9
      have f9 := hf 9
      have r9 := hrc 9
      have q9 := hrf 9
      have c10 := hc 10
      have f10 := hf 10
      have r10 := hrc 10
      have q10 := hrf 10
      have c11 := hc 11
      have f11 := hf 11
      have r11 := hrc 11
      have q11 := hrf 11
      clear hc hf hrc hrf
      unfold evCs at c0 c1 c2 c3 c4 c5 c6 c7 c8 c9 c10 c11
      unfold evCs Ev.zero Fam.zero at r0 r1 r2 r3 r4 r5 r6 r7 r8 r9 r10 r11
      dsimp only at c0 c1 c2 c3 c4 c5 c6 c7 c8 c9 c10 c11 r0 r1 r2 r3 r4 r5 r6 r7 r8 r9 r10 r11 k0 k1
      cases bE
      · obtain ⟨rfl, rfl⟩ := HN.out (.inr (.inr rfl))
        go_wp2_with fail
        exact read_end (e := Ev.zero) (res_below (e' := Ev.zero) H.out.rs.below) (res_sets (e' := Ev.zero) H.out.res) rfl rfl rfl
      · obtain ⟨rfl, rfl⟩ := HY.out (by simp) hw rfl
        go_wp2_with fail
        exact read_end (e := ⟨1, ⟨v1, v2, v3, v4, v5, v6, v7, v8, true⟩, 0, 0⟩) (res_below (e' := ⟨1, ⟨v1, v2, v3, v4, v5, v6, v7, v8, true⟩, 0, 0⟩) H.out.rs.below) (res_sets (e' := ⟨1, ⟨v1, v2, v3, v4, v5, v6, v7, v8, true⟩, 0, 0⟩) H.out.res) rfl rfl rfl
    · obtain ⟨rfl, rfl⟩ := HN.out (.inr (.inl hw))
      go_wp2_with fail
      have H := Lib.hid ((H.out.set 9 (.bool true) (e' := ⟨1, ⟨v1, v2, v3, v4, v5, v6, v7, v8, true⟩, 0, 0⟩) rfl).setBad false)
      exact read_end (e := Ev.zero) (res_below (e' := Ev.zero) H.out.rs.below) (res_sets (e' := Ev.zero) H.out.res) rfl rfl rfl
end Go.Proofs.YtdogilbnbbeljaaGreatDoor
