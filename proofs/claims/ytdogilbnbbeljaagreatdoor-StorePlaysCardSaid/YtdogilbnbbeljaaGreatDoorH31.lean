/-
  event.Read at a number that is dropped, at the time, at another text; and at all.
-/
import Derived.Test.YtdogilbnbbeljaaGreatDoorH30
namespace Go.Proofs.YtdogilbnbbeljaaGreatDoor
open Go.RowKit Go.Sort

set_option maxHeartbeats 8000000 in
set_option maxRecDepth 100000 in
theorem read_d (s : ByteArray) (W : World) (hs : s.size ≤ 1000) (h : WB W W) (he : ErrVars W) (hp : nextV (parts 32 s.data.toList, false) = [100]) :
    Calls Tryz.prog 51 #[.string s] W (ReadGot W (progRE (parts 32 s.data.toList, false)) (progRN (parts 32 s.data.toList, false))) := by
  have HSP := Lib.hid (read_start s W hs h he)
  have hE : progE (parts 32 s.data.toList, false) = (⟨2, Fam.zero, numV (nextS (parts 32 s.data.toList, false)), 0⟩, numS (nextS (parts 32 s.data.toList, false))) := by unfold progE; rw [if_neg (by rw [hp]; decide), if_pos hp]
  have HSH := Lib.hid (progE_short (st := (parts 32 s.data.toList, false)) (parts_word_len 32 _ _ (by rw [size_data]; exact hs)))
  have HY := Lib.hid (@prog_yes (parts 32 s.data.toList, false))
  have HN := Lib.hid (@prog_no (parts 32 s.data.toList, false))
  rw [hE] at HY HN HSH
  clear h he hE
  generalize progRE (parts 32 s.data.toList, false) = eR at *
  generalize progRN (parts 32 s.data.toList, false) = nR at *
  have HP : Hid (txt (nextV (parts 32 s.data.toList, false)) = ⟨#[100]⟩) := Lib.hid (by rw [hp]; rfl)
  clear hp
  generalize parts 32 s.data.toList = L at *
  unfold evCs Ev.zero Fam.zero at HSP
  dsimp only at HSP
  go_enter Tryz.func51, Tryz.ntmps51
  go_wp2_with fail
  go_at_call 49
  refine HSP.out.mono ?_
  rintro x w1 ⟨g, cap, rfl, h1⟩
  have H := Lib.hid h1
  clear h1
  go_wp2_with fail
  generalize ((w1.alloc (.cells #[.slice (some ⟨g, 0, none⟩) L.length cap, .bool false] 143)).alloc (.cells #[.int .i64 0, .int .i64 0, .string ⟨#[]⟩, .string ⟨#[]⟩, .string ⟨#[]⟩, .int .i64 0, .int .i64 0, .int .i64 0, .string ⟨#[]⟩, .bool false, .int .i64 0, .int .i64 0] 42)) = w2 at *
  have hre : w1.heap.size + 1 = w1.heap.size + 1 := rfl
  generalize w1.heap.size + 1 = eb at H hre ⊢
  generalize w1.heap.size = rb at *
  go_at_call 74
  refine (rs_next H.out.rs).mono ?_
  rintro x w3 ⟨rfl, hr, hg⟩
  have H := Lib.hid (H.out.turn hr hg)
  clear hr hg
  rw [HP.out]
  generalize nextS (L, false) = st at *
  go_wp2_with fail
  go_at_call 75
  refine (rs_num H.out.rs).mono ?_
  rintro x w7 ⟨rfl, hr, hg⟩
  have H := Lib.hid (H.out.turn hr hg)
  clear hr hg
  generalize numV st = v1 at *
  generalize numS st = s9 at *
  obtain ⟨ws9, b9⟩ := s9
  dsimp only at HY HN HSH
  have hlt := H.out.n2
  have hlt1 := H.out.n1
  obtain ⟨hc, hf, hrc, hrf⟩ := H.out.facts
  obtain ⟨A, cap2, k0, k1, k2⟩ := H.out.words
  have c0 := hc 0
  have f0 := hf 0
  have r0 := hrc 0
  have q0 := hrf 0
  have c1 := hc 1
  have f1 := hf 1
  have r1 := hrc 1
  have q1 := hrf 1
  have c2 := hc 2
  have f2 := hf 2
  have r2 := hrc 2
  have q2 := hrf 2
  have c3 := hc 3
  have f3 := hf 3
  have r3 := hrc 3
  have q3 := hrf 3
  have c4 := hc 4
  have f4 := hf 4
  have r4 := hrc 4
  have q4 := hrf 4
  have c5 := hc 5
  have f5 := hf 5
  have r5 := hrc 5
  have q5 := hrf 5
  have c6 := hc 6
  have f6 := hf 6
  have r6 := hrc 6
  have q6 := hrf 6
  have c7 := hc 7
  have f7 := hf 7
  have r7 := hrc 7
  have q7 := hrf 7
  have c8 := hc 8
  have f8 := hf 8
  have r8 := hrc 8
  have q8 := hrf 8
  have c9 := hc 9
  have f9 := hf 9
  have r9 := hrc 9
  have q9 := hrf 9
  have c10 := hc 10
  have f10 := hf 10
  have r10 := hrc 10
  have q10 := hrf 10
  have c11 := hc 11
  have f11 := hf 11
  have r11 := hrc 11
  have q11 := hrf 11
  clear hc hf hrc hrf
  unfold evCs at c0 c1 c2 c3 c4 c5 c6 c7 c8 c9 c10 c11
  unfold evCs Ev.zero Fam.zero at r0 r1 r2 r3 r4 r5 r6 r7 r8 r9 r10 r11
  dsimp only at c0 c1 c2 c3 c4 c5 c6 c7 c8 c9 c10 c11 r0 r1 r2 r3 r4 r5 r6 r7 r8 r9 r10 r11 k0 k1
  cases b9
  · by_cases hw : ws9.length = 0
    · have HRT := Lib.hid (fun w (hm : MaxL w) => ev_right ⟨2, Fam.zero, v1, 0⟩ w HSH.out hm)
      have H8 := Lib.hid ((H.out.set 0 (.int .i64 2) (e' := ⟨2, Fam.zero, 0, 0⟩) rfl).set 10 (.int .i64 v1) (e' := ⟨2, Fam.zero, v1, 0⟩) rfl)
      generalize hbe : evB ⟨2, Fam.zero, v1, 0⟩ = bE at *
      unfold evVal evCs Fam.zero at HRT
      dsimp only at HRT
      clear hbe
      go_wp2_with fail
      generalize (w7.setCell ⟨eb, 0, none⟩ (.int .i64 2)).setCell ⟨eb, 10, none⟩ (.int .i64 v1) = w8 at *
      go_at_call 53
      refine (HRT.out _ H8.out.rs.wb.maxl).mono ?_
      rintro x w9 ⟨rfl, hb⟩
      have H := Lib.hid (H8.out.keep hb)
      clear hb H8
      clear c0 f0 r0 q0 c1 f1 r1 q1 c2 f2 r2 q2 c3 f3 r3 q3 c4 f4 r4 q4 c5 f5 r5 q5 c6 f6 r6 q6 c7 f7 r7 q7 c8 f8 r8 q8 c9 f9 r9 q9 c10 f10 r10 q10 c11 f11 r11 q11 k0 k1 k2
      obtain ⟨hc, hf, hrc, hrf⟩ := H.out.facts
      obtain ⟨A, cap2, k0, k1, k2⟩ := H.out.words
      have c0 := hc 0
      have f0 := hf 0
      have r0 := hrc 0
      have q0 := hrf 0
      have c1 := hc 1
      have f1 := hf 1
      have r1 := hrc 1
      have q1 := hrf 1
      have c2 := hc 2
      have f2 := hf 2
      have r2 := hrc 2
      have q2 := hrf 2
      have c3 := hc 3
      have f3 := hf 3
      have r3 := hrc 3
      have q3 := hrf 3
      have c4 := hc 4
      have f4 := hf 4
      have r4 := hrc 4
      have q4 := hrf 4
      have c5 := hc 5
      have f5 := hf 5
      have r5 := hrc 5
      have q5 := hrf 5
      have c6 := hc 6
      have f6 := hf 6
      have r6 := hrc 6
      have q6 := hrf 6
      have c7 := hc 7
      have f7 := hf 7
      have r7 := hrc 7
      have q7 := hrf 7
      have c8 := hc 8
      have f8 := hf 8
      have r8 := hrc 8
      have q8 := hrf 8
      have c9 := hc 9
      have f9 := hf 9
      have r9 := hrc 9
      have q9 := hrf 9
      have c10 := hc 10
      have f10 := hf 10
      have r10 := hrc 10
      have q10 := hrf 10
      have c11 := hc 11
      have f11 := hf 11
      have r11 := hrc 11
      have q11 := hrf 11
      clear hc hf hrc hrf
      unfold evCs at c0 c1 c2 c3 c4 c5 c6 c7 c8 c9 c10 c11
      unfold evCs Ev.zero Fam.zero at r0 r1 r2 r3 r4 r5 r6 r7 r8 r9 r10 r11
      dsimp only at c0 c1 c2 c3 c4 c5 c6 c7 c8 c9 c10 c11 r0 r1 r2 r3 r4 r5 r6 r7 r8 r9 r10 r11 k0 k1
      unfold Fam.zero at c1 c2 c3 c4 c5 c6 c7 c8 c9
      dsimp only at c1 c2 c3 c4 c5 c6 c7 c8 c9
      cases bE
      · obtain ⟨rfl, rfl⟩ := HN.out (.inr (.inr rfl))
        go_wp2_with fail
        exact read_end (e := Ev.zero) (res_below (e' := Ev.zero) H.out.rs.below) (res_sets (e' := Ev.zero) H.out.res) rfl rfl rfl
      · obtain ⟨rfl, rfl⟩ := HY.out (by simp) hw rfl
        go_wp2_with fail
        exact read_end (e := ⟨2, Fam.zero, v1, 0⟩) (res_below (e' := ⟨2, Fam.zero, v1, 0⟩) H.out.rs.below) (res_sets (e' := ⟨2, Fam.zero, v1, 0⟩) H.out.res) rfl rfl rfl
    · obtain ⟨rfl, rfl⟩ := HN.out (.inr (.inl hw))
      have H8 := Lib.hid ((H.out.set 0 (.int .i64 2) (e' := ⟨2, Fam.zero, 0, 0⟩) rfl).set 10 (.int .i64 v1) (e' := ⟨2, Fam.zero, v1, 0⟩) rfl)
      go_wp2_with fail
      exact read_end (e := Ev.zero) (res_below (e' := Ev.zero) H8.out.rs.below) (res_sets (e' := Ev.zero) H8.out.res) rfl rfl rfl
  · obtain ⟨rfl, rfl⟩ := HN.out (.inl (by simp))
    have H8 := Lib.hid ((H.out.set 0 (.int .i64 2) (e' := ⟨2, Fam.zero, 0, 0⟩) rfl).set 10 (.int .i64 v1) (e' := ⟨2, Fam.zero, v1, 0⟩) rfl)
    go_wp2_with fail
    exact read_end (e := Ev.zero) (res_below (e' := Ev.zero) H8.out.rs.below) (res_sets (e' := Ev.zero) H8.out.res) rfl rfl rfl

set_option maxHeartbeats 8000000 in
set_option maxRecDepth 100000 in
theorem read_c (s : ByteArray) (W : World) (hs : s.size ≤ 1000) (h : WB W W) (he : ErrVars W) (hp : nextV (parts 32 s.data.toList, false) = [99]) :
    Calls Tryz.prog 51 #[.string s] W (ReadGot W (progRE (parts 32 s.data.toList, false)) (progRN (parts 32 s.data.toList, false))) := by
  have HSP := Lib.hid (read_start s W hs h he)
  have hE : progE (parts 32 s.data.toList, false) = (⟨3, Fam.zero, 0, numV (nextS (parts 32 s.data.toList, false))⟩, numS (nextS (parts 32 s.data.toList, false))) := by unfold progE; rw [if_neg (by rw [hp]; decide), if_neg (by rw [hp]; decide), if_pos hp]
  have HSH := Lib.hid (progE_short (st := (parts 32 s.data.toList, false)) (parts_word_len 32 _ _ (by rw [size_data]; exact hs)))
  have HY := Lib.hid (@prog_yes (parts 32 s.data.toList, false))
  have HN := Lib.hid (@prog_no (parts 32 s.data.toList, false))
  rw [hE] at HY HN HSH
  clear h he hE
  generalize progRE (parts 32 s.data.toList, false) = eR at *
  generalize progRN (parts 32 s.data.toList, false) = nR at *
  have HP : Hid (txt (nextV (parts 32 s.data.toList, false)) = ⟨#[99]⟩) := Lib.hid (by rw [hp]; rfl)
  clear hp
  generalize parts 32 s.data.toList = L at *
  unfold evCs Ev.zero Fam.zero at HSP
  dsimp only at HSP
  go_enter Tryz.func51, Tryz.ntmps51
  go_wp2_with fail
  go_at_call 49
  refine HSP.out.mono ?_
  rintro x w1 ⟨g, cap, rfl, h1⟩
  have H := Lib.hid h1
  clear h1
  go_wp2_with fail
  generalize ((w1.alloc (.cells #[.slice (some ⟨g, 0, none⟩) L.length cap, .bool false] 143)).alloc (.cells #[.int .i64 0, .int .i64 0, .string ⟨#[]⟩, .string ⟨#[]⟩, .string ⟨#[]⟩, .int .i64 0, .int .i64 0, .int .i64 0, .string ⟨#[]⟩, .bool false, .int .i64 0, .int .i64 0] 42)) = w2 at *
  have hre : w1.heap.size + 1 = w1.heap.size + 1 := rfl
  generalize w1.heap.size + 1 = eb at H hre ⊢
  generalize w1.heap.size = rb at *
  go_at_call 74
  refine (rs_next H.out.rs).mono ?_
  rintro x w3 ⟨rfl, hr, hg⟩
  have H := Lib.hid (H.out.turn hr hg)
  clear hr hg
  rw [HP.out]
  generalize nextS (L, false) = st at *
  go_wp2_with fail
  go_at_call 75
  refine (rs_num H.out.rs).mono ?_
  rintro x w7 ⟨rfl, hr, hg⟩
  have H := Lib.hid (H.out.turn hr hg)
  clear hr hg
  generalize numV st = v1 at *
  generalize numS st = s9 at *
  obtain ⟨ws9, b9⟩ := s9
  dsimp only at HY HN HSH
  have hlt := H.out.n2
  have hlt1 := H.out.n1
  obtain ⟨hc, hf, hrc, hrf⟩ := H.out.facts
  obtain ⟨A, cap2, k0, k1, k2⟩ := H.out.words
  have c0 := hc 0
  have f0 := hf 0
  have r0 := hrc 0
  have q0 := hrf 0
  have c1 := hc 1
  have f1 := hf 1
  have r1 := hrc 1
  have q1 := hrf 1
  have c2 := hc 2
  have f2 := hf 2
  have r2 := hrc 2
  have q2 := hrf 2
  have c3 := hc 3
  have f3 := hf 3
  have r3 := hrc 3
  have q3 := hrf 3
  have c4 := hc 4
  have f4 := hf 4
  have r4 := hrc 4
  have q4 := hrf 4
  have c5 := hc 5
  have f5 := hf 5
  have r5 := hrc 5
  have q5 := hrf 5
  have c6 := hc 6
  have f6 := hf 6
  have r6 := hrc 6
  have q6 := hrf 6
  have c7 := hc 7
  have f7 := hf 7
  have r7 := hrc 7
  have q7 := hrf 7
  have c8 := hc 8
  have f8 := hf 8
  have r8 := hrc 8
  have q8 := hrf 8
  have c9 := hc 9
  have f9 := hf 9
  have r9 := hrc 9
  have q9 := hrf 9
  have c10 := hc 10
  have f10 := hf 10
  have r10 := hrc 10
  have q10 := hrf 10
  have c11 := hc 11
  have f11 := hf 11
  have r11 := hrc 11
  have q11 := hrf 11
  clear hc hf hrc hrf
  unfold evCs at c0 c1 c2 c3 c4 c5 c6 c7 c8 c9 c10 c11
  unfold evCs Ev.zero Fam.zero at r0 r1 r2 r3 r4 r5 r6 r7 r8 r9 r10 r11
  dsimp only at c0 c1 c2 c3 c4 c5 c6 c7 c8 c9 c10 c11 r0 r1 r2 r3 r4 r5 r6 r7 r8 r9 r10 r11 k0 k1
  cases b9
  · by_cases hw : ws9.length = 0
    · have HRT := Lib.hid (fun w (hm : MaxL w) => ev_right ⟨3, Fam.zero, 0, v1⟩ w HSH.out hm)
      have H8 := Lib.hid ((H.out.set 0 (.int .i64 3) (e' := ⟨3, Fam.zero, 0, 0⟩) rfl).set 11 (.int .i64 v1) (e' := ⟨3, Fam.zero, 0, v1⟩) rfl)
      generalize hbe : evB ⟨3, Fam.zero, 0, v1⟩ = bE at *
      unfold evVal evCs Fam.zero at HRT
      dsimp only at HRT
      clear hbe
      go_wp2_with fail
      generalize (w7.setCell ⟨eb, 0, none⟩ (.int .i64 3)).setCell ⟨eb, 11, none⟩ (.int .i64 v1) = w8 at *
      go_at_call 53
      refine (HRT.out _ H8.out.rs.wb.maxl).mono ?_
      rintro x w9 ⟨rfl, hb⟩
      have H := Lib.hid (H8.out.keep hb)
      clear hb H8
      clear c0 f0 r0 q0 c1 f1 r1 q1 c2 f2 r2 q2 c3 f3 r3 q3 c4 f4 r4 q4 c5 f5 r5 q5 c6 f6 r6 q6 c7 f7 r7 q7 c8 f8 r8 q8 c9 f9 r9 q9 c10 f10 r10 q10 c11 f11 r11 q11 k0 k1 k2
      obtain ⟨hc, hf, hrc, hrf⟩ := H.out.facts
      obtain ⟨A, cap2, k0, k1, k2⟩ := H.out.words
      have c0 := hc 0
      have f0 := hf 0
      have r0 := hrc 0
      have q0 := hrf 0
      have c1 := hc 1
      have f1 := hf 1
      have r1 := hrc 1
      have q1 := hrf 1
      have c2 := hc 2
      have f2 := hf 2
      have r2 := hrc 2
      have q2 := hrf 2
      have c3 := hc 3
      have f3 := hf 3
      have r3 := hrc 3
      have q3 := hrf 3
      have c4 := hc 4
      have f4 := hf 4
      have r4 := hrc 4
      have q4 := hrf 4
      have c5 := hc 5
      have f5 := hf 5
      have r5 := hrc 5
      have q5 := hrf 5
      have c6 := hc 6
      have f6 := hf 6
      have r6 := hrc 6
      have q6 := hrf 6
      have c7 := hc 7
      have f7 := hf 7
      have r7 := hrc 7
      have q7 := hrf 7
      have c8 := hc 8
      have f8 := hf 8
      have r8 := hrc 8
      have q8 := hrf 8
      have c9 := hc 9
      have f9 := hf 9
      have r9 := hrc 9
      have q9 := hrf 9
      have c10 := hc 10
      have f10 := hf 10
      have r10 := hrc 10
      have q10 := hrf 10
      have c11 := hc 11
      have f11 := hf 11
      have r11 := hrc 11
      have q11 := hrf 11
      clear hc hf hrc hrf
      unfold evCs at c0 c1 c2 c3 c4 c5 c6 c7 c8 c9 c10 c11
      unfold evCs Ev.zero Fam.zero at r0 r1 r2 r3 r4 r5 r6 r7 r8 r9 r10 r11
      dsimp only at c0 c1 c2 c3 c4 c5 c6 c7 c8 c9 c10 c11 r0 r1 r2 r3 r4 r5 r6 r7 r8 r9 r10 r11 k0 k1
      unfold Fam.zero at c1 c2 c3 c4 c5 c6 c7 c8 c9
      dsimp only at c1 c2 c3 c4 c5 c6 c7 c8 c9
      cases bE
      · obtain ⟨rfl, rfl⟩ := HN.out (.inr (.inr rfl))
        go_wp2_with fail
        exact read_end (e := Ev.zero) (res_below (e' := Ev.zero) H.out.rs.below) (res_sets (e' := Ev.zero) H.out.res) rfl rfl rfl
      · obtain ⟨rfl, rfl⟩ := HY.out (by simp) hw rfl
        go_wp2_with fail
        exact read_end (e := ⟨3, Fam.zero, 0, v1⟩) (res_below (e' := ⟨3, Fam.zero, 0, v1⟩) H.out.rs.below) (res_sets (e' := ⟨3, Fam.zero, 0, v1⟩) H.out.res) rfl rfl rfl
    · obtain ⟨rfl, rfl⟩ := HN.out (.inr (.inl hw))
      have H8 := Lib.hid ((H.out.set 0 (.int .i64 3) (e' := ⟨3, Fam.zero, 0, 0⟩) rfl).set 11 (.int .i64 v1) (e' := ⟨3, Fam.zero, 0, v1⟩) rfl)
      go_wp2_with fail
      exact read_end (e := Ev.zero) (res_below (e' := Ev.zero) H8.out.rs.below) (res_sets (e' := Ev.zero) H8.out.res) rfl rfl rfl
  · obtain ⟨rfl, rfl⟩ := HN.out (.inl (by simp))
    have H8 := Lib.hid ((H.out.set 0 (.int .i64 3) (e' := ⟨3, Fam.zero, 0, 0⟩) rfl).set 11 (.int .i64 v1) (e' := ⟨3, Fam.zero, 0, v1⟩) rfl)
    go_wp2_with fail
    exact read_end (e := Ev.zero) (res_below (e' := Ev.zero) H8.out.rs.below) (res_sets (e' := Ev.zero) H8.out.res) rfl rfl rfl

set_option maxHeartbeats 8000000 in
set_option maxRecDepth 100000 in
theorem read_o (s : ByteArray) (W : World) (hs : s.size ≤ 1000) (h : WB W W) (he : ErrVars W) (h1 : nextV (parts 32 s.data.toList, false) ≠ [112]) (h2 : nextV (parts 32 s.data.toList, false) ≠ [100]) (h3 : nextV (parts 32 s.data.toList, false) ≠ [99]) :
    Calls Tryz.prog 51 #[.string s] W (ReadGot W (progRE (parts 32 s.data.toList, false)) (progRN (parts 32 s.data.toList, false))) := by
  have HSP := Lib.hid (read_start s W hs h he)
  have hE : progE (parts 32 s.data.toList, false) = (Ev.zero, ((nextS (parts 32 s.data.toList, false)).1, true)) := by unfold progE; rw [if_neg h1, if_neg h2, if_neg h3]
  have HSH := Lib.hid (progE_short (st := (parts 32 s.data.toList, false)) (parts_word_len 32 _ _ (by rw [size_data]; exact hs)))
  have HY := Lib.hid (@prog_yes (parts 32 s.data.toList, false))
  have HN := Lib.hid (@prog_no (parts 32 s.data.toList, false))
  rw [hE] at HY HN HSH
  clear h he hE
  generalize progRE (parts 32 s.data.toList, false) = eR at *
  generalize progRN (parts 32 s.data.toList, false) = nR at *
  clear HSH HY
  have e1 := p_list (nextV (parts 32 s.data.toList, false)) 112
  have e2 := p_list (nextV (parts 32 s.data.toList, false)) 100
  have e3 := p_list (nextV (parts 32 s.data.toList, false)) 99
  rw [decide_eq_false h1] at e1
  rw [decide_eq_false h2] at e2
  rw [decide_eq_false h3] at e3
  clear h1 h2 h3
  generalize parts 32 s.data.toList = L at *
  unfold evCs Ev.zero Fam.zero at HSP
  dsimp only at HSP
  go_enter Tryz.func51, Tryz.ntmps51
  go_wp2_with fail
  go_at_call 49
  refine HSP.out.mono ?_
  rintro x w1 ⟨g, cap, rfl, h1⟩
  have H := Lib.hid h1
  clear h1
  go_wp2_with fail
  generalize ((w1.alloc (.cells #[.slice (some ⟨g, 0, none⟩) L.length cap, .bool false] 143)).alloc (.cells #[.int .i64 0, .int .i64 0, .string ⟨#[]⟩, .string ⟨#[]⟩, .string ⟨#[]⟩, .int .i64 0, .int .i64 0, .int .i64 0, .string ⟨#[]⟩, .bool false, .int .i64 0, .int .i64 0] 42)) = w2 at *
  have hre : w1.heap.size + 1 = w1.heap.size + 1 := rfl
  generalize w1.heap.size + 1 = eb at H hre ⊢
  generalize w1.heap.size = rb at *
  go_at_call 74
  refine (rs_next H.out.rs).mono ?_
  rintro x w3 ⟨rfl, hr, hg⟩
  have H := Lib.hid (H.out.turn hr hg)
  clear hr hg
  generalize txt (nextV (L, false)) = y at *
  generalize nextS (L, false) = st at *
  obtain ⟨ws9, b9⟩ := st
  have hlt := H.out.n2
  have hlt1 := H.out.n1
  obtain ⟨rfl, rfl⟩ := HN.out (.inl (by simp))
  have H8 := Lib.hid (H.out.setBad true)
  obtain ⟨hc, hf, hrc, hrf⟩ := H.out.facts
  obtain ⟨A, cap2, k0, k1, k2⟩ := H.out.words
  have c0 := hc 0
  have f0 := hf 0
  have r0 := hrc 0
  have q0 := hrf 0
  have c1 := hc 1
  have f1 := hf 1
  have r1 := hrc 1
  have q1 := hrf 1
  have c2 := hc 2
  have f2 := hf 2
  have r2 := hrc 2
  have q2 := hrf 2
  have c3 := hc 3
  have f3 := hf 3
  have r3 := hrc 3
  have q3 := hrf 3
  have c4 := hc 4
  have f4 := hf 4
  have r4 := hrc 4
  have q4 := hrf 4
  have c5 := hc 5
  have f5 := hf 5
  have r5 := hrc 5
  have q5 := hrf 5
  have c6 := hc 6
  have f6 := hf 6
  have r6 := hrc 6
  have q6 := hrf 6
  have c7 := hc 7
  have f7 := hf 7
  have r7 := hrc 7
  have q7 := hrf 7
  have c8 := hc 8
  have f8 := hf 8
  have r8 := hrc 8
  have q8 := hrf 8
  have c9 := hc 9
  have f9 := hf 9
  have r9 := hrc 9
  have q9 := hrf 9
  have c10 := hc 10
  have f10 := hf 10
  have r10 := hrc 10
  have q10 := hrf 10
  have c11 := hc 11
  have f11 := hf 11
  have r11 := hrc 11
  have q11 := hrf 11
  clear hc hf hrc hrf
  unfold evCs at c0 c1 c2 c3 c4 c5 c6 c7 c8 c9 c10 c11
  unfold evCs Ev.zero Fam.zero at r0 r1 r2 r3 r4 r5 r6 r7 r8 r9 r10 r11
  dsimp only at c0 c1 c2 c3 c4 c5 c6 c7 c8 c9 c10 c11 r0 r1 r2 r3 r4 r5 r6 r7 r8 r9 r10 r11 k0 k1
  go_wp2_with fail
  exact read_end (e := Ev.zero) (res_below (e' := Ev.zero) H8.out.rs.below) (res_sets (e' := Ev.zero) H8.out.res) rfl rfl rfl
theorem ev_read (s : ByteArray) (W : World) (hs : s.size ≤ 1000) (h : WB W W) (he : ErrVars W) :
    Calls Tryz.prog 51 #[.string s] W (ReadGot W (readE s.data.toList) (if readB s.data.toList then 0 else 3)) := by
  have hp := prog_read s.data.toList
  have e1 : progRE (parts 32 s.data.toList, false) = readE s.data.toList := by
    unfold progRE
    rw [hp.1]
    by_cases hb : readB s.data.toList = true
    · rw [if_pos hb, hp.2 hb]
    · rw [if_neg hb]
      unfold readE
      rw [if_neg hb]
  have e2 : progRN (parts 32 s.data.toList, false) = (if readB s.data.toList then 0 else 3) := by
    unfold progRN
    rw [hp.1]
  rw [← e1, ← e2]
  by_cases h1 : nextV (parts 32 s.data.toList, false) = [112]
  · exact read_p s W hs h he h1
  · by_cases h2 : nextV (parts 32 s.data.toList, false) = [100]
    · exact read_d s W hs h he h2
    · by_cases h3 : nextV (parts 32 s.data.toList, false) = [99]
      · exact read_c s W hs h he h3
      · exact read_o s W hs h he h1 h2 h3
end Go.Proofs.YtdogilbnbbeljaaGreatDoor
