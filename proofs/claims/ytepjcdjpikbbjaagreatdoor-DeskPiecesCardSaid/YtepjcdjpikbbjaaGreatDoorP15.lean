/-
  event.Read at a number that is dropped, at the time, at another text; and at all.
-/
import Derived.Test.YtepjcdjpikbbjaaGreatDoorP14
import Derived.Test.YtepjcdjpikbbjaaGreatDoorP13
namespace Go.Proofs.YtepjcdjpikbbjaaGreatDoor
open Go.RowKit Go.Sort

set_option maxHeartbeats 8000000 in
set_option maxRecDepth 100000 in
theorem read_d (s : ByteArray) (W : World) (hs : s.size ≤ 5000) (h : WB W W) (he : ErrVars W) (hp : nextV (parts 32 s.data.toList, false) = [100]) :
    Calls Tryz.prog 106 #[.string s] W (ReadGot W (progRE (parts 32 s.data.toList, false)) (progRN (parts 32 s.data.toList, false))) := by
  have HSP := Lib.hid (read_start s W hs h he)
  have hE : progE (parts 32 s.data.toList, false) = (⟨2, Fam.zero, numV (nextS (parts 32 s.data.toList, false)), 0⟩, numS (nextS (parts 32 s.data.toList, false))) := by unfold progE; rw [if_neg (by rw [hp]; decide), if_pos hp]
  have HSH := Lib.hid (progE_short (st := (parts 32 s.data.toList, false)) (parts_word_len 32 _ _ (by rw [size_data]; exact hs)))
  have HY := Lib.hid (@prog_yes (parts 32 s.data.toList, false))
  have HN := Lib.hid (@prog_no (parts 32 s.data.toList, false))
  rw [hE] at HY HN HSH
  clear h he hE
  generalize progRE (parts 32 s.data.toList, false) = eR at *
  generalize progRN (parts 32 s.data.toList, false) = nR at *
  have HP : Hid (txt (nextV (parts 32 s.data.toList, false)) = ⟨#[100]⟩) := Lib.hid (by rw [hp]; rfl)
  clear hp
  generalize parts 32 s.data.toList = L at *
  unfold evCs Ev.zero Fam.zero at HSP
  dsimp only at HSP
  go_enter Tryz.func106, Tryz.ntmps106
  go_wp2_with fail
  go_at_call 13
  refine HSP.out.mono ?_
  rintro x w1 ⟨g, cap, rfl, h1⟩
  have H := Lib.hid h1
  clear h1
  go_wp2_with fail
  generalize ((w1.alloc (.cells #[.slice (some ⟨g, 0, none⟩) L.length cap, .bool false] 201)).alloc (.cells #[.int .i64 0, .int .i64 0, .string ⟨#[]⟩, .string ⟨#[]⟩, .string ⟨#[]⟩, .int .i64 0, .int .i64 0, .int .i64 0, .string ⟨#[]⟩, .bool false, .int .i64 0, .int .i64 0] 116)) = w2 at *
  have hre : w1.heap.size + 1 = w1.heap.size + 1 := rfl
  generalize w1.heap.size + 1 = eb at H hre ⊢
  generalize w1.heap.size = rb at *
  go_at_call 156
  refine (rs_next H.out.rs).mono ?_
  rintro x w3 ⟨rfl, hr, hg⟩
  have H := Lib.hid (H.out.turn hr hg)
  clear hr hg
  rw [HP.out]
  generalize nextS (L, false) = st at *
  go_wp2_with fail
  go_at_call 157
  refine (rs_num H.out.rs).mono ?_
  rintro x w7 ⟨rfl, hr, hg⟩
  have H := Lib.hid (H.out.turn hr hg)
  clear hr hg
  generalize numV st = v1 at *
  generalize numS st = s9 at *
  obtain ⟨ws9, b9⟩ := s9
  dsimp only at HY HN HSH
  have hlt := H.out.n2
  have hlt1 := H.out.n1
  obtain ⟨hc, hf, hrc, hrf⟩ := H.out.facts
  obtain ⟨A, cap2, k0, k1, k2⟩ := H.out.words
  have c0 := hc 0
  have f0 := hf 0
  have r0 := hrc 0
  have q0 := hrf 0
  have c1 := hc 1
  have f1 := hf 1
  have r1 := hrc 1
  have q1 := hrf 1
  have c2 := hc 2
  have f2 := hf 2
  have r2 := hrc 2
  have q2 := hrf 2
  have c3 := hc 3
  have f3 := hf 3
  have r3 := hrc 3
  have q3 := hrf 3
  have c4 := hc 4
  have f4 := hf 4
  have r4 := hrc 4
  have q4 := hrf 4
  have c5 := hc 5
  have f5 := hf 5
  have r5 := hrc 5
  have q5 := hrf 5
  have c6 := hc 6
  have f6 := hf 6
  have r6 := hrc 6
  have q6 := hrf 6
  have c7 := hc 7
  have f7 := hf 7
  have r7 := hrc 7
  have q7 := hrf 7
  have c8 := hc 8
  have f8 := hf 8
  have r8 := hrc 8
  have q8 := hrf 8
  have c9 := hc 9
  have f9 := hf 9
  have r9 := hrc 9
  have q9 := hrf 9
  have c10 := hc 10
  have f10 := hf 10
  have r10 := hrc 10
  have q10 := hrf 10
  have c11 := hc 11
  have f11 := hf 11
  have r11 := hrc 11
  have q11 := hrf 11
  clear hc hf hrc hrf
  unfold evCs at c0 c1 c2 c3 c4 c5 c6 c7 c8 c9 c10 c11
  unfold evCs Ev.zero Fam.zero at r0 r1 r2 r3 r4 r5 r6 r7 r8 r9 r10 r11
  dsimp only at c0 c1 c2 c3 c4 c5 c6 c7 c8 c9 c10 c11 r0 r1 r2 r3 r4 r5 r6 r7 r8 r9 r10 r11 k0 k1
  cases b9
  · by_cases hw : ws9.length = 0
    · have HRT := Lib.hid (fun w (hm : MaxL w) => ev_right ⟨2, Fam.zero, v1, 0⟩ w HSH.out hm)
      have H8 := Lib.hid ((H.out.set 0 (.int .i64 2) (e' := ⟨2, Fam.zero, 0, 0⟩) rfl).set 10 (.int .i64 v1) (e' := ⟨2, Fam.zero, v1, 0⟩) rfl)
      generalize hbe : evB ⟨2, Fam.zero, v1, 0⟩ = bE at *
      unfold evVal evCs Fam.zero at HRT
      dsimp only at HRT
      clear hbe
      go_wp2_with fail
      generalize (w7.setCell ⟨eb, 0, none⟩ (.int .i64 2)).setCell ⟨eb, 10, none⟩ (.int .i64 v1) = w8 at *
      go_at_call 159
      refine (HRT.out _ H8.out.rs.wb.maxl).mono ?_
      rintro x w9 ⟨rfl, hb⟩
      have H := Lib.hid (H8.out.keep hb)
      clear hb H8
      clear c0 f0 r0 q0 c1 f1 r1 q1 c2 f2 r2 q2 c3 f3 r3 q3 c4 f4 r4 q4 c5 f5 r5 q5 c6 f6 r6 q6 c7 f7 r7 q7 c8 f8 r8 q8 c9 f9 r9 q9 c10 f10 r10 q10 c11 f11 r11 q11 k0 k1 k2
      obtain ⟨hc, hf, hrc, hrf⟩ := H.out.facts
      obtain ⟨A, cap2, k0, k1, k2⟩ := H.out.words
      have c0 := hc 0
      have f0 := hf 0
      have r0 := hrc 0
      have q0 := hrf 0
      have c1 := hc 1
      have f1 := hf 1
      have r1 := hrc 1
      have q1 := hrf 1
      have c2 := hc 2
      have f2 := hf 2
      have r2 := hrc 2
      have q2 := hrf 2
      have c3 := hc 3
      have f3 := hf 3
      have r3 := hrc 3
      have q3 := hrf 3
      have c4 := hc 4
      have f4 := hf 4
      have r4 := hrc 4
      have q4 := hrf 4
      have c5 := hc 5
      have f5 := hf 5
      have r5 := hrc 5
      have q5 := hrf 5
      have c6 := hc 6
      have f6 := hf 6
      have r6 := hrc 6
      have q6 := hrf 6
      have c7 := hc 7
      have f7 := hf 7
      have r7 := hrc 7
      have q7 := hrf 7
      have c8 := hc 8
      have f8 := hf 8
      have r8 := hrc 8
      have q8 := hrf 8
      have c9 := hc 9
      have f9 := hf 9
      have r9 := hrc 9
      have q9 := hrf 9
      have c10 := hc 10
      have f10 := hf 10
      have r10 := hrc 10
      have q10 := hrf 10
      have c11 := hc 11
      have f11 := hf 11
      have r11 := hrc 11
      have q11 := hrf 11
      clear hc hf hrc hrf
      unfold evCs at c0 c1 c2 c3 c4 c5 c6 c7 c8 c9 c10 c11
      unfold evCs Ev.zero Fam.zero at r0 r1 r2 r3 r4 r5 r6 r7 r8 r9 r10 r11
      dsimp only at c0 c1 c2 c3 c4 c5 c6 c7 c8 c9 c10 c11 r0 r1 r2 r3 r4 r5 r6 r7 r8 r9 r10 r11 k0 k1
      unfold Fam.zero at c1 c2 c3 c4 c5 c6 c7 c8 c9
      dsimp only at c1 c2 c3 c4 c5 c6 c7 c8 c9
      cases bE
      · obtain ⟨rfl, rfl⟩ := HN.out (.inr (.inr rfl))
        go_wp2_with fail
        exact read_end (e := Ev.zero) (res_below (e' := Ev.zero) H.out.rs.below) (res_sets (e' := Ev.zero) H.out.res) rfl rfl rfl
      · obtain ⟨rfl, rfl⟩ := HY.out (by simp) hw rfl
        go_wp2_with fail
        exact read_end (e := ⟨2, Fam.zero, v1, 0⟩) (res_below (e' := ⟨2, Fam.zero, v1, 0⟩) H.out.rs.below) (res_sets (e' := ⟨2, Fam.zero, v1, 0⟩) H.out.res) rfl rfl rfl
    · obtain ⟨rfl, rfl⟩ := HN.out (.inr (.inl hw))
      have H8 := Lib.hid ((H.out.set 0 (.int .i64 2) (e' := ⟨2, Fam.zero, 0, 0⟩) rfl).set 10 (.int .i64 v1) (e' := ⟨2, Fam.zero, v1, 0⟩) rfl)
      go_wp2_with fail
      exact read_end (e := Ev.zero) (res_below (e' := Ev.zero) H8.out.rs.below) (res_sets (e' := Ev.zero) H8.out.res) rfl rfl rfl
  · obtain ⟨rfl, rfl⟩ := HN.out (.inl (by simp))
    have H8 := Lib.hid ((H.out.set 0 (.int .i64 2) (e' := ⟨2, Fam.zero, 0, 0⟩) rfl).set 10 (.int .i64 v1) (e' := ⟨2, Fam.zero, v1, 0⟩) rfl)
    go_wp2_with fail
    exact read_end (e := Ev.zero) (res_below (e' := Ev.zero) H8.out.rs.below) (res_sets (e' := Ev.zero) H8.out.res) rfl rfl rfl

set_option maxHeartbeats 8000000 in
set_option maxRecDepth 100000 in
theorem read_c (s : ByteArray) (W : World) (hs : s.size ≤ 5000) (h : WB W W) (he : ErrVars W) (hp : nextV (parts 32 s.data.toList, false) = [99]) :
    Calls Tryz.prog 106 #[.string s] W (ReadGot W (progRE (parts 32 s.data.toList, false)) (progRN (parts 32 s.data.toList, false))) := by
  have HSP := Lib.hid (read_start s W hs h he)
  have hE : progE (parts 32 s.data.toList, false) = (⟨3, Fam.zero, 0, numV (nextS (parts 32 s.data.toList, false))⟩, numS (nextS (parts 32 s.data.toList, false))) := by unfold progE; rw [if_neg (by rw [hp]; decide), if_neg (by rw [hp]; decide), if_pos hp]
  have HSH := Lib.hid (progE_short (st := (parts 32 s.data.toList, false)) (parts_word_len 32 _ _ (by rw [size_data]; exact hs)))
  have HY := Lib.hid (@prog_yes (parts 32 s.data.toList, false))
  have HN := Lib.hid (@prog_no (parts 32 s.data.toList, false))
  rw [hE] at HY HN HSH
  clear h he hE
  generalize progRE (parts 32 s.data.toList, false) = eR at *
  generalize progRN (parts 32 s.data.toList, false) = nR at *
  have HP : Hid (txt (nextV (parts 32 s.data.toList, false)) = ⟨#[99]⟩) := Lib.hid (by rw [hp]; rfl)
  clear hp
  generalize parts 32 s.data.toList = L at *
  unfold evCs Ev.zero Fam.zero at HSP
  dsimp only at HSP
  go_enter Tryz.func106, Tryz.ntmps106
  go_wp2_with fail
  go_at_call 13
  refine HSP.out.mono ?_
  rintro x w1 ⟨g, cap, rfl, h1⟩
  have H := Lib.hid h1
  clear h1
  go_wp2_with fail
  generalize ((w1.alloc (.cells #[.slice (some ⟨g, 0, none⟩) L.length cap, .bool false] 201)).alloc (.cells #[.int .i64 0, .int .i64 0, .string ⟨#[]⟩, .string ⟨#[]⟩, .string ⟨#[]⟩, .int .i64 0, .int .i64 0, .int .i64 0, .string ⟨#[]⟩, .bool false, .int .i64 0, .int .i64 0] 116)) = w2 at *
  have hre : w1.heap.size + 1 = w1.heap.size + 1 := rfl
  generalize w1.heap.size + 1 = eb at H hre ⊢
  generalize w1.heap.size = rb at *
  go_at_call 156
  refine (rs_next H.out.rs).mono ?_
  rintro x w3 ⟨rfl, hr, hg⟩
  have H := Lib.hid (H.out.turn hr hg)
  clear hr hg
  rw [HP.out]
  generalize nextS (L, false) = st at *
  go_wp2_with fail
  go_at_call 157
  refine (rs_num H.out.rs).mono ?_
  rintro x w7 ⟨rfl, hr, hg⟩
  have H := Lib.hid (H.out.turn hr hg)
  clear hr hg
  generalize numV st = v1 at *
  generalize numS st = s9 at *
  obtain ⟨ws9, b9⟩ := s9
  dsimp only at HY HN HSH
  have hlt := H.out.n2
  have hlt1 := H.out.n1
  obtain ⟨hc, hf, hrc, hrf⟩ := H.out.facts
  obtain ⟨A, cap2, k0, k1, k2⟩ := H.out.words
  have c0 := hc 0
  have f0 := hf 0
  have r0 := hrc 0
  have q0 := hrf 0
  have c1 := hc 1
  have f1 := hf 1
  have r1 := hrc 1
  have q1 := hrf 1
  have c2 := hc 2
  have f2 := hf 2
  have r2 := hrc 2
  have q2 := hrf 2
  have c3 := hc 3
  have f3 := hf 3
  have r3 := hrc 3
  have q3 := hrf 3
  have c4 := hc 4
  have f4 := hf 4
  have r4 := hrc 4
  have q4 := hrf 4
  have c5 := hc 5
  have f5 := hf 5
  have r5 := hrc 5
  have q5 := hrf 5
  have c6 := hc 6
  have f6 := hf 6
  have r6 := hrc 6
  have q6 := hrf 6
  have c7 := hc 7
  have f7 := hf 7
  have r7 := hrc 7
  have q7 := hrf 7
  have c8 := hc 8
  have f8 := hf 8
  have r8 := hrc 8
  have q8 := hrf 8
  have c9 := hc 9
  have f9 := hf 9
  have r9 := hrc 9
  have q9 := hrf 9
  have c10 := hc 10
  have f10 := hf 10
  have r10 := hrc 10
  have q10 := hrf 10
  have c11 := hc 11
  have f11 := hf 11
  have r11 := hrc 11
  have q11 := hrf 11
  clear hc hf hrc hrf
  unfold evCs at c0 c1 c2 c3 c4 c5 c6 c7 c8 c9 c10 c11
  unfold evCs Ev.zero Fam.zero at r0 r1 r2 r3 r4 r5 r6 r7 r8 r9 r10 r11
  dsimp only at c0 c1 c2 c3 c4 c5 c6 c7 c8 c9 c10 c11 r0 r1 r2 r3 r4 r5 r6 r7 r8 r9 r10 r11 k0 k1
  cases b9
  · by_cases hw : ws9.length = 0
    · have HRT := Lib.hid (fun w (hm : MaxL w) => ev_right ⟨3, Fam.zero, 0, v1⟩ w HSH.out hm)
      have H8 := Lib.hid ((H.out.set 0 (.int .i64 3) (e' := ⟨3, Fam.zero, 0, 0⟩) rfl).set 11 (.int .i64 v1) (e' := ⟨3, Fam.zero, 0, v1⟩) rfl)
      generalize hbe : evB ⟨3, Fam.zero, 0, v1⟩ = bE at *
      unfold evVal evCs Fam.zero at HRT
      dsimp only at HRT
      clear hbe
      go_wp2_with fail
      generalize (w7.setCell ⟨eb, 0, none⟩ (.int .i64 3)).setCell ⟨eb, 11, none⟩ (.int .i64 v1) = w8 at *
      go_at_call 159
      refine (HRT.out _ H8.out.rs.wb.maxl).mono ?_
      rintro x w9 ⟨rfl, hb⟩
      have H := Lib.hid (H8.out.keep hb)
      clear hb H8
      clear c0 f0 r0 q0 c1 f1 r1 q1 c2 f2 r2 q2 c3 f3 r3 q3 c4 f4 r4 q4 c5 f5 r5 q5 c6 f6 r6 q6 c7 f7 r7 q7 c8 f8 r8 q8 c9 f9 r9 q9 c10 f10 r10 q10 c11 f11 r11 q11 k0 k1 k2
      obtain ⟨hc, hf, hrc, hrf⟩ := H.out.facts
      obtain ⟨A, cap2, k0, k1, k2⟩ := H.out.words
      have c0 := hc 0
      have f0 := hf 0
      have r0 := hrc 0
      have q0 := hrf 0
      have c1 := hc 1
      have f1 := hf 1
      have r1 := hrc 1
      have q1 := hrf 1
      have c2 := hc 2
      have f2 := hf 2
      have r2 := hrc 2
      have q2 := hrf 2
      have c3 := hc 3
      have f3 := hf 3
      have r3 := hrc 3
      have q3 := hrf 3
      have c4 := hc 4
      have f4 := hf 4
      have r4 := hrc 4
      have q4 := hrf 4
      have c5 := hc 5
      have f5 := hf 5
      have r5 := hrc 5
      have q5 := hrf 5
      have c6 := hc 6
      have f6 := hf 6
      have r6 := hrc 6
      have q6 := hrf 6
      have c7 := hc 7
      have f7 := hf 7
      have r7 := hrc 7
      have q7 := hrf 7
      have c8 := hc 8
      have f8 := hf 8
      have r8 := hrc 8
      have q8 := hrf 8
      have c9 := hc 9
      have f9 := hf 9
      have r9 := hrc 9
      have q9 := hrf 9
      have c10 := hc 10
      have f10 := hf 10
      have r10 := hrc 10
      have q10 := hrf 10
      have c11 := hc 11
      have f11 := hf 11
      have r11 := hrc 11
      have q11 := hrf 11
      clear hc hf hrc hrf
      unfold evCs at c0 c1 c2 c3 c4 c5 c6 c7 c8 c9 c10 c11
      unfold evCs Ev.zero Fam.zero at r0 r1 r2 r3 r4 r5 r6 r7 r8 r9 r10 r11
      dsimp only at c0 c1 c2 c3 c4 c5 c6 c7 c8 c9 c10 c11 r0 r1 r2 r3 r4 r5 r6 r7 r8 r9 r10 r11 k0 k1
      unfold Fam.zero at c1 c2 c3 c4 c5 c6 c7 c8 c9
      dsimp only at c1 c2 c3 c4 c5 c6 c7 c8 c9
      cases bE
      · obtain ⟨rfl, rfl⟩ := HN.out (.inr (.inr rfl))
        go_wp2_with fail
        exact read_end (e := Ev.zero) (res_below (e' := Ev.zero) H.out.rs.below) (res_sets (e' := Ev.zero) H.out.res) rfl rfl rfl
      · obtain ⟨rfl, rfl⟩ := HY.out (by simp) hw rfl
        go_wp2_with fail
        exact read_end (e := ⟨3, Fam.zero, 0, v1⟩) (res_below (e' := ⟨3, Fam.zero, 0, v1⟩) H.out.rs.below) (res_sets (e' := ⟨3, Fam.zero, 0, v1⟩) H.out.res) rfl rfl rfl
    · obtain ⟨rfl, rfl⟩ := HN.out (.inr (.inl hw))
      have H8 := Lib.hid ((H.out.set 0 (.int .i64 3) (e' := ⟨3, Fam.zero, 0, 0⟩) rfl).set 11 (.int .i64 v1) (e' := ⟨3, Fam.zero, 0, v1⟩) rfl)
      go_wp2_with fail
      exact read_end (e := Ev.zero) (res_below (e' := Ev.zero) H8.out.rs.below) (res_sets (e' := Ev.zero) H8.out.res) rfl rfl rfl
  · obtain ⟨rfl, rfl⟩ := HN.out (.inl (by simp))
    have H8 := Lib.hid ((H.out.set 0 (.int .i64 3) (e' := ⟨3, Fam.zero, 0, 0⟩) rfl).set 11 (.int .i64 v1) (e' := ⟨3, Fam.zero, 0, v1⟩) rfl)
    go_wp2_with fail
    exact read_end (e := Ev.zero) (res_below (e' := Ev.zero) H8.out.rs.below) (res_sets (e' := Ev.zero) H8.out.res) rfl rfl rfl

set_option maxHeartbeats 8000000 in
set_option maxRecDepth 100000 in
theorem read_o (s : ByteArray) (W : World) (hs : s.size ≤ 5000) (h : WB W W) (he : ErrVars W) (h1 : nextV (parts 32 s.data.toList, false) ≠ [112]) (h2 : nextV (parts 32 s.data.toList, false) ≠ [100]) (h3 : nextV (parts 32 s.data.toList, false) ≠ [99]) :
    Calls Tryz.prog 106 #[.string s] W (ReadGot W (progRE (parts 32 s.data.toList, false)) (progRN (parts 32 s.data.toList, false))) := by
  have HSP := Lib.hid (read_start s W hs h he)
  have hE : progE (parts 32 s.data.toList, false) = (Ev.zero, ((nextS (parts 32 s.data.toList, false)).1, true)) := by unfold progE; rw [if_neg h1, if_neg h2, if_neg h3]
  have HSH := Lib.hid (progE_short (st := (parts 32 s.data.toList, false)) (parts_word_len 32 _ _ (by rw [size_data]; exact hs)))
  have HY := Lib.hid (@prog_yes (parts 32 s.data.toList, false))
  have HN := Lib.hid (@prog_no (parts 32 s.data.toList, false))
  rw [hE] at HY HN HSH
  clear h he hE
  generalize progRE (parts 32 s.data.toList, false) = eR at *
  generalize progRN (parts 32 s.data.toList, false) = nR at *
  clear HSH HY
  have e1 := p_list (nextV (parts 32 s.data.toList, false)) 112
  have e2 := p_list (nextV (parts 32 s.data.toList, false)) 100
  have e3 := p_list (nextV (parts 32 s.data.toList, false)) 99
  rw [decide_eq_false h1] at e1
  rw [decide_eq_false h2] at e2
  rw [decide_eq_false h3] at e3
  clear h1 h2 h3
  generalize parts 32 s.data.toList = L at *
  unfold evCs Ev.zero Fam.zero at HSP
  dsimp only at HSP
  go_enter Tryz.func106, Tryz.ntmps106
  go_wp2_with fail
  go_at_call 13
  refine HSP.out.mono ?_
  rintro x w1 ⟨g, cap, rfl, h1⟩
  have H := Lib.hid h1
  clear h1
  go_wp2_with fail
  generalize ((w1.alloc (.cells #[.slice (some ⟨g, 0, none⟩) L.length cap, .bool false] 201)).alloc (.cells #[.int .i64 0, .int .i64 0, .string ⟨#[]⟩, .string ⟨#[]⟩, .string ⟨#[]⟩, .int .i64 0, .int .i64 0, .int .i64 0, .string ⟨#[]⟩, .bool false, .int .i64 0, .int .i64 0] 116)) = w2 at *
  have hre : w1.heap.size + 1 = w1.heap.size + 1 := rfl
  generalize w1.heap.size + 1 = eb at H hre ⊢
  generalize w1.heap.size = rb at *
  go_at_call 156
  refine (rs_next H.out.rs).mono ?_
  rintro x w3 ⟨rfl, hr, hg⟩
  have H := Lib.hid (H.out.turn hr hg)
  clear hr hg
  generalize txt (nextV (L, false)) = y at *
  generalize nextS (L, false) = st at *
  obtain ⟨ws9, b9⟩ := st
  have hlt := H.out.n2
  have hlt1 := H.out.n1
  obtain ⟨rfl, rfl⟩ := HN.out (.inl (by simp))
  have H8 := Lib.hid (H.out.setBad true)
  obtain ⟨hc, hf, hrc, hrf⟩ := H.out.facts
  obtain ⟨A, cap2, k0, k1, k2⟩ := H.out.words
  have c0 := hc 0
  have f0 := hf 0
  have r0 := hrc 0
  have q0 := hrf 0
  have c1 := hc 1
  have f1 := hf 1
  have r1 := hrc 1
  have q1 := hrf 1
  have c2 := hc 2
  have f2 := hf 2
  have r2 := hrc 2
  have q2 := hrf 2
  have c3 := hc 3
  have f3 := hf 3
  have r3 := hrc 3
  have q3 := hrf 3
  have c4 := hc 4
  have f4 := hf 4
  have r4 := hrc 4
  have q4 := hrf 4
  have c5 := hc 5
  have f5 := hf 5
  have r5 := hrc 5
  have q5 := hrf 5
  have c6 := hc 6
  have f6 := hf 6
  have r6 := hrc 6
  have q6 := hrf 6
  have c7 := hc 7
  have f7 := hf 7
  have r7 := hrc 7
  have q7 := hrf 7
  have c8 := hc 8
  have f8 := hf 8
  have r8 := hrc 8
  have q8 := hrf 8
  have c9 := hc 9
  have f9 := hf 9
  have r9 := hrc 9
  have q9 := hrf 9
  have c10 := hc 10
  have f10 := hf 10
  have r10 := hrc 10
  have q10 := hrf 10
  have c11 := hc 11
  have f11 := hf 11
  have r11 := hrc 11
  have q11 := hrf 11
  clear hc hf hrc hrf
  unfold evCs at c0 c1 c2 c3 c4 c5 c6 c7 c8 c9 c10 c11
  unfold evCs Ev.zero Fam.zero at r0 r1 r2 r3 r4 r5 r6 r7 r8 r9 r10 r11
  dsimp only at c0 c1 c2 c3 c4 c5 c6 c7 c8 c9 c10 c11 r0 r1 r2 r3 r4 r5 r6 r7 r8 r9 r10 r11 k0 k1
  go_wp2_with fail
  exact read_end (e := Ev.zero) (res_below (e' := Ev.zero) H8.out.rs.below) (res_sets (e' := Ev.zero) H8.out.res) rfl rfl rfl
theorem ev_read (s : ByteArray) (W : World) (hs : s.size ≤ 5000) (h : WB W W) (he : ErrVars W) :
    Calls Tryz.prog 106 #[.string s] W (ReadGot W (readE s.data.toList) (if readB s.data.toList then 0 else 3)) := by
  have hp := prog_read s.data.toList
  have e1 : progRE (parts 32 s.data.toList, false) = readE s.data.toList := by
    unfold progRE
    rw [hp.1]
    by_cases hb : readB s.data.toList = true
    · rw [if_pos hb, hp.2 hb]
    · rw [if_neg hb]
      unfold readE
      rw [if_neg hb]
  have e2 : progRN (parts 32 s.data.toList, false) = (if readB s.data.toList then 0 else 3) := by
    unfold progRN
    rw [hp.1]
  rw [← e1, ← e2]
  by_cases h1 : nextV (parts 32 s.data.toList, false) = [112]
  · exact read_p s W hs h he h1
  · by_cases h2 : nextV (parts 32 s.data.toList, false) = [100]
    · exact read_d s W hs h he h2
    · by_cases h3 : nextV (parts 32 s.data.toList, false) = [99]
      · exact read_c s W hs h he h3
      · exact read_o s W hs h he h1 h2 h3
end Go.Proofs.YtepjcdjpikbbjaaGreatDoor

/-
  store.Store's event: the n-th event of the log.
-/
namespace Go.Proofs.YtepjcdjpikbbjaaGreatDoor
open Go.RowKit Go.Sort

/-- what event gives -/
def EvGot (W : World) (o : Option Ev) (x : Ending) (w' : World) : Prop := (∃ (e : Ev) (b : Bool), x = .returned (.tuple #[evVal e, .bool b]) ∧ (match o with | some ev => e = ev ∧ b = true | none => b = false)) ∧ Below W.heap.size W w'
theorem ev_end {W w : World} {A : Act} {e : Ev} {b : Bool} {o : Option Ev} (hb : Below W.heap.size W w) (hr : Blk w W.heap.size 116 (evCs e)) (ho : match o with | some ev => e = ev ∧ b = true | none => b = false)
    (hp : A.tmps.getD 4 undef = .pointer (some ⟨W.heap.size, 0, none⟩)) (hx : A.tmps.getD 5 undef = .bool b) (hd : A.defers = []) :
    bodyPost Tryz.prog Tryz.f53 (EvGot W o) Exit.ret A w :=
  bodyPost_ret (results_row_tmp rfl A.tmps w _ _ _ _ _ hp hx hr Tryz.underlying116 rfl (by kernel_rfl)) hd ⟨⟨e, b, rfl, ho⟩, hb⟩
/-- with the result's block -/
structure SE (W : World) (B sb db : Nat) (D : Dk) (s : St) (v : Value) (n f x : Int) (down : Bool) (w : World) : Prop where
  sd : SD B sb db D s v n f x down w
  res : Blk w W.heap.size 116 (evCs Ev.zero)
  below : Below W.heap.size W w
section
variable {W w w' : World} {B sb db : Nat} {D : Dk} {s : St} {v : Value} {n f x : Int} {down : Bool}
theorem SE.keep (h : SE W B sb db D s v n f x down w) (hb : Below w.heap.size w w') : SE W B sb db D s v n f x down w' := ⟨h.sd.keep hb, h.res.below' hb, below_2 h.below hb⟩
theorem SE.drew (h : SE W B sb db D s v n f x down w) : SE W B sb db D s v n f x down w.drew := ⟨h.sd.drew, h.res, ⟨h.below.os, h.below.tape, h.below.output, h.below.size, h.below.block⟩⟩
theorem SE.start (h : SD B sb db D s v n f x down W) : SE W B sb db D s v n f x down (W.alloc (.cells (evCs Ev.zero) 116)) :=
  ⟨h.keep ((Below.refl _ _).alloc (Nat.le_refl _) _), Blk.new W _ _, (Below.refl _ _).alloc (Nat.le_refl _) _⟩
end
theorem cut_c (l : List UInt8) (hl : l.length ≤ 5000) (w : World) (hm : MaxL w) : Calls Tryz.prog 108 #[.string (txt l), .string ⟨#[32]⟩] w fun e w' => e = .returned (.tuple #[.string (txt (firstHead l)), .string (txt (firstRest l)), .bool (decide (32 ∈ l))]) ∧ Below w.heap.size w w' := by
  obtain ⟨m, hm⟩ := hm
  refine (Tryz.strings_Cut (txt l) ⟨#[32]⟩ m w (by rw [txt_size_]; omega) hm).mono ?_
  rintro e w' ⟨rfl, q, rfl⟩
  refine ⟨?_, below_drewN (Below.refl _ _) q⟩
  rw [data_txt]
  have := lib_cut l
  have e2 : (⟨#[32]⟩ : ByteArray).data.toList = [32] := rfl
  rw [e2, this]
  rfl
theorem rest_len (l : List UInt8) : (firstRest l).length ≤ l.length := by
  unfold firstRest
  rw [List.length_drop]
  have := (List.dropWhile_sublist (p := fun c : UInt8 => c != 32) (l := l)).length_le
  omega

set_option maxHeartbeats 4000000 in
set_option maxRecDepth 100000 in
theorem event_far (B sb db : Nat) (D : Dk) (s : St) (v : Value) (n f x k : Int) (down : Bool) (W : World) (h : SD B sb db D s v n f x down W) (h0 : 0 ≤ f) (h1 : f ≤ 1000000) (h2 : 0 ≤ k) (h3 : k ≤ 1000000) (hk : 16 ≤ k - f) :
    Calls Tryz.prog 53 #[.pointer (some ⟨sb, 0, none⟩), .int .i64 k] W (EvGot W none) := by
  have H0 := Lib.hid (SE.start h)
  obtain ⟨ck, nx, L⟩ := s
  obtain ⟨c0, c1, c2, c3, c4, c5, c6, c7, z, hlt⟩ := h.cells
  clear h
  unfold evCs Ev.zero Fam.zero at H0
  dsimp only at H0
  go_enter Tryz.func53, Tryz.ntmps53
  go_wp2_with fail
  exact ev_end (e := Ev.zero) (b := false) H0.out.below H0.out.res rfl rfl rfl rfl
set_option maxHeartbeats 4000000 in
set_option maxRecDepth 100000 in
theorem event_none (B sb db : Nat) (D : Dk) (s : St) (v : Value) (n f x k : Int) (down : Bool) (W : World) (h : SD B sb db D s v n f x down W) (hf : D.fits) (h0 : 0 ≤ f) (h1 : f ≤ 1000000) (h2 : 0 ≤ k) (h3 : k ≤ 1000000) (hk : k - f < 16) (ho : openL tagL (blkOf D (k % 16).toNat) = none) :
    Calls Tryz.prog 53 #[.pointer (some ⟨sb, 0, none⟩), .int .i64 k] W (EvGot W none) := by
  have H0 := Lib.hid (SE.start h)
  obtain ⟨j, hj, hj2⟩ : ∃ j : Nat, k.tmod 16 = (j : Int) ∧ (k % 16).toNat = j := ⟨(k % 16).toNat, by rw [Int.tmod_eq_emod_of_nonneg h2]; omega, rfl⟩
  have hj16 : j < 16 := by omega
  rw [hj2] at ho
  have HRD := Lib.hid (fun w hd => disk_read db D j w hd (by omega))
  have HOP := Lib.hid (fun w => store_opened (D.blk.getD j ByteArray.empty) w (by have := hf j; omega))
  have hol : openL tagL (D.blk.getD j ByteArray.empty).data.toList = none := ho
  rw [hol] at HOP
  have HCU := Lib.hid (cut_c [] (Nat.zero_le _))
  have hnil : txt [] = ⟨#[]⟩ := rfl
  rw [hnil] at HCU
  generalize D.blk.getD j ByteArray.empty = blk at *
  obtain ⟨ck, nx, L⟩ := s
  obtain ⟨c0, c1, c2, c3, c4, c5, c6, c7, z, hlt⟩ := h.cells
  clear h ho hol hnil hj2
  unfold evCs Ev.zero Fam.zero at H0
  dsimp only at H0
  go_enter Tryz.func53, Tryz.ntmps53
  go_wp2_with fail
  refine (HRD.out _ H0.out.sd.disk).mono ?_
  rintro e w1 ⟨rfl, rfl⟩
  go_wp2_with fail
  go_at_call 105
  refine (HOP.out _).mono ?_
  rintro e w2 ⟨⟨x2, b2, rfl, rfl, rfl⟩, hb⟩
  have H2 := Lib.hid (H0.out.keep hb)
  clear hb
  go_wp2_with fail
  go_at_call 108
  refine (HCU.out _ H2.out.sd.env.maxl).mono ?_
  rintro e w3 ⟨rfl, hb⟩
  have H3 := Lib.hid (H2.out.keep hb)
  clear hb H2 H0
  have hres := H3.out.res
  have f1 := hres.frozen
  obtain ⟨r0, r1, r2, r3, r4, r5, r6, r7, r8, r9, r10, r11⟩ := ev_cells (k := 0) (i := 0) (cl := ⟨#[]⟩) (su := ⟨#[]⟩) (sc := ⟨#[]⟩) (ge := 0) (ma := 0) (us := 0) (re := ⟨#[]⟩) (de := false) (id := 0) (ti := 0) hres
  clear hres
  go_wp2_with fail
  exact ev_end (e := Ev.zero) (b := false) (res_below (e' := Ev.zero) H3.out.below) (res_sets (e' := Ev.zero) H3.out.res) rfl rfl rfl rfl
set_option maxHeartbeats 4000000 in
set_option maxRecDepth 100000 in
theorem event_other (B sb db : Nat) (D : Dk) (s : St) (v : Value) (n f x k : Int) (down : Bool) (W : World) (h : SD B sb db D s v n f x down W) (hf : D.fits) (h0 : 0 ≤ f) (h1 : f ≤ 1000000) (h2 : 0 ≤ k) (h3 : k ≤ 1000000) (hk : k - f < 16) (l : List UInt8) (ho : openL tagL (blkOf D (k % 16).toNat) = some l) (hll : l.length ≤ 240) (hne : firstHead l ≠ Lib.itoa k) (hkM : okM k = true) :
    Calls Tryz.prog 53 #[.pointer (some ⟨sb, 0, none⟩), .int .i64 k] W (EvGot W none) := by
  have H0 := Lib.hid (SE.start h)
  obtain ⟨j, hj, hj2⟩ : ∃ j : Nat, k.tmod 16 = (j : Int) ∧ (k % 16).toNat = j := ⟨(k % 16).toNat, by rw [Int.tmod_eq_emod_of_nonneg h2]; omega, rfl⟩
  have hj16 : j < 16 := by omega
  rw [hj2] at ho
  have HRD := Lib.hid (fun w hd => disk_read db D j w hd (by omega))
  have HOP := Lib.hid (fun w => store_opened (D.blk.getD j ByteArray.empty) w (by have := hf j; omega))
  have hol : openL tagL (D.blk.getD j ByteArray.empty).data.toList = some l := ho
  have HOP : Hid (∀ w, Calls Tryz.prog 105 #[.string (D.blk.getD j ByteArray.empty)] w fun e w' => e = .returned (.tuple #[.string (txt l), .bool true]) ∧ Below w.heap.size w w') := Lib.hid fun w => by
    have h1 := HOP.out w
    rw [hol] at h1
    refine h1.mono ?_
    rintro e w' ⟨⟨x2, b2, rfl, rfl, rfl⟩, hb⟩
    exact ⟨rfl, hb⟩
  have HCU := Lib.hid (cut_c l (by omega))
  have HIT := Lib.hid (fun w hT => itoaM_c k hkM w hT)
  have hq : ((txt (firstHead l)).toList == (itoS k).toList) = false := by
    rw [toList_txt, show (itoS k).toList = Lib.itoa k from by unfold itoS; rw [ByteArray.toList_eq]]
    simpa using hne
  generalize itoS k = ik at *
  generalize decide (32 ∈ l) = fb at *
  generalize txt (firstHead l) = th at *
  generalize txt (firstRest l) = tr at *
  generalize txt l = tl at *
  generalize D.blk.getD j ByteArray.empty = blk at *
  obtain ⟨ck, nx, L⟩ := s
  obtain ⟨c0, c1, c2, c3, c4, c5, c6, c7, z, hlt⟩ := h.cells
  clear h ho hol hj2 hne hkM hll
  unfold evCs Ev.zero Fam.zero at H0
  dsimp only at H0
  go_enter Tryz.func53, Tryz.ntmps53
  go_wp2_with fail
  refine (HRD.out _ H0.out.sd.disk).mono ?_
  rintro e w1 ⟨rfl, rfl⟩
  go_wp2_with fail
  go_at_call 105
  refine (HOP.out _).mono ?_
  rintro e w2 ⟨rfl, hb⟩
  have H2 := Lib.hid (H0.out.keep hb)
  clear hb
  go_wp2_with fail
  go_at_call 108
  refine (HCU.out _ H2.out.sd.env.maxl).mono ?_
  rintro e w3 ⟨rfl, hb⟩
  have H3a := Lib.hid (H2.out.keep hb)
  clear hb H2 H0
  go_wp2_with fail
  go_at_call 26
  refine (HIT.out _ H3a.out.sd.env.tens).mono ?_
  rintro e w4 ⟨rfl, hb⟩
  have H3 := Lib.hid (H3a.out.keep hb)
  clear hb H3a
  have hres := H3.out.res
  have f1 := hres.frozen
  obtain ⟨r0, r1, r2, r3, r4, r5, r6, r7, r8, r9, r10, r11⟩ := ev_cells (k := 0) (i := 0) (cl := ⟨#[]⟩) (su := ⟨#[]⟩) (sc := ⟨#[]⟩) (ge := 0) (ma := 0) (us := 0) (re := ⟨#[]⟩) (de := false) (id := 0) (ti := 0) hres
  clear hres
  go_wp2_with fail
  exact ev_end (e := Ev.zero) (b := false) (res_below (e' := Ev.zero) H3.out.below) (res_sets (e' := Ev.zero) H3.out.res) rfl rfl rfl rfl
end Go.Proofs.YtepjcdjpikbbjaaGreatDoor

/-
  store.Store's event, where the log has it; all ways joined.
-/
namespace Go.Proofs.YtepjcdjpikbbjaaGreatDoor
open Go.RowKit Go.Sort

theorem below_dr {B : Nat} {a w : World} (h : Below B a w) : Below B a w.drew := ⟨h.os, h.tape, h.output, h.size, h.block⟩
theorem blk_dr {w : World} {g : Nat} {t : TypeId} {cs : Array Value} (h : Blk w g t cs) : Blk w.drew g t cs := h
set_option maxHeartbeats 4000000 in
set_option maxRecDepth 100000 in
theorem event_read (B sb db : Nat) (D : Dk) (s : St) (v : Value) (n f x k : Int) (down : Bool) (W : World) (h : SD B sb db D s v n f x down W) (hf : D.fits) (h0 : 0 ≤ f) (h1 : f ≤ 1000000) (h2 : 0 ≤ k) (h3 : k ≤ 1000000) (hk : k - f < 16) (l : List UInt8) (ho : openL tagL (blkOf D (k % 16).toNat) = some l) (hll : l.length ≤ 240) (hne : firstHead l = Lib.itoa k) (hkM : okM k = true) :
    Calls Tryz.prog 53 #[.pointer (some ⟨sb, 0, none⟩), .int .i64 k] W (EvGot W (if readB (firstRest l) then some (readE (firstRest l)) else none)) := by
  have H0 := Lib.hid (SE.start h)
  obtain ⟨j, hj, hj2⟩ : ∃ j : Nat, k.tmod 16 = (j : Int) ∧ (k % 16).toNat = j := ⟨(k % 16).toNat, by rw [Int.tmod_eq_emod_of_nonneg h2]; omega, rfl⟩
  have hj16 : j < 16 := by omega
  rw [hj2] at ho
  have HRD := Lib.hid (fun w hd => disk_read db D j w hd (by omega))
  have HOP := Lib.hid (fun w => store_opened (D.blk.getD j ByteArray.empty) w (by have := hf j; omega))
  have hol : openL tagL (D.blk.getD j ByteArray.empty).data.toList = some l := ho
  have HOP : Hid (∀ w, Calls Tryz.prog 105 #[.string (D.blk.getD j ByteArray.empty)] w fun e w' => e = .returned (.tuple #[.string (txt l), .bool true]) ∧ Below w.heap.size w w') := Lib.hid fun w => by
    have h1 := HOP.out w
    rw [hol] at h1
    refine h1.mono ?_
    rintro e w' ⟨⟨x2, b2, rfl, rfl, rfl⟩, hb⟩
    exact ⟨rfl, hb⟩
  have HCU := Lib.hid (cut_c l (by omega))
  have HIT := Lib.hid (fun w hT => itoaM_c k hkM w hT)
  have hq : ((txt (firstHead l)).toList == (itoS k).toList) = true := by
    rw [toList_txt, show (itoS k).toList = Lib.itoa k from by unfold itoS; rw [ByteArray.toList_eq]]
    simpa using hne
  have hrl := rest_len l
  have HRE : Hid (∀ w, WB w w → ErrVars w → Calls Tryz.prog 106 #[.string (txt (firstRest l))] w (ReadGot w (readE (firstRest l)) (if readB (firstRest l) then 0 else 3))) := Lib.hid fun w hw he => by
    have := ev_read (txt (firstRest l)) w (by rw [txt_size_]; omega) hw he
    rw [data_txt] at this
    exact this
  generalize itoS k = ik at *
  generalize decide (32 ∈ l) = fb at *
  generalize txt (firstHead l) = th at *
  generalize txt (firstRest l) = tr at *
  generalize readE (firstRest l) = ev at *
  generalize readB (firstRest l) = rb at *
  generalize txt l = tl at *
  generalize D.blk.getD j ByteArray.empty = blk at *
  obtain ⟨ck, nx, L⟩ := s
  obtain ⟨c0, c1, c2, c3, c4, c5, c6, c7, z, hlt⟩ := h.cells
  clear h ho hol hj2 hne hkM hll hrl
  unfold evCs Ev.zero Fam.zero at H0
  dsimp only at H0
  rcases rb with _ | _
  all_goals
    simp only [Bool.false_eq_true, if_false, if_true] at HRE
    go_enter Tryz.func53, Tryz.ntmps53
    go_wp2_with fail
    refine (HRD.out _ H0.out.sd.disk).mono ?_
    rintro e w1 ⟨rfl, rfl⟩
    go_wp2_with fail
    go_at_call 105
    refine (HOP.out _).mono ?_
    rintro e w2 ⟨rfl, hb⟩
    have H2 := Lib.hid (H0.out.keep hb)
    clear hb
    go_wp2_with fail
    go_at_call 108
    refine (HCU.out _ H2.out.sd.env.maxl).mono ?_
    rintro e w3 ⟨rfl, hb⟩
    have H3a := Lib.hid (H2.out.keep hb)
    clear hb H2 H0
    go_wp2_with fail
    go_at_call 26
    refine (HIT.out _ H3a.out.sd.env.tens).mono ?_
    rintro e w4 ⟨rfl, hb⟩
    have H3 := Lib.hid (H3a.out.keep hb)
    clear hb H3a
    go_wp2_with fail
    go_at_call 106
    refine (HRE.out _ H3.out.sd.env.wb H3.out.sd.env.errs).mono ?_
    rintro e w5 ⟨rfl, hb⟩
    have H4 := Lib.hid (H3.out.keep hb)
    clear hb H3 c0 c1 c2 c3 c4 c5 c6 c7 z hlt
    obtain ⟨kd, ⟨i, cl, su, sc, ge, ma, us, re, de⟩, id, ti⟩ := ev
    unfold evVal evCs
    dsimp only
    first
      | rw [show errV 3 = .iface 57 (.int .i64 3) from rfl]
      | rw [show errV 0 = .nilIface from rfl]
    have HN := Lib.hid (Blk.new w5 116 (evCs ⟨kd, ⟨i, cl, su, sc, ge, ma, us, re, de⟩, id, ti⟩))
    have HK := Lib.hid (H4.out.keep ((Below.refl _ _).alloc (Nat.le_refl _) (.cells (evCs ⟨kd, ⟨i, cl, su, sc, ge, ma, us, re, de⟩, id, ti⟩) 116)))
    have hres := H4.out.res
    have f1 := hres.frozen
    have f2 := hres.lt
    obtain ⟨r0, r1, r2, r3, r4, r5, r6, r7, r8, r9, r10, r11⟩ := ev_cells (k := 0) (i := 0) (cl := ⟨#[]⟩) (su := ⟨#[]⟩) (sc := ⟨#[]⟩) (ge := 0) (ma := 0) (us := 0) (re := ⟨#[]⟩) (de := false) (id := 0) (ti := 0) hres
    clear hres
    have f3 := HK.out.res.frozen
    unfold evCs at f3
    dsimp only at f3
    go_wp2_with fail
    go_region
    go_wp2_with fail
    have hb1 := res_below (e' := ⟨kd, ⟨i, cl, su, sc, ge, ma, us, re, de⟩, id, ti⟩) H4.out.below
    have hb2 := below_dr (hb1.alloc hb1.size (.cells #[.int .i64 kd, .int .i64 i, .string cl, .string su, .string sc, .int .i64 ge, .int .i64 ma, .int .i64 us, .string re, .bool de, .int .i64 id, .int .i64 ti] 116))
    have hr1 := res_sets (e' := ⟨kd, ⟨i, cl, su, sc, ge, ma, us, re, de⟩, id, ti⟩) H4.out.res
    have hr2 := blk_dr (hr1.alloc (.cells #[.int .i64 kd, .int .i64 i, .string cl, .string su, .string sc, .int .i64 ge, .int .i64 ma, .int .i64 us, .string re, .bool de, .int .i64 id, .int .i64 ti] 116))
    first
      | exact ev_end (o := none) (b := false) hb2 hr2 rfl rfl rfl rfl
      | exact ev_end (b := true) hb2 hr2 ⟨rfl, rfl⟩ rfl rfl rfl
theorem openL_len {s x : List UInt8} (h : openL tagL s = some x) : x.length ≤ s.length := by
  unfold openL at h
  split at h
  · rename_i y t hc
    split at h
    · obtain rfl := Option.some.inj h
      unfold cutLast at hc
      split at hc
      · obtain ⟨rfl, _⟩ := Prod.mk.inj (Option.some.inj hc)
        rw [List.length_take]
        omega
      · cases hc
    · cases h
  · cases h
/-- store.Store's event: the k-th event of the log -/
theorem store_event (B sb db : Nat) (D : Dk) (s : St) (v : Value) (n f x k : Int) (down : Bool) (W : World) (h : SD B sb db D s v n f x down W) (hf : D.fits) (h0 : 0 ≤ f) (h1 : f ≤ 1000000) (h2 : 0 ≤ k) (h3 : k ≤ 1000000) :
    Calls Tryz.prog 53 #[.pointer (some ⟨sb, 0, none⟩), .int .i64 k] W (EvGot W (eventR tagL (blkOf D) f k)) := by
  have hkM : okM k = true := okM_iff.2 (by omega)
  unfold eventR
  by_cases hk : k - f ≥ 16
  · rw [if_pos hk]
    exact event_far B sb db D s v n f x k down W h h0 h1 h2 h3 hk
  · rw [if_neg hk]
    unfold readRec
    rcases ho : openL tagL (blkOf D (k % 16).toNat) with _ | l
    · exact event_none B sb db D s v n f x k down W h hf h0 h1 h2 h3 (by omega) ho
    · have hl := openL_len ho
      have hb := blkOf_size hf (k % 16).toNat
      dsimp only
      by_cases hh : firstHead l = Lib.itoa k
      · rw [if_pos hh]
        exact event_read B sb db D s v n f x k down W h hf h0 h1 h2 h3 (by omega) l ho (by omega) hh hkM
      · rw [if_neg hh]
        exact event_other B sb db D s v n f x k down W h hf h0 h1 h2 h3 (by omega) l ho (by omega) hh hkM
end Go.Proofs.YtepjcdjpikbbjaaGreatDoor
