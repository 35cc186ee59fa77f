/-
  The desk's commands: show.
-/
import Derived.Test.YtepjcdjpikbbjaaGreatDoorP22
import Derived.Test.YtepjcdjpikbbjaaGreatDoorP24
import Derived.Test.YtepjcdjpikbbjaaGreatDoorP26
import Derived.Test.YtepjcdjpikbbjaaGreatDoorP01
import Derived.Maps.OwnOps
import Derived.Maps.OwnSet
import Derived.Maps.Views
import Derived.StringKeys
import Derived.Test.YtepjcdjpikbbjaaGreatDoorP10
import Derived.Test.YtepjcdjpikbbjaaGreatDoorP23
import Derived.Test.YtepjcdjpikbbjaaGreatDoorP25
namespace Go.Proofs.YtepjcdjpikbbjaaGreatDoor
open Go.RowKit Go.Sort

theorem live_fam {r : Ru} {s : St} (h : Fit s) (t : ByteArray) (kind : Int) : FamI (liveR r s t kind).f := by
  unfold liveR
  split
  · exact FamI.zero
  · split
    · exact FamI.zero
    · split
      · exact FamI.zero
      · rename_i f hf
        have hm : f ∈ s.fams := List.mem_of_find?_eq_some hf
        split
        · exact FamI.zero
        · split
          · exact FamI.zero
          · exact FamI.of (h.fams f hm)
theorem show_fam {r : Ru} {s : St} (h : Fit s) (t : ByteArray) : FamI (showP r s t).1 := by
  unfold showP showL
  split
  · exact FamI.zero
  · split
    · exact FamI.zero
    · split
      · exact FamI.zero
      · exact live_fam h t 2
section
variable {W w : World} {xb vb sb db k : Nat} {r : Ru} {z : SS} {v : Value}
set_option maxHeartbeats 4000000 in
set_option maxRecDepth 100000 in
theorem desk_show (h : DKW W xb vb sb db k r z v w) (hk : k < 1000000) (g off c : Nat) (L : List (List UInt8)) (hw : WAt w g off L) (hl : ∀ x ∈ L, x.length ≤ 5000) :
    Calls Tryz.prog 73 #[.pointer (some ⟨xb, 0, none⟩), .slice (some ⟨g, off, none⟩) L.length c] w (DkDone W w xb k (showD ⟨r, z⟩ L)) := by
  obtain ⟨⟩ := used3 hk hw hl
  by_cases hL : L.length = 1
  · rcases L with _ | ⟨a, _ | ⟨_, L⟩⟩
    · exact absurd hL (by simp)
    · clear hL
      have HWT := Lib.hid hw
      have d0 := hw.2 0 a rfl
      have l0 := hl a (by simp)
      simp only [Nat.add_zero, List.length_cons, List.length_nil, Nat.zero_add] at *
      clear hw hl
      have H := Lib.hid h
      have HC := Lib.hid (fun w (h : DKW W xb vb sb db k r z v w) => svc_show h.sw (txt a) (by rw [txt_size]; exact l0))
      have HFI := Lib.hid (show_fam (r := r) h.sw.sx.fit (txt a))
      unfold ShowGot at HC
      have hD : showD ⟨r, z⟩ [a] = (⟨r, z⟩, famT (showP r z.s (txt a)).1, (showP r z.s (txt a)).2) := rfl
      rw [hD]
      clear hD
      generalize showP r z.s (txt a) = Q at *
      obtain ⟨fm, code⟩ := Q
      dsimp only at HC HFI ⊢
      have HFM := Lib.hid (fun w hw => desk_family fm w HFI.out hw)
      have HSZ := Lib.hid (famT_size HFI.out)
      generalize hft : famT fm = ft at *
      clear hft
      obtain ⟨fi, fcl, fsu, fsc, fge, fma, fus, fre, fde⟩ := fm
      unfold famVal famCs at HC HFM
      dsimp only at HC HFM
      obtain ⟨c0, c1, c2, c3, c4, c5, c6, hlt⟩ := h.seven
      clear h hk
      go_enter Tryz.func73, Tryz.ntmps73
      go_wp2_with fail
      go_at_call 17
      refine (words_yes _ 1 c w).mono ?_
      rintro e w0 ⟨rfl, rfl⟩
      go_wp2_with fail
      have HSD : Below w.heap.size w w.drew := below_dr (Below.refl w.heap.size w)
      clear c0 c1 c2 c3 c4 c5 c6 hlt d0
      refine wp_region_tail (fun w' => Below w.heap.size w w') [] (by kernel_rfl) ?_
      refine wpAnyT_take 16 (i := 0) (v := ?v0_1) rfl (by kernel_rfl) (by kernel_rfl) (by kernel_rfl) (by kernel_rfl) (by kernel_rfl) (fun _ _ _ h => h) (by rfl) ?hy0_1 HSD ?rest0_1
      case hy0_1 => (intro w hSw; obtain ⟨c0, c1, c2, c3, c4, c5, c6, hlt⟩ := DKW.seven (H.out.keep hSw); have d0 := WAt.one (HWT.out.keep hSw); go_simp; (try with_reducible rfl))
      simp only [Act.put]
      refine wpAnyT_take 16 (i := 1) (v := ?v1_2) rfl (by kernel_rfl) (by kernel_rfl) (by kernel_rfl) (by kernel_rfl) (by kernel_rfl) (fun _ _ _ h => h) (by rfl) ?hy1_2 HSD ?rest1_2
      case hy1_2 => (intro w hSw; obtain ⟨c0, c1, c2, c3, c4, c5, c6, hlt⟩ := DKW.seven (H.out.keep hSw); have d0 := WAt.one (HWT.out.keep hSw); go_simp; (try with_reducible rfl))
      simp only [Act.put]
      refine wpAnyT_take 16 (i := 2) (v := ?v2_3) rfl (by kernel_rfl) (by kernel_rfl) (by kernel_rfl) (by kernel_rfl) (by kernel_rfl) (fun _ _ _ h => h) (by rfl) ?hy2_3 HSD ?rest2_3
      case hy2_3 => (intro w hSw; obtain ⟨c0, c1, c2, c3, c4, c5, c6, hlt⟩ := DKW.seven (H.out.keep hSw); have d0 := WAt.one (HWT.out.keep hSw); go_simp; (try with_reducible rfl))
      simp only [Act.put]
      refine wpAnyT_take 16 (i := 3) (v := ?v3_4) rfl (by kernel_rfl) (by kernel_rfl) (by kernel_rfl) (by kernel_rfl) (by kernel_rfl) (fun _ _ _ h => h) (by rfl) ?hy3_4 HSD ?rest3_4
      case hy3_4 => (intro w hSw; obtain ⟨c0, c1, c2, c3, c4, c5, c6, hlt⟩ := DKW.seven (H.out.keep hSw); have d0 := WAt.one (HWT.out.keep hSw); go_simp; (try with_reducible rfl))
      simp only [Act.put]
      refine wpAnyT_take 16 (i := 4) (v := ?v4_5) rfl (by kernel_rfl) (by kernel_rfl) (by kernel_rfl) (by kernel_rfl) (by kernel_rfl) (fun _ _ _ h => h) (by rfl) ?hy4_5 HSD ?rest4_5
      case hy4_5 => (intro w hSw; obtain ⟨c0, c1, c2, c3, c4, c5, c6, hlt⟩ := DKW.seven (H.out.keep hSw); have d0 := WAt.one (HWT.out.keep hSw); go_simp; (try with_reducible rfl))
      simp only [Act.put]
      refine wpAnyT_take 16 (i := 5) (v := ?v5_6) rfl (by kernel_rfl) (by kernel_rfl) (by kernel_rfl) (by kernel_rfl) (by kernel_rfl) (fun _ _ _ h => h) (by rfl) ?hy5_6 HSD ?rest5_6
      case hy5_6 => (intro w hSw; obtain ⟨c0, c1, c2, c3, c4, c5, c6, hlt⟩ := DKW.seven (H.out.keep hSw); have d0 := WAt.one (HWT.out.keep hSw); go_simp; (try with_reducible rfl))
      simp only [Act.put]
      refine wpAnyT_take 16 (i := 6) (v := ?v6_7) rfl (by kernel_rfl) (by kernel_rfl) (by kernel_rfl) (by kernel_rfl) (by kernel_rfl) (fun _ _ _ h => h) (by rfl) ?hy6_7 HSD ?rest6_7
      case hy6_7 => (intro w hSw; obtain ⟨c0, c1, c2, c3, c4, c5, c6, hlt⟩ := DKW.seven (H.out.keep hSw); have d0 := WAt.one (HWT.out.keep hSw); go_simp; (try with_reducible rfl))
      simp only [Act.put]
      refine wpAnyT_two (i := 7) (j := 11) (by kernel_rfl) rfl rfl ?_ ?_
      · intro K7 hK7
        go_simp
        go_at_call 133
        refine (HC.out _ (H.out.keep HSD)).mono ?_
        rintro x' w2 ⟨rfl, hb⟩
        dsimp only
        have hB2 := below_2 HSD hb
        refine hK7.out _ _ (fun _ => hB2) ?_
        try simp only [Act.put]
        refine wpAnyT_take 16 (i := 8) (v := ?v8_8) rfl (by kernel_rfl) (by kernel_rfl) (by kernel_rfl) (by kernel_rfl) (by kernel_rfl) (fun _ _ _ h => h) (by rfl) ?hy8_8 hB2 ?rest8_8
        case hy8_8 => (intro w hSw; go_simp; (try with_reducible rfl))
        simp only [Act.put]
        refine wpAnyT_take 16 (i := 9) (v := ?v9_9) rfl (by kernel_rfl) (by kernel_rfl) (by kernel_rfl) (by kernel_rfl) (by kernel_rfl) (fun _ _ _ h => h) (by rfl) ?hy9_9 hB2 ?rest9_9
        case hy9_9 => (intro w hSw; go_simp; (try with_reducible rfl))
        simp only [Act.put]
        refine wpAnyT_take 16 (i := 10) (v := ?v10_10) rfl (by kernel_rfl) (by kernel_rfl) (by kernel_rfl) (by kernel_rfl) (by kernel_rfl) (fun _ _ _ h => h) (by rfl) ?hy10_10 hB2 ?rest10_10
        case hy10_10 => (intro w hSw; go_simp; (try with_reducible rfl))
        simp only [Act.put]
        refine wpAnyT_one (i := 11) (by kernel_rfl) rfl ?_
        intro K8 hK8
        go_simp
        have hal := (Below.refl w2.heap.size w2).alloc (Nat.le_refl _) (.cells #[.int .i64 0, .string ⟨#[]⟩, .string ⟨#[]⟩, .string ⟨#[]⟩, .int .i64 0, .int .i64 0, .int .i64 0, .string ⟨#[]⟩, .bool false] 95)
        have hB3 := below_2 hB2 hal
        have hq3 := Blk.new w2 95 #[.int .i64 0, .string ⟨#[]⟩, .string ⟨#[]⟩, .string ⟨#[]⟩, .int .i64 0, .int .i64 0, .int .i64 0, .string ⟨#[]⟩, .bool false]
        refine hK8.out _ _ (fun _ => hB3) ?_
        try simp only [Act.put]
        refine wpAnyT_one (i := 12) (by kernel_rfl) rfl ?_
        intro K9 hK9
        rw [if_pos (by rfl)]
        refine wp_store_row 95 _ _ rfl (w2.heap.size) #[.int .i64 fi, .string fcl, .string fsu, .string fsc, .int .i64 fge, .int .i64 fma, .int .i64 fus, .string fre, .bool fde] rfl rfl 95 _ hq3 (by kernel_rfl) rfl (by simp [Value.oneCell']) ?_
        obtain ⟨w5, -, e5, q5, g5⟩ := row_stored (P := Tryz.prog) (ty := 95) (cells := #[.int .i64 fi, .string fcl, .string fsu, .string fsc, .int .i64 fge, .int .i64 fma, .int .i64 fus, .string fre, .bool fde]) hq3 (by kernel_rfl) rfl (by simp [Value.oneCell'])
        have HB5 := Lib.hid (hB3.grown g5 hB3.size (fun i hi => by cases hi; exact hB2.size))
        have HQ5 := Lib.hid q5
        refine hK9.out _ _ (fun _ => by rw [← e5]; exact HB5.out) ?_
        try simp only [Act.put]
        refine wpAnyT_one (i := 13) (by kernel_rfl) rfl ?_
        intro K10 hK10
        go_simp
        try dsimp only
        refine hK10.out _ _ (fun _ => by rw [← e5]; exact HB5.out) ?_
        refine wpAnyT_done (by kernel_rfl) ?_ _
        rw [← e5]
        clear e5 q5 g5
        by_cases hq : code = 0
        · subst hq
          obtain ⟨y0, y1, y2, y3, y4, y5, y6, y7, y8⟩ := fam_cells HQ5.out
          rw [errV_0]
          go_wp2_with fail
          go_at_call 20
          refine (must_nil _).mono ?_
          rintro x' w6 ⟨rfl, rfl⟩
          dsimp only
          go_wp2_with fail
          go_at_call 122
          refine (HFM.out _ (H.out.keep HB5.out).env.wb).mono ?_
          rintro x' w7 ⟨rfl, hb7⟩
          have HB7 := Lib.hid (below_2 HB5.out hb7)
          clear hb7 y0 y1 y2 y3 y4 y5 y6 y7 y8
          go_wp2_with fail
          go_ret
          exact H.out.told HB7.out _
        · rw [errV_n hq]
          have HQ0 := Lib.hid hq
          clear hq
          go_wp2_with fail
          go_at_call 20
          refine (must_no code _ (H.out.keep HB5.out).et).mono ?_
          rintro x' w6 ⟨rfl, hb⟩
          dsimp only
          exact ⟨rfl, H.out.thrown (below_2 HB5.out hb) HQ0.out⟩
      · intro K7 hK7
        go_simp
        have hal := (Below.refl w.drew.heap.size w.drew).alloc (Nat.le_refl _) (.cells #[.int .i64 0, .string ⟨#[]⟩, .string ⟨#[]⟩, .string ⟨#[]⟩, .int .i64 0, .int .i64 0, .int .i64 0, .string ⟨#[]⟩, .bool false] 95)
        have hB1 := below_2 HSD hal
        have hq1 : Blk (w.drew.alloc (.cells #[.int .i64 0, .string ⟨#[]⟩, .string ⟨#[]⟩, .string ⟨#[]⟩, .int .i64 0, .int .i64 0, .int .i64 0, .string ⟨#[]⟩, .bool false] 95)) w.heap.size 95 #[.int .i64 0, .string ⟨#[]⟩, .string ⟨#[]⟩, .string ⟨#[]⟩, .int .i64 0, .int .i64 0, .int .i64 0, .string ⟨#[]⟩, .bool false] := Blk.new w.drew 95 #[.int .i64 0, .string ⟨#[]⟩, .string ⟨#[]⟩, .string ⟨#[]⟩, .int .i64 0, .int .i64 0, .int .i64 0, .string ⟨#[]⟩, .bool false]
        refine hK7.out _ _ (fun _ => hB1) ?_
        try simp only [Act.put]
        refine wpAnyT_one (i := 7) (by kernel_rfl) rfl ?_
        intro K8 hK8
        go_simp
        go_at_call 133
        refine (HC.out _ (H.out.keep hB1)).mono ?_
        rintro x' w2 ⟨rfl, hb⟩
        dsimp only
        have hB2 := below_2 hB1 hb
        have hq2 := hq1.below' hb
        refine hK8.out _ _ (fun _ => hB2) ?_
        try simp only [Act.put]
        refine wpAnyT_take 16 (i := 8) (v := ?v8_11) rfl (by kernel_rfl) (by kernel_rfl) (by kernel_rfl) (by kernel_rfl) (by kernel_rfl) (fun _ _ _ h => h) (by rfl) ?hy8_11 hB2 ?rest8_11
        case hy8_11 => (intro w hSw; go_simp; (try with_reducible rfl))
        simp only [Act.put]
        refine wpAnyT_take 16 (i := 9) (v := ?v9_12) rfl (by kernel_rfl) (by kernel_rfl) (by kernel_rfl) (by kernel_rfl) (by kernel_rfl) (fun _ _ _ h => h) (by rfl) ?hy9_12 hB2 ?rest9_12
        case hy9_12 => (intro w hSw; go_simp; (try with_reducible rfl))
        simp only [Act.put]
        refine wpAnyT_take 16 (i := 10) (v := ?v10_13) rfl (by kernel_rfl) (by kernel_rfl) (by kernel_rfl) (by kernel_rfl) (by kernel_rfl) (fun _ _ _ h => h) (by rfl) ?hy10_13 hB2 ?rest10_13
        case hy10_13 => (intro w hSw; go_simp; (try with_reducible rfl))
        simp only [Act.put]
        refine wpAnyT_one (i := 12) (by kernel_rfl) rfl ?_
        intro K9 hK9
        rw [if_pos (by rfl)]
        refine wp_store_row 95 _ _ rfl (w.heap.size) #[.int .i64 fi, .string fcl, .string fsu, .string fsc, .int .i64 fge, .int .i64 fma, .int .i64 fus, .string fre, .bool fde] rfl rfl 95 _ hq2 (by kernel_rfl) rfl (by simp [Value.oneCell']) ?_
        obtain ⟨w5, -, e5, q5, g5⟩ := row_stored (P := Tryz.prog) (ty := 95) (cells := #[.int .i64 fi, .string fcl, .string fsu, .string fsc, .int .i64 fge, .int .i64 fma, .int .i64 fus, .string fre, .bool fde]) hq2 (by kernel_rfl) rfl (by simp [Value.oneCell'])
        have HB5 := Lib.hid (hB2.grown g5 hB2.size (fun i hi => by cases hi; exact Nat.le_refl _))
        have HQ5 := Lib.hid q5
        refine hK9.out _ _ (fun _ => by rw [← e5]; exact HB5.out) ?_
        try simp only [Act.put]
        refine wpAnyT_one (i := 13) (by kernel_rfl) rfl ?_
        intro K10 hK10
        go_simp
        try dsimp only
        refine hK10.out _ _ (fun _ => by rw [← e5]; exact HB5.out) ?_
        refine wpAnyT_done (by kernel_rfl) ?_ _
        rw [← e5]
        clear e5 q5 g5
        by_cases hq : code = 0
        · subst hq
          obtain ⟨y0, y1, y2, y3, y4, y5, y6, y7, y8⟩ := fam_cells HQ5.out
          rw [errV_0]
          go_wp2_with fail
          go_at_call 20
          refine (must_nil _).mono ?_
          rintro x' w6 ⟨rfl, rfl⟩
          dsimp only
          go_wp2_with fail
          go_at_call 122
          refine (HFM.out _ (H.out.keep HB5.out).env.wb).mono ?_
          rintro x' w7 ⟨rfl, hb7⟩
          have HB7 := Lib.hid (below_2 HB5.out hb7)
          clear hb7 y0 y1 y2 y3 y4 y5 y6 y7 y8
          go_wp2_with fail
          go_ret
          exact H.out.told HB7.out _
        · rw [errV_n hq]
          have HQ0 := Lib.hid hq
          clear hq
          go_wp2_with fail
          go_at_call 20
          refine (must_no code _ (H.out.keep HB5.out).et).mono ?_
          rintro x' w6 ⟨rfl, hb⟩
          dsimp only
          exact ⟨rfl, H.out.thrown (below_2 HB5.out hb) HQ0.out⟩
    · exact absurd hL (by simp)
  · have hbad : showD ⟨r, z⟩ L = bad ⟨r, z⟩ 3 := by
      unfold showD
      split
      · exact absurd rfl hL
      · rfl
    rw [hbad]
    have HM := Lib.hid (words_no (some ⟨g, off, none⟩) L.length c 1 w h.et (by simpa using (show (L.length : Int) ≠ 1 by omega)))
    have H := Lib.hid h
    clear h hw hl hL hbad hk
    unfold Thrown at HM
    go_enter Tryz.func73, Tryz.ntmps73
    go_wp2_with fail
    go_at_call 17
    refine HM.out.mono ?_
    rintro e w0 ⟨rfl, hb⟩
    dsimp only
    exact ⟨rfl, H.out.thrown hb (by decide)⟩
end
end Go.Proofs.YtepjcdjpikbbjaaGreatDoor

/-
  The desk's command families: all families as a text.
-/
namespace Go.Proofs.YtepjcdjpikbbjaaGreatDoor
open Go.RowKit Go.Sort

/-- the texts that are joined -/
def famsL (s : St) : List (List UInt8) := (joinS [s.clock, s.next]).data.toList :: s.fams.map fun f => (famT f).data.toList
theorem fold_data (L : List Fam) (o : ByteArray) : (L.foldl (fun o f => o ++ (⟨#[44, 32]⟩ ++ famT f)) o).data.toList = o.data.toList ++ Lib.joinTail [44, 32] (L.map fun f => (famT f).data.toList) := by
  induction L generalizing o with
  | nil => simp [Lib.joinTail]
  | cons f L ih =>
    rw [List.foldl_cons, ih, ByteArray.data_append, Array.toList_append, ByteArray.data_append, Array.toList_append]
    simp [Lib.joinTail]
theorem fams_join (s : St) : txt (Lib.join (famsL s) [44, 32]) = famsT s := by
  unfold famsL famsT
  rw [Lib.join_cons, ← fold_data, txt_data]
theorem fams_len {s : St} (h : Fit s) : (Lib.join (famsL s) [44, 32]).length ≤ 100000 := by
  have hj := joinS_size (L := [s.clock, s.next]) (by simp) (by
    have h1 := okI_of h.clock
    have h2 := okM_iff.1 h.next
    intro x hx
    simp only [List.mem_cons, List.not_mem_nil, or_false] at hx
    rcases hx with rfl | rfl
    · exact h1
    · exact ⟨by omega, by omega⟩)
  have key : ∀ L : List Fam, (∀ f ∈ L, famB f = true) → Lib.lens (L.map fun f => (famT f).data.toList) ≤ 4000 * L.length := by
    intro L
    induction L with
    | nil => intro _; simp [Lib.lens]
    | cons f L ih =>
      intro hf
      have h1 := ih fun g hg => hf g (List.mem_cons_of_mem _ hg)
      have h2 := famT_size (FamI.of (hf f (by simp)))
      have h3 : (famT f).data.toList.length = (famT f).size := size_data _
      simp only [Lib.lens, List.map_cons, List.sum_cons, List.length_cons] at h1 ⊢
      omega
  have h1 := key s.fams h.fams
  have h2 := h.len
  have h3 : (joinS [s.clock, s.next]).data.toList.length = (joinS [s.clock, s.next]).size := size_data _
  unfold famsL
  rw [Lib.join_length]
  simp only [Lib.lens, List.map_cons, List.sum_cons, List.length_map, List.length_cons, List.length_nil] at h1 ⊢
  omega
theorem join_seps (sep : ByteArray) {B : Nat} {v : Value} {L : List (List UInt8)} {w : World} (h : Row w B v L) (hL : L.length ≤ 1000000) (hlen : (Lib.join L sep.data.toList).length ≤ 1000000) :
    Calls Tryz.prog 50 #[v, .string sep] w fun e w' => e = .returned (.string (txt (Lib.join L sep.data.toList))) ∧ Below w.heap.size w w' := by
  obtain ⟨g, cap, rfl, hg, hlt, hn, hm, hH⟩ := h.parts
  have hd : (L.map txt).map (·.data.toList) = L := by
    rw [List.map_map]
    exact (List.map_congr_left fun x _ => data_txt x).trans (List.map_id L)
  have := Tryz.strings_Join g 0 cap (L.map txt) sep w (fun j x hx => by
    rw [List.getElem?_map] at hx
    rcases e : L[j]? with _ | y
    · rw [e] at hx; cases hx
    · rw [e] at hx
      have hj := (List.getElem?_eq_some_iff.1 e).1
      have hc := (hH j (by simpa using hj)).1
      rw [hc]
      simp at hx
      subst hx
      simp [encStr, txt, List.getElem!_eq_getElem?_getD, e]) hlt (by rw [List.length_map]; omega) (by rw [List.length_map]; omega) (by rw [hd]; omega)
  rw [List.length_map, hd] at this
  exact this
/-- what the loop over the families knows -/
structure FL (W w0 : World) (fv : Value) (L : List Fam) (T : List (List UInt8)) (k : Nat) (out : Value) (w : World) : Prop where
  below : Below W.heap.size W w
  since : Below w0.heap.size w0 w
  env : Env W.heap.size w
  row : w.ownsRow w0.heap.size 9 1 out (k + 1) ((T.take (k + 1)).map encStr)
  fr : FRow w w0.heap.size fv L
section
variable {W w0 w w' : World} {fv out : Value} {L : List Fam} {T : List (List UInt8)} {k : Nat}
theorem FL.keep (h : FL W w0 fv L T k out w) (hb : Below w.heap.size w w') : FL W w0 fv L T k out w' := ⟨below_2 h.below hb, below_2 h.since hb, h.env.new h.below.size hb, own_below h.row hb, h.fr.below hb⟩
theorem FL.next {v' : Value} {y : Value} {w1 : World} {o : Obj} (hB : W.heap.size ≤ w0.heap.size) (h : FL W w0 fv L T k out w1) (hk : k + 1 < T.length) (hy : y = encStr (T.getD (k + 1) []))
    (ho : w'.ownsRow w0.heap.size 9 1 v' (k + 1 + 1) ((T.take (k + 1)).map encStr ++ [y])) (hg : (w1.alloc o).grownBy w' out.ownBlock) (hf : FRow w' w0.heap.size fv L) : FL W w0 fv L T (k + 1) v' w' := by
  have b1 : Below w0.heap.size w0 (w1.alloc o) := h.since.alloc h.since.size o
  have c1 : Below W.heap.size W (w1.alloc o) := h.below.alloc h.below.size o
  have hr : ∀ i, out.ownBlock = some i → w0.heap.size ≤ i := fun i e => (h.row.lt i e).1
  have b2 : Below w0.heap.size w0 w' := b1.grown hg b1.size hr
  have c2 : Below W.heap.size W w' := c1.grown hg c1.size fun i e => Nat.le_trans hB (hr i e)
  refine ⟨c2, b2, h.env.keep ((Below.refl _ _ |>.alloc h.below.size o).grown hg c1.size fun i e => Nat.le_trans hB (hr i e)), ?_, hf⟩
  have e : (T.take (k + 1 + 1)).map encStr = (T.take (k + 1)).map encStr ++ [y] := by
    rw [List.take_add_one, List.getElem?_eq_getElem hk, List.map_append, hy]
    simp [List.getD, hk]
  rw [e]
  exact ho
end
def FlRel (W w0 : World) (fv : Value) (L : List Fam) (T : List (List UInt8)) (out i : Value) (wr : World) : Prop := ∃ k : Nat, k ≤ L.length ∧ i = .int .i64 k ∧ FL W w0 fv L T k out wr
end Go.Proofs.YtepjcdjpikbbjaaGreatDoor

/-
  The desk's command families.
-/
namespace Go.Proofs.YtepjcdjpikbbjaaGreatDoor
open Go.RowKit Go.Sort

theorem own_apart {w : World} {B B' s s' n n' : Nat} {e e' : TypeId} {v v' : Value} {xs xs' : List Value} (h : w.ownsRow B e s v n xs) (h' : w.ownsRow B' e' s' v' n' xs') (hne : e ≠ e') {g : Nat} (hv : v.ownBlock = some g) : v'.ownBlock ≠ some g := by
  intro hv'
  rcases h.2 with ⟨rfl, _⟩ | ⟨g1, c1, u1, rfl, _, h1, _⟩
  · simp [Value.ownBlock] at hv
  · rcases h'.2 with ⟨rfl, _⟩ | ⟨g2, c2, u2, rfl, _, h2, _⟩
    · simp [Value.ownBlock] at hv'
    · simp only [Value.ownBlock, Option.some.injEq] at hv hv'
      obtain rfl : g1 = g := by simpa using hv
      obtain rfl : g2 = g1 := by simpa using hv'
      rw [h1] at h2
      simp only [Option.some.injEq, Obj.cells.injEq] at h2
      exact hne h2.2.1
theorem ints_21 (w : World) (o : Obj) (T : TypeId) (a b : Int) : IntsAt ((w.alloc o).alloc (.cells #[.int .i64 a, .int .i64 b] T)) (w.heap.size + 1) [a, b] := by
  have h := ints_new (w.alloc o) T [a, b]
  simpa using h
theorem fams_0 (s : St) : ((famsL s).take 1).map encStr = [.string (joinS [s.clock, s.next])] := by
  show [encStr (joinS [s.clock, s.next]).data.toList] = _
  rw [enc_data]
theorem fams_1 (s : St) {k : Nat} {f : Fam} (h : s.fams[k]? = some f) : encStr ((famsL s).getD (k + 1) []) = .string (famT f) := by
  unfold famsL
  rw [List.getD_cons_succ, List.getD_eq_getElem?_getD, List.getElem?_map, h]
  exact enc_data _
section
variable {W w : World} {xb vb sb db k : Nat} {r : Ru} {z : SS} {v : Value}
set_option maxHeartbeats 4000000 in
set_option maxRecDepth 100000 in
theorem desk_families (h : DKW W xb vb sb db k r z v w) (hk : k < 1000000) (g off c : Nat) (L : List (List UInt8)) (hw : WAt w g off L) (hl : ∀ x ∈ L, x.length ≤ 5000) :
    Calls Tryz.prog 63 #[.pointer (some ⟨xb, 0, none⟩), .slice (some ⟨g, off, none⟩) L.length c] w (DkDone W w xb k (familiesD ⟨r, z⟩ L)) := by
  obtain ⟨⟩ := used3 hk hw hl
  by_cases hL : L.length = 0
  · obtain rfl : L = [] := List.eq_nil_of_length_eq_zero hL
    clear hL hw hl
    simp only [List.length_nil]
    have H := Lib.hid h
    have hD : familiesD ⟨r, z⟩ [] = (⟨r, z⟩, famsT z.s, 0) := rfl
    rw [hD, ← fams_join]
    obtain ⟨i0, hii, hz0, hz1, hz2⟩ := info_parts strInfo
    have HST := Lib.hid ((svc_state h.sw).mono fun _ _ h => got_as h)
    unfold GotAs at HST
    have hfit := h.sw.sx.fit
    have hlen := hfit.len
    have HLEN := Lib.hid (fams_len hfit)
    have HFA := Lib.hid hfit.fams
    have hT : (famsL z.s).length = z.s.fams.length + 1 := by simp [famsL]
    have HJ := Lib.hid (fun g w hw hi => desk_join g [z.s.clock, z.s.next] w hw hi (by simp) (by simp) (by
      have h1 := okI_of hfit.clock
      have h2 := okM_iff.1 hfit.next
      intro x hx
      simp only [List.mem_cons, List.not_mem_nil, or_false] at hx
      rcases hx with rfl | rfl
      · exact h1
      · exact ⟨by omega, by omega⟩))
    simp only [List.length_cons, List.length_nil, Nat.zero_add, Nat.reduceAdd] at HJ
    have HT0 := Lib.hid (fams_0 z.s)
    have HT1 := Lib.hid (fun k f hf => fams_1 z.s (k := k) (f := f) hf)
    obtain ⟨c0, c1, c2, c3, c4, c5, c6, hlt⟩ := h.seven
    clear h hk hD hfit
    generalize famsL z.s = T at *
    generalize z.s.fams = L at *
    generalize z.s.clock = ck at *
    generalize z.s.next = nx at *
    generalize joinS [ck, nx] = jn at *
    go_enter Tryz.func63, Tryz.ntmps63
    go_wp2_with fail
    go_at_call 17
    refine (words_yes _ 0 c w).mono ?_
    rintro e w0 ⟨rfl, rfl⟩
    go_wp2_with fail
    go_at_call 120
    refine HST.out.mono ?_
    rintro x' w1 ⟨a1, ac, rfl, hr, hb⟩
    dsimp only
    have HR1 := Lib.hid hr
    have HB1 := Lib.hid hb
    have HD1 := Lib.hid (H.out.keep hb)
    clear hr hb HST c0 c1 c2 c3 c4 c5 c6 hlt
    go_wp2_with fail
    have hst := Blk.new w1 83 #[.int .i64 ck, .int .i64 nx, .slice a1 L.length ac]
    have hal := (Below.refl w1.heap.size w1).alloc (Nat.le_refl _) (.cells #[.int .i64 ck, .int .i64 nx, .slice a1 L.length ac] 83)
    have hi := ints_21 w1 (.cells #[.int .i64 ck, .int .i64 nx, .slice a1 L.length ac] 83) 3 ck nx
    have hal2 := hal.alloc hal.size (.cells #[.int .i64 ck, .int .i64 nx] 3)
    have hst2 := hst.alloc (.cells #[.int .i64 ck, .int .i64 nx] 3)
    go_at_call 121
    refine (HJ.out _ _ (HD1.out.keep hal2).env.wb hi).mono ?_
    rintro x' w3 ⟨rfl, hb3⟩
    dsimp only
    have hb13 := below_2 hal2 hb3
    have HD3 := Lib.hid (HD1.out.keep hb13)
    have HB3 := Lib.hid (below_2 HB1.out hb13)
    have HR3 := Lib.hid (HR1.out.below hb13)
    have HS3 := Lib.hid (hst2.below' hb3)
    have hrn := Row.new (w := w3) (L := [jn.data.toList]) HB3.out.size (by unfold maxLen; simp)
    have hal3 := (Below.refl w3.heap.size w3).alloc (Nat.le_refl _) (.cells #[.string jn] 9)
    have hrn2 : (w3.alloc (.cells #[.string jn] 9)).ownsRow w.heap.size 9 1 (.slice (some ⟨w3.heap.size, 0, none⟩) 1 1) (0 + 1) ((T.take (0 + 1)).map encStr) := by
      obtain ⟨g', cap', e, ho⟩ := hrn
      simp only [List.map_cons, List.map_nil, enc_data, List.length_cons, List.length_nil, Nat.zero_add] at e ho ⊢
      rw [HT0.out]
      exact ho
    have HF0 := Lib.hid (show FL W w (.slice a1 L.length ac) L T 0 (.slice (some ⟨w3.heap.size, 0, none⟩) 1 1) (w3.alloc (.cells #[.string jn] 9)) from ⟨(HD3.out.keep hal3).below, below_2 HB3.out hal3, (HD3.out.keep hal3).env, hrn2, HR3.out.below hal3⟩)
    obtain ⟨y0, y1, y2⟩ : w3.cell? ⟨w1.heap.size, 0, none⟩ = some (.int .i64 ck) ∧ w3.cell? ⟨w1.heap.size, 1, none⟩ = some (.int .i64 nx) ∧ w3.cell? ⟨w1.heap.size, 2, none⟩ = some (.slice a1 L.length ac) := ⟨HS3.out.cell 0, HS3.out.cell 1, HS3.out.cell 2⟩
    have hlt3 := HS3.out.lt
    clear hst hal hi hal2 hst2 hb3 hb13 hrn hal3 hrn2 HD1 HB1 HR1 HJ HD3 HB3 HR3 HS3
    go_wp2_with fail
    clear y0 y1 y2 hlt3
    generalize w3.alloc (.cells #[.string jn] 9) = w4 at *
    go_loopw [6, 26] (fun out i wr => FlRel W w (.slice a1 L.length ac) L T out i wr) (fun _ i _ => L.length - (intOf i).toNat)
    case atStart => exact ⟨0, Nat.zero_le _, rfl, HF0.out⟩
    case round =>
      obtain ⟨k', hk', rfl, hf⟩ := hrel
      have HF := Lib.hid hf
      clear hf HF0
      by_cases hlt : k' < L.length
      · obtain ⟨f, hf⟩ : ∃ f, L[k']? = some f := ⟨_, List.getElem?_eq_getElem hlt⟩
        obtain ⟨ga, hga, _, ra⟩ := HF.out.fr.lit hlt
        subst hga
        obtain ⟨c0, c1, c2, c3, c4, c5, c6, c7, c8⟩ := ra.nine hf
        have HX := Lib.hid (HT1.out k' f hf)
        have HFM := Lib.hid (fun w hw => desk_family f w (FamI.of (HFA.out f (List.mem_of_getElem? hf))) hw)
        generalize famT f = y at *
        have h0 : (0 : Int) ≤ (k' : Int) := by omega
        have h1 : (k' : Int) < (L.length : Int) := by omega
        obtain ⟨fi, fcl, fsu, fsc, fge, fma, fus, fre, fde⟩ := f
        unfold famVal famCs at HFM
        dsimp only at HFM
        have hal := (Below.refl wr.heap.size wr).alloc (Nat.le_refl _) (.cells #[.int .i64 fi, .string fcl, .string fsu, .string fsc, .int .i64 fge, .int .i64 fma, .int .i64 fus, .string fre, .bool fde] 95)
        have HF1 := Lib.hid (HF.out.keep hal)
        clear hal hf ra HF
        go_wp2_with fail
        go_at_call 122
        refine (HFM.out _ HF1.out.env.wb).mono ?_
        rintro x' w5 ⟨rfl, hb⟩
        dsimp only
        have HF5 := Lib.hid (HF1.out.keep hb)
        have hrow := HF5.out.row
        have hB2 := HF5.out.since.size
        clear hb c0 c1 c2 c3 c4 c5 c6 c7 c8 HF1 HFM
        go_wp2_with
          (at_builtin; refine wpList_append_own _ rfl _ _ 34 rfl w.heap.size 9 i0 (.string ByteArray.empty) 1 16 Tryz.underlying34 hii hz0 hz1 hz2 rfl (by decide) _ _ _ rfl (hrow.alloc _) ⟨w5.heap.size, 0, none⟩ 1 1 [.string y] rfl rfl (cell_one_new _ _ _) (fun x hx => by simp at hx; subst hx; rfl) (by unfold maxLen; omega) (by omega) (by simp; omega) ?_; intro v' w7 hown hgrow hnil
           have HO := Lib.hid hown
           have HG := Lib.hid hgrow
           clear hown hgrow hnil hrow)
        go_roundw
        case rel => exact ⟨k' + 1, by omega, by go_num, FL.next H.out.below.size HF5.out (by omega) HX.out.symm HO.out HG.out ((HF5.out.fr.below ((Below.refl _ _).alloc (Nat.le_refl _) _)).kept HG.out (fun e => own_apart HF5.out.row HF5.out.fr (by decide) e.symm rfl))⟩
        case measure => simp [intOf]; omega
      · obtain rfl : k' = L.length := by omega
        have hrow := HF.out.row
        rw [← hT, List.take_length] at hrow
        have HJS := Lib.hid (join_seps ⟨#[44, 32]⟩ (row_of_owns hrow (by intro e; rw [e] at hT; simp at hT)) (by omega) (by have := HLEN.out; show (Lib.join T [44, 32]).length ≤ 1000000; omega))
        clear hrow
        go_wp2_with fail
        go_at_call 50
        refine HJS.out.mono ?_
        rintro x' w8 ⟨rfl, hb⟩
        have HB8 := Lib.hid (below_2 HF.out.since hb)
        clear hb
        go_wp2_with fail
        go_ret
        exact H.out.told HB8.out _
  · have hbad : familiesD ⟨r, z⟩ L = bad ⟨r, z⟩ 3 := by
      unfold familiesD
      split
      · exact absurd rfl hL
      · rfl
    rw [hbad]
    have HM := Lib.hid (words_no (some ⟨g, off, none⟩) L.length c 0 w h.et (by simpa using (show (L.length : Int) ≠ 0 by omega)))
    have H := Lib.hid h
    clear h hw hl hL hbad hk
    unfold Thrown at HM
    go_enter Tryz.func63, Tryz.ntmps63
    go_wp2_with fail
    go_at_call 17
    refine HM.out.mono ?_
    rintro e w0 ⟨rfl, hb⟩
    dsimp only
    exact ⟨rfl, H.out.thrown hb (by decide)⟩
end
end Go.Proofs.YtepjcdjpikbbjaaGreatDoor

/-
  A map that the call itself made, of texts to one object's methods, told by a plain function (the function's number; -1: none).
-/
namespace Go.Proofs.YtepjcdjpikbbjaaGreatDoor
open Go.RowKit Go.Maps Go.WideMaps

/-- how a method value reads: by its function's number -/
noncomputable def fnR (xb : Nat) (v : Value) : Option (DataW Unit × List MemPlace) :=
  open Classical in
  if v = .nilFunc then some (.lit (.int .i64 (-1)), [])
  else if h : ∃ n : Nat, v = .func (.func n) #[.pointer (some ⟨xb, 0, none⟩)] #[] then some (.lit (.int .i64 ((Classical.choose h : Nat) : Int)), []) else none
theorem fnR_nil (xb : Nat) : fnR xb .nilFunc = some (.lit (.int .i64 (-1)), []) := by unfold fnR; rw [if_pos rfl]
theorem fnR_fn (xb n : Nat) : fnR xb (.func (.func n) #[.pointer (some ⟨xb, 0, none⟩)] #[]) = some (.lit (.int .i64 n), []) := by
  have h : ∃ m : Nat, (Value.func (.func n) #[.pointer (some ⟨xb, 0, none⟩)] #[]) = .func (.func m) #[.pointer (some ⟨xb, 0, none⟩)] #[] := ⟨n, rfl⟩
  unfold fnR
  rw [if_neg (by simp), dif_pos h]
  have e := Classical.choose_spec h
  have e2 : n = Classical.choose h := by injection e with e1; injection e1
  exact congrArg (fun m : Nat => some ((DataW.lit (.int .i64 (m : Int)) : DataW Unit), ([] : List MemPlace))) e2.symm
theorem fnR_inv {xb : Nat} {v : Value} {z : DataW Unit × List MemPlace} (h : fnR xb v = some z) : (v = .nilFunc ∧ z.1 = .lit (.int .i64 (-1))) ∨ ∃ n : Nat, v = .func (.func n) #[.pointer (some ⟨xb, 0, none⟩)] #[] ∧ z.1 = .lit (.int .i64 n) := by
  unfold fnR at h
  split at h
  · rename_i e
    cases h
    exact .inl ⟨e, rfl⟩
  · split at h
    · rename_i e
      cases h
      exact .inr ⟨Classical.choose e, Classical.choose_spec e, rfl⟩
    · cases h
/-- block b is a map of at most n entries, texts (key type K) to methods, that tells f x at x -/
def MapSF (P : Program) (K xb : TypeId) (w : World) (b n : Nat) (f : List UInt8 → Int) : Prop :=
  ∃ D : DataW Unit, w.ownsMap P K (fnR xb) b n D ∧ IsMap D ∧ ∀ x : List UInt8, D.atKey (.string x) (.lit (.int .i64 (-1))) = .lit (.int .i64 (f x))

section
variable {P : Program} {K xb T E : TypeId} {w w' : World} {b n : Nat} {f : List UInt8 → Int}
theorem MapSF.made (w : World) : MapSF P K xb (w.alloc (.map #[] 0)) w.heap.size 0 (fun _ => -1) :=
  ⟨.map [], World.ownsMap_made w P K _, ⟨[], rfl⟩, fun x => by simp [DataW.atKey]⟩
theorem MapSF.kept (h : MapSF P K xb w b n f) {row : Option Nat} (hg : w.grownBy w' row) (hne : some b ≠ row) : MapSF P K xb w' b n f := by
  obtain ⟨D, h1, h2, h3⟩ := h
  exact ⟨D, h1.kept hg hne, h2, h3⟩
theorem MapSF.below (h : MapSF P K xb w b n f) (hb : Below w.heap.size w w') : MapSF P K xb w' b n f := h.kept (only_of_below hb none) (by simp)
theorem MapSF.alloc (h : MapSF P K xb w b n f) (o : Obj) : MapSF P K xb (w.alloc o) b n f := h.kept (World.grownBy_alloc w o none) (by simp)
theorem MapSF.drewN (h : MapSF P K xb w b n f) (m : Nat) : MapSF P K xb (w.drewN m) b n f := h
theorem MapSF.lt (h : MapSF P K xb w b n f) : b < w.heap.size := by
  obtain ⟨D, h1, _⟩ := h
  exact h1.lt
theorem MapSF.mono (h : MapSF P K xb w b n f) {m : Nat} (hm : n ≤ m) : MapSF P K xb w b m f := by
  obtain ⟨D, h1, h2, h3⟩ := h
  exact ⟨D, h1.mono hm, h2, h3⟩
theorem MapSF.look (h : MapSF P K xb w b n f) (ht : P.underlying T = some (.map K E)) (hk : P.underlying K = some .string)
    (hz : (zeroValue E).run P w = .ok .nilFunc w) (x : List UInt8) (hx : x.length ≤ maxLen) :
    ∃ v, (Instr.lookup T (.map (some b)) (.string (txt x)) false).run P w = .ok v w ∧ ((v = .nilFunc ∧ f x = -1) ∨ ∃ m : Nat, v = .func (.func m) #[.pointer (some ⟨xb, 0, none⟩)] #[] ∧ f x = m) := by
  obtain ⟨D, h1, h2, h3⟩ := h
  have hkey : keyOf P K (.string (txt x)) = some (.string x) := by
    rw [keyOf_string_mk hk (by rw [txt_size]; exact hx), data_txt]
  obtain ⟨v, ps, hrun, hv⟩ := h1.lookup (string_keyed hk) ht hz (fnR_nil xb) hkey
  refine ⟨v, hrun, ?_⟩
  have h4 := h3 x
  rcases fnR_inv hv with ⟨e, hy⟩ | ⟨m, e, hy⟩
  · refine .inl ⟨e, ?_⟩
    rw [h4] at hy
    injection hy with hy
    injection hy
  · refine .inr ⟨m, e, ?_⟩
    rw [h4] at hy
    injection hy with hy
    injection hy
theorem MapSF.put (h : MapSF P K xb w b n f) (ht : P.underlying T = some (.map K E)) (hk : P.underlying K = some .string) 
    (hn : n < maxLen) (x : List UInt8) (hx : x.length ≤ maxLen) (v : Nat) :
    ∃ w', (Instr.mapUpdate T (.map (some b)) (.string (txt x)) (.func (.func v) #[.pointer (some ⟨xb, 0, none⟩)] #[])).run P w = .ok () w' ∧ MapSF P K xb w' b (n + 1) (fun y => if y = x then (v : Int) else f y) ∧ w.grownBy w' (some b) := by
  obtain ⟨D, h1, h2, h3⟩ := h
  have hkey : keyOf P K (.string (txt x)) = some (.string x) := by
    rw [keyOf_string_mk hk (by rw [txt_size]; exact hx), data_txt]
  obtain ⟨w', hrun, r1, r2⟩ := h1.update (string_keyed hk) ht hn hkey (fnR_fn xb v)
  refine ⟨w', hrun, ⟨_, r1, ?_, ?_⟩, r2⟩
  · obtain ⟨l, rfl⟩ := h2
    exact ⟨_, rfl⟩
  · intro y
    dsimp only
    by_cases e : y = x
    · subst e
      rw [if_pos rfl, atKey_put_same h2 (by simp [WideAt.IsKeyLit])]
    · rw [if_neg e, atKey_put_other (by simpa using e)]
      exact h3 y
end
end Go.Proofs.YtepjcdjpikbbjaaGreatDoor

/-
  The desk: what a line's first word does: a map of its methods.
-/
namespace Go.Proofs.YtepjcdjpikbbjaaGreatDoor
open Go.RowKit Go.Sort

/-- the method's number, by its name -/
def doesN (x : List UInt8) : Int :=
  if x = writesN then (78 : Nat) else if x = tokenN then (77 : Nat) else if x = tickN then (76 : Nat) else if x = tagCN then (75 : Nat) else if x = sweepN then (74 : Nat) else if x = showN then (73 : Nat) else if x = saveN then (72 : Nat) else if x = rotateN then (71 : Nat) else if x = openN then (70 : Nat) else if x = newN then (7 : Nat) else if x = mintN then (69 : Nat) else if x = logN then (68 : Nat) else if x = leastN then (67 : Nat) else if x = killN then (66 : Nat) else if x = helpN then (65 : Nat) else if x = grantN then (64 : Nat) else if x = familiesN then (63 : Nat) else if x = cutN then (62 : Nat) else -1
def DoesGot (xb : Nat) (x : List UInt8) (w : World) (e : Ending) (w' : World) : Prop :=
  Below w.heap.size w w' ∧ ((doesN x = -1 ∧ e = .returned .nilFunc) ∨ ∃ m : Nat, doesN x = m ∧ e = .returned (.func (.func m) #[.pointer (some ⟨xb, 0, none⟩)] #[]))
set_option maxHeartbeats 8000000 in
set_option maxRecDepth 100000 in
theorem desk_does (xb : Nat) (x : List UInt8) (w : World) (hx : x.length ≤ 5000) :
    Calls Tryz.prog 29 #[.pointer (some ⟨xb, 0, none⟩), .string (txt x)] w (DoesGot xb x w) := by
  have m0 : MapSF Tryz.prog 9 xb (w.alloc (.map #[] 0)) w.heap.size 0 (fun _ => -1) := MapSF.made w
  have b0 : Below w.heap.size w (w.alloc (.map #[] 0)) := (Below.refl _ _).alloc (Nat.le_refl _) _
  obtain ⟨w1, e1, m1, g1⟩ := m0.put (T := 131) (E := 33) Tryz.underlying131 Tryz.underlying9 (by unfold maxLen; omega) cutN (by decide) 62
  have b1 := b0.grown g1 b0.size (fun i hi => by cases hi; exact Nat.le_refl _)
  clear g1 b0 m0
  obtain ⟨w2, e2, m2, g2⟩ := m1.put (T := 131) (E := 33) Tryz.underlying131 Tryz.underlying9 (by unfold maxLen; omega) familiesN (by decide) 63
  have b2 := b1.grown g2 b1.size (fun i hi => by cases hi; exact Nat.le_refl _)
  clear g2 b1 m1
  obtain ⟨w3, e3, m3, g3⟩ := m2.put (T := 131) (E := 33) Tryz.underlying131 Tryz.underlying9 (by unfold maxLen; omega) grantN (by decide) 64
  have b3 := b2.grown g3 b2.size (fun i hi => by cases hi; exact Nat.le_refl _)
  clear g3 b2 m2
  obtain ⟨w4, e4, m4, g4⟩ := m3.put (T := 131) (E := 33) Tryz.underlying131 Tryz.underlying9 (by unfold maxLen; omega) helpN (by decide) 65
  have b4 := b3.grown g4 b3.size (fun i hi => by cases hi; exact Nat.le_refl _)
  clear g4 b3 m3
  obtain ⟨w5, e5, m5, g5⟩ := m4.put (T := 131) (E := 33) Tryz.underlying131 Tryz.underlying9 (by unfold maxLen; omega) killN (by decide) 66
  have b5 := b4.grown g5 b4.size (fun i hi => by cases hi; exact Nat.le_refl _)
  clear g5 b4 m4
  obtain ⟨w6, e6, m6, g6⟩ := m5.put (T := 131) (E := 33) Tryz.underlying131 Tryz.underlying9 (by unfold maxLen; omega) leastN (by decide) 67
  have b6 := b5.grown g6 b5.size (fun i hi => by cases hi; exact Nat.le_refl _)
  clear g6 b5 m5
  obtain ⟨w7, e7, m7, g7⟩ := m6.put (T := 131) (E := 33) Tryz.underlying131 Tryz.underlying9 (by unfold maxLen; omega) logN (by decide) 68
  have b7 := b6.grown g7 b6.size (fun i hi => by cases hi; exact Nat.le_refl _)
  clear g7 b6 m6
  obtain ⟨w8, e8, m8, g8⟩ := m7.put (T := 131) (E := 33) Tryz.underlying131 Tryz.underlying9 (by unfold maxLen; omega) mintN (by decide) 69
  have b8 := b7.grown g8 b7.size (fun i hi => by cases hi; exact Nat.le_refl _)
  clear g8 b7 m7
  obtain ⟨w9, e9, m9, g9⟩ := m8.put (T := 131) (E := 33) Tryz.underlying131 Tryz.underlying9 (by unfold maxLen; omega) newN (by decide) 7
  have b9 := b8.grown g9 b8.size (fun i hi => by cases hi; exact Nat.le_refl _)
  clear g9 b8 m8
  obtain ⟨w10, e10, m10, g10⟩ := m9.put (T := 131) (E := 33) Tryz.underlying131 Tryz.underlying9 (by unfold maxLen; omega) openN (by decide) 70
  have b10 := b9.grown g10 b9.size (fun i hi => by cases hi; exact Nat.le_refl _)
  clear g10 b9 m9
  obtain ⟨w11, e11, m11, g11⟩ := m10.put (T := 131) (E := 33) Tryz.underlying131 Tryz.underlying9 (by unfold maxLen; omega) rotateN (by decide) 71
  have b11 := b10.grown g11 b10.size (fun i hi => by cases hi; exact Nat.le_refl _)
  clear g11 b10 m10
  obtain ⟨w12, e12, m12, g12⟩ := m11.put (T := 131) (E := 33) Tryz.underlying131 Tryz.underlying9 (by unfold maxLen; omega) saveN (by decide) 72
  have b12 := b11.grown g12 b11.size (fun i hi => by cases hi; exact Nat.le_refl _)
  clear g12 b11 m11
  obtain ⟨w13, e13, m13, g13⟩ := m12.put (T := 131) (E := 33) Tryz.underlying131 Tryz.underlying9 (by unfold maxLen; omega) showN (by decide) 73
  have b13 := b12.grown g13 b12.size (fun i hi => by cases hi; exact Nat.le_refl _)
  clear g13 b12 m12
  obtain ⟨w14, e14, m14, g14⟩ := m13.put (T := 131) (E := 33) Tryz.underlying131 Tryz.underlying9 (by unfold maxLen; omega) sweepN (by decide) 74
  have b14 := b13.grown g14 b13.size (fun i hi => by cases hi; exact Nat.le_refl _)
  clear g14 b13 m13
  obtain ⟨w15, e15, m15, g15⟩ := m14.put (T := 131) (E := 33) Tryz.underlying131 Tryz.underlying9 (by unfold maxLen; omega) tagCN (by decide) 75
  have b15 := b14.grown g15 b14.size (fun i hi => by cases hi; exact Nat.le_refl _)
  clear g15 b14 m14
  obtain ⟨w16, e16, m16, g16⟩ := m15.put (T := 131) (E := 33) Tryz.underlying131 Tryz.underlying9 (by unfold maxLen; omega) tickN (by decide) 76
  have b16 := b15.grown g16 b15.size (fun i hi => by cases hi; exact Nat.le_refl _)
  clear g16 b15 m15
  obtain ⟨w17, e17, m17, g17⟩ := m16.put (T := 131) (E := 33) Tryz.underlying131 Tryz.underlying9 (by unfold maxLen; omega) tokenN (by decide) 77
  have b17 := b16.grown g17 b16.size (fun i hi => by cases hi; exact Nat.le_refl _)
  clear g17 b16 m16
  obtain ⟨w18, e18, m18, g18⟩ := m17.put (T := 131) (E := 33) Tryz.underlying131 Tryz.underlying9 (by unfold maxLen; omega) writesN (by decide) 78
  have b18 := b17.grown g18 b17.size (fun i hi => by cases hi; exact Nat.le_refl _)
  clear g18 b17 m17
  obtain ⟨v, hl, hv⟩ := m18.look (T := 131) (E := 33) Tryz.underlying131 Tryz.underlying9 (Tryz.zeroValue33 _) x (by unfold maxLen; omega)
  have HV := Lib.hid hv
  have HB := Lib.hid b18
  clear hv b18 m18 hx
  have hmm := @run_makeMap Tryz.prog
  have hmf : ∀ (fn : Fn) (first cap : Array Value) (w : World), (Instr.makeFunc fn first cap).run Tryz.prog w = .ok (.func fn first cap) w := fun _ _ _ _ => rfl
  rw [show txt cutN = ⟨#[99, 117, 116]⟩ from rfl] at e1
  rw [show txt familiesN = ⟨#[102, 97, 109, 105, 108, 105, 101, 115]⟩ from rfl] at e2
  rw [show txt grantN = ⟨#[103, 114, 97, 110, 116]⟩ from rfl] at e3
  rw [show txt helpN = ⟨#[104, 101, 108, 112]⟩ from rfl] at e4
  rw [show txt killN = ⟨#[107, 105, 108, 108]⟩ from rfl] at e5
  rw [show txt leastN = ⟨#[108, 101, 97, 115, 116]⟩ from rfl] at e6
  rw [show txt logN = ⟨#[108, 111, 103]⟩ from rfl] at e7
  rw [show txt mintN = ⟨#[109, 105, 110, 116]⟩ from rfl] at e8
  rw [show txt newN = ⟨#[110, 101, 119]⟩ from rfl] at e9
  rw [show txt openN = ⟨#[111, 112, 101, 110]⟩ from rfl] at e10
  rw [show txt rotateN = ⟨#[114, 111, 116, 97, 116, 101]⟩ from rfl] at e11
  rw [show txt saveN = ⟨#[115, 97, 118, 101]⟩ from rfl] at e12
  rw [show txt showN = ⟨#[115, 104, 111, 119]⟩ from rfl] at e13
  rw [show txt sweepN = ⟨#[115, 119, 101, 101, 112]⟩ from rfl] at e14
  rw [show txt tagCN = ⟨#[116, 97, 103]⟩ from rfl] at e15
  rw [show txt tickN = ⟨#[116, 105, 99, 107]⟩ from rfl] at e16
  rw [show txt tokenN = ⟨#[116, 111, 107, 101, 110]⟩ from rfl] at e17
  rw [show txt writesN = ⟨#[119, 114, 105, 116, 101, 115]⟩ from rfl] at e18
  generalize txt x = nm at *
  go_enter Tryz.func29, Tryz.ntmps29
  go_wp2_with fail
  go_ret
  refine ⟨HB.out, ?_⟩
  rcases HV.out with ⟨rfl, h⟩ | ⟨m, rfl, h⟩
  · exact .inl ⟨h, rfl⟩
  · exact .inr ⟨m, h, rfl⟩
end Go.Proofs.YtepjcdjpikbbjaaGreatDoor

/-
  The desk in plain Lean: how many writes were done stays an int.
-/
namespace Go.Proofs.YtepjcdjpikbbjaaGreatDoor
open Go.RowKit

theorem newS_okI : okI newS.writes := ⟨by decide, by decide⟩
theorem run_okI : ∀ (n : Nat) (z : SS), okI z.writes → okI (runS n z).1.writes
  | 0, _, h => h
  | n + 1, z, h => by
    unfold runS
    split
    · exact h
    · exact run_okI n (oneS z) (okI_wrap _)
theorem saveS_okI {z : SS} (h : okI z.writes) : okI (saveS z).1.writes := by
  unfold saveS
  split
  · exact h
  · split
    · exact run_okI _ _ h
    · exact run_okI _ _ h
theorem last_okI {z : SS} (h : okI z.writes) (s : St) : okI (lastS z s).1.writes := by
  unfold lastS
  split
  · exact h
  · exact okI_wrap _
theorem add_okI {z : SS} (h : okI z.writes) (e : Ev) : okI (addS z e).1.writes := by
  unfold addS
  split
  · exact h
  · split
    · exact h
    · split
      · exact h
      · split
        · split
          · exact last_okI (saveS_okI h) _
          · exact saveS_okI h
        · exact last_okI h _
theorem plan_okI {α : Type} {z : SS} (h : okI z.writes) (a : α) (p : Plan α) : okI (doPlan a z p).1.writes := by
  cases p with
  | say _ _ => exact h
  | put ev _ _ =>
    show okI (if (addS z ev).2 = 0 then _ else _ : SS × α × Int).1.writes
    split
    · exact add_okI h ev
    · exact add_okI h ev
theorem cut_okI {d : DS} (h : okI d.z.writes) (L : List (List UInt8)) : okI (cutD d L).1.z.writes := by
  unfold cutD
  split
  · split
    · exact h
    · exact h
  · exact h
theorem families_okI {d : DS} (h : okI d.z.writes) (L : List (List UInt8)) : okI (familiesD d L).1.z.writes := by
  unfold familiesD
  split
  · exact h
  · exact h
theorem grant_okI {d : DS} (h : okI d.z.writes) (L : List (List UInt8)) : okI (grantD d L).1.z.writes := by
  unfold grantD
  split
  · exact plan_okI h _ _
  · exact h
theorem help_okI {d : DS} (h : okI d.z.writes) (L : List (List UInt8)) : okI (helpD d L).1.z.writes := by
  unfold helpD
  split
  · exact h
  · exact h
theorem kill_okI {d : DS} (h : okI d.z.writes) (L : List (List UInt8)) : okI (killD d L).1.z.writes := by
  unfold killD
  split
  · split
    · exact plan_okI h _ _
    · exact h
  · exact h
theorem least_okI {d : DS} (h : okI d.z.writes) (L : List (List UInt8)) : okI (leastD d L).1.z.writes := by
  unfold leastD
  split
  · exact h
  · exact h
theorem log_okI {d : DS} (h : okI d.z.writes) (L : List (List UInt8)) : okI (logD d L).1.z.writes := by
  unfold logD
  split
  · exact h
  · exact h
theorem mint_okI {d : DS} (h : okI d.z.writes) (L : List (List UInt8)) : okI (mintD d L).1.z.writes := by
  unfold mintD
  split
  · exact h
  · exact h
theorem new_okI {d : DS} (h : okI d.z.writes) (L : List (List UInt8)) : okI (newD d L).1.z.writes := by
  unfold newD
  split
  · split
    · split
      · exact newS_okI
      · exact h
    · exact h
  · exact h
theorem open_okI {d : DS} (h : okI d.z.writes) (L : List (List UInt8)) : okI (openD d L).1.z.writes := by
  unfold openD
  split
  · exact h
  · exact h
theorem rotate_okI {d : DS} (h : okI d.z.writes) (L : List (List UInt8)) : okI (rotateD d L).1.z.writes := by
  unfold rotateD
  split
  · exact plan_okI h _ _
  · exact h
theorem save_okI {d : DS} (h : okI d.z.writes) (L : List (List UInt8)) : okI (saveD d L).1.z.writes := by
  unfold saveD
  split
  · exact saveS_okI h
  · exact h
theorem show_okI {d : DS} (h : okI d.z.writes) (L : List (List UInt8)) : okI (showD d L).1.z.writes := by
  unfold showD
  split
  · exact h
  · exact h
theorem sweep_okI {d : DS} (h : okI d.z.writes) (L : List (List UInt8)) : okI (sweepD d L).1.z.writes := by
  unfold sweepD
  split
  · exact plan_okI h _ _
  · exact h
theorem tag_okI {d : DS} (h : okI d.z.writes) (L : List (List UInt8)) : okI (tagD d L).1.z.writes := by
  unfold tagD
  split
  · split
    · exact h
    · exact h
  · exact h
theorem tick_okI {d : DS} (h : okI d.z.writes) (L : List (List UInt8)) : okI (tickD d L).1.z.writes := by
  unfold tickD
  split
  · split
    · exact plan_okI h _ _
    · exact h
  · exact h
theorem token_okI {d : DS} (h : okI d.z.writes) (L : List (List UInt8)) : okI (tokenD d L).1.z.writes := by
  unfold tokenD
  split
  · split
    · split
      · exact h
      · exact h
    · exact h
  · exact h
theorem writes_okI {d : DS} (h : okI d.z.writes) (L : List (List UInt8)) : okI (writesD d L).1.z.writes := by
  unfold writesD
  split
  · exact h
  · exact h
theorem does_okI {d : DS} (h : okI d.z.writes) (n : List UInt8) (L : List (List UInt8)) : okI (doesD d n L).1.z.writes := by
  unfold doesD
  by_cases h_cut : n = cutN
  · rw [if_pos h_cut]; exact cut_okI h L
  rw [if_neg h_cut]
  by_cases h_families : n = familiesN
  · rw [if_pos h_families]; exact families_okI h L
  rw [if_neg h_families]
  by_cases h_grant : n = grantN
  · rw [if_pos h_grant]; exact grant_okI h L
  rw [if_neg h_grant]
  by_cases h_help : n = helpN
  · rw [if_pos h_help]; exact help_okI h L
  rw [if_neg h_help]
  by_cases h_kill : n = killN
  · rw [if_pos h_kill]; exact kill_okI h L
  rw [if_neg h_kill]
  by_cases h_least : n = leastN
  · rw [if_pos h_least]; exact least_okI h L
  rw [if_neg h_least]
  by_cases h_log : n = logN
  · rw [if_pos h_log]; exact log_okI h L
  rw [if_neg h_log]
  by_cases h_mint : n = mintN
  · rw [if_pos h_mint]; exact mint_okI h L
  rw [if_neg h_mint]
  by_cases h_new : n = newN
  · rw [if_pos h_new]; exact new_okI h L
  rw [if_neg h_new]
  by_cases h_open : n = openN
  · rw [if_pos h_open]; exact open_okI h L
  rw [if_neg h_open]
  by_cases h_rotate : n = rotateN
  · rw [if_pos h_rotate]; exact rotate_okI h L
  rw [if_neg h_rotate]
  by_cases h_save : n = saveN
  · rw [if_pos h_save]; exact save_okI h L
  rw [if_neg h_save]
  by_cases h_show : n = showN
  · rw [if_pos h_show]; exact show_okI h L
  rw [if_neg h_show]
  by_cases h_sweep : n = sweepN
  · rw [if_pos h_sweep]; exact sweep_okI h L
  rw [if_neg h_sweep]
  by_cases h_tag : n = tagCN
  · rw [if_pos h_tag]; exact tag_okI h L
  rw [if_neg h_tag]
  by_cases h_tick : n = tickN
  · rw [if_pos h_tick]; exact tick_okI h L
  rw [if_neg h_tick]
  by_cases h_token : n = tokenN
  · rw [if_pos h_token]; exact token_okI h L
  rw [if_neg h_token]
  by_cases h_writes : n = writesN
  · rw [if_pos h_writes]; exact writes_okI h L
  rw [if_neg h_writes]
  exact h
theorem line_okI {d : DS} (h : okI d.z.writes) (l : List UInt8) : okI (lineD d l).1.z.writes := by
  unfold lineD
  split
  · exact h
  · exact does_okI h _ _
end Go.Proofs.YtepjcdjpikbbjaaGreatDoor

/-
  The desk: whatever a line's first word does.
-/
namespace Go.Proofs.YtepjcdjpikbbjaaGreatDoor
open Go.RowKit Go.Sort

set_option maxHeartbeats 4000000 in
set_option maxRecDepth 100000 in
theorem desk_cmd {W w : World} {xb vb sb db k : Nat} {r : Ru} {z : SS} {v : Value} (h : DKW W xb vb sb db k r z v w) (hk : k < 1000000) (hok : okI z.writes) (g off c : Nat) (x : List UInt8) (L : List (List UInt8)) (hw : WAt w g off L) (hl : ∀ y ∈ L, y.length ≤ 5000) (m : Nat) (hm : doesN x = m) :
    Calls Tryz.prog m #[.pointer (some ⟨xb, 0, none⟩), .slice (some ⟨g, off, none⟩) L.length c] w (DkDone W w xb k (doesD ⟨r, z⟩ x L)) := by
  by_cases h_cut : x = cutN
  · subst h_cut
    obtain rfl : m = 62 := Int.ofNat.inj (hm.symm.trans (by decide))
    exact desk_cut h hk g off c L hw hl
  by_cases h_families : x = familiesN
  · subst h_families
    obtain rfl : m = 63 := Int.ofNat.inj (hm.symm.trans (by decide))
    exact desk_families h hk g off c L hw hl
  by_cases h_grant : x = grantN
  · subst h_grant
    obtain rfl : m = 64 := Int.ofNat.inj (hm.symm.trans (by decide))
    exact desk_grant h hk g off c L hw hl
  by_cases h_help : x = helpN
  · subst h_help
    obtain rfl : m = 65 := Int.ofNat.inj (hm.symm.trans (by decide))
    exact desk_help h hk g off c L hw hl
  by_cases h_kill : x = killN
  · subst h_kill
    obtain rfl : m = 66 := Int.ofNat.inj (hm.symm.trans (by decide))
    exact desk_kill h hk g off c L hw hl
  by_cases h_least : x = leastN
  · subst h_least
    obtain rfl : m = 67 := Int.ofNat.inj (hm.symm.trans (by decide))
    exact desk_least h hk g off c L hw hl
  by_cases h_log : x = logN
  · subst h_log
    obtain rfl : m = 68 := Int.ofNat.inj (hm.symm.trans (by decide))
    exact desk_log h hk g off c L hw hl
  by_cases h_mint : x = mintN
  · subst h_mint
    obtain rfl : m = 69 := Int.ofNat.inj (hm.symm.trans (by decide))
    exact desk_mint h hk g off c L hw hl
  by_cases h_new : x = newN
  · subst h_new
    obtain rfl : m = 7 := Int.ofNat.inj (hm.symm.trans (by decide))
    exact desk_new h hk g off c L hw hl
  by_cases h_open : x = openN
  · subst h_open
    obtain rfl : m = 70 := Int.ofNat.inj (hm.symm.trans (by decide))
    exact desk_open h hk g off c L hw hl
  by_cases h_rotate : x = rotateN
  · subst h_rotate
    obtain rfl : m = 71 := Int.ofNat.inj (hm.symm.trans (by decide))
    exact desk_rotate h hk g off c L hw hl
  by_cases h_save : x = saveN
  · subst h_save
    obtain rfl : m = 72 := Int.ofNat.inj (hm.symm.trans (by decide))
    exact desk_save h hk g off c L hw hl
  by_cases h_show : x = showN
  · subst h_show
    obtain rfl : m = 73 := Int.ofNat.inj (hm.symm.trans (by decide))
    exact desk_show h hk g off c L hw hl
  by_cases h_sweep : x = sweepN
  · subst h_sweep
    obtain rfl : m = 74 := Int.ofNat.inj (hm.symm.trans (by decide))
    exact desk_sweep h hk g off c L hw hl
  by_cases h_tag : x = tagCN
  · subst h_tag
    obtain rfl : m = 75 := Int.ofNat.inj (hm.symm.trans (by decide))
    exact desk_tag h hk g off c L hw hl
  by_cases h_tick : x = tickN
  · subst h_tick
    obtain rfl : m = 76 := Int.ofNat.inj (hm.symm.trans (by decide))
    exact desk_tick h hk g off c L hw hl
  by_cases h_token : x = tokenN
  · subst h_token
    obtain rfl : m = 77 := Int.ofNat.inj (hm.symm.trans (by decide))
    exact desk_token h hk g off c L hw hl
  by_cases h_writes : x = writesN
  · subst h_writes
    obtain rfl : m = 78 := Int.ofNat.inj (hm.symm.trans (by decide))
    exact desk_writes h hk g off c L hw hl hok
  exfalso
  unfold doesN at hm
  rw [if_neg h_writes, if_neg h_token, if_neg h_tick, if_neg h_tag, if_neg h_sweep, if_neg h_show, if_neg h_save, if_neg h_rotate, if_neg h_open, if_neg h_new, if_neg h_mint, if_neg h_log, if_neg h_least, if_neg h_kill, if_neg h_help, if_neg h_grant, if_neg h_families, if_neg h_cut] at hm
  omega
theorem does_bad (d : DS) (x : List UInt8) (L : List (List UInt8)) (hm : doesN x = -1) : doesD d x L = bad d 3 := by
  by_cases h_cut : x = cutN
  · subst h_cut
    exact absurd hm (by decide)
  by_cases h_families : x = familiesN
  · subst h_families
    exact absurd hm (by decide)
  by_cases h_grant : x = grantN
  · subst h_grant
    exact absurd hm (by decide)
  by_cases h_help : x = helpN
  · subst h_help
    exact absurd hm (by decide)
  by_cases h_kill : x = killN
  · subst h_kill
    exact absurd hm (by decide)
  by_cases h_least : x = leastN
  · subst h_least
    exact absurd hm (by decide)
  by_cases h_log : x = logN
  · subst h_log
    exact absurd hm (by decide)
  by_cases h_mint : x = mintN
  · subst h_mint
    exact absurd hm (by decide)
  by_cases h_new : x = newN
  · subst h_new
    exact absurd hm (by decide)
  by_cases h_open : x = openN
  · subst h_open
    exact absurd hm (by decide)
  by_cases h_rotate : x = rotateN
  · subst h_rotate
    exact absurd hm (by decide)
  by_cases h_save : x = saveN
  · subst h_save
    exact absurd hm (by decide)
  by_cases h_show : x = showN
  · subst h_show
    exact absurd hm (by decide)
  by_cases h_sweep : x = sweepN
  · subst h_sweep
    exact absurd hm (by decide)
  by_cases h_tag : x = tagCN
  · subst h_tag
    exact absurd hm (by decide)
  by_cases h_tick : x = tickN
  · subst h_tick
    exact absurd hm (by decide)
  by_cases h_token : x = tokenN
  · subst h_token
    exact absurd hm (by decide)
  by_cases h_writes : x = writesN
  · subst h_writes
    exact absurd hm (by decide)
  unfold doesD
  rw [if_neg h_cut, if_neg h_families, if_neg h_grant, if_neg h_help, if_neg h_kill, if_neg h_least, if_neg h_log, if_neg h_mint, if_neg h_new, if_neg h_open, if_neg h_rotate, if_neg h_save, if_neg h_show, if_neg h_sweep, if_neg h_tag, if_neg h_tick, if_neg h_token, if_neg h_writes]
end Go.Proofs.YtepjcdjpikbbjaaGreatDoor
