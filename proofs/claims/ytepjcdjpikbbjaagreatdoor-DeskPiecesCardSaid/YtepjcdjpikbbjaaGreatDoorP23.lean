/-
  The desk's commands: grant.
-/
import Derived.Test.YtepjcdjpikbbjaaGreatDoorP22
namespace Go.Proofs.YtepjcdjpikbbjaaGreatDoor
open Go.RowKit Go.Sort

section
variable {W w : World} {xb vb sb db k : Nat} {r : Ru} {z : SS} {v : Value}
set_option maxHeartbeats 4000000 in
set_option maxRecDepth 100000 in
theorem desk_grant (h : DKW W xb vb sb db k r z v w) (hk : k < 1000000) (g off c : Nat) (L : List (List UInt8)) (hw : WAt w g off L) (hl : ∀ x ∈ L, x.length ≤ 5000) :
    Calls Tryz.prog 64 #[.pointer (some ⟨xb, 0, none⟩), .slice (some ⟨g, off, none⟩) L.length c] w (DkDone W w xb k (grantD ⟨r, z⟩ L)) := by
  obtain ⟨⟩ := used3 hk hw hl
  by_cases hL : L.length = 3
  · rcases L with _ | ⟨a, _ | ⟨b, _ | ⟨c_, _ | ⟨_, L⟩⟩⟩⟩
    · exact absurd hL (by simp)
    · exact absurd hL (by simp)
    · exact absurd hL (by simp)
    · clear hL
      have HWT := Lib.hid hw
      have d0 := hw.2 0 a rfl
      have d1 := hw.2 1 b rfl
      have d2 := hw.2 2 c_ rfl
      have l0 := hl a (by simp)
      have l1 := hl b (by simp)
      have l2 := hl c_ (by simp)
      simp only [Nat.add_zero, List.length_cons, List.length_nil, Nat.zero_add, Nat.reduceAdd] at *
      clear hw hl
      have H := Lib.hid h
      have HPL := Lib.hid (fun w => desk_plain (txt c_) w)
      have HC := Lib.hid (fun w (h : DKW W xb vb sb db k r z v w) => svc_grant h.sw hk (txt a) (txt b) (plainS (txt c_)) (by rw [txt_size]; exact l0) (by rw [txt_size]; exact l1) (plainS_size _ (by rw [txt_size]; exact l2)))
      unfold PlanS at HC
      have hD : grantD ⟨r, z⟩ [a, b, c_] = (⟨r, (doPlan noneS z (grantP r z.s (txt a) (txt b) (plainS (txt c_)))).1⟩, (doPlan noneS z (grantP r z.s (txt a) (txt b) (plainS (txt c_)))).2) := rfl
      rw [hD]
      clear hD
      generalize doPlan noneS z (grantP r z.s (txt a) (txt b) (plainS (txt c_))) = Q at *
      generalize plainS (txt c_) = pc at *
      obtain ⟨z9, got, code⟩ := Q
      dsimp only at HC ⊢
      obtain ⟨c0, c1, c2, c3, c4, c5, c6, hlt⟩ := h.seven
      clear h hk
      by_cases hq : code = 0
      · subst hq
        rw [errV_0] at HC
        go_enter Tryz.func64, Tryz.ntmps64
        go_wp2_with fail
        go_at_call 17
        refine (words_yes _ 3 c w).mono ?_
        rintro e w0 ⟨rfl, rfl⟩
        go_wp2_with fail
        have HSD := H.out.drew
        have HBD := Lib.hid (below_dr (Below.refl w.heap.size w))
        have HD : w.drew.cell? ⟨xb, 2, none⟩ = some (.pointer (some ⟨vb, 0, none⟩)) ∧ w.drew.cell? ⟨g, off, none⟩ = some (.string (txt a)) ∧ w.drew.cell? ⟨g, off + 1, none⟩ = some (.string (txt b)) ∧ w.drew.cell? ⟨g, off + 2, none⟩ = some (.string (txt c_)) := ⟨HSD.call, HWT.out.drew.three⟩
        clear c0 c1 c2 c3 c4 c5 c6 hlt d0 d1 d2
        go_region_held3 (fun w' => w'.cell? ⟨xb, 2, none⟩ = some (.pointer (some ⟨vb, 0, none⟩)) ∧ w'.cell? ⟨g, off, none⟩ = some (.string (txt a)) ∧ w'.cell? ⟨g, off + 1, none⟩ = some (.string (txt b)) ∧ w'.cell? ⟨g, off + 2, none⟩ = some (.string (txt c_)))
          (first
            | with_reducible assumption
            | with_reducible exact HD)
          (first
            | (go_at_call 124; (with_reducible refine (HPL.out _).mono ?_); rintro x' w2 ⟨rfl, rfl⟩)
            | (go_at_call 123; (with_reducible refine (HC.out _ HSD).mono ?_); rintro x' w3 ⟨rfl, htw, v3, hs⟩
               have h3 := HSD.two htw hs
               have hst := (StayD.of_below HBD.out).trans h3.2
               have hx3 : w3.cell? ⟨xb, 2, none⟩ = some (.pointer (some ⟨vb, 0, none⟩)) ∧ w3.cell? ⟨g, off, none⟩ = some (.string (txt a)) ∧ w3.cell? ⟨g, off + 1, none⟩ = some (.string (txt b)) ∧ w3.cell? ⟨g, off + 2, none⟩ = some (.string (txt c_)) := ⟨h3.1.call, (HWT.out.stay hst).three⟩))
        have HD3 := Lib.hid h3.1
        have HST := Lib.hid hst
        clear htw hs h3 hst hx3 HD HSD HBD HPL HC
        go_wp2_with fail
        go_at_call 20
        refine (must_nil _).mono ?_
        rintro x' w4 ⟨rfl, rfl⟩
        go_wp2_with fail
        go_ret
        exact ⟨.inl ⟨rfl, rfl⟩, ⟨vb, sb, db, _, HD3.out⟩, HST.out⟩
      · rw [errV_n hq] at HC
        have HQ0 := Lib.hid hq
        clear hq
        go_enter Tryz.func64, Tryz.ntmps64
        go_wp2_with fail
        go_at_call 17
        refine (words_yes _ 3 c w).mono ?_
        rintro e w0 ⟨rfl, rfl⟩
        go_wp2_with fail
        have HSD := H.out.drew
        have HBD := Lib.hid (below_dr (Below.refl w.heap.size w))
        have HD : w.drew.cell? ⟨xb, 2, none⟩ = some (.pointer (some ⟨vb, 0, none⟩)) ∧ w.drew.cell? ⟨g, off, none⟩ = some (.string (txt a)) ∧ w.drew.cell? ⟨g, off + 1, none⟩ = some (.string (txt b)) ∧ w.drew.cell? ⟨g, off + 2, none⟩ = some (.string (txt c_)) := ⟨HSD.call, HWT.out.drew.three⟩
        clear c0 c1 c2 c3 c4 c5 c6 hlt d0 d1 d2
        go_region_held3 (fun w' => w'.cell? ⟨xb, 2, none⟩ = some (.pointer (some ⟨vb, 0, none⟩)) ∧ w'.cell? ⟨g, off, none⟩ = some (.string (txt a)) ∧ w'.cell? ⟨g, off + 1, none⟩ = some (.string (txt b)) ∧ w'.cell? ⟨g, off + 2, none⟩ = some (.string (txt c_)))
          (first
            | with_reducible assumption
            | with_reducible exact HD)
          (first
            | (go_at_call 124; (with_reducible refine (HPL.out _).mono ?_); rintro x' w2 ⟨rfl, rfl⟩)
            | (go_at_call 123; (with_reducible refine (HC.out _ HSD).mono ?_); rintro x' w3 ⟨rfl, htw, v3, hs⟩
               have h3 := HSD.two htw hs
               have hst := (StayD.of_below HBD.out).trans h3.2
               have hx3 : w3.cell? ⟨xb, 2, none⟩ = some (.pointer (some ⟨vb, 0, none⟩)) ∧ w3.cell? ⟨g, off, none⟩ = some (.string (txt a)) ∧ w3.cell? ⟨g, off + 1, none⟩ = some (.string (txt b)) ∧ w3.cell? ⟨g, off + 2, none⟩ = some (.string (txt c_)) := ⟨h3.1.call, (HWT.out.stay hst).three⟩))
        have HD3 := Lib.hid h3.1
        have HST := Lib.hid hst
        clear htw hs h3 hst hx3 HD HSD HBD HPL HC
        go_wp2_with fail
        go_at_call 20
        refine (must_no code _ HD3.out.et).mono ?_
        rintro x' w4 ⟨rfl, hb⟩
        dsimp only
        exact ⟨rfl, .inr ⟨HQ0.out, rfl⟩, ⟨vb, sb, db, _, (HD3.out.keep hb)⟩, HST.out.trans (StayD.of_below hb)⟩
    · exact absurd hL (by simp)
  · have hbad : grantD ⟨r, z⟩ L = bad ⟨r, z⟩ 3 := by
      unfold grantD
      split
      · exact absurd rfl hL
      · rfl
    rw [hbad]
    have HM := Lib.hid (words_no (some ⟨g, off, none⟩) L.length c 3 w h.et (by simpa using (show (L.length : Int) ≠ 3 by omega)))
    have H := Lib.hid h
    clear h hw hl hL hbad hk
    unfold Thrown at HM
    go_enter Tryz.func64, Tryz.ntmps64
    go_wp2_with fail
    go_at_call 17
    refine HM.out.mono ?_
    rintro e w0 ⟨rfl, hb⟩
    dsimp only
    exact ⟨rfl, H.out.thrown hb (by decide)⟩
end
end Go.Proofs.YtepjcdjpikbbjaaGreatDoor

/-
  The desk's commands: rotate.
-/
namespace Go.Proofs.YtepjcdjpikbbjaaGreatDoor
open Go.RowKit Go.Sort

section
variable {W w : World} {xb vb sb db k : Nat} {r : Ru} {z : SS} {v : Value}
set_option maxHeartbeats 4000000 in
set_option maxRecDepth 100000 in
theorem desk_rotate (h : DKW W xb vb sb db k r z v w) (hk : k < 1000000) (g off c : Nat) (L : List (List UInt8)) (hw : WAt w g off L) (hl : ∀ x ∈ L, x.length ≤ 5000) :
    Calls Tryz.prog 71 #[.pointer (some ⟨xb, 0, none⟩), .slice (some ⟨g, off, none⟩) L.length c] w (DkDone W w xb k (rotateD ⟨r, z⟩ L)) := by
  obtain ⟨⟩ := used3 hk hw hl
  by_cases hL : L.length = 3
  · rcases L with _ | ⟨a, _ | ⟨b, _ | ⟨c_, _ | ⟨_, L⟩⟩⟩⟩
    · exact absurd hL (by simp)
    · exact absurd hL (by simp)
    · exact absurd hL (by simp)
    · clear hL
      have HWT := Lib.hid hw
      have d0 := hw.2 0 a rfl
      have d1 := hw.2 1 b rfl
      have d2 := hw.2 2 c_ rfl
      have l0 := hl a (by simp)
      have l1 := hl b (by simp)
      have l2 := hl c_ (by simp)
      simp only [Nat.add_zero, List.length_cons, List.length_nil, Nat.zero_add, Nat.reduceAdd] at *
      clear hw hl
      have H := Lib.hid h
      have HPL := Lib.hid (fun w => desk_plain (txt c_) w)
      have HC := Lib.hid (fun w (h : DKW W xb vb sb db k r z v w) => svc_rotate h.sw hk (txt a) (txt b) (plainS (txt c_)) (by rw [txt_size]; exact l0) (by rw [txt_size]; exact l1) (plainS_size _ (by rw [txt_size]; exact l2)))
      unfold PlanS at HC
      have hD : rotateD ⟨r, z⟩ [a, b, c_] = (⟨r, (doPlan noneS z (rotateP r z.s (txt a) (txt b) (plainS (txt c_)))).1⟩, (doPlan noneS z (rotateP r z.s (txt a) (txt b) (plainS (txt c_)))).2) := rfl
      rw [hD]
      clear hD
      generalize doPlan noneS z (rotateP r z.s (txt a) (txt b) (plainS (txt c_))) = Q at *
      generalize plainS (txt c_) = pc at *
      obtain ⟨z9, got, code⟩ := Q
      dsimp only at HC ⊢
      obtain ⟨c0, c1, c2, c3, c4, c5, c6, hlt⟩ := h.seven
      clear h hk
      by_cases hq : code = 0
      · subst hq
        rw [errV_0] at HC
        go_enter Tryz.func71, Tryz.ntmps71
        go_wp2_with fail
        go_at_call 17
        refine (words_yes _ 3 c w).mono ?_
        rintro e w0 ⟨rfl, rfl⟩
        go_wp2_with fail
        have HSD := H.out.drew
        have HBD := Lib.hid (below_dr (Below.refl w.heap.size w))
        have HD : w.drew.cell? ⟨xb, 2, none⟩ = some (.pointer (some ⟨vb, 0, none⟩)) ∧ w.drew.cell? ⟨g, off, none⟩ = some (.string (txt a)) ∧ w.drew.cell? ⟨g, off + 1, none⟩ = some (.string (txt b)) ∧ w.drew.cell? ⟨g, off + 2, none⟩ = some (.string (txt c_)) := ⟨HSD.call, HWT.out.drew.three⟩
        clear c0 c1 c2 c3 c4 c5 c6 hlt d0 d1 d2
        go_region_held3 (fun w' => w'.cell? ⟨xb, 2, none⟩ = some (.pointer (some ⟨vb, 0, none⟩)) ∧ w'.cell? ⟨g, off, none⟩ = some (.string (txt a)) ∧ w'.cell? ⟨g, off + 1, none⟩ = some (.string (txt b)) ∧ w'.cell? ⟨g, off + 2, none⟩ = some (.string (txt c_)))
          (first
            | with_reducible assumption
            | with_reducible exact HD)
          (first
            | (go_at_call 124; (with_reducible refine (HPL.out _).mono ?_); rintro x' w2 ⟨rfl, rfl⟩)
            | (go_at_call 131; (with_reducible refine (HC.out _ HSD).mono ?_); rintro x' w3 ⟨rfl, htw, v3, hs⟩
               have h3 := HSD.two htw hs
               have hst := (StayD.of_below HBD.out).trans h3.2
               have hx3 : w3.cell? ⟨xb, 2, none⟩ = some (.pointer (some ⟨vb, 0, none⟩)) ∧ w3.cell? ⟨g, off, none⟩ = some (.string (txt a)) ∧ w3.cell? ⟨g, off + 1, none⟩ = some (.string (txt b)) ∧ w3.cell? ⟨g, off + 2, none⟩ = some (.string (txt c_)) := ⟨h3.1.call, (HWT.out.stay hst).three⟩))
        have HD3 := Lib.hid h3.1
        have HST := Lib.hid hst
        clear htw hs h3 hst hx3 HD HSD HBD HPL HC
        go_wp2_with fail
        go_at_call 20
        refine (must_nil _).mono ?_
        rintro x' w4 ⟨rfl, rfl⟩
        go_wp2_with fail
        go_ret
        exact ⟨.inl ⟨rfl, rfl⟩, ⟨vb, sb, db, _, HD3.out⟩, HST.out⟩
      · rw [errV_n hq] at HC
        have HQ0 := Lib.hid hq
        clear hq
        go_enter Tryz.func71, Tryz.ntmps71
        go_wp2_with fail
        go_at_call 17
        refine (words_yes _ 3 c w).mono ?_
        rintro e w0 ⟨rfl, rfl⟩
        go_wp2_with fail
        have HSD := H.out.drew
        have HBD := Lib.hid (below_dr (Below.refl w.heap.size w))
        have HD : w.drew.cell? ⟨xb, 2, none⟩ = some (.pointer (some ⟨vb, 0, none⟩)) ∧ w.drew.cell? ⟨g, off, none⟩ = some (.string (txt a)) ∧ w.drew.cell? ⟨g, off + 1, none⟩ = some (.string (txt b)) ∧ w.drew.cell? ⟨g, off + 2, none⟩ = some (.string (txt c_)) := ⟨HSD.call, HWT.out.drew.three⟩
        clear c0 c1 c2 c3 c4 c5 c6 hlt d0 d1 d2
        go_region_held3 (fun w' => w'.cell? ⟨xb, 2, none⟩ = some (.pointer (some ⟨vb, 0, none⟩)) ∧ w'.cell? ⟨g, off, none⟩ = some (.string (txt a)) ∧ w'.cell? ⟨g, off + 1, none⟩ = some (.string (txt b)) ∧ w'.cell? ⟨g, off + 2, none⟩ = some (.string (txt c_)))
          (first
            | with_reducible assumption
            | with_reducible exact HD)
          (first
            | (go_at_call 124; (with_reducible refine (HPL.out _).mono ?_); rintro x' w2 ⟨rfl, rfl⟩)
            | (go_at_call 131; (with_reducible refine (HC.out _ HSD).mono ?_); rintro x' w3 ⟨rfl, htw, v3, hs⟩
               have h3 := HSD.two htw hs
               have hst := (StayD.of_below HBD.out).trans h3.2
               have hx3 : w3.cell? ⟨xb, 2, none⟩ = some (.pointer (some ⟨vb, 0, none⟩)) ∧ w3.cell? ⟨g, off, none⟩ = some (.string (txt a)) ∧ w3.cell? ⟨g, off + 1, none⟩ = some (.string (txt b)) ∧ w3.cell? ⟨g, off + 2, none⟩ = some (.string (txt c_)) := ⟨h3.1.call, (HWT.out.stay hst).three⟩))
        have HD3 := Lib.hid h3.1
        have HST := Lib.hid hst
        clear htw hs h3 hst hx3 HD HSD HBD HPL HC
        go_wp2_with fail
        go_at_call 20
        refine (must_no code _ HD3.out.et).mono ?_
        rintro x' w4 ⟨rfl, hb⟩
        dsimp only
        exact ⟨rfl, .inr ⟨HQ0.out, rfl⟩, ⟨vb, sb, db, _, (HD3.out.keep hb)⟩, HST.out.trans (StayD.of_below hb)⟩
    · exact absurd hL (by simp)
  · have hbad : rotateD ⟨r, z⟩ L = bad ⟨r, z⟩ 3 := by
      unfold rotateD
      split
      · exact absurd rfl hL
      · rfl
    rw [hbad]
    have HM := Lib.hid (words_no (some ⟨g, off, none⟩) L.length c 3 w h.et (by simpa using (show (L.length : Int) ≠ 3 by omega)))
    have H := Lib.hid h
    clear h hw hl hL hbad hk
    unfold Thrown at HM
    go_enter Tryz.func71, Tryz.ntmps71
    go_wp2_with fail
    go_at_call 17
    refine HM.out.mono ?_
    rintro e w0 ⟨rfl, hb⟩
    dsimp only
    exact ⟨rfl, H.out.thrown hb (by decide)⟩
end
end Go.Proofs.YtepjcdjpikbbjaaGreatDoor

/-
  The desk's commands: tick, mint.
-/
namespace Go.Proofs.YtepjcdjpikbbjaaGreatDoor
open Go.RowKit Go.Sort

section
variable {W w : World} {xb vb sb db k : Nat} {r : Ru} {z : SS} {v : Value}
set_option maxHeartbeats 4000000 in
set_option maxRecDepth 100000 in
theorem desk_tick (h : DKW W xb vb sb db k r z v w) (hk : k < 1000000) (g off c : Nat) (L : List (List UInt8)) (hw : WAt w g off L) (hl : ∀ x ∈ L, x.length ≤ 5000) :
    Calls Tryz.prog 76 #[.pointer (some ⟨xb, 0, none⟩), .slice (some ⟨g, off, none⟩) L.length c] w (DkDone W w xb k (tickD ⟨r, z⟩ L)) := by
  obtain ⟨⟩ := used3 hk hw hl
  by_cases hL : L.length = 1
  · rcases L with _ | ⟨a, _ | ⟨_, L⟩⟩
    · exact absurd hL (by simp)
    · clear hL
      have HWT := Lib.hid hw
      have d0 := hw.2 0 a rfl
      have l0 := hl a (by simp)
      simp only [Nat.add_zero, List.length_cons, List.length_nil, Nat.zero_add] at *
      clear hw hl
      have H := Lib.hid h
      rcases hn : numE a with _ | _
      · have hcut : tickD ⟨r, z⟩ [a] = bad ⟨r, z⟩ 3 := by show (if numE a = true then _ else _) = _; rw [hn]; rfl
        rw [hcut]
        have HN := Lib.hid (fun w (h : DKW W xb vb sb db k r z v w) => dnum_no (txt a) w (by rw [txt_size]; omega) h.env.tens h.env.errs h.et h.elt (by rw [data_txt]; exact hn))
        unfold Thrown at HN
        obtain ⟨c0, c1, c2, c3, c4, c5, c6, hlt⟩ := h.seven
        clear hcut hn h hk
        go_enter Tryz.func76, Tryz.ntmps76
        go_wp2_with fail
        go_at_call 17
        refine (words_yes _ 1 c w).mono ?_
        rintro e w0 ⟨rfl, rfl⟩
        go_wp2_with fail
        have HSD : DKW W xb vb sb db k r z v w.drew ∧ w.drew.cell? ⟨g, off, none⟩ = some (.string (txt a)) := ⟨H.out.drew, d0⟩
        have HBD := Lib.hid (below_dr (Below.refl w.heap.size w))
        clear c0 c1 c2 c3 c4 c5 c6 hlt d0
        refine wp_region_tail (fun w' => DKW W xb vb sb db k r z v w' ∧ w'.cell? ⟨g, off, none⟩ = some (.string (txt a))) [8, 9] (by kernel_rfl) ?_
        refine wpAnyT_take 16 (i := 0) (v := ?v0_29) rfl (by kernel_rfl) (by kernel_rfl) (by kernel_rfl) (by kernel_rfl) (by kernel_rfl) (fun _ _ _ h => h) (by rfl) ?hy0_29 HSD ?rest0_29
        case hy0_29 => (intro w hSw; obtain ⟨c0, c1, c2, c3, c4, c5, c6, hlt⟩ := DKW.seven (And.left hSw); obtain ⟨_, HD⟩ := hSw; go_simp; (try with_reducible rfl))
        simp only [Act.put]
        refine wpAnyT_take 16 (i := 1) (v := ?v1_30) rfl (by kernel_rfl) (by kernel_rfl) (by kernel_rfl) (by kernel_rfl) (by kernel_rfl) (fun _ _ _ h => h) (by rfl) ?hy1_30 HSD ?rest1_30
        case hy1_30 => (intro w hSw; obtain ⟨c0, c1, c2, c3, c4, c5, c6, hlt⟩ := DKW.seven (And.left hSw); obtain ⟨_, HD⟩ := hSw; go_simp; (try with_reducible rfl))
        simp only [Act.put]
        refine wpAnyT_take 16 (i := 2) (v := ?v2_31) rfl (by kernel_rfl) (by kernel_rfl) (by kernel_rfl) (by kernel_rfl) (by kernel_rfl) (fun _ _ _ h => h) (by rfl) ?hy2_31 HSD ?rest2_31
        case hy2_31 => (intro w hSw; obtain ⟨c0, c1, c2, c3, c4, c5, c6, hlt⟩ := DKW.seven (And.left hSw); obtain ⟨_, HD⟩ := hSw; go_simp; (try with_reducible rfl))
        simp only [Act.put]
        refine wpAnyT_take 16 (i := 3) (v := ?v3_32) rfl (by kernel_rfl) (by kernel_rfl) (by kernel_rfl) (by kernel_rfl) (by kernel_rfl) (fun _ _ _ h => h) (by rfl) ?hy3_32 HSD ?rest3_32
        case hy3_32 => (intro w hSw; obtain ⟨c0, c1, c2, c3, c4, c5, c6, hlt⟩ := DKW.seven (And.left hSw); obtain ⟨_, HD⟩ := hSw; go_simp; (try with_reducible rfl))
        simp only [Act.put]
        refine wpAnyT_take 16 (i := 4) (v := ?v4_33) rfl (by kernel_rfl) (by kernel_rfl) (by kernel_rfl) (by kernel_rfl) (by kernel_rfl) (fun _ _ _ h => h) (by rfl) ?hy4_33 HSD ?rest4_33
        case hy4_33 => (intro w hSw; obtain ⟨c0, c1, c2, c3, c4, c5, c6, hlt⟩ := DKW.seven (And.left hSw); obtain ⟨_, HD⟩ := hSw; go_simp; (try with_reducible rfl))
        simp only [Act.put]
        refine wpAnyT_take 16 (i := 5) (v := ?v5_34) rfl (by kernel_rfl) (by kernel_rfl) (by kernel_rfl) (by kernel_rfl) (by kernel_rfl) (fun _ _ _ h => h) (by rfl) ?hy5_34 HSD ?rest5_34
        case hy5_34 => (intro w hSw; obtain ⟨c0, c1, c2, c3, c4, c5, c6, hlt⟩ := DKW.seven (And.left hSw); obtain ⟨_, HD⟩ := hSw; go_simp; (try with_reducible rfl))
        simp only [Act.put]
        refine wpAnyT_take 16 (i := 6) (v := ?v6_35) rfl (by kernel_rfl) (by kernel_rfl) (by kernel_rfl) (by kernel_rfl) (by kernel_rfl) (fun _ _ _ h => h) (by rfl) ?hy6_35 HSD ?rest6_35
        case hy6_35 => (intro w hSw; obtain ⟨c0, c1, c2, c3, c4, c5, c6, hlt⟩ := DKW.seven (And.left hSw); obtain ⟨_, HD⟩ := hSw; go_simp; (try with_reducible rfl))
        simp only [Act.put]
        refine wpAnyT_one (i := 7) (by kernel_rfl) rfl ?_
        intro K7 hK7
        go_simp
        go_at_call 18
        refine (HN.out _ HSD.1).mono ?_
        rintro x' w2 ⟨rfl, hb⟩
        dsimp only
        exact ⟨rfl, H.out.thrown (below_2 HBD.out hb) (by decide)⟩
      · have hyes : tickD ⟨r, z⟩ [a] = (⟨r, (doPlan () z (tickP z.s (atoiN a))).1⟩, itoS (doPlan () z (tickP z.s (atoiN a))).1.s.clock, (doPlan () z (tickP z.s (atoiN a))).2.2) := by show (if numE a = true then _ else _) = _; rw [hn]; rfl
        rw [hyes]
        have HN := Lib.hid (fun w (h : DKW W xb vb sb db k r z v w) => dnum_yes (txt a) w (by rw [txt_size]; omega) h.env.tens (by rw [data_txt]; exact hn))
        rw [data_txt] at HN
        generalize atoiN a = n at *
        obtain ⟨c0, c1, c2, c3, c4, c5, c6, hlt⟩ := h.seven
        have HC := Lib.hid (fun w (h : DKW W xb vb sb db k r z v w) => (svc_tick h.sw hk n))
        clear hk
        unfold PlanU at HC
        generalize doPlan () z (tickP z.s n) = Q at *
        clear hyes hn h
        go_enter Tryz.func76, Tryz.ntmps76
        go_wp2_with fail
        go_at_call 17
        refine (words_yes _ 1 c w).mono ?_
        rintro e w0 ⟨rfl, rfl⟩
        go_wp2_with fail
        have HSD : DKW W xb vb sb db k r z v w.drew ∧ w.drew.cell? ⟨g, off, none⟩ = some (.string (txt a)) := ⟨H.out.drew, d0⟩
        have HBD := Lib.hid (below_dr (Below.refl w.heap.size w))
        clear c0 c1 c2 c3 c4 c5 c6 hlt d0
        refine wp_region_tail (fun w' => DKW W xb vb sb db k r z v w' ∧ w'.cell? ⟨g, off, none⟩ = some (.string (txt a))) [8, 9] (by kernel_rfl) ?_
        refine wpAnyT_take 16 (i := 0) (v := ?v0_36) rfl (by kernel_rfl) (by kernel_rfl) (by kernel_rfl) (by kernel_rfl) (by kernel_rfl) (fun _ _ _ h => h) (by rfl) ?hy0_36 HSD ?rest0_36
        case hy0_36 => (intro w hSw; obtain ⟨c0, c1, c2, c3, c4, c5, c6, hlt⟩ := DKW.seven (And.left hSw); obtain ⟨_, HD⟩ := hSw; go_simp; (try with_reducible rfl))
        simp only [Act.put]
        refine wpAnyT_take 16 (i := 1) (v := ?v1_37) rfl (by kernel_rfl) (by kernel_rfl) (by kernel_rfl) (by kernel_rfl) (by kernel_rfl) (fun _ _ _ h => h) (by rfl) ?hy1_37 HSD ?rest1_37
        case hy1_37 => (intro w hSw; obtain ⟨c0, c1, c2, c3, c4, c5, c6, hlt⟩ := DKW.seven (And.left hSw); obtain ⟨_, HD⟩ := hSw; go_simp; (try with_reducible rfl))
        simp only [Act.put]
        refine wpAnyT_take 16 (i := 2) (v := ?v2_38) rfl (by kernel_rfl) (by kernel_rfl) (by kernel_rfl) (by kernel_rfl) (by kernel_rfl) (fun _ _ _ h => h) (by rfl) ?hy2_38 HSD ?rest2_38
        case hy2_38 => (intro w hSw; obtain ⟨c0, c1, c2, c3, c4, c5, c6, hlt⟩ := DKW.seven (And.left hSw); obtain ⟨_, HD⟩ := hSw; go_simp; (try with_reducible rfl))
        simp only [Act.put]
        refine wpAnyT_take 16 (i := 3) (v := ?v3_39) rfl (by kernel_rfl) (by kernel_rfl) (by kernel_rfl) (by kernel_rfl) (by kernel_rfl) (fun _ _ _ h => h) (by rfl) ?hy3_39 HSD ?rest3_39
        case hy3_39 => (intro w hSw; obtain ⟨c0, c1, c2, c3, c4, c5, c6, hlt⟩ := DKW.seven (And.left hSw); obtain ⟨_, HD⟩ := hSw; go_simp; (try with_reducible rfl))
        simp only [Act.put]
        refine wpAnyT_take 16 (i := 4) (v := ?v4_40) rfl (by kernel_rfl) (by kernel_rfl) (by kernel_rfl) (by kernel_rfl) (by kernel_rfl) (fun _ _ _ h => h) (by rfl) ?hy4_40 HSD ?rest4_40
        case hy4_40 => (intro w hSw; obtain ⟨c0, c1, c2, c3, c4, c5, c6, hlt⟩ := DKW.seven (And.left hSw); obtain ⟨_, HD⟩ := hSw; go_simp; (try with_reducible rfl))
        simp only [Act.put]
        refine wpAnyT_take 16 (i := 5) (v := ?v5_41) rfl (by kernel_rfl) (by kernel_rfl) (by kernel_rfl) (by kernel_rfl) (by kernel_rfl) (fun _ _ _ h => h) (by rfl) ?hy5_41 HSD ?rest5_41
        case hy5_41 => (intro w hSw; obtain ⟨c0, c1, c2, c3, c4, c5, c6, hlt⟩ := DKW.seven (And.left hSw); obtain ⟨_, HD⟩ := hSw; go_simp; (try with_reducible rfl))
        simp only [Act.put]
        refine wpAnyT_take 16 (i := 6) (v := ?v6_42) rfl (by kernel_rfl) (by kernel_rfl) (by kernel_rfl) (by kernel_rfl) (by kernel_rfl) (fun _ _ _ h => h) (by rfl) ?hy6_42 HSD ?rest6_42
        case hy6_42 => (intro w hSw; obtain ⟨c0, c1, c2, c3, c4, c5, c6, hlt⟩ := DKW.seven (And.left hSw); obtain ⟨_, HD⟩ := hSw; go_simp; (try with_reducible rfl))
        simp only [Act.put]
        refine wpAnyT_one (i := 7) (by kernel_rfl) rfl ?_
        intro K7 hK7
        go_simp
        go_at_call 18
        refine (HN.out _ HSD.1).mono ?_
        rintro x' w2 ⟨rfl, hb⟩
        dsimp only
        have hs2 : DKW W xb vb sb db k r z v w2 ∧ w2.cell? ⟨g, off, none⟩ = some (.string (txt a)) := ⟨HSD.1.keep hb, by rw [hb.cell (p := ⟨g, off, none⟩) (World.block_lt_of_cell? _ _ HSD.2)]; exact HSD.2⟩
        have HB2 := Lib.hid (below_2 HBD.out hb)
        refine hK7.out _ _ (fun _ => hs2) ?_
        try simp only [Act.put]
        clear HSD HBD hb
        refine wpAnyT_one (i := 8) (by kernel_rfl) rfl ?_
        intro K8 hK8
        go_simp
        go_at_call 135
        refine (HC.out _ hs2.1).mono ?_
        rintro x' w3 ⟨he, htw, v3, hs⟩
        have h3 := hs2.1.two htw hs
        have HD3 := Lib.hid h3.1
        have HST := Lib.hid ((StayD.of_below HB2.out).trans h3.2)
        clear hs htw h3 hs2 HB2
        by_cases hq : Q.2.2 = 0
        · rw [hq, errV_0] at he
          subst he
          have HQ0 := Lib.hid hq
          clear hq
          try dsimp only
          refine hK8.out _ _ (fun h => absurd h (by decide)) ?_
          try simp only [Act.put]
          refine wpAnyT_one (i := 9) (by kernel_rfl) rfl ?_
          intro K9 hK9
          go_simp
          go_at_call 20
          refine (must_nil _).mono ?_
          rintro x' w4 ⟨rfl, rfl⟩
          try dsimp only
          refine hK9.out _ _ (fun h => absurd h (by decide)) ?_
          refine wpAnyT_done (by kernel_rfl) ?_ _
          obtain ⟨y0, y1, y2, y3, y4, y5, y6, ylt⟩ := HD3.out.seven
          have HS3 := Lib.hid ((svc_state HD3.out.sw).mono fun _ _ h => got_as h)
          unfold GotAs at HS3
          have HIT := Lib.hid (fun w hT => itoa_c Q.1.s.clock HD3.out.sw.sx.fit.clock w hT)
          go_wp2_with fail
          go_at_call 120
          refine HS3.out.mono ?_
          rintro x' w5 ⟨a1, ac, rfl, hr, hb⟩
          dsimp only
          have hsf := st_clock Q.1.s.clock Q.1.s.next a1 Q.1.s.fams.length ac
          have HD5 := Lib.hid (HD3.out.keep hb)
          have HST5 := Lib.hid (HST.out.trans (StayD.of_below hb))
          clear hr hb y0 y1 y2 y3 y4 y5 y6 ylt HS3
          go_wp2_with fail
          go_at_call 26
          refine (HIT.out _ HD5.out.env.tens).mono ?_
          rintro x' w6 ⟨rfl, hb6⟩
          have HB6 := Lib.hid hb6
          clear hb6
          go_wp2_with fail
          go_ret
          exact ⟨.inl ⟨HQ0.out, rfl⟩, ⟨vb, sb, db, _, HD5.out.keep HB6.out⟩, HST5.out.trans (StayD.of_below HB6.out)⟩
        · rw [errV_n hq] at he
          subst he
          have HQ0 := Lib.hid hq
          clear hq
          have HMN := Lib.hid (must_no Q.2.2 w3 HD3.out.et)
          unfold Thrown at HMN
          try dsimp only
          refine hK8.out _ _ (fun h => absurd h (by decide)) ?_
          try simp only [Act.put]
          refine wpAnyT_one (i := 9) (by kernel_rfl) rfl ?_
          intro K9 hK9
          go_simp
          go_at_call 20
          refine HMN.out.mono ?_
          rintro x' w4 ⟨rfl, hb⟩
          dsimp only
          exact ⟨rfl, .inr ⟨HQ0.out, rfl⟩, ⟨vb, sb, db, _, (HD3.out.keep hb)⟩, HST.out.trans (StayD.of_below hb)⟩
    · exact absurd hL (by simp)
  · have hbad : tickD ⟨r, z⟩ L = bad ⟨r, z⟩ 3 := by
      unfold tickD
      split
      · exact absurd rfl hL
      · rfl
    rw [hbad]
    have HM := Lib.hid (words_no (some ⟨g, off, none⟩) L.length c 1 w h.et (by simpa using (show (L.length : Int) ≠ 1 by omega)))
    have H := Lib.hid h
    clear h hw hl hL hbad hk
    unfold Thrown at HM
    go_enter Tryz.func76, Tryz.ntmps76
    go_wp2_with fail
    go_at_call 17
    refine HM.out.mono ?_
    rintro e w0 ⟨rfl, hb⟩
    dsimp only
    exact ⟨rfl, H.out.thrown hb (by decide)⟩
set_option maxHeartbeats 4000000 in
set_option maxRecDepth 100000 in
theorem desk_mint (h : DKW W xb vb sb db k r z v w) (hk : k < 1000000) (g off c : Nat) (L : List (List UInt8)) (hw : WAt w g off L) (hl : ∀ x ∈ L, x.length ≤ 5000) :
    Calls Tryz.prog 69 #[.pointer (some ⟨xb, 0, none⟩), .slice (some ⟨g, off, none⟩) L.length c] w (DkDone W w xb k (mintD ⟨r, z⟩ L)) := by
  obtain ⟨⟩ := used3 hk hw hl
  by_cases hL : L.length = 1
  · rcases L with _ | ⟨a, _ | ⟨_, L⟩⟩
    · exact absurd hL (by simp)
    · clear hL
      have HWT := Lib.hid hw
      have d0 := hw.2 0 a rfl
      have l0 := hl a (by simp)
      simp only [Nat.add_zero, List.length_cons, List.length_nil, Nat.zero_add] at *
      clear hw hl
      have H := Lib.hid h
      have HC := Lib.hid (fun w (h : DKW W xb vb sb db k r z v w) => svc_mint h.sw (txt a) (by rw [txt_size]; exact l0))
      unfold MintGot at HC
      have hD : mintD ⟨r, z⟩ [a] = (⟨r, z⟩, mintP r z.s (txt a)) := rfl
      rw [hD]
      clear hD
      generalize mintP r z.s (txt a) = Q at *
      obtain ⟨got, code⟩ := Q
      dsimp only at HC ⊢
      obtain ⟨c0, c1, c2, c3, c4, c5, c6, hlt⟩ := h.seven
      clear h hk
      by_cases hq : code = 0
      · subst hq
        rw [errV_0] at HC
        go_enter Tryz.func69, Tryz.ntmps69
        go_wp2_with fail
        go_at_call 17
        refine (words_yes _ 1 c w).mono ?_
        rintro e w0 ⟨rfl, rfl⟩
        go_wp2_with fail
        have HSD := H.out.drew
        have HBD := Lib.hid (below_dr (Below.refl w.heap.size w))
        have HD : w.drew.cell? ⟨xb, 2, none⟩ = some (.pointer (some ⟨vb, 0, none⟩)) ∧ w.drew.cell? ⟨g, off, none⟩ = some (.string (txt a)) := ⟨HSD.call, HWT.out.drew.one⟩
        clear c0 c1 c2 c3 c4 c5 c6 hlt d0
        go_region_held3 (fun w' => w'.cell? ⟨xb, 2, none⟩ = some (.pointer (some ⟨vb, 0, none⟩)) ∧ w'.cell? ⟨g, off, none⟩ = some (.string (txt a)))
          (first
            | with_reducible assumption
            | with_reducible exact HD)
          (first
            | (go_at_call 130; (with_reducible refine (HC.out _ HSD).mono ?_); rintro x' w3 ⟨rfl, hb⟩
               have hx3 : w3.cell? ⟨xb, 2, none⟩ = some (.pointer (some ⟨vb, 0, none⟩)) ∧ w3.cell? ⟨g, off, none⟩ = some (.string (txt a)) := ⟨(HSD.keep hb).call, (HWT.out.drew.keep hb).one⟩))
        have HB3 := Lib.hid (below_2 HBD.out hb)
        clear hb hx3 HD HSD HBD HC
        go_wp2_with fail
        go_at_call 20
        refine (must_nil _).mono ?_
        rintro x' w4 ⟨rfl, rfl⟩
        go_wp2_with fail
        go_ret
        exact H.out.told HB3.out got
      · rw [errV_n hq] at HC
        have HQ0 := Lib.hid hq
        clear hq
        go_enter Tryz.func69, Tryz.ntmps69
        go_wp2_with fail
        go_at_call 17
        refine (words_yes _ 1 c w).mono ?_
        rintro e w0 ⟨rfl, rfl⟩
        go_wp2_with fail
        have HSD := H.out.drew
        have HBD := Lib.hid (below_dr (Below.refl w.heap.size w))
        have HD : w.drew.cell? ⟨xb, 2, none⟩ = some (.pointer (some ⟨vb, 0, none⟩)) ∧ w.drew.cell? ⟨g, off, none⟩ = some (.string (txt a)) := ⟨HSD.call, HWT.out.drew.one⟩
        clear c0 c1 c2 c3 c4 c5 c6 hlt d0
        go_region_held3 (fun w' => w'.cell? ⟨xb, 2, none⟩ = some (.pointer (some ⟨vb, 0, none⟩)) ∧ w'.cell? ⟨g, off, none⟩ = some (.string (txt a)))
          (first
            | with_reducible assumption
            | with_reducible exact HD)
          (first
            | (go_at_call 130; (with_reducible refine (HC.out _ HSD).mono ?_); rintro x' w3 ⟨rfl, hb⟩
               have hx3 : w3.cell? ⟨xb, 2, none⟩ = some (.pointer (some ⟨vb, 0, none⟩)) ∧ w3.cell? ⟨g, off, none⟩ = some (.string (txt a)) := ⟨(HSD.keep hb).call, (HWT.out.drew.keep hb).one⟩))
        have HB3 := Lib.hid (below_2 HBD.out hb)
        clear hb hx3 HD HSD HBD HC
        go_wp2_with fail
        go_at_call 20
        refine (must_no code _ (H.out.keep HB3.out).et).mono ?_
        rintro x' w4 ⟨rfl, hb⟩
        dsimp only
        exact ⟨rfl, H.out.thrown (below_2 HB3.out hb) HQ0.out⟩
    · exact absurd hL (by simp)
  · have hbad : mintD ⟨r, z⟩ L = bad ⟨r, z⟩ 3 := by
      unfold mintD
      split
      · exact absurd rfl hL
      · rfl
    rw [hbad]
    have HM := Lib.hid (words_no (some ⟨g, off, none⟩) L.length c 1 w h.et (by simpa using (show (L.length : Int) ≠ 1 by omega)))
    have H := Lib.hid h
    clear h hw hl hL hbad hk
    unfold Thrown at HM
    go_enter Tryz.func69, Tryz.ntmps69
    go_wp2_with fail
    go_at_call 17
    refine HM.out.mono ?_
    rintro e w0 ⟨rfl, hb⟩
    dsimp only
    exact ⟨rfl, H.out.thrown hb (by decide)⟩
end
end Go.Proofs.YtepjcdjpikbbjaaGreatDoor

/-
  The desk's commands: tag, save.
-/
namespace Go.Proofs.YtepjcdjpikbbjaaGreatDoor
open Go.RowKit Go.Sort

section
variable {W w : World} {xb vb sb db k : Nat} {r : Ru} {z : SS} {v : Value}
set_option maxHeartbeats 4000000 in
set_option maxRecDepth 100000 in
theorem desk_tag (h : DKW W xb vb sb db k r z v w) (hk : k < 1000000) (g off c : Nat) (L : List (List UInt8)) (hw : WAt w g off L) (hl : ∀ x ∈ L, x.length ≤ 5000) :
    Calls Tryz.prog 75 #[.pointer (some ⟨xb, 0, none⟩), .slice (some ⟨g, off, none⟩) L.length c] w (DkDone W w xb k (tagD ⟨r, z⟩ L)) := by
  obtain ⟨⟩ := used3 hk hw hl
  by_cases hL : L.length = 2
  · rcases L with _ | ⟨a, _ | ⟨b, _ | ⟨_, L⟩⟩⟩
    · exact absurd hL (by simp)
    · exact absurd hL (by simp)
    · clear hL
      have HWT := Lib.hid hw
      have d0 := hw.2 0 a rfl
      have d1 := hw.2 1 b rfl
      have l0 := hl a (by simp)
      have l1 := hl b (by simp)
      simp only [Nat.add_zero, List.length_cons, List.length_nil, Nat.zero_add, Nat.reduceAdd] at *
      clear hw hl
      have H := Lib.hid h
      rcases hn : numE a with _ | _
      · have hcut : tagD ⟨r, z⟩ [a, b] = bad ⟨r, z⟩ 3 := by show (if numE a = true then _ else _) = _; rw [hn]; rfl
        rw [hcut]
        have HN := Lib.hid (fun w (h : DKW W xb vb sb db k r z v w) => dnum_no (txt a) w (by rw [txt_size]; omega) h.env.tens h.env.errs h.et h.elt (by rw [data_txt]; exact hn))
        unfold Thrown at HN
        clear hcut hn h hk
        go_enter Tryz.func75, Tryz.ntmps75
        go_wp2_with fail
        go_at_call 17
        refine (words_yes _ 2 c w).mono ?_
        rintro e w0 ⟨rfl, rfl⟩
        go_wp2_with fail
        have HSD : DKW W xb vb sb db k r z v w.drew ∧ w.drew.cell? ⟨g, off, none⟩ = some (.string (txt a)) ∧ w.drew.cell? ⟨g, off + 1, none⟩ = some (.string (txt b)) := ⟨H.out.drew, d0, d1⟩
        have HBD := Lib.hid (below_dr (Below.refl w.heap.size w))
        clear d0 d1
        refine wp_region_tail (fun w' => DKW W xb vb sb db k r z v w' ∧ w'.cell? ⟨g, off, none⟩ = some (.string (txt a)) ∧ w'.cell? ⟨g, off + 1, none⟩ = some (.string (txt b))) [7, 8] (by kernel_rfl) ?_
        refine wpAnyT_take 16 (i := 0) (v := ?v0_43) rfl (by kernel_rfl) (by kernel_rfl) (by kernel_rfl) (by kernel_rfl) (by kernel_rfl) (fun _ _ _ h => h) (by rfl) ?hy0_43 HSD ?rest0_43
        case hy0_43 => (intro w hSw; obtain ⟨_, HD, HE⟩ := hSw; go_simp; (try with_reducible rfl))
        simp only [Act.put]
        refine wpAnyT_take 16 (i := 1) (v := ?v1_44) rfl (by kernel_rfl) (by kernel_rfl) (by kernel_rfl) (by kernel_rfl) (by kernel_rfl) (fun _ _ _ h => h) (by rfl) ?hy1_44 HSD ?rest1_44
        case hy1_44 => (intro w hSw; obtain ⟨_, HD, HE⟩ := hSw; go_simp; (try with_reducible rfl))
        simp only [Act.put]
        refine wpAnyT_take 16 (i := 2) (v := ?v2_45) rfl (by kernel_rfl) (by kernel_rfl) (by kernel_rfl) (by kernel_rfl) (by kernel_rfl) (fun _ _ _ h => h) (by rfl) ?hy2_45 HSD ?rest2_45
        case hy2_45 => (intro w hSw; obtain ⟨_, HD, HE⟩ := hSw; go_simp; (try with_reducible rfl))
        simp only [Act.put]
        refine wpAnyT_take 16 (i := 4) (v := ?v4_46) rfl (by kernel_rfl) (by kernel_rfl) (by kernel_rfl) (by kernel_rfl) (by kernel_rfl) (fun _ _ _ h => h) (by rfl) ?hy4_46 HSD ?rest4_46
        case hy4_46 => (intro w hSw; obtain ⟨_, HD, HE⟩ := hSw; go_simp; (try with_reducible rfl))
        simp only [Act.put]
        refine wpAnyT_take 16 (i := 5) (v := ?v5_47) rfl (by kernel_rfl) (by kernel_rfl) (by kernel_rfl) (by kernel_rfl) (by kernel_rfl) (fun _ _ _ h => h) (by rfl) ?hy5_47 HSD ?rest5_47
        case hy5_47 => (intro w hSw; obtain ⟨_, HD, HE⟩ := hSw; go_simp; (try with_reducible rfl))
        simp only [Act.put]
        refine wpAnyT_take 16 (i := 6) (v := ?v6_48) rfl (by kernel_rfl) (by kernel_rfl) (by kernel_rfl) (by kernel_rfl) (by kernel_rfl) (fun _ _ _ h => h) (by rfl) ?hy6_48 HSD ?rest6_48
        case hy6_48 => (intro w hSw; obtain ⟨_, HD, HE⟩ := hSw; go_simp; (try with_reducible rfl))
        simp only [Act.put]
        refine wpAnyT_one (i := 3) (by kernel_rfl) rfl ?_
        intro K7 hK7
        go_simp
        go_at_call 18
        refine (HN.out _ HSD.1).mono ?_
        rintro x' w2 ⟨rfl, hb⟩
        dsimp only
        exact ⟨rfl, H.out.thrown (below_2 HBD.out hb) (by decide)⟩
      · have hyes : tagD ⟨r, z⟩ [a, b] = (⟨r, z⟩, txt (tagL (atoiN a) b), 0) := by show (if numE a = true then _ else _) = _; rw [hn]; rfl
        rw [hyes]
        have HN := Lib.hid (fun w (h : DKW W xb vb sb db k r z v w) => dnum_yes (txt a) w (by rw [txt_size]; omega) h.env.tens (by rw [data_txt]; exact hn))
        rw [data_txt] at HN
        generalize atoiN a = n at *
        have HTG := Lib.hid (fun w => mac_tag n (txt b) w (by rw [txt_size]; omega))
        rw [data_txt] at HTG
        have hgs : (⟨(tagL n b).toArray⟩ : ByteArray) = txt (tagL n b) := rfl
        rw [hgs] at HTG
        clear hyes hn h hk hgs
        generalize txt (tagL n b) = tg at *
        go_enter Tryz.func75, Tryz.ntmps75
        go_wp2_with fail
        go_at_call 17
        refine (words_yes _ 2 c w).mono ?_
        rintro e w0 ⟨rfl, rfl⟩
        go_wp2_with fail
        have HSD : DKW W xb vb sb db k r z v w.drew ∧ w.drew.cell? ⟨g, off, none⟩ = some (.string (txt a)) ∧ w.drew.cell? ⟨g, off + 1, none⟩ = some (.string (txt b)) := ⟨H.out.drew, d0, d1⟩
        have HBD := Lib.hid (below_dr (Below.refl w.heap.size w))
        clear d0 d1
        refine wp_region_tail (fun w' => DKW W xb vb sb db k r z v w' ∧ w'.cell? ⟨g, off, none⟩ = some (.string (txt a)) ∧ w'.cell? ⟨g, off + 1, none⟩ = some (.string (txt b))) [7, 8] (by kernel_rfl) ?_
        refine wpAnyT_take 16 (i := 0) (v := ?v0_49) rfl (by kernel_rfl) (by kernel_rfl) (by kernel_rfl) (by kernel_rfl) (by kernel_rfl) (fun _ _ _ h => h) (by rfl) ?hy0_49 HSD ?rest0_49
        case hy0_49 => (intro w hSw; obtain ⟨_, HD, HE⟩ := hSw; go_simp; (try with_reducible rfl))
        simp only [Act.put]
        refine wpAnyT_take 16 (i := 1) (v := ?v1_50) rfl (by kernel_rfl) (by kernel_rfl) (by kernel_rfl) (by kernel_rfl) (by kernel_rfl) (fun _ _ _ h => h) (by rfl) ?hy1_50 HSD ?rest1_50
        case hy1_50 => (intro w hSw; obtain ⟨_, HD, HE⟩ := hSw; go_simp; (try with_reducible rfl))
        simp only [Act.put]
        refine wpAnyT_take 16 (i := 2) (v := ?v2_51) rfl (by kernel_rfl) (by kernel_rfl) (by kernel_rfl) (by kernel_rfl) (by kernel_rfl) (fun _ _ _ h => h) (by rfl) ?hy2_51 HSD ?rest2_51
        case hy2_51 => (intro w hSw; obtain ⟨_, HD, HE⟩ := hSw; go_simp; (try with_reducible rfl))
        simp only [Act.put]
        refine wpAnyT_take 16 (i := 4) (v := ?v4_52) rfl (by kernel_rfl) (by kernel_rfl) (by kernel_rfl) (by kernel_rfl) (by kernel_rfl) (fun _ _ _ h => h) (by rfl) ?hy4_52 HSD ?rest4_52
        case hy4_52 => (intro w hSw; obtain ⟨_, HD, HE⟩ := hSw; go_simp; (try with_reducible rfl))
        simp only [Act.put]
        refine wpAnyT_take 16 (i := 5) (v := ?v5_53) rfl (by kernel_rfl) (by kernel_rfl) (by kernel_rfl) (by kernel_rfl) (by kernel_rfl) (fun _ _ _ h => h) (by rfl) ?hy5_53 HSD ?rest5_53
        case hy5_53 => (intro w hSw; obtain ⟨_, HD, HE⟩ := hSw; go_simp; (try with_reducible rfl))
        simp only [Act.put]
        refine wpAnyT_take 16 (i := 6) (v := ?v6_54) rfl (by kernel_rfl) (by kernel_rfl) (by kernel_rfl) (by kernel_rfl) (by kernel_rfl) (fun _ _ _ h => h) (by rfl) ?hy6_54 HSD ?rest6_54
        case hy6_54 => (intro w hSw; obtain ⟨_, HD, HE⟩ := hSw; go_simp; (try with_reducible rfl))
        simp only [Act.put]
        refine wpAnyT_one (i := 3) (by kernel_rfl) rfl ?_
        intro K7 hK7
        go_simp
        go_at_call 18
        refine (HN.out _ HSD.1).mono ?_
        rintro x' w2 ⟨rfl, hb⟩
        dsimp only
        have hw2 := HWT.out.drew.keep hb
        have hs2 : DKW W xb vb sb db k r z v w2 ∧ w2.cell? ⟨g, off, none⟩ = some (.string (txt a)) ∧ w2.cell? ⟨g, off + 1, none⟩ = some (.string (txt b)) := ⟨HSD.1.keep hb, hw2.two_⟩
        have HB2 := Lib.hid (below_2 HBD.out hb)
        refine hK7.out _ _ (fun _ => hs2) ?_
        try simp only [Act.put]
        clear HSD HBD hb hw2
        refine wpAnyT_one (i := 7) (by kernel_rfl) rfl ?_
        intro K8 hK8
        go_simp
        go_at_call 107
        refine (HTG.out _).mono ?_
        rintro x' w3 ⟨rfl, hb⟩
        have HB3 := Lib.hid (below_2 HB2.out hb)
        clear hb hs2 HB2
        try dsimp only
        refine hK8.out _ _ (fun h => absurd h (by decide)) ?_
        try simp only [Act.put]
        refine wpAnyT_one (i := 8) (by kernel_rfl) rfl ?_
        intro K9 hK9
        go_simp
        try dsimp only
        refine hK9.out _ _ (fun h => absurd h (by decide)) ?_
        refine wpAnyT_done (by kernel_rfl) ?_ _
        go_wp2_with fail
        go_ret
        exact H.out.told HB3.out tg
    · exact absurd hL (by simp)
  · have hbad : tagD ⟨r, z⟩ L = bad ⟨r, z⟩ 3 := by
      unfold tagD
      split
      · exact absurd rfl hL
      · rfl
    rw [hbad]
    have HM := Lib.hid (words_no (some ⟨g, off, none⟩) L.length c 2 w h.et (by simpa using (show (L.length : Int) ≠ 2 by omega)))
    have H := Lib.hid h
    clear h hw hl hL hbad hk
    unfold Thrown at HM
    go_enter Tryz.func75, Tryz.ntmps75
    go_wp2_with fail
    go_at_call 17
    refine HM.out.mono ?_
    rintro e w0 ⟨rfl, hb⟩
    dsimp only
    exact ⟨rfl, H.out.thrown hb (by decide)⟩
set_option maxHeartbeats 4000000 in
set_option maxRecDepth 100000 in
theorem desk_save (h : DKW W xb vb sb db k r z v w) (hk : k < 1000000) (g off c : Nat) (L : List (List UInt8)) (hw : WAt w g off L) (hl : ∀ x ∈ L, x.length ≤ 5000) :
    Calls Tryz.prog 72 #[.pointer (some ⟨xb, 0, none⟩), .slice (some ⟨g, off, none⟩) L.length c] w (DkDone W w xb k (saveD ⟨r, z⟩ L)) := by
  obtain ⟨⟩ := used3 hk hw hl
  by_cases hL : L.length = 0
  · obtain rfl : L = [] := List.eq_nil_of_length_eq_zero hL
    clear hL hw hl
    simp only [List.length_nil]
    have H := Lib.hid h
    have HC := Lib.hid (sx_save h.sw.sx hk)
    unfold DoneX at HC
    have hD : saveD ⟨r, z⟩ [] = (⟨r, (saveS z).1⟩, txt saveN, (saveS z).2) := rfl
    rw [hD]
    clear hD
    generalize saveS z = Q at *
    obtain ⟨z9, code⟩ := Q
    dsimp only at HC ⊢
    obtain ⟨c0, c1, c2, c3, c4, c5, c6, hlt⟩ := h.seven
    clear h hk
    by_cases hq : code = 0
    · subst hq
      rw [errV_0] at HC
      go_enter Tryz.func72, Tryz.ntmps72
      go_wp2_with fail
      go_at_call 17
      refine (words_yes _ 0 c w).mono ?_
      rintro e w0 ⟨rfl, rfl⟩
      go_wp2_with fail
      go_at_call 132
      refine HC.out.mono ?_
      rintro x' w3 ⟨rfl, htw, v3, hs⟩
      dsimp only
      have h3 := H.out.two htw (H.out.sw.two htw hs)
      have HD3 := Lib.hid h3.1
      have HST := Lib.hid h3.2
      clear htw hs h3 HC c0 c1 c2 c3 c4 c5 c6 hlt
      go_wp2_with fail
      go_at_call 20
      refine (must_nil _).mono ?_
      rintro x' w4 ⟨rfl, rfl⟩
      go_wp2_with fail
      go_ret
      exact ⟨.inl ⟨rfl, rfl⟩, ⟨vb, sb, db, _, HD3.out⟩, HST.out⟩
    · rw [errV_n hq] at HC
      have HQ0 := Lib.hid hq
      clear hq
      go_enter Tryz.func72, Tryz.ntmps72
      go_wp2_with fail
      go_at_call 17
      refine (words_yes _ 0 c w).mono ?_
      rintro e w0 ⟨rfl, rfl⟩
      go_wp2_with fail
      go_at_call 132
      refine HC.out.mono ?_
      rintro x' w3 ⟨rfl, htw, v3, hs⟩
      dsimp only
      have h3 := H.out.two htw (H.out.sw.two htw hs)
      have HD3 := Lib.hid h3.1
      have HST := Lib.hid h3.2
      clear htw hs h3 HC c0 c1 c2 c3 c4 c5 c6 hlt
      go_wp2_with fail
      go_at_call 20
      refine (must_no code _ HD3.out.et).mono ?_
      rintro x' w4 ⟨rfl, hb⟩
      dsimp only
      exact ⟨rfl, .inr ⟨HQ0.out, rfl⟩, ⟨vb, sb, db, _, (HD3.out.keep hb)⟩, HST.out.trans (StayD.of_below hb)⟩
  · have hbad : saveD ⟨r, z⟩ L = bad ⟨r, z⟩ 3 := by
      unfold saveD
      split
      · exact absurd rfl hL
      · rfl
    rw [hbad]
    have HM := Lib.hid (words_no (some ⟨g, off, none⟩) L.length c 0 w h.et (by simpa using (show (L.length : Int) ≠ 0 by omega)))
    have H := Lib.hid h
    clear h hw hl hL hbad hk
    unfold Thrown at HM
    go_enter Tryz.func72, Tryz.ntmps72
    go_wp2_with fail
    go_at_call 17
    refine HM.out.mono ?_
    rintro e w0 ⟨rfl, hb⟩
    dsimp only
    exact ⟨rfl, H.out.thrown hb (by decide)⟩
end
end Go.Proofs.YtepjcdjpikbbjaaGreatDoor

/-
  The desk's commands: sweep, writes, help, least.
-/
namespace Go.Proofs.YtepjcdjpikbbjaaGreatDoor
open Go.RowKit Go.Sort

theorem sweep_ok {r : Ru} {z : SS} (h : Fit z.s) : okN (doPlan 0 z (sweepP r z.s)).2.1 = true := by
  unfold sweepP
  rcases hf : sweepF r z.s with _ | f
  · rfl
  · have hm : f ∈ z.s.fams := List.mem_of_find?_eq_some hf
    dsimp only [doPlan]
    split
    · exact (famB_parts (h.fams f hm)).1
    · rfl
section
variable {W w : World} {xb vb sb db k : Nat} {r : Ru} {z : SS} {v : Value}
set_option maxHeartbeats 4000000 in
set_option maxRecDepth 100000 in
theorem desk_sweep (h : DKW W xb vb sb db k r z v w) (hk : k < 1000000) (g off c : Nat) (L : List (List UInt8)) (hw : WAt w g off L) (hl : ∀ x ∈ L, x.length ≤ 5000) :
    Calls Tryz.prog 74 #[.pointer (some ⟨xb, 0, none⟩), .slice (some ⟨g, off, none⟩) L.length c] w (DkDone W w xb k (sweepD ⟨r, z⟩ L)) := by
  obtain ⟨⟩ := used3 hk hw hl
  by_cases hL : L.length = 0
  · obtain rfl : L = [] := List.eq_nil_of_length_eq_zero hL
    clear hL hw hl
    simp only [List.length_nil]
    have H := Lib.hid h
    have HC := Lib.hid (svc_sweep h.sw hk)
    unfold PlanI at HC
    have hD : sweepD ⟨r, z⟩ [] = (⟨r, (doPlan 0 z (sweepP r z.s)).1⟩, itoS (doPlan 0 z (sweepP r z.s)).2.1, (doPlan 0 z (sweepP r z.s)).2.2) := rfl
    rw [hD]
    have HOK := Lib.hid (sweep_ok (r := r) h.sw.sx.fit)
    clear hD
    generalize doPlan 0 z (sweepP r z.s) = Q at *
    obtain ⟨z9, got, code⟩ := Q
    dsimp only at HC HOK ⊢
    have HIT := Lib.hid (fun w hT => itoa_c got HOK.out w hT)
    obtain ⟨c0, c1, c2, c3, c4, c5, c6, hlt⟩ := h.seven
    clear h hk
    by_cases hq : code = 0
    · subst hq
      rw [errV_0] at HC
      go_enter Tryz.func74, Tryz.ntmps74
      go_wp2_with fail
      go_at_call 17
      refine (words_yes _ 0 c w).mono ?_
      rintro e w0 ⟨rfl, rfl⟩
      go_wp2_with fail
      go_at_call 134
      refine HC.out.mono ?_
      rintro x' w3 ⟨rfl, htw, v3, hs⟩
      dsimp only
      have h3 := H.out.two htw hs
      have HD3 := Lib.hid h3.1
      have HST := Lib.hid h3.2
      clear htw hs h3 HC c0 c1 c2 c3 c4 c5 c6 hlt
      go_wp2_with fail
      go_at_call 20
      refine (must_nil _).mono ?_
      rintro x' w4 ⟨rfl, rfl⟩
      go_wp2_with fail
      go_at_call 26
      refine (HIT.out _ HD3.out.env.tens).mono ?_
      rintro x' w6 ⟨rfl, hb6⟩
      have HB6 := Lib.hid hb6
      clear hb6
      go_wp2_with fail
      go_ret
      exact ⟨.inl ⟨rfl, rfl⟩, ⟨vb, sb, db, _, HD3.out.keep HB6.out⟩, HST.out.trans (StayD.of_below HB6.out)⟩
    · rw [errV_n hq] at HC
      have HQ0 := Lib.hid hq
      clear hq
      go_enter Tryz.func74, Tryz.ntmps74
      go_wp2_with fail
      go_at_call 17
      refine (words_yes _ 0 c w).mono ?_
      rintro e w0 ⟨rfl, rfl⟩
      go_wp2_with fail
      go_at_call 134
      refine HC.out.mono ?_
      rintro x' w3 ⟨rfl, htw, v3, hs⟩
      dsimp only
      have h3 := H.out.two htw hs
      have HD3 := Lib.hid h3.1
      have HST := Lib.hid h3.2
      clear htw hs h3 HC c0 c1 c2 c3 c4 c5 c6 hlt
      go_wp2_with fail
      go_at_call 20
      refine (must_no code _ HD3.out.et).mono ?_
      rintro x' w4 ⟨rfl, hb⟩
      dsimp only
      exact ⟨rfl, .inr ⟨HQ0.out, rfl⟩, ⟨vb, sb, db, _, (HD3.out.keep hb)⟩, HST.out.trans (StayD.of_below hb)⟩
  · have hbad : sweepD ⟨r, z⟩ L = bad ⟨r, z⟩ 3 := by
      unfold sweepD
      split
      · exact absurd rfl hL
      · rfl
    rw [hbad]
    have HM := Lib.hid (words_no (some ⟨g, off, none⟩) L.length c 0 w h.et (by simpa using (show (L.length : Int) ≠ 0 by omega)))
    have H := Lib.hid h
    clear h hw hl hL hbad hk
    unfold Thrown at HM
    go_enter Tryz.func74, Tryz.ntmps74
    go_wp2_with fail
    go_at_call 17
    refine HM.out.mono ?_
    rintro e w0 ⟨rfl, hb⟩
    dsimp only
    exact ⟨rfl, H.out.thrown hb (by decide)⟩
set_option maxHeartbeats 4000000 in
set_option maxRecDepth 100000 in
theorem desk_writes (h : DKW W xb vb sb db k r z v w) (hk : k < 1000000) (g off c : Nat) (L : List (List UInt8)) (hw : WAt w g off L) (hl : ∀ x ∈ L, x.length ≤ 5000) (hok : okI z.writes) :
    Calls Tryz.prog 78 #[.pointer (some ⟨xb, 0, none⟩), .slice (some ⟨g, off, none⟩) L.length c] w (DkDone W w xb k (writesD ⟨r, z⟩ L)) := by
  obtain ⟨⟩ := used3 hk hw hl
  by_cases hL : L.length = 0
  · obtain rfl : L = [] := List.eq_nil_of_length_eq_zero hL
    clear hL hw hl
    simp only [List.length_nil]
    have H := Lib.hid h
    have HC := Lib.hid (sx_writes h.sw.sx)
    have hD : writesD ⟨r, z⟩ [] = (⟨r, z⟩, itoS z.writes, 0) := rfl
    rw [hD]
    have HOK := Lib.hid hok
    have HIT := Lib.hid (fun w hT => itoa_any z.writes HOK.out.1 HOK.out.2 w hT)
    obtain ⟨c0, c1, c2, c3, c4, c5, c6, hlt⟩ := h.seven
    clear h hk hD
    go_enter Tryz.func78, Tryz.ntmps78
    go_wp2_with fail
    go_at_call 17
    refine (words_yes _ 0 c w).mono ?_
    rintro e w0 ⟨rfl, rfl⟩
    go_wp2_with fail
    go_at_call 137
    refine HC.out.mono ?_
    rintro x' w3 ⟨rfl, rfl⟩
    dsimp only
    go_wp2_with fail
    go_at_call 26
    refine (HIT.out _ H.out.env.tens).mono ?_
    rintro x' w6 ⟨rfl, hb6⟩
    have HB6 := Lib.hid hb6
    clear hb6
    go_wp2_with fail
    go_ret
    exact H.out.told HB6.out _
  · have hbad : writesD ⟨r, z⟩ L = bad ⟨r, z⟩ 3 := by
      unfold writesD
      split
      · exact absurd rfl hL
      · rfl
    rw [hbad]
    have HM := Lib.hid (words_no (some ⟨g, off, none⟩) L.length c 0 w h.et (by simpa using (show (L.length : Int) ≠ 0 by omega)))
    have H := Lib.hid h
    clear h hw hl hL hbad hk
    unfold Thrown at HM
    go_enter Tryz.func78, Tryz.ntmps78
    go_wp2_with fail
    go_at_call 17
    refine HM.out.mono ?_
    rintro e w0 ⟨rfl, hb⟩
    dsimp only
    exact ⟨rfl, H.out.thrown hb (by decide)⟩
set_option maxHeartbeats 4000000 in
set_option maxRecDepth 100000 in
theorem desk_help (h : DKW W xb vb sb db k r z v w) (hk : k < 1000000) (g off c : Nat) (L : List (List UInt8)) (hw : WAt w g off L) (hl : ∀ x ∈ L, x.length ≤ 5000) :
    Calls Tryz.prog 65 #[.pointer (some ⟨xb, 0, none⟩), .slice (some ⟨g, off, none⟩) L.length c] w (DkDone W w xb k (helpD ⟨r, z⟩ L)) := by
  obtain ⟨⟩ := used3 hk hw hl
  by_cases hL : L.length = 0
  · obtain rfl : L = [] := List.eq_nil_of_length_eq_zero hL
    clear hL hw hl
    simp only [List.length_nil]
    have H := Lib.hid h
    have hD : helpD ⟨r, z⟩ [] = (⟨r, z⟩, helpS, 0) := rfl
    rw [hD]
    clear h hk hD
    go_enter Tryz.func65, Tryz.ntmps65
    go_wp2_with fail
    go_at_call 17
    refine (words_yes _ 0 c w).mono ?_
    rintro e w0 ⟨rfl, rfl⟩
    go_wp2_with fail
    go_ret
    exact H.out.told (Below.refl _ _) _
  · have hbad : helpD ⟨r, z⟩ L = bad ⟨r, z⟩ 3 := by
      unfold helpD
      split
      · exact absurd rfl hL
      · rfl
    rw [hbad]
    have HM := Lib.hid (words_no (some ⟨g, off, none⟩) L.length c 0 w h.et (by simpa using (show (L.length : Int) ≠ 0 by omega)))
    have H := Lib.hid h
    clear h hw hl hL hbad hk
    unfold Thrown at HM
    go_enter Tryz.func65, Tryz.ntmps65
    go_wp2_with fail
    go_at_call 17
    refine HM.out.mono ?_
    rintro e w0 ⟨rfl, hb⟩
    dsimp only
    exact ⟨rfl, H.out.thrown hb (by decide)⟩
set_option maxHeartbeats 4000000 in
set_option maxRecDepth 100000 in
theorem desk_least (h : DKW W xb vb sb db k r z v w) (hk : k < 1000000) (g off c : Nat) (L : List (List UInt8)) (hw : WAt w g off L) (hl : ∀ x ∈ L, x.length ≤ 5000) :
    Calls Tryz.prog 67 #[.pointer (some ⟨xb, 0, none⟩), .slice (some ⟨g, off, none⟩) L.length c] w (DkDone W w xb k (leastD ⟨r, z⟩ L)) := by
  obtain ⟨⟩ := used3 hk hw hl
  by_cases hL : L.length = 1
  · rcases L with _ | ⟨a, _ | ⟨_, L⟩⟩
    · exact absurd hL (by simp)
    · clear hL
      have HWT := Lib.hid hw
      have d0 := hw.2 0 a rfl
      have l0 := hl a (by simp)
      simp only [Nat.add_zero, List.length_cons, List.length_nil, Nat.zero_add] at *
      clear hw hl
      have H := Lib.hid h
      have HPL := Lib.hid (fun w => desk_plain (txt a) w)
      have hsz := plainS_size (txt a) (n := 5000) (by rw [txt_size]; exact l0)
      have hD : leastD ⟨r, z⟩ [a] = (⟨r, z⟩, wordS (txt (leastL (plainS (txt a)).data.toList)), scopeN (plainS (txt a)).data.toList) := rfl
      rw [hD]
      clear hD
      generalize plainS (txt a) = pc at *
      have HC := Lib.hid (fun w (h : DKW W xb vb sb db k r z v w) => scope_least_any pc w hsz h.env.maxl)
      generalize scopeN pc.data.toList = code at *
      generalize txt (leastL pc.data.toList) = ls at *
      have HW := Lib.hid (fun w => desk_word ls w)
      clear h hk hsz
      by_cases hq : code = 0
      · subst hq
        rw [errV_0] at HC
        go_enter Tryz.func67, Tryz.ntmps67
        go_wp2_with fail
        go_at_call 17
        refine (words_yes _ 1 c w).mono ?_
        rintro e w0 ⟨rfl, rfl⟩
        go_wp2_with fail
        go_at_call 124
        refine (HPL.out _).mono ?_
        rintro x' w2 ⟨rfl, rfl⟩
        dsimp only
        go_wp2_with fail
        go_at_call 126
        refine (HC.out _ H.out).mono ?_
        rintro x' w3 ⟨rfl, hb⟩
        dsimp only
        have HB3 := Lib.hid hb
        clear hb HC HPL d0
        go_wp2_with fail
        go_at_call 20
        refine (must_nil _).mono ?_
        rintro x' w4 ⟨rfl, rfl⟩
        go_wp2_with fail
        go_at_call 127
        refine (HW.out _).mono ?_
        rintro x' w4 ⟨rfl, rfl⟩
        go_wp2_with fail
        go_ret
        exact H.out.told HB3.out _
      · rw [errV_n hq] at HC
        have HQ0 := Lib.hid hq
        clear hq
        go_enter Tryz.func67, Tryz.ntmps67
        go_wp2_with fail
        go_at_call 17
        refine (words_yes _ 1 c w).mono ?_
        rintro e w0 ⟨rfl, rfl⟩
        go_wp2_with fail
        go_at_call 124
        refine (HPL.out _).mono ?_
        rintro x' w2 ⟨rfl, rfl⟩
        dsimp only
        go_wp2_with fail
        go_at_call 126
        refine (HC.out _ H.out).mono ?_
        rintro x' w3 ⟨rfl, hb⟩
        dsimp only
        have HB3 := Lib.hid hb
        clear hb HC HPL d0
        go_wp2_with fail
        go_at_call 20
        refine (must_no code _ (H.out.keep HB3.out).et).mono ?_
        rintro x' w4 ⟨rfl, hb⟩
        dsimp only
        exact ⟨rfl, H.out.thrown (below_2 HB3.out hb) HQ0.out⟩
    · exact absurd hL (by simp)
  · have hbad : leastD ⟨r, z⟩ L = bad ⟨r, z⟩ 3 := by
      unfold leastD
      split
      · exact absurd rfl hL
      · rfl
    rw [hbad]
    have HM := Lib.hid (words_no (some ⟨g, off, none⟩) L.length c 1 w h.et (by simpa using (show (L.length : Int) ≠ 1 by omega)))
    have H := Lib.hid h
    clear h hw hl hL hbad hk
    unfold Thrown at HM
    go_enter Tryz.func67, Tryz.ntmps67
    go_wp2_with fail
    go_at_call 17
    refine HM.out.mono ?_
    rintro e w0 ⟨rfl, hb⟩
    dsimp only
    exact ⟨rfl, H.out.thrown hb (by decide)⟩
end
end Go.Proofs.YtepjcdjpikbbjaaGreatDoor
