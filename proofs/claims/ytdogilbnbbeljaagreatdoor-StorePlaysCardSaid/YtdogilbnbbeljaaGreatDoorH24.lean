/-
  event.right: may an event be?
-/
import Derived.Test.YtdogilbnbbeljaaGreatDoorH22
import Derived.Test.YtdogilbnbbeljaaGreatDoorH03
import Derived.Test.YtdogilbnbbeljaaGreatDoorH23
namespace Go.Proofs.YtdogilbnbbeljaaGreatDoor
open Go.RowKit Go.Sort

/-- what event.right and the reference's May know while they run: the packages' variables, and the blocks of the event and of its family -/
structure ER (T : TypeId) (W : World) (e : Ev) (w : World) : Prop where
  below : Below W.heap.size W w
  maxl : MaxL w
  ev : Blk w W.heap.size T (evCs e)
  fam : Blk w (W.heap.size + 1) 40 (famCs e.fam)
theorem ER.keep {T : TypeId} {W w w' : World} {e : Ev} (h : ER T W e w) (hb : Below w.heap.size w w') : ER T W e w' :=
  ⟨below_2 h.below hb, h.maxl.below' hb, h.ev.below' hb, h.fam.below' hb⟩
theorem ER.start {T : TypeId} {W : World} (hm : MaxL W) (e : Ev) : ER T W e ((W.alloc (.cells (evCs e) T)).alloc (.cells (famCs e.fam) 40)) := by
  have hb : Below W.heap.size W ((W.alloc (.cells (evCs e) T)).alloc (.cells (famCs e.fam) 40)) := ((Below.refl _ _).alloc (Nat.le_refl _) _).alloc (by simp) _
  refine ⟨hb, hm.below' hb, (Blk.new W _ _).alloc _, ?_⟩
  have := Blk.new (W.alloc (.cells (evCs e) T)) 40 (famCs e.fam)
  simpa using this
theorem ER.cells {T : TypeId} {W w : World} {k i : Int} {cl su sc : ByteArray} {ge ma us : Int} {re : ByteArray} {de : Bool} {id ti : Int} (h : ER T W ⟨k, ⟨i, cl, su, sc, ge, ma, us, re, de⟩, id, ti⟩ w) :
    w.cell? ⟨W.heap.size, 0, none⟩ = some (.int .i64 k) ∧ w.cell? ⟨W.heap.size, 10, none⟩ = some (.int .i64 id) ∧ w.cell? ⟨W.heap.size, 11, none⟩ = some (.int .i64 ti) ∧
    w.cell? ⟨W.heap.size + 1, 0, none⟩ = some (.int .i64 i) ∧ w.cell? ⟨W.heap.size + 1, 1, none⟩ = some (.string cl) ∧ w.cell? ⟨W.heap.size + 1, 2, none⟩ = some (.string su) ∧ w.cell? ⟨W.heap.size + 1, 3, none⟩ = some (.string sc) ∧ w.cell? ⟨W.heap.size + 1, 4, none⟩ = some (.int .i64 ge) ∧
    w.cell? ⟨W.heap.size + 1, 5, none⟩ = some (.int .i64 ma) ∧ w.cell? ⟨W.heap.size + 1, 6, none⟩ = some (.int .i64 us) ∧ w.cell? ⟨W.heap.size + 1, 7, none⟩ = some (.string re) ∧ w.cell? ⟨W.heap.size + 1, 8, none⟩ = some (.bool de) :=
  ⟨h.ev.cell 0, h.ev.cell 10, h.ev.cell 11, h.fam.cell 0, h.fam.cell 1, h.fam.cell 2, h.fam.cell 3, h.fam.cell 4, h.fam.cell 5, h.fam.cell 6, h.fam.cell 7, h.fam.cell 8⟩
set_option maxHeartbeats 16000000 in
set_option maxRecDepth 100000 in
theorem right_put (e : Ev) (W : World) (hk : e.kind = 1) (hs : e.fam.short 1000) (hm : MaxL W) :
    Calls Tryz.prog 53 #[evVal e] W fun x w' => x = .returned (.bool (evB e)) ∧ Below W.heap.size W w' := by
  have hr : evB e = (decide (e.id = 0) && decide (e.time = 0) && famB e.fam) := by unfold evB; rw [if_pos hk]
  have HS := Lib.hid (ER.start (T := 42) hm e)
  obtain ⟨k, ⟨i, cl, su, sc, ge, ma, us, re, de⟩, id, ti⟩ := e
  dsimp only at hk
  subst hk
  obtain ⟨s1, s2, s3, s4⟩ := hs
  dsimp only at s1 s2 s3 s4 hr
  unfold famB at hr
  dsimp only at hr
  have h1 : (id == 0) = decide (id = 0) := by rw [Bool.eq_iff_iff]; simp
  have h2 : (ti == 0) = decide (ti = 0) := by rw [Bool.eq_iff_iff]; simp
  have HW : Hid (∀ (g : Nat) (w : World), IntsAt w g [i, ge, ma, us] → Calls Tryz.prog 79 #[.slice (some ⟨g, 0, none⟩) 4 4] w fun e w' => e = .returned (.bool ([i, ge, ma, us].all okN)) ∧ Below w.heap.size w w') := Lib.hid fun g w h => ev_within g 4 [i, ge, ma, us] w h (show 4 ≤ 1000000 by decide)
  rw [four_ok] at HW
  have HN1 := Lib.hid (fun w => ev_name cl w s1)
  have HN2 := Lib.hid (fun w => ev_name su w s2)
  have HN3 := Lib.hid (fun w => ev_name re w s4)
  have HL := Lib.hid (fun w (h : MaxL w) => scope_least_any sc w s3 h)
  have h6 := empty_list (s := re)
  have h8 := scope_eq (txt (leastL sc.data.toList)) sc _ rfl
  have h9 : scopeB sc.data.toList = (decide (scopeN sc.data.toList = 0) && decide (leastL sc.data.toList = sc.data.toList)) := rfl
  have h10 : reqB re.data.toList = (decide (re.data.toList = []) || nameB re.data.toList) := rfl
  rw [h9, h10] at hr
  clear hm h9 h10
  generalize txt (leastL sc.data.toList) = y at *
  have hb : (okN i && okN ge && okN ma && okN us && nameB cl.data.toList && nameB su.data.toList && (decide (re.data.toList = []) || nameB re.data.toList) && (decide (scopeN sc.data.toList = 0) && decide (leastL sc.data.toList = sc.data.toList))) = ((okN i && okN ge && okN ma && okN us) && nameB cl.data.toList && nameB su.data.toList && (decide (re.data.toList = []) || nameB re.data.toList) && (decide (scopeN sc.data.toList = 0) && decide (leastL sc.data.toList = sc.data.toList))) := rfl
  rw [hb] at hr
  clear hb
  have hE : (decide (scopeN sc.data.toList = 0) = true ∧ errV (scopeN sc.data.toList) = .nilIface) ∨ (decide (scopeN sc.data.toList = 0) = false ∧ ∃ n, errV (scopeN sc.data.toList) = .iface 47 (.int .i64 n)) := by
    by_cases h : scopeN sc.data.toList = 0
    · exact .inl ⟨by simpa using h, if_pos h⟩
    · exact .inr ⟨by simpa using h, _, if_neg h⟩
  generalize errV (scopeN sc.data.toList) = ev at *
  generalize decide (scopeN sc.data.toList = 0) = b8 at *
  generalize decide (leastL sc.data.toList = sc.data.toList) = b9 at *
  generalize nameB cl.data.toList = b4 at *
  generalize nameB su.data.toList = b5 at *
  generalize nameB re.data.toList = b7 at *
  generalize decide (re.data.toList = []) = b6 at *
  generalize (okN i && okN ge && okN ma && okN us) = b3 at *
  generalize decide (id = 0) = b1 at *
  generalize decide (ti = 0) = b2 at *
  have HR := Lib.hid hr
  have H1 := Lib.hid h1
  have H2 := Lib.hid h2
  have H6 := Lib.hid h6
  clear hr h1 h2 h6
  unfold evVal evCs
  dsimp only
  go_enter Tryz.func53, Tryz.ntmps53
  go_wp2_with fail
  have HC := HS
  go_at_call 78
  refine (HL.out _ HC.out.maxl).mono ?_
  rintro x w' ⟨rfl, hb⟩
  have HC := Lib.hid (HC.out.keep hb)
  clear hb
  obtain ⟨c0, c1, c2, d0, d1, d2, d3, d4, d5, d6, d7, d8⟩ := HC.out.cells
  have h1 := H1.out
  clear H1
  cases b1
  · go_wp2_with fail
    go_ret
    exact ⟨by rw [HR.out]; first | rfl | simp, HC.out.below⟩
  have h2 := H2.out
  clear H2
  cases b2
  · go_wp2_with fail
    go_ret
    exact ⟨by rw [HR.out]; first | rfl | simp, HC.out.below⟩
  go_wp2_with fail
  go_at_call 79
  refine (HW.out _ _ (ints_new _ 3 [i, ge, ma, us])).mono ?_
  rintro x w' ⟨rfl, hb⟩
  have HC := Lib.hid ((HC.out.keep ((Below.refl _ _).alloc (Nat.le_refl _) (.cells #[.int .i64 i, .int .i64 ge, .int .i64 ma, .int .i64 us] 3))).keep hb)
  clear hb c0 c1 c2 d0 d1 d2 d3 d4 d5 d6 d7 d8
  obtain ⟨c0, c1, c2, d0, d1, d2, d3, d4, d5, d6, d7, d8⟩ := HC.out.cells
  cases b3
  · go_wp2_with fail
    go_ret
    exact ⟨by rw [HR.out]; first | rfl | simp, HC.out.below⟩
  go_wp2_with fail
  go_at_call 80
  refine (HN1.out _).mono ?_
  rintro x w' ⟨rfl, hb⟩
  have HC := Lib.hid (HC.out.keep hb)
  clear hb c0 c1 c2 d0 d1 d2 d3 d4 d5 d6 d7 d8
  obtain ⟨c0, c1, c2, d0, d1, d2, d3, d4, d5, d6, d7, d8⟩ := HC.out.cells
  cases b4
  · go_wp2_with fail
    go_ret
    exact ⟨by rw [HR.out]; first | rfl | simp, HC.out.below⟩
  go_wp2_with fail
  go_at_call 80
  refine (HN2.out _).mono ?_
  rintro x w' ⟨rfl, hb⟩
  have HC := Lib.hid (HC.out.keep hb)
  clear hb c0 c1 c2 d0 d1 d2 d3 d4 d5 d6 d7 d8
  obtain ⟨c0, c1, c2, d0, d1, d2, d3, d4, d5, d6, d7, d8⟩ := HC.out.cells
  cases b5
  · go_wp2_with fail
    go_ret
    exact ⟨by rw [HR.out]; first | rfl | simp, HC.out.below⟩
  have h6 := H6.out
  clear H6
  cases b6
  · go_wp2_with fail
    go_at_call 80
    refine (HN3.out _).mono ?_
    rintro x w' ⟨rfl, hb⟩
    have HC := Lib.hid (HC.out.keep hb)
    clear hb c0 c1 c2 d0 d1 d2 d3 d4 d5 d6 d7 d8
    obtain ⟨c0, c1, c2, d0, d1, d2, d3, d4, d5, d6, d7, d8⟩ := HC.out.cells
    cases b7
    · go_wp2_with fail
      go_ret
      exact ⟨by rw [HR.out]; first | rfl | simp, HC.out.below⟩
    rcases hE with ⟨rfl, rfl⟩ | ⟨rfl, n, rfl⟩
    all_goals
      go_wp2_with fail
      go_ret
      exact ⟨by rw [HR.out]; first | rfl | simp, HC.out.below⟩
  · rcases hE with ⟨rfl, rfl⟩ | ⟨rfl, n, rfl⟩
    all_goals
      go_wp2_with fail
      go_ret
      exact ⟨by rw [HR.out]; first | rfl | simp, HC.out.below⟩
end Go.Proofs.YtdogilbnbbeljaaGreatDoor
