/-
  EventWrites: the walk.
-/
import Derived.Test.YtklpmoimckblcaaGreatDoorRefWriteEv2
import Derived.Test.YtklpmoimckblcaaGreatDoorTell
namespace Go.Proofs.YtklpmoimckblcaaGreatDoor
open Go.RowKit Go.Sort

/-- the packages' variables -/
structure TE (W w : World) : Prop where
  wb : WB W w
  et : ErrType w
theorem TE.keep {W w w' : World} (h : TE W w) (hb : Below w.heap.size w w') : TE W w' := ⟨h.wb.keep hb, h.et.below hb h.et.lt⟩
theorem TE.self {W w : World} (h : TE W w) : TE w w := ⟨h.wb.self, h.et⟩
/-- with the event's block -/
structure TV (W : World) (e : Ev) (w : World) : Prop where
  te : TE W w
  ev : Blk w W.heap.size 25 (evCs e)
theorem TV.keep {W w w' : World} {e : Ev} (h : TV W e w) (hb : Below w.heap.size w w') : TV W e w' := ⟨h.te.keep hb, h.ev.below' hb⟩
theorem TV.start {W : World} (h : TE W W) (e : Ev) : TV W e (W.alloc (.cells (evCs e) 25)) := ⟨h.keep ((Below.refl _ _).alloc (Nat.le_refl _) _), Blk.new W _ _⟩

/-- the sizes of a family's texts -/
def Fam.len (f : Fam) : Nat := f.client.size + f.subject.size + f.scope.size + f.request.size
theorem Fam.short_of {f : Fam} {n : Nat} (h : f.len ≤ n) : f.short n := by
  unfold Fam.len at h
  exact ⟨by omega, by omega, by omega, by omega⟩

theorem law_short (e : Ev) (W : World) (hs : e.fam.len ≤ 1000000000000000) :
    Calls Tryz.prog 6 #[evVal e] W fun x w' => x = .returned (.bool (decide (e.fam.len ≤ 300))) ∧ Below W.heap.size W w' := by
  obtain ⟨k, ⟨i, cl, su, sc, ge, ma, us, re, de⟩, id, ti⟩ := e
  unfold Fam.len at *
  unfold evVal evCs
  dsimp only at *
  by_cases hl : cl.size + su.size + sc.size + re.size ≤ 300
  · have hd : decide (cl.size + su.size + sc.size + re.size ≤ 300) = true := by simpa using hl
    rw [hd]
    clear hd
    go_enter Tryz.func6, Tryz.ntmps6
    go_wp2_with fail
    go_ret
    refine ⟨?_, alloc2 _ _ _⟩
    show Ending.returned (Value.bool _) = _
    congr 2
    simp
    omega
  · have hd : decide (cl.size + su.size + sc.size + re.size ≤ 300) = false := by simpa using hl
    rw [hd]
    clear hd
    go_enter Tryz.func6, Tryz.ntmps6
    go_wp2_with fail
    go_ret
    refine ⟨?_, alloc2 _ _ _⟩
    show Ending.returned (Value.bool _) = _
    congr 2
    simp
    omega
theorem law_happens (e : Ev) (W : World) : Calls Tryz.prog 8 #[evVal e] W fun x w' => x = .returned (evVal e) ∧ Below W.heap.size W w' := by
  obtain ⟨k, ⟨i, cl, su, sc, ge, ma, us, re, de⟩, id, ti⟩ := e
  unfold evVal evCs
  dsimp only
  go_enter Tryz.func8, Tryz.ntmps8
  go_wp2_with fail
  (try simp only [Exit.inBlock, Exit.then])
  refine bodyPost_ret (results_cell_row rfl _ _ (W.heap.size + 1) 30 _ (0, 0) _ (by rfl) (heap_alloc2_new W _ _) Tryz.underlying30 rfl (by kernel_rfl)) rfl ?_
  exact ⟨rfl, alloc2 _ _ _⟩
theorem law_ev (e : Ev) (hs : e.fam.short 1000) : ∃ (s : ByteArray) (n : Int),
    (∀ w, WB w w → Calls Tryz.prog 9 #[evVal e] w fun x w' => x = .returned (.tuple #[.string s, errV n]) ∧ Below w.heap.size w w') ∧
    (∀ w, WB w w → Calls Tryz.prog 7 #[evVal e] w fun x w' => x = .returned (.tuple #[.string s, .int .i64 n]) ∧ Below w.heap.size w w') := by
  cases h : evB e
  · exact ⟨⟨#[]⟩, 1, fun w hw => write_no e w hs hw h, fun w hw => refw_no e w hs hw h⟩
  · exact ⟨txt (evL e), 0, fun w hw => ev_write_yes e w hs hw h, fun w hw => refw_yes e w hs hw h⟩

set_option maxHeartbeats 4000000 in
theorem eventWrites_long (e : Ev) (name : ByteArray) (W : World) (hs : e.fam.len ≤ 1000000000000000) (hn : name.size ≤ 1000000000000000) (hl : 300 < e.fam.len ∨ 60 < name.size) :
    Calls Tryz.prog 3 #[evVal e, .string name] W fun x w' => x = .returned (.bool true) ∧ Below W.heap.size W w' := by
  have HS := Lib.hid (fun w => law_short e w hs)
  obtain ⟨b, hb⟩ : ∃ b, decide (e.fam.len ≤ 300) = b := ⟨_, rfl⟩
  rw [hb] at HS
  have hor : b = false ∨ 60 < name.size := by
    rcases hl with h | h
    · left; rw [← hb]; simp; omega
    · exact .inr h
  clear hl hb hs
  obtain ⟨k, ⟨i, cl, su, sc, ge, ma, us, re, de⟩, id, ti⟩ := e
  unfold evVal evCs at *
  dsimp only at *
  cases b
  · go_enter Tryz.func3, Tryz.ntmps3
    go_wp2_with (go_at_call 6; refine (HS.out _).mono ?_; rintro x w1 ⟨rfl, hb⟩; have HB := Lib.hid (below_2 ((Below.refl W.heap.size W).alloc (Nat.le_refl _) _) hb); clear hb)
    go_ret
    exact ⟨rfl, HB.out⟩
  · have hl : 60 < name.size := hor.resolve_left (by simp)
    clear hor
    go_enter Tryz.func3, Tryz.ntmps3
    go_wp2_with (go_at_call 6; refine (HS.out _).mono ?_; rintro x w1 ⟨rfl, hb⟩; have HB := Lib.hid (below_2 ((Below.refl W.heap.size W).alloc (Nat.le_refl _) _) hb); clear hb)
    go_ret
    exact ⟨rfl, HB.out⟩

set_option maxHeartbeats 4000000 in
theorem eventWrites_walk (e : Ev) (name : ByteArray) (W : World) (hl : e.fam.len ≤ 300) (hn : name.size ≤ 60) (h : TE W W) :
    Calls Tryz.prog 3 #[evVal e, .string name] W fun x w' => x = .returned (.bool true) ∧ Below W.heap.size W w' := by
  have HS := Lib.hid (fun w => law_short e w (by omega))
  rw [show decide (e.fam.len ≤ 300) = true by simpa using hl] at HS
  obtain ⟨s, n, h1, h2⟩ := law_ev e (Fam.short_of (by omega))
  have H1 := Lib.hid h1
  have H2 := Lib.hid h2
  have HH := Lib.hid (fun w => law_happens e w)
  have HN1 := Lib.hid (fun w => ev_name name w (by omega))
  have HN2 := Lib.hid (fun w => ref_name name w (by omega))
  have H0 := Lib.hid (TV.start h e)
  have HBA := Lib.hid (fun w (hg : ErrType w) => bare_any n n w hg)
  rw [show (n == n) = true by simp] at HBA
  clear h h1 h2 hl
  generalize nameB name.data.toList = nb at *
  obtain ⟨k, ⟨i, cl, su, sc, ge, ma, us, re, de⟩, id, ti⟩ := e
  unfold evVal evCs at *
  dsimp only at *
  go_enter Tryz.func3, Tryz.ntmps3
  go_wp2_with fail
  go_at_call 6
  refine (HS.out _).mono ?_
  rintro x w1 ⟨rfl, hb⟩
  have H3 := Lib.hid (H0.out.keep hb)
  clear hb
  obtain ⟨c0, c1, c2, c3, c4, c5, c6, c7, c8, c9, c10, c11⟩ := ev_cells H3.out.ev
  go_wp2_with fail
  go_at_call 8
  refine (HH.out _).mono ?_
  rintro x w2 ⟨rfl, hb⟩
  have H4 := Lib.hid (H3.out.keep hb)
  clear hb c0 c1 c2 c3 c4 c5 c6 c7 c8 c9 c10 c11
  go_wp2_with fail
  go_at_call 7
  refine (H2.out _ H4.out.te.wb.self).mono ?_
  rintro x w3 ⟨rfl, hb⟩
  have H5 := Lib.hid (H4.out.keep hb)
  clear hb
  obtain ⟨c0, c1, c2, c3, c4, c5, c6, c7, c8, c9, c10, c11⟩ := ev_cells H5.out.ev
  go_wp2_with fail
  go_at_call 9
  refine (H1.out _ H5.out.te.wb.self).mono ?_
  rintro x w4 ⟨rfl, hb⟩
  have H6 := Lib.hid (H5.out.keep hb)
  clear hb c0 c1 c2 c3 c4 c5 c6 c7 c8 c9 c10 c11
  go_wp2_with fail
  go_at_call 10
  refine (HBA.out _ H6.out.te.et).mono ?_
  rintro x w5 ⟨rfl, hb⟩
  have H7 := Lib.hid (H6.out.keep hb)
  clear hb
  go_wp2_with fail
  go_at_call 11
  refine (HN1.out _).mono ?_
  rintro x w6 ⟨rfl, hb⟩
  have H8 := Lib.hid (H7.out.keep hb)
  clear hb
  go_wp2_with fail
  go_at_call 12
  refine (HN2.out _).mono ?_
  rintro x w7 ⟨rfl, rfl⟩
  go_wp2_with fail
  go_ret
  exact ⟨by simp, H8.out.te.wb.below⟩
theorem eventWrites_all (e : Ev) (name : ByteArray) (W : World) (hl : e.fam.len ≤ 1000000000000000) (hn : name.size ≤ 1000000000000000) (h : TE W W) :
    Calls Tryz.prog 3 #[evVal e, .string name] W fun x w' => x = .returned (.bool true) ∧ Below W.heap.size W w' := by
  by_cases h1 : 300 < e.fam.len ∨ 60 < name.size
  · exact eventWrites_long e name W hl hn h1
  · exact eventWrites_walk e name W (by omega) (by omega) h
end Go.Proofs.YtklpmoimckblcaaGreatDoor
