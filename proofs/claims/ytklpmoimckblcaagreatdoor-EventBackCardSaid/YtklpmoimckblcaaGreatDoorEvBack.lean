/-
  EventBack: the walk.
-/
import Derived.Test.YtklpmoimckblcaaGreatDoorEvTold
import Derived.Test.YtklpmoimckblcaaGreatDoorEvReadN
import Derived.Test.YtklpmoimckblcaaGreatDoorPlainSame
import Derived.Test.YtklpmoimckblcaaGreatDoorEvBackPure
import Derived.Deep.RegionHeld3
namespace Go.Proofs.YtklpmoimckblcaaGreatDoor
open Go.RowKit Go.Sort

theorem fams_apply_ok {s : St} {e : Ev} (h : StOk s) (hn : s.fams.length ≤ 60) (he : evB e = true) : StOk (applyS s e) := by
  refine ⟨applyS_asc h.asc e, applyS_ids h.ids ?_, ?_⟩
  · intro hk
    rcases evB_kind he with ⟨_, _, _, hf⟩ | ⟨h1, _⟩ | ⟨h1, _⟩
    · exact (famB_parts hf).1
    · omega
    · omega
  · have := applyS_len s e
    omega
/-- two events that came in, and the packages' variables -/
structure EB (W : World) (e f : Ev) (w : World) : Prop where
  wb : WB W w
  errs : ErrVars w
  b1 : Blk w W.heap.size 25 (evCs e)
  b2 : Blk w (W.heap.size + 1) 25 (evCs f)
section
variable {W w w' : World} {e f : Ev}
theorem EB.keep (h : EB W e f w) (hb : Below w.heap.size w w') : EB W e f w' := ⟨h.wb.keep hb, h.errs.below' hb, h.b1.below' hb, h.b2.below' hb⟩
theorem EB.self (h : EB W e f w) : WB w w := h.wb.self
theorem EB.below (h : EB W e f w) : Below W.heap.size W w := h.wb.below
theorem EB.start (h : WB W W) (he : ErrVars W) : EB W e f ((W.alloc (.cells (evCs e) 25)).alloc (.cells (evCs f) 25)) := by
  have hb := alloc2 W (.cells (evCs e) 25) (.cells (evCs f) 25)
  refine ⟨h.keep hb, he.below' hb, (Blk.new W _ _).alloc _, ?_⟩
  have := Blk.new (W.alloc (.cells (evCs e) 25)) 25 (evCs f)
  rw [show (W.alloc (.cells (evCs e) 25)).heap.size = W.heap.size + 1 by simp] at this
  exact this
end
theorem ev_self (e : Ev) : ∀ w : World, (binOp .neq 25 (evVal e) (evVal e)).run Tryz.prog w = .ok (.bool false) w := by
  intro w
  obtain ⟨k, ⟨i, cl, su, sc, ge, ma, us, re, de⟩, id, ti⟩ := e
  unfold evVal evCs
  go_simp
theorem ev_ids {e : Ev} (h : evB e = true) : 0 ≤ e.fam.id ∧ e.fam.id ≤ 1099511627776 ∧ 0 ≤ e.id ∧ e.id ≤ 1099511627776 := by
  rcases evB_kind h with ⟨_, h0, _, hf⟩ | ⟨_, hz, _, hn⟩ | ⟨_, hz, h0, _⟩
  · have := okN_iff.1 (famB_parts hf).1
    omega
  · have h1 := okN_iff.1 hn
    have h2 : e.fam.id = 0 := by rw [hz]; rfl
    omega
  · have h2 : e.fam.id = 0 := by rw [hz]; rfl
    omega
theorem st0_ok : StOk ⟨0, 1, []⟩ := ⟨List.Pairwise.nil, fun f hf => by simp at hf, Nat.zero_le _⟩
theorem apply_as {s : St} {e : Ev} {v : Value} {w : World} {B : Nat} (h : FRow w B v s.fams) (hok : StOk s) (he : evB e = true) :
    Calls Tryz.prog 17 #[stVal s v, evVal e] w (GotAs w (applyS s e).clock (applyS s e).next (applyS s e).fams) :=
  (ev_apply B v s e w h hok (okN_one he) (okN_two he)).mono fun _ _ h => got_as h
/-- with the state's block -/
structure EC (W : World) (g : Nat) (e f : Ev) (w : World) : Prop where
  eb : EB W e f w
  b3 : Blk w g 46 #[.int .i64 0, .int .i64 1, .slice none 0 0]
theorem EC.keep {W w w' : World} {g : Nat} {e f : Ev} (h : EC W g e f w) (hb : Below w.heap.size w w') : EC W g e f w' := ⟨h.eb.keep hb, h.b3.below' hb⟩
theorem EC.drew {W w : World} {g : Nat} {e f : Ev} (h : EC W g e f w) : EC W g e f w.drew := ⟨⟨h.eb.wb.drew, h.eb.errs, h.eb.b1, h.eb.b2⟩, h.b3⟩
theorem EC.all {W w : World} {g : Nat} {e f : Ev} (h : EC W g e f w) : EC W g e f w ∧ w.cell? ⟨W.heap.size, 0, none⟩ = some (.int .i64 e.kind) ∧ w.cell? ⟨W.heap.size, 1, none⟩ = some (.int .i64 e.fam.id) ∧ w.cell? ⟨W.heap.size, 2, none⟩ = some (.string e.fam.client) ∧ w.cell? ⟨W.heap.size, 3, none⟩ = some (.string e.fam.subject) ∧ w.cell? ⟨W.heap.size, 4, none⟩ = some (.string e.fam.scope) ∧ w.cell? ⟨W.heap.size, 5, none⟩ = some (.int .i64 e.fam.gen) ∧ w.cell? ⟨W.heap.size, 6, none⟩ = some (.int .i64 e.fam.made) ∧ w.cell? ⟨W.heap.size, 7, none⟩ = some (.int .i64 e.fam.used) ∧ w.cell? ⟨W.heap.size, 8, none⟩ = some (.string e.fam.request) ∧ w.cell? ⟨W.heap.size, 9, none⟩ = some (.bool e.fam.dead) ∧ w.cell? ⟨W.heap.size, 10, none⟩ = some (.int .i64 e.id) ∧ w.cell? ⟨W.heap.size, 11, none⟩ = some (.int .i64 e.time) ∧ w.cell? ⟨W.heap.size + 1, 0, none⟩ = some (.int .i64 f.kind) ∧ w.cell? ⟨W.heap.size + 1, 1, none⟩ = some (.int .i64 f.fam.id) ∧ w.cell? ⟨W.heap.size + 1, 2, none⟩ = some (.string f.fam.client) ∧ w.cell? ⟨W.heap.size + 1, 3, none⟩ = some (.string f.fam.subject) ∧ w.cell? ⟨W.heap.size + 1, 4, none⟩ = some (.string f.fam.scope) ∧ w.cell? ⟨W.heap.size + 1, 5, none⟩ = some (.int .i64 f.fam.gen) ∧ w.cell? ⟨W.heap.size + 1, 6, none⟩ = some (.int .i64 f.fam.made) ∧ w.cell? ⟨W.heap.size + 1, 7, none⟩ = some (.int .i64 f.fam.used) ∧ w.cell? ⟨W.heap.size + 1, 8, none⟩ = some (.string f.fam.request) ∧ w.cell? ⟨W.heap.size + 1, 9, none⟩ = some (.bool f.fam.dead) ∧ w.cell? ⟨W.heap.size + 1, 10, none⟩ = some (.int .i64 f.id) ∧ w.cell? ⟨W.heap.size + 1, 11, none⟩ = some (.int .i64 f.time) ∧ w.cell? ⟨g, 0, none⟩ = some (.int .i64 0) ∧ w.cell? ⟨g, 1, none⟩ = some (.int .i64 1) ∧ w.cell? ⟨g, 2, none⟩ = some (.slice none 0 0) :=
  ⟨h, h.eb.b1.cell 0, h.eb.b1.cell 1, h.eb.b1.cell 2, h.eb.b1.cell 3, h.eb.b1.cell 4, h.eb.b1.cell 5, h.eb.b1.cell 6, h.eb.b1.cell 7, h.eb.b1.cell 8, h.eb.b1.cell 9, h.eb.b1.cell 10, h.eb.b1.cell 11, h.eb.b2.cell 0, h.eb.b2.cell 1, h.eb.b2.cell 2, h.eb.b2.cell 3, h.eb.b2.cell 4, h.eb.b2.cell 5, h.eb.b2.cell 6, h.eb.b2.cell 7, h.eb.b2.cell 8, h.eb.b2.cell 9, h.eb.b2.cell 10, h.eb.b2.cell 11, h.b3.cell 0, h.b3.cell 1, h.b3.cell 2⟩
def backLen (e f : Ev) : Nat := e.fam.client.size + e.fam.subject.size + e.fam.scope.size + e.fam.request.size + f.fam.client.size + f.fam.subject.size + f.fam.scope.size + f.fam.request.size
theorem back_short {e f : Ev} (h : backLen e f ≤ 600) : e.fam.short 1000 ∧ f.fam.short 1000 := by
  unfold backLen at h
  exact ⟨⟨by omega, by omega, by omega, by omega⟩, ⟨by omega, by omega, by omega, by omega⟩⟩

set_option maxHeartbeats 8000000 in
set_option maxRecDepth 100000 in
theorem back_long (e f : Ev) (W : World) (h : 600 < backLen e f) (hl : backLen e f ≤ 2000000000000000) :
    Calls Tryz.prog 5 #[evVal e, evVal f] W fun x w' => x = .returned (.bool true) ∧ Below W.heap.size W w' := by
  obtain ⟨k, ⟨i, cl, su, sc, ge, ma, us, re, de⟩, id, ti⟩ := e
  obtain ⟨k', ⟨i', cl', su', sc', ge', ma', us', re', de'⟩, id', ti'⟩ := f
  unfold backLen at h hl
  dsimp only at h hl
  unfold evVal evCs
  dsimp only
  go_enter Tryz.func5, Tryz.ntmps5
  go_wp2_with fail
  go_ret
  exact ⟨rfl, alloc2 _ _ _⟩

set_option maxHeartbeats 8000000 in
set_option maxRecDepth 100000 in
theorem back_no (e f : Ev) (W : World) (h : WB W W) (he : ErrVars W) (hl : backLen e f ≤ 600) (hn : evB e = false) :
    Calls Tryz.prog 5 #[evVal e, evVal f] W fun x w' => x = .returned (.bool true) ∧ Below W.heap.size W w' := by
  obtain ⟨hs1, hs2⟩ := back_short hl
  have H0 := Lib.hid (EB.start (e := e) (f := f) h he)
  have HT := Lib.hid (fun w (hw : WB w w) => ev_told w hw)
  clear h he
  have HW := Lib.hid (fun w (hw : WB w w) => write_no e w hs1 hw hn)
  clear hn hs1 hs2
  obtain ⟨k, ⟨i, cl, su, sc, ge, ma, us, re, de⟩, id, ti⟩ := e
  obtain ⟨k', ⟨i', cl', su', sc', ge', ma', us', re', de'⟩, id', ti'⟩ := f
  unfold backLen at hl
  dsimp only at hl
  unfold evVal at HW ⊢
  unfold evCs at HW H0 ⊢
  dsimp only at HW H0 ⊢
  go_enter Tryz.func5, Tryz.ntmps5
  go_wp2_with fail
  go_at_call 15
  refine (HT.out _ H0.out.self).mono ?_
  rintro x w1 ⟨rfl, hb⟩
  have H1 := Lib.hid (H0.out.keep hb)
  clear hb HT H0
  obtain ⟨c0, c1, c2, c3, c4, c5, c6, c7, c8, c9, c10, c11⟩ := ev_cells H1.out.b1
  go_wp2_with fail
  go_at_call 9
  refine (HW.out _ H1.out.self).mono ?_
  rintro x w2 ⟨rfl, hb⟩
  have H2 := Lib.hid (H1.out.keep hb)
  clear hb HW H1 c0 c1 c2 c3 c4 c5 c6 c7 c8 c9 c10 c11
  go_wp2_with fail
  go_ret
  exact ⟨rfl, H2.out.below⟩

set_option maxHeartbeats 8000000 in
set_option maxRecDepth 100000 in
theorem back_one (e f : Ev) (W : World) (h : WB W W) (he : ErrVars W) (hl : backLen e f ≤ 600) (hy : evB e = true) (hn : evB f = false) :
    Calls Tryz.prog 5 #[evVal e, evVal f] W fun x w' => x = .returned (.bool true) ∧ Below W.heap.size W w' := by
  obtain ⟨hs1, hs2⟩ := back_short hl
  have H0 := Lib.hid (EB.start (e := e) (f := f) h he)
  have HT := Lib.hid (fun w (hw : WB w w) => ev_told w hw)
  clear h he
  have HW := Lib.hid (fun w (hw : WB w w) => ev_write_yes e w hs1 hw hy)
  have hln : (txt (evL e)).size ≤ 180 := by have := evL_len hy; rw [← size_data]; simpa [txt] using this
  have HR := Lib.hid (fun w (hw : WB w w) he => ev_read (txt (evL e)) w (by omega) hw he)
  have hdt : (txt (evL e)).data.toList = evL e := data_txt _
  rw [hdt, (evL_back hy).1, (evL_back hy).2] at HR
  unfold ReadGot at HR
  rw [if_pos rfl, show errV 0 = .nilIface from rfl] at HR
  have HS := Lib.hid (ev_self e)
  generalize txt (evL e) = x at *
  have HV := Lib.hid (fun w (hw : WB w w) => write_no f w hs2 hw hn)
  clear hn hy hs1 hs2
  obtain ⟨k, ⟨i, cl, su, sc, ge, ma, us, re, de⟩, id, ti⟩ := e
  obtain ⟨k', ⟨i', cl', su', sc', ge', ma', us', re', de'⟩, id', ti'⟩ := f
  unfold backLen at hl
  dsimp only at hl
  unfold evVal at HW HR HS HV ⊢
  unfold evCs at HW HR HS HV H0 ⊢
  dsimp only at HW HR HS HV H0 ⊢
  go_enter Tryz.func5, Tryz.ntmps5
  go_wp2_with fail
  go_at_call 15
  refine (HT.out _ H0.out.self).mono ?_
  rintro x w1 ⟨rfl, hb⟩
  have H1 := Lib.hid (H0.out.keep hb)
  clear hb HT H0
  obtain ⟨c0, c1, c2, c3, c4, c5, c6, c7, c8, c9, c10, c11⟩ := ev_cells H1.out.b1
  go_wp2_with fail
  go_at_call 9
  refine (HW.out _ H1.out.self).mono ?_
  rintro x w2 ⟨rfl, hb⟩
  have H2 := Lib.hid (H1.out.keep hb)
  clear hb HW H1 c0 c1 c2 c3 c4 c5 c6 c7 c8 c9 c10 c11
  go_wp2_with fail
  go_at_call 14
  refine (HR.out _ H2.out.self H2.out.errs).mono ?_
  rintro x' w3 ⟨rfl, hb⟩
  have H3 := Lib.hid (H2.out.keep hb)
  clear hb HR H2
  obtain ⟨c0, c1, c2, c3, c4, c5, c6, c7, c8, c9, c10, c11⟩ := ev_cells H3.out.b1
  obtain ⟨d0, d1, d2, d3, d4, d5, d6, d7, d8, d9, d10, d11⟩ := ev_cells H3.out.b2
  have l1 := H3.out.b1.lt
  have l2 := H3.out.b2.lt
  have hs := HS.out
  have H4 := Lib.hid (H3.out.keep ((Below.refl _ _).alloc (Nat.le_refl _) (.cells (evCs ⟨k, ⟨i, cl, su, sc, ge, ma, us, re, de⟩, id, ti⟩) 25)))
  unfold evCs at H4
  dsimp only at H4
  go_wp2_with fail
  go_at_call 9
  refine (HV.out _ H4.out.self).mono ?_
  rintro x' w5 ⟨rfl, hb⟩
  have H5 := Lib.hid (H4.out.keep hb)
  clear hb HV H4 H3
  go_wp2_with fail
  go_ret
  exact ⟨rfl, H5.out.below⟩

set_option maxHeartbeats 8000000 in
set_option maxRecDepth 100000 in
theorem back_three (e f : Ev) (W : World) (h : WB W W) (he : ErrVars W) (hl : backLen e f ≤ 600) (hy : evB e = true) (hz : evB f = true) (hk : e.kind = 3) :
    Calls Tryz.prog 5 #[evVal e, evVal f] W fun x w' => x = .returned (.bool true) ∧ Below W.heap.size W w' := by
  obtain ⟨hs1, hs2⟩ := back_short hl
  have H0 := Lib.hid (EB.start (e := e) (f := f) h he)
  have HT := Lib.hid (fun w (hw : WB w w) => ev_told w hw)
  clear h he
  have HW := Lib.hid (fun w (hw : WB w w) => ev_write_yes e w hs1 hw hy)
  have hln : (txt (evL e)).size ≤ 180 := by have := evL_len hy; rw [← size_data]; simpa [txt] using this
  have HR := Lib.hid (fun w (hw : WB w w) he => ev_read (txt (evL e)) w (by omega) hw he)
  have hdt : (txt (evL e)).data.toList = evL e := data_txt _
  rw [hdt, (evL_back hy).1, (evL_back hy).2] at HR
  unfold ReadGot at HR
  rw [if_pos rfl, show errV 0 = .nilIface from rfl] at HR
  have HS := Lib.hid (ev_self e)
  generalize txt (evL e) = x at *
  have HV := Lib.hid (fun w (hw : WB w w) => ev_write_yes f w hs2 hw hz)
  obtain ⟨n1, n2, n3, n4⟩ := ev_ids hy
  obtain ⟨n5, n6, n7, n8⟩ := ev_ids hz
  generalize txt (evL f) = xf at *
  clear hy hz hs1 hs2
  obtain ⟨k, ⟨i, cl, su, sc, ge, ma, us, re, de⟩, id, ti⟩ := e
  obtain ⟨k', ⟨i', cl', su', sc', ge', ma', us', re', de'⟩, id', ti'⟩ := f
  unfold backLen at hl
  dsimp only at hl n1 n2 n3 n4 n5 n6 n7 n8 hk
  subst hk
  unfold evVal at HW HR HS HV ⊢
  unfold evCs at HW HR HS HV H0 ⊢
  dsimp only at HW HR HS HV H0 ⊢
  go_enter Tryz.func5, Tryz.ntmps5
  go_wp2_with fail
  go_at_call 15
  refine (HT.out _ H0.out.self).mono ?_
  rintro x w1 ⟨rfl, hb⟩
  have H1 := Lib.hid (H0.out.keep hb)
  clear hb HT H0
  obtain ⟨c0, c1, c2, c3, c4, c5, c6, c7, c8, c9, c10, c11⟩ := ev_cells H1.out.b1
  go_wp2_with fail
  go_at_call 9
  refine (HW.out _ H1.out.self).mono ?_
  rintro x w2 ⟨rfl, hb⟩
  have H2 := Lib.hid (H1.out.keep hb)
  clear hb HW H1 c0 c1 c2 c3 c4 c5 c6 c7 c8 c9 c10 c11
  go_wp2_with fail
  go_at_call 14
  refine (HR.out _ H2.out.self H2.out.errs).mono ?_
  rintro x' w3 ⟨rfl, hb⟩
  have H3 := Lib.hid (H2.out.keep hb)
  clear hb HR H2
  obtain ⟨c0, c1, c2, c3, c4, c5, c6, c7, c8, c9, c10, c11⟩ := ev_cells H3.out.b1
  obtain ⟨d0, d1, d2, d3, d4, d5, d6, d7, d8, d9, d10, d11⟩ := ev_cells H3.out.b2
  have l1 := H3.out.b1.lt
  have l2 := H3.out.b2.lt
  have hs := HS.out
  have H4 := Lib.hid (H3.out.keep ((Below.refl _ _).alloc (Nat.le_refl _) (.cells (evCs ⟨3, ⟨i, cl, su, sc, ge, ma, us, re, de⟩, id, ti⟩) 25)))
  unfold evCs at H4
  dsimp only at H4
  go_wp2_with fail
  go_at_call 9
  refine (HV.out _ H4.out.self).mono ?_
  rintro x' w5 ⟨rfl, hb⟩
  have H5 := Lib.hid (H4.out.keep hb)
  clear hb HV H4 H3 c0 c1 c2 c3 c4 c5 c6 c7 c8 c9 c10 c11 d0 d1 d2 d3 d4 d5 d6 d7 d8 d9 d10 d11 l1 l2
  obtain ⟨c0, c1, c2, c3, c4, c5, c6, c7, c8, c9, c10, c11⟩ := ev_cells H5.out.b1
  obtain ⟨d0, d1, d2, d3, d4, d5, d6, d7, d8, d9, d10, d11⟩ := ev_cells H5.out.b2
  go_wp2_with fail
  go_ret
  exact ⟨rfl, H5.out.below⟩

set_option maxHeartbeats 8000000 in
set_option maxRecDepth 100000 in
theorem back_drei (e f : Ev) (W : World) (h : WB W W) (he : ErrVars W) (hl : backLen e f ≤ 600) (hy : evB e = true) (hz : evB f = true) (h3 : ¬ e.kind = 3) (hk : f.kind = 3) :
    Calls Tryz.prog 5 #[evVal e, evVal f] W fun x w' => x = .returned (.bool true) ∧ Below W.heap.size W w' := by
  obtain ⟨hs1, hs2⟩ := back_short hl
  have H0 := Lib.hid (EB.start (e := e) (f := f) h he)
  have HT := Lib.hid (fun w (hw : WB w w) => ev_told w hw)
  clear h he
  have HW := Lib.hid (fun w (hw : WB w w) => ev_write_yes e w hs1 hw hy)
  have hln : (txt (evL e)).size ≤ 180 := by have := evL_len hy; rw [← size_data]; simpa [txt] using this
  have HR := Lib.hid (fun w (hw : WB w w) he => ev_read (txt (evL e)) w (by omega) hw he)
  have hdt : (txt (evL e)).data.toList = evL e := data_txt _
  rw [hdt, (evL_back hy).1, (evL_back hy).2] at HR
  unfold ReadGot at HR
  rw [if_pos rfl, show errV 0 = .nilIface from rfl] at HR
  have HS := Lib.hid (ev_self e)
  generalize txt (evL e) = x at *
  have HV := Lib.hid (fun w (hw : WB w w) => ev_write_yes f w hs2 hw hz)
  obtain ⟨n1, n2, n3, n4⟩ := ev_ids hy
  obtain ⟨n5, n6, n7, n8⟩ := ev_ids hz
  generalize txt (evL f) = xf at *
  clear hy hz hs1 hs2
  obtain ⟨k, ⟨i, cl, su, sc, ge, ma, us, re, de⟩, id, ti⟩ := e
  obtain ⟨k', ⟨i', cl', su', sc', ge', ma', us', re', de'⟩, id', ti'⟩ := f
  unfold backLen at hl
  dsimp only at hl n1 n2 n3 n4 n5 n6 n7 n8 h3 hk
  subst hk
  unfold evVal at HW HR HS HV ⊢
  unfold evCs at HW HR HS HV H0 ⊢
  dsimp only at HW HR HS HV H0 ⊢
  go_enter Tryz.func5, Tryz.ntmps5
  go_wp2_with fail
  go_at_call 15
  refine (HT.out _ H0.out.self).mono ?_
  rintro x w1 ⟨rfl, hb⟩
  have H1 := Lib.hid (H0.out.keep hb)
  clear hb HT H0
  obtain ⟨c0, c1, c2, c3, c4, c5, c6, c7, c8, c9, c10, c11⟩ := ev_cells H1.out.b1
  go_wp2_with fail
  go_at_call 9
  refine (HW.out _ H1.out.self).mono ?_
  rintro x w2 ⟨rfl, hb⟩
  have H2 := Lib.hid (H1.out.keep hb)
  clear hb HW H1 c0 c1 c2 c3 c4 c5 c6 c7 c8 c9 c10 c11
  go_wp2_with fail
  go_at_call 14
  refine (HR.out _ H2.out.self H2.out.errs).mono ?_
  rintro x' w3 ⟨rfl, hb⟩
  have H3 := Lib.hid (H2.out.keep hb)
  clear hb HR H2
  obtain ⟨c0, c1, c2, c3, c4, c5, c6, c7, c8, c9, c10, c11⟩ := ev_cells H3.out.b1
  obtain ⟨d0, d1, d2, d3, d4, d5, d6, d7, d8, d9, d10, d11⟩ := ev_cells H3.out.b2
  have l1 := H3.out.b1.lt
  have l2 := H3.out.b2.lt
  have hs := HS.out
  have H4 := Lib.hid (H3.out.keep ((Below.refl _ _).alloc (Nat.le_refl _) (.cells (evCs ⟨k, ⟨i, cl, su, sc, ge, ma, us, re, de⟩, id, ti⟩) 25)))
  unfold evCs at H4
  dsimp only at H4
  go_wp2_with fail
  go_at_call 9
  refine (HV.out _ H4.out.self).mono ?_
  rintro x' w5 ⟨rfl, hb⟩
  have H5 := Lib.hid (H4.out.keep hb)
  clear hb HV H4 H3 c0 c1 c2 c3 c4 c5 c6 c7 c8 c9 c10 c11 d0 d1 d2 d3 d4 d5 d6 d7 d8 d9 d10 d11 l1 l2
  obtain ⟨c0, c1, c2, c3, c4, c5, c6, c7, c8, c9, c10, c11⟩ := ev_cells H5.out.b1
  obtain ⟨d0, d1, d2, d3, d4, d5, d6, d7, d8, d9, d10, d11⟩ := ev_cells H5.out.b2
  go_wp2_with fail
  go_ret
  exact ⟨rfl, H5.out.below⟩

set_option maxHeartbeats 8000000 in
set_option maxRecDepth 100000 in
theorem back_alike (e f : Ev) (W : World) (h : WB W W) (he : ErrVars W) (hl : backLen e f ≤ 600) (hy : evB e = true) (hz : evB f = true) (h3 : ¬ e.kind = 3) (h4 : ¬ f.kind = 3) (hid : e.fam.id + e.id = f.fam.id + f.id) :
    Calls Tryz.prog 5 #[evVal e, evVal f] W fun x w' => x = .returned (.bool true) ∧ Below W.heap.size W w' := by
  obtain ⟨hs1, hs2⟩ := back_short hl
  have H0 := Lib.hid (EB.start (e := e) (f := f) h he)
  have HT := Lib.hid (fun w (hw : WB w w) => ev_told w hw)
  clear h he
  have HW := Lib.hid (fun w (hw : WB w w) => ev_write_yes e w hs1 hw hy)
  have hln : (txt (evL e)).size ≤ 180 := by have := evL_len hy; rw [← size_data]; simpa [txt] using this
  have HR := Lib.hid (fun w (hw : WB w w) he => ev_read (txt (evL e)) w (by omega) hw he)
  have hdt : (txt (evL e)).data.toList = evL e := data_txt _
  rw [hdt, (evL_back hy).1, (evL_back hy).2] at HR
  unfold ReadGot at HR
  rw [if_pos rfl, show errV 0 = .nilIface from rfl] at HR
  have HS := Lib.hid (ev_self e)
  generalize txt (evL e) = x at *
  have HV := Lib.hid (fun w (hw : WB w w) => ev_write_yes f w hs2 hw hz)
  obtain ⟨n1, n2, n3, n4⟩ := ev_ids hy
  obtain ⟨n5, n6, n7, n8⟩ := ev_ids hz
  generalize txt (evL f) = xf at *
  clear hy hz hs1 hs2
  obtain ⟨k, ⟨i, cl, su, sc, ge, ma, us, re, de⟩, id, ti⟩ := e
  obtain ⟨k', ⟨i', cl', su', sc', ge', ma', us', re', de'⟩, id', ti'⟩ := f
  unfold backLen at hl
  dsimp only at hl n1 n2 n3 n4 n5 n6 n7 n8 h3 h4 hid
  have hq : (i + id == i' + id') = true := by rw [hid]; simp
  have hq3 : (k == 3) = false := by simpa using h3
  have hq4 : (k' == 3) = false := by simpa using h4
  clear hid
  unfold evVal at HW HR HS HV ⊢
  unfold evCs at HW HR HS HV H0 ⊢
  dsimp only at HW HR HS HV H0 ⊢
  go_enter Tryz.func5, Tryz.ntmps5
  go_wp2_with fail
  go_at_call 15
  refine (HT.out _ H0.out.self).mono ?_
  rintro x w1 ⟨rfl, hb⟩
  have H1 := Lib.hid (H0.out.keep hb)
  clear hb HT H0
  obtain ⟨c0, c1, c2, c3, c4, c5, c6, c7, c8, c9, c10, c11⟩ := ev_cells H1.out.b1
  go_wp2_with fail
  go_at_call 9
  refine (HW.out _ H1.out.self).mono ?_
  rintro x w2 ⟨rfl, hb⟩
  have H2 := Lib.hid (H1.out.keep hb)
  clear hb HW H1 c0 c1 c2 c3 c4 c5 c6 c7 c8 c9 c10 c11
  go_wp2_with fail
  go_at_call 14
  refine (HR.out _ H2.out.self H2.out.errs).mono ?_
  rintro x' w3 ⟨rfl, hb⟩
  have H3 := Lib.hid (H2.out.keep hb)
  clear hb HR H2
  obtain ⟨c0, c1, c2, c3, c4, c5, c6, c7, c8, c9, c10, c11⟩ := ev_cells H3.out.b1
  obtain ⟨d0, d1, d2, d3, d4, d5, d6, d7, d8, d9, d10, d11⟩ := ev_cells H3.out.b2
  have l1 := H3.out.b1.lt
  have l2 := H3.out.b2.lt
  have hs := HS.out
  have H4 := Lib.hid (H3.out.keep ((Below.refl _ _).alloc (Nat.le_refl _) (.cells (evCs ⟨k, ⟨i, cl, su, sc, ge, ma, us, re, de⟩, id, ti⟩) 25)))
  unfold evCs at H4
  dsimp only at H4
  go_wp2_with fail
  go_at_call 9
  refine (HV.out _ H4.out.self).mono ?_
  rintro x' w5 ⟨rfl, hb⟩
  have H5 := Lib.hid (H4.out.keep hb)
  clear hb HV H4 H3 c0 c1 c2 c3 c4 c5 c6 c7 c8 c9 c10 c11 d0 d1 d2 d3 d4 d5 d6 d7 d8 d9 d10 d11 l1 l2
  obtain ⟨c0, c1, c2, c3, c4, c5, c6, c7, c8, c9, c10, c11⟩ := ev_cells H5.out.b1
  obtain ⟨d0, d1, d2, d3, d4, d5, d6, d7, d8, d9, d10, d11⟩ := ev_cells H5.out.b2
  go_wp2_with fail
  go_ret
  exact ⟨rfl, H5.out.below⟩

set_option maxHeartbeats 8000000 in
set_option maxRecDepth 100000 in
theorem back_two (e f : Ev) (W : World) (h : WB W W) (he : ErrVars W) (hl : backLen e f ≤ 600) (hy : evB e = true) (hz : evB f = true) (h3 : ¬ e.kind = 3) (h4 : ¬ f.kind = 3) (hid : ¬ e.fam.id + e.id = f.fam.id + f.id) :
    Calls Tryz.prog 5 #[evVal e, evVal f] W fun x w' => x = .returned (.bool true) ∧ Below W.heap.size W w' := by
  obtain ⟨hs1, hs2⟩ := back_short hl
  have H0 := Lib.hid (EB.start (e := e) (f := f) h he)
  have HT := Lib.hid (fun w (hw : WB w w) => ev_told w hw)
  clear h he
  have HW := Lib.hid (fun w (hw : WB w w) => ev_write_yes e w hs1 hw hy)
  have hln : (txt (evL e)).size ≤ 180 := by have := evL_len hy; rw [← size_data]; simpa [txt] using this
  have HR := Lib.hid (fun w (hw : WB w w) he => ev_read (txt (evL e)) w (by omega) hw he)
  have hdt : (txt (evL e)).data.toList = evL e := data_txt _
  rw [hdt, (evL_back hy).1, (evL_back hy).2] at HR
  unfold ReadGot at HR
  rw [if_pos rfl, show errV 0 = .nilIface from rfl] at HR
  have HS := Lib.hid (ev_self e)
  generalize txt (evL e) = x at *
  have HV := Lib.hid (fun w (hw : WB w w) => ev_write_yes f w hs2 hw hz)
  obtain ⟨n1, n2, n3, n4⟩ := ev_ids hy
  obtain ⟨n5, n6, n7, n8⟩ := ev_ids hz
  generalize txt (evL f) = xf at *
  have ha := fams_apply_ok st0_ok (Nat.zero_le _) hy
  have hb := fams_apply_ok st0_ok (Nat.zero_le _) hz
  have hla := applyS_len ⟨0, 1, []⟩ e
  have hlb := applyS_len ⟨0, 1, []⟩ f
  simp only [List.length_nil, Nat.zero_add] at hla hlb
  have hlc := applyS_len (applyS ⟨0, 1, []⟩ e) f
  have HA1 := Lib.hid (fun w => apply_as (v := .slice none 0 0) (w := w) (FRow.nil _ 0) st0_ok hy)
  have HA2 := Lib.hid (fun w v hr => apply_as (v := v) (w := w) (B := 0) hr ha hz)
  have HA3 := Lib.hid (fun w => apply_as (v := .slice none 0 0) (w := w) (FRow.nil _ 0) st0_ok hz)
  have HA4 := Lib.hid (fun w v hr => apply_as (v := v) (w := w) (B := 0) hr hb hy)
  rw [← apply_swap hy hz h3 h4 hid] at HA4
  have HSA := Lib.hid (fun (w : World) (u v : Value) (ha : FRow w 0 u (applyS (applyS ⟨0, 1, []⟩ e) f).fams) (hb : FRow w 0 v (applyS (applyS ⟨0, 1, []⟩ e) f).fams) => plain_same _ _ u v _ _ w ha hb (by omega))
  clear hy hz hs1 hs2 ha hb hla hlb hlc
  generalize applyS (applyS ⟨0, 1, []⟩ e) f = s3 at *
  generalize applyS ⟨0, 1, []⟩ e = s1 at *
  generalize applyS ⟨0, 1, []⟩ f = s2 at *
  obtain ⟨ck1, nx1, L1⟩ := s1
  obtain ⟨ck2, nx2, L2⟩ := s2
  obtain ⟨ck3, nx3, L3⟩ := s3
  unfold GotAs stVal stCs at HA1 HA2 HA3 HA4
  unfold stVal stCs SameGot at HSA
  dsimp only at HA1 HA2 HA3 HA4 HSA
  obtain ⟨k, ⟨i, cl, su, sc, ge, ma, us, re, de⟩, id, ti⟩ := e
  obtain ⟨k', ⟨i', cl', su', sc', ge', ma', us', re', de'⟩, id', ti'⟩ := f
  unfold backLen at hl
  dsimp only at hl n1 n2 n3 n4 n5 n6 n7 n8 h3 h4 hid
  have hq : (i + id == i' + id') = false := by simpa using hid
  have hq3 : (k == 3) = false := by simpa using h3
  have hq4 : (k' == 3) = false := by simpa using h4
  clear hid
  unfold evVal at HW HR HS HV HA1 HA2 HA3 HA4 ⊢
  unfold evCs at HW HR HS HV HA1 HA2 HA3 HA4 H0 ⊢
  dsimp only at HW HR HS HV HA1 HA2 HA3 HA4 H0 ⊢
  go_enter Tryz.func5, Tryz.ntmps5
  go_wp2_with fail
  go_at_call 15
  refine (HT.out _ H0.out.self).mono ?_
  rintro x w1 ⟨rfl, hb⟩
  have H1 := Lib.hid (H0.out.keep hb)
  clear hb HT H0
  obtain ⟨c0, c1, c2, c3, c4, c5, c6, c7, c8, c9, c10, c11⟩ := ev_cells H1.out.b1
  go_wp2_with fail
  go_at_call 9
  refine (HW.out _ H1.out.self).mono ?_
  rintro x w2 ⟨rfl, hb⟩
  have H2 := Lib.hid (H1.out.keep hb)
  clear hb HW H1 c0 c1 c2 c3 c4 c5 c6 c7 c8 c9 c10 c11
  go_wp2_with fail
  go_at_call 14
  refine (HR.out _ H2.out.self H2.out.errs).mono ?_
  rintro x' w3 ⟨rfl, hb⟩
  have H3 := Lib.hid (H2.out.keep hb)
  clear hb HR H2
  obtain ⟨c0, c1, c2, c3, c4, c5, c6, c7, c8, c9, c10, c11⟩ := ev_cells H3.out.b1
  obtain ⟨d0, d1, d2, d3, d4, d5, d6, d7, d8, d9, d10, d11⟩ := ev_cells H3.out.b2
  have l1 := H3.out.b1.lt
  have l2 := H3.out.b2.lt
  have hs := HS.out
  have H4 := Lib.hid (H3.out.keep ((Below.refl _ _).alloc (Nat.le_refl _) (.cells (evCs ⟨k, ⟨i, cl, su, sc, ge, ma, us, re, de⟩, id, ti⟩) 25)))
  unfold evCs at H4
  dsimp only at H4
  go_wp2_with fail
  go_at_call 9
  refine (HV.out _ H4.out.self).mono ?_
  rintro x' w5 ⟨rfl, hb⟩
  have H5 := Lib.hid (H4.out.keep hb)
  clear hb HV H4 H3 c0 c1 c2 c3 c4 c5 c6 c7 c8 c9 c10 c11 d0 d1 d2 d3 d4 d5 d6 d7 d8 d9 d10 d11 l1 l2
  obtain ⟨c0, c1, c2, c3, c4, c5, c6, c7, c8, c9, c10, c11⟩ := ev_cells H5.out.b1
  obtain ⟨d0, d1, d2, d3, d4, d5, d6, d7, d8, d9, d10, d11⟩ := ev_cells H5.out.b2
  go_wp2_with fail
  have H6 : Hid (EC W w5.heap.size ⟨k, ⟨i, cl, su, sc, ge, ma, us, re, de⟩, id, ti⟩ ⟨k', ⟨i', cl', su', sc', ge', ma', us', re', de'⟩, id', ti'⟩ (w5.alloc (.cells #[.int .i64 0, .int .i64 1, .slice none 0 0] 46))) := Lib.hid ⟨H5.out.keep ((Below.refl _ _).alloc (Nat.le_refl _) _), Blk.new w5 _ _⟩
  clear H5 c0 c1 c2 c3 c4 c5 c6 c7 c8 c9 c10 c11 d0 d1 d2 d3 d4 d5 d6 d7 d8 d9 d10 d11 hq hq3 hq4 h3 h4 n1 n2 n3 n4 n5 n6 n7 n8
  generalize w5.alloc (.cells #[.int .i64 0, .int .i64 1, .slice none 0 0] 46) = w6 at *
  generalize w5.heap.size = g at *
  have HD := EC.all H6.out.drew
  dsimp only at HD
  go_region_held3 (fun w' => EC W g ⟨k, ⟨i, cl, su, sc, ge, ma, us, re, de⟩, id, ti⟩ ⟨k', ⟨i', cl', su', sc', ge', ma', us', re', de'⟩, id', ti'⟩ w' ∧ w'.cell? ⟨W.heap.size, 0, none⟩ = some (.int .i64 k) ∧ w'.cell? ⟨W.heap.size, 1, none⟩ = some (.int .i64 i) ∧ w'.cell? ⟨W.heap.size, 2, none⟩ = some (.string cl) ∧ w'.cell? ⟨W.heap.size, 3, none⟩ = some (.string su) ∧ w'.cell? ⟨W.heap.size, 4, none⟩ = some (.string sc) ∧ w'.cell? ⟨W.heap.size, 5, none⟩ = some (.int .i64 ge) ∧ w'.cell? ⟨W.heap.size, 6, none⟩ = some (.int .i64 ma) ∧ w'.cell? ⟨W.heap.size, 7, none⟩ = some (.int .i64 us) ∧ w'.cell? ⟨W.heap.size, 8, none⟩ = some (.string re) ∧ w'.cell? ⟨W.heap.size, 9, none⟩ = some (.bool de) ∧ w'.cell? ⟨W.heap.size, 10, none⟩ = some (.int .i64 id) ∧ w'.cell? ⟨W.heap.size, 11, none⟩ = some (.int .i64 ti) ∧ w'.cell? ⟨W.heap.size + 1, 0, none⟩ = some (.int .i64 k') ∧ w'.cell? ⟨W.heap.size + 1, 1, none⟩ = some (.int .i64 i') ∧ w'.cell? ⟨W.heap.size + 1, 2, none⟩ = some (.string cl') ∧ w'.cell? ⟨W.heap.size + 1, 3, none⟩ = some (.string su') ∧ w'.cell? ⟨W.heap.size + 1, 4, none⟩ = some (.string sc') ∧ w'.cell? ⟨W.heap.size + 1, 5, none⟩ = some (.int .i64 ge') ∧ w'.cell? ⟨W.heap.size + 1, 6, none⟩ = some (.int .i64 ma') ∧ w'.cell? ⟨W.heap.size + 1, 7, none⟩ = some (.int .i64 us') ∧ w'.cell? ⟨W.heap.size + 1, 8, none⟩ = some (.string re') ∧ w'.cell? ⟨W.heap.size + 1, 9, none⟩ = some (.bool de') ∧ w'.cell? ⟨W.heap.size + 1, 10, none⟩ = some (.int .i64 id') ∧ w'.cell? ⟨W.heap.size + 1, 11, none⟩ = some (.int .i64 ti') ∧ w'.cell? ⟨g, 0, none⟩ = some (.int .i64 0) ∧ w'.cell? ⟨g, 1, none⟩ = some (.int .i64 1) ∧ w'.cell? ⟨g, 2, none⟩ = some (.slice none 0 0))
    (first
      | with_reducible assumption
      | with_reducible exact HD
      | with_reducible exact EC.all (EC.keep (And.left (by assumption)) (by assumption)))
    (first
      | (go_at_call 17; with_reducible refine (HA1.out _).mono ?_; rintro x' w1 ⟨a1, e1, rfl, hr1, hb1⟩
         have hr1 := hr1.mono (Nat.zero_le _))
      | (go_at_call 17; with_reducible refine (HA2.out _ _ hr1).mono ?_; rintro x' w2 ⟨a2, e2, rfl, hr2, hb2⟩
         have hr2 := hr2.mono (Nat.zero_le _))
      | (go_at_call 17; with_reducible refine (HA3.out _).mono ?_; rintro x' w3 ⟨a3, e3, rfl, hr3, hb3⟩
         have hr3 := hr3.mono (Nat.zero_le _)
         have hr23 := hr2.below hb3)
      | (go_at_call 17; with_reducible refine (HA4.out _ _ hr3).mono ?_; rintro x' w4 ⟨a4, e4, rfl, hr4, hb4⟩
         have hr4 := hr4.mono (Nat.zero_le _)
         have hr24 := hr23.below hb4)
      | (go_at_call 16; with_reducible refine (HSA.out _ _ _ hr24 hr4).mono ?_; rintro x' w5 ⟨q, rfl, hq, hb5⟩; obtain rfl := hq (by first | rfl | trivial)))
  go_wp2_with fail
  go_ret
  exact ⟨rfl, (EC.eb (And.left (by assumption))).below⟩
theorem back_all (e f : Ev) (W : World) (h : WB W W) (he : ErrVars W) (hl : backLen e f ≤ 2000000000000000) :
    Calls Tryz.prog 5 #[evVal e, evVal f] W fun x w' => x = .returned (.bool true) ∧ Below W.heap.size W w' := by
  by_cases h6 : 600 < backLen e f
  · exact back_long e f W h6 hl
  · have hl6 : backLen e f ≤ 600 := by omega
    rcases hy : evB e with _ | _
    · exact back_no e f W h he hl6 hy
    · rcases hz : evB f with _ | _
      · exact back_one e f W h he hl6 hy hz
      · by_cases h3 : e.kind = 3
        · exact back_three e f W h he hl6 hy hz h3
        · by_cases h4 : f.kind = 3
          · exact back_drei e f W h he hl6 hy hz h3 h4
          · by_cases hid : e.fam.id + e.id = f.fam.id + f.id
            · exact back_alike e f W h he hl6 hy hz h3 h4 hid
            · exact back_two e f W h he hl6 hy hz h3 h4 hid
end Go.Proofs.YtklpmoimckblcaaGreatDoor
