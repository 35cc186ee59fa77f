/-
  event.Write: an event's line, or that it may not be.
-/
import Derived.Test.YtklpmoimckblcaaGreatDoorEvWord
namespace Go.Proofs.YtklpmoimckblcaaGreatDoor
open Go.RowKit Go.Sort

/-- what is known while an event is written -/
structure EW (T : TypeId) (W : World) (e : Ev) (w : World) : Prop where
  wb : WB W w
  ev : Blk w W.heap.size T (evCs e)
theorem EW.keep {T : TypeId} {W w w' : World} {e : Ev} (h : EW T W e w) (hb : Below w.heap.size w w') : EW T W e w' := ⟨h.wb.keep hb, h.ev.below' hb⟩
theorem WB.alloc {W w : World} (h : WB W w) (o : Obj) : WB W (w.alloc o) := h.keep ((Below.refl _ _).alloc (Nat.le_refl _) o)
theorem EW.start {T : TypeId} {W : World} (h : WB W W) (e : Ev) : EW T W e (W.alloc (.cells (evCs e) T)) := ⟨h.alloc _, Blk.new W T _⟩
theorem WB.self {W w : World} (h : WB W w) : WB w w := ⟨Below.refl _ _, h.tens, h.maxl⟩

set_option maxHeartbeats 4000000 in
theorem write_no (e : Ev) (W : World) (hs : e.fam.short 1000) (h : WB W W) (hn : evB e = false) :
    Calls Tryz.prog 9 #[evVal e] W fun x w' => x = .returned (.tuple #[.string ⟨#[]⟩, .iface 27 (.int .i64 1)]) ∧ Below W.heap.size W w' := by
  have HR := Lib.hid (fun w (hm : MaxL w) => ev_right e w hs hm)
  rw [hn] at HR
  have H0 := Lib.hid (EW.start (T := 25) h e)
  obtain ⟨k, ⟨i, cl, su, sc, ge, ma, us, re, de⟩, id, ti⟩ := e
  clear hs hn h
  unfold evVal evCs at *
  dsimp only at *
  go_enter Tryz.func9, Tryz.ntmps9
  go_wp2_with fail
  go_at_call 21
  refine (HR.out _ H0.out.wb.maxl).mono ?_
  rintro x w1 ⟨rfl, hb⟩
  have H1 := Lib.hid (H0.out.keep hb)
  clear hb
  go_wp2_with fail
  go_ret2
  exact ⟨rfl, H1.out.wb.below⟩

theorem add2 (a b : UInt8) (x : ByteArray) (hx : x.size ≤ 900) (w : World) : (Op.stringOp .add ⟨#[a, b]⟩ x).run Tryz.prog w = .ok (.string (⟨#[a, b]⟩ ++ x)) w :=
  run_string_add_sum w _ _ (by show 2 + x.size ≤ _; omega)
theorem line_2 {e : Ev} (h : e.kind = 2) : (⟨#[100, 32]⟩ : ByteArray) ++ itoS e.id = txt (evL e) := by
  unfold evL
  rw [evW_2 h]
  show txt [100, 32] ++ txt (Lib.itoa e.id) = _
  rw [txt_app]
  rfl
theorem line_3 {e : Ev} (h : e.kind = 3) : (⟨#[99, 32]⟩ : ByteArray) ++ itoS e.time = txt (evL e) := by
  unfold evL
  rw [evW_3 h]
  show txt [99, 32] ++ txt (Lib.itoa e.time) = _
  rw [txt_app]
  rfl
theorem itoS_900 {x : Int} (h : okN x = true) : (itoS x).size ≤ 900 := by
  have := itoS_size x h
  omega

set_option maxHeartbeats 4000000 in
theorem write_num (e : Ev) (W : World) (hs : e.fam.short 1000) (h : WB W W) (hy : evB e = true) (hk : e.kind = 2 ∨ e.kind = 3) :
    Calls Tryz.prog 9 #[evVal e] W fun x w' => x = .returned (.tuple #[.string (txt (evL e)), .nilIface]) ∧ Below W.heap.size W w' := by
  have HR := Lib.hid (fun w (hm : MaxL w) => ev_right e w hs hm)
  rw [hy] at HR
  have H0 := Lib.hid (EW.start (T := 25) h e)
  have hc := evB_kind hy
  rcases hk with hk | hk
  · have hn : okN e.id = true := by
      rcases hc with ⟨h1, _⟩ | ⟨_, _, _, h2⟩ | ⟨h1, _⟩
      · omega
      · exact h2
      · omega
    have HL := Lib.hid (line_2 hk)
    have hz := itoS_900 hn
    have HI := Lib.hid (fun w hT => itoa_c e.id hn w hT)
    generalize txt (evL e) = line at *
    obtain ⟨k, ⟨i, cl, su, sc, ge, ma, us, re, de⟩, id, ti⟩ := e
    dsimp only at hk
    subst hk
    clear hs hy h hc hn
    unfold evVal evCs at *
    dsimp only at *
    have ha := add2 100 32 _ hz
    generalize itoS id = y at *
    go_enter Tryz.func9, Tryz.ntmps9
    go_wp2_with fail
    go_at_call 21
    refine (HR.out _ H0.out.wb.maxl).mono ?_
    rintro x w1 ⟨rfl, hb⟩
    have H1 := Lib.hid (H0.out.keep hb)
    clear hb
    obtain ⟨c0, c1, c2, c3, c4, c5, c6, c7, c8, c9, c10, c11⟩ := ev_cells H1.out.ev
    go_wp2_with fail
    go_at_call 22
    refine (HI.out _ H1.out.wb.tens).mono ?_
    rintro x w2 ⟨rfl, hb⟩
    have H2 := Lib.hid (H1.out.keep hb)
    clear hb
    go_wp2_with fail
    go_ret2
    exact ⟨by rw [← HL.out]; rfl, H2.out.wb.below⟩
  · have hn : okN e.time = true := by
      rcases hc with ⟨h1, _⟩ | ⟨h1, _⟩ | ⟨_, _, _, h2⟩
      · omega
      · omega
      · exact h2
    have HL := Lib.hid (line_3 hk)
    have hz := itoS_900 hn
    have HI := Lib.hid (fun w hT => itoa_c e.time hn w hT)
    generalize txt (evL e) = line at *
    obtain ⟨k, ⟨i, cl, su, sc, ge, ma, us, re, de⟩, id, ti⟩ := e
    dsimp only at hk
    subst hk
    clear hs hy h hc hn
    unfold evVal evCs at *
    dsimp only at *
    have ha := add2 99 32 _ hz
    generalize itoS ti = y at *
    go_enter Tryz.func9, Tryz.ntmps9
    go_wp2_with fail
    go_at_call 21
    refine (HR.out _ H0.out.wb.maxl).mono ?_
    rintro x w1 ⟨rfl, hb⟩
    have H1 := Lib.hid (H0.out.keep hb)
    clear hb
    obtain ⟨c0, c1, c2, c3, c4, c5, c6, c7, c8, c9, c10, c11⟩ := ev_cells H1.out.ev
    go_wp2_with fail
    go_at_call 22
    refine (HI.out _ H1.out.wb.tens).mono ?_
    rintro x w2 ⟨rfl, hb⟩
    have H2 := Lib.hid (H1.out.keep hb)
    clear hb
    go_wp2_with fail
    go_ret2
    exact ⟨by rw [← HL.out]; rfl, H2.out.wb.below⟩
end Go.Proofs.YtklpmoimckblcaaGreatDoor
