/-
  The reference's WriteEvent: no event; a number.
-/
import Derived.Test.YtklpmoimckblcaaGreatDoorRefTold
namespace Go.Proofs.YtklpmoimckblcaaGreatDoor
open Go.RowKit Go.Sort

theorem told_at (g : Nat) (L : List Int) (w : World) (h : WB w w) (hi : IntsAt w g L) (hL : L ≠ []) (h4 : L.length ≤ 4) (hn : ∀ x ∈ L, okN x = true) (s : ByteArray) (hs : s = txt (glue 32 (L.map Lib.itoa))) :
    Calls Tryz.prog 19 #[.slice (some ⟨g, 0, none⟩) L.length L.length] w fun e w' => e = .returned (.string s) ∧ Below w.heap.size w w' := by
  subst hs
  exact ref_told g L w h hi hL h4 hn
theorem told_one (x : Int) (hx : okN x = true) (g : Nat) (w : World) (h : WB w w) (hi : IntsAt w g [x]) :
    Calls Tryz.prog 19 #[.slice (some ⟨g, 0, none⟩) 1 1] w fun e w' => e = .returned (.string (itoS x)) ∧ Below w.heap.size w w' :=
  told_at g [x] w h hi (by simp) (show 1 ≤ 4 by decide) (by simpa using hx) _ rfl

set_option maxHeartbeats 4000000 in
theorem refw_no (e : Ev) (W : World) (hs : e.fam.short 1000) (h : WB W W) (hn : evB e = false) :
    Calls Tryz.prog 7 #[evVal e] W fun x w' => x = .returned (.tuple #[.string ⟨#[]⟩, .int .i64 1]) ∧ Below W.heap.size W w' := by
  have HR := Lib.hid (fun w (hm : MaxL w) => ref_may e w hs hm)
  rw [hn] at HR
  have H0 := Lib.hid (EW.start (T := 30) h e)
  obtain ⟨k, ⟨i, cl, su, sc, ge, ma, us, re, de⟩, id, ti⟩ := e
  clear hs hn h
  unfold evVal evCs at *
  dsimp only at *
  go_enter Tryz.func7, Tryz.ntmps7
  go_wp2_with fail
  go_at_call 18
  refine (HR.out _ H0.out.wb.maxl).mono ?_
  rintro x w1 ⟨rfl, hb⟩
  have H1 := Lib.hid (H0.out.keep hb)
  clear hb
  go_wp2_with fail
  go_ret2
  exact ⟨rfl, H1.out.wb.below⟩

theorem ints_11 (w : World) (o : Obj) (T : TypeId) (b : Int) : IntsAt ((w.alloc o).alloc (.cells #[.int .i64 b] T)) (w.heap.size + 1) [b] := by
  have h := ints_new (w.alloc o) T [b]
  simpa using h
theorem ints_1 (w : World) (T : TypeId) (b : Int) : IntsAt (w.alloc (.cells #[.int .i64 b] T)) w.heap.size [b] := ints_new w T [b]
set_option maxHeartbeats 4000000 in
set_option maxRecDepth 100000 in
theorem refw_num (e : Ev) (W : World) (hs : e.fam.short 1000) (h : WB W W) (hy : evB e = true) (hk : e.kind = 2 ∨ e.kind = 3) :
    Calls Tryz.prog 7 #[evVal e] W fun x w' => x = .returned (.tuple #[.string (txt (evL e)), .int .i64 0]) ∧ Below W.heap.size W w' := by
  have HR := Lib.hid (fun w (hm : MaxL w) => ref_may e w hs hm)
  rw [hy] at HR
  have H0 := Lib.hid (EW.start (T := 30) h e)
  have hc := evB_kind hy
  rcases hk with hk | hk
  · have hn : okN e.id = true := by
      rcases hc with ⟨h1, _⟩ | ⟨_, _, _, h2⟩ | ⟨h1, _⟩
      · omega
      · exact h2
      · omega
    have HL := Lib.hid (line_2 hk)
    have hz := itoS_900 hn
    have HI := Lib.hid (fun g w => told_one e.id hn g w)
    generalize txt (evL e) = line at *
    obtain ⟨k, ⟨i, cl, su, sc, ge, ma, us, re, de⟩, id, ti⟩ := e
    dsimp only at hk
    subst hk
    clear hs hy h hc hn
    unfold evVal evCs at *
    dsimp only at *
    have ha := add2 100 32 _ hz
    generalize itoS id = y at *
    go_enter Tryz.func7, Tryz.ntmps7
    go_wp2_with fail
    go_at_call 18
    refine (HR.out _ H0.out.wb.maxl).mono ?_
    rintro x w1 ⟨rfl, hb⟩
    have H1 := Lib.hid (H0.out.keep hb)
    clear hb
    obtain ⟨c0, c1, c2, c3, c4, c5, c6, c7, c8, c9, c10, c11⟩ := ev_cells H1.out.ev
    have hlt := H1.out.ev.lt
    go_wp2_with fail
    go_at_call 19
    refine (HI.out _ _ ((H1.out.wb.alloc _).alloc _).self (ints_11 w1 _ 3 id)).mono ?_
    rintro x w2 ⟨rfl, hb⟩
    have H2 := Lib.hid (((H1.out.wb.alloc _).alloc _).keep hb)
    clear hb
    go_wp2_with fail
    go_ret2
    exact ⟨by rw [← HL.out]; rfl, H2.out.below⟩
  · have hn : okN e.time = true := by
      rcases hc with ⟨h1, _⟩ | ⟨h1, _⟩ | ⟨_, _, _, h2⟩
      · omega
      · omega
      · exact h2
    have HL := Lib.hid (line_3 hk)
    have hz := itoS_900 hn
    have HI := Lib.hid (fun g w => told_one e.time hn g w)
    generalize txt (evL e) = line at *
    obtain ⟨k, ⟨i, cl, su, sc, ge, ma, us, re, de⟩, id, ti⟩ := e
    dsimp only at hk
    subst hk
    clear hs hy h hc hn
    unfold evVal evCs at *
    dsimp only at *
    have ha := add2 99 32 _ hz
    generalize itoS ti = y at *
    go_enter Tryz.func7, Tryz.ntmps7
    go_wp2_with fail
    go_at_call 18
    refine (HR.out _ H0.out.wb.maxl).mono ?_
    rintro x w1 ⟨rfl, hb⟩
    have H1 := Lib.hid (H0.out.keep hb)
    clear hb
    obtain ⟨c0, c1, c2, c3, c4, c5, c6, c7, c8, c9, c10, c11⟩ := ev_cells H1.out.ev
    have hlt := H1.out.ev.lt
    go_wp2_with fail
    go_at_call 19
    refine (HI.out _ _ ((H1.out.wb.alloc _).alloc _).self (ints_11 w1 _ 3 ti)).mono ?_
    rintro x w2 ⟨rfl, hb⟩
    have H2 := Lib.hid (((H1.out.wb.alloc _).alloc _).keep hb)
    clear hb
    go_wp2_with fail
    go_ret2
    exact ⟨by rw [← HL.out]; rfl, H2.out.below⟩
end Go.Proofs.YtklpmoimckblcaaGreatDoor
