/-
  The walk of the statement TokenBack: the text is no token, or one; the token is none.
-/
import Derived.Test.YtdfgegicfhcmeaaGreatDoorBack
namespace Go.Proofs.YtdfgegicfhcmeaaGreatDoor
open Go.RowKit Go.Sort

theorem tokBack_long (key a b c d : Int) (s : ByteArray) (at_ dg : Int) (W : World) (h : 150 < s.size) (hs : s.size ≤ 140737488355328) :
    Calls Tryz.prog 3 #[.int .i64 key, v4 a b c d, .string s, .int .i64 at_, .int .i64 dg] W fun e w' => e = .returned (.bool true) ∧ Below W.heap.size W w' := by
  go_enter Tryz.func3, Tryz.ntmps3
  go_wp2_with fail
  go_ret
  exact ⟨rfl, (Below.refl _ _).alloc (Nat.le_refl _) _⟩

/-- what the text's token is, and the text of that token -/
structure Second (key : Int) (s : ByteArray) (n a b c d : Int) : Prop where
  read : ∀ w, TL w w → Calls Tryz.prog 7 #[.int .i64 key, .string s] w fun e w' => e = .returned (.tuple #[v4 a b c d, errV n]) ∧ Below w.heap.size w w'
  write : n = 0 → ∀ w, TL w w → Calls Tryz.prog 6 #[.int .i64 key, v4 a b c d] w fun e w' => e = .returned (.tuple #[.string s, .nilIface]) ∧ Below w.heap.size w w'
theorem TL.self {W w : World} (h : TL W w) : TL w w := ⟨Below.refl _ _, h.tens, h.tab, h.errs, h.maxl, h.et⟩
theorem second (key : Int) (s : ByteArray) (hs : s.size ≤ 150) : ∃ n a b c d, Second key s n a b c d := by
  generalize e : tokR (fun B => tagL key B) (parts 46 s.data.toList) = R
  obtain ⟨n, a, b, c, d⟩ := R
  refine ⟨n, a, b, c, d, fun w h => ?_, fun hn w h => ?_⟩
  · have h1 := token_read key s w (by omega) h.maxl h.tens h.errs
    rw [e] at h1
    exact h1
  · subst hn
    obtain ⟨hok, hl⟩ := tokR_back e
    have h1 := token_write_yes key a b c d w h.tens (right_ok.2 hok)
    rw [tokS_L hok, ← hl] at h1
    exact h1

/-- what is known while TokenBack is under way: the packages' variables, and the block of its parameter -/
structure TB (W : World) (a b c d : Int) (w : World) : Prop where
  tl : TL W w
  blk : Blk w W.heap.size 23 #[.int .i64 a, .int .i64 b, .int .i64 c, .int .i64 d]
theorem TB.keep {W w w' : World} {a b c d : Int} (h : TB W a b c d w) (hb : Below w.heap.size w w') : TB W a b c d w' := ⟨h.tl.keep hb, h.blk.below' hb⟩
theorem TB.start {W : World} (h : TL W W) (a b c d : Int) : TB W a b c d (W.alloc (.cells #[.int .i64 a, .int .i64 b, .int .i64 c, .int .i64 d] 23)) :=
  ⟨h.keep ((Below.refl W.heap.size W).alloc (Nat.le_refl _) _), Blk.new W _ _⟩
theorem TB.cells {W w : World} {a b c d : Int} (h : TB W a b c d w) : w.cell? ⟨W.heap.size, 0, none⟩ = some (.int .i64 a) ∧ w.cell? ⟨W.heap.size, 1, none⟩ = some (.int .i64 b) ∧ w.cell? ⟨W.heap.size, 2, none⟩ = some (.int .i64 c) ∧ w.cell? ⟨W.heap.size, 3, none⟩ = some (.int .i64 d) :=
  ⟨h.blk.cell 0, h.blk.cell 1, h.blk.cell 2, h.blk.cell 3⟩

set_option maxHeartbeats 8000000 in
set_option maxRecDepth 100000 in
theorem tokBack_no (key a b c d : Int) (s : ByteArray) (at_ dg : Int) (W : World) (hs : s.size ≤ 150) (hr : rightN a b c d = false) (h : TL W W) :
    Calls Tryz.prog 3 #[.int .i64 key, v4 a b c d, .string s, .int .i64 at_, .int .i64 dg] W fun e w' => e = .returned (.bool true) ∧ Below W.heap.size W w' := by
  obtain ⟨n, a2, b2, c2, d2, h2⟩ := second key s hs
  have HS := Lib.hid h2
  have HW := Lib.hid (fun w => token_write_no key a b c d w hr)
  have H := Lib.hid (TB.start h a b c d)
  clear h h2 hr
  unfold v4 at HW
  rw [show errV 1 = .iface 33 (.int .i64 1) from if_neg (by decide)] at HW
  by_cases hn : n = 0
  all_goals
    unfold v4
    go_enter Tryz.func3, Tryz.ntmps3
    go_wp2_with fail
    go_at_call 5
    refine (summed_yes _).mono ?_
    rintro e w1 ⟨rfl, hb⟩
    have H1 := Lib.hid (H.out.keep hb)
    clear hb
    obtain ⟨c0, c1, c2, c3⟩ := H1.out.cells
    go_wp2_with fail
    go_at_call 6
    refine (HW.out _).mono ?_
    rintro e w2 ⟨rfl, hb⟩
    have H2 := Lib.hid (H1.out.keep hb)
    clear hb c0 c1 c2 c3
    go_wp2_with fail
    go_at_call 7
    refine (HS.out.read _ H2.out.tl.self).mono ?_
    rintro e w3 ⟨rfl, hb⟩
    have H3 := Lib.hid (H2.out.keep hb)
    clear hb
    unfold v4
    first
      | (have e0 : errV n = .nilIface := if_pos hn
         rw [e0])
      | (have e0 : errV n = .iface 33 (.int .i64 n) := if_neg hn
         rw [e0])
    clear e0
    go_wp2_with fail
  · have H4 := Lib.hid (H3.out.keep ((Below.refl _ _).alloc (Nat.le_refl _) (.cells #[.int .i64 a2, .int .i64 b2, .int .i64 c2, .int .i64 d2] 23)))
    go_at_call 6
    refine (HS.out.write hn _ H4.out.tl.self).mono ?_
    rintro e w5 ⟨rfl, hb⟩
    have H5 := Lib.hid (H4.out.keep hb)
    clear hb
    go_wp2_with fail
    go_ret
    exact ⟨by simp, H5.out.tl.below⟩
  · go_ret
    exact ⟨rfl, (H3.out.tl.keep ((Below.refl _ _).alloc (Nat.le_refl _) _)).below⟩
end Go.Proofs.YtdfgegicfhcmeaaGreatDoor
