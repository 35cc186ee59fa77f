/-
  EventReads: the walk.
-/
import Derived.Test.YtklpmoimckblcaaGreatDoorRefReadEv3
import Derived.Test.YtklpmoimckblcaaGreatDoorEvLaw
namespace Go.Proofs.YtklpmoimckblcaaGreatDoor
open Go.RowKit Go.Sort

/-- the packages' variables -/
structure TF (W w : World) : Prop where
  te : TE W w
  errs : ErrVars w
theorem TF.keep {W w w' : World} (h : TF W w) (hb : Below w.heap.size w w') : TF W w' := ⟨h.te.keep hb, h.errs.below' hb⟩
theorem TF.self {W w : World} (h : TF W w) : WB w w ∧ ErrVars w := ⟨h.te.wb.self, h.errs⟩
/-- two blocks that hold one event -/
structure RL (W : World) (g1 g2 : Nat) (e : Ev) (w : World) : Prop where
  te : TE W w
  b1 : Blk w g1 30 (evCs e)
  b2 : Blk w g2 25 (evCs e)
theorem RL.keep {W w w' : World} {g1 g2 : Nat} {e : Ev} (hb : Below w.heap.size w w') (h : RL W g1 g2 e w) : RL W g1 g2 e w' := ⟨h.te.keep hb, h.b1.below' hb, h.b2.below' hb⟩
theorem RL.drew {W w : World} {g1 g2 : Nat} {e : Ev} (h : RL W g1 g2 e w) : RL W g1 g2 e w.drew :=
  ⟨⟨h.te.wb.drew, h.te.et⟩, h.b1, h.b2⟩
theorem RL.all {W w : World} {g1 g2 : Nat} {e : Ev} (h : RL W g1 g2 e w) : RL W g1 g2 e w ∧ w.cell? ⟨g1, 0, none⟩ = some (.int .i64 e.kind) ∧ w.cell? ⟨g1, 1, none⟩ = some (.int .i64 e.fam.id) ∧ w.cell? ⟨g1, 2, none⟩ = some (.string e.fam.client) ∧ w.cell? ⟨g1, 3, none⟩ = some (.string e.fam.subject) ∧ w.cell? ⟨g1, 4, none⟩ = some (.string e.fam.scope) ∧ w.cell? ⟨g1, 5, none⟩ = some (.int .i64 e.fam.gen) ∧ w.cell? ⟨g1, 6, none⟩ = some (.int .i64 e.fam.made) ∧ w.cell? ⟨g1, 7, none⟩ = some (.int .i64 e.fam.used) ∧ w.cell? ⟨g1, 8, none⟩ = some (.string e.fam.request) ∧ w.cell? ⟨g1, 9, none⟩ = some (.bool e.fam.dead) ∧ w.cell? ⟨g1, 10, none⟩ = some (.int .i64 e.id) ∧ w.cell? ⟨g1, 11, none⟩ = some (.int .i64 e.time) ∧ w.cell? ⟨g2, 0, none⟩ = some (.int .i64 e.kind) ∧ w.cell? ⟨g2, 1, none⟩ = some (.int .i64 e.fam.id) ∧ w.cell? ⟨g2, 2, none⟩ = some (.string e.fam.client) ∧ w.cell? ⟨g2, 3, none⟩ = some (.string e.fam.subject) ∧ w.cell? ⟨g2, 4, none⟩ = some (.string e.fam.scope) ∧ w.cell? ⟨g2, 5, none⟩ = some (.int .i64 e.fam.gen) ∧ w.cell? ⟨g2, 6, none⟩ = some (.int .i64 e.fam.made) ∧ w.cell? ⟨g2, 7, none⟩ = some (.int .i64 e.fam.used) ∧ w.cell? ⟨g2, 8, none⟩ = some (.string e.fam.request) ∧ w.cell? ⟨g2, 9, none⟩ = some (.bool e.fam.dead) ∧ w.cell? ⟨g2, 10, none⟩ = some (.int .i64 e.id) ∧ w.cell? ⟨g2, 11, none⟩ = some (.int .i64 e.time) :=
  ⟨h, h.b1.cell 0, h.b1.cell 1, h.b1.cell 2, h.b1.cell 3, h.b1.cell 4, h.b1.cell 5, h.b1.cell 6, h.b1.cell 7, h.b1.cell 8, h.b1.cell 9, h.b1.cell 10, h.b1.cell 11, h.b2.cell 0, h.b2.cell 1, h.b2.cell 2, h.b2.cell 3, h.b2.cell 4, h.b2.cell 5, h.b2.cell 6, h.b2.cell 7, h.b2.cell 8, h.b2.cell 9, h.b2.cell 10, h.b2.cell 11⟩

theorem eventReads_long (s : ByteArray) (W : World) (h : 400 < s.size) (hs : s.size ≤ 140737488355328) :
    Calls Tryz.prog 4 #[.string s] W fun e w' => e = .returned (.bool true) ∧ Below W.heap.size W w' := by
  go_enter Tryz.func4, Tryz.ntmps4
  go_wp2_with fail
  go_ret
  exact ⟨rfl, Below.refl _ _⟩

set_option maxHeartbeats 8000000 in
set_option maxRecDepth 100000 in
theorem eventReads_walk (s : ByteArray) (W : World) (hs : s.size ≤ 400) (h : TF W W) :
    Calls Tryz.prog 4 #[.string s] W fun e w' => e = .returned (.bool true) ∧ Below W.heap.size W w' := by
  have H0 := Lib.hid h
  have HA := Lib.hid (fun w (h : WB w w) he => ref_readEv s w (by omega) h he)
  have HB := Lib.hid (fun w (h : WB w w) he => ev_read s w (by omega) h he)
  unfold RefGotE at HA
  unfold ReadGot at HB
  generalize (if readB s.data.toList then (0 : Int) else 3) = n at *
  generalize readE s.data.toList = e at *
  have HH := Lib.hid (fun w => law_happens e w)
  have HBA := Lib.hid (fun w (hg : ErrType w) => bare_any n n w hg)
  rw [show (n == n) = true by simp] at HBA
  clear h
  obtain ⟨k, ⟨i, cl, su, sc, ge, ma, us, re, de⟩, id, ti⟩ := e
  unfold evVal evCs at HA HB HH
  dsimp only at HA HB HH
  go_enter Tryz.func4, Tryz.ntmps4
  go_wp2_with fail
  go_at_call 13
  refine (HA.out _ H0.out.self.1 H0.out.self.2).mono ?_
  rintro x w1 ⟨rfl, hb⟩
  have H1 := Lib.hid (H0.out.keep hb)
  clear hb
  go_wp2_with fail
  have H2 := Lib.hid (H1.out.keep ((Below.refl _ _).alloc (Nat.le_refl _) (.cells #[.int .i64 k, .int .i64 i, .string cl, .string su, .string sc, .int .i64 ge, .int .i64 ma, .int .i64 us, .string re, .bool de, .int .i64 id, .int .i64 ti] 30)))
  have B1 := Lib.hid (show Blk _ w1.heap.size 30 (evCs ⟨k, ⟨i, cl, su, sc, ge, ma, us, re, de⟩, id, ti⟩) from Blk.new w1 30 (evCs ⟨k, ⟨i, cl, su, sc, ge, ma, us, re, de⟩, id, ti⟩))
  unfold evCs at B1
  dsimp only at B1
  generalize w1.alloc (.cells #[.int .i64 k, .int .i64 i, .string cl, .string su, .string sc, .int .i64 ge, .int .i64 ma, .int .i64 us, .string re, .bool de, .int .i64 id, .int .i64 ti] 30) = w2 at *
  generalize w1.heap.size = g1 at *
  go_at_call 14
  refine (HB.out _ H2.out.self.1 H2.out.self.2).mono ?_
  rintro x w3 ⟨rfl, hb⟩
  have H3 := Lib.hid (H2.out.keep hb)
  have B1 := Lib.hid (B1.out.below' hb)
  clear hb
  go_wp2_with fail
  have H4 : Hid (RL W g1 w3.heap.size ⟨k, ⟨i, cl, su, sc, ge, ma, us, re, de⟩, id, ti⟩ (w3.alloc (.cells #[.int .i64 k, .int .i64 i, .string cl, .string su, .string sc, .int .i64 ge, .int .i64 ma, .int .i64 us, .string re, .bool de, .int .i64 id, .int .i64 ti] 25))) := Lib.hid ⟨(H3.out.keep ((Below.refl _ _).alloc (Nat.le_refl _) _)).te, B1.out.alloc _, Blk.new w3 _ _⟩
  generalize w3.alloc (.cells #[.int .i64 k, .int .i64 i, .string cl, .string su, .string sc, .int .i64 ge, .int .i64 ma, .int .i64 us, .string re, .bool de, .int .i64 id, .int .i64 ti] 25) = w4 at *
  generalize w3.heap.size = g2 at *
  have HD := RL.all H4.out.drew
  dsimp only at HD
  clear H3 H4 B1 H2 H1 HA HB
  go_region_held3 (fun w' => RL W g1 g2 ⟨k, ⟨i, cl, su, sc, ge, ma, us, re, de⟩, id, ti⟩ w' ∧ w'.cell? ⟨g1, 0, none⟩ = some (.int .i64 k) ∧ w'.cell? ⟨g1, 1, none⟩ = some (.int .i64 i) ∧ w'.cell? ⟨g1, 2, none⟩ = some (.string cl) ∧ w'.cell? ⟨g1, 3, none⟩ = some (.string su) ∧ w'.cell? ⟨g1, 4, none⟩ = some (.string sc) ∧ w'.cell? ⟨g1, 5, none⟩ = some (.int .i64 ge) ∧ w'.cell? ⟨g1, 6, none⟩ = some (.int .i64 ma) ∧ w'.cell? ⟨g1, 7, none⟩ = some (.int .i64 us) ∧ w'.cell? ⟨g1, 8, none⟩ = some (.string re) ∧ w'.cell? ⟨g1, 9, none⟩ = some (.bool de) ∧ w'.cell? ⟨g1, 10, none⟩ = some (.int .i64 id) ∧ w'.cell? ⟨g1, 11, none⟩ = some (.int .i64 ti) ∧ w'.cell? ⟨g2, 0, none⟩ = some (.int .i64 k) ∧ w'.cell? ⟨g2, 1, none⟩ = some (.int .i64 i) ∧ w'.cell? ⟨g2, 2, none⟩ = some (.string cl) ∧ w'.cell? ⟨g2, 3, none⟩ = some (.string su) ∧ w'.cell? ⟨g2, 4, none⟩ = some (.string sc) ∧ w'.cell? ⟨g2, 5, none⟩ = some (.int .i64 ge) ∧ w'.cell? ⟨g2, 6, none⟩ = some (.int .i64 ma) ∧ w'.cell? ⟨g2, 7, none⟩ = some (.int .i64 us) ∧ w'.cell? ⟨g2, 8, none⟩ = some (.string re) ∧ w'.cell? ⟨g2, 9, none⟩ = some (.bool de) ∧ w'.cell? ⟨g2, 10, none⟩ = some (.int .i64 id) ∧ w'.cell? ⟨g2, 11, none⟩ = some (.int .i64 ti))
    (first
      | with_reducible assumption
      | with_reducible exact HD
      | with_reducible exact RL.all (RL.keep (by assumption) (And.left (by assumption))))
    (first
      | (go_at_call 10; with_reducible refine (HBA.out _ (TE.et (RL.te (And.left (by assumption))))).mono ?_; rintro e w1 ⟨rfl, hb1⟩)
      | (go_at_call 8; with_reducible refine (HH.out _).mono ?_; rintro e w1 ⟨rfl, hb1⟩))
  all_goals
    go_wp2_with fail
    go_ret
    exact ⟨by simp, (RL.te (And.left (by assumption))).wb.below⟩
theorem eventReads_all (s : ByteArray) (W : World) (hs : s.size ≤ 140737488355328) (h : TF W W) :
    Calls Tryz.prog 4 #[.string s] W fun e w' => e = .returned (.bool true) ∧ Below W.heap.size W w' := by
  by_cases hl : 400 < s.size
  · exact eventReads_long s W hl hs
  · exact eventReads_walk s W (by omega) h
end Go.Proofs.YtklpmoimckblcaaGreatDoor
