/-
  The sum, by the program's text.
-/
import Derived.Test.YtdfgegicfhcmeaaGreatDoorSip
import Derived.Deep.LoopGhost
import Derived.Laws.BitsAllLaws
import Derived.Laws.BitsLemmas
namespace Go.Proofs.YtdfgegicfhcmeaaGreatDoor
open Go.RowKit

def S4.eat (s : S4) (m : Int) : S4 :=
  let t := (S4.mk s.a s.b s.c (bx s.d m)).round.round
  ⟨bx t.a m, t.b, t.c, t.d⟩
theorem S4.eat_ok (s : S4) (m : Int) : (s.eat m).ok :=
  ⟨u64_bx _ _, (S4.round_ok _).2.1, (S4.round_ok _).2.2.1, (S4.round_ok _).2.2.2⟩

set_option maxRecDepth 100000 in
set_option maxHeartbeats 1000000 in
theorem mac_eat (s : S4) (hs : s.ok) (m : Int) (w : World) (g : Nat) (h : Blk w g 70 s.cells) : Calls Tryz.prog 33 #[.int .u64 m, .pointer (some ⟨g, 0, none⟩)] w fun e w' => e = .returned (.tuple #[]) ∧ (Blk w' g 70 (s.eat m).cells ∧ w.grownBy w' (some g)) := by
  obtain ⟨a, b, c, d⟩ := s
  have b0 : Blk w g 70 #[.int .u64 a, .int .u64 b, .int .u64 c, .int .u64 d] := h
  have c3 := b0.c3
  have f3 := b0.frozen 3
  have B0 := Lib.hid b0
  have HS := Lib.hid hs
  clear b0 h hs
  go_enter Tryz.func33, Tryz.ntmps33
  go_wp2_with fail
  refine (mac_round ⟨a, b, c, bx d m⟩ ⟨HS.out.1, HS.out.2.1, HS.out.2.2.1, u64_bx _ _⟩ _ g (B0.out.set_ 3 (.int .u64 (bx d m)))).mono ?_
  rintro e w1 ⟨rfl, hb1, hg1⟩
  have B1 := Lib.hid hb1
  have G1 := Lib.hid hg1
  clear hb1 hg1
  go_wp2_with fail
  refine (mac_round (S4.round ⟨a, b, c, bx d m⟩) (S4.round_ok _) _ g B1.out).mono ?_
  rintro e w2 ⟨rfl, hb2, hg2⟩
  have B2 := Lib.hid hb2
  have G2 := Lib.hid (only_trans (only_trans (only_setCell (only_refl w (some g)) (p := ⟨g, 3, none⟩) (.inl rfl) (.int .u64 (bx d m))) G1.out) hg2)
  clear hb2 hg2
  have E : ∃ s2 : S4, s2 = (S4.round (S4.round ⟨a, b, c, bx d m⟩)) := ⟨_, rfl⟩
  obtain ⟨s2, e2⟩ := E
  have E2 := Lib.hid e2
  rw [← e2] at B2
  clear e2
  have c0 := Blk.c0 B2.out
  have f0 := B2.out.frozen 0
  go_wp2_with fail
  go_end0
  refine ⟨rfl, ?_, ?_⟩
  · have h1 := B2.out.set_ 0 (.int .u64 (bx s2.a m))
    have h2 : (S4.eat ⟨a, b, c, d⟩ m).cells = #[.int .u64 (bx s2.a m), .int .u64 s2.b, .int .u64 s2.c, .int .u64 s2.d] := by rw [E2.out]; rfl
    rw [h2]
    exact h1
  · exact only_setCell G2.out (.inl rfl) _
end Go.Proofs.YtdfgegicfhcmeaaGreatDoor
