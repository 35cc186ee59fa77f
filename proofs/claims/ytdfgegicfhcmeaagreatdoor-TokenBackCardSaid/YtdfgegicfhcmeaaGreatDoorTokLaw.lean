/-
  The walk of the statement TokenReads.
-/
import Derived.Test.YtdfgegicfhcmeaaGreatDoorTokRead4
import Derived.Test.YtdfgegicfhcmeaaGreatDoorRefRead
import Derived.Test.YtdfgegicfhcmeaaGreatDoorTell
import Derived.Deep.RegionHeld3
namespace Go.Proofs.YtdfgegicfhcmeaaGreatDoor
open Go.RowKit Go.Sort

theorem bare_yes (n : Int) (w : World) (hg : ErrType w) : Calls Tryz.prog 12 #[errV n, .int .i64 n] w fun e w' => e = .returned (.bool true) ∧ Below w.heap.size w w' :=
  (bare_any n n w hg).mono fun e w' ⟨h, hb⟩ => ⟨by rw [h]; simp, hb⟩
theorem tokReads_long (key : Int) (s : ByteArray) (W : World) (h : 150 < s.size) (hs : s.size ≤ 140737488355328) :
    Calls Tryz.prog 4 #[.int .i64 key, .string s] W fun e w' => e = .returned (.bool true) ∧ Below W.heap.size W w' := by
  go_enter Tryz.func4, Tryz.ntmps4
  go_wp2_with fail
  go_ret
  exact ⟨rfl, Below.refl _ _⟩

structure TL (W w : World) : Prop where
  below : Below W.heap.size W w
  tens : Tens w
  tab : Tab15 w
  errs : ErrVars w
  maxl : MaxL w
  et : ErrType w
theorem TL.keep {W w w' : World} (h : TL W w) (hb : Below w.heap.size w w') : TL W w' :=
  ⟨h.below.trans (hb.mono h.below.size), h.tens.below hb h.tens.lt, h.tab.below hb h.tab.lt, h.errs.below' hb, h.maxl.below' hb, h.et.below hb h.et.lt⟩

structure TX (W : World) (lb : Nat) (x y : ByteArray) (w : World) : Prop where
  tl : TL W w
  list : Blk w lb 9 #[.string x, .string y]
theorem TX.keep {W w w' : World} {lb : Nat} {x y : ByteArray} (h : TX W lb x y w) (hb : Below w.heap.size w w') : TX W lb x y w' := ⟨h.tl.keep hb, h.list.below' hb⟩
def LRel (W : World) (lb : Nat) (x y : ByteArray) (i : Value) (w : World) : Prop := ∃ k : Nat, k ≤ 2 ∧ i = .int .i64 k ∧ TX W lb x y w
theorem TX.at_ {W w : World} {lb k : Nat} {x y : ByteArray} (h : TX W lb x y w) (hk : k < 2) : ∃ z : ByteArray, (z = x ∨ z = y) ∧ w.cell? ⟨lb, k, none⟩ = some (.string z) := by
  have : k = 0 ∨ k = 1 := by omega
  rcases this with rfl | rfl
  · exact ⟨x, .inl rfl, h.list.cell 0⟩
  · exact ⟨y, .inr rfl, h.list.cell 1⟩

theorem TX.drew {W w : World} {lb : Nat} {x y : ByteArray} (h : TX W lb x y w) : TX W lb x y w.drew := h.keep (below_drewN (Below.refl _ _) 1)
theorem keep8 {W w w' : World} {lb tb tc : Nat} {x y : ByteArray} {a b c d a' b' c' d' : Value} (h0 : w.cell? ⟨tb, 0, none⟩ = some a) (h1 : w.cell? ⟨tb, 1, none⟩ = some b) (h2 : w.cell? ⟨tb, 2, none⟩ = some c) (h3 : w.cell? ⟨tb, 3, none⟩ = some d)
    (k0 : w.cell? ⟨tc, 0, none⟩ = some a') (k1 : w.cell? ⟨tc, 1, none⟩ = some b') (k2 : w.cell? ⟨tc, 2, none⟩ = some c') (k3 : w.cell? ⟨tc, 3, none⟩ = some d') (h : TX W lb x y w) (hb : Below w.heap.size w w') :
    w'.cell? ⟨tb, 0, none⟩ = some a ∧ w'.cell? ⟨tb, 1, none⟩ = some b ∧ w'.cell? ⟨tb, 2, none⟩ = some c ∧ w'.cell? ⟨tb, 3, none⟩ = some d ∧ w'.cell? ⟨tc, 0, none⟩ = some a' ∧ w'.cell? ⟨tc, 1, none⟩ = some b' ∧ w'.cell? ⟨tc, 2, none⟩ = some c' ∧ w'.cell? ⟨tc, 3, none⟩ = some d' ∧ TX W lb x y w' := by
  have l1 : tb < w.heap.size := World.block_lt_of_cell? w _ h0
  have l2 : tc < w.heap.size := World.block_lt_of_cell? w _ k0
  exact ⟨(hb.cell (p := ⟨tb, 0, none⟩) l1).trans h0, (hb.cell (p := ⟨tb, 1, none⟩) l1).trans h1, (hb.cell (p := ⟨tb, 2, none⟩) l1).trans h2, (hb.cell (p := ⟨tb, 3, none⟩) l1).trans h3,
    (hb.cell (p := ⟨tc, 0, none⟩) l2).trans k0, (hb.cell (p := ⟨tc, 1, none⟩) l2).trans k1, (hb.cell (p := ⟨tc, 2, none⟩) l2).trans k2, (hb.cell (p := ⟨tc, 3, none⟩) l2).trans k3, h.keep hb⟩

set_option maxHeartbeats 8000000 in
set_option maxRecDepth 100000 in
theorem tokReads_short (key : Int) (s : ByteArray) (W : World) (hs : s.size ≤ 150) (h : TL W W)
    (hread : ∀ (x : ByteArray), x.size ≤ 1000 → ∃ n a b c d : Int, (∀ w, MaxL w → Tens w → ErrVars w → Calls Tryz.prog 7 #[.int .i64 key, .string x] w (ReadGot w (n, a, b, c, d))) ∧ ∀ w', Tab15 w' → MaxL w' → Tens w' → ErrVars w' → Calls Tryz.prog 11 #[.int .i64 key, .string x] w' (RefReadGot w' (n, a, b, c, d))) :
    Calls Tryz.prog 4 #[.int .i64 key, .string s] W fun e w' => e = .returned (.bool true) ∧ Below W.heap.size W w' := by
  have H := Lib.hid h
  have HTG := Lib.hid (fun w (hT : Tab15 w) => ref_tagS key s w (by omega) hT)
  have hts := tagS_size key s
  generalize tagS key s = T at *
  have e1 := add_run s (⟨#[46]⟩ : ByteArray) 150 1 hs (by decide) (by omega)
  have z1 := app_size s (⟨#[46]⟩ : ByteArray) 150 1 hs (by decide)
  have e2 := add_run (s ++ ⟨#[46]⟩) T _ 16 z1 (by omega) (by omega)
  have z2 := app_size (s ++ ⟨#[46]⟩) T _ 16 z1 (by omega)
  clear h hts
  go_enter Tryz.func4, Tryz.ntmps4
  go_wp2_with (go_at_call 10; refine (HTG.out _ H.out.tab).mono ?_; rintro e w1 ⟨rfl, hb⟩; have H1 := Lib.hid (H.out.keep hb); clear hb)
  have HX0 : Hid (TX W w1.heap.size s (s ++ ⟨#[46]⟩ ++ T) (w1.alloc (.cells #[.string s, .string (s ++ ⟨#[46]⟩ ++ T)] 9))) := Lib.hid ⟨H1.out.keep ((Below.refl _ _).alloc (Nat.le_refl _) _), Blk.new w1 _ _⟩
  generalize w1.alloc (.cells #[.string s, .string (s ++ ⟨#[46]⟩ ++ T)] 9) = w2 at *
  generalize w1.heap.size = lb at *
  have hz1 : s.size ≤ 1000 := by omega
  have hz2 : (s ++ ⟨#[46]⟩ ++ T).size ≤ 1000 := by omega
  clear e1 e2 z1 z2
  generalize s ++ ⟨#[46]⟩ ++ T = s2 at *
  go_loopw [23] (fun i w => LRel W lb s s2 i w) (fun i _ => 2 - (intOf i).toNat)
  case atStart => exact ⟨0, by omega, rfl, HX0.out⟩
  case round =>
    obtain ⟨k, hk, rfl, hx⟩ := hrel
    have HX := Lib.hid hx
    by_cases hlt : k < 2
    · obtain ⟨z, hz, hc⟩ := hx.at_ hlt
      have hzs : z.size ≤ 1000 := by rcases hz with rfl | rfl <;> assumption
      obtain ⟨n, a, b, c, d, hr1, hr2⟩ := hread z hzs
      have HR1 := Lib.hid hr1
      have HR2 := Lib.hid hr2
      clear hr1 hr2 hz hx
      go_wp2_with fail
      go_at_call 11
      refine (HR2.out _ HX.out.tl.tab HX.out.tl.maxl HX.out.tl.tens HX.out.tl.errs).mono ?_
      rintro e w3 ⟨rfl, hb⟩
      have HX3 := Lib.hid (HX.out.keep hb)
      clear hb hc
      unfold v4
      go_wp2_with fail
      have hb4 : Below w3.heap.size w3 (w3.alloc (.cells #[.int .i64 a, .int .i64 b, .int .i64 c, .int .i64 d] 38)) := (Below.refl _ _).alloc (Nat.le_refl _) _
      have HX4 := Lib.hid (HX3.out.keep hb4)
      have HB4 := Lib.hid (Blk.new w3 38 #[.int .i64 a, .int .i64 b, .int .i64 c, .int .i64 d])
      clear hb4
      generalize w3.alloc (.cells #[.int .i64 a, .int .i64 b, .int .i64 c, .int .i64 d] 38) = w4 at *
      generalize w3.heap.size = tb at *
      go_at_call 7
      refine (HR1.out _ HX4.out.tl.maxl HX4.out.tl.tens HX4.out.tl.errs).mono ?_
      rintro e w5 ⟨rfl, hb⟩
      have HX5 := Lib.hid (HX4.out.keep hb)
      have HB5 := Lib.hid (HB4.out.below' hb)
      clear hb
      unfold v4
      go_wp2_with fail
      have hb6 : Below w5.heap.size w5 (w5.alloc (.cells #[.int .i64 a, .int .i64 b, .int .i64 c, .int .i64 d] 23)) := (Below.refl _ _).alloc (Nat.le_refl _) _
      have HX6 := Lib.hid (HX5.out.keep hb6)
      have HB6 := Lib.hid (HB5.out.below' hb6)
      have HC6 := Lib.hid (Blk.new w5 23 #[.int .i64 a, .int .i64 b, .int .i64 c, .int .i64 d])
      clear hb6
      generalize w5.alloc (.cells #[.int .i64 a, .int .i64 b, .int .i64 c, .int .i64 d] 23) = w6 at *
      generalize w5.heap.size = tc at *
      have b0 := HB6.out.cell 0
      have b1 := HB6.out.cell 1
      have b2 := HB6.out.cell 2
      have b3 := HB6.out.cell 3
      have c0 := HC6.out.cell 0
      have c1 := HC6.out.cell 1
      have c2 := HC6.out.cell 2
      have c3 := HC6.out.cell 3
      simp at b0 b1 b2 b3 c0 c1 c2 c3
      have hX7 : TX W lb s s2 w6.drew := HX6.out.drew
      have HGV := Lib.hid (fun w => law_given a b c d w)
      unfold v4 at HGV
      go_region_held3 (fun w' => w'.cell? ⟨tb, 0, none⟩ = some (.int .i64 a) ∧ w'.cell? ⟨tb, 1, none⟩ = some (.int .i64 b) ∧ w'.cell? ⟨tb, 2, none⟩ = some (.int .i64 c) ∧ w'.cell? ⟨tb, 3, none⟩ = some (.int .i64 d) ∧ w'.cell? ⟨tc, 0, none⟩ = some (.int .i64 a) ∧ w'.cell? ⟨tc, 1, none⟩ = some (.int .i64 b) ∧ w'.cell? ⟨tc, 2, none⟩ = some (.int .i64 c) ∧ w'.cell? ⟨tc, 3, none⟩ = some (.int .i64 d) ∧ TX W lb s s2 w')
        (first
          | (refine ⟨?_, ?_, ?_, ?_, ?_, ?_, ?_, ?_, hX7⟩ <;> go_keep)
          | (go_split_ands
             exact keep8 (by assumption) (by assumption) (by assumption) (by assumption) (by assumption) (by assumption) (by assumption) (by assumption) (by assumption) (by assumption)))
        (first
          | (go_at_call 12; refine (bare_yes _ _ (by (go_split_ands; exact TL.et (TX.tl (W := W) (lb := lb) (x := s) (y := s2) (by assumption))))).mono ?_; rintro e w1 ⟨rfl, hb1⟩)
          | (go_at_call 13; refine (HGV.out _).mono ?_; rintro e w1 ⟨rfl, hb1⟩))
      go_split_ands
      rename_i q0 q1 q2 q3 q4 q5 q6 q7 rX
      have HFX := Lib.hid rX
      clear q0 q1 q2 q3 q4 q5 q6 q7 rX hX7 b0 b1 b2 b3 c0 c1 c2 c3
      go_wp2_with fail
      go_roundw
      case rel => exact ⟨k + 1, by omega, by go_num, HFX.out⟩
      case measure => simp [intOf]; omega
    · go_wp2_with fail
      go_ret
      exact ⟨rfl, HX.out.tl.below⟩
end Go.Proofs.YtdfgegicfhcmeaaGreatDoor
