/-
  The walk of the statement DiskPlays.
-/
import Derived.Test.YtpokddiddjmkoaaDoorTell
import Derived.Test.YtpokddiddjmkoaaDoorDisk
import Derived.Test.YtpokddiddjmkoaaDoorMaps
import Derived.Deep.LoopGhost
import Derived.Deep.QuietTactic
import Derived.BigQuiet
namespace Go.Proofs.YtpokddiddjmkoaaDoor
open Go.RowKit

/-- the slice of pokes: what its cells hold -/
structure Pokes (w : World) (A : Option Addr) (n : Nat) (X : Nat → Int × Int × ByteArray) : Prop where
  at_ : ∀ i, i < n → ∃ b o : Nat, A = some ⟨b, o, none⟩ ∧ b < w.heap.size ∧ w.cell? ⟨b, o + i * 3, none⟩ = some (.int .i64 (X i).1) ∧ w.cell? ⟨b, o + i * 3 + 1, none⟩ = some (.int .i64 (X i).2.1) ∧ w.cell? ⟨b, o + i * 3 + 2, none⟩ = some (.string (X i).2.2)
  wf : ∀ i, i < n → (Lit.int .i64 (X i).1).wf = true ∧ (Lit.int .i64 (X i).2.1).wf = true ∧ (X i).2.2.size ≤ 9223372036854775807

structure Inv (W : World) (k : Nat) (f : Int → ByteArray) (D : Dk) (left : Int) (w : World) : Prop where
  below : Below W.heap.size W w
  disk : DiskAt w W.heap.size D
  map : MapIS Tryd.prog 3 9 w (W.heap.size + 1) k f
  in_ : ∀ j : Nat, j < 90 → f j = D.blk.getD j ByteArray.empty
  out : ∀ j : Int, j < 0 ∨ 90 ≤ j → f j = ByteArray.empty
  left : D.cut = true → D.left = left ∧ 0 ≤ left ∧ left ≤ 9223372036854775807
  lo : 0 ≤ D.writes
  hi : D.writes ≤ k

def PokeRel (W : World) (n : Nat) (off left writes i : Value) (w : World) : Prop :=
  ∃ (k : Nat) (D : Dk) (f : Int → ByteArray) (l : Int), k ≤ n ∧ i = .int .i64 k ∧ off = .bool D.cut ∧ left = .int .i64 l ∧ writes = .int .i64 D.writes ∧ Inv W k f D l w

/-- nothing but new blocks -/
theorem Inv.keep {W w w' : World} {k : Nat} {f : Int → ByteArray} {D : Dk} {l : Int} (h : Inv W k f D l w) (o : Obj) (hb : Below (w.alloc o).heap.size (w.alloc o) w') : Inv W (k + 1) f D l w' := by
  have hb1 : Below w.heap.size w w' := ((Below.refl _ _).alloc (Nat.le_refl _) o).trans (hb.mono (by simp))
  exact ⟨h.below.trans (hb1.mono h.below.size), h.disk.below hb1, (h.map.below hb1).mono (Nat.le_succ _), h.in_, h.out, h.left, h.lo, by have := h.hi; omega⟩
theorem Inv.err {W w : World} {k : Nat} {f : Int → ByteArray} {D : Dk} {l : Int} (h : Inv W k f D l w) (hg : ErrType W) (o : Obj) : ErrType (w.alloc o) :=
  hg.below (h.below.alloc h.below.size o) hg.lt
theorem Inv.disk1 {W w w' : World} {k : Nat} {f : Int → ByteArray} {D : Dk} {l : Int} (h : Inv W k f D l w) (o : Obj) (hb : Below (w.alloc o).heap.size (w.alloc o) w') : DiskAt w' W.heap.size D := (h.disk.alloc o).below hb
theorem Inv.map1 {W w w' : World} {k : Nat} {f : Int → ByteArray} {D : Dk} {l : Int} (h : Inv W k f D l w) (o : Obj) (hb : Below (w.alloc o).heap.size (w.alloc o) w') : MapIS Tryd.prog 3 9 w' (W.heap.size + 1) k f := (h.map.alloc o).below hb

theorem Inv.cutAt {W w w1 : World} {k : Nat} {f : Int → ByteArray} {D : Dk} {l : Int} (h : Inv W k f D l w) (o : Obj) (m : Nat) (q : Int) (hq : q ≤ 9223372036854775807) (hd : DiskAt w1 W.heap.size (D.cutAt q)) (hg : ((w.alloc o).drewN m).grownBy w1 (some W.heap.size)) :
    Inv W (k + 1) f (D.cutAt q) q w1 := by
  refine ⟨below_of_only (below_drewN (h.below.alloc h.below.size o) m) hg (Nat.le_refl _) ?_, hd, ((h.map.alloc o).drewN m |>.kept hg (by simp)).mono (Nat.le_succ _), h.in_, h.out, ?_, h.lo, by have := h.hi; simp [Dk.cutAt]; omega⟩
  · have := h.below.size; simp; omega
  · intro hq
    simp [Dk.cutAt] at hq ⊢
    omega

theorem Dk.put_writes (D : Dk) (k : Nat) (s : ByteArray) (h0 : 0 ≤ D.writes) (h1 : D.writes ≤ 150) : (D.put k s).writes = D.writes + 1 := by
  simp [Dk.put, wrap64]; omega

theorem Inv.put {W w wm w1 w2 : World} {k : Nat} {f : Int → ByteArray} {D : Dk} {l : Int} (h : Inv W k f D l w) (o : Obj) (j : Nat) (hj : j < 90) (t : ByteArray) (hk : k ≤ 150)
    (hm : MapIS Tryd.prog 3 9 wm (W.heap.size + 1) (k + 1) (fun i => if i = (j : Int) then t else f i)) (hgm : (w.alloc o).grownBy wm (some (W.heap.size + 1)))
    (hd : DiskAt w1 W.heap.size (D.put j t)) (hg : wm.grownBy w1 (some W.heap.size)) (hb : Below w1.heap.size w1 w2) (l' : Int) (hl : D.cut = true → wrap64 (D.left - 1) = l' ∧ 0 ≤ l' ∧ l' ≤ 9223372036854775807) :
    Inv W (k + 1) (fun i => if i = (j : Int) then t else f i) (D.put j t) l' w2 := by
  have hs := h.below.size
  have b1 : Below W.heap.size W wm := below_of_only (h.below.alloc hs o) hgm (by omega) (by simp; omega)
  have b2 : Below W.heap.size W w1 := below_of_only b1 hg (Nat.le_refl _) b1.size
  refine ⟨b2.trans (hb.mono b2.size), hd.below hb, (hm.kept hg (by simp)).below hb, ?_, ?_, ?_, ?_, ?_⟩
  · intro i hi
    by_cases e : i = j
    · subst e
      simp [Dk.put, List.getD, h.disk.len, hi]
    · have e' : ¬ ((i : Int) = (j : Int)) := by omega
      rw [if_neg e', h.in_ i hi]
      simp [Dk.put, List.getD, Ne.symm e]
  · intro i hi
    rw [if_neg (by omega)]
    exact h.out i hi
  · exact hl
  · rw [Dk.put_writes D j t h.lo (by have := h.hi; omega)]; have := h.lo; omega
  · rw [Dk.put_writes D j t h.lo (by have := h.hi; omega)]; have := h.hi; omega

theorem zero_disk : Tryd.zeroCells26 = (Dk.mk (List.replicate 90 ByteArray.empty) false 0 0).cells := by kernel_rfl
theorem inv_start (W : World) : Inv W 0 (fun _ => ByteArray.empty) ⟨List.replicate 90 ByteArray.empty, false, 0, 0⟩ 0 ((W.alloc (.cells Tryd.zeroCells26 26)).alloc (.map #[] 0)) := by
  refine ⟨((Below.refl _ _).alloc (Nat.le_refl _) _).alloc (by simp) _, ?_, ?_, ?_, ?_, ?_, ?_, ?_⟩
  · refine ⟨Blk.alloc ?_ _, by simp⟩
    rw [zero_disk]
    exact Blk.new W _ _
  · have h := MapIS.made (P := Tryd.prog) (K := 3) (E := 9) (W.alloc (.cells Tryd.zeroCells26 26))
    simpa using h
  · intro j hj
    rw [List.getD_eq_getElem?_getD, List.getElem?_replicate, if_pos hj]
    rfl
  · intro _ _; rfl
  · intro h; cases h
  · exact Int.le_refl _
  · exact Int.le_refl _
theorem wf_nat (j : Nat) (h : j ≤ 1000000) : (Lit.int .i64 (j : Int)).wf = true := by
  simp [Lit.wf, IntKind.min, IntKind.max, IntKind.signed, IntKind.bits]; omega

set_option maxRecDepth 100000 in
set_option maxHeartbeats 1000000 in
theorem diskPlays_walk (W : World) (A : Option Addr) (n cap : Nat) (X : Nat → Int × Int × ByteArray) (hx : Pokes W A n X) (hn : n ≤ 150) (hg : ErrType W) :
    Calls Tryd.prog 3 #[.slice A n cap] W fun e w' => e = .returned (.bool true) ∧ Below W.heap.size W w' := by
  have hmm := @run_makeMap Tryd.prog
  have HG := Lib.hid hg
  clear hg
  go_enter Tryd.func3, Tryd.ntmps3
  go_wp2_with fail
  go_loopw [5, 6, 7, 8] (fun off left writes i wr => PokeRel W n off left writes i wr) (fun _ _ _ i _ => n - (intOf i).toNat)
  case atStart => exact ⟨0, ⟨List.replicate 90 ByteArray.empty, false, 0, 0⟩, fun _ => ByteArray.empty, 0, by omega, rfl, rfl, rfl, rfl, inv_start W⟩
  case round =>
    obtain ⟨k, D, f, l, hk, rfl, rfl, rfl, rfl, hI⟩ := hrel
    have HI := Lib.hid hI
    have lo := hI.lo
    have hi := hI.hi
    clear hI
    by_cases hlt : k < n
    · obtain ⟨b0, o0, rfl, hadb, hc0, hc1, hc2⟩ := hx.at_ k hlt
      obtain ⟨wf0, wf1, wf2⟩ := hx.wf k hlt
      clear hx
      generalize X k = x at *
      obtain ⟨q, K, t⟩ := x
      simp only at wf0 wf1 wf2
      have g0 : wr.cell? ⟨b0, o0 + k * 3, none⟩ = some (.int .i64 q) := (HI.out.below.cell (p := ⟨b0, o0 + k * 3, none⟩) hadb).trans hc0
      have g1 : wr.cell? ⟨b0, o0 + k * 3 + 1, none⟩ = some (.int .i64 K) := (HI.out.below.cell (p := ⟨b0, o0 + k * 3 + 1, none⟩) hadb).trans hc1
      have g2 : wr.cell? ⟨b0, o0 + k * 3 + 2, none⟩ = some (.string t) := (HI.out.below.cell (p := ⟨b0, o0 + k * 3 + 2, none⟩) hadb).trans hc2
      have hKb : -9223372036854775808 ≤ K ∧ K ≤ 9223372036854775807 := by simpa [Lit.wf, IntKind.min, IntKind.max, IntKind.signed, IntKind.bits] using wf1
      have wz : ∀ w : World, (zeroValue 9).run Tryd.prog w = .ok (.string ByteArray.empty) w := fun _ => by kernel_rfl
      have WZ := Lib.hid wz
      clear hc0 hc1 hc2 wz
      by_cases hq2 : q = 2
      · subst hq2
        have hwr : ((D.cutAt K).writes != D.writes) = false := by simp [Dk.cutAt]
        have hcase : K < 0 ∨ (0 ≤ K ∧ K < 90) ∨ 90 ≤ K := by omega
        rcases hcase with hK | ⟨hK, hK'⟩ | hK
        all_goals
          go_wp2_with fail
          go_quiet (fail)
          go_wp2_with (first
            | (go_at_call 9; refine (disk_cut _ D K _ ((HI.out.disk.alloc _).drewN _)).mono ?_; rintro e w1 ⟨rfl, hd1, hg1⟩)
            | (go_at_call 10; refine (disk_writes _ _ _ hd1).mono ?_; rintro e w2 ⟨rfl, rfl⟩))
          exact ⟨⟨k + 1, D.cutAt K, f, K, by omega, by go_num, by simp [Dk.cutAt] <;> omega, rfl, rfl, HI.out.cutAt _ _ K hKb.2 hd1 hg1⟩, by simp [intOf]; omega⟩
      · by_cases hq0 : q = 0
        · subst hq0
          clear hq2
          have hcase : (K < 0 ∨ 90 ≤ K) ∨ (0 ≤ K ∧ K < 90) := by omega
          rcases hcase with hK | ⟨hK, hK'⟩
          · have hwr : (D.writes != D.writes) = false := by simp
            have HO := Lib.hid hK
            rcases hK with hK | hK
            all_goals
              go_wp2_with (first
                | (go_at_call 7; refine (disk_write_out _ _ _ _ HO.out).mono ?_; rintro e w1 ⟨rfl, rfl⟩)
                | (go_at_call 6; refine (bare_no 2 2 _ (HI.out.err HG.out _)).mono ?_; rintro e w2 ⟨rfl, hb⟩)
                | (go_at_call 10; refine (disk_writes _ _ _ (HI.out.disk1 _ hb)).mono ?_; rintro e w2 ⟨rfl, rfl⟩))
              exact ⟨⟨k + 1, D, f, l, by omega, by go_num, rfl, rfl, rfl, HI.out.keep _ hb⟩, by simp [intOf]; omega⟩
          · obtain ⟨j, rfl⟩ := Int.eq_ofNat_of_zero_le hK
            have hj : j < 90 := by omega
            clear hK hK'
            by_cases hsz : 240 < t.size
            · have hwr : (D.writes != D.writes) = false := by simp
              go_wp2_with (first
                | (go_at_call 7; refine (disk_write_long _ _ _ _ (by omega) (by omega) hsz wf2).mono ?_; rintro e w1 ⟨rfl, rfl⟩)
                | (go_at_call 6; refine (bare_no 4 4 _ (HI.out.err HG.out _)).mono ?_; rintro e w2 ⟨rfl, hb⟩)
                | (go_at_call 10; refine (disk_writes _ _ _ (HI.out.disk1 _ hb)).mono ?_; rintro e w2 ⟨rfl, rfl⟩))
              exact ⟨⟨k + 1, D, f, l, by omega, by go_num, rfl, rfl, rfl, HI.out.keep _ hb⟩, by simp [intOf]; omega⟩
            · by_cases hoff : D.cut = true ∧ l = 0
              · obtain ⟨hcut, rfl⟩ := hoff
                have HC := Lib.hid hcut
                have hwr : (D.writes != D.writes) = false := by simp
                go_wp2_with (first
                  | (go_at_call 7; refine (disk_write_off _ D _ _ _ (HI.out.disk.alloc _) (by omega) (by omega) (by omega) HC.out (HI.out.left HC.out).1).mono ?_; rintro e w1 ⟨rfl, rfl⟩)
                  | (go_at_call 6; refine (bare_no 14 14 _ (HI.out.err HG.out _)).mono ?_; rintro e w2 ⟨rfl, hb⟩)
                  | (go_at_call 10; refine (disk_writes _ _ _ (HI.out.disk1 _ hb)).mono ?_; rintro e w2 ⟨rfl, rfl⟩))
                exact ⟨⟨k + 1, D, f, 0, by omega, by go_num, by rw [HC.out], rfl, rfl, HI.out.keep _ hb⟩, by simp [intOf]; omega⟩
              · have hs := HI.out.map.lt
                obtain ⟨wm, hrun, hM1, hgm⟩ := (HI.out.map.alloc (.cells #[.int .i64 0, .int .i64 (j : Int), .string t] 29)).put (T := 27) Tryd.underlying27 Tryd.underlying3 Tryd.underlying9 (by unfold maxLen; omega) j wf1 t (by unfold maxLen; omega)
                have c0 : wm.cell? ⟨wr.heap.size, 0, none⟩ = some (.int .i64 0) := (World.cell?_of_block (hgm.block wr.heap.size (by simp) (by simp; omega))).trans (by simp)
                have c1 : wm.cell? ⟨wr.heap.size, 1, none⟩ = some (.int .i64 (j : Int)) := (World.cell?_of_block (hgm.block wr.heap.size (by simp) (by simp; omega))).trans (by simp)
                have c2 : wm.cell? ⟨wr.heap.size, 2, none⟩ = some (.string t) := (World.cell?_of_block (hgm.block wr.heap.size (by simp) (by simp; omega))).trans (by simp)
                have HD1 := Lib.hid (((HI.out.disk.alloc (.cells #[.int .i64 0, .int .i64 (j : Int), .string t] 29))).grown hgm (by simp))
                have HM1 := Lib.hid hM1
                have HGM := Lib.hid hgm
                have hpw := D.put_writes j t lo (by omega)
                have HPW := Lib.hid hpw
                have hwr : ((D.put j t).writes != D.writes + 1) = false := by rw [hpw]; simp
                clear hM1 hgm hpw
                by_cases hcut : D.cut = true
                · have HC := Lib.hid hcut
                  have hl0 : ¬ l = 0 := fun e => hoff ⟨hcut, e⟩
                  have hl := HI.out.left hcut
                  have hl1 : 1 ≤ l := by omega
                  have hl2 : l ≤ 9223372036854775807 := hl.2.2
                  have hl3 : wrap64 (D.left - 1) = l - 1 := by rw [hl.1]; simp [wrap64]; omega
                  have HL := Lib.hid hl3
                  have HL1 := Lib.hid hl.1
                  clear hoff hl hl0 hl3
                  go_wp2_with (first
                    | (go_at_call 7; refine (disk_write _ D j t _ HD1.out hj (by omega) (by rw [HC.out, HL1.out]; simp; omega)).mono ?_; rintro e w1 ⟨rfl, hd1, hg1⟩)
                    | (go_at_call 6; refine (bare_nil 0 _).mono ?_; rintro e w2 ⟨rfl, rfl⟩)
                    | (go_at_call 10; refine (disk_writes _ _ _ hd1).mono ?_; rintro e w2 ⟨rfl, rfl⟩))
                  exact ⟨⟨k + 1, D.put j t, _, _, by omega, by go_num, by rw [show (D.put j t).cut = D.cut from rfl, HC.out], rfl, by rw [HPW.out], HI.out.put _ j hj t (by omega) HM1.out HGM.out hd1 hg1 (Below.refl _ _) _ (fun _ => ⟨HL.out, by omega, by omega⟩)⟩, by simp [intOf]; omega⟩
                · have hcut' : D.cut = false := by simpa using hcut
                  have HC := Lib.hid hcut'
                  clear hoff hcut
                  go_wp2_with (first
                    | (go_at_call 7; refine (disk_write _ D j t _ HD1.out hj (by omega) (by rw [HC.out]; rfl)).mono ?_; rintro e w1 ⟨rfl, hd1, hg1⟩)
                    | (go_at_call 6; refine (bare_nil 0 _).mono ?_; rintro e w2 ⟨rfl, rfl⟩)
                    | (go_at_call 10; refine (disk_writes _ _ _ hd1).mono ?_; rintro e w2 ⟨rfl, rfl⟩))
                  exact ⟨⟨k + 1, D.put j t, _, _, by omega, by go_num, by rw [show (D.put j t).cut = D.cut from rfl, HC.out], rfl, by rw [HPW.out], HI.out.put _ j hj t (by omega) HM1.out HGM.out hd1 hg1 (Below.refl _ _) _ (fun h => by rw [HC.out] at h; cases h)⟩, by simp [intOf]; omega⟩
        · have hwr : (D.writes != D.writes) = false := by simp
          by_cases hq1 : q = 1
          · subst hq1
            clear hq0 hq2
            have hcase : (K < 0 ∨ 90 ≤ K) ∨ (0 ≤ K ∧ K < 90) := by omega
            rcases hcase with hK | ⟨hK, hK'⟩
            · have HO := Lib.hid hK
              rcases hK with hK | hK
              all_goals
                go_wp2_with (first
                  | (go_at_call 8; refine (disk_read_out _ _ _ HO.out).mono ?_; rintro e w1 ⟨rfl, rfl⟩)
                  | (go_at_call 6; refine (bare_no 2 2 _ (HI.out.err HG.out _)).mono ?_; rintro e w2 ⟨rfl, hb⟩; have hlook := (HI.out.map1 _ hb).look (T := 27) Tryd.underlying27 Tryd.underlying3 Tryd.underlying9 (WZ.out _) K wf1; rw [HI.out.out K HO.out] at hlook; have cK : w2.cell? ⟨wr.heap.size, 1, none⟩ = some (.int .i64 K) := (hb.cell (p := ⟨wr.heap.size, 1, none⟩) (by simp)).trans (by simp))
                  | (go_at_call 10; refine (disk_writes _ _ _ (HI.out.disk1 _ hb)).mono ?_; rintro e w2 ⟨rfl, rfl⟩))
                exact ⟨⟨k + 1, D, f, l, by omega, by go_num, rfl, rfl, rfl, HI.out.keep _ hb⟩, by simp [intOf]; omega⟩
            · obtain ⟨j, rfl⟩ := Int.eq_ofNat_of_zero_le hK
              have hj : j < 90 := by omega
              clear hK hK'
              go_wp2_with (first
                | (go_at_call 8; refine (disk_read _ D j _ (HI.out.disk.alloc _) hj).mono ?_; rintro e w1 ⟨rfl, rfl⟩)
                | (go_at_call 6; refine (bare_nil 0 _).mono ?_; rintro e w2 ⟨rfl, rfl⟩; have hlook := (HI.out.map.alloc (.cells #[.int .i64 1, .int .i64 (j : Int), .string t] 29)).look (T := 27) Tryd.underlying27 Tryd.underlying3 Tryd.underlying9 (WZ.out _) j wf1; rw [HI.out.in_ j hj] at hlook)
                | (go_at_call 10; refine (disk_writes _ _ _ (HI.out.disk.alloc _)).mono ?_; rintro e w2 ⟨rfl, rfl⟩))
              exact ⟨⟨k + 1, D, f, l, by omega, by go_num, rfl, rfl, rfl, HI.out.keep _ (Below.refl _ _)⟩, by simp [intOf]; omega⟩
          · have hcase : K < 0 ∨ (0 ≤ K ∧ K < 90) ∨ 90 ≤ K := by omega
            rcases hcase with hK | ⟨hK, hK'⟩ | hK
            all_goals
              go_wp2_with (first
                | (go_at_call 10; refine (disk_writes _ _ _ (HI.out.disk.alloc _)).mono ?_; rintro e w2 ⟨rfl, rfl⟩))
              exact ⟨⟨k + 1, D, f, l, by omega, by go_num, rfl, rfl, rfl, HI.out.keep _ (Below.refl _ _)⟩, by simp [intOf]; omega⟩
    · obtain rfl : k = n := by omega
      have wz : ∀ w : World, (zeroValue 9).run Tryd.prog w = .ok (.string ByteArray.empty) w := fun _ => by kernel_rfl
      have WZ := Lib.hid wz
      clear wz hx
      go_wp2_with fail
      go_loop [13] (fun i => ∃ j : Nat, j ≤ 90 ∧ i = .int .i64 j) (fun i => 90 - (intOf i).toNat)
      case atStart => exact ⟨0, by omega, rfl⟩
      case round =>
        obtain ⟨j, hj, rfl⟩ := hrel
        by_cases hlt : j < 90
        · have hlook := HI.out.map.look (T := 27) Tryd.underlying27 Tryd.underlying3 Tryd.underlying9 (WZ.out _) j (wf_nat j (by omega))
          rw [HI.out.in_ j hlt] at hlook
          go_wp2_with (go_at_call 8; refine (disk_read _ D j _ HI.out.disk hlt).mono ?_; rintro e w1 ⟨rfl, rfl⟩)
          exact ⟨⟨j + 1, by omega, by go_num⟩, by simp [intOf]; omega⟩
        · obtain rfl : j = 90 := by omega
          go_wp2
          go_ret
          exact ⟨rfl, HI.out.below⟩

theorem diskPlays_long (W : World) (A : Option Addr) (n cap : Nat) (hn : 150 < n) (hm : n ≤ 9223372036854775807) :
    Calls Tryd.prog 3 #[.slice A n cap] W fun e w' => e = .returned (.bool true) ∧ Below W.heap.size W w' := by
  go_enter Tryd.func3, Tryd.ntmps3
  go_wp2
  go_ret
  exact ⟨rfl, Below.refl _ _⟩
end Go.Proofs.YtpokddiddjmkoaaDoor
