/-
  rotorref's store: NewStore, Add.
-/
import Derived.Test.YtdogilbnbbeljaaGreatDoorH38
import Derived.Test.YtdogilbnbbeljaaGreatDoorH40
import Derived.Test.YtdogilbnbbeljaaGreatDoorH22
import Derived.Test.YtdogilbnbbeljaaGreatDoorH28
import Derived.Test.YtdogilbnbbeljaaGreatDoorH36
namespace Go.Proofs.YtdogilbnbbeljaaGreatDoor
open Go.RowKit Go.Sort

section
variable {w w' : World} {rb : Nat} {z : SS} {v : Value}
theorem RAt.below' (h : RAt w rb z v) (hb : Below w.heap.size w w') : RAt w' rb z v := Blk.below' h hb
theorem RAt.apart {B : Nat} {v' : Value} {L : List Fam} (h : RAt w rb z v) (hr : FRow w B v' L) : v'.ownBlock ≠ some rb := hr.apart h (by decide)
/-- all is told anew -/
theorem RAt.become (h : RAt w rb z v) (n ck nx : Int) (L : List Fam) (v' : Value) :
    RAt ((((w.setCell ⟨rb, 3, none⟩ (.int .i64 n)).setCell ⟨rb, 0, none⟩ (.int .i64 ck)).setCell ⟨rb, 1, none⟩ (.int .i64 nx)).setCell ⟨rb, 2, none⟩ v') rb ⟨⟨ck, nx, L⟩, n, z.writes, z.off, z.left, z.down⟩ v' ∧
      w.grownBy ((((w.setCell ⟨rb, 3, none⟩ (.int .i64 n)).setCell ⟨rb, 0, none⟩ (.int .i64 ck)).setCell ⟨rb, 1, none⟩ (.int .i64 nx)).setCell ⟨rb, 2, none⟩ v') (some rb) := by
  have e0 := Blk.put_ h 3 (.int .i64 n) (cs' := refCs (logS z n) v) rfl
  have e1 := Blk.put_ e0 0 (.int .i64 ck) (cs' := refCs ⟨⟨ck, z.s.next, z.s.fams⟩, n, z.writes, z.off, z.left, z.down⟩ v) rfl
  have e2 := Blk.put_ e1 1 (.int .i64 nx) (cs' := refCs ⟨⟨ck, nx, z.s.fams⟩, n, z.writes, z.off, z.left, z.down⟩ v) rfl
  have e3 := Blk.put_ e2 2 v' (cs' := refCs ⟨⟨ck, nx, L⟩, n, z.writes, z.off, z.left, z.down⟩ v') rfl
  have g0 := only_set1 w rb ⟨rb, 3, none⟩ rfl (.int .i64 n)
  have g1 := only_setCell g0 (p := ⟨rb, 0, none⟩) (.inl rfl) (.int .i64 ck)
  have g2 := only_setCell g1 (p := ⟨rb, 1, none⟩) (.inl rfl) (.int .i64 nx)
  exact ⟨e3, only_setCell g2 (p := ⟨rb, 2, none⟩) (.inl rfl) v'⟩
end
theorem saveS_s (z : SS) : (saveS z).1.s = z.s ∧ ((saveS z).2 = 0 → (saveS z).1.log = 0) := by
  have hrun : ∀ (n : Nat) (z : SS), (runS n z).1.s = z.s := by
    intro n
    induction n with
    | zero => intro z; rfl
    | succ n ih =>
      intro z
      rcases ho : offS z with _ | _
      · rw [runS_yes n ho, ih]; rfl
      · rw [runS_no n ho]; rfl
  unfold saveS
  split
  · exact ⟨rfl, fun h => absurd h (show ¬ (6 : Int) = 0 by decide)⟩
  · split
    · exact ⟨hrun _ z, fun _ => rfl⟩
    · exact ⟨hrun _ z, fun h => absurd h (show ¬ (14 : Int) = 0 by decide)⟩
/-- what Add comes to -/
def RefAdd (W : World) (B rb : Nat) (r : SS × Int) (e : Ending) (w' : World) : Prop := e = .returned (.int .i64 r.2) ∧ W.grownBy w' (some rb) ∧ ∃ v', RAt w' rb r.1 v' ∧ FRow w' B v' r.1.s.fams
/-- while it goes -/
structure RG (W : World) (B rb : Nat) (z : SS) (v : Value) (e : Ev) (w : World) : Prop where
  at_ : RAt w rb z v
  row : FRow w B v z.s.fams
  ev : Blk w W.heap.size 61 (evCs e)
  only : W.grownBy w (some rb)
  lt : rb < W.heap.size
  big : B ≤ W.heap.size
section
variable {W w w' : World} {B rb : Nat} {z : SS} {v : Value} {e : Ev}
theorem RG.start (h : RAt W rb z v) (hr : FRow W B v z.s.fams) (hB : B ≤ W.heap.size) : RG W B rb z v e (W.alloc (.cells (evCs e) 61)) := by
  have hb : Below W.heap.size W (W.alloc (.cells (evCs e) 61)) := (Below.refl _ _).alloc (Nat.le_refl _) _
  exact ⟨h.below' hb, hr.below hb, Blk.new W _ _, only_of_below hb _, Blk.lt h, hB⟩
theorem RG.keep (h : RG W B rb z v e w) (hb : Below w.heap.size w w') : RG W B rb z v e w' := ⟨h.at_.below' hb, h.row.below hb, h.ev.below' hb, only_below h.only hb, h.lt, h.big⟩
theorem RG.turn (h : RG W B rb z v e w) {z' : SS} (ha : RAt w' rb z' v) (hs : z'.s = z.s) (hg : w.grownBy w' (some rb)) : RG W B rb z' v e w' :=
  ⟨ha, by rw [hs]; exact h.row.kept hg (h.at_.apart h.row), h.ev.grown hg (by simpa using h.ev.ne_ h.at_ (by decide)), only_trans h.only hg, h.lt, h.big⟩
theorem RG.done (h : RG W B rb z v e w) (c : Int) : RefAdd W B rb (z, c) (.returned (.int .i64 c)) w := ⟨rfl, h.only, v, h.at_, h.row⟩
theorem RG.twelve {kd i : Int} {cl su sc : ByteArray} {ge ma us : Int} {re : ByteArray} {de : Bool} {id ti : Int} (h : RG W B rb z v ⟨kd, ⟨i, cl, su, sc, ge, ma, us, re, de⟩, id, ti⟩ w) :
    w.cell? ⟨W.heap.size, 0, none⟩ = some (.int .i64 kd) ∧ w.cell? ⟨W.heap.size, 1, none⟩ = some (.int .i64 i) ∧ w.cell? ⟨W.heap.size, 2, none⟩ = some (.string cl) ∧ w.cell? ⟨W.heap.size, 3, none⟩ = some (.string su) ∧ w.cell? ⟨W.heap.size, 4, none⟩ = some (.string sc) ∧ w.cell? ⟨W.heap.size, 5, none⟩ = some (.int .i64 ge) ∧
    w.cell? ⟨W.heap.size, 6, none⟩ = some (.int .i64 ma) ∧ w.cell? ⟨W.heap.size, 7, none⟩ = some (.int .i64 us) ∧ w.cell? ⟨W.heap.size, 8, none⟩ = some (.string re) ∧ w.cell? ⟨W.heap.size, 9, none⟩ = some (.bool de) ∧ w.cell? ⟨W.heap.size, 10, none⟩ = some (.int .i64 id) ∧ w.cell? ⟨W.heap.size, 11, none⟩ = some (.int .i64 ti) :=
  ⟨h.ev.cell 0, h.ev.cell 1, h.ev.cell 2, h.ev.cell 3, h.ev.cell 4, h.ev.cell 5, h.ev.cell 6, h.ev.cell 7, h.ev.cell 8, h.ev.cell 9, h.ev.cell 10, h.ev.cell 11⟩
theorem RG.drew (h : RG W B rb z v e w) : RG W B rb z v e w.drew := ⟨h.at_, h.row, h.ev, only_drew h.only, h.lt, h.big⟩
theorem RG.now (h : RG W B rb z v e w) : B ≤ w.heap.size := Nat.le_trans h.big h.only.size
theorem RG.three {ck nx : Int} {L : List Fam} {lg wr : Int} {off : Bool} {lf : Int} {dn : Bool} (h : RG W B rb ⟨⟨ck, nx, L⟩, lg, wr, off, lf, dn⟩ v e w) : w.cell? ⟨rb, 0, none⟩ = some (.int .i64 ck) ∧ w.cell? ⟨rb, 1, none⟩ = some (.int .i64 nx) ∧ w.cell? ⟨rb, 2, none⟩ = some v := ⟨Blk.cell h.at_ 0, Blk.cell h.at_ 1, Blk.cell h.at_ 2⟩
theorem RG.some_ (h : RG W B rb z v e w) : w.cell? ⟨rb, 0, none⟩ = some (.int .i64 z.s.clock) ∧ w.cell? ⟨rb, 1, none⟩ = some (.int .i64 z.s.next) ∧ w.cell? ⟨rb, 2, none⟩ = some v ∧ w.cell? ⟨rb, 3, none⟩ = some (.int .i64 z.log) ∧ w.cell? ⟨rb, 7, none⟩ = some (.bool z.down) ∧ (∀ j, w.frozen? ⟨rb, j, none⟩ = false) ∧ rb < w.heap.size :=
  ⟨Blk.cell h.at_ 0, Blk.cell h.at_ 1, Blk.cell h.at_ 2, Blk.cell h.at_ 3, Blk.cell h.at_ 7, Blk.frozen h.at_, Blk.lt h.at_⟩
end
def NewRef (W : World) (e : Ending) (w' : World) : Prop := ∃ rb, e = .returned (.pointer (some ⟨rb, 0, none⟩)) ∧ RAt w' rb newS (.slice none 0 0) ∧ W.heap.size ≤ rb ∧ Below W.heap.size W w'
theorem new_store (W : World) : Calls Tryz.prog 16 #[] W (NewRef W) := by
  go_enter Tryz.func16, Tryz.ntmps16
  go_wp2_with fail
  go_ret
  exact ⟨_, rfl, Blk.new W _ _, Nat.le_refl _, (Below.refl _ _).alloc (Nat.le_refl _) _⟩
section
variable (B rb : Nat) (z : SS) (v : Value) (ev : Ev) (W : World)
theorem ref_add_down (h : RAt W rb z v) (hr : FRow W B v z.s.fams) (hB : B ≤ W.heap.size) (hd : z.down = true) :
    Calls Tryz.prog 19 #[.pointer (some ⟨rb, 0, none⟩), evVal ev] W (RefAdd W B rb (addS z ev)) := by
  rw [addS_down hd]
  have H := Lib.hid (RG.start (e := ev) h hr hB)
  obtain ⟨kd, ⟨i, cl, su, sc, ge, ma, us, re, de⟩, id, ti⟩ := ev
  obtain ⟨c0, c1, c2, c3, c7, hz, hlt⟩ := H.out.some_
  rw [hd] at c7
  clear h hr hd
  unfold evCs at *
  unfold evVal evCs
  dsimp only at *
  go_enter Tryz.func19, Tryz.ntmps19
  go_wp2_with fail
  go_ret
  exact H.out.done 6
theorem ref_add_bad (h : RAt W rb z v) (hr : FRow W B v z.s.fams) (hB : B ≤ W.heap.size) (hd : z.down = false) (hs : ev.fam.short 1000) (he : evB ev = false) :
    Calls Tryz.prog 19 #[.pointer (some ⟨rb, 0, none⟩), evVal ev] W (RefAdd W B rb (addS z ev)) := by
  rw [addS_bad hd he]
  have H := Lib.hid (RG.start (e := ev) h hr hB)
  have HY := Lib.hid (fun w => ref_may ev w hs)
  rw [he] at HY
  clear he hs
  obtain ⟨kd, ⟨i, cl, su, sc, ge, ma, us, re, de⟩, id, ti⟩ := ev
  obtain ⟨c0, c1, c2, c3, c7, hz, hlt⟩ := H.out.some_
  obtain ⟨e0, e1, e2, e3, e4, e5, e6, e7, e8, e9, e10, e11⟩ := H.out.twelve
  rw [hd] at c7
  clear h hr hd
  unfold evVal at HY
  unfold evCs at *
  unfold evVal evCs
  dsimp only at *
  go_enter Tryz.func19, Tryz.ntmps19
  go_wp2_with fail
  go_at_call 44
  refine (HY.out _).mono ?_
  rintro e w1 ⟨rfl, hb⟩
  have H1 := Lib.hid (H.out.keep hb)
  clear hb
  go_wp2_with fail
  go_ret
  exact H1.out.done 1
end
set_option maxHeartbeats 4000000 in
theorem ref_add_yes (B rb : Nat) (z : SS) (v : Value) (ev : Ev) (W : World) (h : RAt W rb z v) (hr : FRow W B v z.s.fams) (hB : B ≤ W.heap.size) (hok : StOk z.s) (hd : z.down = false) (hs : ev.fam.short 1000) (he : evB ev = true) (hll : z.s.fams.length ≤ 1000000) (hlg : 0 ≤ z.log ∧ z.log ≤ 1000000) :
    Calls Tryz.prog 19 #[.pointer (some ⟨rb, 0, none⟩), evVal ev] W (RefAdd W B rb (addS z ev)) := by
  have H := Lib.hid (RG.start (e := ev) h hr hB)
  have HY := Lib.hid (fun w => ref_may ev w hs)
  rw [he] at HY
  obtain ⟨sa, sc, rfl⟩ := hr.slice
  have HAP : Hid (∀ w, FRow w B (.slice sa z.s.fams.length sc) z.s.fams → Calls Tryz.prog 45 #[stVal z.s (.slice sa z.s.fams.length sc), evVal ev] w (GotAs w (applyS z.s ev).clock (applyS z.s ev).next (applyS z.s ev).fams)) :=
    Lib.hid fun w hr => (ref_apply B _ z.s ev w hr hok he).mono fun _ _ h => got_as h
  have HFULL := Lib.hid (fun hl => addS_full (z := z) (e := ev) hd he hl)
  have HONE := Lib.hid (fun hl h16 => addS_one (z := z) (e := ev) hd he hl h16)
  have HSAVE := Lib.hid (fun hl h16 => addS_save (z := z) (e := ev) hd he hl h16)
  have HOL := Lib.hid hll
  obtain ⟨hlg0, hlg1⟩ := hlg
  clear he hs h hr hok hll
  obtain ⟨⟨ck, nx, L⟩, lg, wr, of, lf, dn⟩ := z
  dsimp only at hd
  subst hd
  generalize addS ⟨⟨ck, nx, L⟩, lg, wr, of, lf, false⟩ ev = R at *
  generalize hs2 : applyS ⟨ck, nx, L⟩ ev = s2 at *
  clear hs2
  obtain ⟨ck2, nx2, L2⟩ := s2
  obtain ⟨kd, ⟨i, cl, su, scp, ge, ma, us, re, de⟩, id, ti⟩ := ev
  obtain ⟨c0, c1, c2, c3, c7, hz, hlt⟩ := H.out.some_
  obtain ⟨e0, e1, e2, e3, e4, e5, e6, e7, e8, e9, e10, e11⟩ := H.out.twelve
  unfold evVal at HY
  unfold GotAs stVal stCs evVal at HAP
  unfold evCs at *
  unfold evVal evCs
  dsimp only at *
  go_enter Tryz.func19, Tryz.ntmps19
  go_wp2_with fail
  go_at_call 44
  refine (HY.out _).mono ?_
  rintro e w1 ⟨rfl, hb⟩
  have H1 := Lib.hid (H.out.keep hb)
  clear hb H HY c0 c1 c2 c3 c7 hz hlt e0 e1 e2 e3 e4 e5 e6 e7 e8 e9 e10 e11
  obtain ⟨c0, c1, c2, c3, c7, hz, hlt⟩ := H1.out.some_
  obtain ⟨e0, e1, e2, e3, e4, e5, e6, e7, e8, e9, e10, e11⟩ := H1.out.twelve
  dsimp only at *
  go_wp2_with fail
  have HSD := H1.out.drew
  clear c0 c1 c2 c3 c7 hz hlt e0 e1 e2 e3 e4 e5 e6 e7 e8 e9 e10 e11
  refine wp_region_tail (RG W B rb ⟨⟨ck, nx, L⟩, lg, wr, of, lf, false⟩ (.slice sa L.length sc) ⟨kd, ⟨i, cl, su, scp, ge, ma, us, re, de⟩, id, ti⟩) [7] (by kernel_rfl) ?_
  refine wpAnyT_take 2 (i := 0) (v := ?v0) rfl (by kernel_rfl) (by kernel_rfl) (by kernel_rfl) (by kernel_rfl) (by kernel_rfl) (fun _ _ _ h => h) (by rfl) ?hy0 (by assumption) ?rest0
  case hy0 => (intro w hSw; obtain ⟨c0, c1, c2⟩ := hSw.three; obtain ⟨e0, e1, e2, e3, e4, e5, e6, e7, e8, e9, e10, e11⟩ := hSw.twelve; go_simp; (try with_reducible rfl))
  simp only [Act.put]
  refine wpAnyT_take 2 (i := 1) (v := ?v1) rfl (by kernel_rfl) (by kernel_rfl) (by kernel_rfl) (by kernel_rfl) (by kernel_rfl) (fun _ _ _ h => h) (by rfl) ?hy1 (by assumption) ?rest1
  case hy1 => (intro w hSw; obtain ⟨c0, c1, c2⟩ := hSw.three; obtain ⟨e0, e1, e2, e3, e4, e5, e6, e7, e8, e9, e10, e11⟩ := hSw.twelve; go_simp; (try with_reducible rfl))
  simp only [Act.put]
  refine wpAnyT_take 2 (i := 2) (v := ?v2) rfl (by kernel_rfl) (by kernel_rfl) (by kernel_rfl) (by kernel_rfl) (by kernel_rfl) (fun _ _ _ h => h) (by rfl) ?hy2 (by assumption) ?rest2
  case hy2 => (intro w hSw; obtain ⟨c0, c1, c2⟩ := hSw.three; obtain ⟨e0, e1, e2, e3, e4, e5, e6, e7, e8, e9, e10, e11⟩ := hSw.twelve; go_simp; (try with_reducible rfl))
  simp only [Act.put]
  refine wpAnyT_take 2 (i := 3) (v := ?v3) rfl (by kernel_rfl) (by kernel_rfl) (by kernel_rfl) (by kernel_rfl) (by kernel_rfl) (fun _ _ _ h => h) (by rfl) ?hy3 (by assumption) ?rest3
  case hy3 => (intro w hSw; obtain ⟨c0, c1, c2⟩ := hSw.three; obtain ⟨e0, e1, e2, e3, e4, e5, e6, e7, e8, e9, e10, e11⟩ := hSw.twelve; go_simp; (try with_reducible rfl))
  simp only [Act.put]
  refine wpAnyT_take 2 (i := 4) (v := ?v4) rfl (by kernel_rfl) (by kernel_rfl) (by kernel_rfl) (by kernel_rfl) (by kernel_rfl) (fun _ _ _ h => h) (by rfl) ?hy4 (by assumption) ?rest4
  case hy4 => (intro w hSw; obtain ⟨c0, c1, c2⟩ := hSw.three; obtain ⟨e0, e1, e2, e3, e4, e5, e6, e7, e8, e9, e10, e11⟩ := hSw.twelve; go_simp; (try with_reducible rfl))
  simp only [Act.put]
  refine wpAnyT_two (i := 5) (j := 6) (by kernel_rfl) rfl rfl ?cA ?cB
  case' cA =>
    intro K5 hK5
    go_simp
    go_at_call 45
    refine (HAP.out _ HSD.row).mono ?_
    rintro r w2 ⟨a1, ac, rfl, hr1, hb⟩
    have HSD2 := HSD.keep hb
    have hr2 := hr1.mono (B' := B) HSD.now
    try dsimp only
    refine hK5.out _ _ (fun _ => HSD2) ?_
    try simp only [Act.put]
    refine wpAnyT_one (i := 6) (by kernel_rfl) rfl ?_
    intro K6 hK6
    go_simp
    have hb3 := (Below.refl w2.heap.size w2).alloc (Nat.le_refl _) (.cells #[.int .i64 0, .int .i64 0, .slice none 0 0] 36)
    have HSD3 := HSD2.keep hb3
    have hz := Blk.new w2 36 #[.int .i64 0, .int .i64 0, .slice none 0 0]
    have hr3 := hr2.below hb3
    refine hK6.out _ _ (fun _ => HSD3) ?_
    try simp only [Act.put]
    obtain ⟨hz1, hz2⟩ := st_sets hz (.int .i64 ck2) (.int .i64 nx2) (.slice a1 L2.length ac)
    have hb4 := hb3.grown hz2 hb3.size (fun _ hk => by cases hk; exact Nat.le_refl _)
    have hne : Value.ownBlock (.slice a1 L2.length ac) ≠ some w2.heap.size := fun he => by have := (hr2.lt _ he).2; omega
    have HS := Lib.hid (HSD2.keep hb4)
    have HT := Lib.hid hz1
    have HR := Lib.hid (hr3.kept hz2 hne)
    have hlt2 : w2.heap.size < (w2.alloc (.cells #[.int .i64 0, .int .i64 0, .slice none 0 0] 36)).heap.size := hz.lt
    obtain ⟨d0, d1, d2⟩ := two_cells hz
    have dz := hz.frozen
    generalize w2.alloc (.cells #[.int .i64 0, .int .i64 0, .slice none 0 0] 36) = w2a at *
    refine wpAnyT_one (i := 7) (by kernel_rfl) rfl ?_
    intro K7 hK7
    go_simp
    try dsimp only
    refine hK7.out _ _ (fun h => absurd h (by decide)) ?_
    refine wpAnyT_done (by kernel_rfl) ?_ _
    have hgb : W.heap.size ≤ w2.heap.size := HSD2.only.size
    generalize w2.heap.size = tb at *
    generalize ((w2a.setCell ⟨tb, 0, none⟩ (.int .i64 ck2)).setCell ⟨tb, 1, none⟩ (.int .i64 nx2)).setCell ⟨tb, 2, none⟩ (.slice a1 L2.length ac) = w3 at *
    clear hz hz1 hz2 hb3 hb4 hr1 hr2 hr3 HSD HSD2 HSD3 hb H1 d0 d1 d2 dz
    clear hlt2
  case' cB =>
    intro K6 hK6
    go_simp
    have hb3 : Below w1.drew.heap.size w1.drew (w1.alloc (.cells #[.int .i64 0, .int .i64 0, .slice none 0 0] 36)).drew := (Below.refl w1.heap.size w1.drew).alloc (Nat.le_refl _) _
    have HSD3 := HSD.keep hb3
    have hz : Blk (w1.alloc (.cells #[.int .i64 0, .int .i64 0, .slice none 0 0] 36)).drew w1.heap.size 36 #[.int .i64 0, .int .i64 0, .slice none 0 0] := Blk.new w1 _ _
    refine hK6.out _ _ (fun _ => HSD3) ?_
    try simp only [Act.put]
    refine wpAnyT_one (i := 5) (by kernel_rfl) rfl ?_
    intro K5 hK5
    go_simp
    go_at_call 45
    have hsz1 : w1.heap.size < (w1.alloc (.cells #[.int .i64 0, .int .i64 0, .slice none 0 0] 36)).drew.heap.size := hz.lt
    have hgb : W.heap.size ≤ w1.heap.size := H1.out.only.size
    generalize (w1.alloc (.cells #[.int .i64 0, .int .i64 0, .slice none 0 0] 36)).drew = w1a at *
    refine (HAP.out _ HSD3.row).mono ?_
    rintro r w2 ⟨a1, ac, rfl, hr1, hb⟩
    have HSD2 := HSD3.keep hb
    have hz0 := hz.below' hb
    have hb2 := below_2 hb3 hb
    have hr2 := hr1.mono (B' := B) HSD3.now
    try dsimp only
    refine hK5.out _ _ (fun _ => HSD2) ?_
    try simp only [Act.put]
    obtain ⟨hz1, hz2⟩ := st_sets hz0 (.int .i64 ck2) (.int .i64 nx2) (.slice a1 L2.length ac)
    have hb4 := hb2.grown hz2 hb2.size (fun _ hk => by cases hk; exact Nat.le_refl _)
    have hne : Value.ownBlock (.slice a1 L2.length ac) ≠ some w1.heap.size := fun he => by have := (hr1.lt _ he).1; omega
    have HS := Lib.hid (HSD.keep hb4)
    have HT := Lib.hid hz1
    have HR := Lib.hid (hr2.kept hz2 hne)
    obtain ⟨d0, d1, d2⟩ := two_cells hz0
    have dz := hz0.frozen
    refine wpAnyT_one (i := 7) (by kernel_rfl) rfl ?_
    intro K7 hK7
    go_simp
    try dsimp only
    refine hK7.out _ _ (fun h => absurd h (by decide)) ?_
    refine wpAnyT_done (by kernel_rfl) ?_ _
    clear HSD3 hsz1 hb hz0
    generalize w1.heap.size = tb at *
    generalize ((w2.setCell ⟨tb, 0, none⟩ (.int .i64 ck2)).setCell ⟨tb, 1, none⟩ (.int .i64 nx2)).setCell ⟨tb, 2, none⟩ (.slice a1 L2.length ac) = w3 at *
    clear hz hz1 hz2 hb3 hb4 hb2 hr1 hr2 HSD HSD2 H1 d0 d1 d2 dz hne
  all_goals
    obtain ⟨d0, d1, d2⟩ := two_cells HT.out
    obtain ⟨c0, c1, c2, c3, c7, hz, hlt⟩ := HS.out.some_
    dsimp only at c0 c1 c2 c3 c7
    by_cases hl : 20 < L2.length
    · have hx := HFULL.out hl
      have HX := Lib.hid hx
      clear hx
      go_wp2_with fail
      go_ret
      rw [HX.out]
      exact HS.out.done 12
    · by_cases h16 : lg = 16
      · have hx := HSAVE.out (by omega) h16
        have HX := Lib.hid hx
        have HA := Lib.hid HS.out.at_
        have HG := Lib.hid HS.out.only
        have HW := Lib.hid HS.out.row
        have HSV := Lib.hid (saveS_s ⟨⟨ck, nx, L⟩, lg, wr, of, lf, false⟩)
        have HRS := Lib.hid (ref_save rb _ _ B w3 HS.out.at_ HS.out.row (by have := HOL.out; dsimp only at this ⊢; omega))
        subst h16
        clear hx HS
        generalize saveS ⟨⟨ck, nx, L⟩, 16, wr, of, lf, false⟩ = Q at *
        obtain ⟨z1, cq⟩ := Q
        dsimp only at *
        go_wp2_with fail
        go_at_call 21
        refine HRS.out.mono ?_
        rintro e w4 ⟨rfl, hra, hg⟩
        have HA4 := Lib.hid hra
        have HG4 := Lib.hid (only_trans HG.out hg)
        have HT4 := Lib.hid (HT.out.grown hg (by simpa using HT.out.ne_ HA.out (by decide)))
        have HR4 := Lib.hid (HR.out.kept hg (HA.out.apart HR.out))
        have HW4 := Lib.hid (HW.out.kept hg (HA.out.apart HW.out))
        clear hra hg HA HG HT HR HW HRS d0 d1 d2 c0 c1 c2 c3 c7 hz hlt
        dsimp only at *
        by_cases hq : cq = 0
        · subst hq
          have hx := HX.out
          rw [if_pos rfl] at hx
          obtain ⟨hs1, hs2⟩ := HSV.out
          have hl0 := hs2 rfl
          have HX := Lib.hid hx
          have HA := HA4
          have HG := HG4
          have HT := HT4
          have HR := HR4
          have HW := HW4
          have HS1 := Lib.hid hs1
          have hlz : z1.log = 0 := hl0
          have HLZ := Lib.hid hlz
          clear hx hs1 hs2 hl0 HA4 HG4 HT4 HR4 HW4 hlz
          rcases ho : offS z1 with _ | _
          · have HO := Lib.hid ho
            clear ho
            go_wp2_with fail
            go_at_call 46
            refine (ref_write_on rb z1 _ w4 HA.out HO.out).mono ?_
            rintro e w5 ⟨rfl, hra, hg⟩
            have HA5 := Lib.hid hra
            have HG5 := Lib.hid (only_trans HG.out hg)
            have HT5 := Lib.hid (HT.out.grown hg (by simpa using HT.out.ne_ HA.out (by decide)))
            have HR5 := Lib.hid (HR.out.kept hg (HA.out.apart HR.out))
            clear hra hg HA HG HT HR
            have hlast : R = (nowS (oneS z1) ⟨ck2, nx2, L2⟩, 0) := by rw [HX.out]; exact lastS_on HO.out
            have HL := Lib.hid hlast
            have hbe := HA5.out.become ((z1).log + 1) ck2 nx2 L2 (.slice a1 L2.length ac)
            have HBE := Lib.hid hbe
            have HBR := Lib.hid (HR5.out.kept hbe.2 (HA5.out.apart HR5.out))
            obtain ⟨d0, d1, d2⟩ := two_cells HT5.out
            have c3 : w5.cell? ⟨rb, 3, none⟩ = some (.int .i64 (z1).log) := Blk.cell HA5.out 3
            have c0 : w5.cell? ⟨rb, 0, none⟩ = some (.int .i64 (oneS z1).s.clock) := Blk.cell HA5.out 0
            have c1 : w5.cell? ⟨rb, 1, none⟩ = some (.int .i64 (oneS z1).s.next) := Blk.cell HA5.out 1
            have c2 : w5.cell? ⟨rb, 2, none⟩ = some (.slice sa L.length sc) := Blk.cell HA5.out 2
            have hfz := Blk.frozen HA5.out
            have hnt : tb ≠ rb := HT5.out.ne_ HA5.out (by decide)
            have hnt' : rb ≠ tb := hnt.symm
            clear hlast hbe
            rw [HLZ.out] at c3 HBE HBR
            have hds : (0 : Int) + 1 = 1 := rfl
            rw [hds] at HBE HBR
            go_wp2_with fail
            go_ret
            rw [HL.out]
            exact ⟨rfl, only_trans HG5.out HBE.out.2, _, (by unfold nowS; rw [show (oneS z1).log + 1 = 1 from by show z1.log + 1 = 1; rw [HLZ.out]; rfl]; exact HBE.out.1), HBR.out⟩
          · have HO := Lib.hid ho
            clear ho
            go_wp2_with fail
            go_at_call 46
            refine (ref_write_off rb z1 _ w4 HA.out HO.out).mono ?_
            rintro e w5 ⟨rfl, hra, hg⟩
            have HA5 := Lib.hid hra
            have HG5 := Lib.hid (only_trans HG.out hg)
            have HW5 := Lib.hid (HW.out.kept hg (HA.out.apart HW.out))
            clear hra hg HA HG HT HR HW
            have hlast : R = (downS z1, 14) := by rw [HX.out]; exact lastS_off HO.out
            have HL := Lib.hid hlast
            clear hlast
            go_wp2_with fail
            go_ret
            rw [HL.out]
            exact ⟨rfl, HG5.out, _, HA5.out, (by rw [show (downS z1).s = z1.s from rfl, HS1.out]; exact HW5.out)⟩
        · have hq' : (cq == 0) = false := by simpa using hq
          have hx := HX.out
          rw [if_neg hq] at hx
          obtain ⟨hs1, hs2⟩ := HSV.out
          have HS1 := Lib.hid hs1
          have HX := Lib.hid hx
          clear hx hs1 hs2
          go_wp2_with fail
          go_ret
          rw [HX.out]
          exact ⟨rfl, HG4.out, _, HA4.out, by rw [HS1.out]; exact HW4.out⟩
      · have hx := HONE.out (by omega) h16
        have HX := Lib.hid hx
        have h16' : (lg == 16) = false := by simpa using h16
        have HA := Lib.hid HS.out.at_
        have HG := Lib.hid HS.out.only
        have HW := Lib.hid HS.out.row
        clear hx HS

        rcases ho : offS (SS.mk ⟨ck, nx, L⟩ lg wr of lf false) with _ | _
        · have HO := Lib.hid ho
          clear ho
          go_wp2_with fail
          go_at_call 46
          refine (ref_write_on rb (SS.mk ⟨ck, nx, L⟩ lg wr of lf false) _ w3 HA.out HO.out).mono ?_
          rintro e w5 ⟨rfl, hra, hg⟩
          have HA5 := Lib.hid hra
          have HG5 := Lib.hid (only_trans HG.out hg)
          have HT5 := Lib.hid (HT.out.grown hg (by simpa using HT.out.ne_ HA.out (by decide)))
          have HR5 := Lib.hid (HR.out.kept hg (HA.out.apart HR.out))
          clear hra hg HA HG HT HR
          have hlast : R = (nowS (oneS (SS.mk ⟨ck, nx, L⟩ lg wr of lf false)) ⟨ck2, nx2, L2⟩, 0) := by rw [HX.out]; exact lastS_on HO.out
          have HL := Lib.hid hlast
          have hbe := HA5.out.become (((SS.mk ⟨ck, nx, L⟩ lg wr of lf false)).log + 1) ck2 nx2 L2 (.slice a1 L2.length ac)
          have HBE := Lib.hid hbe
          have HBR := Lib.hid (HR5.out.kept hbe.2 (HA5.out.apart HR5.out))
          obtain ⟨d0, d1, d2⟩ := two_cells HT5.out
          have c3 : w5.cell? ⟨rb, 3, none⟩ = some (.int .i64 ((SS.mk ⟨ck, nx, L⟩ lg wr of lf false)).log) := Blk.cell HA5.out 3
          have c0 : w5.cell? ⟨rb, 0, none⟩ = some (.int .i64 (oneS (SS.mk ⟨ck, nx, L⟩ lg wr of lf false)).s.clock) := Blk.cell HA5.out 0
          have c1 : w5.cell? ⟨rb, 1, none⟩ = some (.int .i64 (oneS (SS.mk ⟨ck, nx, L⟩ lg wr of lf false)).s.next) := Blk.cell HA5.out 1
          have c2 : w5.cell? ⟨rb, 2, none⟩ = some (.slice sa L.length sc) := Blk.cell HA5.out 2
          have hfz := Blk.frozen HA5.out
          have hnt : tb ≠ rb := HT5.out.ne_ HA5.out (by decide)
          have hnt' : rb ≠ tb := hnt.symm
          clear hlast hbe
          try dsimp only at c3 c0 c1 c2 HBE
          go_wp2_with fail
          go_ret
          rw [HL.out]
          exact ⟨rfl, only_trans HG5.out HBE.out.2, _, HBE.out.1, HBR.out⟩
        · have HO := Lib.hid ho
          clear ho
          go_wp2_with fail
          go_at_call 46
          refine (ref_write_off rb (SS.mk ⟨ck, nx, L⟩ lg wr of lf false) _ w3 HA.out HO.out).mono ?_
          rintro e w5 ⟨rfl, hra, hg⟩
          have HA5 := Lib.hid hra
          have HG5 := Lib.hid (only_trans HG.out hg)
          have HW5 := Lib.hid (HW.out.kept hg (HA.out.apart HW.out))
          clear hra hg HA HG HT HR HW
          have hlast : R = (downS (SS.mk ⟨ck, nx, L⟩ lg wr of lf false), 14) := by rw [HX.out]; exact lastS_off HO.out
          have HL := Lib.hid hlast
          clear hlast
          go_wp2_with fail
          go_ret
          rw [HL.out]
          exact ⟨rfl, HG5.out, _, HA5.out, HW5.out⟩
end Go.Proofs.YtdogilbnbbeljaaGreatDoor
