/-
  rotorref's store: NewStore, Add.
-/
import Derived.Test.YtckohmhhcknmaaaGreatDoorP11
import Derived.Test.YtckohmhhcknmaaaGreatDoorP12
import Derived.Test.YtckohmhhcknmaaaGreatDoorP13
import Derived.Test.YtckohmhhcknmaaaGreatDoorP17
import Derived.Test.YtckohmhhcknmaaaGreatDoorP08
import Derived.Test.YtckohmhhcknmaaaGreatDoorP04
import Derived.Test.YtckohmhhcknmaaaGreatDoorP14
namespace Go.Proofs.YtckohmhhcknmaaaGreatDoor
open Go.RowKit Go.Sort

section
variable {w w' : World} {rb : Nat} {z : SS} {v : Value}
theorem RAt.below' (h : RAt w rb z v) (hb : Below w.heap.size w w') : RAt w' rb z v := Blk.below' h hb
theorem RAt.apart {B : Nat} {v' : Value} {L : List Fam} (h : RAt w rb z v) (hr : FRow w B v' L) : v'.ownBlock ≠ some rb := hr.apart h (by decide)
/-- all is told anew -/
theorem RAt.become (h : RAt w rb z v) (n ck nx : Int) (L : List Fam) (v' : Value) :
    RAt ((((w.setCell ⟨rb, 3, none⟩ (.int .i64 n)).setCell ⟨rb, 0, none⟩ (.int .i64 ck)).setCell ⟨rb, 1, none⟩ (.int .i64 nx)).setCell ⟨rb, 2, none⟩ v') rb ⟨⟨ck, nx, L⟩, n, z.writes, z.off, z.left, z.down⟩ v' ∧
      w.grownBy ((((w.setCell ⟨rb, 3, none⟩ (.int .i64 n)).setCell ⟨rb, 0, none⟩ (.int .i64 ck)).setCell ⟨rb, 1, none⟩ (.int .i64 nx)).setCell ⟨rb, 2, none⟩ v') (some rb) := by
  have e0 := Blk.put_ h 3 (.int .i64 n) (cs' := refCs (logS z n) v) rfl
  have e1 := Blk.put_ e0 0 (.int .i64 ck) (cs' := refCs ⟨⟨ck, z.s.next, z.s.fams⟩, n, z.writes, z.off, z.left, z.down⟩ v) rfl
  have e2 := Blk.put_ e1 1 (.int .i64 nx) (cs' := refCs ⟨⟨ck, nx, z.s.fams⟩, n, z.writes, z.off, z.left, z.down⟩ v) rfl
  have e3 := Blk.put_ e2 2 v' (cs' := refCs ⟨⟨ck, nx, L⟩, n, z.writes, z.off, z.left, z.down⟩ v') rfl
  have g0 := only_set1 w rb ⟨rb, 3, none⟩ rfl (.int .i64 n)
  have g1 := only_setCell g0 (p := ⟨rb, 0, none⟩) (.inl rfl) (.int .i64 ck)
  have g2 := only_setCell g1 (p := ⟨rb, 1, none⟩) (.inl rfl) (.int .i64 nx)
  exact ⟨e3, only_setCell g2 (p := ⟨rb, 2, none⟩) (.inl rfl) v'⟩
end
theorem saveS_s (z : SS) : (saveS z).1.s = z.s ∧ ((saveS z).2 = 0 → (saveS z).1.log = 0) := by
  have hrun : ∀ (n : Nat) (z : SS), (runS n z).1.s = z.s := by
    intro n
    induction n with
    | zero => intro z; rfl
    | succ n ih =>
      intro z
      rcases ho : offS z with _ | _
      · rw [runS_yes n ho, ih]; rfl
      · rw [runS_no n ho]; rfl
  unfold saveS
  split
  · exact ⟨rfl, fun h => absurd h (show ¬ (6 : Int) = 0 by decide)⟩
  · split
    · exact ⟨hrun _ z, fun _ => rfl⟩
    · exact ⟨hrun _ z, fun h => absurd h (show ¬ (14 : Int) = 0 by decide)⟩
/-- what Add comes to -/
def RefAdd (W : World) (B rb : Nat) (r : SS × Int) (e : Ending) (w' : World) : Prop := e = .returned (.int .i64 r.2) ∧ W.grownBy w' (some rb) ∧ ∃ v', RAt w' rb r.1 v' ∧ FRow w' B v' r.1.s.fams
/-- while it goes -/
structure RG (W : World) (B rb : Nat) (z : SS) (v : Value) (e : Ev) (w : World) : Prop where
  at_ : RAt w rb z v
  row : FRow w B v z.s.fams
  ev : Blk w W.heap.size 137 (evCs e)
  only : W.grownBy w (some rb)
  lt : rb < W.heap.size
  big : B ≤ W.heap.size
section
variable {W w w' : World} {B rb : Nat} {z : SS} {v : Value} {e : Ev}
theorem RG.start (h : RAt W rb z v) (hr : FRow W B v z.s.fams) (hB : B ≤ W.heap.size) : RG W B rb z v e (W.alloc (.cells (evCs e) 137)) := by
  have hb : Below W.heap.size W (W.alloc (.cells (evCs e) 137)) := (Below.refl _ _).alloc (Nat.le_refl _) _
  exact ⟨h.below' hb, hr.below hb, Blk.new W _ _, only_of_below hb _, Blk.lt h, hB⟩
theorem RG.keep (h : RG W B rb z v e w) (hb : Below w.heap.size w w') : RG W B rb z v e w' := ⟨h.at_.below' hb, h.row.below hb, h.ev.below' hb, only_below h.only hb, h.lt, h.big⟩
theorem RG.turn (h : RG W B rb z v e w) {z' : SS} (ha : RAt w' rb z' v) (hs : z'.s = z.s) (hg : w.grownBy w' (some rb)) : RG W B rb z' v e w' :=
  ⟨ha, by rw [hs]; exact h.row.kept hg (h.at_.apart h.row), h.ev.grown hg (by simpa using h.ev.ne_ h.at_ (by decide)), only_trans h.only hg, h.lt, h.big⟩
theorem RG.done (h : RG W B rb z v e w) (c : Int) : RefAdd W B rb (z, c) (.returned (.int .i64 c)) w := ⟨rfl, h.only, v, h.at_, h.row⟩
theorem RG.twelve {kd i : Int} {cl su sc : ByteArray} {ge ma us : Int} {re : ByteArray} {de : Bool} {id ti : Int} (h : RG W B rb z v ⟨kd, ⟨i, cl, su, sc, ge, ma, us, re, de⟩, id, ti⟩ w) :
    w.cell? ⟨W.heap.size, 0, none⟩ = some (.int .i64 kd) ∧ w.cell? ⟨W.heap.size, 1, none⟩ = some (.int .i64 i) ∧ w.cell? ⟨W.heap.size, 2, none⟩ = some (.string cl) ∧ w.cell? ⟨W.heap.size, 3, none⟩ = some (.string su) ∧ w.cell? ⟨W.heap.size, 4, none⟩ = some (.string sc) ∧ w.cell? ⟨W.heap.size, 5, none⟩ = some (.int .i64 ge) ∧
    w.cell? ⟨W.heap.size, 6, none⟩ = some (.int .i64 ma) ∧ w.cell? ⟨W.heap.size, 7, none⟩ = some (.int .i64 us) ∧ w.cell? ⟨W.heap.size, 8, none⟩ = some (.string re) ∧ w.cell? ⟨W.heap.size, 9, none⟩ = some (.bool de) ∧ w.cell? ⟨W.heap.size, 10, none⟩ = some (.int .i64 id) ∧ w.cell? ⟨W.heap.size, 11, none⟩ = some (.int .i64 ti) :=
  ⟨h.ev.cell 0, h.ev.cell 1, h.ev.cell 2, h.ev.cell 3, h.ev.cell 4, h.ev.cell 5, h.ev.cell 6, h.ev.cell 7, h.ev.cell 8, h.ev.cell 9, h.ev.cell 10, h.ev.cell 11⟩
theorem RG.drew (h : RG W B rb z v e w) : RG W B rb z v e w.drew := ⟨h.at_, h.row, h.ev, only_drew h.only, h.lt, h.big⟩
theorem RG.now (h : RG W B rb z v e w) : B ≤ w.heap.size := Nat.le_trans h.big h.only.size
theorem RG.three {ck nx : Int} {L : List Fam} {lg wr : Int} {off : Bool} {lf : Int} {dn : Bool} (h : RG W B rb ⟨⟨ck, nx, L⟩, lg, wr, off, lf, dn⟩ v e w) : w.cell? ⟨rb, 0, none⟩ = some (.int .i64 ck) ∧ w.cell? ⟨rb, 1, none⟩ = some (.int .i64 nx) ∧ w.cell? ⟨rb, 2, none⟩ = some v := ⟨Blk.cell h.at_ 0, Blk.cell h.at_ 1, Blk.cell h.at_ 2⟩
theorem RG.some_ (h : RG W B rb z v e w) : w.cell? ⟨rb, 0, none⟩ = some (.int .i64 z.s.clock) ∧ w.cell? ⟨rb, 1, none⟩ = some (.int .i64 z.s.next) ∧ w.cell? ⟨rb, 2, none⟩ = some v ∧ w.cell? ⟨rb, 3, none⟩ = some (.int .i64 z.log) ∧ w.cell? ⟨rb, 7, none⟩ = some (.bool z.down) ∧ (∀ j, w.frozen? ⟨rb, j, none⟩ = false) ∧ rb < w.heap.size :=
  ⟨Blk.cell h.at_ 0, Blk.cell h.at_ 1, Blk.cell h.at_ 2, Blk.cell h.at_ 3, Blk.cell h.at_ 7, Blk.frozen h.at_, Blk.lt h.at_⟩
end
def NewRef (W : World) (e : Ending) (w' : World) : Prop := ∃ rb, e = .returned (.pointer (some ⟨rb, 0, none⟩)) ∧ RAt w' rb newS (.slice none 0 0) ∧ W.heap.size ≤ rb ∧ Below W.heap.size W w'
theorem new_store (W : World) : Calls Tryz.prog 21 #[] W (NewRef W) := by
  go_enter Tryz.func21, Tryz.ntmps21
  go_wp2_with fail
  go_ret
  exact ⟨_, rfl, Blk.new W _ _, Nat.le_refl _, (Below.refl _ _).alloc (Nat.le_refl _) _⟩
section
variable (B rb : Nat) (z : SS) (v : Value) (ev : Ev) (W : World)
theorem ref_add_down (h : RAt W rb z v) (hr : FRow W B v z.s.fams) (hB : B ≤ W.heap.size) (hd : z.down = true) :
    Calls Tryz.prog 67 #[.pointer (some ⟨rb, 0, none⟩), evVal ev] W (RefAdd W B rb (addS z ev)) := by
  rw [addS_down hd]
  have H := Lib.hid (RG.start (e := ev) h hr hB)
  obtain ⟨kd, ⟨i, cl, su, sc, ge, ma, us, re, de⟩, id, ti⟩ := ev
  obtain ⟨c0, c1, c2, c3, c7, hz, hlt⟩ := H.out.some_
  rw [hd] at c7
  clear h hr hd
  unfold evCs at *
  unfold evVal evCs
  dsimp only at *
  go_enter Tryz.func67, Tryz.ntmps67
  go_wp2_with fail
  go_ret
  exact H.out.done 6
theorem ref_add_bad (h : RAt W rb z v) (hr : FRow W B v z.s.fams) (hB : B ≤ W.heap.size) (hd : z.down = false) (hs : ev.fam.short 1000) (he : evB ev = false) :
    Calls Tryz.prog 67 #[.pointer (some ⟨rb, 0, none⟩), evVal ev] W (RefAdd W B rb (addS z ev)) := by
  rw [addS_bad hd he]
  have H := Lib.hid (RG.start (e := ev) h hr hB)
  have HY := Lib.hid (fun w => ref_may ev w hs)
  rw [he] at HY
  clear he hs
  obtain ⟨kd, ⟨i, cl, su, sc, ge, ma, us, re, de⟩, id, ti⟩ := ev
  obtain ⟨c0, c1, c2, c3, c7, hz, hlt⟩ := H.out.some_
  obtain ⟨e0, e1, e2, e3, e4, e5, e6, e7, e8, e9, e10, e11⟩ := H.out.twelve
  rw [hd] at c7
  clear h hr hd
  unfold evVal at HY
  unfold evCs at *
  unfold evVal evCs
  dsimp only at *
  go_enter Tryz.func67, Tryz.ntmps67
  go_wp2_with fail
  go_at_call 114
  refine (HY.out _).mono ?_
  rintro e w1 ⟨rfl, hb⟩
  have H1 := Lib.hid (H.out.keep hb)
  clear hb
  go_wp2_with fail
  go_ret
  exact H1.out.done 1
end
set_option maxHeartbeats 4000000 in
theorem ref_add_yes (B rb : Nat) (z : SS) (v : Value) (ev : Ev) (W : World) (h : RAt W rb z v) (hr : FRow W B v z.s.fams) (hB : B ≤ W.heap.size) (hok : StOk z.s) (hd : z.down = false) (hs : ev.fam.short 1000) (he : evB ev = true) (hll : z.s.fams.length ≤ 1000000) (hlg : 0 ≤ z.log ∧ z.log ≤ 1000000) :
    Calls Tryz.prog 67 #[.pointer (some ⟨rb, 0, none⟩), evVal ev] W (RefAdd W B rb (addS z ev)) := by
  have H := Lib.hid (RG.start (e := ev) h hr hB)
  have HY := Lib.hid (fun w => ref_may ev w hs)
  rw [he] at HY
  obtain ⟨sa, sc, rfl⟩ := hr.slice
  have HAP : Hid (∀ w, FRow w B (.slice sa z.s.fams.length sc) z.s.fams → Calls Tryz.prog 115 #[stVal z.s (.slice sa z.s.fams.length sc), evVal ev] w (GotAs w (applyS z.s ev).clock (applyS z.s ev).next (applyS z.s ev).fams)) :=
    Lib.hid fun w hr => (ref_apply B _ z.s ev w hr hok he).mono fun _ _ h => got_as h
  have HFULL := Lib.hid (fun hl => addS_full (z := z) (e := ev) hd he hl)
  have HONE := Lib.hid (fun hl h16 => addS_one (z := z) (e := ev) hd he hl h16)
  have HSAVE := Lib.hid (fun hl h16 => addS_save (z := z) (e := ev) hd he hl h16)
  have HOL := Lib.hid hll
  obtain ⟨hlg0, hlg1⟩ := hlg
  clear he hs h hr hok hll
  obtain ⟨⟨ck, nx, L⟩, lg, wr, of, lf, dn⟩ := z
  dsimp only at hd
  subst hd
  generalize addS ⟨⟨ck, nx, L⟩, lg, wr, of, lf, false⟩ ev = R at *
  generalize hs2 : applyS ⟨ck, nx, L⟩ ev = s2 at *
  clear hs2
  obtain ⟨ck2, nx2, L2⟩ := s2
  obtain ⟨kd, ⟨i, cl, su, scp, ge, ma, us, re, de⟩, id, ti⟩ := ev
  obtain ⟨c0, c1, c2, c3, c7, hz, hlt⟩ := H.out.some_
  obtain ⟨e0, e1, e2, e3, e4, e5, e6, e7, e8, e9, e10, e11⟩ := H.out.twelve
  unfold evVal at HY
  unfold GotAs stVal stCs evVal at HAP
  unfold evCs at *
  unfold evVal evCs
  dsimp only at *
  go_enter Tryz.func67, Tryz.ntmps67
  go_wp2_with fail
  go_at_call 114
  refine (HY.out _).mono ?_
  rintro e w1 ⟨rfl, hb⟩
  have H1 := Lib.hid (H.out.keep hb)
  clear hb H HY c0 c1 c2 c3 c7 hz hlt e0 e1 e2 e3 e4 e5 e6 e7 e8 e9 e10 e11
  obtain ⟨c0, c1, c2, c3, c7, hz, hlt⟩ := H1.out.some_
  obtain ⟨e0, e1, e2, e3, e4, e5, e6, e7, e8, e9, e10, e11⟩ := H1.out.twelve
  dsimp only at *
  go_wp2_with fail
  have HSD := H1.out.drew
  clear c0 c1 c2 c3 c7 hz hlt e0 e1 e2 e3 e4 e5 e6 e7 e8 e9 e10 e11
  refine wp_region_tail (RG W B rb ⟨⟨ck, nx, L⟩, lg, wr, of, lf, false⟩ (.slice sa L.length sc) ⟨kd, ⟨i, cl, su, scp, ge, ma, us, re, de⟩, id, ti⟩) [7] (by kernel_rfl) ?_
  refine wpAnyT_take 2 (i := 0) (v := ?v0) rfl (by kernel_rfl) (by kernel_rfl) (by kernel_rfl) (by kernel_rfl) (by kernel_rfl) (fun _ _ _ h => h) (by rfl) ?hy0 (by assumption) ?rest0
  case hy0 => (intro w hSw; obtain ⟨c0, c1, c2⟩ := hSw.three; obtain ⟨e0, e1, e2, e3, e4, e5, e6, e7, e8, e9, e10, e11⟩ := hSw.twelve; go_simp; (try with_reducible rfl))
  simp only [Act.put]
  refine wpAnyT_take 2 (i := 1) (v := ?v1) rfl (by kernel_rfl) (by kernel_rfl) (by kernel_rfl) (by kernel_rfl) (by kernel_rfl) (fun _ _ _ h => h) (by rfl) ?hy1 (by assumption) ?rest1
  case hy1 => (intro w hSw; obtain ⟨c0, c1, c2⟩ := hSw.three; obtain ⟨e0, e1, e2, e3, e4, e5, e6, e7, e8, e9, e10, e11⟩ := hSw.twelve; go_simp; (try with_reducible rfl))
  simp only [Act.put]
  refine wpAnyT_take 2 (i := 2) (v := ?v2) rfl (by kernel_rfl) (by kernel_rfl) (by kernel_rfl) (by kernel_rfl) (by kernel_rfl) (fun _ _ _ h => h) (by rfl) ?hy2 (by assumption) ?rest2
  case hy2 => (intro w hSw; obtain ⟨c0, c1, c2⟩ := hSw.three; obtain ⟨e0, e1, e2, e3, e4, e5, e6, e7, e8, e9, e10, e11⟩ := hSw.twelve; go_simp; (try with_reducible rfl))
  simp only [Act.put]
  refine wpAnyT_take 2 (i := 3) (v := ?v3) rfl (by kernel_rfl) (by kernel_rfl) (by kernel_rfl) (by kernel_rfl) (by kernel_rfl) (fun _ _ _ h => h) (by rfl) ?hy3 (by assumption) ?rest3
  case hy3 => (intro w hSw; obtain ⟨c0, c1, c2⟩ := hSw.three; obtain ⟨e0, e1, e2, e3, e4, e5, e6, e7, e8, e9, e10, e11⟩ := hSw.twelve; go_simp; (try with_reducible rfl))
  simp only [Act.put]
  refine wpAnyT_take 2 (i := 4) (v := ?v4) rfl (by kernel_rfl) (by kernel_rfl) (by kernel_rfl) (by kernel_rfl) (by kernel_rfl) (fun _ _ _ h => h) (by rfl) ?hy4 (by assumption) ?rest4
  case hy4 => (intro w hSw; obtain ⟨c0, c1, c2⟩ := hSw.three; obtain ⟨e0, e1, e2, e3, e4, e5, e6, e7, e8, e9, e10, e11⟩ := hSw.twelve; go_simp; (try with_reducible rfl))
  simp only [Act.put]
  refine wpAnyT_two (i := 5) (j := 6) (by kernel_rfl) rfl rfl ?cA ?cB
  case' cA =>
    intro K5 hK5
    go_simp
    go_at_call 115
    refine (HAP.out _ HSD.row).mono ?_
    rintro r w2 ⟨a1, ac, rfl, hr1, hb⟩
    have HSD2 := HSD.keep hb
    have hr2 := hr1.mono (B' := B) HSD.now
    try dsimp only
    refine hK5.out _ _ (fun _ => HSD2) ?_
    try simp only [Act.put]
    refine wpAnyT_one (i := 6) (by kernel_rfl) rfl ?_
    intro K6 hK6
    go_simp
    have hb3 := (Below.refl w2.heap.size w2).alloc (Nat.le_refl _) (.cells #[.int .i64 0, .int .i64 0, .slice none 0 0] 39)
    have HSD3 := HSD2.keep hb3
    have hz := Blk.new w2 39 #[.int .i64 0, .int .i64 0, .slice none 0 0]
    have hr3 := hr2.below hb3
    refine hK6.out _ _ (fun _ => HSD3) ?_
    try simp only [Act.put]
    obtain ⟨hz1, hz2⟩ := st_sets hz (.int .i64 ck2) (.int .i64 nx2) (.slice a1 L2.length ac)
    have hb4 := hb3.grown hz2 hb3.size (fun _ hk => by cases hk; exact Nat.le_refl _)
    have hne : Value.ownBlock (.slice a1 L2.length ac) ≠ some w2.heap.size := fun he => by have := (hr2.lt _ he).2; omega
    have HS := Lib.hid (HSD2.keep hb4)
    have HT := Lib.hid hz1
    have HR := Lib.hid (hr3.kept hz2 hne)
    have hlt2 : w2.heap.size < (w2.alloc (.cells #[.int .i64 0, .int .i64 0, .slice none 0 0] 39)).heap.size := hz.lt
    obtain ⟨d0, d1, d2⟩ := two_cells hz
    have dz := hz.frozen
    generalize w2.alloc (.cells #[.int .i64 0, .int .i64 0, .slice none 0 0] 39) = w2a at *
    refine wpAnyT_one (i := 7) (by kernel_rfl) rfl ?_
    intro K7 hK7
    go_simp
    try dsimp only
    refine hK7.out _ _ (fun h => absurd h (by decide)) ?_
    refine wpAnyT_done (by kernel_rfl) ?_ _
    have hgb : W.heap.size ≤ w2.heap.size := HSD2.only.size
    generalize w2.heap.size = tb at *
    generalize ((w2a.setCell ⟨tb, 0, none⟩ (.int .i64 ck2)).setCell ⟨tb, 1, none⟩ (.int .i64 nx2)).setCell ⟨tb, 2, none⟩ (.slice a1 L2.length ac) = w3 at *
    clear hz hz1 hz2 hb3 hb4 hr1 hr2 hr3 HSD HSD2 HSD3 hb H1 d0 d1 d2 dz
    clear hlt2
  case' cB =>
    intro K6 hK6
    go_simp
    have hb3 : Below w1.drew.heap.size w1.drew (w1.alloc (.cells #[.int .i64 0, .int .i64 0, .slice none 0 0] 39)).drew := (Below.refl w1.heap.size w1.drew).alloc (Nat.le_refl _) _
    have HSD3 := HSD.keep hb3
    have hz : Blk (w1.alloc (.cells #[.int .i64 0, .int .i64 0, .slice none 0 0] 39)).drew w1.heap.size 39 #[.int .i64 0, .int .i64 0, .slice none 0 0] := Blk.new w1 _ _
    refine hK6.out _ _ (fun _ => HSD3) ?_
    try simp only [Act.put]
    refine wpAnyT_one (i := 5) (by kernel_rfl) rfl ?_
    intro K5 hK5
    go_simp
    go_at_call 115
    have hsz1 : w1.heap.size < (w1.alloc (.cells #[.int .i64 0, .int .i64 0, .slice none 0 0] 39)).drew.heap.size := hz.lt
    have hgb : W.heap.size ≤ w1.heap.size := H1.out.only.size
    generalize (w1.alloc (.cells #[.int .i64 0, .int .i64 0, .slice none 0 0] 39)).drew = w1a at *
    refine (HAP.out _ HSD3.row).mono ?_
    rintro r w2 ⟨a1, ac, rfl, hr1, hb⟩
    have HSD2 := HSD3.keep hb
    have hz0 := hz.below' hb
    have hb2 := below_2 hb3 hb
    have hr2 := hr1.mono (B' := B) HSD3.now
    try dsimp only
    refine hK5.out _ _ (fun _ => HSD2) ?_
    try simp only [Act.put]
    obtain ⟨hz1, hz2⟩ := st_sets hz0 (.int .i64 ck2) (.int .i64 nx2) (.slice a1 L2.length ac)
    have hb4 := hb2.grown hz2 hb2.size (fun _ hk => by cases hk; exact Nat.le_refl _)
    have hne : Value.ownBlock (.slice a1 L2.length ac) ≠ some w1.heap.size := fun he => by have := (hr1.lt _ he).1; omega
    have HS := Lib.hid (HSD.keep hb4)
    have HT := Lib.hid hz1
    have HR := Lib.hid (hr2.kept hz2 hne)
    obtain ⟨d0, d1, d2⟩ := two_cells hz0
    have dz := hz0.frozen
    refine wpAnyT_one (i := 7) (by kernel_rfl) rfl ?_
    intro K7 hK7
    go_simp
    try dsimp only
    refine hK7.out _ _ (fun h => absurd h (by decide)) ?_
    refine wpAnyT_done (by kernel_rfl) ?_ _
    clear HSD3 hsz1 hb hz0
    generalize w1.heap.size = tb at *
    generalize ((w2.setCell ⟨tb, 0, none⟩ (.int .i64 ck2)).setCell ⟨tb, 1, none⟩ (.int .i64 nx2)).setCell ⟨tb, 2, none⟩ (.slice a1 L2.length ac) = w3 at *
    clear hz hz1 hz2 hb3 hb4 hb2 hr1 hr2 HSD HSD2 H1 d0 d1 d2 dz hne
  all_goals
    obtain ⟨d0, d1, d2⟩ := two_cells HT.out
    obtain ⟨c0, c1, c2, c3, c7, hz, hlt⟩ := HS.out.some_
    dsimp only at c0 c1 c2 c3 c7
    by_cases hl : 20 < L2.length
    · have hx := HFULL.out hl
      have HX := Lib.hid hx
      clear hx
      go_wp2_with fail
      go_ret
      rw [HX.out]
      exact HS.out.done 12
    · by_cases h16 : lg = 16
      · have hx := HSAVE.out (by omega) h16
        have HX := Lib.hid hx
        have HA := Lib.hid HS.out.at_
        have HG := Lib.hid HS.out.only
        have HW := Lib.hid HS.out.row
        have HSV := Lib.hid (saveS_s ⟨⟨ck, nx, L⟩, lg, wr, of, lf, false⟩)
        have HRS := Lib.hid (ref_save rb _ _ B w3 HS.out.at_ HS.out.row (by have := HOL.out; dsimp only at this ⊢; omega))
        subst h16
        clear hx HS
        generalize saveS ⟨⟨ck, nx, L⟩, 16, wr, of, lf, false⟩ = Q at *
        obtain ⟨z1, cq⟩ := Q
        dsimp only at *
        go_wp2_with fail
        go_at_call 33
        refine HRS.out.mono ?_
        rintro e w4 ⟨rfl, hra, hg⟩
        have HA4 := Lib.hid hra
        have HG4 := Lib.hid (only_trans HG.out hg)
        have HT4 := Lib.hid (HT.out.grown hg (by simpa using HT.out.ne_ HA.out (by decide)))
        have HR4 := Lib.hid (HR.out.kept hg (HA.out.apart HR.out))
        have HW4 := Lib.hid (HW.out.kept hg (HA.out.apart HW.out))
        clear hra hg HA HG HT HR HW HRS d0 d1 d2 c0 c1 c2 c3 c7 hz hlt
        dsimp only at *
        by_cases hq : cq = 0
        · subst hq
          have hx := HX.out
          rw [if_pos rfl] at hx
          obtain ⟨hs1, hs2⟩ := HSV.out
          have hl0 := hs2 rfl
          have HX := Lib.hid hx
          have HA := HA4
          have HG := HG4
          have HT := HT4
          have HR := HR4
          have HW := HW4
          have HS1 := Lib.hid hs1
          have hlz : z1.log = 0 := hl0
          have HLZ := Lib.hid hlz
          clear hx hs1 hs2 hl0 HA4 HG4 HT4 HR4 HW4 hlz
          rcases ho : offS z1 with _ | _
          · have HO := Lib.hid ho
            clear ho
            go_wp2_with fail
            go_at_call 69
            refine (ref_write_on rb z1 _ w4 HA.out HO.out).mono ?_
            rintro e w5 ⟨rfl, hra, hg⟩
            have HA5 := Lib.hid hra
            have HG5 := Lib.hid (only_trans HG.out hg)
            have HT5 := Lib.hid (HT.out.grown hg (by simpa using HT.out.ne_ HA.out (by decide)))
            have HR5 := Lib.hid (HR.out.kept hg (HA.out.apart HR.out))
            clear hra hg HA HG HT HR
            have hlast : R = (nowS (oneS z1) ⟨ck2, nx2, L2⟩, 0) := by rw [HX.out]; exact lastS_on HO.out
            have HL := Lib.hid hlast
            have hbe := HA5.out.become ((z1).log + 1) ck2 nx2 L2 (.slice a1 L2.length ac)
            have HBE := Lib.hid hbe
            have HBR := Lib.hid (HR5.out.kept hbe.2 (HA5.out.apart HR5.out))
            obtain ⟨d0, d1, d2⟩ := two_cells HT5.out
            have c3 : w5.cell? ⟨rb, 3, none⟩ = some (.int .i64 (z1).log) := Blk.cell HA5.out 3
            have c0 : w5.cell? ⟨rb, 0, none⟩ = some (.int .i64 (oneS z1).s.clock) := Blk.cell HA5.out 0
            have c1 : w5.cell? ⟨rb, 1, none⟩ = some (.int .i64 (oneS z1).s.next) := Blk.cell HA5.out 1
            have c2 : w5.cell? ⟨rb, 2, none⟩ = some (.slice sa L.length sc) := Blk.cell HA5.out 2
            have hfz := Blk.frozen HA5.out
            have hnt : tb ≠ rb := HT5.out.ne_ HA5.out (by decide)
            have hnt' : rb ≠ tb := hnt.symm
            clear hlast hbe
            rw [HLZ.out] at c3 HBE HBR
            have hds : (0 : Int) + 1 = 1 := rfl
            rw [hds] at HBE HBR
            go_wp2_with fail
            go_ret
            rw [HL.out]
            exact ⟨rfl, only_trans HG5.out HBE.out.2, _, (by unfold nowS; rw [show (oneS z1).log + 1 = 1 from by show z1.log + 1 = 1; rw [HLZ.out]; rfl]; exact HBE.out.1), HBR.out⟩
          · have HO := Lib.hid ho
            clear ho
            go_wp2_with fail
            go_at_call 69
            refine (ref_write_off rb z1 _ w4 HA.out HO.out).mono ?_
            rintro e w5 ⟨rfl, hra, hg⟩
            have HA5 := Lib.hid hra
            have HG5 := Lib.hid (only_trans HG.out hg)
            have HW5 := Lib.hid (HW.out.kept hg (HA.out.apart HW.out))
            clear hra hg HA HG HT HR HW
            have hlast : R = (downS z1, 14) := by rw [HX.out]; exact lastS_off HO.out
            have HL := Lib.hid hlast
            clear hlast
            go_wp2_with fail
            go_ret
            rw [HL.out]
            exact ⟨rfl, HG5.out, _, HA5.out, (by rw [show (downS z1).s = z1.s from rfl, HS1.out]; exact HW5.out)⟩
        · have hq' : (cq == 0) = false := by simpa using hq
          have hx := HX.out
          rw [if_neg hq] at hx
          obtain ⟨hs1, hs2⟩ := HSV.out
          have HS1 := Lib.hid hs1
          have HX := Lib.hid hx
          clear hx hs1 hs2
          go_wp2_with fail
          go_ret
          rw [HX.out]
          exact ⟨rfl, HG4.out, _, HA4.out, by rw [HS1.out]; exact HW4.out⟩
      · have hx := HONE.out (by omega) h16
        have HX := Lib.hid hx
        have h16' : (lg == 16) = false := by simpa using h16
        have HA := Lib.hid HS.out.at_
        have HG := Lib.hid HS.out.only
        have HW := Lib.hid HS.out.row
        clear hx HS

        rcases ho : offS (SS.mk ⟨ck, nx, L⟩ lg wr of lf false) with _ | _
        · have HO := Lib.hid ho
          clear ho
          go_wp2_with fail
          go_at_call 69
          refine (ref_write_on rb (SS.mk ⟨ck, nx, L⟩ lg wr of lf false) _ w3 HA.out HO.out).mono ?_
          rintro e w5 ⟨rfl, hra, hg⟩
          have HA5 := Lib.hid hra
          have HG5 := Lib.hid (only_trans HG.out hg)
          have HT5 := Lib.hid (HT.out.grown hg (by simpa using HT.out.ne_ HA.out (by decide)))
          have HR5 := Lib.hid (HR.out.kept hg (HA.out.apart HR.out))
          clear hra hg HA HG HT HR
          have hlast : R = (nowS (oneS (SS.mk ⟨ck, nx, L⟩ lg wr of lf false)) ⟨ck2, nx2, L2⟩, 0) := by rw [HX.out]; exact lastS_on HO.out
          have HL := Lib.hid hlast
          have hbe := HA5.out.become (((SS.mk ⟨ck, nx, L⟩ lg wr of lf false)).log + 1) ck2 nx2 L2 (.slice a1 L2.length ac)
          have HBE := Lib.hid hbe
          have HBR := Lib.hid (HR5.out.kept hbe.2 (HA5.out.apart HR5.out))
          obtain ⟨d0, d1, d2⟩ := two_cells HT5.out
          have c3 : w5.cell? ⟨rb, 3, none⟩ = some (.int .i64 ((SS.mk ⟨ck, nx, L⟩ lg wr of lf false)).log) := Blk.cell HA5.out 3
          have c0 : w5.cell? ⟨rb, 0, none⟩ = some (.int .i64 (oneS (SS.mk ⟨ck, nx, L⟩ lg wr of lf false)).s.clock) := Blk.cell HA5.out 0
          have c1 : w5.cell? ⟨rb, 1, none⟩ = some (.int .i64 (oneS (SS.mk ⟨ck, nx, L⟩ lg wr of lf false)).s.next) := Blk.cell HA5.out 1
          have c2 : w5.cell? ⟨rb, 2, none⟩ = some (.slice sa L.length sc) := Blk.cell HA5.out 2
          have hfz := Blk.frozen HA5.out
          have hnt : tb ≠ rb := HT5.out.ne_ HA5.out (by decide)
          have hnt' : rb ≠ tb := hnt.symm
          clear hlast hbe
          try dsimp only at c3 c0 c1 c2 HBE
          go_wp2_with fail
          go_ret
          rw [HL.out]
          exact ⟨rfl, only_trans HG5.out HBE.out.2, _, HBE.out.1, HBR.out⟩
        · have HO := Lib.hid ho
          clear ho
          go_wp2_with fail
          go_at_call 69
          refine (ref_write_off rb (SS.mk ⟨ck, nx, L⟩ lg wr of lf false) _ w3 HA.out HO.out).mono ?_
          rintro e w5 ⟨rfl, hra, hg⟩
          have HA5 := Lib.hid hra
          have HG5 := Lib.hid (only_trans HG.out hg)
          have HW5 := Lib.hid (HW.out.kept hg (HA.out.apart HW.out))
          clear hra hg HA HG HT HR HW
          have hlast : R = (downS (SS.mk ⟨ck, nx, L⟩ lg wr of lf false), 14) := by rw [HX.out]; exact lastS_off HO.out
          have HL := Lib.hid hlast
          clear hlast
          go_wp2_with fail
          go_ret
          rw [HL.out]
          exact ⟨rfl, HG5.out, _, HA5.out, HW5.out⟩
end Go.Proofs.YtckohmhhcknmaaaGreatDoor

/-
  token.Write where the token is right.
-/
namespace Go.Proofs.YtckohmhhcknmaaaGreatDoor
open Go.RowKit

theorem mac_tagS (key : Int) (s : ByteArray) (W : World) (hs : s.size ≤ 9223372036854775807) :
    Calls Tryz.prog 76 #[.int .i64 key, .string s] W fun e w' => e = .returned (.string (tagS key s)) ∧ Below W.heap.size W w' := mac_tag key s W hs

theorem four_cells {W w : World} {x0 x1 x2 x3 : Value} {t : TypeId} (h : Below (W.alloc (.cells #[x0, x1, x2, x3] t)).heap.size (W.alloc (.cells #[x0, x1, x2, x3] t)) w) :
    w.cell? ⟨W.heap.size, 0, none⟩ = some x0 ∧ w.cell? ⟨W.heap.size, 1, none⟩ = some x1 ∧ w.cell? ⟨W.heap.size, 2, none⟩ = some x2 ∧ w.cell? ⟨W.heap.size, 3, none⟩ = some x3 := by
  refine ⟨?_, ?_, ?_, ?_⟩
  · rw [h.cell (p := ⟨W.heap.size, 0, none⟩) (by simp)]; simp
  · rw [h.cell (p := ⟨W.heap.size, 1, none⟩) (by simp)]; simp
  · rw [h.cell (p := ⟨W.heap.size, 2, none⟩) (by simp)]; simp
  · rw [h.cell (p := ⟨W.heap.size, 3, none⟩) (by simp)]; simp
set_option maxHeartbeats 1000000 in
theorem token_write_yes (key a b c d : Int) (W : World) (hT : Tens W) (h : rightN a b c d = true) :
    Calls Tryz.prog 65 #[.int .i64 key, v4 a b c d] W fun e w' => e = .returned (.tuple #[.string (tokS key a b c d), .nilIface]) ∧ Below W.heap.size W w' := by
  have HR := fun w => token_right a b c d w
  rw [h] at HR
  have HH := Lib.hid HR
  clear HR
  have hsz := bodyS_size a b c d h
  have hts := tagS_size key (bodyS a b c d)
  have e1 := add_run (bodyS a b c d) (⟨#[46]⟩ : ByteArray) 70 1 hsz (by decide) (by omega)
  have z1 := app_size (bodyS a b c d) (⟨#[46]⟩ : ByteArray) 70 1 hsz (by decide)
  have e2 := add_run _ (tagS key (bodyS a b c d)) _ 16 z1 (by omega) (by omega)
  have HRT := Lib.hid h
  have HT := Lib.hid hT
  have hTlt := hT.lt
  have HB := fun (w : World) (hw : Tens w) => token_body a b c d w hw h
  have HBB := Lib.hid HB
  have htk : tokS key a b c d = bodyS a b c d ++ ⟨#[46]⟩ ++ tagS key (bodyS a b c d) := rfl
  have HTK := Lib.hid htk
  clear hT h z1 HB htk
  generalize bodyS a b c d = bs at *
  unfold v4 at *
  go_enter Tryz.func65, Tryz.ntmps65
  go_wp2_with (first
    | (go_at_call 111; refine (HH.out _).mono ?_; rintro e w1 ⟨rfl, hb1⟩
       have hB1 := ((Below.refl W.heap.size W).alloc (Nat.le_refl _) (.cells #[.int .i64 a, .int .i64 b, .int .i64 c, .int .i64 d] 104)).trans (hb1.mono (by simp))
       obtain ⟨hc0, hc1, hc2, hc3⟩ := four_cells hb1
       have HB1 := Lib.hid hB1
       clear hb1 hB1)
    | (go_at_call 96; refine (HBB.out _ (HT.out.below HB1.out hTlt)).mono ?_; rintro e w2 ⟨rfl, hb2⟩
       have HB2 := Lib.hid (below_2 HB1.out hb2)
       clear hb2)
    | (go_at_call 76; refine (mac_tagS _ _ _ (by omega)).mono ?_; rintro e w3 ⟨rfl, hb3⟩
       have HB3 := Lib.hid (below_2 HB2.out hb3)
       clear hb3))
  go_ret2
  exact ⟨by rw [HTK.out]; rfl, HB3.out⟩
end Go.Proofs.YtckohmhhcknmaaaGreatDoor

/-
  rotorref.WriteToken.
-/
namespace Go.Proofs.YtckohmhhcknmaaaGreatDoor
open Go.RowKit

theorem ref_tagS (key : Int) (s : ByteArray) (W : World) (hs : s.size ≤ 1000000) (hT : Tab15 W) :
    Calls Tryz.prog 110 #[.int .i64 key, .string s] W fun e w' => e = .returned (.string (tagS key s)) ∧ Below W.heap.size W w' := ref_tag key s W hs hT
theorem keep_all {W w w' : World} {u x y z : Value} (h0 : w.cell? ⟨W.heap.size, 0, none⟩ = some u) (h1 : w.cell? ⟨W.heap.size, 1, none⟩ = some x) (h2 : w.cell? ⟨W.heap.size, 2, none⟩ = some y) (h3 : w.cell? ⟨W.heap.size, 3, none⟩ = some z)
    (hT : Tens w) (hT2 : Tab15 w) (hB : Below W.heap.size W w) (hb : Below w.heap.size w w') :
    w'.cell? ⟨W.heap.size, 0, none⟩ = some u ∧ w'.cell? ⟨W.heap.size, 1, none⟩ = some x ∧ w'.cell? ⟨W.heap.size, 2, none⟩ = some y ∧ w'.cell? ⟨W.heap.size, 3, none⟩ = some z ∧ Tens w' ∧ Tab15 w' ∧ Below W.heap.size W w' := by
  obtain ⟨a0, a1, a2, a3, a4, a5⟩ := keep_body4 h0 h1 h2 h3 hT hB hb
  exact ⟨a0, a1, a2, a3, a4, hT2.below hb hT2.lt, a5⟩

set_option maxHeartbeats 4000000 in
theorem ref_write_yes (key a b c d : Int) (W : World) (hT : Tens W) (hT2 : Tab15 W) (h : rightN a b c d = true) (hk : (a = 1 ∧ d = 0) ∨ (a = 2 ∧ okN d = true)) :
    Calls Tryz.prog 63 #[.int .i64 key, v4 a b c d] W fun e w' => e = .returned (.tuple #[.string (tokS key a b c d), .int .i64 0]) ∧ Below W.heap.size W w' := by
  obtain ⟨_, hob, hoc⟩ := right_cases h
  have hsz := bodyS_size a b c d h
  have hts := tagS_size key (bodyS a b c d)
  have e1 := add_run (bodyS a b c d) (⟨#[46]⟩ : ByteArray) 70 1 hsz (by decide) (by omega)
  have z1 := app_size (bodyS a b c d) (⟨#[46]⟩ : ByteArray) 70 1 hsz (by decide)
  have e2 := add_run _ (tagS key (bodyS a b c d)) _ 16 z1 (by omega) (by omega)
  have HT := Lib.hid hT
  have HT2 := Lib.hid hT2
  have HB := fun (w : World) (hw : Tens w) => ref_body a b c d w hw h
  have HBB := Lib.hid HB
  have htk : tokS key a b c d = bodyS a b c d ++ ⟨#[46]⟩ ++ tagS key (bodyS a b c d) := rfl
  have HTK := Lib.hid htk
  have hTl := hT.lt
  have hTl2 := hT2.lt
  clear hT hT2 h z1 HB htk
  generalize bodyS a b c d = bs at *
  generalize tokS key a b c d = tk at *
  unfold v4 at *
  rcases hk with ⟨rfl, rfl⟩ | ⟨rfl, hod⟩
  all_goals
    (go_enter Tryz.func63, Tryz.ntmps63
     go_wp2_with (go_at_call 56; refine (ref_in _ _).mono ?_; rintro e w1 ⟨rfl, rfl⟩))
  · obtain ⟨hc0, hc1, hc2, hc3⟩ := four_cells (Below.refl (W.alloc (.cells #[.int .i64 1, .int .i64 b, .int .i64 c, .int .i64 0] 127)).heap.size (W.alloc (.cells #[.int .i64 1, .int .i64 b, .int .i64 c, .int .i64 0] 127)))
    have hB1 := (Below.refl W.heap.size W).alloc (Nat.le_refl _) (.cells #[.int .i64 1, .int .i64 b, .int .i64 c, .int .i64 0] 127)
    have hT1 := HT.out.below hB1 hTl
    have hT2 := HT2.out.below hB1 hTl2
    clear HT HT2
    generalize W.alloc (.cells #[.int .i64 1, .int .i64 b, .int .i64 c, .int .i64 0] 127) = w0 at *
    have hT1' : Tens w0.drew := hT1
    have hT2' : Tab15 w0.drew := hT2
    have hB2 : Below W.heap.size W w0.drew := ⟨hB1.os, hB1.tape, hB1.output, hB1.size, hB1.block⟩
    go_region_held3 (fun w' => w'.cell? ⟨W.heap.size, 0, none⟩ = some (.int .i64 1) ∧ w'.cell? ⟨W.heap.size, 1, none⟩ = some (.int .i64 b) ∧ w'.cell? ⟨W.heap.size, 2, none⟩ = some (.int .i64 c) ∧ w'.cell? ⟨W.heap.size, 3, none⟩ = some (.int .i64 0) ∧ Tens w' ∧ Tab15 w' ∧ Below W.heap.size W w')
      (first
        | (refine ⟨?_, ?_, ?_, ?_, hT1', hT2', hB2⟩ <;> go_keep)
        | (go_split_ands
           exact keep_all (by assumption) (by assumption) (by assumption) (by assumption) (by assumption) (by assumption) (by assumption) (by assumption)))
      (first
        | (go_at_call 109; refine (HBB.out _ (by (go_split_ands; assumption))).mono ?_; rintro e w1 ⟨rfl, hb1⟩)
        | (go_at_call 110; refine (ref_tagS _ _ _ (by omega) (by (go_split_ands; assumption))).mono ?_; rintro e w1 ⟨rfl, hb1⟩))
    all_goals
      (go_wp2_with fail
       go_ret2
       exact ⟨by rw [HTK.out]; rfl, by (go_split_ands; assumption)⟩)
  · obtain ⟨hc0, hc1, hc2, hc3⟩ := four_cells (Below.refl (W.alloc (.cells #[.int .i64 2, .int .i64 b, .int .i64 c, .int .i64 d] 127)).heap.size (W.alloc (.cells #[.int .i64 2, .int .i64 b, .int .i64 c, .int .i64 d] 127)))
    have hB1 := (Below.refl W.heap.size W).alloc (Nat.le_refl _) (.cells #[.int .i64 2, .int .i64 b, .int .i64 c, .int .i64 d] 127)
    have hT1 := HT.out.below hB1 hTl
    have hT2 := HT2.out.below hB1 hTl2
    clear HT HT2
    generalize W.alloc (.cells #[.int .i64 2, .int .i64 b, .int .i64 c, .int .i64 d] 127) = w0 at *
    have hT1' : Tens w0.drew := hT1
    have hT2' : Tab15 w0.drew := hT2
    have hB2 : Below W.heap.size W w0.drew := ⟨hB1.os, hB1.tape, hB1.output, hB1.size, hB1.block⟩
    go_region_held3 (fun w' => w'.cell? ⟨W.heap.size, 0, none⟩ = some (.int .i64 2) ∧ w'.cell? ⟨W.heap.size, 1, none⟩ = some (.int .i64 b) ∧ w'.cell? ⟨W.heap.size, 2, none⟩ = some (.int .i64 c) ∧ w'.cell? ⟨W.heap.size, 3, none⟩ = some (.int .i64 d) ∧ Tens w' ∧ Tab15 w' ∧ Below W.heap.size W w')
      (first
        | (refine ⟨?_, ?_, ?_, ?_, hT1', hT2', hB2⟩ <;> go_keep)
        | (go_split_ands
           exact keep_all (by assumption) (by assumption) (by assumption) (by assumption) (by assumption) (by assumption) (by assumption) (by assumption)))
      (first
        | (go_at_call 109; refine (HBB.out _ (by (go_split_ands; assumption))).mono ?_; rintro e w1 ⟨rfl, hb1⟩)
        | (go_at_call 110; refine (ref_tagS _ _ _ (by omega) (by (go_split_ands; assumption))).mono ?_; rintro e w1 ⟨rfl, hb1⟩))
    all_goals
      (go_wp2_with fail
       go_ret2
       exact ⟨by rw [HTK.out]; rfl, by (go_split_ands; assumption)⟩)
end Go.Proofs.YtckohmhhcknmaaaGreatDoor

/-
  rotorref.WriteToken where the token is not right.
-/
namespace Go.Proofs.YtckohmhhcknmaaaGreatDoor
open Go.RowKit

set_option maxHeartbeats 4000000 in
theorem ref_write_no (key a b c d : Int) (W : World) (hr : rightN a b c d = false) :
    Calls Tryz.prog 63 #[.int .i64 key, v4 a b c d] W fun e w' => e = .returned (.tuple #[.string ⟨#[]⟩, .int .i64 1]) ∧ Below W.heap.size W w' := by
  have h : (a = 1 ∧ d = 0) ∨ (a = 1 ∧ ((d == 0) = false ∧ decide (d = 0) = false)) ∨ (a = 2) ∨ ((a == 1) = false ∧ (a == 2) = false ∧ decide (a = 1) = false ∧ decide (a = 2) = false) := by
    by_cases h1 : a = 1 <;> by_cases h2 : a = 2 <;> by_cases h3 : d = 0 <;> simp [h1, h2, h3] <;> omega
  have HR := Lib.hid hr
  clear hr
  unfold v4
  obtain ⟨ob, hob⟩ : ∃ ob, okN b = ob := ⟨_, rfl⟩
  obtain ⟨od, hod⟩ : ∃ od, okN d = od := ⟨_, rfl⟩
  obtain ⟨oc, hoc⟩ : ∃ oc, okN c = oc := ⟨_, rfl⟩
  rcases h with ⟨rfl, rfl⟩ | ⟨rfl, hd, hd'⟩ | rfl | ⟨h1, h2, h1', h2'⟩
  all_goals cases ob <;> cases od <;> cases oc
  all_goals first
    | (exfalso; have hr := HR.out; simp [rightN, *] at hr; done)
    | (exfalso; have hz : okN 0 = true := by decide
       simp [hz] at hod; done)
    | (clear HR
       go_enter Tryz.func63, Tryz.ntmps63
       go_wp2_with (go_at_call 56; refine (ref_in _ _).mono ?_; rintro e w1 ⟨rfl, rfl⟩)
       go_ret2
       exact ⟨rfl, (Below.refl _ _).alloc (Nat.le_refl _) _⟩)
end Go.Proofs.YtckohmhhcknmaaaGreatDoor

/-
  A slot that is read, in plain Lean: its words, its families one behind the other.
-/
namespace Go.Proofs.YtckohmhhcknmaaaGreatDoor

theorem st_apply_ok {s : St} {e : Ev} (h : StOk s) (hn : s.fams.length ≤ 60) (he : evB e = true) : StOk (applyS s e) := by
  refine ⟨applyS_asc h.asc e, applyS_ids h.ids ?_, ?_⟩
  · intro hk
    rcases evB_kind he with ⟨_, _, _, hf⟩ | ⟨h1, _⟩ | ⟨h1, _⟩
    · exact (famB_parts hf).1
    · omega
    · omega
  · have := applyS_len s e
    omega
theorem st_none (c d : Int) : StOk ⟨c, d, []⟩ := ⟨List.Pairwise.nil, fun f hf => by simp at hf, Nat.zero_le _⟩
section
variable {blk : Nat → List UInt8} {at_ : Nat} {s : St}
theorem famsR_zero : famsR blk at_ s 0 = some (s, []) := rfl
theorem famsR_some {n : Nat} {st : St} {all : List UInt8} (h : famsR blk at_ s n = some (st, all)) :
    famsR blk at_ s (n + 1) = if readB (blk (at_ + 1 + n)) && decide ((readE (blk (at_ + 1 + n))).kind = 1) then some (applyS st (readE (blk (at_ + 1 + n))), all ++ blk (at_ + 1 + n) ++ [10]) else none := by
  rw [famsR, h]
theorem famsR_stop {n m : Nat} (h : famsR blk at_ s n = none) (hm : n ≤ m) : famsR blk at_ s m = none := by
  induction m with
  | zero =>
    obtain rfl : n = 0 := by omega
    exact h
  | succ m ih =>
    rcases Nat.lt_or_ge m n with hlt | hge
    · obtain rfl : n = m + 1 := by omega
      exact h
    · rw [famsR, ih hge]
/-- the state behind some families, and their lines -/
theorem famsR_ok (hs : StOk s) (h0 : s.fams = []) (hb : ∀ k, (blk k).length ≤ 240) : ∀ (n : Nat), n ≤ 20 → ∀ (st : St) (all : List UInt8), famsR blk at_ s n = some (st, all) → StOk st ∧ st.fams.length ≤ n ∧ all.length ≤ 241 * n
  | 0, _, st, all, h => by
    rw [famsR_zero] at h
    obtain ⟨rfl, rfl⟩ := Prod.mk.inj (Option.some.inj h)
    exact ⟨hs, by rw [h0]; exact Nat.le_refl _, Nat.zero_le _⟩
  | n + 1, hn, st, all, h => by
    rcases e : famsR blk at_ s n with _ | ⟨st', all'⟩
    · rw [famsR_stop e (Nat.le_succ n)] at h
      cases h
    · obtain ⟨h1, h2, h3⟩ := famsR_ok hs h0 hb n (by omega) st' all' e
      rw [famsR_some e] at h
      split at h
      · rename_i hr
        rw [Bool.and_eq_true] at hr
        obtain ⟨rfl, rfl⟩ := Prod.mk.inj (Option.some.inj h)
        have h4 := applyS_len st' (readE (blk (at_ + 1 + n)))
        have h5 := hb (at_ + 1 + n)
        refine ⟨st_apply_ok h1 (by omega) (readE_may hr.1), by omega, ?_⟩
        rw [List.length_append, List.length_append, List.length_singleton]
        omega
      · cases h
end
section
variable (tg : Int → List UInt8 → List UInt8)
/-- a slot's words -/
def loadL (blk : Nat → List UInt8) (k : Nat) (L : List (List UInt8)) : Option (Int × Int × St) :=
  if (L.take 5).all numM && decide (atoiN (L.getD 4 []) ≤ 20) then
    match famsR blk (slotAt k) ⟨atoiN (L.getD 2 []), atoiN (L.getD 3 []), []⟩ (atoiN (L.getD 4 [])).toNat with
    | some (st, all) => if tg 1 all = L.getD 5 [] ∧ atoiN (L.getD 0 []) % 2 = (k : Int) then some (atoiN (L.getD 0 []), atoiN (L.getD 1 []), st) else none
    | none => none
  else none
theorem loadR_none {blk : Nat → List UInt8} {k : Nat} (h : openL tg (blk (slotAt k)) = none) : loadR tg blk k = none := by
  unfold loadR
  rw [h]
theorem loadR_len {blk : Nat → List UInt8} {k : Nat} {x : List UInt8} (h : openL tg (blk (slotAt k)) = some x) (hl : (parts 32 x).length ≠ 6) : loadR tg blk k = none := by
  unfold loadR
  rw [h]
  dsimp only
  split
  · rename_i e
    rw [e] at hl
    exact absurd rfl hl
  · rfl
theorem loadR_words {blk : Nat → List UInt8} {k : Nat} {x : List UInt8} (h : openL tg (blk (slotAt k)) = some x) (hl : (parts 32 x).length = 6) : loadR tg blk k = loadL tg blk k (parts 32 x) := by
  unfold loadR
  rw [h]
  dsimp only
  rcases hp : parts 32 x with _ | ⟨a, _ | ⟨b, _ | ⟨c, _ | ⟨d, _ | ⟨e, _ | ⟨t, _ | ⟨u, r⟩⟩⟩⟩⟩⟩⟩
  all_goals (rw [hp] at hl; try (exfalso; simp at hl; done))
  unfold loadL
  simp only [List.take_succ_cons, List.take_zero, List.all_cons, List.all_nil, Bool.and_true, Bool.and_assoc]
  rfl
end
end Go.Proofs.YtckohmhhcknmaaaGreatDoor

/-
  store.Store's load: what is known while a slot is read, and what load gives.
-/
namespace Go.Proofs.YtckohmhhcknmaaaGreatDoor
open Go.RowKit Go.Sort

/-- what load gives -/
def LoadGot (W : World) (o : Option (Int × Int × St)) (x : Ending) (w' : World) : Prop :=
  ∃ (a b : Int) (st : St) (v : Value) (ok : Bool), x = .returned (.tuple #[.int .i64 a, .int .i64 b, stVal st v, .bool ok]) ∧ FRow w' W.heap.size v st.fams ∧ Below W.heap.size W w' ∧ (match o with | some t => ok = true ∧ t = (a, b, st) | none => ok = false)
theorem results_load {P : Program} {fn : Func} {i j p u : Tmp} {ty : TypeId} (h : fn.results = #[.tmp i, .tmp j, .cell p ty, .tmp u]) (tmps : Array Value) (w : World) (g : Nat) (t : TypeId) (cs : Array Value) (d : TypeDesc) (x y z : Value)
    (h1 : tmps.getD i undef = x) (h2 : tmps.getD j undef = y) (hp : tmps.getD p undef = .pointer (some ⟨g, 0, none⟩)) (hz : tmps.getD u undef = z) (hg : Blk w g t cs)
    (hu : P.underlying ty = some d) (hd : (match d with | .struct _ | .array _ _ => true | _ => false) = true) (hi : (P.info? ty).map (·.size) = some cs.size) :
    (results fn tmps).run P w = .ok (.tuple #[x, y, .agg cs, z]) w := by
  have hl := run_loadVar_row w g t ty cs (0, 0) d hg hu hd hi
  rw [Array.getD_eq_getD_getElem?] at h1 h2 hp hz
  simp only [results, h]
  simp [Result.andThen, h1, h2, hp, hz, asAddr, hl]
/-- the result's state at its block -/
structure LD (W : World) (st : St) (u : Value) (w : World) : Prop where
  res : Blk w W.heap.size 39 (stCs st u)
  row : FRow w (W.heap.size + 1) u st.fams
  below : Below W.heap.size W w
section
variable {W w w' : World} {st st' : St} {u u' : Value}
theorem LD.start : LD W ⟨0, 0, []⟩ (.slice none 0 0) (W.alloc (.cells (stCs ⟨0, 0, []⟩ (.slice none 0 0)) 39)) := ⟨Blk.new W _ _, FRow.nil _ _, (Below.refl _ _).alloc (Nat.le_refl _) _⟩
theorem LD.keep (h : LD W st u w) (hb : Below w.heap.size w w') : LD W st u w' := ⟨h.res.below' hb, h.row.below hb, below_2 h.below hb⟩
theorem LD.drew (h : LD W st u w) : LD W st u w.drew := ⟨h.res, h.row, ⟨h.below.os, h.below.tape, h.below.output, h.below.size, h.below.block⟩⟩
theorem LD.cells {ck nx : Int} {L : List Fam} (h : LD W ⟨ck, nx, L⟩ u w) : w.cell? ⟨W.heap.size, 0, none⟩ = some (.int .i64 ck) ∧ w.cell? ⟨W.heap.size, 1, none⟩ = some (.int .i64 nx) ∧ w.cell? ⟨W.heap.size, 2, none⟩ = some u ∧ (∀ j, w.frozen? ⟨W.heap.size, j, none⟩ = false) ∧ W.heap.size < w.heap.size :=
  ⟨h.res.cell 0, h.res.cell 1, h.res.cell 2, h.res.frozen, h.res.lt⟩
/-- a state is stored -/
theorem LD.put (h : LD W st u w) (st' : St) {u' : Value} (hr : FRow w (W.heap.size + 1) u' st'.fams) :
    LD W st' u' (((w.setCell ⟨W.heap.size, 0, none⟩ (.int .i64 st'.clock)).setCell ⟨W.heap.size, 1, none⟩ (.int .i64 st'.next)).setCell ⟨W.heap.size, 2, none⟩ u') ∧ w.grownBy (((w.setCell ⟨W.heap.size, 0, none⟩ (.int .i64 st'.clock)).setCell ⟨W.heap.size, 1, none⟩ (.int .i64 st'.next)).setCell ⟨W.heap.size, 2, none⟩ u') (some W.heap.size) := by
  have e1 := h.res.put_ 0 (.int .i64 st'.clock) (cs' := #[.int .i64 st'.clock, .int .i64 st.next, u]) rfl
  have e2 := e1.put_ 1 (.int .i64 st'.next) (cs' := #[.int .i64 st'.clock, .int .i64 st'.next, u]) rfl
  have e3 := e2.put_ 2 u' (cs' := stCs st' u') rfl
  have g1 := only_set1 w W.heap.size ⟨W.heap.size, 0, none⟩ rfl (.int .i64 st'.clock)
  have g2 := only_setCell g1 (p := ⟨W.heap.size, 1, none⟩) (.inl rfl) (.int .i64 st'.next)
  have g3 := only_setCell g2 (p := ⟨W.heap.size, 2, none⟩) (.inl rfl) u'
  refine ⟨⟨e3, hr.kept g3 (fun he => ?_), h.below.grown g3 h.below.size (fun _ hj => by cases hj; exact Nat.le_refl _)⟩, g3⟩
  have := (hr.lt _ he).1
  omega
theorem LD.same (h : LD W st u w) : LD W st u (((w.setCell ⟨W.heap.size, 0, none⟩ (.int .i64 st.clock)).setCell ⟨W.heap.size, 1, none⟩ (.int .i64 st.next)).setCell ⟨W.heap.size, 2, none⟩ u) := (h.put st h.row).1
end
theorem load_end {W w : World} {A : Act} {st : St} {u : Value} {a b : Int} {ok : Bool} {o : Option (Int × Int × St)} (h : LD W st u w) (ho : match o with | some t => ok = true ∧ t = (a, b, st) | none => ok = false)
    (h4 : A.tmps.getD 4 undef = .int .i64 a) (h5 : A.tmps.getD 5 undef = .int .i64 b) (h6 : A.tmps.getD 6 undef = .pointer (some ⟨W.heap.size, 0, none⟩)) (h7 : A.tmps.getD 7 undef = .bool ok) (hd : A.defers = []) :
    bodyPost Tryz.prog Tryz.f52 (LoadGot W o) Exit.ret A w :=
  bodyPost_ret (results_load rfl A.tmps w _ _ _ _ _ _ _ h4 h5 h6 h7 h.res Tryz.underlying39 rfl (by kernel_rfl)) hd ⟨a, b, st, u, ok, rfl, h.row.mono (Nat.le_succ _), h.below, ho⟩
/-- numbers read from words, one behind the other -/
structure LN (W0 : World) (L : List (List UInt8)) (k : Nat) (out : Value) (w : World) : Prop where
  below : Below W0.heap.size W0 w
  row : w.ownsRow W0.heap.size 3 1 out k ((L.take k).map fun x => .int .i64 (atoiN x))
  nums : ∀ j, j < k → numM (L.getD j []) = true
theorem LN.start (W0 : World) (L : List (List UInt8)) : LN W0 L 0 (.slice none 0 0) W0 := ⟨Below.refl _ _, World.ownsRow_nil _ _ _ _, fun _ hj => absurd hj (Nat.not_lt_zero _)⟩
theorem LN.call {W0 w w1 : World} {L : List (List UInt8)} {k : Nat} {out : Value} (h : LN W0 L k out w) (hb : Below w.heap.size w w1) : LN W0 L k out w1 := ⟨below_2 h.below hb, nums_below h.row hb, h.nums⟩
theorem LN.next {W0 w1 w3 : World} {L : List (List UInt8)} {k : Nat} {out v' : Value} {o : Obj} (h : LN W0 L k out w1) (hk : k < L.length) (hn : numM (L.getD k []) = true) {y : Value} (hy : y = .int .i64 (atoiN (L.getD k [])))
    (ho : w3.ownsRow W0.heap.size 3 1 v' (k + 1) ((L.take k).map (fun x => .int .i64 (atoiN x)) ++ [y])) (hg : (w1.alloc o).grownBy w3 out.ownBlock) : LN W0 L (k + 1) v' w3 := by
  have b1 : Below W0.heap.size W0 (w1.alloc o) := h.below.alloc h.below.size o
  have b2 : Below W0.heap.size W0 w3 := b1.grown hg b1.size fun i e => (h.row.lt i e).1
  refine ⟨b2, ?_, fun j hj => ?_⟩
  · have e : (L.take (k + 1)).map (fun x => Value.int .i64 (atoiN x)) = (L.take k).map (fun x => .int .i64 (atoiN x)) ++ [y] := by
      rw [List.take_add_one, List.getElem?_eq_getElem hk, List.map_append, hy]
      simp [List.getD, hk]
    rw [e]
    exact ho
  · rcases Nat.lt_or_ge j k with h' | h'
    · exact h.nums j h'
    · obtain rfl : j = k := by omega
      exact hn
/-- the five numbers' cells -/
theorem LN.five {W0 w : World} {L : List (List UInt8)} {out : Value} (h : LN W0 L 5 out w) (hL : L.length = 6) : ∃ g cap, out = .slice (some ⟨g, 0, none⟩) 5 cap ∧ 5 ≤ cap ∧ W0.heap.size ≤ g ∧ g < w.heap.size ∧
    w.cell? ⟨g, 0, none⟩ = some (.int .i64 (atoiN (L.getD 0 []))) ∧ w.cell? ⟨g, 1, none⟩ = some (.int .i64 (atoiN (L.getD 1 []))) ∧ w.cell? ⟨g, 2, none⟩ = some (.int .i64 (atoiN (L.getD 2 []))) ∧ w.cell? ⟨g, 3, none⟩ = some (.int .i64 (atoiN (L.getD 3 []))) ∧ w.cell? ⟨g, 4, none⟩ = some (.int .i64 (atoiN (L.getD 4 []))) := by
  have ho := h.row
  have hc : ∀ j g cap, out = .slice (some ⟨g, 0, none⟩) 5 cap → j < 5 → w.cell? ⟨g, j, none⟩ = some (.int .i64 (atoiN (L.getD j []))) := by
    rintro j g cap rfl hj
    have := ho.cellAt j (by omega)
    rw [this]
    have e : (L.take 5)[j]? = some (L.getD j []) := by
      rw [List.getElem?_take, if_pos hj, List.getD_eq_getElem?_getD, List.getElem?_eq_getElem (by omega)]
      rfl
    rw [List.getElem?_map, e]
    rfl
  rcases ho.2 with ⟨_, h0⟩ | ⟨g, cap, cur, rfl, hB, hb, hn, hm, hcs, ht⟩
  · exact absurd h0 (by decide)
  · have hlt : g < w.heap.size := by
      rcases Nat.lt_or_ge g w.heap.size with h' | h'
      · exact h'
      · rw [Array.getElem?_eq_none h'] at hb; cases hb
    exact ⟨g, cap, rfl, hn, hB, hlt, hc 0 g cap rfl (by omega), hc 1 g cap rfl (by omega), hc 2 g cap rfl (by omega), hc 3 g cap rfl (by omega), hc 4 g cap rfl (by omega)⟩
end Go.Proofs.YtckohmhhcknmaaaGreatDoor

/-
  store.Store's load: a slot that has no words, or not six.
-/
namespace Go.Proofs.YtckohmhhcknmaaaGreatDoor
open Go.RowKit Go.Sort

theorem slot_k (k : Nat) : slotAt ((k : Int) % 2).toNat = slotAt k := by
  unfold slotAt
  congr 2
  omega
theorem slot_k_top (k : Nat) : slotAt k + 21 ≤ 90 := by
  unfold slotAt
  omega
set_option maxHeartbeats 4000000 in
set_option maxRecDepth 100000 in
theorem load_bad (B sb db : Nat) (D : Dk) (s : St) (v : Value) (n f x : Int) (down : Bool) (W : World) (h : SD B sb db D s v n f x down W) (hf : D.fits) (k : Nat) (hk : k < 2) (l : List UInt8) (b : Bool) (hol : openL tagL (blkOf D (slotAt k)) = if b then some l else none) (hl0 : b = false → l = []) (hll : l.length ≤ 240) (hbad : b = false ∨ (parts 32 l).length ≠ 6) :
    Calls Tryz.prog 52 #[.pointer (some ⟨sb, 0, none⟩), .int .i64 k] W (LoadGot W none) := by
  have HS := Lib.hid h
  have H0 : Hid (LD W ⟨0, 0, []⟩ (.slice none 0 0) (W.alloc (.cells (stCs ⟨0, 0, []⟩ (.slice none 0 0)) 39))) := Lib.hid LD.start
  have HSL := Lib.hid (fun w => store_slot (k : Int) w (by omega) (by omega))
  rw [slot_k] at HSL
  have htop := slot_k_top k
  have HRD := Lib.hid (fun w hd => disk_read db D (slotAt k) w hd (by omega))
  have HOP := Lib.hid (fun w => store_opened (D.blk.getD (slotAt k) ByteArray.empty) w (by have := hf (slotAt k); omega))
  have HOP : Hid (∀ w, Calls Tryz.prog 98 #[.string (D.blk.getD (slotAt k) ByteArray.empty)] w fun e w' => e = .returned (.tuple #[.string (txt l), .bool b]) ∧ Below w.heap.size w w') := Lib.hid fun w => by
    have h1 := HOP.out w
    have h2 : openL tagL (D.blk.getD (slotAt k) ByteArray.empty).data.toList = if b then some l else none := hol
    rw [h2] at h1
    refine h1.mono ?_
    rintro e w' ⟨⟨x2, b2, rfl, h3⟩, hb⟩
    rcases b with _ | _
    · obtain ⟨rfl, rfl⟩ := h3
      rw [hl0 rfl]
      exact ⟨rfl, hb⟩
    · obtain ⟨rfl, rfl⟩ := h3
      exact ⟨rfl, hb⟩
  have HSP := Lib.hid (fun w hm => split_row 32 (txt l) w.heap.size w (by rw [txt_size_]; omega) hm (Nat.le_refl _))
  rw [data_txt] at HSP
  have hpl := parts_len 32 l
  generalize parts 32 l = L at *
  generalize txt l = tl at *
  generalize D.blk.getD (slotAt k) ByteArray.empty = blk at *
  obtain ⟨ck, nx, Ls⟩ := s
  obtain ⟨c0, c1, c2, c3, c4, c5, c6, c7, z, hlt⟩ := h.cells
  clear h hol hl0
  unfold stCs at H0
  dsimp only at H0
  go_enter Tryz.func52, Tryz.ntmps52
  go_wp2_with fail
  go_at_call 70
  refine (HSL.out _).mono ?_
  rintro e w1 ⟨rfl, rfl⟩
  go_wp2_with fail
  refine (HRD.out _ (HS.out.keep H0.out.below).disk).mono ?_
  rintro e w2 ⟨rfl, rfl⟩
  go_wp2_with fail
  go_at_call 98
  refine (HOP.out _).mono ?_
  rintro e w3 ⟨rfl, hb⟩
  have H3 := Lib.hid (H0.out.keep hb)
  clear hb
  go_wp2_with fail
  go_at_call 93
  refine (HSP.out _ (HS.out.keep H3.out.below).env.maxl).mono ?_
  rintro e w4 ⟨v4, rfl, ⟨g4, c4', rfl, -⟩, hb⟩
  have H4 := Lib.hid (H3.out.keep hb)
  clear hb H3 H0
  obtain ⟨m0, m1, m2, mz, mlt⟩ := H4.out.cells
  rcases hbad with rfl | hne
  · go_wp2_with fail
    go_region
    go_wp2_with fail
    exact load_end (LD.same H4.out).drew rfl rfl rfl rfl rfl rfl
  · have hne1 : ((L.length : Int) != 6) = true := by simpa using (by omega : ¬ (L.length : Int) = 6)
    cases b
    all_goals
      go_wp2_with fail
      go_region
      go_wp2_with fail
      exact load_end (LD.same H4.out).drew rfl rfl rfl rfl rfl rfl
end Go.Proofs.YtckohmhhcknmaaaGreatDoor
