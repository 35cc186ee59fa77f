/-
  store.Store's Add: an event is let be.
-/
import Derived.Test.YtepjcdjpikbbjaaGreatDoorP17
import Derived.Test.YtepjcdjpikbbjaaGreatDoorP12
import Derived.Test.YtepjcdjpikbbjaaGreatDoorP15
import Derived.Deep.RegionHeld3
import Derived.Test.YtepjcdjpikbbjaaGreatDoorP07
import Derived.Test.YtepjcdjpikbbjaaGreatDoorP10
namespace Go.Proofs.YtepjcdjpikbbjaaGreatDoor
open Go.RowKit Go.Sort

/-- what comes of the last write -/
def AddEnd (B sb db : Nat) (D : Dk) (s : St) (v : Value) (n f x : Int) (e : Ev) (r : Ending) (w' : World) : Prop :=
  (offB D = true ∧ r = .returned (.iface 57 (.int .i64 14)) ∧ SD B sb db D s v n f x true w') ∨
  (offB D = false ∧ r = .returned .nilIface ∧ ∃ v', SD B sb db (D.put (x % 16).toNat (txt (evRec tagL x e))) (applyS s e) v' n f (x + 1) false w')
/-- what Add gives -/
def AddGot (W : World) (B sb db : Nat) (D : Dk) (s : St) (v : Value) (n f x : Int) (e : Ev) (r : Ending) (w' : World) : Prop :=
  Two sb db W w' ∧ (
    (evB e = false ∧ r = .returned (.iface 57 (.int .i64 1)) ∧ SD B sb db D s v n f x false w') ∨
    (evB e = true ∧ 20 < (applyS s e).fams.length ∧ r = .returned (.iface 57 (.int .i64 12)) ∧ SD B sb db D s v n f x false w') ∨
    (evB e = true ∧ (applyS s e).fams.length ≤ 20 ∧ x - f ≠ 16 ∧ AddEnd B sb db D s v n f x e r w') ∨
    (evB e = true ∧ (applyS s e).fams.length ≤ 20 ∧ x - f = 16 ∧ ∃ D1, SaveOut D (slotAt ((n + 1) % 2).toNat) s.fams (txt (headL tagL (n + 1) x s)) D1 true ∧ AddEnd B sb db D1 s v (n + 1) x x e r w') ∨
    (evB e = true ∧ (applyS s e).fams.length ≤ 20 ∧ x - f = 16 ∧ ∃ D1, SaveOut D (slotAt ((n + 1) % 2).toNat) s.fams (txt (headL tagL (n + 1) x s)) D1 false ∧ r = .returned (.iface 57 (.int .i64 14)) ∧ SD B sb db D1 s v n f x true w'))
/-- while Add goes: its event's block besides -/
structure SA (W : World) (B sb db : Nat) (D : Dk) (s : St) (v : Value) (n f x : Int) (down : Bool) (e : Ev) (w : World) : Prop where
  sd : SD B sb db D s v n f x down w
  ev : Blk w W.heap.size 116 (evCs e)
  two : Two sb db W w
  nb : sb < W.heap.size ∧ db < W.heap.size
section
variable {W w w' : World} {B sb db : Nat} {D : Dk} {s : St} {v : Value} {n f x : Int} {down : Bool} {e : Ev}
theorem SA.start (h : SD B sb db D s v n f x down W) : SA W B sb db D s v n f x down e (W.alloc (.cells (evCs e) 116)) := by
  have hb : Below W.heap.size W (W.alloc (.cells (evCs e) 116)) := (Below.refl _ _).alloc (Nat.le_refl _) _
  exact ⟨h.keep hb, Blk.new W _ _, Two.of_below hb, Blk.lt h.st, h.disk.at_.lt⟩
theorem SA.keep (h : SA W B sb db D s v n f x down e w) (hb : Below w.heap.size w w') : SA W B sb db D s v n f x down e w' := ⟨h.sd.keep hb, h.ev.below' hb, h.two.trans (Two.of_below hb), h.nb⟩
theorem SA.three {ck nx : Int} {L : List Fam} (h : SA W B sb db D ⟨ck, nx, L⟩ v n f x down e w) : w.cell? ⟨sb, 1, none⟩ = some (.int .i64 ck) ∧ w.cell? ⟨sb, 2, none⟩ = some (.int .i64 nx) ∧ w.cell? ⟨sb, 3, none⟩ = some v := ⟨Blk.cell h.sd.st 1, Blk.cell h.sd.st 2, Blk.cell h.sd.st 3⟩
theorem SA.drew (h : SA W B sb db D s v n f x down e w) : SA W B sb db D s v n f x down e w.drew := ⟨h.sd.drew, h.ev, h.two.trans (Two.of_drew _), h.nb⟩
end
theorem SD.became {B sb db : Nat} {D : Dk} {s : St} {v : Value} {n f x : Int} {w : World} (h : SD B sb db D s v n f x false w) (s' : St) {v' : Value} (hr : FRow w B v' s'.fams) (x' : Int) :
    SD B sb db D s' v' n f x' false ((((w.setCell ⟨sb, 1, none⟩ (.int .i64 s'.clock)).setCell ⟨sb, 2, none⟩ (.int .i64 s'.next)).setCell ⟨sb, 3, none⟩ v').setCell ⟨sb, 6, none⟩ (.int .i64 x')) ∧ w.grownBy ((((w.setCell ⟨sb, 1, none⟩ (.int .i64 s'.clock)).setCell ⟨sb, 2, none⟩ (.int .i64 s'.next)).setCell ⟨sb, 3, none⟩ v').setCell ⟨sb, 6, none⟩ (.int .i64 x')) (some sb) := by
  obtain ⟨h1, h2, h3⟩ := h.apart
  have e1 := Blk.put_ h.st 1 (.int .i64 s'.clock) (cs' := storeCs db ⟨s'.clock, s.next, s.fams⟩ v n f x false) rfl
  have e2 := Blk.put_ e1 2 (.int .i64 s'.next) (cs' := storeCs db ⟨s'.clock, s'.next, s.fams⟩ v n f x false) rfl
  have e3 := Blk.put_ e2 3 v' (cs' := storeCs db s' v' n f x false) rfl
  have e4 := Blk.put_ e3 6 (.int .i64 x') (cs' := storeCs db s' v' n f x' false) rfl
  have g1 := only_set1 w sb ⟨sb, 1, none⟩ rfl (.int .i64 s'.clock)
  have g2 := only_setCell g1 (p := ⟨sb, 2, none⟩) (.inl rfl) (.int .i64 s'.next)
  have g3 := only_setCell g2 (p := ⟨sb, 3, none⟩) (.inl rfl) v'
  have hg := only_setCell g3 (p := ⟨sb, 6, none⟩) (.inl rfl) (.int .i64 x')
  have hb : Below B w _ := (Below.refl B w).grown hg h.big (fun k hk => by cases hk; exact h.bs)
  exact ⟨⟨h.env.keep hb, e4, h.disk.grown hg (by simpa using Ne.symm h3), hr.kept hg (hr.apart h.st (by decide)), h.bs, h.bd⟩, hg⟩
theorem SD.zs {B sb db : Nat} {D : Dk} {s : St} {v : Value} {n f x : Int} {down : Bool} {w : World} (h : SD B sb db D s v n f x down w) : w.cell? ⟨sb, 0, none⟩ = some (.pointer (some ⟨db, 0, none⟩)) ∧ w.cell? ⟨sb, 6, none⟩ = some (.int .i64 x) := ⟨Blk.cell h.st 0, Blk.cell h.st 6⟩
theorem st_sets {w : World} {g : Nat} {T : TypeId} {z0 z1 z2 : Value} (h : Blk w g T #[z0, z1, z2]) (c n v : Value) : Blk (((w.setCell ⟨g, 0, none⟩ c).setCell ⟨g, 1, none⟩ n).setCell ⟨g, 2, none⟩ v) g T #[c, n, v] ∧ w.grownBy (((w.setCell ⟨g, 0, none⟩ c).setCell ⟨g, 1, none⟩ n).setCell ⟨g, 2, none⟩ v) (some g) := by
  have e1 := h.put_ 0 c (cs' := #[c, z1, z2]) rfl
  have e2 := e1.put_ 1 n (cs' := #[c, n, z2]) rfl
  have e3 := e2.put_ 2 v (cs' := #[c, n, v]) rfl
  have g1 := only_set1 w g ⟨g, 0, none⟩ rfl c
  have g2 := only_setCell g1 (p := ⟨g, 1, none⟩) (.inl rfl) n
  exact ⟨e3, only_setCell g2 (p := ⟨g, 2, none⟩) (.inl rfl) v⟩
set_option maxHeartbeats 8000000 in
set_option maxRecDepth 100000 in
theorem add_no (B sb db : Nat) (D : Dk) (s : St) (v : Value) (n f x : Int) (e : Ev) (W : World) (h : SD B sb db D s v n f x false W) (hs : e.fam.short 5000) (he : evB e = false) :
    Calls Tryz.prog 190 #[.pointer (some ⟨sb, 0, none⟩), evVal e] W (AddGot W B sb db D s v n f x e) := by
  have H0 := Lib.hid (SA.start (e := e) h)
  have HW := Lib.hid (fun w hw => write_no e w hs hw he)
  have HE := Lib.hid he
  have HG : Hid (∀ w', SA W B sb db D s v n f x false e w' → AddGot W B sb db D s v n f x e (.returned (.iface 57 (.int .i64 1))) w') := Lib.hid fun w' hw => ⟨hw.two, .inl ⟨he, rfl, hw.sd⟩⟩
  obtain ⟨ck, nx, L⟩ := s
  obtain ⟨c0, c1, c2, c3, c4, c5, c6, c7, z, hlt⟩ := h.cells
  obtain ⟨kd, ⟨i, cl, su, sc, ge, ma, us, re, de⟩, id, ti⟩ := e
  unfold evVal evCs at *
  dsimp only at *
  clear h he
  go_enter Tryz.func190, Tryz.ntmps190
  go_wp2_with fail
  go_at_call 186
  refine (HW.out _ H0.out.sd.env.wb).mono ?_
  rintro r w1 ⟨rfl, hb⟩
  go_wp2_with fail
  go_ret
  exact HG.out _ (H0.out.keep hb)
set_option maxHeartbeats 8000000 in
set_option maxRecDepth 100000 in
theorem add_yes (B sb db : Nat) (D : Dk) (s : St) (v : Value) (n f x : Int) (e : Ev) (W : World) (h : SD B sb db D s v n f x false W) (hs : e.fam.short 5000) (he : evB e = true) (hf : D.fits) (hfit : Fit s) (h0 : 0 ≤ n) (h1 : n < 1000000) (h2 : 0 ≤ f) (h3 : f ≤ x) (h4 : x < 1000000) :
    Calls Tryz.prog 190 #[.pointer (some ⟨sb, 0, none⟩), evVal e] W (AddGot W B sb db D s v n f x e) := by
  have H0 := Lib.hid (SA.start (e := e) h)
  have HW := Lib.hid (fun w hw => ev_write_yes e w hs hw he)
  have HA : Hid (∀ (w : World) (v : Value), FRow w B v s.fams → Calls Tryz.prog 54 #[stVal s v, evVal e] w (GotAs w (applyS s e).clock (applyS s e).next (applyS s e).fams)) :=
    Lib.hid fun w v hr => (ev_apply _ v s e w hr hfit.ok (okN_one he) (okN_two he)).mono fun _ _ h => got_as h
  have HE := Lib.hid he
  have HF := Lib.hid hf
  have HI := Lib.hid hfit
  obtain ⟨sa, scp, rfl⟩ := h.row.slice
  obtain ⟨ck, nx, L⟩ := s
  have hel := evL_len he
  have hes : (txt (evL e)).size ≤ 180 := by rw [txt_size_]; exact hel
  obtain ⟨c0, c1, c2, c3, c4, c5, c6, c7, z, hlt⟩ := h.cells
  generalize hst : applyS ⟨ck, nx, L⟩ e = st' at *
  have HST := Lib.hid hst
  clear hst
  obtain ⟨ck', nx', L'⟩ := st'
  dsimp only at *
  generalize hxl : txt (evL e) = xl at *
  have HXL := Lib.hid hxl
  obtain ⟨kd, ⟨i, cl, su, sc, ge, ma, us, re, de⟩, id, ti⟩ := e
  unfold GotAs stVal stCs evVal evCs at HA
  unfold evVal evCs at HW
  unfold evCs at H0
  unfold evVal evCs
  dsimp only at *
  clear h he hf hfit hxl
  go_enter Tryz.func190, Tryz.ntmps190
  go_wp2_with fail
  go_at_call 186
  refine (HW.out _ H0.out.sd.env.wb).mono ?_
  rintro r w1 ⟨rfl, hb⟩
  have H1 := Lib.hid (H0.out.keep hb)
  clear hb c0 c1 c2 c3 c4 c5 c6 c7 z hlt H0 HW
  go_wp2_with fail
  refine wp_region_tail (SA W B sb db D ⟨ck, nx, L⟩ (.slice sa L.length scp) n f x false ⟨kd, ⟨i, cl, su, sc, ge, ma, us, re, de⟩, id, ti⟩) [7] (by kernel_rfl) ?_
  have HSD := H1.out.drew
  refine wpAnyT_take 2 (i := 0) (v := ?v0) rfl (by kernel_rfl) (by kernel_rfl) (by kernel_rfl) (by kernel_rfl) (by kernel_rfl) (fun _ _ _ h => h) (by rfl) ?hy0 (by assumption) ?rest0
  case hy0 => (intro w hSw; obtain ⟨c1, c2, c3⟩ := hSw.three; obtain ⟨e0, e1, e2, e3, e4, e5, e6, e7, e8, e9, e10, e11⟩ := ev_cells hSw.ev; go_simp; (try with_reducible rfl))
  simp only [Act.put]
  refine wpAnyT_take 2 (i := 1) (v := ?v1) rfl (by kernel_rfl) (by kernel_rfl) (by kernel_rfl) (by kernel_rfl) (by kernel_rfl) (fun _ _ _ h => h) (by rfl) ?hy1 (by assumption) ?rest1
  case hy1 => (intro w hSw; obtain ⟨c1, c2, c3⟩ := hSw.three; obtain ⟨e0, e1, e2, e3, e4, e5, e6, e7, e8, e9, e10, e11⟩ := ev_cells hSw.ev; go_simp; (try with_reducible rfl))
  simp only [Act.put]
  refine wpAnyT_take 2 (i := 2) (v := ?v2) rfl (by kernel_rfl) (by kernel_rfl) (by kernel_rfl) (by kernel_rfl) (by kernel_rfl) (fun _ _ _ h => h) (by rfl) ?hy2 (by assumption) ?rest2
  case hy2 => (intro w hSw; obtain ⟨c1, c2, c3⟩ := hSw.three; obtain ⟨e0, e1, e2, e3, e4, e5, e6, e7, e8, e9, e10, e11⟩ := ev_cells hSw.ev; go_simp; (try with_reducible rfl))
  simp only [Act.put]
  refine wpAnyT_take 2 (i := 3) (v := ?v3) rfl (by kernel_rfl) (by kernel_rfl) (by kernel_rfl) (by kernel_rfl) (by kernel_rfl) (fun _ _ _ h => h) (by rfl) ?hy3 (by assumption) ?rest3
  case hy3 => (intro w hSw; obtain ⟨c1, c2, c3⟩ := hSw.three; obtain ⟨e0, e1, e2, e3, e4, e5, e6, e7, e8, e9, e10, e11⟩ := ev_cells hSw.ev; go_simp; (try with_reducible rfl))
  simp only [Act.put]
  refine wpAnyT_take 2 (i := 4) (v := ?v4) rfl (by kernel_rfl) (by kernel_rfl) (by kernel_rfl) (by kernel_rfl) (by kernel_rfl) (fun _ _ _ h => h) (by rfl) ?hy4 (by assumption) ?rest4
  case hy4 => (intro w hSw; obtain ⟨c1, c2, c3⟩ := hSw.three; obtain ⟨e0, e1, e2, e3, e4, e5, e6, e7, e8, e9, e10, e11⟩ := ev_cells hSw.ev; go_simp; (try with_reducible rfl))
  simp only [Act.put]
  refine wpAnyT_two (i := 5) (j := 6) (by kernel_rfl) rfl rfl ?cA ?cB
  case' cA =>
    intro K5 hK5
    go_simp
    go_at_call 54
    refine (HA.out _ _ HSD.sd.row).mono ?_
    rintro r w2 ⟨a1, ac, rfl, hr1, hb⟩
    have HSD2 := HSD.keep hb
    have hr2 := hr1.mono (B' := B) HSD.sd.big
    try dsimp only
    refine hK5.out _ _ (fun _ => HSD2) ?_
    try simp only [Act.put]
    refine wpAnyT_one (i := 6) (by kernel_rfl) rfl ?_
    intro K6 hK6
    go_simp
    have hb3 := (Below.refl w2.heap.size w2).alloc (Nat.le_refl _) (.cells #[.int .i64 0, .int .i64 0, .slice none 0 0] 83)
    have HSD3 := HSD2.keep hb3
    have hz := Blk.new w2 83 #[.int .i64 0, .int .i64 0, .slice none 0 0]
    have hr3 := hr2.below hb3
    refine hK6.out _ _ (fun _ => HSD3) ?_
    try simp only [Act.put]
    obtain ⟨hz1, hz2⟩ := st_sets hz (.int .i64 ck') (.int .i64 nx') (.slice a1 L'.length ac)
    have hb4 := hb3.grown hz2 hb3.size (fun _ hk => by cases hk; exact Nat.le_refl _)
    have hne : Value.ownBlock (.slice a1 L'.length ac) ≠ some w2.heap.size := fun he => by have := (hr2.lt _ he).2; omega
    have HS := Lib.hid (HSD2.keep hb4)
    have HT := Lib.hid hz1
    have HR := Lib.hid (hr3.kept hz2 hne)
    have hlt2 : w2.heap.size < (w2.alloc (.cells #[.int .i64 0, .int .i64 0, .slice none 0 0] 83)).heap.size := hz.lt
    obtain ⟨d0, d1, d2⟩ := two_cells hz
    have dz := hz.frozen
    generalize w2.alloc (.cells #[.int .i64 0, .int .i64 0, .slice none 0 0] 83) = w2a at *
    refine wpAnyT_one (i := 7) (by kernel_rfl) rfl ?_
    intro K7 hK7
    go_simp
    try dsimp only
    refine hK7.out _ _ (fun h => absurd h (by decide)) ?_
    refine wpAnyT_done (by kernel_rfl) ?_ _
    have hgb : sb < w2.heap.size ∧ db < w2.heap.size := ⟨Blk.lt HSD2.sd.st, HSD2.sd.disk.at_.lt⟩
    generalize w2.heap.size = tb at *
    generalize ((w2a.setCell ⟨tb, 0, none⟩ (.int .i64 ck')).setCell ⟨tb, 1, none⟩ (.int .i64 nx')).setCell ⟨tb, 2, none⟩ (.slice a1 L'.length ac) = w3 at *
    clear hz hz1 hz2 hb3 hb4 hr1 hr2 hr3 HSD HSD2 HSD3 hb H1 d0 d1 d2 dz
    clear hlt2
  case' cB =>
    intro K6 hK6
    go_simp
    have hb3 : Below w1.drew.heap.size w1.drew (w1.alloc (.cells #[.int .i64 0, .int .i64 0, .slice none 0 0] 83)).drew := (Below.refl w1.heap.size w1.drew).alloc (Nat.le_refl _) _
    have HSD3 := HSD.keep hb3
    have hz : Blk (w1.alloc (.cells #[.int .i64 0, .int .i64 0, .slice none 0 0] 83)).drew w1.heap.size 83 #[.int .i64 0, .int .i64 0, .slice none 0 0] := Blk.new w1 _ _
    refine hK6.out _ _ (fun _ => HSD3) ?_
    try simp only [Act.put]
    refine wpAnyT_one (i := 5) (by kernel_rfl) rfl ?_
    intro K5 hK5
    go_simp
    go_at_call 54
    have hsz1 : w1.heap.size < (w1.alloc (.cells #[.int .i64 0, .int .i64 0, .slice none 0 0] 83)).drew.heap.size := hz.lt
    have hgb : sb < w1.heap.size ∧ db < w1.heap.size := ⟨Blk.lt HSD.sd.st, HSD.sd.disk.at_.lt⟩
    generalize (w1.alloc (.cells #[.int .i64 0, .int .i64 0, .slice none 0 0] 83)).drew = w1a at *
    refine (HA.out _ _ HSD3.sd.row).mono ?_
    rintro r w2 ⟨a1, ac, rfl, hr1, hb⟩
    have HSD2 := HSD3.keep hb
    have hz0 := hz.below' hb
    have hb2 := below_2 hb3 hb
    have hr2 := hr1.mono (B' := B) HSD3.sd.big
    try dsimp only
    refine hK5.out _ _ (fun _ => HSD2) ?_
    try simp only [Act.put]
    obtain ⟨hz1, hz2⟩ := st_sets hz0 (.int .i64 ck') (.int .i64 nx') (.slice a1 L'.length ac)
    have hb4 := hb2.grown hz2 hb2.size (fun _ hk => by cases hk; exact Nat.le_refl _)
    have hne : Value.ownBlock (.slice a1 L'.length ac) ≠ some w1.heap.size := fun he => by have := (hr1.lt _ he).1; omega
    have HS := Lib.hid (HSD.keep hb4)
    have HT := Lib.hid hz1
    have HR := Lib.hid (hr2.kept hz2 hne)
    obtain ⟨d0, d1, d2⟩ := two_cells hz0
    have dz := hz0.frozen
    refine wpAnyT_one (i := 7) (by kernel_rfl) rfl ?_
    intro K7 hK7
    go_simp
    try dsimp only
    refine hK7.out _ _ (fun h => absurd h (by decide)) ?_
    refine wpAnyT_done (by kernel_rfl) ?_ _
    clear HSD3 hsz1 hb hz0
    generalize w1.heap.size = tb at *
    generalize ((w2.setCell ⟨tb, 0, none⟩ (.int .i64 ck')).setCell ⟨tb, 1, none⟩ (.int .i64 nx')).setCell ⟨tb, 2, none⟩ (.slice a1 L'.length ac) = w3 at *
    clear hz hz1 hz2 hb3 hb4 hb2 hr1 hr2 HSD HSD2 H1 d0 d1 d2 dz hne
  all_goals
    obtain ⟨c0, c1, c2, c3, c4, c5, c6, c7, z, hlt⟩ := HS.out.sd.cells
    obtain ⟨d0, d1, d2⟩ := two_cells HT.out
    by_cases hmany : 20 < L'.length
    · go_wp2_with fail
      go_ret
      exact ⟨HS.out.two, .inr (.inl ⟨HE.out, by rw [HST.out]; exact hmany, rfl, HS.out.sd⟩)⟩
    have HLG := Lib.hid (store_log sb db ⟨ck, nx, L⟩ _ n f x false w3 HS.out.sd.st h2 h3 (by omega))
    go_wp2_with fail
    go_at_call 128
    refine HLG.out.mono ?_
    rintro r w4 ⟨rfl, hb⟩
    have HS4 := Lib.hid (HS.out.keep hb)
    have HT4 := Lib.hid (HT.out.below' hb)
    have HR4 := Lib.hid (HR.out.below hb)
    clear hb HLG HS HT HR c0 c1 c2 c3 c4 c5 c6 c7 z hlt d0 d1 d2
    by_cases hfull : x - f = 16
    case' pos =>
      have HSV := Lib.hid (store_save B sb db D ⟨ck, nx, L⟩ _ n f x w4 HS4.out.sd HF.out HI.out h0 h1 (by omega) (by omega))
      go_wp2_with fail
      go_at_call 132
      refine HSV.out.mono ?_
      rintro r w5 ⟨ok, D1, hso, htw, hres⟩
      rcases hres with ⟨rfl, rfl, hsd⟩ | ⟨rfl, rfl, hsd⟩
      rotate_left
      · go_wp2_with fail
        go_ret
        exact ⟨HS4.out.two.trans htw, .inr (.inr (.inr (.inr ⟨HE.out, by rw [HST.out]; show L'.length ≤ 20; omega, hfull, D1, hso, rfl, hsd⟩)))⟩
      have HC : ∃ D1 n1 f1, SD B sb db D1 ⟨ck, nx, L⟩ (.slice sa L.length scp) n1 f1 x false w5 ∧ Two sb db W w5 ∧ Blk w5 tb 83 #[.int .i64 ck', .int .i64 nx', .slice a1 L'.length ac] ∧ FRow w5 B (.slice a1 L'.length ac) L' ∧
          ∀ r w', AddEnd B sb db D1 ⟨ck, nx, L⟩ (.slice sa L.length scp) n1 f1 x ⟨kd, ⟨i, cl, su, sc, ge, ma, us, re, de⟩, id, ti⟩ r w' → Two sb db W w' → AddGot W B sb db D ⟨ck, nx, L⟩ (.slice sa L.length scp) n f x ⟨kd, ⟨i, cl, su, sc, ge, ma, us, re, de⟩, id, ti⟩ r w' :=
        ⟨D1, n + 1, x, hsd, HS4.out.two.trans htw, Blk.two HT4.out htw (by have := hgb.1; have := hgb.2; omega) (by have := hgb.1; have := hgb.2; omega), HR4.out.two htw (HR4.out.apart HS4.out.sd.st (by decide)) (HR4.out.apart HS4.out.sd.disk.at_ (by decide)),
          fun r w' hr ht => ⟨ht, .inr (.inr (.inr (.inl ⟨HE.out, by rw [HST.out]; show L'.length ≤ 20; omega, hfull, D1, hso, hr⟩)))⟩⟩
      clear HSV HS4 HT4 HR4 hso htw hsd
      go_wp2_with fail
    case' neg =>
      have hfull1 : (x - f == 16) = false := by simpa using hfull
      have HC : ∃ D1 n1 f1, SD B sb db D1 ⟨ck, nx, L⟩ (.slice sa L.length scp) n1 f1 x false w4 ∧ Two sb db W w4 ∧ Blk w4 tb 83 #[.int .i64 ck', .int .i64 nx', .slice a1 L'.length ac] ∧ FRow w4 B (.slice a1 L'.length ac) L' ∧
          ∀ r w', AddEnd B sb db D1 ⟨ck, nx, L⟩ (.slice sa L.length scp) n1 f1 x ⟨kd, ⟨i, cl, su, sc, ge, ma, us, re, de⟩, id, ti⟩ r w' → Two sb db W w' → AddGot W B sb db D ⟨ck, nx, L⟩ (.slice sa L.length scp) n f x ⟨kd, ⟨i, cl, su, sc, ge, ma, us, re, de⟩, id, ti⟩ r w' :=
        ⟨D, n, f, HS4.out.sd, HS4.out.two, HT4.out, HR4.out, fun r w' hr ht => ⟨ht, .inr (.inr (.inl ⟨HE.out, by rw [HST.out]; show L'.length ≤ 20; omega, hfull, hr⟩))⟩⟩
      clear HS4 HT4 HR4
      go_wp2_with fail
      generalize w4 = w5 at *
    all_goals
      obtain ⟨D1, n1, f1, hsd, htw, htb, hrw, hend⟩ := HC
      have HS5 := Lib.hid hsd
      have HW5 := Lib.hid htw
      have HT5 := Lib.hid htb
      have HR5 := Lib.hid hrw
      have HEND := Lib.hid hend
      clear hsd htw htb hrw hend
      obtain ⟨j, hj, hj2⟩ : ∃ j : Nat, x.tmod 16 = (j : Int) ∧ (x % 16).toNat = j := ⟨(x % 16).toNat, by rw [Int.tmod_eq_emod_of_nonneg (by omega)]; omega, rfl⟩
      have hj16 : j < 16 := by omega
      have hxM : okM x = true := okM_iff.2 (by omega)
      have HIT := Lib.hid (fun w hT => itoaM_c x hxM w hT)
      have hxl : (Lib.itoa x).length ≤ 13 := itoaM_len hxM
      have hgl : glue 32 [Lib.itoa x, evL ⟨kd, ⟨i, cl, su, sc, ge, ma, us, re, de⟩, id, ti⟩] = Lib.itoa x ++ 32 :: evL ⟨kd, ⟨i, cl, su, sc, ge, ma, us, re, de⟩, id, ti⟩ := rfl
      have HSE := Lib.hid (fun w v B h => store_sealed B v [Lib.itoa x, evL ⟨kd, ⟨i, cl, su, sc, ge, ma, us, re, de⟩, id, ti⟩] w h (by show 2 ≤ 100; decide) (by rw [hgl, List.length_append, List.length_cons]; omega))
      have hre : txt (sealL tagL (glue 32 [Lib.itoa x, evL ⟨kd, ⟨i, cl, su, sc, ge, ma, us, re, de⟩, id, ti⟩])) = txt (evRec tagL x ⟨kd, ⟨i, cl, su, sc, ge, ma, us, re, de⟩, id, ti⟩) := rfl
      rw [hre] at HSE
      have hrs : (txt (evRec tagL x ⟨kd, ⟨i, cl, su, sc, ge, ma, us, re, de⟩, id, ti⟩)).size ≤ 240 := by
        rw [txt_size_]
        unfold evRec
        rw [sealL_len, List.length_append, List.length_cons]
        omega
      have HROW : Hid (∀ w : World, Row (w.alloc (.cells #[.string (itoS x), .string xl] 9)) w.heap.size (.slice (some ⟨w.heap.size, 0, none⟩) 2 2) [Lib.itoa x, evL ⟨kd, ⟨i, cl, su, sc, ge, ma, us, re, de⟩, id, ti⟩]) := Lib.hid fun w => by
        rw [← HXL.out]
        exact Row.new (L := [Lib.itoa x, evL ⟨kd, ⟨i, cl, su, sc, ge, ma, us, re, de⟩, id, ti⟩]) (Nat.le_refl _) (by show 2 ≤ maxLen; decide)
      clear hre hgl hxM hxl
      generalize hrd : txt (evRec tagL x ⟨kd, ⟨i, cl, su, sc, ge, ma, us, re, de⟩, id, ti⟩) = rd at *
      have HRD := Lib.hid hrd
      clear hrd
      generalize itoS x = ix at *
      have HC0 := SD.zs (SD.drew HS5.out)
      rcases hoff : offB D1 with _ | _
      · have HWR := Lib.hid (fun w h => disk_write db D1 j rd w h (by omega) hrs hoff)
        have HOO := Lib.hid hoff
        clear hoff hrs
        obtain ⟨c0, c1, c2, c3, c4, c5, c6, c7, z, hlt⟩ := HS5.out.cells
        go_region_held3 (fun w' => w'.cell? ⟨sb, 0, none⟩ = some (.pointer (some ⟨db, 0, none⟩)) ∧ w'.cell? ⟨sb, 6, none⟩ = some (.int .i64 x))
          (first
            | with_reducible assumption
            | with_reducible exact HC0
            | with_reducible exact SD.zs hs6
            | with_reducible exact SD.zs hs6a
            | exact SD.zs hs6a
            | with_reducible exact SD.zs hs7
            | with_reducible exact SD.zs hs8)
          (first
            | (go_at_call 26; with_reducible refine (HIT.out _ (SD.env (SD.drew HS5.out)).tens).mono ?_; rintro e w6 ⟨rfl, hb6⟩
               have hs6 := SD.keep (SD.drew HS5.out) hb6
               have hba := (Below.refl w6.heap.size w6).alloc (Nat.le_refl _) (.cells #[.string ix, .string xl] 9)
               have hs6a := SD.keep hs6 hba)
            | (go_at_call 189; with_reducible refine (HSE.out _ _ _ (HROW.out _)).mono ?_; rintro e w7 ⟨rfl, hb7⟩
               have hs7 := SD.keep hs6a hb7)
            | (go_at_call 187; with_reducible refine (HWR.out _ (SD.disk hs7)).mono ?_; rintro e w8 ⟨rfl, hd8, hg8⟩
               have hs8 := SD.wrote hs7 hd8 hg8))
        have HS8 := Lib.hid hs8
        have HT8 := Lib.hid ((((blk_dr HT5.out).below' hb6).below' hba).below' hb7 |>.grown hg8 (by simp; have := hgb.2; omega))
        have hr7 := ((FRow.below (w := w5.drew) HR5.out hb6).below hba).below hb7
        have HR8 := Lib.hid (hr7.kept hg8 (hr7.apart hs7.disk.at_ (by decide)))
        have HW8 := Lib.hid (((((HW5.out.trans (Two.of_drew _)).trans (Two.of_below hb6)).trans (Two.of_below hba)).trans (Two.of_below hb7)).trans (Two.of_two hg8))
        clear hs8 hs7 hs6a hs6 hb6 hba hb7 hd8 hg8 hr7 HS5 HT5 HR5 HW5 HC0 c0 c1 c2 c3 c4 c5 c6 c7 z hlt
        obtain ⟨c0, c1, c2, c3, c4, c5, c6, c7, z, hlt⟩ := HS8.out.cells
        obtain ⟨d0, d1, d2⟩ := two_cells HT8.out
        go_wp2_with fail
        go_ret
        obtain ⟨k1, k2⟩ := HS8.out.became ⟨ck', nx', L'⟩ HR8.out (x + 1)
        refine HEND.out _ _ (.inr ⟨HOO.out, rfl, .slice a1 L'.length ac, ?_⟩) (HW8.out.trans (Two.of_one k2))
        rw [HST.out, hj2, HRD.out]
        exact k1
      · obtain ⟨q1, q2⟩ := off_iff hoff
        have HWR := Lib.hid (fun w h => disk_write_off db D1 (j : Int) rd w h (by omega) (by omega) hrs q1 q2)
        have HOO := Lib.hid hoff
        clear hoff hrs q1 q2
        obtain ⟨c0, c1, c2, c3, c4, c5, c6, c7, z, hlt⟩ := HS5.out.cells
        go_region_held3 (fun w' => w'.cell? ⟨sb, 0, none⟩ = some (.pointer (some ⟨db, 0, none⟩)) ∧ w'.cell? ⟨sb, 6, none⟩ = some (.int .i64 x))
          (first
            | with_reducible assumption
            | with_reducible exact HC0
            | with_reducible exact SD.zs hs6
            | with_reducible exact SD.zs hs6a
            | exact SD.zs hs6a
            | with_reducible exact SD.zs hs7
            | with_reducible exact SD.zs hs8)
          (first
            | (go_at_call 26; with_reducible refine (HIT.out _ (SD.env (SD.drew HS5.out)).tens).mono ?_; rintro e w6 ⟨rfl, hb6⟩
               have hs6 := SD.keep (SD.drew HS5.out) hb6
               have hba := (Below.refl w6.heap.size w6).alloc (Nat.le_refl _) (.cells #[.string ix, .string xl] 9)
               have hs6a := SD.keep hs6 hba)
            | (go_at_call 189; with_reducible refine (HSE.out _ _ _ (HROW.out _)).mono ?_; rintro e w7 ⟨rfl, hb7⟩
               have hs7 := SD.keep hs6a hb7)
            | (go_at_call 187; with_reducible refine (HWR.out _ (SD.disk hs7)).mono ?_; rintro e w8 ⟨rfl, rfl⟩
               skip))
        have HS7 := Lib.hid hs7
        have HW7 := Lib.hid ((((HW5.out.trans (Two.of_drew _)).trans (Two.of_below hb6)).trans (Two.of_below hba)).trans (Two.of_below hb7))
        clear hs7 hs6a hs6 hb6 hba hb7 HS5 HT5 HR5 HW5 HC0 c0 c1 c2 c3 c4 c5 c6 c7 z hlt
        obtain ⟨c0, c1, c2, c3, c4, c5, c6, c7, z, hlt⟩ := HS7.out.cells
        go_wp2_with fail
        refine (store_fail sb db ⟨ck, nx, L⟩ _ n1 f1 x false _ HS7.out.st).mono ?_
        rintro r w9 ⟨rfl, hs9, hg9⟩
        have HS9 := Lib.hid (HS7.out.noted hs9 hg9)
        have HW9 := Lib.hid (HW7.out.trans (Two.of_one hg9))
        clear hs9 hg9
        go_wp2_with fail
        go_ret
        exact HEND.out _ _ (.inl ⟨HOO.out, rfl, HS9.out⟩) HW9.out
/-- store.Store's Add -/
theorem store_add (B sb db : Nat) (D : Dk) (s : St) (v : Value) (n f x : Int) (e : Ev) (W : World) (h : SD B sb db D s v n f x false W) (hs : e.fam.short 5000) (hf : D.fits) (hfit : Fit s) (h0 : 0 ≤ n) (h1 : n < 1000000) (h2 : 0 ≤ f) (h3 : f ≤ x) (h4 : x < 1000000) :
    Calls Tryz.prog 190 #[.pointer (some ⟨sb, 0, none⟩), evVal e] W (AddGot W B sb db D s v n f x e) := by
  rcases he : evB e with _ | _
  · exact add_no B sb db D s v n f x e W h hs he
  · exact add_yes B sb db D s v n f x e W h hs he hf hfit h0 h1 h2 h3 h4
end Go.Proofs.YtepjcdjpikbbjaaGreatDoor

/-
  A store over its disk, as it is between two calls; what Open, Add, Save, Cut and State come to.
-/
namespace Go.Proofs.YtepjcdjpikbbjaaGreatDoor
open Go.RowKit Go.Sort

/-- a disk that holds what makes the state s -/
structure DI (B db : Nat) (D : Dk) (n f x : Int) (s : St) (w : World) : Prop where
  env : Env B w
  disk : DiskAt w db D
  bd : B ≤ db
  big : B ≤ w.heap.size
  fits : D.fits
  fit : Fit s
  inv : ∃ s0 es, SInv tagL (blkOf D) n f x s0 es ∧ es.foldl applyS s0 = s
/-- a store, and its disk -/
structure SO (B sb db : Nat) (D : Dk) (n f x : Int) (s : St) (v : Value) (w : World) : Prop where
  sd : SD B sb db D s v n f x false w
  di : DI B db D n f x s w
section
variable {B sb db : Nat} {D : Dk} {n f x : Int} {s : St} {v : Value} {w w' : World}
theorem DI.nums (h : DI B db D n f x s w) : 0 ≤ n ∧ n ≤ 1000000 ∧ 0 ≤ f ∧ f ≤ x ∧ x ≤ 1000000 := by
  obtain ⟨s0, es, hi, _⟩ := h.inv
  have h1 := hi.n0
  have h2 := hi.n1
  have h3 := hi.f0
  have h4 := hi.x1
  have h5 := hi.xe
  omega
theorem DI.keep (h : DI B db D n f x s w) (hb : Below w.heap.size w w') : DI B db D n f x s w' := ⟨h.env.new h.big hb, h.disk.below hb, h.bd, Nat.le_trans h.big hb.size, h.fits, h.fit, h.inv⟩
theorem DI.drew (h : DI B db D n f x s w) : DI B db D n f x s w.drew := ⟨⟨h.env.tens, h.env.maxl, h.env.errs, h.env.gt, h.env.gm, h.env.g1, h.env.g2⟩, ⟨h.disk.at_, h.disk.len⟩, h.bd, h.big, h.fits, h.fit, h.inv⟩
theorem SO.keep (h : SO B sb db D n f x s v w) (hb : Below w.heap.size w w') : SO B sb db D n f x s v w' := ⟨h.sd.keep hb, h.di.keep hb⟩
theorem SO.drew (h : SO B sb db D n f x s v w) : SO B sb db D n f x s v w.drew := ⟨h.sd.drew, h.di.drew⟩
theorem SD.di {down : Bool} (h : SD B sb db D s v n f x down w) (h1 : D.fits) (h2 : Fit s) (h3 : ∃ s0 es, SInv tagL (blkOf D) n f x s0 es ∧ es.foldl applyS s0 = s) : DI B db D n f x s w := ⟨h.env, h.disk, h.bd, h.big, h1, h2, h3⟩
end
/-- what Open comes to -/
theorem di_open {B db : Nat} {D : Dk} {n f x : Int} {s : St} {W : World} (h : DI B db D n f x s W) :
    Calls Tryz.prog 19 #[.pointer (some ⟨db, 0, none⟩)] W fun e w' => ∃ sb v, e = .returned (.tuple #[.pointer (some ⟨sb, 0, none⟩), .nilIface]) ∧ SO B sb db D n f x s v w' ∧ W.heap.size ≤ sb ∧ Below W.heap.size W w' := by
  obtain ⟨s0, es, hi, rfl⟩ := h.inv
  refine (store_open B db D W h.env h.disk h.bd h.big h.fits n f x s0 es hi).mono ?_
  rintro e w' ⟨sb, v, rfl, hsd, hsb, hb⟩
  exact ⟨sb, v, rfl, ⟨hsd, hsd.di h.fits h.fit ⟨s0, es, hi, rfl⟩⟩, hsb, hb⟩
theorem DI.cut {B db : Nat} {D : Dk} {n f x : Int} {s : St} {w w' : World} (h : DI B db D n f x s w) {k : Int} (hd : DiskAt w' db (D.cutAt k)) (hg : w.grownBy w' (some db)) : DI B db (D.cutAt k) n f x s w' := by
  have hb : Below B w w' := (Below.refl B w).grown hg h.big (fun j hj => by cases hj; exact h.bd)
  exact ⟨h.env.keep hb, hd, h.bd, Nat.le_trans h.big hb.size, h.fits, h.fit, h.inv⟩
theorem SO.cut {B sb db : Nat} {D : Dk} {n f x : Int} {s : St} {v : Value} {w w' : World} (h : SO B sb db D n f x s v w) {k : Int} (hd : DiskAt w' db (D.cutAt k)) (hg : w.grownBy w' (some db)) : SO B sb db (D.cutAt k) n f x s v w' := ⟨h.sd.wrote hd hg, h.di.cut hd hg⟩
/-- behind one more write -/
theorem DI.put {B db : Nat} {D : Dk} {n f x : Int} {s : St} {w : World} (h : DI B db D n f x s w) {e : Ev} (he : evB e = true) (hl : (applyS s e).fams.length ≤ 20) (hx : x - f ≠ 16) (hx1 : x < 1000000) :
    (D.put (x % 16).toNat (txt (evRec tagL x e))).fits ∧ Fit (applyS s e) ∧ ∃ s0 es, SInv tagL (blkOf (D.put (x % 16).toNat (txt (evRec tagL x e)))) n f (x + 1) s0 es ∧ es.foldl applyS s0 = applyS s e := by
  obtain ⟨s0, es, hi, rfl⟩ := h.inv
  have hxe := hi.xe
  have hle := hi.len
  have hf0 := hi.f0
  refine ⟨fits_put h.fits ?_ _, h.fit.apply he hl, s0, es ++ [e], ?_, ?_⟩
  · have h1 := evL_len he
    have h2 := itoaM_len (x := x) (okM_iff.2 (by omega))
    rw [txt_size_]
    unfold evRec
    rw [sealL_len, List.length_append, List.length_cons]
    omega
  · rw [blkOf_put h.disk.len (by omega), data_txt]
    exact hi.add he (by omega) hx1
  · rw [List.foldl_append]
    rfl
theorem DI.saved {B db : Nat} {D D1 : Dk} {n f x : Int} {s : St} {w : World} (h : DI B db D n f x s w) (hn : n < 1000000) {ok : Bool} (ho : SaveOut D (slotAt ((n + 1) % 2).toNat) s.fams (txt (headL tagL (n + 1) x s)) D1 ok) :
    D1.fits ∧ (ok = true → ∃ s0 es, SInv tagL (blkOf D1) (n + 1) x x s0 es ∧ es.foldl applyS s0 = s) ∧ (ok = false → ∃ s0 es, SInv tagL (blkOf D1) n f x s0 es ∧ es.foldl applyS s0 = s) ∧ D1.blk.length = 90 := by
  obtain ⟨hn0, _, hf0, hfx, hx1⟩ := h.nums
  obtain ⟨s0, es, hi, rfl⟩ := h.inv
  obtain ⟨k1, k2, k3⟩ := hi.saveOut h.fit hn h.disk.len ho
  refine ⟨?_, fun e => ⟨es.foldl applyS s0, [], k1 e, rfl⟩, fun e => ⟨s0, es, k2 e, rfl⟩, k3⟩
  rcases ho with ⟨_, _, rfl⟩ | ⟨_, m, hm, _, _, rfl⟩
  · refine fits_put (famD_fits h.fits h.fit.fams _ (Nat.le_refl _)) ?_ _
    rw [txt_size_]
    exact (head_len h.fit (okM_iff.2 (by omega)) (okM_iff.2 (by omega))).2
  · exact famD_fits h.fits h.fit.fams m hm
/-- an empty disk -/
def Dk.none_ : Dk := ⟨List.replicate 90 ByteArray.empty, false, 0, 0⟩
theorem new_disk : Tryz.zeroCells65 = Dk.none_.cells := by kernel_rfl
theorem DI.new {B : Nat} {W : World} (hE : Env B W) (hB : B ≤ W.heap.size) : DI B W.heap.size Dk.none_ 0 0 0 startS (W.alloc (.cells Tryz.zeroCells65 65)) := by
  have hb : Below W.heap.size W (W.alloc (.cells Tryz.zeroCells65 65)) := (Below.refl _ _).alloc (Nat.le_refl _) _
  have hz : ∀ k, Dk.none_.blk.getD k ByteArray.empty = ByteArray.empty := fun k => by
    unfold Dk.none_
    rw [List.getD_eq_getElem?_getD, List.getElem?_replicate]
    split <;> rfl
  refine ⟨hE.new hB hb, ⟨?_, by simp [Dk.none_]⟩, hB, Nat.le_trans hB hb.size, fun k => by rw [hz]; exact Nat.zero_le _, Fit.start, startS, [], ?_, rfl⟩
  · rw [new_disk]
    exact Blk.new W _ _
  · have : blkOf Dk.none_ = fun _ => [] := by
      funext k
      unfold blkOf
      rw [hz]
      rfl
    rw [this]
    exact empty_inv tagL
end Go.Proofs.YtepjcdjpikbbjaaGreatDoor

/-
  A store over its disk, counted as the document counts: what Add, Save, Cut and Open come to.
-/
namespace Go.Proofs.YtepjcdjpikbbjaaGreatDoor
open Go.RowKit Go.Sort

/-- a store, its disk, and what the document tells of it -/
def SX (B sb db : Nat) (k : Nat) (z : SS) (v : Value) (w : World) : Prop :=
  ∃ (D : Dk) (n f x : Int), SD B sb db D z.s v n f x z.down w ∧ DI B db D n f x z.s w ∧ DR z D ∧ z.log = x - f ∧ n ≤ k ∧ x ≤ k
section
variable {B sb db k : Nat} {z : SS} {v : Value} {w w' : World}
theorem SX.keep (h : SX B sb db k z v w) (hb : Below w.heap.size w w') : SX B sb db k z v w' := by
  obtain ⟨D, n, f, x, h1, h2, h3⟩ := h
  exact ⟨D, n, f, x, h1.keep hb, h2.keep hb, h3⟩
theorem SX.drew (h : SX B sb db k z v w) : SX B sb db k z v w.drew := by
  obtain ⟨D, n, f, x, h1, h2, h3⟩ := h
  exact ⟨D, n, f, x, h1.drew, h2.drew, h3⟩
theorem SX.later (h : SX B sb db k z v w) : SX B sb db (k + 1) z v w := by
  obtain ⟨D, n, f, x, h1, h2, h3, h4, h5, h6⟩ := h
  exact ⟨D, n, f, x, h1, h2, h3, h4, by omega, by omega⟩
theorem SX.fit (h : SX B sb db k z v w) : Fit z.s := by
  obtain ⟨D, n, f, x, h1, h2, h3⟩ := h
  exact h2.fit
theorem SX.row (h : SX B sb db k z v w) : FRow w B v z.s.fams := by
  obtain ⟨D, n, f, x, h1, h2, h3⟩ := h
  exact h1.row
theorem SX.env (h : SX B sb db k z v w) : Env B w := by
  obtain ⟨D, n, f, x, h1, h2, h3⟩ := h
  exact h1.env
theorem SX.places (h : SX B sb db k z v w) : B ≤ sb ∧ B ≤ db ∧ B ≤ w.heap.size := by
  obtain ⟨D, n, f, x, h1, h2, h3⟩ := h
  exact ⟨h1.bs, h1.bd, h1.big⟩
theorem SX.blocks (h : SX B sb db k z v w) : (∃ cs, Blk w sb 112 cs) ∧ ∃ cs, Blk w db 65 cs := by
  obtain ⟨D, n, f, x, h1, h2, h3⟩ := h
  exact ⟨⟨_, h1.st⟩, ⟨_, h1.disk.at_⟩⟩
theorem SX.log_ (h : SX B sb db k z v w) : 0 ≤ z.log ∧ z.log ≤ k := by
  obtain ⟨D, n, f, x, h1, h2, h3, h4, h5, h6⟩ := h
  have := h2.nums
  omega
/-- the power is on: how much is left is no matter -/
theorem SX.free (h : SX B sb db k z v w) (ho : z.off = false) (l : Int) : SX B sb db k ⟨z.s, z.log, z.writes, z.off, l, z.down⟩ v w := by
  obtain ⟨D, n, f, x, h1, h2, h3, h4⟩ := h
  exact ⟨D, n, f, x, h1, h2, ⟨h3.writes, h3.off, fun hc => by rw [← h3.off, ho] at hc; cases hc⟩, h4⟩
end
/-- behind one more write -/
theorem put_any {D : Dk} {n f x : Int} {s : St} (hlen : D.blk.length = 90) (hfits : D.fits) (hfit : Fit s) (hinv : ∃ s0 es, SInv tagL (blkOf D) n f x s0 es ∧ es.foldl applyS s0 = s) {e : Ev} (he : evB e = true) (hl : (applyS s e).fams.length ≤ 20) (hx : x - f ≠ 16) (hx1 : x < 1000000) :
    (D.put (x % 16).toNat (txt (evRec tagL x e))).fits ∧ Fit (applyS s e) ∧ ∃ s0 es, SInv tagL (blkOf (D.put (x % 16).toNat (txt (evRec tagL x e)))) n f (x + 1) s0 es ∧ es.foldl applyS s0 = applyS s e := by
  obtain ⟨s0, es, hi, rfl⟩ := hinv
  have hxe := hi.xe
  have hle := hi.len
  have hf0 := hi.f0
  refine ⟨fits_put hfits ?_ _, hfit.apply he hl, s0, es ++ [e], ?_, ?_⟩
  · have h1 := evL_len he
    have h2 := itoaM_len (x := x) (okM_iff.2 (by omega))
    rw [txt_size_]
    unfold evRec
    rw [sealL_len, List.length_append, List.length_cons]
    omega
  · rw [blkOf_put hlen (by omega), data_txt]
    exact hi.add he (by omega) hx1
  · rw [List.foldl_append]
    rfl
theorem errV_0 : errV 0 = .nilIface := if_pos rfl
theorem errV_n {n : Int} (h : n ≠ 0) : errV n = .iface 57 (.int .i64 n) := if_neg h

set_option maxRecDepth 100000 in
theorem add_downed (B sb db : Nat) (D : Dk) (s : St) (v : Value) (n f x : Int) (e : Ev) (W : World) (h : SD B sb db D s v n f x true W) :
    Calls Tryz.prog 190 #[.pointer (some ⟨sb, 0, none⟩), evVal e] W fun r w' => r = .returned (.iface 57 (.int .i64 6)) ∧ Below W.heap.size W w' := by
  obtain ⟨ck, nx, L⟩ := s
  obtain ⟨kd, ⟨i, cl, su, sc, ge, ma, us, re, de⟩, id, ti⟩ := e
  have hb : Below W.heap.size W (W.alloc (.cells (evCs ⟨kd, ⟨i, cl, su, sc, ge, ma, us, re, de⟩, id, ti⟩) 116)) := (Below.refl _ _).alloc (Nat.le_refl _) _
  obtain ⟨c0, c1, c2, c3, c4, c5, c6, c7, hz, hlt⟩ := (h.keep hb).cells
  have HB := Lib.hid hb
  clear h hb
  unfold evCs at *
  unfold evVal evCs
  dsimp only at *
  go_enter Tryz.func190, Tryz.ntmps190
  go_wp2_with fail
  go_ret
  exact ⟨rfl, HB.out⟩
set_option maxRecDepth 100000 in
theorem save_downed (B sb db : Nat) (D : Dk) (s : St) (v : Value) (n f x : Int) (W : World) (h : SD B sb db D s v n f x true W) :
    Calls Tryz.prog 132 #[.pointer (some ⟨sb, 0, none⟩)] W fun r w' => r = .returned (.iface 57 (.int .i64 6)) ∧ W = w' := by
  obtain ⟨ck, nx, L⟩ := s
  obtain ⟨c0, c1, c2, c3, c4, c5, c6, c7, hz, hlt⟩ := h.cells
  clear h
  go_enter Tryz.func132, Tryz.ntmps132
  go_wp2_with fail
  go_ret
  exact ⟨rfl, rfl⟩

/-- what a call at a store comes to -/
def DoneX (W : World) (B sb db k : Nat) (r : SS × Int) (e : Ending) (w' : World) : Prop :=
  e = .returned (errV r.2) ∧ Two sb db W w' ∧ ∃ v', SX B sb db (k + 1) r.1 v' w'
theorem sx_save {B sb db k : Nat} {z : SS} {v : Value} {W : World} (h : SX B sb db k z v W) (hk : k < 1000000) :
    Calls Tryz.prog 132 #[.pointer (some ⟨sb, 0, none⟩)] W (DoneX W B sb db k (saveS z)) := by
  obtain ⟨D, n, f, x, h1, h2, h3, h4, h5, h6⟩ := h
  obtain ⟨hn0, _, hf0, hfx, hx1⟩ := h2.nums
  rcases hd : z.down with _ | _
  · rw [hd] at h1
    refine (store_save B sb db D z.s v n f x W h1 h2.fits h2.fit hn0 (by omega) (by omega) hx1).mono ?_
    rintro e w' ⟨ok, D1, hso, htw, ⟨rfl, rfl, hsd⟩ | ⟨rfl, rfl, hsd⟩⟩
    · obtain ⟨a, b, _, _⟩ := h2.saved (by omega) hso
      obtain ⟨hr, hdr⟩ := (h3.save hso).1 rfl
      obtain ⟨ks, kl, ko, kd⟩ := manyS_keeps (z.s.fams.length + 1) z
      rw [saveS_yes hd hr]
      refine ⟨rfl, htw, v, D1, n + 1, x, x, ?_, ?_, hdr.same rfl rfl rfl, by show (0 : Int) = x - x; omega, by omega, by omega⟩
      · show SD B sb db D1 (manyS _ z).s v (n + 1) x x (manyS _ z).down w'
        rw [ks, kd, hd]
        exact hsd
      · show DI B db D1 (n + 1) x x (manyS _ z).s w'
        rw [ks]
        exact hsd.di a h2.fit (b rfl)
    · obtain ⟨a, _, c, _⟩ := h2.saved (by omega) hso
      obtain ⟨m, hr, hdr⟩ := (h3.save hso).2 rfl
      obtain ⟨ks, kl, ko, kd⟩ := manyS_keeps m z
      rw [saveS_no hd hr]
      refine ⟨rfl, htw, v, D1, n, f, x, ?_, ?_, hdr, ?_, by omega, by omega⟩
      · show SD B sb db D1 (manyS _ z).s v n f x true w'
        rw [ks]
        exact hsd
      · show DI B db D1 n f x (manyS _ z).s w'
        rw [ks]
        exact hsd.di a h2.fit (c rfl)
      · show (manyS m z).log = x - f
        rw [kl, h4]
  · have h1' := h1
    rw [hd] at h1'
    refine (save_downed B sb db D z.s v n f x W h1').mono ?_
    rintro e w' ⟨rfl, rfl⟩
    rw [saveS_down hd]
    exact ⟨rfl, Two.refl _ _ _, v, D, n, f, x, h1, h2, h3, h4, by omega, by omega⟩
theorem sx_add {B sb db k : Nat} {z : SS} {v : Value} {W : World} (h : SX B sb db k z v W) (hk : k < 1000000) (ev : Ev) (hs : ev.fam.short 5000) :
    Calls Tryz.prog 190 #[.pointer (some ⟨sb, 0, none⟩), evVal ev] W (DoneX W B sb db k (addS z ev)) := by
  obtain ⟨D, n, f, x, h1, h2, h3, h4, h5, h6⟩ := h
  obtain ⟨hn0, _, hf0, hfx, hx1⟩ := h2.nums
  rcases hd : z.down with _ | _
  · have h1' := h1
    rw [hd] at h1'
    refine (store_add B sb db D z.s v n f x ev W h1' hs h2.fits h2.fit hn0 (by omega) hf0 hfx (by omega)).mono ?_
    rintro e w' ⟨htw, ⟨he, rfl, hsd⟩ | ⟨he, hl, rfl, hsd⟩ | ⟨he, hl, hxf, hr⟩ | ⟨he, hl, hxf, D1, hso, hr⟩ | ⟨he, hl, hxf, D1, hso, rfl, hsd⟩⟩
    · rw [addS_bad hd he]
      refine ⟨rfl, htw, v, D, n, f, x, ?_, hsd.di h2.fits h2.fit h2.inv, h3, h4, by omega, by omega⟩
      rw [hd]; exact hsd
    · rw [addS_full hd he hl]
      refine ⟨rfl, htw, v, D, n, f, x, ?_, hsd.di h2.fits h2.fit h2.inv, h3, h4, by omega, by omega⟩
      rw [hd]; exact hsd
    · rw [addS_one hd he hl (by rw [h4]; exact hxf)]
      rcases hr with ⟨ho, rfl, hsd⟩ | ⟨ho, rfl, v', hsd⟩
      · rw [lastS_off (by rw [h3.isOff]; exact ho)]
        exact ⟨rfl, htw, v, D, n, f, x, hsd, hsd.di h2.fits h2.fit h2.inv, h3.down, h4, by omega, by omega⟩
      · rw [lastS_on (by rw [h3.isOff]; exact ho)]
        obtain ⟨a, b, c⟩ := h2.put he hl hxf (by omega)
        refine ⟨rfl, htw, v', _, n, f, x + 1, ?_, hsd.di a b c, (h3.put _ _).same rfl rfl rfl, ?_, by omega, by omega⟩
        · show SD B sb db _ (applyS z.s ev) v' n f (x + 1) z.down w'
          rw [hd]; exact hsd
        · show z.log + 1 = x + 1 - f
          omega
    · obtain ⟨a, b, _, hlen⟩ := h2.saved (by omega) hso
      obtain ⟨hrun, hdr⟩ := (h3.save hso).1 rfl
      obtain ⟨ks, kl, ko, kd⟩ := manyS_keeps (z.s.fams.length + 1) z
      have hdr' : DR (logS (manyS (z.s.fams.length + 1) z) 0) D1 := hdr.same rfl rfl rfl
      rw [addS_save hd he hl (by rw [h4]; exact hxf), saveS_yes hd hrun, if_pos rfl]
      rcases hr with ⟨ho, rfl, hsd⟩ | ⟨ho, rfl, v', hsd⟩
      · rw [lastS_off (by rw [hdr'.isOff]; exact ho)]
        refine ⟨rfl, htw, v, D1, n + 1, x, x, ?_, ?_, hdr'.down, by show (0 : Int) = x - x; omega, by omega, by omega⟩
        · show SD B sb db D1 (manyS _ z).s v (n + 1) x x true w'
          rw [ks]; exact hsd
        · show DI B db D1 (n + 1) x x (manyS _ z).s w'
          rw [ks]; exact hsd.di a h2.fit (b rfl)
      · rw [lastS_on (by rw [hdr'.isOff]; exact ho)]
        obtain ⟨a', b', c'⟩ := put_any hlen a h2.fit (b rfl) he hl (by omega) (by omega)
        refine ⟨rfl, htw, v', _, n + 1, x, x + 1, ?_, hsd.di a' b' c', (hdr'.put _ _).same rfl rfl rfl, by show (0 : Int) + 1 = x + 1 - x; omega, by omega, by omega⟩
        show SD B sb db _ (applyS z.s ev) v' (n + 1) x (x + 1) (manyS _ z).down w'
        rw [kd, hd]; exact hsd
    · obtain ⟨a, _, c, _⟩ := h2.saved (by omega) hso
      obtain ⟨m, hrun, hdr⟩ := (h3.save hso).2 rfl
      obtain ⟨ks, kl, ko, kd⟩ := manyS_keeps m z
      rw [addS_save hd he hl (by rw [h4]; exact hxf), saveS_no hd hrun, if_neg (show ¬ (14 : Int) = 0 by decide)]
      refine ⟨rfl, htw, v, D1, n, f, x, ?_, ?_, hdr, ?_, by omega, by omega⟩
      · show SD B sb db D1 (manyS _ z).s v n f x true w'
        rw [ks]; exact hsd
      · show DI B db D1 n f x (manyS _ z).s w'
        rw [ks]; exact hsd.di a h2.fit (c rfl)
      · show (manyS m z).log = x - f
        rw [kl, h4]
  · have h1' := h1
    rw [hd] at h1'
    refine (add_downed B sb db D z.s v n f x ev W h1').mono ?_
    rintro e w' ⟨rfl, hb⟩
    rw [addS_down hd]
    exact ⟨rfl, Two.of_below hb, v, D, n, f, x, h1.keep hb, h2.keep hb, h3, h4, by omega, by omega⟩
theorem sx_cut {B sb db k : Nat} {z : SS} {v : Value} {W : World} (h : SX B sb db k z v W) (c : Int) :
    Calls Tryz.prog 119 #[.pointer (some ⟨db, 0, none⟩), .int .i64 c] W fun e w' => e = .returned (.tuple #[]) ∧ SX B sb db k (cutS z c) v w' ∧ W.grownBy w' (some db) := by
  obtain ⟨D, n, f, x, h1, h2, h3, h4, h5, h6⟩ := h
  refine (disk_cut db D c W h1.disk).mono ?_
  rintro e w' ⟨rfl, hd, hg⟩
  exact ⟨rfl, ⟨_, n, f, x, h1.wrote hd hg, h2.cut hd hg, h3.cutAt c, h4, h5, h6⟩, hg⟩
def upS (z : SS) : SS := ⟨z.s, z.log, z.writes, z.off, z.left, false⟩
/-- a store that is opened anew -/
def OpenX (W : World) (B sb db k : Nat) (z : SS) (v : Value) (e : Ending) (w' : World) : Prop :=
  ∃ sb' v', e = .returned (.tuple #[.pointer (some ⟨sb', 0, none⟩), .nilIface]) ∧ SX B sb' db k (upS z) v' w' ∧ SX B sb db k z v w' ∧ W.heap.size ≤ sb' ∧ Below W.heap.size W w'
theorem sx_open {B sb db k : Nat} {z : SS} {v : Value} {W : World} (h : SX B sb db k z v W) :
    Calls Tryz.prog 19 #[.pointer (some ⟨db, 0, none⟩)] W (OpenX W B sb db k z v) := by
  have h0 := h
  obtain ⟨D, n, f, x, h1, h2, h3, h4, h5, h6⟩ := h
  refine (di_open h2).mono ?_
  rintro e w' ⟨sb', v', rfl, hso, hsb, hb⟩
  exact ⟨sb', v', rfl, ⟨D, n, f, x, hso.sd, hso.di, h3.same rfl rfl rfl, h4, h5, h6⟩, h0.keep hb, hsb, hb⟩
/-- of a new disk -/
theorem sx_first {B db : Nat} {W : World} (h : DI B db Dk.none_ 0 0 0 startS W) :
    Calls Tryz.prog 19 #[.pointer (some ⟨db, 0, none⟩)] W fun e w' => ∃ sb v, e = .returned (.tuple #[.pointer (some ⟨sb, 0, none⟩), .nilIface]) ∧ SX B sb db 0 newS v w' ∧ W.heap.size ≤ sb ∧ Below W.heap.size W w' := by
  refine (di_open h).mono ?_
  rintro e w' ⟨sb, v, rfl, hso, hsb, hb⟩
  exact ⟨sb, v, rfl, ⟨Dk.none_, 0, 0, 0, hso.sd, hso.di, ⟨rfl, rfl, fun h => by cases h⟩, rfl, Int.le_refl _, Int.le_refl _⟩, hsb, hb⟩
theorem sx_state {B sb db k : Nat} {z : SS} {v : Value} {W : World} (h : SX B sb db k z v W) :
    Calls Tryz.prog 177 #[.pointer (some ⟨sb, 0, none⟩)] W (ApplyGot W z.s) := by
  obtain ⟨D, n, f, x, h1, h2, h3⟩ := h
  exact store_state B sb db z.s v n f x z.down W h1.st h1.row (by have := h2.fit.len; omega)
theorem sx_log {B sb db k : Nat} {z : SS} {v : Value} {W : World} (h : SX B sb db k z v W) :
    Calls Tryz.prog 128 #[.pointer (some ⟨sb, 0, none⟩)] W fun e w' => e = .returned (.int .i64 z.log) ∧ Below W.heap.size W w' := by
  obtain ⟨D, n, f, x, h1, h2, h3, h4, _⟩ := h
  obtain ⟨hn0, _, hf0, hfx, hx1⟩ := h2.nums
  rw [h4]
  exact store_log sb db z.s v n f x z.down W h1.st hf0 hfx hx1
theorem sx_down {B sb db k : Nat} {z : SS} {v : Value} {W : World} (h : SX B sb db k z v W) :
    Calls Tryz.prog 129 #[.pointer (some ⟨sb, 0, none⟩)] W fun e w' => e = .returned (.bool z.down) ∧ Below W.heap.size W w' := by
  obtain ⟨D, n, f, x, h1, h2, h3⟩ := h
  exact store_down sb db z.s v n f x z.down W h1.st
theorem sx_writes {B sb db k : Nat} {z : SS} {v : Value} {W : World} (h : SX B sb db k z v W) :
    Calls Tryz.prog 137 #[.pointer (some ⟨db, 0, none⟩)] W fun e w' => e = .returned (.int .i64 z.writes) ∧ W = w' := by
  obtain ⟨D, n, f, x, h1, h2, h3, h4, _⟩ := h
  rw [h3.writes]
  exact disk_writes db D W h1.disk
end Go.Proofs.YtepjcdjpikbbjaaGreatDoor

/-
  token.Write where the token is right.
-/
namespace Go.Proofs.YtepjcdjpikbbjaaGreatDoor
open Go.RowKit

theorem mac_tagS (key : Int) (s : ByteArray) (W : World) (hs : s.size ≤ 9223372036854775807) :
    Calls Tryz.prog 107 #[.int .i64 key, .string s] W fun e w' => e = .returned (.string (tagS key s)) ∧ Below W.heap.size W w' := mac_tag key s W hs

theorem four_cells {W w : World} {x0 x1 x2 x3 : Value} {t : TypeId} (h : Below (W.alloc (.cells #[x0, x1, x2, x3] t)).heap.size (W.alloc (.cells #[x0, x1, x2, x3] t)) w) :
    w.cell? ⟨W.heap.size, 0, none⟩ = some x0 ∧ w.cell? ⟨W.heap.size, 1, none⟩ = some x1 ∧ w.cell? ⟨W.heap.size, 2, none⟩ = some x2 ∧ w.cell? ⟨W.heap.size, 3, none⟩ = some x3 := by
  refine ⟨?_, ?_, ?_, ?_⟩
  · rw [h.cell (p := ⟨W.heap.size, 0, none⟩) (by simp)]; simp
  · rw [h.cell (p := ⟨W.heap.size, 1, none⟩) (by simp)]; simp
  · rw [h.cell (p := ⟨W.heap.size, 2, none⟩) (by simp)]; simp
  · rw [h.cell (p := ⟨W.heap.size, 3, none⟩) (by simp)]; simp
set_option maxHeartbeats 1000000 in
theorem token_write_yes (key a b c d : Int) (W : World) (hT : Tens W) (h : rightN a b c d = true) :
    Calls Tryz.prog 136 #[.int .i64 key, v4 a b c d] W fun e w' => e = .returned (.tuple #[.string (tokS key a b c d), .nilIface]) ∧ Below W.heap.size W w' := by
  have HR := fun w => token_right a b c d w
  rw [h] at HR
  have HH := Lib.hid HR
  clear HR
  have hsz := bodyS_size a b c d h
  have hts := tagS_size key (bodyS a b c d)
  have e1 := add_run (bodyS a b c d) (⟨#[46]⟩ : ByteArray) 70 1 hsz (by decide) (by omega)
  have z1 := app_size (bodyS a b c d) (⟨#[46]⟩ : ByteArray) 70 1 hsz (by decide)
  have e2 := add_run _ (tagS key (bodyS a b c d)) _ 16 z1 (by omega) (by omega)
  have HRT := Lib.hid h
  have HT := Lib.hid hT
  have hTlt := hT.lt
  have HB := fun (w : World) (hw : Tens w) => token_body a b c d w hw h
  have HBB := Lib.hid HB
  have htk : tokS key a b c d = bodyS a b c d ++ ⟨#[46]⟩ ++ tagS key (bodyS a b c d) := rfl
  have HTK := Lib.hid htk
  clear hT h z1 HB htk
  generalize bodyS a b c d = bs at *
  unfold v4 at *
  go_enter Tryz.func136, Tryz.ntmps136
  go_wp2_with (first
    | (go_at_call 191; refine (HH.out _).mono ?_; rintro e w1 ⟨rfl, hb1⟩
       have hB1 := ((Below.refl W.heap.size W).alloc (Nat.le_refl _) (.cells #[.int .i64 a, .int .i64 b, .int .i64 c, .int .i64 d] 182)).trans (hb1.mono (by simp))
       obtain ⟨hc0, hc1, hc2, hc3⟩ := four_cells hb1
       have HB1 := Lib.hid hB1
       clear hb1 hB1)
    | (go_at_call 192; refine (HBB.out _ (HT.out.below HB1.out hTlt)).mono ?_; rintro e w2 ⟨rfl, hb2⟩
       have HB2 := Lib.hid (below_2 HB1.out hb2)
       clear hb2)
    | (go_at_call 107; refine (mac_tagS _ _ _ (by omega)).mono ?_; rintro e w3 ⟨rfl, hb3⟩
       have HB3 := Lib.hid (below_2 HB2.out hb3)
       clear hb3))
  go_ret2
  exact ⟨by rw [HTK.out]; rfl, HB3.out⟩
end Go.Proofs.YtepjcdjpikbbjaaGreatDoor
