/-
  store.Open: what a disk has.
-/
import Derived.Test.YtckohmhhcknmaaaGreatDoorP19
import Derived.Test.YtckohmhhcknmaaaGreatDoorP17
import Derived.Test.YtckohmhhcknmaaaGreatDoorP04
import Derived.Test.YtckohmhhcknmaaaGreatDoorP09
import Derived.Test.YtckohmhhcknmaaaGreatDoorP18
import Derived.BigQuiet
import Derived.Deep.QuietTactic
import Derived.Deep.RegionHeld3
namespace Go.Proofs.YtckohmhhcknmaaaGreatDoor
open Go.RowKit Go.Sort

/-- what Open gives -/
def NewGot (W : World) (B db : Nat) (D : Dk) (s : St) (n f x : Int) (e : Ending) (w' : World) : Prop :=
  ∃ (sb : Nat) (v : Value), e = .returned (.tuple #[.pointer (some ⟨sb, 0, none⟩), .nilIface]) ∧ SD B sb db D s v n f x false w' ∧ W.heap.size ≤ sb ∧ Below W.heap.size W w'
def pickK (blk : Nat → List UInt8) : Nat → Int × Int × St
  | 0 => (0, 0, startS)
  | k + 1 => betterR (pickK blk k) (loadR tagL blk k)
theorem pickK_two (blk : Nat → List UInt8) : pickK blk 2 = pickR tagL blk := rfl
/-- a store that is being opened -/
structure OpSt (W : World) (B db : Nat) (D : Dk) (s : St) (v : Value) (n f x : Int) (w : World) : Prop where
  sd : SD B W.heap.size db D s v n f x false w
  below : Below W.heap.size W w
section
variable {W w w' : World} {B db : Nat} {D : Dk} {s : St} {v : Value} {n f x : Int}
theorem OpSt.keep (h : OpSt W B db D s v n f x w) (hb : Below w.heap.size w w') : OpSt W B db D s v n f x w' := ⟨h.sd.keep hb, below_2 h.below hb⟩
theorem OpSt.drew (h : OpSt W B db D s v n f x w) : OpSt W B db D s v n f x w.drew := ⟨h.sd.drew, below_dr h.below⟩
theorem OpSt.start (hE : Env B W) (hd : DiskAt W db D) (hB : B ≤ db) (hBW : B ≤ W.heap.size) : OpSt W B db D ⟨0, 1, []⟩ (.slice none 0 0) 0 0 0 (W.alloc (.cells (storeCs db ⟨0, 1, []⟩ (.slice none 0 0) 0 0 0 false) 117)) := by
  have hb : Below W.heap.size W (W.alloc (.cells (storeCs db ⟨0, 1, []⟩ (.slice none 0 0) 0 0 0 false) 117)) := (Below.refl _ _).alloc (Nat.le_refl _) _
  exact ⟨⟨hE.new hBW hb, Blk.new W _ _, hd.below hb, FRow.nil _ _, hBW, hB⟩, hb⟩
/-- the store's cells anew -/
theorem OpSt.sets (h : OpSt W B db D s v n f x w) {s' : St} {v' : Value} {n' f' x' : Int} (hr : FRow w B v' s'.fams) (hs : StAt w' W.heap.size db s' v' n' f' x' false) (hg : w.grownBy w' (some W.heap.size)) : OpSt W B db D s' v' n' f' x' w' := by
  obtain ⟨h1, h2, h3⟩ := h.sd.apart
  have hb := h.below.grown hg h.below.size (fun _ hk => by cases hk; exact Nat.le_refl _)
  have hbB : Below B w w' := (Below.refl B w).grown hg h.sd.big (fun k hk => by cases hk; exact h.sd.bs)
  exact ⟨⟨h.sd.env.keep hbB, hs, h.sd.disk.grown hg (by simpa using Ne.symm h3), hr.kept hg (hr.apart h.sd.st (by decide)), h.sd.bs, h.sd.bd⟩, hb⟩
theorem OpSt.next (h : OpSt W B db D s v n f x w) (x' : Int) : OpSt W B db D s v n f x' (w.setCell ⟨W.heap.size, 6, none⟩ (.int .i64 x')) :=
  h.sets h.sd.row (Blk.put_ h.sd.st 6 (.int .i64 x') (cs' := storeCs db s v n f x' false) rfl) (only_set1 w W.heap.size ⟨W.heap.size, 6, none⟩ rfl (.int .i64 x'))
theorem OpSt.state (h : OpSt W B db D s v n f x w) (s' : St) {v' : Value} (hr : FRow w B v' s'.fams) :
    OpSt W B db D s' v' n f x (((w.setCell ⟨W.heap.size, 1, none⟩ (.int .i64 s'.clock)).setCell ⟨W.heap.size, 2, none⟩ (.int .i64 s'.next)).setCell ⟨W.heap.size, 3, none⟩ v') := by
  have e1 := Blk.put_ h.sd.st 1 (.int .i64 s'.clock) (cs' := storeCs db ⟨s'.clock, s.next, s.fams⟩ v n f x false) rfl
  have e2 := Blk.put_ e1 2 (.int .i64 s'.next) (cs' := storeCs db ⟨s'.clock, s'.next, s.fams⟩ v n f x false) rfl
  have e3 := Blk.put_ e2 3 v' (cs' := storeCs db s' v' n f x false) rfl
  have g1 := only_set1 w W.heap.size ⟨W.heap.size, 1, none⟩ rfl (.int .i64 s'.clock)
  have g2 := only_setCell g1 (p := ⟨W.heap.size, 2, none⟩) (.inl rfl) (.int .i64 s'.next)
  have g3 := only_setCell g2 (p := ⟨W.heap.size, 3, none⟩) (.inl rfl) v'
  exact h.sets hr e3 g3
theorem OpSt.numbers (h : OpSt W B db D s v n f x w) (n' f' : Int) : OpSt W B db D s v n' f' x ((w.setCell ⟨W.heap.size, 4, none⟩ (.int .i64 n')).setCell ⟨W.heap.size, 5, none⟩ (.int .i64 f')) := by
  have e1 := Blk.put_ h.sd.st 4 (.int .i64 n') (cs' := storeCs db s v n' f x false) rfl
  have e2 := Blk.put_ e1 5 (.int .i64 f') (cs' := storeCs db s v n' f' x false) rfl
  have g1 := only_set1 w W.heap.size ⟨W.heap.size, 4, none⟩ rfl (.int .i64 n')
  have g2 := only_setCell g1 (p := ⟨W.heap.size, 5, none⟩) (.inl rfl) (.int .i64 f')
  exact h.sets h.sd.row e2 g2
/-- a slot is taken -/
theorem OpSt.taken (h : OpSt W B db D s v n f x w) (s' : St) {v' : Value} (hr : FRow w B v' s'.fams) (n' f' : Int) :
    OpSt W B db D s' v' n' f' x (((((w.setCell ⟨W.heap.size, 4, none⟩ (.int .i64 n')).setCell ⟨W.heap.size, 5, none⟩ (.int .i64 f')).setCell ⟨W.heap.size, 1, none⟩ (.int .i64 s'.clock)).setCell ⟨W.heap.size, 2, none⟩ (.int .i64 s'.next)).setCell ⟨W.heap.size, 3, none⟩ v') := by
  have g1 := only_set1 w W.heap.size ⟨W.heap.size, 4, none⟩ rfl (.int .i64 n')
  have g2 := only_setCell g1 (p := ⟨W.heap.size, 5, none⟩) (.inl rfl) (.int .i64 f')
  exact (h.numbers n' f').state s' (hr.kept g2 (hr.apart h.sd.st (by decide)))
/-- an event that was read, besides -/
structure OE (W : World) (B db : Nat) (D : Dk) (s : St) (v : Value) (n f x : Int) (g : Nat) (e : Ev) (w : World) : Prop where
  op : OpSt W B db D s v n f x w
  ev : Blk w g 102 (evCs e)
theorem OE.keep {g : Nat} {e : Ev} (h : OE W B db D s v n f x g e w) (hb : Below w.heap.size w w') : OE W B db D s v n f x g e w' := ⟨h.op.keep hb, h.ev.below' hb⟩
theorem OE.drew {g : Nat} {e : Ev} (h : OE W B db D s v n f x g e w) : OE W B db D s v n f x g e w.drew := ⟨h.op.drew, h.ev⟩
theorem OE.three {g : Nat} {e : Ev} {ck nx : Int} {L : List Fam} (h : OE W B db D ⟨ck, nx, L⟩ v n f x g e w) : w.cell? ⟨W.heap.size, 1, none⟩ = some (.int .i64 ck) ∧ w.cell? ⟨W.heap.size, 2, none⟩ = some (.int .i64 nx) ∧ w.cell? ⟨W.heap.size, 3, none⟩ = some v := ⟨Blk.cell h.op.sd.st 1, Blk.cell h.op.sd.st 2, Blk.cell h.op.sd.st 3⟩
end
def OpK (W : World) (B db : Nat) (D : Dk) (i : Value) (w : World) : Prop := ∃ (k : Nat) (v : Value), k ≤ 2 ∧ i = .int .i64 k ∧ OpSt W B db D (pickK (blkOf D) k).2.2 v (pickK (blkOf D) k).1 (pickK (blkOf D) k).2.1 0 w
def OpJ (W : World) (B db : Nat) (D : Dk) (s0 : St) (es : List Ev) (n f : Int) (w : World) : Prop := ∃ (i : Nat) (v : Value), i ≤ es.length ∧ OpSt W B db D ((es.take i).foldl applyS s0) v n f (f + i) w
theorem take_ok {s0 : St} {es : List Ev} (hf : Fit s0) (he : ∀ e ∈ es, evB e = true) (hl : es.length ≤ 16) : ∀ i, i ≤ es.length → StOk ((es.take i).foldl applyS s0) ∧ ((es.take i).foldl applyS s0).fams.length ≤ 20 + i
  | 0, _ => by
    have := hf.len
    exact ⟨hf.ok, by simpa using this⟩
  | i + 1, hi => by
    obtain ⟨h1, h2⟩ := take_ok hf he hl i (by omega)
    have hlt : i < es.length := by omega
    have e1 : es.take (i + 1) = es.take i ++ [es[i]] := by rw [List.take_add_one, List.getElem?_eq_getElem hlt]; rfl
    rw [e1, List.foldl_append]
    show StOk (applyS _ es[i]) ∧ (applyS _ es[i]).fams.length ≤ _
    have h3 := applyS_len ((es.take i).foldl applyS s0) es[i]
    exact ⟨st_apply_ok h1 (by omega) (he _ (List.getElem_mem hlt)), by omega⟩
theorem take_next (s0 : St) {es : List Ev} {i : Nat} {e : Ev} (he : es[i]? = some e) : (es.take (i + 1)).foldl applyS s0 = applyS ((es.take i).foldl applyS s0) e := by
  rw [List.take_add_one, he, List.foldl_append]
  rfl
set_option maxHeartbeats 8000000 in
set_option maxRecDepth 100000 in
theorem store_open (B db : Nat) (D : Dk) (W : World) (hE : Env B W) (hd : DiskAt W db D) (hB : B ≤ db) (hBW : B ≤ W.heap.size) (hf : D.fits) (n f x : Int) (s0 : St) (es : List Ev) (hi : SInv tagL (blkOf D) n f x s0 es) :
    Calls Tryz.prog 17 #[.pointer (some ⟨db, 0, none⟩)] W (NewGot W B db D (es.foldl applyS s0) n f x) := by
  have H0 := Lib.hid (OpSt.start hE hd hB hBW)
  have HF := Lib.hid hf
  have HI := Lib.hid hi
  clear hE hd hf hi
  unfold storeCs at H0
  dsimp only at H0
  go_enter Tryz.func17, Tryz.ntmps17
  go_wp2_with fail
  go_loopw [19] (fun i wr => OpK W B db D i wr) (fun i _ => 2 - (intOf i).toNat)
  case atStart => exact ⟨0, _, Nat.zero_le _, rfl, H0.out⟩
  case round =>
    obtain ⟨k, v, hk, rfl, hop⟩ := hrel
    obtain ⟨va, vc, rfl⟩ := hop.sd.row.slice
    have HO := Lib.hid hop
    clear hop
    by_cases hk2 : k < 2
    · have HL := Lib.hid (store_load B W.heap.size db D _ _ _ _ _ false wr HO.out.sd HF.out k hk2)
      have HBT : Hid (pickK (blkOf D) (k + 1) = betterR (pickK (blkOf D) k) (loadR tagL (blkOf D) k)) := Lib.hid rfl
      generalize loadR tagL (blkOf D) k = o at *
      generalize hpk : pickK (blkOf D) k = pk at *
      generalize hpk1 : pickK (blkOf D) (k + 1) = pk1 at *
      have HPK1 := Lib.hid hpk1
      clear hpk hpk1
      obtain ⟨pn, pf, ⟨pc, px, pL⟩⟩ := pk
      dsimp only at *
      obtain ⟨c0, c1, c2, c3, c4, c5, c6, c7, z, hlt⟩ := HO.out.sd.cells
      go_wp2_with fail
      go_at_call 52
      refine HL.out.mono ?_
      rintro e w1 ⟨a, b, ⟨lc, lx, lL⟩, lv, ok, rfl, hlr, hb, ho⟩
      obtain ⟨la, lcap, rfl⟩ := hlr.slice
      have HO1 := Lib.hid (HO.out.keep hb)
      have HR1 := Lib.hid (hlr.mono (B' := B) HO.out.sd.big)
      have HA := Lib.hid ((Below.refl w1.heap.size w1).alloc (Nat.le_refl _) (.cells #[.int .i64 lc, .int .i64 lx, .slice la lL.length lcap] 39))
      have HT := Lib.hid (Blk.new w1 39 #[.int .i64 lc, .int .i64 lx, .slice la lL.length lcap])
      have HO2 := Lib.hid (HO1.out.keep HA.out)
      have HR2 := Lib.hid (HR1.out.below HA.out)
      unfold stVal stCs
      dsimp only at HR2 ⊢
      clear hb hlr HL c0 c1 c2 c3 c4 c5 c6 c7 z hlt
      obtain ⟨c0, c1, c2, c3, c4, c5, c6, c7, z, hlt⟩ := HO1.out.sd.cells
      cases ok
      · have HB := Lib.hid (show betterR (pn, pf, ⟨pc, px, pL⟩) o = (pn, pf, ⟨pc, px, pL⟩) from by
          rcases o with _ | t
          · rfl
          · obtain ⟨h1, _⟩ := ho
            cases h1)
        clear ho
        go_wp2_with fail
        go_roundw
        case rel =>
          refine ⟨k + 1, .slice va pL.length vc, by omega, by go_num, ?_⟩
          rw [HPK1.out, HBT.out, HB.out]
          exact HO2.out
        case measure => simp [intOf]; omega
      · have HB := Lib.hid (show betterR (pn, pf, ⟨pc, px, pL⟩) o = if a > pn then (a, b, ⟨lc, lx, lL⟩) else (pn, pf, ⟨pc, px, pL⟩) from by
          rcases o with _ | t
          · cases ho
          · obtain ⟨_, rfl⟩ := ho
            rfl)
        clear ho
        by_cases hgt : a > pn
        · go_wp2_with fail
          clear c0 c1 c2 c3 c4 c5 c6 c7 z hlt
          generalize w1.alloc (.cells #[.int .i64 lc, .int .i64 lx, .slice la lL.length lcap] 39) = w2 at *
          generalize w1.heap.size = g1 at *
          obtain ⟨c0, c1, c2, c3, c4, c5, c6, c7, z, hlt⟩ := HO2.out.sd.cells
          obtain ⟨d0, d1, d2⟩ := two_cells HT.out
          go_region
          go_wp2_with fail
          go_roundw
          case rel =>
            refine ⟨k + 1, .slice la lL.length lcap, by omega, by go_num, ?_⟩
            rw [HPK1.out, HBT.out, HB.out, if_pos hgt]
            exact (HO2.out.taken ⟨lc, lx, lL⟩ HR2.out a b).drew
          case measure => simp [intOf]; omega
        · go_wp2_with fail
          go_roundw
          case rel =>
            refine ⟨k + 1, .slice va pL.length vc, by omega, by go_num, ?_⟩
            rw [HPK1.out, HBT.out, HB.out, if_neg hgt]
            exact HO2.out
          case measure => simp [intOf]; omega
    · obtain rfl : k = 2 := by omega
      rw [pickK_two, (HI.out.opened tag_ok).1] at HO
      have HX := Lib.hid (HO.out.next f)
      obtain ⟨sck, snx, sL⟩ := s0
      dsimp only at *
      obtain ⟨c0, c1, c2, c3, c4, c5, c6, c7, z, hlt⟩ := HO.out.sd.cells
      go_wp2_with fail
      clear c0 c1 c2 c3 c4 c5 c6 c7 z hlt HO H0
      generalize wr.setCell ⟨W.heap.size, 6, none⟩ (.int .i64 f) = w5 at *
      go_loopw [11] (fun _ wr => OpJ W B db D ⟨sck, snx, sL⟩ es n f wr) (fun _ wr => (f + 17 - intOf ((wr.cell? ⟨W.heap.size, 6, none⟩).getD undef)).toNat)
      case atStart => exact ⟨0, _, Nat.zero_le _, by simpa using HX.out⟩
      case round =>
        obtain ⟨i, v, hi, hop⟩ := hrel
        obtain ⟨wa, wc, rfl⟩ := hop.sd.row.slice
        have HO := Lib.hid hop
        clear hop
        have hx1 := HI.out.x1
        have hxe := HI.out.xe
        have hf0 := HI.out.f0
        have hl16 := HI.out.len
        obtain ⟨hok, hsl⟩ := take_ok HI.out.fit HI.out.evs HI.out.len i hi
        have HOK := Lib.hid hok
        have HEV := Lib.hid (store_event B W.heap.size db D _ _ n f (f + i) (f + i) false wr HO.out.sd HF.out hf0 (by omega) (by omega) (by omega))
        clear hok
        by_cases hie : i < es.length
        · obtain ⟨e, he⟩ : ∃ e, es[i]? = some e := ⟨_, List.getElem?_eq_getElem hie⟩
          rw [HI.out.event tag_ok he] at HEV
          have hev := HI.out.evs e (List.mem_of_getElem? he)
          have HNX := Lib.hid (take_next ⟨sck, snx, sL⟩ he)
          have HA : Hid (∀ (w : World) (v : Value), FRow w B v ((es.take i).foldl applyS ⟨sck, snx, sL⟩).fams → Calls Tryz.prog 54 #[stVal ((es.take i).foldl applyS ⟨sck, snx, sL⟩) v, evVal e] w (GotAs w (applyS ((es.take i).foldl applyS ⟨sck, snx, sL⟩) e).clock (applyS ((es.take i).foldl applyS ⟨sck, snx, sL⟩) e).next (applyS ((es.take i).foldl applyS ⟨sck, snx, sL⟩) e).fams)) :=
            Lib.hid fun w v hr => (ev_apply _ v _ e w hr HOK.out (okN_one hev) (okN_two hev)).mono fun _ _ h => got_as h
          generalize applyS ((es.take i).foldl applyS ⟨sck, snx, sL⟩) e = s2 at *
          generalize (es.take i).foldl applyS ⟨sck, snx, sL⟩ = s1 at *
          obtain ⟨ck1, nx1, L1⟩ := s1
          obtain ⟨ck2, nx2, L2⟩ := s2
          unfold GotAs stVal stCs evVal evCs at HA
          clear he hev
          obtain ⟨kd, ⟨fi, cl, su, sc, ge, ma, us, re, de⟩, id, ti⟩ := e
          dsimp only at *
          obtain ⟨c0, c1, c2, c3, c4, c5, c6, c7, z, hlt⟩ := HO.out.sd.cells
          go_wp2_with fail
          go_at_call 53
          refine HEV.out.mono ?_
          rintro r w1 ⟨⟨e', b', rfl, rfl, rfl⟩, hb⟩
          have HO1 := Lib.hid (HO.out.keep hb)
          have HOE : Hid (OE W B db D ⟨ck1, nx1, L1⟩ (.slice wa L1.length wc) n f (f + i) w1.heap.size ⟨kd, ⟨fi, cl, su, sc, ge, ma, us, re, de⟩, id, ti⟩ (w1.alloc (.cells (evCs ⟨kd, ⟨fi, cl, su, sc, ge, ma, us, re, de⟩, id, ti⟩) 102))) := Lib.hid ⟨HO1.out.keep ((Below.refl _ _).alloc (Nat.le_refl _) _), Blk.new w1 _ _⟩
          unfold evVal
          unfold evCs at HOE ⊢
          dsimp only at HOE ⊢
          clear hb HEV c0 c1 c2 c3 c4 c5 c6 c7 z hlt
          go_wp2_with fail
          generalize w1.alloc (.cells #[.int .i64 kd, .int .i64 fi, .string cl, .string su, .string sc, .int .i64 ge, .int .i64 ma, .int .i64 us, .string re, .bool de, .int .i64 id, .int .i64 ti] 102) = w2 at *
          generalize w1.heap.size = g1 at *
          refine wp_region_tail (OE W B db D ⟨ck1, nx1, L1⟩ (.slice wa L1.length wc) n f (f + i) g1 ⟨kd, ⟨fi, cl, su, sc, ge, ma, us, re, de⟩, id, ti⟩) [9] (by kernel_rfl) ?_
          have HSD := HOE.out.drew
          refine wpAnyT_take 2 (i := 0) (v := ?v0) rfl (by kernel_rfl) (by kernel_rfl) (by kernel_rfl) (by kernel_rfl) (by kernel_rfl) (fun _ _ _ h => h) (by rfl) ?hy0 (by assumption) ?rest0
          case hy0 => (intro w hSw; obtain ⟨q1, q2, q3⟩ := hSw.three; obtain ⟨e0, e1, e2, e3, e4, e5, e6, e7, e8, e9, e10, e11⟩ := ev_cells hSw.ev; go_simp; (try with_reducible rfl))
          simp only [Act.put]
          refine wpAnyT_take 2 (i := 1) (v := ?v1) rfl (by kernel_rfl) (by kernel_rfl) (by kernel_rfl) (by kernel_rfl) (by kernel_rfl) (fun _ _ _ h => h) (by rfl) ?hy1 (by assumption) ?rest1
          case hy1 => (intro w hSw; obtain ⟨q1, q2, q3⟩ := hSw.three; obtain ⟨e0, e1, e2, e3, e4, e5, e6, e7, e8, e9, e10, e11⟩ := ev_cells hSw.ev; go_simp; (try with_reducible rfl))
          simp only [Act.put]
          refine wpAnyT_take 2 (i := 2) (v := ?v2) rfl (by kernel_rfl) (by kernel_rfl) (by kernel_rfl) (by kernel_rfl) (by kernel_rfl) (fun _ _ _ h => h) (by rfl) ?hy2 (by assumption) ?rest2
          case hy2 => (intro w hSw; obtain ⟨q1, q2, q3⟩ := hSw.three; obtain ⟨e0, e1, e2, e3, e4, e5, e6, e7, e8, e9, e10, e11⟩ := ev_cells hSw.ev; go_simp; (try with_reducible rfl))
          simp only [Act.put]
          refine wpAnyT_take 2 (i := 3) (v := ?v3) rfl (by kernel_rfl) (by kernel_rfl) (by kernel_rfl) (by kernel_rfl) (by kernel_rfl) (fun _ _ _ h => h) (by rfl) ?hy3 (by assumption) ?rest3
          case hy3 => (intro w hSw; obtain ⟨q1, q2, q3⟩ := hSw.three; obtain ⟨e0, e1, e2, e3, e4, e5, e6, e7, e8, e9, e10, e11⟩ := ev_cells hSw.ev; go_simp; (try with_reducible rfl))
          simp only [Act.put]
          refine wpAnyT_take 2 (i := 4) (v := ?v4) rfl (by kernel_rfl) (by kernel_rfl) (by kernel_rfl) (by kernel_rfl) (by kernel_rfl) (fun _ _ _ h => h) (by rfl) ?hy4 (by assumption) ?rest4
          case hy4 => (intro w hSw; obtain ⟨q1, q2, q3⟩ := hSw.three; obtain ⟨e0, e1, e2, e3, e4, e5, e6, e7, e8, e9, e10, e11⟩ := ev_cells hSw.ev; go_simp; (try with_reducible rfl))
          simp only [Act.put]
          refine wpAnyT_take 2 (i := 5) (v := ?v5) rfl (by kernel_rfl) (by kernel_rfl) (by kernel_rfl) (by kernel_rfl) (by kernel_rfl) (fun _ _ _ h => h) (by rfl) ?hy5 (by assumption) ?rest5
          case hy5 => (intro w hSw; obtain ⟨q1, q2, q3⟩ := hSw.three; obtain ⟨e0, e1, e2, e3, e4, e5, e6, e7, e8, e9, e10, e11⟩ := ev_cells hSw.ev; go_simp; (try with_reducible rfl))
          simp only [Act.put]
          refine wpAnyT_one (i := 6) (by kernel_rfl) rfl ?_
          intro K6 hK6
          go_simp
          go_at_call 54
          refine (HA.out _ _ HSD.op.sd.row).mono ?_
          rintro r w3 ⟨a1, ac, rfl, hr1, hb⟩
          have HSD3 := HSD.keep hb
          have hr3 := hr1.mono (B' := B) HSD.op.sd.big
          try dsimp only
          refine hK6.out _ _ (fun _ => HSD3) ?_
          try simp only [Act.put]
          refine wpAnyT_take 2 (i := 7) (v := ?v7) rfl (by kernel_rfl) (by kernel_rfl) (by kernel_rfl) (by kernel_rfl) (by kernel_rfl) (fun _ _ _ h => h) (by rfl) ?hy7 (by assumption) ?rest7
          case hy7 => (intro w hSw; go_simp; (try with_reducible rfl))
          simp only [Act.put]
          refine wpAnyT_take 2 (i := 8) (v := ?v8) rfl (by kernel_rfl) (by kernel_rfl) (by kernel_rfl) (by kernel_rfl) (by kernel_rfl) (fun _ _ _ h => h) (by rfl) ?hy8 (by assumption) ?rest8
          case hy8 => (intro w hSw; go_simp; (try with_reducible rfl))
          simp only [Act.put]
          obtain ⟨c0, c1, c2, c3, c4, c5, c6, c7, z, hlt⟩ := HSD3.op.sd.cells
          refine wpAnyT_one (i := 9) (by kernel_rfl) rfl ?_
          intro K9 hK9
          go_simp
          try dsimp only
          refine hK9.out _ _ (fun h => absurd h (by decide)) ?_
          refine wpAnyT_done (by kernel_rfl) ?_ _
          have HN := Lib.hid (HSD3.op.state ⟨ck2, nx2, L2⟩ hr3)
          dsimp only at HN
          clear HSD HSD3 HOE HO1 c0 c1 c2 c3 c4 c5 c6 c7 z hlt hr1 hr3 hb
          generalize ((w3.setCell ⟨W.heap.size, 1, none⟩ (.int .i64 ck2)).setCell ⟨W.heap.size, 2, none⟩ (.int .i64 nx2)).setCell ⟨W.heap.size, 3, none⟩ (.slice a1 L2.length ac) = w4 at *
          obtain ⟨c0, c1, c2, c3, c4, c5, c6, c7, z, hlt⟩ := HN.out.sd.cells
          have hc6 := HO.out.sd.cells.2.2.2.2.2.2.1
          have HZ := Lib.hid (HN.out.next (f + i + 1))
          have hz6 := HZ.out.sd.cells.2.2.2.2.2.2.1
          go_wp2_with fail
          refine ⟨?_, ?measure⟩
          · repeat apply Exists.intro
            refine ⟨?rel, rfl⟩
            case rel =>
              refine ⟨i + 1, .slice a1 L2.length ac, by omega, ?_⟩
              rw [HNX.out]
              have e1 : f + ((i + 1 : Nat) : Int) = f + i + 1 := by omega
              rw [e1]
              exact HZ.out
          case measure =>
            rw [hc6, hz6]
            simp [intOf]
            omega
        · obtain rfl : i = es.length := by omega
          have hex : f + (es.length : Int) = x := by omega
          rw [hex] at HEV HO
          rw [HI.out.stop tag_ok] at HEV
          rw [List.take_length] at HO
          clear hex hxe
          generalize hs1 : es.foldl applyS ⟨sck, snx, sL⟩ = s1 at *
          obtain ⟨ck1, nx1, L1⟩ := s1
          obtain ⟨c0, c1, c2, c3, c4, c5, c6, c7, z, hlt⟩ := HO.out.sd.cells
          go_wp2_with fail
          go_at_call 53
          refine HEV.out.mono ?_
          rintro r w1 ⟨⟨e', b', rfl, rfl⟩, hb⟩
          obtain ⟨kd, ⟨fi, cl, su, sc, ge, ma, us, re, de⟩, id, ti⟩ := e'
          have HO1 := Lib.hid (HO.out.keep hb)
          have HO2 := Lib.hid (HO1.out.keep ((Below.refl _ _).alloc (Nat.le_refl _) (.cells (evCs ⟨kd, ⟨fi, cl, su, sc, ge, ma, us, re, de⟩, id, ti⟩) 102)))
          unfold evVal
          unfold evCs at HO2 ⊢
          dsimp only at HO2 ⊢
          go_wp2_with fail
          go_ret2
          exact ⟨W.heap.size, _, rfl, HO2.out.sd, Nat.le_refl _, HO2.out.below⟩
end Go.Proofs.YtckohmhhcknmaaaGreatDoor

/-
  A store over its disk, as it is between two calls; what Open, Add, Save, Cut and State come to.
-/
namespace Go.Proofs.YtckohmhhcknmaaaGreatDoor
open Go.RowKit Go.Sort

/-- a disk that holds what makes the state s -/
structure DI (B db : Nat) (D : Dk) (n f x : Int) (s : St) (w : World) : Prop where
  env : Env B w
  disk : DiskAt w db D
  bd : B ≤ db
  big : B ≤ w.heap.size
  fits : D.fits
  fit : Fit s
  inv : ∃ s0 es, SInv tagL (blkOf D) n f x s0 es ∧ es.foldl applyS s0 = s
/-- a store, and its disk -/
structure SO (B sb db : Nat) (D : Dk) (n f x : Int) (s : St) (v : Value) (w : World) : Prop where
  sd : SD B sb db D s v n f x false w
  di : DI B db D n f x s w
section
variable {B sb db : Nat} {D : Dk} {n f x : Int} {s : St} {v : Value} {w w' : World}
theorem DI.nums (h : DI B db D n f x s w) : 0 ≤ n ∧ n ≤ 1000000 ∧ 0 ≤ f ∧ f ≤ x ∧ x ≤ 1000000 := by
  obtain ⟨s0, es, hi, _⟩ := h.inv
  have h1 := hi.n0
  have h2 := hi.n1
  have h3 := hi.f0
  have h4 := hi.x1
  have h5 := hi.xe
  omega
theorem DI.keep (h : DI B db D n f x s w) (hb : Below w.heap.size w w') : DI B db D n f x s w' := ⟨h.env.new h.big hb, h.disk.below hb, h.bd, Nat.le_trans h.big hb.size, h.fits, h.fit, h.inv⟩
theorem DI.drew (h : DI B db D n f x s w) : DI B db D n f x s w.drew := ⟨⟨h.env.tens, h.env.maxl, h.env.errs, h.env.gt, h.env.gm, h.env.g1, h.env.g2⟩, ⟨h.disk.at_, h.disk.len⟩, h.bd, h.big, h.fits, h.fit, h.inv⟩
theorem SO.keep (h : SO B sb db D n f x s v w) (hb : Below w.heap.size w w') : SO B sb db D n f x s v w' := ⟨h.sd.keep hb, h.di.keep hb⟩
theorem SO.drew (h : SO B sb db D n f x s v w) : SO B sb db D n f x s v w.drew := ⟨h.sd.drew, h.di.drew⟩
theorem SD.di {down : Bool} (h : SD B sb db D s v n f x down w) (h1 : D.fits) (h2 : Fit s) (h3 : ∃ s0 es, SInv tagL (blkOf D) n f x s0 es ∧ es.foldl applyS s0 = s) : DI B db D n f x s w := ⟨h.env, h.disk, h.bd, h.big, h1, h2, h3⟩
end
/-- what Open comes to -/
theorem di_open {B db : Nat} {D : Dk} {n f x : Int} {s : St} {W : World} (h : DI B db D n f x s W) :
    Calls Tryz.prog 17 #[.pointer (some ⟨db, 0, none⟩)] W fun e w' => ∃ sb v, e = .returned (.tuple #[.pointer (some ⟨sb, 0, none⟩), .nilIface]) ∧ SO B sb db D n f x s v w' ∧ W.heap.size ≤ sb ∧ Below W.heap.size W w' := by
  obtain ⟨s0, es, hi, rfl⟩ := h.inv
  refine (store_open B db D W h.env h.disk h.bd h.big h.fits n f x s0 es hi).mono ?_
  rintro e w' ⟨sb, v, rfl, hsd, hsb, hb⟩
  exact ⟨sb, v, rfl, ⟨hsd, hsd.di h.fits h.fit ⟨s0, es, hi, rfl⟩⟩, hsb, hb⟩
theorem DI.cut {B db : Nat} {D : Dk} {n f x : Int} {s : St} {w w' : World} (h : DI B db D n f x s w) {k : Int} (hd : DiskAt w' db (D.cutAt k)) (hg : w.grownBy w' (some db)) : DI B db (D.cutAt k) n f x s w' := by
  have hb : Below B w w' := (Below.refl B w).grown hg h.big (fun j hj => by cases hj; exact h.bd)
  exact ⟨h.env.keep hb, hd, h.bd, Nat.le_trans h.big hb.size, h.fits, h.fit, h.inv⟩
theorem SO.cut {B sb db : Nat} {D : Dk} {n f x : Int} {s : St} {v : Value} {w w' : World} (h : SO B sb db D n f x s v w) {k : Int} (hd : DiskAt w' db (D.cutAt k)) (hg : w.grownBy w' (some db)) : SO B sb db (D.cutAt k) n f x s v w' := ⟨h.sd.wrote hd hg, h.di.cut hd hg⟩
/-- behind one more write -/
theorem DI.put {B db : Nat} {D : Dk} {n f x : Int} {s : St} {w : World} (h : DI B db D n f x s w) {e : Ev} (he : evB e = true) (hl : (applyS s e).fams.length ≤ 20) (hx : x - f ≠ 16) (hx1 : x < 1000000) :
    (D.put (x % 16).toNat (txt (evRec tagL x e))).fits ∧ Fit (applyS s e) ∧ ∃ s0 es, SInv tagL (blkOf (D.put (x % 16).toNat (txt (evRec tagL x e)))) n f (x + 1) s0 es ∧ es.foldl applyS s0 = applyS s e := by
  obtain ⟨s0, es, hi, rfl⟩ := h.inv
  have hxe := hi.xe
  have hle := hi.len
  have hf0 := hi.f0
  refine ⟨fits_put h.fits ?_ _, h.fit.apply he hl, s0, es ++ [e], ?_, ?_⟩
  · have h1 := evL_len he
    have h2 := itoaM_len (x := x) (okM_iff.2 (by omega))
    rw [txt_size_]
    unfold evRec
    rw [sealL_len, List.length_append, List.length_cons]
    omega
  · rw [blkOf_put h.disk.len (by omega), data_txt]
    exact hi.add he (by omega) hx1
  · rw [List.foldl_append]
    rfl
theorem DI.saved {B db : Nat} {D D1 : Dk} {n f x : Int} {s : St} {w : World} (h : DI B db D n f x s w) (hn : n < 1000000) {ok : Bool} (ho : SaveOut D (slotAt ((n + 1) % 2).toNat) s.fams (txt (headL tagL (n + 1) x s)) D1 ok) :
    D1.fits ∧ (ok = true → ∃ s0 es, SInv tagL (blkOf D1) (n + 1) x x s0 es ∧ es.foldl applyS s0 = s) ∧ (ok = false → ∃ s0 es, SInv tagL (blkOf D1) n f x s0 es ∧ es.foldl applyS s0 = s) ∧ D1.blk.length = 90 := by
  obtain ⟨hn0, _, hf0, hfx, hx1⟩ := h.nums
  obtain ⟨s0, es, hi, rfl⟩ := h.inv
  obtain ⟨k1, k2, k3⟩ := hi.saveOut h.fit hn h.disk.len ho
  refine ⟨?_, fun e => ⟨es.foldl applyS s0, [], k1 e, rfl⟩, fun e => ⟨s0, es, k2 e, rfl⟩, k3⟩
  rcases ho with ⟨_, _, rfl⟩ | ⟨_, m, hm, _, _, rfl⟩
  · refine fits_put (famD_fits h.fits h.fit.fams _ (Nat.le_refl _)) ?_ _
    rw [txt_size_]
    exact (head_len h.fit (okM_iff.2 (by omega)) (okM_iff.2 (by omega))).2
  · exact famD_fits h.fits h.fit.fams m hm
/-- an empty disk -/
def Dk.none_ : Dk := ⟨List.replicate 90 ByteArray.empty, false, 0, 0⟩
theorem new_disk : Tryz.zeroCells59 = Dk.none_.cells := by kernel_rfl
theorem DI.new {B : Nat} {W : World} (hE : Env B W) (hB : B ≤ W.heap.size) : DI B W.heap.size Dk.none_ 0 0 0 startS (W.alloc (.cells Tryz.zeroCells59 59)) := by
  have hb : Below W.heap.size W (W.alloc (.cells Tryz.zeroCells59 59)) := (Below.refl _ _).alloc (Nat.le_refl _) _
  have hz : ∀ k, Dk.none_.blk.getD k ByteArray.empty = ByteArray.empty := fun k => by
    unfold Dk.none_
    rw [List.getD_eq_getElem?_getD, List.getElem?_replicate]
    split <;> rfl
  refine ⟨hE.new hB hb, ⟨?_, by simp [Dk.none_]⟩, hB, Nat.le_trans hB hb.size, fun k => by rw [hz]; exact Nat.zero_le _, Fit.start, startS, [], ?_, rfl⟩
  · rw [new_disk]
    exact Blk.new W _ _
  · have : blkOf Dk.none_ = fun _ => [] := by
      funext k
      unfold blkOf
      rw [hz]
      rfl
    rw [this]
    exact empty_inv tagL
end Go.Proofs.YtckohmhhcknmaaaGreatDoor

/-
  A store over its disk, counted as the document counts: what Add, Save, Cut and Open come to.
-/
namespace Go.Proofs.YtckohmhhcknmaaaGreatDoor
open Go.RowKit Go.Sort

/-- a store, its disk, and what the document tells of it -/
def SX (B sb db : Nat) (k : Nat) (z : SS) (v : Value) (w : World) : Prop :=
  ∃ (D : Dk) (n f x : Int), SD B sb db D z.s v n f x z.down w ∧ DI B db D n f x z.s w ∧ DR z D ∧ z.log = x - f ∧ n ≤ k ∧ x ≤ k
section
variable {B sb db k : Nat} {z : SS} {v : Value} {w w' : World}
theorem SX.keep (h : SX B sb db k z v w) (hb : Below w.heap.size w w') : SX B sb db k z v w' := by
  obtain ⟨D, n, f, x, h1, h2, h3⟩ := h
  exact ⟨D, n, f, x, h1.keep hb, h2.keep hb, h3⟩
theorem SX.drew (h : SX B sb db k z v w) : SX B sb db k z v w.drew := by
  obtain ⟨D, n, f, x, h1, h2, h3⟩ := h
  exact ⟨D, n, f, x, h1.drew, h2.drew, h3⟩
theorem SX.later (h : SX B sb db k z v w) : SX B sb db (k + 1) z v w := by
  obtain ⟨D, n, f, x, h1, h2, h3, h4, h5, h6⟩ := h
  exact ⟨D, n, f, x, h1, h2, h3, h4, by omega, by omega⟩
theorem SX.fit (h : SX B sb db k z v w) : Fit z.s := by
  obtain ⟨D, n, f, x, h1, h2, h3⟩ := h
  exact h2.fit
theorem SX.row (h : SX B sb db k z v w) : FRow w B v z.s.fams := by
  obtain ⟨D, n, f, x, h1, h2, h3⟩ := h
  exact h1.row
theorem SX.env (h : SX B sb db k z v w) : Env B w := by
  obtain ⟨D, n, f, x, h1, h2, h3⟩ := h
  exact h1.env
theorem SX.places (h : SX B sb db k z v w) : B ≤ sb ∧ B ≤ db ∧ B ≤ w.heap.size := by
  obtain ⟨D, n, f, x, h1, h2, h3⟩ := h
  exact ⟨h1.bs, h1.bd, h1.big⟩
theorem SX.blocks (h : SX B sb db k z v w) : (∃ cs, Blk w sb 117 cs) ∧ ∃ cs, Blk w db 59 cs := by
  obtain ⟨D, n, f, x, h1, h2, h3⟩ := h
  exact ⟨⟨_, h1.st⟩, ⟨_, h1.disk.at_⟩⟩
theorem SX.log_ (h : SX B sb db k z v w) : 0 ≤ z.log ∧ z.log ≤ k := by
  obtain ⟨D, n, f, x, h1, h2, h3, h4, h5, h6⟩ := h
  have := h2.nums
  omega
/-- the power is on: how much is left is no matter -/
theorem SX.free (h : SX B sb db k z v w) (ho : z.off = false) (l : Int) : SX B sb db k ⟨z.s, z.log, z.writes, z.off, l, z.down⟩ v w := by
  obtain ⟨D, n, f, x, h1, h2, h3, h4⟩ := h
  exact ⟨D, n, f, x, h1, h2, ⟨h3.writes, h3.off, fun hc => by rw [← h3.off, ho] at hc; cases hc⟩, h4⟩
end
/-- behind one more write -/
theorem put_any {D : Dk} {n f x : Int} {s : St} (hlen : D.blk.length = 90) (hfits : D.fits) (hfit : Fit s) (hinv : ∃ s0 es, SInv tagL (blkOf D) n f x s0 es ∧ es.foldl applyS s0 = s) {e : Ev} (he : evB e = true) (hl : (applyS s e).fams.length ≤ 20) (hx : x - f ≠ 16) (hx1 : x < 1000000) :
    (D.put (x % 16).toNat (txt (evRec tagL x e))).fits ∧ Fit (applyS s e) ∧ ∃ s0 es, SInv tagL (blkOf (D.put (x % 16).toNat (txt (evRec tagL x e)))) n f (x + 1) s0 es ∧ es.foldl applyS s0 = applyS s e := by
  obtain ⟨s0, es, hi, rfl⟩ := hinv
  have hxe := hi.xe
  have hle := hi.len
  have hf0 := hi.f0
  refine ⟨fits_put hfits ?_ _, hfit.apply he hl, s0, es ++ [e], ?_, ?_⟩
  · have h1 := evL_len he
    have h2 := itoaM_len (x := x) (okM_iff.2 (by omega))
    rw [txt_size_]
    unfold evRec
    rw [sealL_len, List.length_append, List.length_cons]
    omega
  · rw [blkOf_put hlen (by omega), data_txt]
    exact hi.add he (by omega) hx1
  · rw [List.foldl_append]
    rfl
theorem errV_0 : errV 0 = .nilIface := if_pos rfl
theorem errV_n {n : Int} (h : n ≠ 0) : errV n = .iface 35 (.int .i64 n) := if_neg h

set_option maxRecDepth 100000 in
theorem add_downed (B sb db : Nat) (D : Dk) (s : St) (v : Value) (n f x : Int) (e : Ev) (W : World) (h : SD B sb db D s v n f x true W) :
    Calls Tryz.prog 42 #[.pointer (some ⟨sb, 0, none⟩), evVal e] W fun r w' => r = .returned (.iface 35 (.int .i64 6)) ∧ Below W.heap.size W w' := by
  obtain ⟨ck, nx, L⟩ := s
  obtain ⟨kd, ⟨i, cl, su, sc, ge, ma, us, re, de⟩, id, ti⟩ := e
  have hb : Below W.heap.size W (W.alloc (.cells (evCs ⟨kd, ⟨i, cl, su, sc, ge, ma, us, re, de⟩, id, ti⟩) 102)) := (Below.refl _ _).alloc (Nat.le_refl _) _
  obtain ⟨c0, c1, c2, c3, c4, c5, c6, c7, hz, hlt⟩ := (h.keep hb).cells
  have HB := Lib.hid hb
  clear h hb
  unfold evCs at *
  unfold evVal evCs
  dsimp only at *
  go_enter Tryz.func42, Tryz.ntmps42
  go_wp2_with fail
  go_ret
  exact ⟨rfl, HB.out⟩
set_option maxRecDepth 100000 in
theorem save_downed (B sb db : Nat) (D : Dk) (s : St) (v : Value) (n f x : Int) (W : World) (h : SD B sb db D s v n f x true W) :
    Calls Tryz.prog 34 #[.pointer (some ⟨sb, 0, none⟩)] W fun r w' => r = .returned (.iface 35 (.int .i64 6)) ∧ W = w' := by
  obtain ⟨ck, nx, L⟩ := s
  obtain ⟨c0, c1, c2, c3, c4, c5, c6, c7, hz, hlt⟩ := h.cells
  clear h
  go_enter Tryz.func34, Tryz.ntmps34
  go_wp2_with fail
  go_ret
  exact ⟨rfl, rfl⟩

/-- what a call at a store comes to -/
def DoneX (W : World) (B sb db k : Nat) (r : SS × Int) (e : Ending) (w' : World) : Prop :=
  e = .returned (errV r.2) ∧ Two sb db W w' ∧ ∃ v', SX B sb db (k + 1) r.1 v' w'
theorem sx_save {B sb db k : Nat} {z : SS} {v : Value} {W : World} (h : SX B sb db k z v W) (hk : k < 1000000) :
    Calls Tryz.prog 34 #[.pointer (some ⟨sb, 0, none⟩)] W (DoneX W B sb db k (saveS z)) := by
  obtain ⟨D, n, f, x, h1, h2, h3, h4, h5, h6⟩ := h
  obtain ⟨hn0, _, hf0, hfx, hx1⟩ := h2.nums
  rcases hd : z.down with _ | _
  · rw [hd] at h1
    refine (store_save B sb db D z.s v n f x W h1 h2.fits h2.fit hn0 (by omega) (by omega) hx1).mono ?_
    rintro e w' ⟨ok, D1, hso, htw, ⟨rfl, rfl, hsd⟩ | ⟨rfl, rfl, hsd⟩⟩
    · obtain ⟨a, b, _, _⟩ := h2.saved (by omega) hso
      obtain ⟨hr, hdr⟩ := (h3.save hso).1 rfl
      obtain ⟨ks, kl, ko, kd⟩ := manyS_keeps (z.s.fams.length + 1) z
      rw [saveS_yes hd hr]
      refine ⟨rfl, htw, v, D1, n + 1, x, x, ?_, ?_, hdr.same rfl rfl rfl, by show (0 : Int) = x - x; omega, by omega, by omega⟩
      · show SD B sb db D1 (manyS _ z).s v (n + 1) x x (manyS _ z).down w'
        rw [ks, kd, hd]
        exact hsd
      · show DI B db D1 (n + 1) x x (manyS _ z).s w'
        rw [ks]
        exact hsd.di a h2.fit (b rfl)
    · obtain ⟨a, _, c, _⟩ := h2.saved (by omega) hso
      obtain ⟨m, hr, hdr⟩ := (h3.save hso).2 rfl
      obtain ⟨ks, kl, ko, kd⟩ := manyS_keeps m z
      rw [saveS_no hd hr]
      refine ⟨rfl, htw, v, D1, n, f, x, ?_, ?_, hdr, ?_, by omega, by omega⟩
      · show SD B sb db D1 (manyS _ z).s v n f x true w'
        rw [ks]
        exact hsd
      · show DI B db D1 n f x (manyS _ z).s w'
        rw [ks]
        exact hsd.di a h2.fit (c rfl)
      · show (manyS m z).log = x - f
        rw [kl, h4]
  · have h1' := h1
    rw [hd] at h1'
    refine (save_downed B sb db D z.s v n f x W h1').mono ?_
    rintro e w' ⟨rfl, rfl⟩
    rw [saveS_down hd]
    exact ⟨rfl, Two.refl _ _ _, v, D, n, f, x, h1, h2, h3, h4, by omega, by omega⟩
theorem sx_add {B sb db k : Nat} {z : SS} {v : Value} {W : World} (h : SX B sb db k z v W) (hk : k < 1000000) (ev : Ev) (hs : ev.fam.short 1000) :
    Calls Tryz.prog 42 #[.pointer (some ⟨sb, 0, none⟩), evVal ev] W (DoneX W B sb db k (addS z ev)) := by
  obtain ⟨D, n, f, x, h1, h2, h3, h4, h5, h6⟩ := h
  obtain ⟨hn0, _, hf0, hfx, hx1⟩ := h2.nums
  rcases hd : z.down with _ | _
  · have h1' := h1
    rw [hd] at h1'
    refine (store_add B sb db D z.s v n f x ev W h1' hs h2.fits h2.fit hn0 (by omega) hf0 hfx (by omega)).mono ?_
    rintro e w' ⟨htw, ⟨he, rfl, hsd⟩ | ⟨he, hl, rfl, hsd⟩ | ⟨he, hl, hxf, hr⟩ | ⟨he, hl, hxf, D1, hso, hr⟩ | ⟨he, hl, hxf, D1, hso, rfl, hsd⟩⟩
    · rw [addS_bad hd he]
      refine ⟨rfl, htw, v, D, n, f, x, ?_, hsd.di h2.fits h2.fit h2.inv, h3, h4, by omega, by omega⟩
      rw [hd]; exact hsd
    · rw [addS_full hd he hl]
      refine ⟨rfl, htw, v, D, n, f, x, ?_, hsd.di h2.fits h2.fit h2.inv, h3, h4, by omega, by omega⟩
      rw [hd]; exact hsd
    · rw [addS_one hd he hl (by rw [h4]; exact hxf)]
      rcases hr with ⟨ho, rfl, hsd⟩ | ⟨ho, rfl, v', hsd⟩
      · rw [lastS_off (by rw [h3.isOff]; exact ho)]
        exact ⟨rfl, htw, v, D, n, f, x, hsd, hsd.di h2.fits h2.fit h2.inv, h3.down, h4, by omega, by omega⟩
      · rw [lastS_on (by rw [h3.isOff]; exact ho)]
        obtain ⟨a, b, c⟩ := h2.put he hl hxf (by omega)
        refine ⟨rfl, htw, v', _, n, f, x + 1, ?_, hsd.di a b c, (h3.put _ _).same rfl rfl rfl, ?_, by omega, by omega⟩
        · show SD B sb db _ (applyS z.s ev) v' n f (x + 1) z.down w'
          rw [hd]; exact hsd
        · show z.log + 1 = x + 1 - f
          omega
    · obtain ⟨a, b, _, hlen⟩ := h2.saved (by omega) hso
      obtain ⟨hrun, hdr⟩ := (h3.save hso).1 rfl
      obtain ⟨ks, kl, ko, kd⟩ := manyS_keeps (z.s.fams.length + 1) z
      have hdr' : DR (logS (manyS (z.s.fams.length + 1) z) 0) D1 := hdr.same rfl rfl rfl
      rw [addS_save hd he hl (by rw [h4]; exact hxf), saveS_yes hd hrun, if_pos rfl]
      rcases hr with ⟨ho, rfl, hsd⟩ | ⟨ho, rfl, v', hsd⟩
      · rw [lastS_off (by rw [hdr'.isOff]; exact ho)]
        refine ⟨rfl, htw, v, D1, n + 1, x, x, ?_, ?_, hdr'.down, by show (0 : Int) = x - x; omega, by omega, by omega⟩
        · show SD B sb db D1 (manyS _ z).s v (n + 1) x x true w'
          rw [ks]; exact hsd
        · show DI B db D1 (n + 1) x x (manyS _ z).s w'
          rw [ks]; exact hsd.di a h2.fit (b rfl)
      · rw [lastS_on (by rw [hdr'.isOff]; exact ho)]
        obtain ⟨a', b', c'⟩ := put_any hlen a h2.fit (b rfl) he hl (by omega) (by omega)
        refine ⟨rfl, htw, v', _, n + 1, x, x + 1, ?_, hsd.di a' b' c', (hdr'.put _ _).same rfl rfl rfl, by show (0 : Int) + 1 = x + 1 - x; omega, by omega, by omega⟩
        show SD B sb db _ (applyS z.s ev) v' (n + 1) x (x + 1) (manyS _ z).down w'
        rw [kd, hd]; exact hsd
    · obtain ⟨a, _, c, _⟩ := h2.saved (by omega) hso
      obtain ⟨m, hrun, hdr⟩ := (h3.save hso).2 rfl
      obtain ⟨ks, kl, ko, kd⟩ := manyS_keeps m z
      rw [addS_save hd he hl (by rw [h4]; exact hxf), saveS_no hd hrun, if_neg (show ¬ (14 : Int) = 0 by decide)]
      refine ⟨rfl, htw, v, D1, n, f, x, ?_, ?_, hdr, ?_, by omega, by omega⟩
      · show SD B sb db D1 (manyS _ z).s v n f x true w'
        rw [ks]; exact hsd
      · show DI B db D1 n f x (manyS _ z).s w'
        rw [ks]; exact hsd.di a h2.fit (c rfl)
      · show (manyS m z).log = x - f
        rw [kl, h4]
  · have h1' := h1
    rw [hd] at h1'
    refine (add_downed B sb db D z.s v n f x ev W h1').mono ?_
    rintro e w' ⟨rfl, hb⟩
    rw [addS_down hd]
    exact ⟨rfl, Two.of_below hb, v, D, n, f, x, h1.keep hb, h2.keep hb, h3, h4, by omega, by omega⟩
theorem sx_cut {B sb db k : Nat} {z : SS} {v : Value} {W : World} (h : SX B sb db k z v W) (c : Int) :
    Calls Tryz.prog 35 #[.pointer (some ⟨db, 0, none⟩), .int .i64 c] W fun e w' => e = .returned (.tuple #[]) ∧ SX B sb db k (cutS z c) v w' ∧ W.grownBy w' (some db) := by
  obtain ⟨D, n, f, x, h1, h2, h3, h4, h5, h6⟩ := h
  refine (disk_cut db D c W h1.disk).mono ?_
  rintro e w' ⟨rfl, hd, hg⟩
  exact ⟨rfl, ⟨_, n, f, x, h1.wrote hd hg, h2.cut hd hg, h3.cutAt c, h4, h5, h6⟩, hg⟩
def upS (z : SS) : SS := ⟨z.s, z.log, z.writes, z.off, z.left, false⟩
/-- a store that is opened anew -/
def OpenX (W : World) (B sb db k : Nat) (z : SS) (v : Value) (e : Ending) (w' : World) : Prop :=
  ∃ sb' v', e = .returned (.tuple #[.pointer (some ⟨sb', 0, none⟩), .nilIface]) ∧ SX B sb' db k (upS z) v' w' ∧ SX B sb db k z v w' ∧ W.heap.size ≤ sb' ∧ Below W.heap.size W w'
theorem sx_open {B sb db k : Nat} {z : SS} {v : Value} {W : World} (h : SX B sb db k z v W) :
    Calls Tryz.prog 17 #[.pointer (some ⟨db, 0, none⟩)] W (OpenX W B sb db k z v) := by
  have h0 := h
  obtain ⟨D, n, f, x, h1, h2, h3, h4, h5, h6⟩ := h
  refine (di_open h2).mono ?_
  rintro e w' ⟨sb', v', rfl, hso, hsb, hb⟩
  exact ⟨sb', v', rfl, ⟨D, n, f, x, hso.sd, hso.di, h3.same rfl rfl rfl, h4, h5, h6⟩, h0.keep hb, hsb, hb⟩
/-- of a new disk -/
theorem sx_first {B db : Nat} {W : World} (h : DI B db Dk.none_ 0 0 0 startS W) :
    Calls Tryz.prog 17 #[.pointer (some ⟨db, 0, none⟩)] W fun e w' => ∃ sb v, e = .returned (.tuple #[.pointer (some ⟨sb, 0, none⟩), .nilIface]) ∧ SX B sb db 0 newS v w' ∧ W.heap.size ≤ sb ∧ Below W.heap.size W w' := by
  refine (di_open h).mono ?_
  rintro e w' ⟨sb, v, rfl, hso, hsb, hb⟩
  exact ⟨sb, v, rfl, ⟨Dk.none_, 0, 0, 0, hso.sd, hso.di, ⟨rfl, rfl, fun h => by cases h⟩, rfl, Int.le_refl _, Int.le_refl _⟩, hsb, hb⟩
theorem sx_state {B sb db k : Nat} {z : SS} {v : Value} {W : World} (h : SX B sb db k z v W) :
    Calls Tryz.prog 39 #[.pointer (some ⟨sb, 0, none⟩)] W (ApplyGot W z.s) := by
  obtain ⟨D, n, f, x, h1, h2, h3⟩ := h
  exact store_state B sb db z.s v n f x z.down W h1.st h1.row (by have := h2.fit.len; omega)
end Go.Proofs.YtckohmhhcknmaaaGreatDoor

/-
  A service in memory; its small parts: add, put, refresh.
-/
namespace Go.Proofs.YtckohmhhcknmaaaGreatDoor
open Go.RowKit Go.Sort

def svCs (sb : Nat) (r : Ru) : Array Value := #[.pointer (some ⟨sb, 0, none⟩), .int .i64 r.key, .int .i64 r.idle, .int .i64 r.life, .int .i64 r.access]
/-- a service over its store -/
structure SW (B vb sb db k : Nat) (r : Ru) (z : SS) (v : Value) (w : World) : Prop where
  at_ : Blk w vb 97 (svCs sb r)
  sx : SX B sb db k z v w
  right : ruB r = true
  bv : B ≤ vb
theorem ruB_parts {r : Ru} (h : ruB r = true) : okN r.key = true ∧ okN r.idle = true ∧ okN r.life = true ∧ okN r.access = true := by
  unfold ruB at h
  simp only [Bool.and_eq_true] at h
  exact ⟨h.1.1.1, h.1.1.2, h.1.2, h.2⟩
section
variable {B vb sb db k : Nat} {r : Ru} {z : SS} {v : Value} {w w' : World}
theorem SW.keep (h : SW B vb sb db k r z v w) (hb : Below w.heap.size w w') : SW B vb sb db k r z v w' := ⟨h.at_.below' hb, h.sx.keep hb, h.right, h.bv⟩
theorem SW.drew (h : SW B vb sb db k r z v w) : SW B vb sb db k r z v w.drew := ⟨h.at_, h.sx.drew, h.right, h.bv⟩
theorem SW.later (h : SW B vb sb db k r z v w) : SW B vb sb db (k + 1) r z v w := ⟨h.at_, h.sx.later, h.right, h.bv⟩
theorem SW.two {k' : Nat} {z' : SS} {v' : Value} (h : SW B vb sb db k r z v w) (t : Two sb db w w') (hs : SX B sb db k' z' v' w') : SW B vb sb db k' r z' v' w' := by
  obtain ⟨⟨ca, ha⟩, cb, hb⟩ := h.sx.blocks
  exact ⟨h.at_.two t (h.at_.ne_ ha (by decide)) (h.at_.ne_ hb (by decide)), hs, h.right, h.bv⟩
theorem SW.five (h : SW B vb sb db k r z v w) : w.cell? ⟨vb, 0, none⟩ = some (.pointer (some ⟨sb, 0, none⟩)) ∧ w.cell? ⟨vb, 1, none⟩ = some (.int .i64 r.key) ∧ w.cell? ⟨vb, 2, none⟩ = some (.int .i64 r.idle) ∧ w.cell? ⟨vb, 3, none⟩ = some (.int .i64 r.life) ∧ w.cell? ⟨vb, 4, none⟩ = some (.int .i64 r.access) ∧ vb < w.heap.size :=
  ⟨h.at_.cell 0, h.at_.cell 1, h.at_.cell 2, h.at_.cell 3, h.at_.cell 4, h.at_.lt⟩
end
/-- a call that may add an event came to its end -/
def PutX (W : World) (B vb sb db k : Nat) (r : Ru) (q : SS × Int) (e : Ending) (w' : World) : Prop :=
  e = .returned (errV q.2) ∧ Two sb db W w' ∧ ∃ v', SW B vb sb db (k + 1) r q.1 v' w'
theorem svc_add (a b : Int) (w : World) (ha : 0 ≤ a ∧ a ≤ 1099511627776) (hb : 0 ≤ b ∧ b ≤ 1099511627776) : Calls Tryz.prog 43 #[.int .i64 a, .int .i64 b] w fun e w' => e = .returned (.int .i64 (capN a b)) ∧ w = w' := by
  obtain ⟨a0, a1⟩ := ha
  obtain ⟨b0, b1⟩ := hb
  unfold capN
  by_cases h : a + b > 1099511627776
  · rw [if_pos h]
    go_enter Tryz.func43, Tryz.ntmps43
    go_wp2_with fail
    go_ret
    refine ⟨?_, rfl⟩
    show Ending.returned (Value.int _ _) = _
    congr 2
    omega
  · rw [if_neg h]
    go_enter Tryz.func43, Tryz.ntmps43
    go_wp2_with fail
    go_ret
    refine ⟨?_, rfl⟩
    show Ending.returned (Value.int _ _) = _
    congr 2
    omega
/-- a service's store, and a family's nine cells -/
def FB (vb sb fb : Nat) (i : Int) (cl su sc : ByteArray) (ge ma us : Int) (re : ByteArray) (de : Bool) (w : World) : Prop :=
  w.cell? ⟨vb, 0, none⟩ = some (.pointer (some ⟨sb, 0, none⟩)) ∧ w.cell? ⟨fb, 0, none⟩ = some (.int .i64 i) ∧ w.cell? ⟨fb, 1, none⟩ = some (.string cl) ∧ w.cell? ⟨fb, 2, none⟩ = some (.string su) ∧ w.cell? ⟨fb, 3, none⟩ = some (.string sc) ∧ w.cell? ⟨fb, 4, none⟩ = some (.int .i64 ge) ∧
    w.cell? ⟨fb, 5, none⟩ = some (.int .i64 ma) ∧ w.cell? ⟨fb, 6, none⟩ = some (.int .i64 us) ∧ w.cell? ⟨fb, 7, none⟩ = some (.string re) ∧ w.cell? ⟨fb, 8, none⟩ = some (.bool de)
theorem FB.of {vb sb fb : Nat} {i : Int} {cl su sc : ByteArray} {ge ma us : Int} {re : ByteArray} {de : Bool} {w : World} {T : TypeId} (h : w.cell? ⟨vb, 0, none⟩ = some (.pointer (some ⟨sb, 0, none⟩))) (hb : Blk w fb T (famCs ⟨i, cl, su, sc, ge, ma, us, re, de⟩)) : FB vb sb fb i cl su sc ge ma us re de w :=
  ⟨h, hb.cell 0, hb.cell 1, hb.cell 2, hb.cell 3, hb.cell 4, hb.cell 5, hb.cell 6, hb.cell 7, hb.cell 8⟩
theorem SX.apart {B sb db k : Nat} {z : SS} {v : Value} {w : World} (h : SX B sb db k z v w) {g : Nat} {T : TypeId} {cs : Array Value} (hb : Blk w g T cs) (h1 : T ≠ 117) (h2 : T ≠ 59) : g ≠ sb ∧ g ≠ db := by
  obtain ⟨⟨ca, ha⟩, cb, hc⟩ := h.blocks
  exact ⟨hb.ne_ ha h1, hb.ne_ hc h2⟩
set_option maxHeartbeats 1000000 in
set_option maxRecDepth 100000 in
theorem svc_put {B vb sb db k : Nat} {r : Ru} {z : SS} {v : Value} {W : World} (h : SW B vb sb db k r z v W) (hk : k < 1000000) (f : Fam) (hf : f.short 1000) :
    Calls Tryz.prog 40 #[.pointer (some ⟨vb, 0, none⟩), famVal f] W (PutX W B vb sb db k r (addS z (putEv f))) := by
  have HA : Hid (∀ w, SX B sb db k z v w → Calls Tryz.prog 42 #[.pointer (some ⟨sb, 0, none⟩), evVal (putEv f)] w (DoneX w B sb db k (addS z (putEv f)))) := Lib.hid fun w h => sx_add h hk (putEv f) hf
  have H := Lib.hid h
  generalize addS z (putEv f) = q at *
  obtain ⟨i, cl, su, sc, ge, ma, us, re, de⟩ := f
  unfold evVal evCs putEv at HA
  unfold famVal famCs
  dsimp only at *
  clear h hf
  have hal : Below W.heap.size W (W.alloc (.cells #[.int .i64 i, .string cl, .string su, .string sc, .int .i64 ge, .int .i64 ma, .int .i64 us, .string re, .bool de] 79)) := (Below.refl _ _).alloc (Nat.le_refl _) _
  have HAL := Lib.hid hal
  have H1 := Lib.hid (H.out.keep hal)
  obtain ⟨c0, c1, c2, c3, c4, hlt⟩ := H1.out.five
  clear hal
  go_enter Tryz.func40, Tryz.ntmps40
  go_wp2_with fail
  have hfb : Blk (W.alloc (.cells #[.int .i64 i, .string cl, .string su, .string sc, .int .i64 ge, .int .i64 ma, .int .i64 us, .string re, .bool de] 79)).drew W.heap.size 79 #[.int .i64 i, .string cl, .string su, .string sc, .int .i64 ge, .int .i64 ma, .int .i64 us, .string re, .bool de] := Blk.new W _ _
  have HD : FB vb sb W.heap.size i cl su sc ge ma us re de (W.alloc (.cells #[.int .i64 i, .string cl, .string su, .string sc, .int .i64 ge, .int .i64 ma, .int .i64 us, .string re, .bool de] 79)).drew := FB.of c0 hfb
  have HSD := Lib.hid H1.out.drew
  have HFB := Lib.hid hfb
  have HBD := Lib.hid (Two.of_below (a := sb) (b := db) (below_dr HAL.out))
  unfold FB at HD
  clear hfb c0 c1 c2 c3 c4 hlt
  go_region_held3 (fun w' => w'.cell? ⟨vb, 0, none⟩ = some (.pointer (some ⟨sb, 0, none⟩)) ∧ w'.cell? ⟨W.heap.size, 0, none⟩ = some (.int .i64 i) ∧ w'.cell? ⟨W.heap.size, 1, none⟩ = some (.string cl) ∧ w'.cell? ⟨W.heap.size, 2, none⟩ = some (.string su) ∧ w'.cell? ⟨W.heap.size, 3, none⟩ = some (.string sc) ∧ w'.cell? ⟨W.heap.size, 4, none⟩ = some (.int .i64 ge) ∧
      w'.cell? ⟨W.heap.size, 5, none⟩ = some (.int .i64 ma) ∧ w'.cell? ⟨W.heap.size, 6, none⟩ = some (.int .i64 us) ∧ w'.cell? ⟨W.heap.size, 7, none⟩ = some (.string re) ∧ w'.cell? ⟨W.heap.size, 8, none⟩ = some (.bool de))
    (first
      | with_reducible assumption
      | with_reducible exact HD)
    (first
      | (go_at_call 42; (with_reducible refine (HA.out _ HSD.out.sx).mono ?_); rintro x' w2 ⟨rfl, htw, v2, hsx⟩
         have hend : PutX W B vb sb db k r q (.returned (errV q.2)) w2 := ⟨rfl, HBD.out.trans htw, v2, HSD.out.two htw hsx⟩
         have hx2 := FB.of (i := i) (cl := cl) (su := su) (sc := sc) (ge := ge) (ma := ma) (us := us) (re := re) (de := de) ((HSD.out.two htw hsx).five.1) (HFB.out.two htw (HSD.out.sx.apart HFB.out (by decide) (by decide)).1 (HSD.out.sx.apart HFB.out (by decide) (by decide)).2)
         unfold FB at hx2))
  go_wp2_with fail
  go_ret
  exact hend
end Go.Proofs.YtckohmhhcknmaaaGreatDoor
