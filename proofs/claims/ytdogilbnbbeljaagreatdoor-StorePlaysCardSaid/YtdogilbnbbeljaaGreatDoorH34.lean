/-
  store.Open: what a disk has.
-/
import Derived.Test.YtdogilbnbbeljaaGreatDoorH33
namespace Go.Proofs.YtdogilbnbbeljaaGreatDoor
open Go.RowKit Go.Sort

/-- what Open gives -/
def NewGot (W : World) (B db : Nat) (D : Dk) (s : St) (n f x : Int) (e : Ending) (w' : World) : Prop :=
  ∃ (sb : Nat) (v : Value), e = .returned (.tuple #[.pointer (some ⟨sb, 0, none⟩), .nilIface]) ∧ SD B sb db D s v n f x false w' ∧ W.heap.size ≤ sb ∧ Below W.heap.size W w'
def pickK (blk : Nat → List UInt8) : Nat → Int × Int × St
  | 0 => (0, 0, startS)
  | k + 1 => betterR (pickK blk k) (loadR tagL blk k)
theorem pickK_two (blk : Nat → List UInt8) : pickK blk 2 = pickR tagL blk := rfl
/-- a store that is being opened -/
structure OpSt (W : World) (B db : Nat) (D : Dk) (s : St) (v : Value) (n f x : Int) (w : World) : Prop where
  sd : SD B W.heap.size db D s v n f x false w
  below : Below W.heap.size W w
section
variable {W w w' : World} {B db : Nat} {D : Dk} {s : St} {v : Value} {n f x : Int}
theorem OpSt.keep (h : OpSt W B db D s v n f x w) (hb : Below w.heap.size w w') : OpSt W B db D s v n f x w' := ⟨h.sd.keep hb, below_2 h.below hb⟩
theorem OpSt.drew (h : OpSt W B db D s v n f x w) : OpSt W B db D s v n f x w.drew := ⟨h.sd.drew, below_dr h.below⟩
theorem OpSt.start (hE : Env B W) (hd : DiskAt W db D) (hB : B ≤ db) (hBW : B ≤ W.heap.size) : OpSt W B db D ⟨0, 1, []⟩ (.slice none 0 0) 0 0 0 (W.alloc (.cells (storeCs db ⟨0, 1, []⟩ (.slice none 0 0) 0 0 0 false) 69)) := by
  have hb : Below W.heap.size W (W.alloc (.cells (storeCs db ⟨0, 1, []⟩ (.slice none 0 0) 0 0 0 false) 69)) := (Below.refl _ _).alloc (Nat.le_refl _) _
  exact ⟨⟨hE.new hBW hb, Blk.new W _ _, hd.below hb, FRow.nil _ _, hBW, hB⟩, hb⟩
/-- the store's cells anew -/
theorem OpSt.sets (h : OpSt W B db D s v n f x w) {s' : St} {v' : Value} {n' f' x' : Int} (hr : FRow w B v' s'.fams) (hs : StAt w' W.heap.size db s' v' n' f' x' false) (hg : w.grownBy w' (some W.heap.size)) : OpSt W B db D s' v' n' f' x' w' := by
  obtain ⟨h1, h2, h3⟩ := h.sd.apart
  have hb := h.below.grown hg h.below.size (fun _ hk => by cases hk; exact Nat.le_refl _)
  have hbB : Below B w w' := (Below.refl B w).grown hg h.sd.big (fun k hk => by cases hk; exact h.sd.bs)
  exact ⟨⟨h.sd.env.keep hbB, hs, h.sd.disk.grown hg (by simpa using Ne.symm h3), hr.kept hg (hr.apart h.sd.st (by decide)), h.sd.bs, h.sd.bd⟩, hb⟩
theorem OpSt.next (h : OpSt W B db D s v n f x w) (x' : Int) : OpSt W B db D s v n f x' (w.setCell ⟨W.heap.size, 6, none⟩ (.int .i64 x')) :=
  h.sets h.sd.row (Blk.put_ h.sd.st 6 (.int .i64 x') (cs' := storeCs db s v n f x' false) rfl) (only_set1 w W.heap.size ⟨W.heap.size, 6, none⟩ rfl (.int .i64 x'))
theorem OpSt.state (h : OpSt W B db D s v n f x w) (s' : St) {v' : Value} (hr : FRow w B v' s'.fams) :
    OpSt W B db D s' v' n f x (((w.setCell ⟨W.heap.size, 1, none⟩ (.int .i64 s'.clock)).setCell ⟨W.heap.size, 2, none⟩ (.int .i64 s'.next)).setCell ⟨W.heap.size, 3, none⟩ v') := by
  have e1 := Blk.put_ h.sd.st 1 (.int .i64 s'.clock) (cs' := storeCs db ⟨s'.clock, s.next, s.fams⟩ v n f x false) rfl
  have e2 := Blk.put_ e1 2 (.int .i64 s'.next) (cs' := storeCs db ⟨s'.clock, s'.next, s.fams⟩ v n f x false) rfl
  have e3 := Blk.put_ e2 3 v' (cs' := storeCs db s' v' n f x false) rfl
  have g1 := only_set1 w W.heap.size ⟨W.heap.size, 1, none⟩ rfl (.int .i64 s'.clock)
  have g2 := only_setCell g1 (p := ⟨W.heap.size, 2, none⟩) (.inl rfl) (.int .i64 s'.next)
  have g3 := only_setCell g2 (p := ⟨W.heap.size, 3, none⟩) (.inl rfl) v'
  exact h.sets hr e3 g3
theorem OpSt.numbers (h : OpSt W B db D s v n f x w) (n' f' : Int) : OpSt W B db D s v n' f' x ((w.setCell ⟨W.heap.size, 4, none⟩ (.int .i64 n')).setCell ⟨W.heap.size, 5, none⟩ (.int .i64 f')) := by
  have e1 := Blk.put_ h.sd.st 4 (.int .i64 n') (cs' := storeCs db s v n' f x false) rfl
  have e2 := Blk.put_ e1 5 (.int .i64 f') (cs' := storeCs db s v n' f' x false) rfl
  have g1 := only_set1 w W.heap.size ⟨W.heap.size, 4, none⟩ rfl (.int .i64 n')
  have g2 := only_setCell g1 (p := ⟨W.heap.size, 5, none⟩) (.inl rfl) (.int .i64 f')
  exact h.sets h.sd.row e2 g2
/-- a slot is taken -/
theorem OpSt.taken (h : OpSt W B db D s v n f x w) (s' : St) {v' : Value} (hr : FRow w B v' s'.fams) (n' f' : Int) :
    OpSt W B db D s' v' n' f' x (((((w.setCell ⟨W.heap.size, 4, none⟩ (.int .i64 n')).setCell ⟨W.heap.size, 5, none⟩ (.int .i64 f')).setCell ⟨W.heap.size, 1, none⟩ (.int .i64 s'.clock)).setCell ⟨W.heap.size, 2, none⟩ (.int .i64 s'.next)).setCell ⟨W.heap.size, 3, none⟩ v') := by
  have g1 := only_set1 w W.heap.size ⟨W.heap.size, 4, none⟩ rfl (.int .i64 n')
  have g2 := only_setCell g1 (p := ⟨W.heap.size, 5, none⟩) (.inl rfl) (.int .i64 f')
  exact (h.numbers n' f').state s' (hr.kept g2 (hr.apart h.sd.st (by decide)))
/-- an event that was read, besides -/
structure OE (W : World) (B db : Nat) (D : Dk) (s : St) (v : Value) (n f x : Int) (g : Nat) (e : Ev) (w : World) : Prop where
  op : OpSt W B db D s v n f x w
  ev : Blk w g 42 (evCs e)
theorem OE.keep {g : Nat} {e : Ev} (h : OE W B db D s v n f x g e w) (hb : Below w.heap.size w w') : OE W B db D s v n f x g e w' := ⟨h.op.keep hb, h.ev.below' hb⟩
theorem OE.drew {g : Nat} {e : Ev} (h : OE W B db D s v n f x g e w) : OE W B db D s v n f x g e w.drew := ⟨h.op.drew, h.ev⟩
theorem OE.three {g : Nat} {e : Ev} {ck nx : Int} {L : List Fam} (h : OE W B db D ⟨ck, nx, L⟩ v n f x g e w) : w.cell? ⟨W.heap.size, 1, none⟩ = some (.int .i64 ck) ∧ w.cell? ⟨W.heap.size, 2, none⟩ = some (.int .i64 nx) ∧ w.cell? ⟨W.heap.size, 3, none⟩ = some v := ⟨Blk.cell h.op.sd.st 1, Blk.cell h.op.sd.st 2, Blk.cell h.op.sd.st 3⟩
end
def OpK (W : World) (B db : Nat) (D : Dk) (i : Value) (w : World) : Prop := ∃ (k : Nat) (v : Value), k ≤ 2 ∧ i = .int .i64 k ∧ OpSt W B db D (pickK (blkOf D) k).2.2 v (pickK (blkOf D) k).1 (pickK (blkOf D) k).2.1 0 w
def OpJ (W : World) (B db : Nat) (D : Dk) (s0 : St) (es : List Ev) (n f : Int) (w : World) : Prop := ∃ (i : Nat) (v : Value), i ≤ es.length ∧ OpSt W B db D ((es.take i).foldl applyS s0) v n f (f + i) w
theorem take_ok {s0 : St} {es : List Ev} (hf : Fit s0) (he : ∀ e ∈ es, evB e = true) (hl : es.length ≤ 16) : ∀ i, i ≤ es.length → StOk ((es.take i).foldl applyS s0) ∧ ((es.take i).foldl applyS s0).fams.length ≤ 20 + i
  | 0, _ => by
    have := hf.len
    exact ⟨hf.ok, by simpa using this⟩
  | i + 1, hi => by
    obtain ⟨h1, h2⟩ := take_ok hf he hl i (by omega)
    have hlt : i < es.length := by omega
    have e1 : es.take (i + 1) = es.take i ++ [es[i]] := by rw [List.take_add_one, List.getElem?_eq_getElem hlt]; rfl
    rw [e1, List.foldl_append]
    show StOk (applyS _ es[i]) ∧ (applyS _ es[i]).fams.length ≤ _
    have h3 := applyS_len ((es.take i).foldl applyS s0) es[i]
    exact ⟨st_apply_ok h1 (by omega) (he _ (List.getElem_mem hlt)), by omega⟩
theorem take_next (s0 : St) {es : List Ev} {i : Nat} {e : Ev} (he : es[i]? = some e) : (es.take (i + 1)).foldl applyS s0 = applyS ((es.take i).foldl applyS s0) e := by
  rw [List.take_add_one, he, List.foldl_append]
  rfl
set_option maxHeartbeats 8000000 in
set_option maxRecDepth 100000 in
theorem store_open (B db : Nat) (D : Dk) (W : World) (hE : Env B W) (hd : DiskAt W db D) (hB : B ≤ db) (hBW : B ≤ W.heap.size) (hf : D.fits) (n f x : Int) (s0 : St) (es : List Ev) (hi : SInv tagL (blkOf D) n f x s0 es) :
    Calls Tryz.prog 6 #[.pointer (some ⟨db, 0, none⟩)] W (NewGot W B db D (es.foldl applyS s0) n f x) := by
  have H0 := Lib.hid (OpSt.start hE hd hB hBW)
  have HF := Lib.hid hf
  have HI := Lib.hid hi
  clear hE hd hf hi
  unfold storeCs at H0
  dsimp only at H0
  go_enter Tryz.func6, Tryz.ntmps6
  go_wp2_with fail
  go_loopw [19] (fun i wr => OpK W B db D i wr) (fun i _ => 2 - (intOf i).toNat)
  case atStart => exact ⟨0, _, Nat.zero_le _, rfl, H0.out⟩
  case round =>
    obtain ⟨k, v, hk, rfl, hop⟩ := hrel
    obtain ⟨va, vc, rfl⟩ := hop.sd.row.slice
    have HO := Lib.hid hop
    clear hop
    by_cases hk2 : k < 2
    · have HL := Lib.hid (store_load B W.heap.size db D _ _ _ _ _ false wr HO.out.sd HF.out k hk2)
      have HBT : Hid (pickK (blkOf D) (k + 1) = betterR (pickK (blkOf D) k) (loadR tagL (blkOf D) k)) := Lib.hid rfl
      generalize loadR tagL (blkOf D) k = o at *
      generalize hpk : pickK (blkOf D) k = pk at *
      generalize hpk1 : pickK (blkOf D) (k + 1) = pk1 at *
      have HPK1 := Lib.hid hpk1
      clear hpk hpk1
      obtain ⟨pn, pf, ⟨pc, px, pL⟩⟩ := pk
      dsimp only at *
      obtain ⟨c0, c1, c2, c3, c4, c5, c6, c7, z, hlt⟩ := HO.out.sd.cells
      go_wp2_with fail
      go_at_call 27
      refine HL.out.mono ?_
      rintro e w1 ⟨a, b, ⟨lc, lx, lL⟩, lv, ok, rfl, hlr, hb, ho⟩
      obtain ⟨la, lcap, rfl⟩ := hlr.slice
      have HO1 := Lib.hid (HO.out.keep hb)
      have HR1 := Lib.hid (hlr.mono (B' := B) HO.out.sd.big)
      have HA := Lib.hid ((Below.refl w1.heap.size w1).alloc (Nat.le_refl _) (.cells #[.int .i64 lc, .int .i64 lx, .slice la lL.length lcap] 36))
      have HT := Lib.hid (Blk.new w1 36 #[.int .i64 lc, .int .i64 lx, .slice la lL.length lcap])
      have HO2 := Lib.hid (HO1.out.keep HA.out)
      have HR2 := Lib.hid (HR1.out.below HA.out)
      unfold stVal stCs
      dsimp only at HR2 ⊢
      clear hb hlr HL c0 c1 c2 c3 c4 c5 c6 c7 z hlt
      obtain ⟨c0, c1, c2, c3, c4, c5, c6, c7, z, hlt⟩ := HO1.out.sd.cells
      cases ok
      · have HB := Lib.hid (show betterR (pn, pf, ⟨pc, px, pL⟩) o = (pn, pf, ⟨pc, px, pL⟩) from by
          rcases o with _ | t
          · rfl
          · obtain ⟨h1, _⟩ := ho
            cases h1)
        clear ho
        go_wp2_with fail
        go_roundw
        case rel =>
          refine ⟨k + 1, .slice va pL.length vc, by omega, by go_num, ?_⟩
          rw [HPK1.out, HBT.out, HB.out]
          exact HO2.out
        case measure => simp [intOf]; omega
      · have HB := Lib.hid (show betterR (pn, pf, ⟨pc, px, pL⟩) o = if a > pn then (a, b, ⟨lc, lx, lL⟩) else (pn, pf, ⟨pc, px, pL⟩) from by
          rcases o with _ | t
          · cases ho
          · obtain ⟨_, rfl⟩ := ho
            rfl)
        clear ho
        by_cases hgt : a > pn
        · go_wp2_with fail
          clear c0 c1 c2 c3 c4 c5 c6 c7 z hlt
          generalize w1.alloc (.cells #[.int .i64 lc, .int .i64 lx, .slice la lL.length lcap] 36) = w2 at *
          generalize w1.heap.size = g1 at *
          obtain ⟨c0, c1, c2, c3, c4, c5, c6, c7, z, hlt⟩ := HO2.out.sd.cells
          obtain ⟨d0, d1, d2⟩ := two_cells HT.out
          go_region
          go_wp2_with fail
          go_roundw
          case rel =>
            refine ⟨k + 1, .slice la lL.length lcap, by omega, by go_num, ?_⟩
            rw [HPK1.out, HBT.out, HB.out, if_pos hgt]
            exact (HO2.out.taken ⟨lc, lx, lL⟩ HR2.out a b).drew
          case measure => simp [intOf]; omega
        · go_wp2_with fail
          go_roundw
          case rel =>
            refine ⟨k + 1, .slice va pL.length vc, by omega, by go_num, ?_⟩
            rw [HPK1.out, HBT.out, HB.out, if_neg hgt]
            exact HO2.out
          case measure => simp [intOf]; omega
    · obtain rfl : k = 2 := by omega
      rw [pickK_two, (HI.out.opened tag_ok).1] at HO
      have HX := Lib.hid (HO.out.next f)
      obtain ⟨sck, snx, sL⟩ := s0
      dsimp only at *
      obtain ⟨c0, c1, c2, c3, c4, c5, c6, c7, z, hlt⟩ := HO.out.sd.cells
      go_wp2_with fail
      clear c0 c1 c2 c3 c4 c5 c6 c7 z hlt HO H0
      generalize wr.setCell ⟨W.heap.size, 6, none⟩ (.int .i64 f) = w5 at *
      go_loopw [11] (fun _ wr => OpJ W B db D ⟨sck, snx, sL⟩ es n f wr) (fun _ wr => (f + 17 - intOf ((wr.cell? ⟨W.heap.size, 6, none⟩).getD undef)).toNat)
      case atStart => exact ⟨0, _, Nat.zero_le _, by simpa using HX.out⟩
      case round =>
        obtain ⟨i, v, hi, hop⟩ := hrel
        obtain ⟨wa, wc, rfl⟩ := hop.sd.row.slice
        have HO := Lib.hid hop
        clear hop
        have hx1 := HI.out.x1
        have hxe := HI.out.xe
        have hf0 := HI.out.f0
        have hl16 := HI.out.len
        obtain ⟨hok, hsl⟩ := take_ok HI.out.fit HI.out.evs HI.out.len i hi
        have HOK := Lib.hid hok
        have HEV := Lib.hid (store_event B W.heap.size db D _ _ n f (f + i) (f + i) false wr HO.out.sd HF.out hf0 (by omega) (by omega) (by omega))
        clear hok
        by_cases hie : i < es.length
        · obtain ⟨e, he⟩ : ∃ e, es[i]? = some e := ⟨_, List.getElem?_eq_getElem hie⟩
          rw [HI.out.event tag_ok he] at HEV
          have hev := HI.out.evs e (List.mem_of_getElem? he)
          have HNX := Lib.hid (take_next ⟨sck, snx, sL⟩ he)
          have HA : Hid (∀ (w : World) (v : Value), FRow w B v ((es.take i).foldl applyS ⟨sck, snx, sL⟩).fams → Calls Tryz.prog 13 #[stVal ((es.take i).foldl applyS ⟨sck, snx, sL⟩) v, evVal e] w (GotAs w (applyS ((es.take i).foldl applyS ⟨sck, snx, sL⟩) e).clock (applyS ((es.take i).foldl applyS ⟨sck, snx, sL⟩) e).next (applyS ((es.take i).foldl applyS ⟨sck, snx, sL⟩) e).fams)) :=
            Lib.hid fun w v hr => (ev_apply _ v _ e w hr HOK.out (okN_one hev) (okN_two hev)).mono fun _ _ h => got_as h
          generalize applyS ((es.take i).foldl applyS ⟨sck, snx, sL⟩) e = s2 at *
          generalize (es.take i).foldl applyS ⟨sck, snx, sL⟩ = s1 at *
          obtain ⟨ck1, nx1, L1⟩ := s1
          obtain ⟨ck2, nx2, L2⟩ := s2
          unfold GotAs stVal stCs evVal evCs at HA
          clear he hev
          obtain ⟨kd, ⟨fi, cl, su, sc, ge, ma, us, re, de⟩, id, ti⟩ := e
          dsimp only at *
          obtain ⟨c0, c1, c2, c3, c4, c5, c6, c7, z, hlt⟩ := HO.out.sd.cells
          go_wp2_with fail
          go_at_call 28
          refine HEV.out.mono ?_
          rintro r w1 ⟨⟨e', b', rfl, rfl, rfl⟩, hb⟩
          have HO1 := Lib.hid (HO.out.keep hb)
          have HOE : Hid (OE W B db D ⟨ck1, nx1, L1⟩ (.slice wa L1.length wc) n f (f + i) w1.heap.size ⟨kd, ⟨fi, cl, su, sc, ge, ma, us, re, de⟩, id, ti⟩ (w1.alloc (.cells (evCs ⟨kd, ⟨fi, cl, su, sc, ge, ma, us, re, de⟩, id, ti⟩) 42))) := Lib.hid ⟨HO1.out.keep ((Below.refl _ _).alloc (Nat.le_refl _) _), Blk.new w1 _ _⟩
          unfold evVal
          unfold evCs at HOE ⊢
          dsimp only at HOE ⊢
          clear hb HEV c0 c1 c2 c3 c4 c5 c6 c7 z hlt
          go_wp2_with fail
          generalize w1.alloc (.cells #[.int .i64 kd, .int .i64 fi, .string cl, .string su, .string sc, .int .i64 ge, .int .i64 ma, .int .i64 us, .string re, .bool de, .int .i64 id, .int .i64 ti] 42) = w2 at *
          generalize w1.heap.size = g1 at *
          refine wp_region_tail (OE W B db D ⟨ck1, nx1, L1⟩ (.slice wa L1.length wc) n f (f + i) g1 ⟨kd, ⟨fi, cl, su, sc, ge, ma, us, re, de⟩, id, ti⟩) [9] (by kernel_rfl) ?_
          have HSD := HOE.out.drew
          refine wpAnyT_take 2 (i := 0) (v := ?v0) rfl (by kernel_rfl) (by kernel_rfl) (by kernel_rfl) (by kernel_rfl) (by kernel_rfl) (fun _ _ _ h => h) (by rfl) ?hy0 (by assumption) ?rest0
          case hy0 => (intro w hSw; obtain ⟨q1, q2, q3⟩ := hSw.three; obtain ⟨e0, e1, e2, e3, e4, e5, e6, e7, e8, e9, e10, e11⟩ := ev_cells hSw.ev; go_simp; (try with_reducible rfl))
          simp only [Act.put]
          refine wpAnyT_take 2 (i := 1) (v := ?v1) rfl (by kernel_rfl) (by kernel_rfl) (by kernel_rfl) (by kernel_rfl) (by kernel_rfl) (fun _ _ _ h => h) (by rfl) ?hy1 (by assumption) ?rest1
          case hy1 => (intro w hSw; obtain ⟨q1, q2, q3⟩ := hSw.three; obtain ⟨e0, e1, e2, e3, e4, e5, e6, e7, e8, e9, e10, e11⟩ := ev_cells hSw.ev; go_simp; (try with_reducible rfl))
          simp only [Act.put]
          refine wpAnyT_take 2 (i := 2) (v := ?v2) rfl (by kernel_rfl) (by kernel_rfl) (by kernel_rfl) (by kernel_rfl) (by kernel_rfl) (fun _ _ _ h => h) (by rfl) ?hy2 (by assumption) ?rest2
          case hy2 => (intro w hSw; obtain ⟨q1, q2, q3⟩ := hSw.three; obtain ⟨e0, e1, e2, e3, e4, e5, e6, e7, e8, e9, e10, e11⟩ := ev_cells hSw.ev; go_simp; (try with_reducible rfl))
          simp only [Act.put]
          refine wpAnyT_take 2 (i := 3) (v := ?v3) rfl (by kernel_rfl) (by kernel_rfl) (by kernel_rfl) (by kernel_rfl) (by kernel_rfl) (fun _ _ _ h => h) (by rfl) ?hy3 (by assumption) ?rest3
          case hy3 => (intro w hSw; obtain ⟨q1, q2, q3⟩ := hSw.three; obtain ⟨e0, e1, e2, e3, e4, e5, e6, e7, e8, e9, e10, e11⟩ := ev_cells hSw.ev; go_simp; (try with_reducible rfl))
          simp only [Act.put]
          refine wpAnyT_take 2 (i := 4) (v := ?v4) rfl (by kernel_rfl) (by kernel_rfl) (by kernel_rfl) (by kernel_rfl) (by kernel_rfl) (fun _ _ _ h => h) (by rfl) ?hy4 (by assumption) ?rest4
          case hy4 => (intro w hSw; obtain ⟨q1, q2, q3⟩ := hSw.three; obtain ⟨e0, e1, e2, e3, e4, e5, e6, e7, e8, e9, e10, e11⟩ := ev_cells hSw.ev; go_simp; (try with_reducible rfl))
          simp only [Act.put]
          refine wpAnyT_take 2 (i := 5) (v := ?v5) rfl (by kernel_rfl) (by kernel_rfl) (by kernel_rfl) (by kernel_rfl) (by kernel_rfl) (fun _ _ _ h => h) (by rfl) ?hy5 (by assumption) ?rest5
          case hy5 => (intro w hSw; obtain ⟨q1, q2, q3⟩ := hSw.three; obtain ⟨e0, e1, e2, e3, e4, e5, e6, e7, e8, e9, e10, e11⟩ := ev_cells hSw.ev; go_simp; (try with_reducible rfl))
          simp only [Act.put]
          refine wpAnyT_one (i := 6) (by kernel_rfl) rfl ?_
          intro K6 hK6
          go_simp
          go_at_call 13
          refine (HA.out _ _ HSD.op.sd.row).mono ?_
          rintro r w3 ⟨a1, ac, rfl, hr1, hb⟩
          have HSD3 := HSD.keep hb
          have hr3 := hr1.mono (B' := B) HSD.op.sd.big
          try dsimp only
          refine hK6.out _ _ (fun _ => HSD3) ?_
          try simp only [Act.put]
          refine wpAnyT_take 2 (i := 7) (v := ?v7) rfl (by kernel_rfl) (by kernel_rfl) (by kernel_rfl) (by kernel_rfl) (by kernel_rfl) (fun _ _ _ h => h) (by rfl) ?hy7 (by assumption) ?rest7
          case hy7 => (intro w hSw; go_simp; (try with_reducible rfl))
          simp only [Act.put]
          refine wpAnyT_take 2 (i := 8) (v := ?v8) rfl (by kernel_rfl) (by kernel_rfl) (by kernel_rfl) (by kernel_rfl) (by kernel_rfl) (fun _ _ _ h => h) (by rfl) ?hy8 (by assumption) ?rest8
          case hy8 => (intro w hSw; go_simp; (try with_reducible rfl))
          simp only [Act.put]
          obtain ⟨c0, c1, c2, c3, c4, c5, c6, c7, z, hlt⟩ := HSD3.op.sd.cells
          refine wpAnyT_one (i := 9) (by kernel_rfl) rfl ?_
          intro K9 hK9
          go_simp
          try dsimp only
          refine hK9.out _ _ (fun h => absurd h (by decide)) ?_
          refine wpAnyT_done (by kernel_rfl) ?_ _
          have HN := Lib.hid (HSD3.op.state ⟨ck2, nx2, L2⟩ hr3)
          dsimp only at HN
          clear HSD HSD3 HOE HO1 c0 c1 c2 c3 c4 c5 c6 c7 z hlt hr1 hr3 hb
          generalize ((w3.setCell ⟨W.heap.size, 1, none⟩ (.int .i64 ck2)).setCell ⟨W.heap.size, 2, none⟩ (.int .i64 nx2)).setCell ⟨W.heap.size, 3, none⟩ (.slice a1 L2.length ac) = w4 at *
          obtain ⟨c0, c1, c2, c3, c4, c5, c6, c7, z, hlt⟩ := HN.out.sd.cells
          have hc6 := HO.out.sd.cells.2.2.2.2.2.2.1
          have HZ := Lib.hid (HN.out.next (f + i + 1))
          have hz6 := HZ.out.sd.cells.2.2.2.2.2.2.1
          go_wp2_with fail
          refine ⟨?_, ?measure⟩
          · repeat apply Exists.intro
            refine ⟨?rel, rfl⟩
            case rel =>
              refine ⟨i + 1, .slice a1 L2.length ac, by omega, ?_⟩
              rw [HNX.out]
              have e1 : f + ((i + 1 : Nat) : Int) = f + i + 1 := by omega
              rw [e1]
              exact HZ.out
          case measure =>
            rw [hc6, hz6]
            simp [intOf]
            omega
        · obtain rfl : i = es.length := by omega
          have hex : f + (es.length : Int) = x := by omega
          rw [hex] at HEV HO
          rw [HI.out.stop tag_ok] at HEV
          rw [List.take_length] at HO
          clear hex hxe
          generalize hs1 : es.foldl applyS ⟨sck, snx, sL⟩ = s1 at *
          obtain ⟨ck1, nx1, L1⟩ := s1
          obtain ⟨c0, c1, c2, c3, c4, c5, c6, c7, z, hlt⟩ := HO.out.sd.cells
          go_wp2_with fail
          go_at_call 28
          refine HEV.out.mono ?_
          rintro r w1 ⟨⟨e', b', rfl, rfl⟩, hb⟩
          obtain ⟨kd, ⟨fi, cl, su, sc, ge, ma, us, re, de⟩, id, ti⟩ := e'
          have HO1 := Lib.hid (HO.out.keep hb)
          have HO2 := Lib.hid (HO1.out.keep ((Below.refl _ _).alloc (Nat.le_refl _) (.cells (evCs ⟨kd, ⟨fi, cl, su, sc, ge, ma, us, re, de⟩, id, ti⟩) 42)))
          unfold evVal
          unfold evCs at HO2 ⊢
          dsimp only at HO2 ⊢
          go_wp2_with fail
          go_ret2
          exact ⟨W.heap.size, _, rfl, HO2.out.sd, Nat.le_refl _, HO2.out.below⟩
end Go.Proofs.YtdogilbnbbeljaaGreatDoor
