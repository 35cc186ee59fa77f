/-
  store.Open: what a disk has.
-/
import Derived.Test.YtepjcdjpikbbjaaGreatDoorP16
import Derived.Test.YtepjcdjpikbbjaaGreatDoorP13
import Derived.Test.YtepjcdjpikbbjaaGreatDoorP04
import Derived.Deep.RegionHeld3
import Derived.Deep.AppendLies
namespace Go.Proofs.YtepjcdjpikbbjaaGreatDoor
open Go.RowKit Go.Sort

/-- what Open gives -/
def NewGot (W : World) (B db : Nat) (D : Dk) (s : St) (n f x : Int) (e : Ending) (w' : World) : Prop :=
  ∃ (sb : Nat) (v : Value), e = .returned (.tuple #[.pointer (some ⟨sb, 0, none⟩), .nilIface]) ∧ SD B sb db D s v n f x false w' ∧ W.heap.size ≤ sb ∧ Below W.heap.size W w'
def pickK (blk : Nat → List UInt8) : Nat → Int × Int × St
  | 0 => (0, 0, startS)
  | k + 1 => betterR (pickK blk k) (loadR tagL blk k)
theorem pickK_two (blk : Nat → List UInt8) : pickK blk 2 = pickR tagL blk := rfl
/-- a store that is being opened -/
structure OpSt (W : World) (B db : Nat) (D : Dk) (s : St) (v : Value) (n f x : Int) (w : World) : Prop where
  sd : SD B W.heap.size db D s v n f x false w
  below : Below W.heap.size W w
section
variable {W w w' : World} {B db : Nat} {D : Dk} {s : St} {v : Value} {n f x : Int}
theorem OpSt.keep (h : OpSt W B db D s v n f x w) (hb : Below w.heap.size w w') : OpSt W B db D s v n f x w' := ⟨h.sd.keep hb, below_2 h.below hb⟩
theorem OpSt.drew (h : OpSt W B db D s v n f x w) : OpSt W B db D s v n f x w.drew := ⟨h.sd.drew, below_dr h.below⟩
theorem OpSt.start (hE : Env B W) (hd : DiskAt W db D) (hB : B ≤ db) (hBW : B ≤ W.heap.size) : OpSt W B db D ⟨0, 1, []⟩ (.slice none 0 0) 0 0 0 (W.alloc (.cells (storeCs db ⟨0, 1, []⟩ (.slice none 0 0) 0 0 0 false) 112)) := by
  have hb : Below W.heap.size W (W.alloc (.cells (storeCs db ⟨0, 1, []⟩ (.slice none 0 0) 0 0 0 false) 112)) := (Below.refl _ _).alloc (Nat.le_refl _) _
  exact ⟨⟨hE.new hBW hb, Blk.new W _ _, hd.below hb, FRow.nil _ _, hBW, hB⟩, hb⟩
/-- the store's cells anew -/
theorem OpSt.sets (h : OpSt W B db D s v n f x w) {s' : St} {v' : Value} {n' f' x' : Int} (hr : FRow w B v' s'.fams) (hs : StAt w' W.heap.size db s' v' n' f' x' false) (hg : w.grownBy w' (some W.heap.size)) : OpSt W B db D s' v' n' f' x' w' := by
  obtain ⟨h1, h2, h3⟩ := h.sd.apart
  have hb := h.below.grown hg h.below.size (fun _ hk => by cases hk; exact Nat.le_refl _)
  have hbB : Below B w w' := (Below.refl B w).grown hg h.sd.big (fun k hk => by cases hk; exact h.sd.bs)
  exact ⟨⟨h.sd.env.keep hbB, hs, h.sd.disk.grown hg (by simpa using Ne.symm h3), hr.kept hg (hr.apart h.sd.st (by decide)), h.sd.bs, h.sd.bd⟩, hb⟩
theorem OpSt.next (h : OpSt W B db D s v n f x w) (x' : Int) : OpSt W B db D s v n f x' (w.setCell ⟨W.heap.size, 6, none⟩ (.int .i64 x')) :=
  h.sets h.sd.row (Blk.put_ h.sd.st 6 (.int .i64 x') (cs' := storeCs db s v n f x' false) rfl) (only_set1 w W.heap.size ⟨W.heap.size, 6, none⟩ rfl (.int .i64 x'))
theorem OpSt.state (h : OpSt W B db D s v n f x w) (s' : St) {v' : Value} (hr : FRow w B v' s'.fams) :
    OpSt W B db D s' v' n f x (((w.setCell ⟨W.heap.size, 1, none⟩ (.int .i64 s'.clock)).setCell ⟨W.heap.size, 2, none⟩ (.int .i64 s'.next)).setCell ⟨W.heap.size, 3, none⟩ v') := by
  have e1 := Blk.put_ h.sd.st 1 (.int .i64 s'.clock) (cs' := storeCs db ⟨s'.clock, s.next, s.fams⟩ v n f x false) rfl
  have e2 := Blk.put_ e1 2 (.int .i64 s'.next) (cs' := storeCs db ⟨s'.clock, s'.next, s.fams⟩ v n f x false) rfl
  have e3 := Blk.put_ e2 3 v' (cs' := storeCs db s' v' n f x false) rfl
  have g1 := only_set1 w W.heap.size ⟨W.heap.size, 1, none⟩ rfl (.int .i64 s'.clock)
  have g2 := only_setCell g1 (p := ⟨W.heap.size, 2, none⟩) (.inl rfl) (.int .i64 s'.next)
  have g3 := only_setCell g2 (p := ⟨W.heap.size, 3, none⟩) (.inl rfl) v'
  exact h.sets hr e3 g3
theorem OpSt.numbers (h : OpSt W B db D s v n f x w) (n' f' : Int) : OpSt W B db D s v n' f' x ((w.setCell ⟨W.heap.size, 4, none⟩ (.int .i64 n')).setCell ⟨W.heap.size, 5, none⟩ (.int .i64 f')) := by
  have e1 := Blk.put_ h.sd.st 4 (.int .i64 n') (cs' := storeCs db s v n' f x false) rfl
  have e2 := Blk.put_ e1 5 (.int .i64 f') (cs' := storeCs db s v n' f' x false) rfl
  have g1 := only_set1 w W.heap.size ⟨W.heap.size, 4, none⟩ rfl (.int .i64 n')
  have g2 := only_setCell g1 (p := ⟨W.heap.size, 5, none⟩) (.inl rfl) (.int .i64 f')
  exact h.sets h.sd.row e2 g2
/-- a slot is taken -/
theorem OpSt.taken (h : OpSt W B db D s v n f x w) (s' : St) {v' : Value} (hr : FRow w B v' s'.fams) (n' f' : Int) :
    OpSt W B db D s' v' n' f' x (((((w.setCell ⟨W.heap.size, 4, none⟩ (.int .i64 n')).setCell ⟨W.heap.size, 5, none⟩ (.int .i64 f')).setCell ⟨W.heap.size, 1, none⟩ (.int .i64 s'.clock)).setCell ⟨W.heap.size, 2, none⟩ (.int .i64 s'.next)).setCell ⟨W.heap.size, 3, none⟩ v') := by
  have g1 := only_set1 w W.heap.size ⟨W.heap.size, 4, none⟩ rfl (.int .i64 n')
  have g2 := only_setCell g1 (p := ⟨W.heap.size, 5, none⟩) (.inl rfl) (.int .i64 f')
  exact (h.numbers n' f').state s' (hr.kept g2 (hr.apart h.sd.st (by decide)))
/-- an event that was read, besides -/
structure OE (W : World) (B db : Nat) (D : Dk) (s : St) (v : Value) (n f x : Int) (g : Nat) (e : Ev) (w : World) : Prop where
  op : OpSt W B db D s v n f x w
  ev : Blk w g 116 (evCs e)
theorem OE.keep {g : Nat} {e : Ev} (h : OE W B db D s v n f x g e w) (hb : Below w.heap.size w w') : OE W B db D s v n f x g e w' := ⟨h.op.keep hb, h.ev.below' hb⟩
theorem OE.drew {g : Nat} {e : Ev} (h : OE W B db D s v n f x g e w) : OE W B db D s v n f x g e w.drew := ⟨h.op.drew, h.ev⟩
theorem OE.three {g : Nat} {e : Ev} {ck nx : Int} {L : List Fam} (h : OE W B db D ⟨ck, nx, L⟩ v n f x g e w) : w.cell? ⟨W.heap.size, 1, none⟩ = some (.int .i64 ck) ∧ w.cell? ⟨W.heap.size, 2, none⟩ = some (.int .i64 nx) ∧ w.cell? ⟨W.heap.size, 3, none⟩ = some v := ⟨Blk.cell h.op.sd.st 1, Blk.cell h.op.sd.st 2, Blk.cell h.op.sd.st 3⟩
end
def OpK (W : World) (B db : Nat) (D : Dk) (i : Value) (w : World) : Prop := ∃ (k : Nat) (v : Value), k ≤ 2 ∧ i = .int .i64 k ∧ OpSt W B db D (pickK (blkOf D) k).2.2 v (pickK (blkOf D) k).1 (pickK (blkOf D) k).2.1 0 w
def OpJ (W : World) (B db : Nat) (D : Dk) (s0 : St) (es : List Ev) (n f : Int) (w : World) : Prop := ∃ (i : Nat) (v : Value), i ≤ es.length ∧ OpSt W B db D ((es.take i).foldl applyS s0) v n f (f + i) w
theorem take_ok {s0 : St} {es : List Ev} (hf : Fit s0) (he : ∀ e ∈ es, evB e = true) (hl : es.length ≤ 16) : ∀ i, i ≤ es.length → StOk ((es.take i).foldl applyS s0) ∧ ((es.take i).foldl applyS s0).fams.length ≤ 20 + i
  | 0, _ => by
    have := hf.len
    exact ⟨hf.ok, by simpa using this⟩
  | i + 1, hi => by
    obtain ⟨h1, h2⟩ := take_ok hf he hl i (by omega)
    have hlt : i < es.length := by omega
    have e1 : es.take (i + 1) = es.take i ++ [es[i]] := by rw [List.take_add_one, List.getElem?_eq_getElem hlt]; rfl
    rw [e1, List.foldl_append]
    show StOk (applyS _ es[i]) ∧ (applyS _ es[i]).fams.length ≤ _
    have h3 := applyS_len ((es.take i).foldl applyS s0) es[i]
    exact ⟨st_apply_ok h1 (by omega) (he _ (List.getElem_mem hlt)), by omega⟩
theorem take_next (s0 : St) {es : List Ev} {i : Nat} {e : Ev} (he : es[i]? = some e) : (es.take (i + 1)).foldl applyS s0 = applyS ((es.take i).foldl applyS s0) e := by
  rw [List.take_add_one, he, List.foldl_append]
  rfl
set_option maxHeartbeats 8000000 in
set_option maxRecDepth 100000 in
theorem store_open (B db : Nat) (D : Dk) (W : World) (hE : Env B W) (hd : DiskAt W db D) (hB : B ≤ db) (hBW : B ≤ W.heap.size) (hf : D.fits) (n f x : Int) (s0 : St) (es : List Ev) (hi : SInv tagL (blkOf D) n f x s0 es) :
    Calls Tryz.prog 19 #[.pointer (some ⟨db, 0, none⟩)] W (NewGot W B db D (es.foldl applyS s0) n f x) := by
  have H0 := Lib.hid (OpSt.start hE hd hB hBW)
  have HF := Lib.hid hf
  have HI := Lib.hid hi
  clear hE hd hf hi
  unfold storeCs at H0
  dsimp only at H0
  go_enter Tryz.func19, Tryz.ntmps19
  go_wp2_with fail
  go_loopw [19] (fun i wr => OpK W B db D i wr) (fun i _ => 2 - (intOf i).toNat)
  case atStart => exact ⟨0, _, Nat.zero_le _, rfl, H0.out⟩
  case round =>
    obtain ⟨k, v, hk, rfl, hop⟩ := hrel
    obtain ⟨va, vc, rfl⟩ := hop.sd.row.slice
    have HO := Lib.hid hop
    clear hop
    by_cases hk2 : k < 2
    · have HL := Lib.hid (store_load B W.heap.size db D _ _ _ _ _ false wr HO.out.sd HF.out k hk2)
      have HBT : Hid (pickK (blkOf D) (k + 1) = betterR (pickK (blkOf D) k) (loadR tagL (blkOf D) k)) := Lib.hid rfl
      generalize loadR tagL (blkOf D) k = o at *
      generalize hpk : pickK (blkOf D) k = pk at *
      generalize hpk1 : pickK (blkOf D) (k + 1) = pk1 at *
      have HPK1 := Lib.hid hpk1
      clear hpk hpk1
      obtain ⟨pn, pf, ⟨pc, px, pL⟩⟩ := pk
      dsimp only at *
      obtain ⟨c0, c1, c2, c3, c4, c5, c6, c7, z, hlt⟩ := HO.out.sd.cells
      go_wp2_with fail
      go_at_call 52
      refine HL.out.mono ?_
      rintro e w1 ⟨a, b, ⟨lc, lx, lL⟩, lv, ok, rfl, hlr, hb, ho⟩
      obtain ⟨la, lcap, rfl⟩ := hlr.slice
      have HO1 := Lib.hid (HO.out.keep hb)
      have HR1 := Lib.hid (hlr.mono (B' := B) HO.out.sd.big)
      have HA := Lib.hid ((Below.refl w1.heap.size w1).alloc (Nat.le_refl _) (.cells #[.int .i64 lc, .int .i64 lx, .slice la lL.length lcap] 83))
      have HT := Lib.hid (Blk.new w1 83 #[.int .i64 lc, .int .i64 lx, .slice la lL.length lcap])
      have HO2 := Lib.hid (HO1.out.keep HA.out)
      have HR2 := Lib.hid (HR1.out.below HA.out)
      unfold stVal stCs
      dsimp only at HR2 ⊢
      clear hb hlr HL c0 c1 c2 c3 c4 c5 c6 c7 z hlt
      obtain ⟨c0, c1, c2, c3, c4, c5, c6, c7, z, hlt⟩ := HO1.out.sd.cells
      cases ok
      · have HB := Lib.hid (show betterR (pn, pf, ⟨pc, px, pL⟩) o = (pn, pf, ⟨pc, px, pL⟩) from by
          rcases o with _ | t
          · rfl
          · obtain ⟨h1, _⟩ := ho
            cases h1)
        clear ho
        go_wp2_with fail
        go_roundw
        case rel =>
          refine ⟨k + 1, .slice va pL.length vc, by omega, by go_num, ?_⟩
          rw [HPK1.out, HBT.out, HB.out]
          exact HO2.out
        case measure => simp [intOf]; omega
      · have HB := Lib.hid (show betterR (pn, pf, ⟨pc, px, pL⟩) o = if a > pn then (a, b, ⟨lc, lx, lL⟩) else (pn, pf, ⟨pc, px, pL⟩) from by
          rcases o with _ | t
          · cases ho
          · obtain ⟨_, rfl⟩ := ho
            rfl)
        clear ho
        by_cases hgt : a > pn
        · go_wp2_with fail
          clear c0 c1 c2 c3 c4 c5 c6 c7 z hlt
          generalize w1.alloc (.cells #[.int .i64 lc, .int .i64 lx, .slice la lL.length lcap] 83) = w2 at *
          generalize w1.heap.size = g1 at *
          obtain ⟨c0, c1, c2, c3, c4, c5, c6, c7, z, hlt⟩ := HO2.out.sd.cells
          obtain ⟨d0, d1, d2⟩ := two_cells HT.out
          go_region
          go_wp2_with fail
          go_roundw
          case rel =>
            refine ⟨k + 1, .slice la lL.length lcap, by omega, by go_num, ?_⟩
            rw [HPK1.out, HBT.out, HB.out, if_pos hgt]
            exact (HO2.out.taken ⟨lc, lx, lL⟩ HR2.out a b).drew
          case measure => simp [intOf]; omega
        · go_wp2_with fail
          go_roundw
          case rel =>
            refine ⟨k + 1, .slice va pL.length vc, by omega, by go_num, ?_⟩
            rw [HPK1.out, HBT.out, HB.out, if_neg hgt]
            exact HO2.out
          case measure => simp [intOf]; omega
    · obtain rfl : k = 2 := by omega
      rw [pickK_two, (HI.out.opened tag_ok).1] at HO
      have HX := Lib.hid (HO.out.next f)
      obtain ⟨sck, snx, sL⟩ := s0
      dsimp only at *
      obtain ⟨c0, c1, c2, c3, c4, c5, c6, c7, z, hlt⟩ := HO.out.sd.cells
      go_wp2_with fail
      clear c0 c1 c2 c3 c4 c5 c6 c7 z hlt HO H0
      generalize wr.setCell ⟨W.heap.size, 6, none⟩ (.int .i64 f) = w5 at *
      go_loopw [11] (fun _ wr => OpJ W B db D ⟨sck, snx, sL⟩ es n f wr) (fun _ wr => (f + 17 - intOf ((wr.cell? ⟨W.heap.size, 6, none⟩).getD undef)).toNat)
      case atStart => exact ⟨0, _, Nat.zero_le _, by simpa using HX.out⟩
      case round =>
        obtain ⟨i, v, hi, hop⟩ := hrel
        obtain ⟨wa, wc, rfl⟩ := hop.sd.row.slice
        have HO := Lib.hid hop
        clear hop
        have hx1 := HI.out.x1
        have hxe := HI.out.xe
        have hf0 := HI.out.f0
        have hl16 := HI.out.len
        obtain ⟨hok, hsl⟩ := take_ok HI.out.fit HI.out.evs HI.out.len i hi
        have HOK := Lib.hid hok
        have HEV := Lib.hid (store_event B W.heap.size db D _ _ n f (f + i) (f + i) false wr HO.out.sd HF.out hf0 (by omega) (by omega) (by omega))
        clear hok
        by_cases hie : i < es.length
        · obtain ⟨e, he⟩ : ∃ e, es[i]? = some e := ⟨_, List.getElem?_eq_getElem hie⟩
          rw [HI.out.event tag_ok he] at HEV
          have hev := HI.out.evs e (List.mem_of_getElem? he)
          have HNX := Lib.hid (take_next ⟨sck, snx, sL⟩ he)
          have HA : Hid (∀ (w : World) (v : Value), FRow w B v ((es.take i).foldl applyS ⟨sck, snx, sL⟩).fams → Calls Tryz.prog 54 #[stVal ((es.take i).foldl applyS ⟨sck, snx, sL⟩) v, evVal e] w (GotAs w (applyS ((es.take i).foldl applyS ⟨sck, snx, sL⟩) e).clock (applyS ((es.take i).foldl applyS ⟨sck, snx, sL⟩) e).next (applyS ((es.take i).foldl applyS ⟨sck, snx, sL⟩) e).fams)) :=
            Lib.hid fun w v hr => (ev_apply _ v _ e w hr HOK.out (okN_one hev) (okN_two hev)).mono fun _ _ h => got_as h
          generalize applyS ((es.take i).foldl applyS ⟨sck, snx, sL⟩) e = s2 at *
          generalize (es.take i).foldl applyS ⟨sck, snx, sL⟩ = s1 at *
          obtain ⟨ck1, nx1, L1⟩ := s1
          obtain ⟨ck2, nx2, L2⟩ := s2
          unfold GotAs stVal stCs evVal evCs at HA
          clear he hev
          obtain ⟨kd, ⟨fi, cl, su, sc, ge, ma, us, re, de⟩, id, ti⟩ := e
          dsimp only at *
          obtain ⟨c0, c1, c2, c3, c4, c5, c6, c7, z, hlt⟩ := HO.out.sd.cells
          go_wp2_with fail
          go_at_call 53
          refine HEV.out.mono ?_
          rintro r w1 ⟨⟨e', b', rfl, rfl, rfl⟩, hb⟩
          have HO1 := Lib.hid (HO.out.keep hb)
          have HOE : Hid (OE W B db D ⟨ck1, nx1, L1⟩ (.slice wa L1.length wc) n f (f + i) w1.heap.size ⟨kd, ⟨fi, cl, su, sc, ge, ma, us, re, de⟩, id, ti⟩ (w1.alloc (.cells (evCs ⟨kd, ⟨fi, cl, su, sc, ge, ma, us, re, de⟩, id, ti⟩) 116))) := Lib.hid ⟨HO1.out.keep ((Below.refl _ _).alloc (Nat.le_refl _) _), Blk.new w1 _ _⟩
          unfold evVal
          unfold evCs at HOE ⊢
          dsimp only at HOE ⊢
          clear hb HEV c0 c1 c2 c3 c4 c5 c6 c7 z hlt
          go_wp2_with fail
          generalize w1.alloc (.cells #[.int .i64 kd, .int .i64 fi, .string cl, .string su, .string sc, .int .i64 ge, .int .i64 ma, .int .i64 us, .string re, .bool de, .int .i64 id, .int .i64 ti] 116) = w2 at *
          generalize w1.heap.size = g1 at *
          refine wp_region_tail (OE W B db D ⟨ck1, nx1, L1⟩ (.slice wa L1.length wc) n f (f + i) g1 ⟨kd, ⟨fi, cl, su, sc, ge, ma, us, re, de⟩, id, ti⟩) [9] (by kernel_rfl) ?_
          have HSD := HOE.out.drew
          refine wpAnyT_take 2 (i := 0) (v := ?v0) rfl (by kernel_rfl) (by kernel_rfl) (by kernel_rfl) (by kernel_rfl) (by kernel_rfl) (fun _ _ _ h => h) (by rfl) ?hy0 (by assumption) ?rest0
          case hy0 => (intro w hSw; obtain ⟨q1, q2, q3⟩ := hSw.three; obtain ⟨e0, e1, e2, e3, e4, e5, e6, e7, e8, e9, e10, e11⟩ := ev_cells hSw.ev; go_simp; (try with_reducible rfl))
          simp only [Act.put]
          refine wpAnyT_take 2 (i := 1) (v := ?v1) rfl (by kernel_rfl) (by kernel_rfl) (by kernel_rfl) (by kernel_rfl) (by kernel_rfl) (fun _ _ _ h => h) (by rfl) ?hy1 (by assumption) ?rest1
          case hy1 => (intro w hSw; obtain ⟨q1, q2, q3⟩ := hSw.three; obtain ⟨e0, e1, e2, e3, e4, e5, e6, e7, e8, e9, e10, e11⟩ := ev_cells hSw.ev; go_simp; (try with_reducible rfl))
          simp only [Act.put]
          refine wpAnyT_take 2 (i := 2) (v := ?v2) rfl (by kernel_rfl) (by kernel_rfl) (by kernel_rfl) (by kernel_rfl) (by kernel_rfl) (fun _ _ _ h => h) (by rfl) ?hy2 (by assumption) ?rest2
          case hy2 => (intro w hSw; obtain ⟨q1, q2, q3⟩ := hSw.three; obtain ⟨e0, e1, e2, e3, e4, e5, e6, e7, e8, e9, e10, e11⟩ := ev_cells hSw.ev; go_simp; (try with_reducible rfl))
          simp only [Act.put]
          refine wpAnyT_take 2 (i := 3) (v := ?v3) rfl (by kernel_rfl) (by kernel_rfl) (by kernel_rfl) (by kernel_rfl) (by kernel_rfl) (fun _ _ _ h => h) (by rfl) ?hy3 (by assumption) ?rest3
          case hy3 => (intro w hSw; obtain ⟨q1, q2, q3⟩ := hSw.three; obtain ⟨e0, e1, e2, e3, e4, e5, e6, e7, e8, e9, e10, e11⟩ := ev_cells hSw.ev; go_simp; (try with_reducible rfl))
          simp only [Act.put]
          refine wpAnyT_take 2 (i := 4) (v := ?v4) rfl (by kernel_rfl) (by kernel_rfl) (by kernel_rfl) (by kernel_rfl) (by kernel_rfl) (fun _ _ _ h => h) (by rfl) ?hy4 (by assumption) ?rest4
          case hy4 => (intro w hSw; obtain ⟨q1, q2, q3⟩ := hSw.three; obtain ⟨e0, e1, e2, e3, e4, e5, e6, e7, e8, e9, e10, e11⟩ := ev_cells hSw.ev; go_simp; (try with_reducible rfl))
          simp only [Act.put]
          refine wpAnyT_take 2 (i := 5) (v := ?v5) rfl (by kernel_rfl) (by kernel_rfl) (by kernel_rfl) (by kernel_rfl) (by kernel_rfl) (fun _ _ _ h => h) (by rfl) ?hy5 (by assumption) ?rest5
          case hy5 => (intro w hSw; obtain ⟨q1, q2, q3⟩ := hSw.three; obtain ⟨e0, e1, e2, e3, e4, e5, e6, e7, e8, e9, e10, e11⟩ := ev_cells hSw.ev; go_simp; (try with_reducible rfl))
          simp only [Act.put]
          refine wpAnyT_one (i := 6) (by kernel_rfl) rfl ?_
          intro K6 hK6
          go_simp
          go_at_call 54
          refine (HA.out _ _ HSD.op.sd.row).mono ?_
          rintro r w3 ⟨a1, ac, rfl, hr1, hb⟩
          have HSD3 := HSD.keep hb
          have hr3 := hr1.mono (B' := B) HSD.op.sd.big
          try dsimp only
          refine hK6.out _ _ (fun _ => HSD3) ?_
          try simp only [Act.put]
          refine wpAnyT_take 2 (i := 7) (v := ?v7) rfl (by kernel_rfl) (by kernel_rfl) (by kernel_rfl) (by kernel_rfl) (by kernel_rfl) (fun _ _ _ h => h) (by rfl) ?hy7 (by assumption) ?rest7
          case hy7 => (intro w hSw; go_simp; (try with_reducible rfl))
          simp only [Act.put]
          refine wpAnyT_take 2 (i := 8) (v := ?v8) rfl (by kernel_rfl) (by kernel_rfl) (by kernel_rfl) (by kernel_rfl) (by kernel_rfl) (fun _ _ _ h => h) (by rfl) ?hy8 (by assumption) ?rest8
          case hy8 => (intro w hSw; go_simp; (try with_reducible rfl))
          simp only [Act.put]
          obtain ⟨c0, c1, c2, c3, c4, c5, c6, c7, z, hlt⟩ := HSD3.op.sd.cells
          refine wpAnyT_one (i := 9) (by kernel_rfl) rfl ?_
          intro K9 hK9
          go_simp
          try dsimp only
          refine hK9.out _ _ (fun h => absurd h (by decide)) ?_
          refine wpAnyT_done (by kernel_rfl) ?_ _
          have HN := Lib.hid (HSD3.op.state ⟨ck2, nx2, L2⟩ hr3)
          dsimp only at HN
          clear HSD HSD3 HOE HO1 c0 c1 c2 c3 c4 c5 c6 c7 z hlt hr1 hr3 hb
          generalize ((w3.setCell ⟨W.heap.size, 1, none⟩ (.int .i64 ck2)).setCell ⟨W.heap.size, 2, none⟩ (.int .i64 nx2)).setCell ⟨W.heap.size, 3, none⟩ (.slice a1 L2.length ac) = w4 at *
          obtain ⟨c0, c1, c2, c3, c4, c5, c6, c7, z, hlt⟩ := HN.out.sd.cells
          have hc6 := HO.out.sd.cells.2.2.2.2.2.2.1
          have HZ := Lib.hid (HN.out.next (f + i + 1))
          have hz6 := HZ.out.sd.cells.2.2.2.2.2.2.1
          go_wp2_with fail
          refine ⟨?_, ?measure⟩
          · repeat apply Exists.intro
            refine ⟨?rel, rfl⟩
            case rel =>
              refine ⟨i + 1, .slice a1 L2.length ac, by omega, ?_⟩
              rw [HNX.out]
              have e1 : f + ((i + 1 : Nat) : Int) = f + i + 1 := by omega
              rw [e1]
              exact HZ.out
          case measure =>
            rw [hc6, hz6]
            simp [intOf]
            omega
        · obtain rfl : i = es.length := by omega
          have hex : f + (es.length : Int) = x := by omega
          rw [hex] at HEV HO
          rw [HI.out.stop tag_ok] at HEV
          rw [List.take_length] at HO
          clear hex hxe
          generalize hs1 : es.foldl applyS ⟨sck, snx, sL⟩ = s1 at *
          obtain ⟨ck1, nx1, L1⟩ := s1
          obtain ⟨c0, c1, c2, c3, c4, c5, c6, c7, z, hlt⟩ := HO.out.sd.cells
          go_wp2_with fail
          go_at_call 53
          refine HEV.out.mono ?_
          rintro r w1 ⟨⟨e', b', rfl, rfl⟩, hb⟩
          obtain ⟨kd, ⟨fi, cl, su, sc, ge, ma, us, re, de⟩, id, ti⟩ := e'
          have HO1 := Lib.hid (HO.out.keep hb)
          have HO2 := Lib.hid (HO1.out.keep ((Below.refl _ _).alloc (Nat.le_refl _) (.cells (evCs ⟨kd, ⟨fi, cl, su, sc, ge, ma, us, re, de⟩, id, ti⟩) 116)))
          unfold evVal
          unfold evCs at HO2 ⊢
          dsimp only at HO2 ⊢
          go_wp2_with fail
          go_ret2
          exact ⟨W.heap.size, _, rfl, HO2.out.sd, Nat.le_refl _, HO2.out.below⟩
end Go.Proofs.YtepjcdjpikbbjaaGreatDoor

/-
  store.Store's Save: the slot that is not in force is written, its head last.
-/
namespace Go.Proofs.YtepjcdjpikbbjaaGreatDoor
open Go.RowKit Go.Sort

/-- what Save gives -/
def SaveGot (at_ : Nat) (W : World) (B sb db : Nat) (D : Dk) (s : St) (v : Value) (n f x : Int) (e : Ending) (w' : World) : Prop :=
  ∃ (ok : Bool) (D' : Dk), SaveOut D at_ s.fams (txt (headL tagL (n + 1) x s)) D' ok ∧ Two sb db W w' ∧
    ((ok = true ∧ e = .returned .nilIface ∧ SD B sb db D' s v (n + 1) x x false w') ∨ (ok = false ∧ e = .returned (.iface 57 (.int .i64 14)) ∧ SD B sb db D' s v n f x true w'))
def SvRel (at_ : Nat) (W : World) (B sb db : Nat) (D : Dk) (s : St) (v : Value) (n f x : Int) (all i : Value) (w : World) : Prop :=
  ∃ m : Nat, m ≤ s.fams.length ∧ i = .int .i64 m ∧ all = .string (txt (allL (s.fams.take m))) ∧ SD B sb db (famD D at_ s.fams m) s v n f x false w ∧ Two sb db W w ∧ ∀ j, j < m → offB (famD D at_ s.fams j) = false
def NumRel (W : World) (g : Nat) (L : List Int) (out i : Value) (wr : World) : Prop := ∃ k : Nat, k ≤ L.length ∧ i = .int .i64 k ∧ TN W g L k out wr
theorem nums_ok {ck nx n x : Int} {L : List Fam} (h : Fit ⟨ck, nx, L⟩) (h0 : 0 ≤ n) (h1 : n < 1000000) (h2 : 0 ≤ x) (h3 : x ≤ 1000000) : ∀ y ∈ [n + 1, x, ck, nx, (L.length : Int)], okM y = true := by
  intro y hy
  have hl : L.length ≤ 20 := h.len
  simp only [List.mem_cons, List.not_mem_nil, or_false] at hy
  rcases hy with rfl | rfl | rfl | rfl | rfl
  · exact okM_iff.2 (by omega)
  · exact okM_iff.2 (by omega)
  · exact okN_M h.clock
  · exact h.next
  · exact okM_iff.2 (by omega)
theorem Two.of_drew {a b : Nat} (w : World) : Two a b w w.drew := ⟨rfl, rfl, rfl, Nat.le_refl _, fun _ _ _ _ => rfl⟩
theorem head_len {n f : Int} {s : St} (h : Fit s) (hn : okM n = true) (hf : okM f = true) : (glue 32 (headW tagL n f s (allL s.fams))).length ≤ 200 ∧ (headL tagL n f s).length ≤ 240 := by
  have hl := h.len
  have a := itoaM_len hn
  have b := itoaM_len hf
  have c := itoaM_len (okN_M h.clock)
  have d := itoaM_len h.next
  have e := itoaM_len (x := (s.fams.length : Int)) (okM_iff.2 (by omega))
  have t := tag_ok.len 1 (allL s.fams)
  have g := glue_sum 32 (headW tagL n f s (allL s.fams))
  simp only [headW, List.map_cons, List.map_nil, List.sum_cons, List.sum_nil] at g
  refine ⟨by unfold headW; omega, ?_⟩
  unfold headL
  rw [sealL_len]
  unfold headW
  omega
theorem off_iff {D : Dk} (h : offB D = true) : D.cut = true ∧ D.left = 0 := by
  unfold offB at h
  simpa using h
theorem all_next {L : List Fam} {m : Nat} {f : Fam} (h : L[m]? = some f) : allL (L.take (m + 1)) = allL (L.take m) ++ (evL (putEv f) ++ [10]) := by
  rw [List.take_add_one, h, Option.toList_some, allL_snoc, List.append_assoc]
theorem all_len {L : List Fam} (h : ∀ f ∈ L, famB f = true) : (allL L).length ≤ 181 * L.length := by
  induction L with
  | nil => simp [allL]
  | cons f L ih =>
    have h1 := evL_len (putEv_may (h f (List.mem_cons_self ..)))
    have h2 := ih fun g hg => h g (List.mem_cons_of_mem _ hg)
    have e : allL (f :: L) = (evL (putEv f) ++ [10]) ++ allL L := rfl
    rw [e, List.length_append, List.length_append, List.length_cons, List.length_cons]
    simp only [List.length_nil]
    omega
set_option maxHeartbeats 16000000 in
set_option maxRecDepth 100000 in
theorem store_save (B sb db : Nat) (D : Dk) (s : St) (v : Value) (n f x : Int) (W : World) (h : SD B sb db D s v n f x false W) (hf : D.fits) (hfit : Fit s) (h0 : 0 ≤ n) (h1 : n < 1000000) (h2 : 0 ≤ x) (h3 : x ≤ 1000000) :
    Calls Tryz.prog 132 #[.pointer (some ⟨sb, 0, none⟩)] W (SaveGot (slotAt ((n + 1) % 2).toNat) W B sb db D s v n f x) := by
  obtain ⟨i0, hii, hz0, hz1, hz2⟩ := info_parts strInfo
  have hL := hfit.len
  have htop := slot_top (n + 1)
  have HSL := Lib.hid (fun w => store_slot (n + 1) w (by omega) (by omega))
  have HF := Lib.hid hf
  have HI := Lib.hid hfit
  have H0 : Hid (SvRel (slotAt ((n + 1) % 2).toNat) W B sb db D s v n f x (.string ⟨#[]⟩) (.int .i64 0) W) := Lib.hid ⟨0, Nat.zero_le _, rfl, rfl, h, Two.refl _ _ _, fun j hj => absurd hj (Nat.not_lt_zero _)⟩
  obtain ⟨sa, sc, rfl⟩ := h.row.slice
  obtain ⟨ck, nx, L⟩ := s
  dsimp only at *
  obtain ⟨c0, c1, c2, c3, c4, c5, c6, c7, z, hlt⟩ := h.cells
  have hn1 : wrap64 (n + 1) = n + 1 := IntWalk.wrap64_in _ (by omega)
  clear h hf hfit
  generalize slotAt ((n + 1) % 2).toNat = at_ at *
  go_enter Tryz.func132, Tryz.ntmps132
  go_wp2_with fail
  go_at_call 103
  refine (HSL.out _).mono ?_
  rintro e w1 ⟨rfl, rfl⟩
  go_wp2_with fail
  go_loopw [5, 33] (fun all i wr => SvRel at_ W B sb db D ⟨ck, nx, L⟩ (.slice sa L.length sc) n f x all i wr) (fun _ i _ => L.length - (intOf i).toNat)
  case atStart => exact H0.out
  case round =>
    obtain ⟨m, hm, rfl, rfl, hsd, htw, hon⟩ := hrel
    have HS := Lib.hid hsd
    have HT := Lib.hid htw
    have HN := Lib.hid hon
    dsimp only at hm HS HN
    clear hsd htw hon c0 c1 c2 c3 c4 c5 c6 c7 z hlt
    obtain ⟨c0, c1, c2, c3, c4, c5, c6, c7, z, hlt⟩ := HS.out.cells
    have hal := all_len (L := L.take m) (fun f hf => HI.out.fams f (List.mem_of_mem_take hf))
    have htk : (L.take m).length ≤ 20 := by rw [List.length_take]; omega
    have hz : (txt (allL (L.take m))).size ≤ 4000 := by rw [txt_size_]; omega
    by_cases hlt2 : m < L.length
    · obtain ⟨g, rfl, _, rs⟩ := HS.out.row.lit hlt2
      obtain ⟨fm, hfm⟩ : ∃ fm, L[m]? = some fm := ⟨_, List.getElem?_eq_getElem hlt2⟩
      have hfB := HI.out.fams fm (List.mem_of_getElem? hfm)
      have HW := Lib.hid (fun w (hw : WB w w) => ev_write_yes (putEv fm) w (fam_short hfB) hw (putEv_may hfB))
      have hll := evL_len (putEv_may hfB)
      have hxs : (txt (evL (putEv fm))).size ≤ 180 := by rw [txt_size_]; exact hll
      have HAN := Lib.hid (all_next hfm)
      have hfd : famD D at_ L (m + 1) = (famD D at_ L m).put (at_ + 1 + m) (txt (evL (putEv fm))) := by
        rw [famD, List.getD_eq_getElem?_getD, hfm]
        rfl
      have HFD := Lib.hid hfd
      have hap : txt (allL (L.take m)) ++ (txt (evL (putEv fm)) ++ ⟨#[10]⟩) = txt (allL (L.take (m + 1))) := by
        rw [HAN.out, ← txt_app, ← txt_app]
        rfl
      have HAP := Lib.hid hap
      have hat : ((at_ + 1 + m : Nat) : Int) = (at_ : Int) + 1 + (m : Int) := by omega
      have HFM := Lib.hid (show Below wr.heap.size wr (wr.alloc (.cells (famCs fm) 95)) from (Below.refl _ _).alloc (Nat.le_refl _) _)
      generalize txt (evL (putEv fm)) = xl at *
      clear hap hfd hal HAN hll
      have HON := Lib.hid (fun w hd h => disk_write db (famD D at_ L m) (at_ + 1 + m) xl w hd (by omega) (by omega) h)
      have HOF := Lib.hid (fun w hd h1 h2 => disk_write_off db (famD D at_ L m) ((at_ + 1 + m : Nat) : Int) xl w hd (by omega) (by omega) (by omega) h1 h2)
      rw [hat] at HON HOF
      unfold putEv at HW
      obtain ⟨i, cl, su, sc', ge, ma, us, re, de⟩ := fm
      obtain ⟨d0, d1, d2, d3, d4, d5, d6, d7, d8⟩ := rs.nine hfm
      unfold evVal evCs at HW
      unfold famCs at HFM
      dsimp only at HW HFM
      clear rs hfm hfB hat
      go_wp2_with fail
      have HS1 := Lib.hid (HS.out.keep HFM.out)
      have HT1 := Lib.hid (HT.out.trans (Two.of_below HFM.out))
      go_at_call 186
      refine (HW.out _ HS1.out.env.wb).mono ?_
      rintro e w2 ⟨rfl, hb⟩
      have HS2 := Lib.hid (HS1.out.keep hb)
      have HT2 := Lib.hid (HT1.out.trans (Two.of_below hb))
      clear hb HS1 HT1 HW HFM c0 c1 c2 c3 c4 c5 c6 c7 z hlt d0 d1 d2 d3 d4 d5 d6 d7 d8
      obtain ⟨c0, c1, c2, c3, c4, c5, c6, c7, z, hlt⟩ := HS2.out.cells
      go_wp2_with fail
      go_at_call 187
      rcases hoff : offB (famD D at_ L m) with _ | _
      · refine (HON.out _ HS2.out.disk hoff).mono ?_
        rintro e w3 ⟨rfl, hd, hg⟩
        have HS3 := Lib.hid (HS2.out.wrote hd hg)
        have HT3 := Lib.hid (HT2.out.trans (Two.of_two hg))
        have HOO := Lib.hid hoff
        clear hd hg HS2 HT2 HON HOF hoff c0 c1 c2 c3 c4 c5 c6 c7 z hlt
        go_wp2_with fail
        refine ⟨⟨m + 1, by show m + 1 ≤ L.length; omega, by go_num, by rw [HAP.out], by rw [HFD.out]; exact HS3.out, HT3.out, fun j hj => ?_⟩, by simp [intOf]; omega⟩
        rcases Nat.lt_or_ge j m with hjm | hjm
        · exact HN.out j hjm
        · obtain rfl : j = m := by omega
          exact HOO.out
      · obtain ⟨q1, q2⟩ := off_iff hoff
        refine (HOF.out _ HS2.out.disk q1 q2).mono ?_
        rintro e w3 ⟨rfl, rfl⟩
        have HOO := Lib.hid hoff
        clear HON HOF hoff q1 q2
        go_wp2_with fail
        refine (store_fail sb db ⟨ck, nx, L⟩ _ n f x false _ HS2.out.st).mono ?_
        rintro e w4 ⟨rfl, hs4, hg4⟩
        have HS4 := Lib.hid (HS2.out.noted hs4 hg4)
        have HT4 := Lib.hid (HT2.out.trans (Two.of_one hg4))
        clear hs4 hg4
        go_wp2_with fail
        go_ret
        exact ⟨false, _, .inr ⟨rfl, m, hm, HN.out, HOO.out, rfl⟩, HT4.out, .inr ⟨rfl, rfl, HS4.out⟩⟩
    · obtain rfl : m = L.length := by omega
      rw [List.take_length] at hz ⊢
      have HSD := HS.out.drew
      have HB5 := Lib.hid (show Below wr.drew.heap.size wr.drew (wr.drew.alloc (.cells #[.int .i64 (n + 1), .int .i64 x, .int .i64 ck, .int .i64 nx, .int .i64 (L.length : Int)] 3)) from (Below.refl _ _).alloc (Nat.le_refl _) _)
      have HC := SD.four HSD
      have HC5 := SD.four (HSD.keep HB5.out)
      go_wp2_with fail
      go_region_held3 (fun w' => w'.cell? ⟨sb, 1, none⟩ = some (.int .i64 ck) ∧ w'.cell? ⟨sb, 2, none⟩ = some (.int .i64 nx) ∧ w'.cell? ⟨sb, 3, none⟩ = some (.slice sa L.length sc) ∧ w'.cell? ⟨sb, 6, none⟩ = some (.int .i64 x))
        (first
          | with_reducible assumption
          | with_reducible exact HC
          | with_reducible exact HC5
          | exact HC5)
        (fail)
      have HW5 := Lib.hid (show Below wr.heap.size wr (wr.alloc (.cells #[.int .i64 (n + 1), .int .i64 x, .int .i64 ck, .int .i64 nx, .int .i64 (L.length : Int)] 3)) from (Below.refl _ _).alloc (Nat.le_refl _) _)
      have HSD5 : Hid (SD B sb db (famD D at_ L L.length) ⟨ck, nx, L⟩ (.slice sa L.length sc) n f x false (wr.alloc (.cells #[.int .i64 (n + 1), .int .i64 x, .int .i64 ck, .int .i64 nx, .int .i64 (L.length : Int)] 3)).drew) := Lib.hid (HS.out.keep HW5.out).drew
      have HT5 : Hid (Two sb db W (wr.alloc (.cells #[.int .i64 (n + 1), .int .i64 x, .int .i64 ck, .int .i64 nx, .int .i64 (L.length : Int)] 3)).drew) := Lib.hid ((HT.out.trans (Two.of_below HW5.out)).trans (Two.of_drew _))
      have HI6 : Hid (IntsAt (wr.alloc (.cells #[.int .i64 (n + 1), .int .i64 x, .int .i64 ck, .int .i64 nx, .int .i64 (L.length : Int)] 3)).drew wr.heap.size [n + 1, x, ck, nx, (L.length : Int)]) := Lib.hid (ints_new wr 3 [n + 1, x, ck, nx, (L.length : Int)])
      have HNN : Hid (∀ y ∈ [n + 1, x, ck, nx, (L.length : Int)], okM y = true) := Lib.hid (nums_ok HI.out h0 h1 h2 h3)
      clear HSD HB5 HC HC5 HS HT HW5 c0 c1 c2 c3 c4 c5 c6 c7 z hlt
      have hl5 : [n + 1, x, ck, nx, (L.length : Int)].length = 5 := rfl
      go_wp2_with fail
      generalize (wr.alloc (.cells #[.int .i64 (n + 1), .int .i64 x, .int .i64 ck, .int .i64 nx, .int .i64 (L.length : Int)] 3)).drew = w5 at *
      generalize wr.heap.size = g5 at *
      go_loopw [11, 87] (fun out i wr' => NumRel w5 g5 [n + 1, x, ck, nx, (L.length : Int)] out i wr') (fun _ i _ => 5 - (intOf i).toNat)
      case atStart => exact ⟨0, Nat.zero_le _, rfl, TN.start HI6.out⟩
      case round =>
        obtain ⟨k, hk, rfl, ht⟩ := hrel
        have HTN := Lib.hid ht
        clear ht
        generalize hL5 : [n + 1, x, ck, nx, (L.length : Int)] = L5 at *
        have HL5 := Lib.hid hL5
        clear hL5
        by_cases hlt5 : k < 5
        · have hc := HTN.out.ints k (by omega)
          have hok : okM (L5.getD k 0) = true := HNN.out _ (by rw [List.getD_eq_getElem?_getD, List.getElem?_eq_getElem (by omega)]; exact List.getElem_mem (by omega))
          have HX := Lib.hid (show encStr (Lib.itoa (L5.getD k 0)) = .string (itoS (L5.getD k 0)) from rfl)
          generalize hx : L5.getD k 0 = xk at *
          have HXX := Lib.hid hx
          have HIT := Lib.hid (fun w hT => itoaM_c xk hok w hT)
          clear hx hok
          generalize itoS xk = y at *
          go_wp2_with fail
          go_at_call 26
          refine (HIT.out _ (HSD5.out.keep HTN.out.below).env.tens).mono ?_
          rintro e w6 ⟨rfl, hb⟩
          have HT1 := Lib.hid (HTN.out.call hb)
          have hrow := HT1.out.row
          have hB2 := HT1.out.below.size
          clear hb hc
          go_wp2_with
            (at_builtin; refine wpList_append_own _ rfl _ _ 34 rfl w5.heap.size 9 i0 (.string ByteArray.empty) 1 16 Tryz.underlying34 hii hz0 hz1 hz2 rfl (by decide) _ _ _ rfl (hrow.alloc _) ⟨w6.heap.size, 0, none⟩ 1 1 [.string y] rfl rfl (cell_one_new _ _ _) (fun x hx => by simp at hx; subst hx; rfl) (by unfold maxLen; omega) (by omega) (by simp; omega) ?_; intro v' w7 hown hgrow hnil
             have HO := Lib.hid hown
             have HG := Lib.hid hgrow
             clear hown hgrow hnil hrow)
          go_roundw
          case rel => exact ⟨k + 1, by omega, by go_num, TN.next HI6.out HT1.out (by omega) (by rw [HXX.out]; exact HX.out.symm) HO.out HG.out⟩
          case measure => simp [intOf]; omega
        · obtain rfl : k = 5 := by omega
          have hrow := HTN.out.row
          rw [List.take_of_length_le (by omega)] at hrow
          have hb0 := HTN.out.below
          have HC0 := SD.one (HSD5.out.keep hb0).drew
          have HTG := Lib.hid (fun w => mac_tag 1 (txt (allL L)) w (by omega))
          rw [data_txt] at HTG
          have hgs : (⟨(tagL 1 (allL L)).toArray⟩ : ByteArray) = txt (tagL 1 (allL L)) := rfl
          rw [hgs] at HTG
          have hwl := head_len (n := n + 1) (f := x) (s := ⟨ck, nx, L⟩) HI.out (okM_iff.2 (by omega)) (okM_iff.2 (by omega))
          have hwds : L5.map (fun x => encStr (Lib.itoa x)) ++ [.string (txt (tagL 1 (allL L)))] = (headW tagL (n + 1) x ⟨ck, nx, L⟩ (allL L)).map encStr := by
            rw [← HL5.out]
            rfl
          have HWD := Lib.hid hwds
          have hsz5 := hb0.size
          clear hwds hgs
          have HROW : Hid (∀ (w8 : World) (g8 cap8 : Nat), w8.ownsRow w5.heap.size 9 1 (.slice (some ⟨g8, 0, none⟩) (5 + 1) cap8) (5 + 1) (L5.map (fun x => encStr (Lib.itoa x)) ++ [.string (txt (tagL 1 (allL L)))]) → Row w8 w5.heap.size (.slice (some ⟨g8, 0, none⟩) (5 + 1) cap8) (headW tagL (n + 1) x ⟨ck, nx, L⟩ (allL L))) := Lib.hid (fun w8 g8 cap8 ho => by
            rw [HWD.out] at ho
            exact row_of_owns ho (by simp [headW]))
          have HSE := Lib.hid (fun w v h => store_sealed w5.heap.size v (headW tagL (n + 1) x ⟨ck, nx, L⟩ (allL L)) w h (by simp [headW]) (by have := hwl.1; exact Nat.le_trans this (by decide)))
          have hhd : txt (sealL tagL (glue 32 (headW tagL (n + 1) x ⟨ck, nx, L⟩ (allL L)))) = txt (headL tagL (n + 1) x ⟨ck, nx, L⟩) := rfl
          rw [hhd] at HSE
          have hhs : (txt (headL tagL (n + 1) x ⟨ck, nx, L⟩)).size ≤ 240 := by rw [txt_size_]; exact hwl.2
          have hbd : Below w5.heap.size w5 wr.drew := ⟨hb0.os, hb0.tape, hb0.output, hb0.size, hb0.block⟩
          have hrd : wr.drew.ownsRow w5.heap.size 9 1 u11 5 (L5.map (fun x => encStr (Lib.itoa x))) := hrow
          clear hhd hwl HWD
          generalize (headW tagL (n + 1) x ⟨ck, nx, L⟩ (allL L)) = words at *
          generalize hgt : txt (tagL 1 (allL L)) = tg at *
          generalize txt (allL L) = al at *
          generalize hhe : txt (headL tagL (n + 1) x ⟨ck, nx, L⟩) = hd at HSE hhs
          have HHD := Lib.hid hhe
          clear hhe
          rcases hoff : offB (famD D at_ L L.length) with _ | _
          · have HWR := Lib.hid (fun w h => disk_write db (famD D at_ L L.length) at_ hd w h (by omega) hhs hoff)
            have HOO := Lib.hid hoff
            clear hoff hhs
            go_wp2_with fail
            go_region_held3 (fun w' => w'.cell? ⟨sb, 0, none⟩ = some (.pointer (some ⟨db, 0, none⟩)))
              (first
                | with_reducible assumption
                | with_reducible exact HC0
                | with_reducible exact SD.one (SD.keep HSD5.out hb9)
                | with_reducible exact SD.one (SD.keep HSD5.out hb8)
                | with_reducible exact SD.one (SD.keep HSD5.out hba)
                | with_reducible exact SD.one (SD.keep HSD5.out hbt)
                | with_reducible exact SD.one hs10)
              (first
                | (go_at_call 107; with_reducible refine (HTG.out _).mono ?_; rintro e wt ⟨rfl, hb⟩
                   have hbt := below_2 hbd hb
                   have hrt := nums_below hrd hb
                   have hba := Below.alloc hbt hbt.size (.cells #[.string tg] 9)
                   have hra := hrt.alloc (.cells #[.string tg] 9)
                   have hza := hba.size)
                | (refine step_append_lies _ rfl _ _ 34 rfl w5.heap.size 9 i0 (.string ByteArray.empty) 1 16 Tryz.underlying34 hii hz0 hz1 hz2 rfl (by decide) _ _ _ rfl hra ⟨wt.heap.size, 0, none⟩ 1 1 [.string tg] rfl rfl (cell_one_new _ _ _) (fun x hx => by simp at hx; subst hx; rfl) (by decide) (by unfold maxLen; omega) (by omega) hza _ rfl ?_; intro g8 cap8 w8 hown hgrow hat8 hlt8
                   have hr8 := HROW.out w8 g8 cap8 hown
                   have hb8 := Below.grown hba hgrow hba.size (fun i e => (World.ownsRow.lt hra i e).1)
                   clear hown hgrow hat8 hlt8)
                | (go_at_call 189; with_reducible refine (HSE.out _ _ hr8).mono ?_; rintro e w9 ⟨rfl, hb⟩
                   have hb9 := below_2 hb8 hb)
                | (go_at_call 187; with_reducible refine (HWR.out _ (SD.disk (SD.keep HSD5.out hb9))).mono ?_; rintro e w10 ⟨rfl, hd10, hg10⟩
                   have hs10 := SD.wrote (SD.keep HSD5.out hb9) hd10 hg10))
            have HS10 := Lib.hid hs10
            have HT10 := Lib.hid ((HT5.out.trans (Two.of_below hb9)).trans (Two.of_two hg10))
            obtain ⟨c0, c1, c2, c3, c4, c5, c6, c7, z, hlt⟩ := HS10.out.cells
            clear hs10 hd10 hg10 hb9 hr8 hb8 hza hra hba hrt hbt hrd hbd hrow hb0 HC0 hsz5
            go_wp2_with fail
            go_ret
            obtain ⟨k1, k2⟩ := HS10.out.number (n + 1) x
            have e := HHD.out
            subst e
            refine ⟨true, _, .inl ⟨rfl, fun m hm => ?_, rfl⟩, HT10.out.trans (Two.of_one k2), .inl ⟨rfl, rfl, k1⟩⟩
            rcases Nat.lt_or_ge m L.length with hml | hml
            · exact HN.out m hml
            · obtain rfl : m = L.length := Nat.le_antisymm hm hml
              exact HOO.out
          · obtain ⟨q1, q2⟩ := off_iff hoff
            have HWR := Lib.hid (fun w h => disk_write_off db (famD D at_ L L.length) (at_ : Int) hd w h (by omega) (by omega) hhs q1 q2)
            have HOO := Lib.hid hoff
            clear hoff hhs q1 q2
            go_wp2_with fail
            go_region_held3 (fun w' => w'.cell? ⟨sb, 0, none⟩ = some (.pointer (some ⟨db, 0, none⟩)))
              (first
                | with_reducible assumption
                | with_reducible exact HC0
                | with_reducible exact SD.one (SD.keep HSD5.out hb9)
                | with_reducible exact SD.one (SD.keep HSD5.out hb8)
                | with_reducible exact SD.one (SD.keep HSD5.out hba)
                | with_reducible exact SD.one (SD.keep HSD5.out hbt))
              (first
                | (go_at_call 107; with_reducible refine (HTG.out _).mono ?_; rintro e wt ⟨rfl, hb⟩
                   have hbt := below_2 hbd hb
                   have hrt := nums_below hrd hb
                   have hba := Below.alloc hbt hbt.size (.cells #[.string tg] 9)
                   have hra := hrt.alloc (.cells #[.string tg] 9)
                   have hza := hba.size)
                | (refine step_append_lies _ rfl _ _ 34 rfl w5.heap.size 9 i0 (.string ByteArray.empty) 1 16 Tryz.underlying34 hii hz0 hz1 hz2 rfl (by decide) _ _ _ rfl hra ⟨wt.heap.size, 0, none⟩ 1 1 [.string tg] rfl rfl (cell_one_new _ _ _) (fun x hx => by simp at hx; subst hx; rfl) (by decide) (by unfold maxLen; omega) (by omega) hza _ rfl ?_; intro g8 cap8 w8 hown hgrow hat8 hlt8
                   have hr8 := HROW.out w8 g8 cap8 hown
                   have hb8 := Below.grown hba hgrow hba.size (fun i e => (World.ownsRow.lt hra i e).1)
                   clear hown hgrow hat8 hlt8)
                | (go_at_call 189; with_reducible refine (HSE.out _ _ hr8).mono ?_; rintro e w9 ⟨rfl, hb⟩
                   have hb9 := below_2 hb8 hb)
                | (go_at_call 187; with_reducible refine (HWR.out _ (SD.disk (SD.keep HSD5.out hb9))).mono ?_; rintro e w10 ⟨rfl, rfl⟩))
            have HS9 := Lib.hid (HSD5.out.keep hb9)
            have HT9 := Lib.hid (HT5.out.trans (Two.of_below hb9))
            clear hb9 hr8 hb8 hza hra hba hrt hbt hrd hbd hrow hb0 HC0 hsz5
            obtain ⟨c0, c1, c2, c3, c4, c5, c6, c7, z, hlt⟩ := HS9.out.cells
            go_wp2_with fail
            refine (store_fail sb db ⟨ck, nx, L⟩ _ n f x false _ HS9.out.st).mono ?_
            rintro e w11 ⟨rfl, hs4, hg4⟩
            have HS11 := Lib.hid (HS9.out.noted hs4 hg4)
            have HT11 := Lib.hid (HT9.out.trans (Two.of_one hg4))
            clear hs4 hg4
            go_wp2_with fail
            go_ret
            exact ⟨false, _, .inr ⟨rfl, L.length, Nat.le_refl _, HN.out, HOO.out, rfl⟩, HT11.out, .inr ⟨rfl, rfl, HS11.out⟩⟩
end Go.Proofs.YtepjcdjpikbbjaaGreatDoor
