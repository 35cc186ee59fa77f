/-
  store.Store's load: a slot of six words.
-/
import Derived.Test.YtepjcdjpikbbjaaGreatDoorP13
import Derived.Test.YtepjcdjpikbbjaaGreatDoorP15
import Derived.Test.YtepjcdjpikbbjaaGreatDoorP04
import Derived.Test.YtepjcdjpikbbjaaGreatDoorP12
namespace Go.Proofs.YtepjcdjpikbbjaaGreatDoor
open Go.RowKit Go.Sort

theorem loadInt : (Tryz.prog.info? 3).map (fun i => (i.zero, i.size, i.bytes)) = some (some (.int .i64 0), 1, 8) := by kernel_rfl
def LNum (W0 : World) (L : List (List UInt8)) (out i : Value) (w : World) : Prop := ∃ j : Nat, j ≤ 5 ∧ i = .int .i64 j ∧ LN W0 L j out w
/-- what the numbers and the tag have become, with the result's state -/
structure LB (W : World) (st : St) (u : Value) (gn : Nat) (a b : Int) (gw : Nat) (t : ByteArray) (w : World) : Prop where
  ld : LD W st u w
  n0 : w.cell? ⟨gn, 0, none⟩ = some (.int .i64 a)
  n1 : w.cell? ⟨gn, 1, none⟩ = some (.int .i64 b)
  w5 : w.cell? ⟨gw, 5, none⟩ = some (.string t)
  hn : W.heap.size < gn
  hw : W.heap.size < gw
section
variable {W w w' : World} {st : St} {u : Value} {gn gw : Nat} {a b : Int} {t : ByteArray}
theorem cell_kept {p : Addr} {v : Value} (h : w.cell? p = some v) (hb : Below w.heap.size w w') : w'.cell? p = some v := by
  rw [hb.cell (p := p) (World.block_lt_of_cell? w _ h)]
  exact h
theorem cell_past {p : Addr} {v : Value} {g : Nat} (h : w.cell? p = some v) (hg : w.grownBy w' (some g)) (hne : p.block ≠ g) : w'.cell? p = some v := by
  rw [World.cell?_of_block (w := w) (hg.block p.block (World.block_lt_of_cell? w _ h) (by simpa using hne))]
  exact h
theorem LB.keep (h : LB W st u gn a b gw t w) (hb : Below w.heap.size w w') : LB W st u gn a b gw t w' := ⟨h.ld.keep hb, cell_kept h.n0 hb, cell_kept h.n1 hb, cell_kept h.w5 hb, h.hn, h.hw⟩
theorem LB.three (h : LB W st u gn a b gw t w) : w.cell? ⟨gn, 0, none⟩ = some (.int .i64 a) ∧ w.cell? ⟨gn, 1, none⟩ = some (.int .i64 b) ∧ w.cell? ⟨gw, 5, none⟩ = some (.string t) := ⟨h.n0, h.n1, h.w5⟩
theorem LB.drew (h : LB W st u gn a b gw t w) : LB W st u gn a b gw t w.drew := ⟨h.ld.drew, h.n0, h.n1, h.w5, h.hn, h.hw⟩
theorem LB.put (h : LB W st u gn a b gw t w) (st' : St) {u' : Value} (hr : FRow w (W.heap.size + 1) u' st'.fams) :
    LB W st' u' gn a b gw t (((w.setCell ⟨W.heap.size, 0, none⟩ (.int .i64 st'.clock)).setCell ⟨W.heap.size, 1, none⟩ (.int .i64 st'.next)).setCell ⟨W.heap.size, 2, none⟩ u') := by
  obtain ⟨k, g⟩ := h.ld.put st' hr
  have h1 := h.hn
  have h2 := h.hw
  exact ⟨k, cell_past h.n0 g (by simp; omega), cell_past h.n1 g (by simp; omega), cell_past h.w5 g (by simp; omega), h1, h2⟩
end
/-- families read, one behind the other -/
def LF (W : World) (blk : Nat → List UInt8) (at_ : Nat) (s0 : St) (N : Nat) (gn : Nat) (a b : Int) (gw : Nat) (t : ByteArray) (all i : Value) (w : World) : Prop :=
  ∃ (m : Nat) (st : St) (u : Value) (al : List UInt8), m ≤ N ∧ i = .int .i64 m ∧ all = .string (txt al) ∧ famsR blk at_ s0 m = some (st, al) ∧ LB W st u gn a b gw t w
theorem numM_no {x : List UInt8} (h : atoiE x = false ∨ okM (atoiN x) = false) : numM x = false := by
  unfold numM
  rcases h with h | h <;> simp [h]
section
variable {tg : Int → List UInt8 → List UInt8} {blk : Nat → List UInt8} {k : Nat} {L : List (List UInt8)}
theorem five_not {j : Nat} (hj : j < 5) (hL : L.length = 6) (h : numM (L.getD j []) = false) : (L.take 5).all numM = false := by
  rw [Bool.eq_false_iff]
  intro ha
  have := List.all_eq_true.1 ha (L.getD j []) (by rw [List.getD_eq_getElem?_getD, List.getElem?_eq_getElem (by omega)]; exact List.mem_take_iff_getElem.2 ⟨j, by omega, rfl⟩)
  rw [h] at this
  cases this
theorem five_all (hL : L.length = 6) (h : ∀ j, j < 5 → numM (L.getD j []) = true) : (L.take 5).all numM = true := by
  rw [List.all_eq_true]
  intro x hx
  obtain ⟨j, hj, rfl⟩ := List.mem_take_iff_getElem.1 hx
  have := h j (by omega)
  rwa [List.getD_eq_getElem?_getD, List.getElem?_eq_getElem (by omega)] at this
theorem loadL_num {j : Nat} (hj : j < 5) (hL : L.length = 6) (h : numM (L.getD j []) = false) : loadL tg blk k L = none := by
  unfold loadL
  rw [five_not hj hL h]
  rfl
theorem loadL_many (h : 20 < atoiN (L.getD 4 [])) : loadL tg blk k L = none := by
  unfold loadL
  rw [decide_eq_false (by omega : ¬ atoiN (L.getD 4 []) ≤ 20), Bool.and_false]
  rfl
theorem loadL_fams (hf : famsR blk (slotAt k) ⟨atoiN (L.getD 2 []), atoiN (L.getD 3 []), []⟩ (atoiN (L.getD 4 [])).toNat = none) : loadL tg blk k L = none := by
  unfold loadL
  rw [hf]
  simp
theorem loadL_end (hL : L.length = 6) (h : ∀ j, j < 5 → numM (L.getD j []) = true) (h4 : atoiN (L.getD 4 []) ≤ 20) {st : St} {al : List UInt8} (hf : famsR blk (slotAt k) ⟨atoiN (L.getD 2 []), atoiN (L.getD 3 []), []⟩ (atoiN (L.getD 4 [])).toNat = some (st, al)) :
    loadL tg blk k L = if tg 1 al = L.getD 5 [] ∧ atoiN (L.getD 0 []) % 2 = (k : Int) then some (atoiN (L.getD 0 []), atoiN (L.getD 1 []), st) else none := by
  unfold loadL
  rw [five_all hL h, decide_eq_true h4, hf]
  rfl
end
set_option maxHeartbeats 40000000 in
set_option maxRecDepth 100000 in
theorem load_words (B sb db : Nat) (D : Dk) (s : St) (v : Value) (n f x : Int) (down : Bool) (W : World) (h : SD B sb db D s v n f x down W) (hf : D.fits) (k : Nat) (hk : k < 2) (l : List UInt8) (hol : openL tagL (blkOf D (slotAt k)) = some l) (hll : l.length ≤ 240) (hl6 : (parts 32 l).length = 6) :
    Calls Tryz.prog 52 #[.pointer (some ⟨sb, 0, none⟩), .int .i64 k] W (LoadGot W (loadL tagL (blkOf D) k (parts 32 l))) := by
  obtain ⟨i0, hii, hz0, hz1, hz2⟩ := info_parts loadInt
  have HS := Lib.hid h
  have H0 : Hid (LD W ⟨0, 0, []⟩ (.slice none 0 0) (W.alloc (.cells (stCs ⟨0, 0, []⟩ (.slice none 0 0)) 83))) := Lib.hid LD.start
  have HSL := Lib.hid (fun w => store_slot (k : Int) w (by omega) (by omega))
  rw [slot_k] at HSL
  have htop := slot_k_top k
  have HRD := Lib.hid (fun w hd => disk_read db D (slotAt k) w hd (by omega))
  have HOP := Lib.hid (fun w => store_opened (D.blk.getD (slotAt k) ByteArray.empty) w (by have := hf (slotAt k); omega))
  have HOP : Hid (∀ w, Calls Tryz.prog 105 #[.string (D.blk.getD (slotAt k) ByteArray.empty)] w fun e w' => e = .returned (.tuple #[.string (txt l), .bool true]) ∧ Below w.heap.size w w') := Lib.hid fun w => by
    have h1 := HOP.out w
    have h2 : openL tagL (D.blk.getD (slotAt k) ByteArray.empty).data.toList = some l := hol
    rw [h2] at h1
    refine h1.mono ?_
    rintro e w' ⟨⟨x2, b2, rfl, rfl, rfl⟩, hb⟩
    exact ⟨rfl, hb⟩
  have HSP := Lib.hid (fun w hm => split_row 32 (txt l) w.heap.size w (by rw [txt_size_]; omega) hm (Nat.le_refl _))
  rw [data_txt] at HSP
  have HWL := Lib.hid (parts_word_len 32 l 240 hll)
  generalize parts 32 l = L at *
  generalize txt l = tl at *
  generalize hblk : D.blk.getD (slotAt k) ByteArray.empty = blk at HOP HRD
  obtain ⟨ck, nx, Ls⟩ := s
  obtain ⟨c0, c1, c2, c3, c4, c5, c6, c7, z, hlt⟩ := h.cells
  have HF := Lib.hid hf
  clear h hol hf hblk
  unfold stCs at H0
  dsimp only at H0
  go_enter Tryz.func52, Tryz.ntmps52
  go_wp2_with fail
  go_at_call 103
  refine (HSL.out _).mono ?_
  rintro e w1 ⟨rfl, rfl⟩
  go_wp2_with fail
  refine (HRD.out _ (HS.out.keep H0.out.below).disk).mono ?_
  rintro e w2 ⟨rfl, rfl⟩
  go_wp2_with fail
  go_at_call 105
  refine (HOP.out _).mono ?_
  rintro e w3 ⟨rfl, hb⟩
  have H3 := Lib.hid (H0.out.keep hb)
  clear hb
  go_wp2_with fail
  go_at_call 13
  refine (HSP.out _ (HS.out.keep H3.out.below).env.maxl).mono ?_
  rintro e w4 ⟨v4, rfl, hrow, hb⟩
  obtain ⟨g4, c4', rfl, hg4, hg4', hc4, hc4', -⟩ := hrow.parts
  have H4 := Lib.hid (H3.out.keep hb)
  have HW6 : Hid (∀ w, Below w4.heap.size w4 w → ∀ j, j < 6 → w.cell? ⟨g4, j, none⟩ = some (.string (txt (L.getD j [])))) := Lib.hid fun w hb j hj => (hrow.below hb).cell j (by omega)
  have hg40 : W.heap.size < g4 := Nat.lt_of_lt_of_le H3.out.cells.2.2.2.2 hg4
  have hN := Lib.hid (LN.start w4 L)
  clear hb H3 H0 hrow c0 c1 c2 c3 c4 c5 c6 c7 z hlt HSP HOP HSL
  rw [hl6] at hc4 ⊢
  go_wp2_with fail
  go_loopw [13, 53] (fun out i wr => LNum w4 L out i wr) (fun _ i _ => 5 - (intOf i).toNat)
  case atStart => exact ⟨0, Nat.zero_le _, rfl, hN.out⟩
  case round =>
    obtain ⟨j, hj, rfl, hln⟩ := hrel
    have HLN := Lib.hid hln
    clear hln
    by_cases hj5 : j < 5
    · have hc := HW6.out wr HLN.out.below j (by omega)
      have hws : (txt (L.getD j [])).size ≤ 240 := by rw [txt_size_]; exact HWL.out _ (by rw [List.getD_eq_getElem?_getD, List.getElem?_eq_getElem (by omega)]; exact List.getElem_mem (by omega))
      rcases hE : atoiE (L.getD j []) with _ | _
      · have HA := Lib.hid (fun w hv => atoi_no (txt (L.getD j [])) w (by omega) hv (by rw [data_txt]; exact hE))
        have hbad := loadL_num (tg := tagL) (blk := blkOf D) (k := k) hj5 hl6 (numM_no (.inl hE))
        generalize txt (L.getD j []) = word at *
        go_wp2_with fail
        go_at_call 51
        refine (HA.out _ (HS.out.keep (H4.out.keep HLN.out.below).below).env.errs).mono ?_
        rintro e w5 ⟨⟨te, pe, rfl⟩, hb⟩
        have H5 := Lib.hid ((H4.out.keep HLN.out.below).keep hb)
        clear hb hc
        obtain ⟨m0, m1, m2, mz, mlt⟩ := H5.out.cells
        go_wp2_with fail
        go_region
        go_wp2_with fail
        exact load_end (LD.same H5.out).drew (by rw [hbad]) rfl rfl rfl rfl rfl
      · have HA := Lib.hid (fun w => atoi_yes (txt (L.getD j [])) w (by omega) (by rw [data_txt]; exact hE))
        rw [data_txt] at HA
        rcases hM : okM (atoiN (L.getD j [])) with _ | _
        · have hbad := loadL_num (tg := tagL) (blk := blkOf D) (k := k) hj5 hl6 (numM_no (.inr hM))
          have hm2 : atoiN (L.getD j []) < 0 ∨ 1099511627777 < atoiN (L.getD j []) := by
            unfold okM at hM
            rw [Bool.and_eq_false_iff, decide_eq_false_iff_not, decide_eq_false_iff_not] at hM
            omega
          clear hM
          generalize atoiN (L.getD j []) = xj at *
          generalize txt (L.getD j []) = word at *
          go_wp2_with fail
          go_at_call 51
          refine (HA.out _).mono ?_
          rintro e w5 ⟨rfl, hb⟩
          have H5 := Lib.hid ((H4.out.keep HLN.out.below).keep hb)
          clear hb hc
          obtain ⟨m0, m1, m2, mz, mlt⟩ := H5.out.cells
          rcases hm2 with hm2 | hm2
          all_goals
            go_wp2_with fail
            go_region
            go_wp2_with fail
            exact load_end (LD.same H5.out).drew (by rw [hbad]) rfl rfl rfl rfl rfl
        · have HNM : Hid (numM (L.getD j []) = true) := Lib.hid (by unfold numM; rw [hE, hM]; rfl)
          have hM' := okM_iff.1 hM
          clear hM
          generalize hxj : atoiN (L.getD j []) = xj at *
          have HXJ := Lib.hid hxj
          clear hxj
          generalize txt (L.getD j []) = word at *
          go_wp2_with fail
          go_at_call 51
          refine (HA.out _).mono ?_
          rintro e w5 ⟨rfl, hb⟩
          have HT1 := Lib.hid (HLN.out.call hb)
          have hrow := HT1.out.row
          have hB2 := HT1.out.below.size
          clear hb hc
          go_wp2_with
            (at_builtin; refine wpList_append_own _ rfl _ _ 88 rfl w4.heap.size 3 i0 (.int .i64 0) 1 8 Tryz.underlying88 hii hz0 hz1 hz2 rfl (by decide) _ _ _ rfl (hrow.alloc _) ⟨w5.heap.size, 0, none⟩ 1 1 [.int .i64 xj] rfl rfl (cell_one_new _ _ _) (fun x hx => by simp at hx; subst hx; rfl) (by unfold maxLen; omega) (by omega) (by simp; omega) ?_; intro v' w7 hown hgrow hnil
             have HO := Lib.hid hown
             have HG := Lib.hid hgrow
             clear hown hgrow hnil hrow)
          go_roundw
          case rel => exact ⟨j + 1, by omega, by go_num, LN.next HT1.out (by omega) HNM.out (by rw [HXJ.out]) HO.out HG.out⟩
          case measure => simp [intOf]; omega
    · obtain rfl : j = 5 := by omega
      obtain ⟨gn, cn, rfl, hcn, hgn, hgn', n0, n1, n2, n3, n4⟩ := HLN.out.five hl6
      have HNU := Lib.hid HLN.out.nums
      have H5 := Lib.hid (H4.out.keep HLN.out.below)
      have hw5 := HW6.out wr HLN.out.below 5 (by omega)
      have hgn0 : W.heap.size < gn := Nat.lt_of_lt_of_le H4.out.cells.2.2.2.2 hgn
      have HMANY := Lib.hid (fun h => loadL_many (tg := tagL) (blk := blkOf D) (k := k) (L := L) h)
      have HFN := Lib.hid (fun m (hm : m ≤ (atoiN (L.getD 4 [])).toNat) hf => loadL_fams (tg := tagL) (famsR_stop (blk := blkOf D) (at_ := slotAt k) (s := ⟨atoiN (L.getD 2 []), atoiN (L.getD 3 []), []⟩) (n := m) hf hm))
      have HEN := Lib.hid (fun h4 st al hf => loadL_end (tg := tagL) (blk := blkOf D) (k := k) hl6 HNU.out h4 (st := st) (al := al) hf)
      have he0 : 0 ≤ atoiN (L.getD 4 []) := by
        have := HNU.out 4 (by omega)
        unfold numM at this
        rw [Bool.and_eq_true] at this
        exact (okM_iff.1 this.2).1
      have ha0 : 0 ≤ atoiN (L.getD 0 []) := by
        have := HNU.out 0 (by omega)
        unfold numM at this
        rw [Bool.and_eq_true] at this
        exact (okM_iff.1 this.2).1
      clear HLN HW6 HRD H4 hN HNU HOP
      obtain ⟨m0, m1, m2, mz, mlt⟩ := H5.out.cells
      generalize hlo : loadL tagL (blkOf D) k L = o at *
      generalize hna : atoiN (L.getD 0 []) = a at *
      generalize hnb : atoiN (L.getD 1 []) = b at *
      generalize hnc : atoiN (L.getD 2 []) = c at *
      generalize hnd : atoiN (L.getD 3 []) = d at *
      generalize hne : atoiN (L.getD 4 []) = en at *
      generalize htw : txt (L.getD 5 []) = tw at *
      have HTW : Hid (tw = txt (L.getD 5 [])) := Lib.hid htw.symm
      clear hlo hna hnb hnc hnd hne htw
      obtain ⟨N, rfl⟩ : ∃ N : Nat, en = (N : Int) := ⟨en.toNat, by omega⟩
      by_cases hN20 : 20 < N
      · go_wp2_with fail
        go_region
        go_wp2_with fail
        exact load_end (LD.same H5.out).drew (by rw [HMANY.out (by omega)]) rfl rfl rfl rfl rfl
      · go_wp2_with fail
        go_region
        go_wp2_with fail
        have HLB0 : Hid (LB W ⟨0, 0, []⟩ (.slice none 0 0) gn a b g4 tw wr) := Lib.hid ⟨H5.out, n0, n1, hw5, hgn0, hg40⟩
        have HLB := Lib.hid (LB.drew (HLB0.out.put ⟨c, d, []⟩ (u' := .slice none 0 0) (FRow.nil _ _)))
        dsimp only at HLB
        clear HLB0 H5 n0 n1 n2 n3 n4 hw5 m0 m1 m2 mz mlt
        generalize (((wr.setCell ⟨W.heap.size, 0, none⟩ (.int .i64 c)).setCell ⟨W.heap.size, 1, none⟩ (.int .i64 d)).setCell ⟨W.heap.size, 2, none⟩ (.slice none 0 0)).drew = w6 at *
        go_loopw [18, 93] (fun all i wr => LF W (blkOf D) (slotAt k) ⟨c, d, []⟩ N gn a b g4 tw all i wr) (fun _ i _ => N - (intOf i).toNat)
        case atStart => exact ⟨0, _, _, [], Nat.zero_le _, rfl, rfl, famsR_zero, HLB.out⟩
        case round =>
          obtain ⟨m, st, u, al, hm, rfl, rfl, hfs, hlb⟩ := hrel
          obtain ⟨ua, uc, rfl⟩ := hlb.ld.row.slice
          have HFS := Lib.hid hfs
          have HL := Lib.hid hlb
          clear hlb
          obtain ⟨hok, hsl, hal⟩ := famsR_ok (st_none c d) rfl (blkOf_size HF.out) m (by omega) st al hfs
          have HOK := Lib.hid hok
          clear hfs hok
          have hals : (txt al).size ≤ 5000 := by rw [txt_size_]; omega
          by_cases hmN : m < N
          · obtain ⟨c0, c1, c2, c3, c4, c5, c6, c7, z, hlt⟩ := (HS.out.keep HL.out.ld.below).cells
            have HRD := Lib.hid (fun w hd => disk_read db D (slotAt k + 1 + m) w hd (by omega))
            have hat : ((slotAt k + 1 + m : Nat) : Int) = (slotAt k : Int) + 1 + (m : Int) := by omega
            rw [hat] at HRD
            have hbs := HF.out (slotAt k + 1 + m)
            have HRE : Hid (∀ w, WB w w → ErrVars w → Calls Tryz.prog 106 #[.string (D.blk.getD (slotAt k + 1 + m) ByteArray.empty)] w (ReadGot w (readE (blkOf D (slotAt k + 1 + m))) (if readB (blkOf D (slotAt k + 1 + m)) then 0 else 3))) := Lib.hid fun w hw he => ev_read _ w (by omega) hw he
            have hstep := famsR_some HFS.out
            have hap : txt al ++ (D.blk.getD (slotAt k + 1 + m) ByteArray.empty ++ ⟨#[10]⟩) = txt (al ++ blkOf D (slotAt k + 1 + m) ++ [10]) := by
              rw [← txt_app, ← txt_app, ByteArray.append_assoc]
              unfold blkOf
              rw [txt_data]
              rfl
            have HAP := Lib.hid hap
            have HFM := HFN.out (m + 1) (by omega)
            have HMAY := Lib.hid (fun h => readE_may (l := blkOf D (slotAt k + 1 + m)) h)
            rw [hstep] at HFM
            have HSTEP := Lib.hid hstep
            clear hap hat hstep
            generalize D.blk.getD (slotAt k + 1 + m) ByteArray.empty = bm at *
            generalize readE (blkOf D (slotAt k + 1 + m)) = ev at *
            generalize readB (blkOf D (slotAt k + 1 + m)) = rb at *
            rcases rb with _ | _
            · simp only [Bool.false_eq_true, if_false] at HRE
              simp only [Bool.false_and, Bool.false_eq_true, if_false] at HFM
              clear HSTEP HAP HMAY
              obtain ⟨kd, ⟨i, cl, su, sc, ge, ma, us, re, de⟩, id, ti⟩ := ev
              go_wp2_with fail
              refine (HRD.out _ (HS.out.keep HL.out.ld.below).disk).mono ?_
              rintro e w1 ⟨rfl, rfl⟩
              go_wp2_with fail
              go_at_call 106
              refine (HRE.out _ (HS.out.keep HL.out.ld.below).env.wb (HS.out.keep HL.out.ld.below).env.errs).mono ?_
              rintro e w2 ⟨rfl, hb⟩
              have HL2 := Lib.hid (HL.out.keep hb)
              clear hb c0 c1 c2 c3 c4 c5 c6 c7 z hlt HRE HRD HL
              have HL3 := Lib.hid (HL2.out.keep ((Below.refl _ _).alloc (Nat.le_refl _) (.cells (evCs ⟨kd, ⟨i, cl, su, sc, ge, ma, us, re, de⟩, id, ti⟩) 116)))
              unfold evVal evCs
              unfold evCs at HL3
              dsimp only at HL3 ⊢
              obtain ⟨sck, snx, sL⟩ := st
              rw [show errV 3 = .iface 57 (.int .i64 3) from rfl]
              go_wp2_with fail
              generalize w2.alloc (.cells #[.int .i64 kd, .int .i64 i, .string cl, .string su, .string sc, .int .i64 ge, .int .i64 ma, .int .i64 us, .string re, .bool de, .int .i64 id, .int .i64 ti] 116) = w3 at *
              obtain ⟨m0, m1, m2, mz, mlt⟩ := HL3.out.ld.cells
              go_region
              go_wp2_with fail
              exact load_end (LD.same HL3.out.ld).drew (by rw [HFM trivial]) rfl rfl rfl rfl rfl
            · simp only [if_true] at HRE
              have hev := HMAY.out rfl
              by_cases hkd : ev.kind = 1
              · rw [decide_eq_true hkd] at HSTEP
                simp only [Bool.and_self, if_true] at HSTEP
                have HA : Hid (∀ (w : World) (v : Value), FRow w (W.heap.size + 1) v st.fams → Calls Tryz.prog 54 #[stVal st v, evVal ev] w (GotAs w (applyS st ev).clock (applyS st ev).next (applyS st ev).fams)) :=
                  Lib.hid fun w v hr => (ev_apply _ v st ev w hr HOK.out (okN_one hev) (okN_two hev)).mono fun _ _ h => got_as h
                clear HFM HMAY hev
                generalize applyS st ev = st' at *
                obtain ⟨ck', nx', L'⟩ := st'
                unfold GotAs stVal stCs evVal evCs at HA
                obtain ⟨kd, ⟨i, cl, su, sc, ge, ma, us, re, de⟩, id, ti⟩ := ev
                obtain ⟨sck, snx, sL⟩ := st
                dsimp only at hkd HA
                subst hkd
                go_wp2_with fail
                refine (HRD.out _ (HS.out.keep HL.out.ld.below).disk).mono ?_
                rintro e w1 ⟨rfl, rfl⟩
                go_wp2_with fail
                go_at_call 106
                refine (HRE.out _ (HS.out.keep HL.out.ld.below).env.wb (HS.out.keep HL.out.ld.below).env.errs).mono ?_
                rintro e w2 ⟨rfl, hb⟩
                have HL2 := Lib.hid (HL.out.keep hb)
                clear hb c0 c1 c2 c3 c4 c5 c6 c7 z hlt HRE HRD HL
                have HL3 := Lib.hid (HL2.out.keep ((Below.refl _ _).alloc (Nat.le_refl _) (.cells (evCs ⟨1, ⟨i, cl, su, sc, ge, ma, us, re, de⟩, id, ti⟩) 116)))
                have HE3 := Lib.hid (Blk.new w2 116 (evCs ⟨1, ⟨i, cl, su, sc, ge, ma, us, re, de⟩, id, ti⟩))
                unfold evVal evCs
                unfold evCs at HL3
                dsimp only at HL3 ⊢
                rw [show errV 0 = .nilIface from rfl]
                obtain ⟨m0, m1, m2, mz, mlt⟩ := HL2.out.ld.cells
                go_wp2_with fail
                go_at_call 54
                refine (HA.out _ _ HL3.out.ld.row).mono ?_
                rintro e w4 ⟨a1, c1, rfl, hr1, hb⟩
                have hsz := Nat.lt_of_lt_of_le HL2.out.ld.res.lt (show w2.heap.size ≤ (w2.alloc (.cells (evCs ⟨1, ⟨i, cl, su, sc, ge, ma, us, re, de⟩, id, ti⟩) 116)).heap.size by simp)
                have HL4 := Lib.hid (HL3.out.keep hb)
                have hr2 := hr1.mono (B' := W.heap.size + 1) hsz
                have HL5 := Lib.hid (HL4.out.put ⟨ck', nx', L'⟩ hr2)
                clear m0 m1 m2 mz mlt hr1 hr2 hb
                obtain ⟨m0, m1, m2, mz, mlt⟩ := HL4.out.ld.cells
                go_wp2_with fail
                refine ⟨?_, ?measure⟩
                repeat apply Exists.intro
                refine ⟨?rel, rfl⟩
                case rel => exact ⟨m + 1, _, _, _, by omega, by go_num, by rw [HAP.out], HSTEP.out, HL5.out⟩
                case measure => simp [intOf]; omega
              · rw [decide_eq_false hkd] at HFM
                simp only [Bool.and_false, Bool.false_eq_true, if_false] at HFM
                clear HSTEP HAP HMAY hev
                obtain ⟨kd, ⟨i, cl, su, sc, ge, ma, us, re, de⟩, id, ti⟩ := ev
                dsimp only at hkd
                go_wp2_with fail
                refine (HRD.out _ (HS.out.keep HL.out.ld.below).disk).mono ?_
                rintro e w1 ⟨rfl, rfl⟩
                go_wp2_with fail
                go_at_call 106
                refine (HRE.out _ (HS.out.keep HL.out.ld.below).env.wb (HS.out.keep HL.out.ld.below).env.errs).mono ?_
                rintro e w2 ⟨rfl, hb⟩
                have HL2 := Lib.hid (HL.out.keep hb)
                clear hb c0 c1 c2 c3 c4 c5 c6 c7 z hlt HRE HRD HL
                have HL3 := Lib.hid (HL2.out.keep ((Below.refl _ _).alloc (Nat.le_refl _) (.cells (evCs ⟨kd, ⟨i, cl, su, sc, ge, ma, us, re, de⟩, id, ti⟩) 116)))
                unfold evVal evCs
                unfold evCs at HL3
                dsimp only at HL3 ⊢
                obtain ⟨sck, snx, sL⟩ := st
                rw [show errV 0 = .nilIface from rfl]
                go_wp2_with fail
                generalize w2.alloc (.cells #[.int .i64 kd, .int .i64 i, .string cl, .string su, .string sc, .int .i64 ge, .int .i64 ma, .int .i64 us, .string re, .bool de, .int .i64 id, .int .i64 ti] 116) = w3 at *
                obtain ⟨m0, m1, m2, mz, mlt⟩ := HL3.out.ld.cells
                go_region
                go_wp2_with fail
                exact load_end (LD.same HL3.out.ld).drew (by rw [HFM trivial]) rfl rfl rfl rfl rfl
          · obtain rfl : m = N := by omega
            have HEND := Lib.hid (HEN.out (by omega) st al (by rw [Int.toNat_natCast]; exact HFS.out))
            have HTG := Lib.hid (fun w => mac_tag 1 (txt al) w (by omega))
            rw [data_txt] at HTG
            clear HEN HFN HMANY HLB
            obtain ⟨sck, snx, sL⟩ := st
            have hrem : a.tmod 2 = a % 2 := Int.tmod_eq_emod_of_nonneg ha0
            have hqt : ((⟨(tagL 1 al).toArray⟩ : ByteArray).toList == tw.toList) = decide (tagL 1 al = L.getD 5 []) := by
              rw [HTW.out, ByteArray.toList_eq, toList_txt, Bool.eq_iff_iff]
              simp
            generalize (⟨(tagL 1 al).toArray⟩ : ByteArray) = tgs at *
            generalize txt al = als at *
            go_wp2_with fail
            by_cases hc : tagL 1 al = L.getD 5 []
            · rw [decide_eq_true hc] at hqt
              refine wp_region_tail (LB W ⟨sck, snx, sL⟩ (.slice ua sL.length uc) gn a b g4 tw) [] (by kernel_rfl) ?_
              have HSD := HL.out.drew
              refine wpAnyT_take 2 (i := 0) (v := ?v0) rfl (by kernel_rfl) (by kernel_rfl) (by kernel_rfl) (by kernel_rfl) (by kernel_rfl) (fun _ _ _ h => h) (by rfl) ?hy0 (by assumption) ?rest0
              case hy0 => (intro w hSw; obtain ⟨s0, s1, s2⟩ := hSw.three; obtain ⟨m0, m1, m2, mz, mlt⟩ := hSw.ld.cells; go_simp; (try with_reducible rfl))
              simp only [Act.put]
              refine wpAnyT_take 2 (i := 1) (v := ?v1) rfl (by kernel_rfl) (by kernel_rfl) (by kernel_rfl) (by kernel_rfl) (by kernel_rfl) (fun _ _ _ h => h) (by rfl) ?hy1 (by assumption) ?rest1
              case hy1 => (intro w hSw; obtain ⟨s0, s1, s2⟩ := hSw.three; obtain ⟨m0, m1, m2, mz, mlt⟩ := hSw.ld.cells; go_simp; (try with_reducible rfl))
              simp only [Act.put]
              refine wpAnyT_take 2 (i := 2) (v := ?v2) rfl (by kernel_rfl) (by kernel_rfl) (by kernel_rfl) (by kernel_rfl) (by kernel_rfl) (fun _ _ _ h => h) (by rfl) ?hy2 (by assumption) ?rest2
              case hy2 => (intro w hSw; obtain ⟨s0, s1, s2⟩ := hSw.three; obtain ⟨m0, m1, m2, mz, mlt⟩ := hSw.ld.cells; go_simp; (try with_reducible rfl))
              simp only [Act.put]
              refine wpAnyT_take 2 (i := 3) (v := ?v3) rfl (by kernel_rfl) (by kernel_rfl) (by kernel_rfl) (by kernel_rfl) (by kernel_rfl) (fun _ _ _ h => h) (by rfl) ?hy3 (by assumption) ?rest3
              case hy3 => (intro w hSw; obtain ⟨s0, s1, s2⟩ := hSw.three; obtain ⟨m0, m1, m2, mz, mlt⟩ := hSw.ld.cells; go_simp; (try with_reducible rfl))
              simp only [Act.put]
              refine wpAnyT_take 2 (i := 4) (v := ?v4) rfl (by kernel_rfl) (by kernel_rfl) (by kernel_rfl) (by kernel_rfl) (by kernel_rfl) (fun _ _ _ h => h) (by rfl) ?hy4 (by assumption) ?rest4
              case hy4 => (intro w hSw; obtain ⟨s0, s1, s2⟩ := hSw.three; obtain ⟨m0, m1, m2, mz, mlt⟩ := hSw.ld.cells; go_simp; (try with_reducible rfl))
              simp only [Act.put]
              refine wpAnyT_take 2 (i := 5) (v := ?v5) rfl (by kernel_rfl) (by kernel_rfl) (by kernel_rfl) (by kernel_rfl) (by kernel_rfl) (fun _ _ _ h => h) (by rfl) ?hy5 (by assumption) ?rest5
              case hy5 => (intro w hSw; obtain ⟨s0, s1, s2⟩ := hSw.three; obtain ⟨m0, m1, m2, mz, mlt⟩ := hSw.ld.cells; go_simp; (try with_reducible rfl))
              simp only [Act.put]
              refine wpAnyT_take 2 (i := 6) (v := ?v6) rfl (by kernel_rfl) (by kernel_rfl) (by kernel_rfl) (by kernel_rfl) (by kernel_rfl) (fun _ _ _ h => h) (by rfl) ?hy6 (by assumption) ?rest6
              case hy6 => (intro w hSw; obtain ⟨s0, s1, s2⟩ := hSw.three; obtain ⟨m0, m1, m2, mz, mlt⟩ := hSw.ld.cells; go_simp; (try with_reducible rfl))
              simp only [Act.put]
              refine wpAnyT_take 2 (i := 7) (v := ?v7) rfl (by kernel_rfl) (by kernel_rfl) (by kernel_rfl) (by kernel_rfl) (by kernel_rfl) (fun _ _ _ h => h) (by rfl) ?hy7 (by assumption) ?rest7
              case hy7 => (intro w hSw; obtain ⟨s0, s1, s2⟩ := hSw.three; obtain ⟨m0, m1, m2, mz, mlt⟩ := hSw.ld.cells; go_simp; (try with_reducible rfl))
              simp only [Act.put]
              refine wpAnyT_take 2 (i := 9) (v := ?v9) rfl (by kernel_rfl) (by kernel_rfl) (by kernel_rfl) (by kernel_rfl) (by kernel_rfl) (fun _ _ _ h => h) (by rfl) ?hy9 (by assumption) ?rest9
              case hy9 => (intro w hSw; obtain ⟨s0, s1, s2⟩ := hSw.three; obtain ⟨m0, m1, m2, mz, mlt⟩ := hSw.ld.cells; go_simp; (try with_reducible rfl))
              simp only [Act.put]
              refine wpAnyT_take 2 (i := 10) (v := ?v10) rfl (by kernel_rfl) (by kernel_rfl) (by kernel_rfl) (by kernel_rfl) (by kernel_rfl) (fun _ _ _ h => h) (by rfl) ?hy10 (by assumption) ?rest10
              case hy10 => (intro w hSw; obtain ⟨s0, s1, s2⟩ := hSw.three; obtain ⟨m0, m1, m2, mz, mlt⟩ := hSw.ld.cells; go_simp; (try with_reducible rfl))
              simp only [Act.put]
              refine wpAnyT_take 2 (i := 11) (v := ?v11) rfl (by kernel_rfl) (by kernel_rfl) (by kernel_rfl) (by kernel_rfl) (by kernel_rfl) (fun _ _ _ h => h) (by rfl) ?hy11 (by assumption) ?rest11
              case hy11 => (intro w hSw; obtain ⟨s0, s1, s2⟩ := hSw.three; obtain ⟨m0, m1, m2, mz, mlt⟩ := hSw.ld.cells; go_simp; (try with_reducible rfl))
              simp only [Act.put]
              refine wpAnyT_one (i := 8) (by kernel_rfl) rfl ?_
              intro K8 hK8
              go_simp
              go_at_call 107
              refine (HTG.out _).mono ?_
              rintro e w5 ⟨rfl, hb⟩
              have HSD5 := HSD.keep hb
              try dsimp only
              refine hK8.out _ _ (fun _ => HSD5) ?_
              try simp only [Act.put]
              refine wpAnyT_take 2 (i := 12) (v := ?v12) rfl (by kernel_rfl) (by kernel_rfl) (by kernel_rfl) (by kernel_rfl) (by kernel_rfl) (fun _ _ _ h => h) (by rfl) ?hy12 (by assumption) ?rest12
              case hy12 => (intro w hSw; obtain ⟨s0, s1, s2⟩ := hSw.three; obtain ⟨m0, m1, m2, mz, mlt⟩ := hSw.ld.cells; go_simp; (try with_reducible rfl))
              simp only [Act.put]
              refine wpAnyT_take 2 (i := 13) (v := ?v13) rfl (by kernel_rfl) (by kernel_rfl) (by kernel_rfl) (by kernel_rfl) (by kernel_rfl) (fun _ _ _ h => h) (by rfl) ?hy13 (by assumption) ?rest13
              case hy13 => (intro w hSw; obtain ⟨s0, s1, s2⟩ := hSw.three; obtain ⟨m0, m1, m2, mz, mlt⟩ := hSw.ld.cells; go_simp; (try with_reducible rfl))
              simp only [Act.put]
              refine wpAnyT_take 2 (i := 14) (v := ?v14) rfl (by kernel_rfl) (by kernel_rfl) (by kernel_rfl) (by kernel_rfl) (by kernel_rfl) (fun _ _ _ h => h) (by go_simp) ?hy14 (by assumption) ?rest14
              case hy14 => (intro w hSw; obtain ⟨s0, s1, s2⟩ := hSw.three; obtain ⟨m0, m1, m2, mz, mlt⟩ := hSw.ld.cells; go_simp; (try with_reducible rfl))
              simp only [Act.put]
              refine wpAnyT_take 2 (i := 15) (v := ?v15) rfl (by kernel_rfl) (by kernel_rfl) (by kernel_rfl) (by kernel_rfl) (by kernel_rfl) (fun _ _ _ h => h) (by go_simp) ?hy15 (by assumption) ?rest15
              case hy15 => (intro w hSw; obtain ⟨s0, s1, s2⟩ := hSw.three; obtain ⟨m0, m1, m2, mz, mlt⟩ := hSw.ld.cells; go_simp; (try with_reducible rfl))
              simp only [Act.put]
              refine wpAnyT_take 2 (i := 16) (v := ?v16) rfl (by kernel_rfl) (by kernel_rfl) (by kernel_rfl) (by kernel_rfl) (by kernel_rfl) (fun _ _ _ h => h) (by go_simp) ?hy16 (by assumption) ?rest16
              case hy16 => (intro w hSw; obtain ⟨s0, s1, s2⟩ := hSw.three; obtain ⟨m0, m1, m2, mz, mlt⟩ := hSw.ld.cells; go_simp; (try with_reducible rfl))
              simp only [Act.put]
              refine wpAnyT_take 2 (i := 17) (v := ?v17) rfl (by kernel_rfl) (by kernel_rfl) (by kernel_rfl) (by kernel_rfl) (by kernel_rfl) (fun _ _ _ h => h) (by go_simp) ?hy17 (by assumption) ?rest17
              case hy17 => (intro w hSw; obtain ⟨s0, s1, s2⟩ := hSw.three; obtain ⟨m0, m1, m2, mz, mlt⟩ := hSw.ld.cells; go_simp; (try with_reducible rfl))
              simp only [Act.put]
              refine wpAnyT_take 2 (i := 18) (v := ?v18) rfl (by kernel_rfl) (by kernel_rfl) (by kernel_rfl) (by kernel_rfl) (by kernel_rfl) (fun _ _ _ h => h) (by go_simp) ?hy18 (by assumption) ?rest18
              case hy18 => (intro w hSw; obtain ⟨s0, s1, s2⟩ := hSw.three; obtain ⟨m0, m1, m2, mz, mlt⟩ := hSw.ld.cells; go_simp; (try with_reducible rfl))
              simp only [Act.put]
              refine wpAnyT_take 2 (i := 19) (v := ?v19) rfl (by kernel_rfl) (by kernel_rfl) (by kernel_rfl) (by kernel_rfl) (by kernel_rfl) (fun _ _ _ h => h) (by go_simp) ?hy19 (by assumption) ?rest19
              case hy19 => (intro w hSw; obtain ⟨s0, s1, s2⟩ := hSw.three; obtain ⟨m0, m1, m2, mz, mlt⟩ := hSw.ld.cells; go_simp; (try with_reducible rfl))
              simp only [Act.put]
              refine wpAnyT_take 2 (i := 20) (v := ?v20) rfl (by kernel_rfl) (by kernel_rfl) (by kernel_rfl) (by kernel_rfl) (by kernel_rfl) (fun _ _ _ h => h) (by go_simp) ?hy20 (by assumption) ?rest20
              case hy20 => (intro w hSw; obtain ⟨s0, s1, s2⟩ := hSw.three; obtain ⟨m0, m1, m2, mz, mlt⟩ := hSw.ld.cells; go_simp; (try with_reducible rfl))
              simp only [Act.put]
              refine wpAnyT_one (i := 21) (by kernel_rfl) rfl ?_
              intro K21 hK21
              go_simp
              try dsimp only
              refine hK21.out _ _ (fun _ => HSD5) ?_
              try simp only [Act.put]
              refine wpAnyT_one (i := 22) (by kernel_rfl) rfl ?_
              intro K22 hK22
              go_simp
              try dsimp only
              refine hK22.out _ _ (fun _ => HSD5) ?_
              try simp only [Act.put]
              obtain ⟨m0, m1, m2, mz, mlt⟩ := HSD5.ld.cells
              have HSD6 := HSD5.put ⟨sck, snx, sL⟩ HSD5.ld.row
              refine wpAnyT_one (i := 23) (by kernel_rfl) rfl ?_
              intro K23 hK23
              go_simp
              try dsimp only
              refine hK23.out _ _ (fun _ => HSD6) ?_
              try simp only [Act.put]
              refine wpAnyT_one (i := 24) (by kernel_rfl) rfl ?_
              intro K24 hK24
              go_simp
              try dsimp only
              refine hK24.out _ _ (fun _ => HSD6) ?_
              try simp only [Act.put]
              refine wpAnyT_done (by kernel_rfl) ?_ _
              go_wp2_with fail
              refine load_end (o := o) HSD6.ld ?_ rfl rfl rfl rfl rfl
              rw [HEND.out]
              by_cases hk2 : a % 2 = (k : Int)
              · rw [if_pos ⟨hc, hk2⟩]
                exact ⟨by simpa using hk2, rfl⟩
              · rw [if_neg fun h => hk2 h.2]
                simpa using hk2
            · rw [decide_eq_false hc] at hqt
              refine wp_region_tail (LB W ⟨sck, snx, sL⟩ (.slice ua sL.length uc) gn a b g4 tw) [] (by kernel_rfl) ?_
              have HSD := HL.out.drew
              refine wpAnyT_take 2 (i := 0) (v := ?n0) rfl (by kernel_rfl) (by kernel_rfl) (by kernel_rfl) (by kernel_rfl) (by kernel_rfl) (fun _ _ _ h => h) (by rfl) ?hn0 (by assumption) ?rn0
              case hn0 => (intro w hSw; obtain ⟨s0, s1, s2⟩ := hSw.three; obtain ⟨m0, m1, m2, mz, mlt⟩ := hSw.ld.cells; go_simp; (try with_reducible rfl))
              simp only [Act.put]
              refine wpAnyT_take 2 (i := 1) (v := ?n1) rfl (by kernel_rfl) (by kernel_rfl) (by kernel_rfl) (by kernel_rfl) (by kernel_rfl) (fun _ _ _ h => h) (by rfl) ?hn1 (by assumption) ?rn1
              case hn1 => (intro w hSw; obtain ⟨s0, s1, s2⟩ := hSw.three; obtain ⟨m0, m1, m2, mz, mlt⟩ := hSw.ld.cells; go_simp; (try with_reducible rfl))
              simp only [Act.put]
              refine wpAnyT_take 2 (i := 2) (v := ?n2) rfl (by kernel_rfl) (by kernel_rfl) (by kernel_rfl) (by kernel_rfl) (by kernel_rfl) (fun _ _ _ h => h) (by rfl) ?hn2 (by assumption) ?rn2
              case hn2 => (intro w hSw; obtain ⟨s0, s1, s2⟩ := hSw.three; obtain ⟨m0, m1, m2, mz, mlt⟩ := hSw.ld.cells; go_simp; (try with_reducible rfl))
              simp only [Act.put]
              refine wpAnyT_take 2 (i := 3) (v := ?n3) rfl (by kernel_rfl) (by kernel_rfl) (by kernel_rfl) (by kernel_rfl) (by kernel_rfl) (fun _ _ _ h => h) (by rfl) ?hn3 (by assumption) ?rn3
              case hn3 => (intro w hSw; obtain ⟨s0, s1, s2⟩ := hSw.three; obtain ⟨m0, m1, m2, mz, mlt⟩ := hSw.ld.cells; go_simp; (try with_reducible rfl))
              simp only [Act.put]
              refine wpAnyT_take 2 (i := 4) (v := ?n4) rfl (by kernel_rfl) (by kernel_rfl) (by kernel_rfl) (by kernel_rfl) (by kernel_rfl) (fun _ _ _ h => h) (by rfl) ?hn4 (by assumption) ?rn4
              case hn4 => (intro w hSw; obtain ⟨s0, s1, s2⟩ := hSw.three; obtain ⟨m0, m1, m2, mz, mlt⟩ := hSw.ld.cells; go_simp; (try with_reducible rfl))
              simp only [Act.put]
              refine wpAnyT_take 2 (i := 5) (v := ?n5) rfl (by kernel_rfl) (by kernel_rfl) (by kernel_rfl) (by kernel_rfl) (by kernel_rfl) (fun _ _ _ h => h) (by rfl) ?hn5 (by assumption) ?rn5
              case hn5 => (intro w hSw; obtain ⟨s0, s1, s2⟩ := hSw.three; obtain ⟨m0, m1, m2, mz, mlt⟩ := hSw.ld.cells; go_simp; (try with_reducible rfl))
              simp only [Act.put]
              refine wpAnyT_take 2 (i := 6) (v := ?n6) rfl (by kernel_rfl) (by kernel_rfl) (by kernel_rfl) (by kernel_rfl) (by kernel_rfl) (fun _ _ _ h => h) (by rfl) ?hn6 (by assumption) ?rn6
              case hn6 => (intro w hSw; obtain ⟨s0, s1, s2⟩ := hSw.three; obtain ⟨m0, m1, m2, mz, mlt⟩ := hSw.ld.cells; go_simp; (try with_reducible rfl))
              simp only [Act.put]
              refine wpAnyT_take 2 (i := 7) (v := ?n7) rfl (by kernel_rfl) (by kernel_rfl) (by kernel_rfl) (by kernel_rfl) (by kernel_rfl) (fun _ _ _ h => h) (by rfl) ?hn7 (by assumption) ?rn7
              case hn7 => (intro w hSw; obtain ⟨s0, s1, s2⟩ := hSw.three; obtain ⟨m0, m1, m2, mz, mlt⟩ := hSw.ld.cells; go_simp; (try with_reducible rfl))
              simp only [Act.put]
              refine wpAnyT_take 2 (i := 9) (v := ?n9) rfl (by kernel_rfl) (by kernel_rfl) (by kernel_rfl) (by kernel_rfl) (by kernel_rfl) (fun _ _ _ h => h) (by rfl) ?hn9 (by assumption) ?rn9
              case hn9 => (intro w hSw; obtain ⟨s0, s1, s2⟩ := hSw.three; obtain ⟨m0, m1, m2, mz, mlt⟩ := hSw.ld.cells; go_simp; (try with_reducible rfl))
              simp only [Act.put]
              refine wpAnyT_take 2 (i := 10) (v := ?n10) rfl (by kernel_rfl) (by kernel_rfl) (by kernel_rfl) (by kernel_rfl) (by kernel_rfl) (fun _ _ _ h => h) (by rfl) ?hn10 (by assumption) ?rn10
              case hn10 => (intro w hSw; obtain ⟨s0, s1, s2⟩ := hSw.three; obtain ⟨m0, m1, m2, mz, mlt⟩ := hSw.ld.cells; go_simp; (try with_reducible rfl))
              simp only [Act.put]
              refine wpAnyT_take 2 (i := 11) (v := ?n11) rfl (by kernel_rfl) (by kernel_rfl) (by kernel_rfl) (by kernel_rfl) (by kernel_rfl) (fun _ _ _ h => h) (by rfl) ?hn11 (by assumption) ?rn11
              case hn11 => (intro w hSw; obtain ⟨s0, s1, s2⟩ := hSw.three; obtain ⟨m0, m1, m2, mz, mlt⟩ := hSw.ld.cells; go_simp; (try with_reducible rfl))
              simp only [Act.put]
              refine wpAnyT_one (i := 8) (by kernel_rfl) rfl ?_
              intro K8 hK8
              go_simp
              go_at_call 107
              refine (HTG.out _).mono ?_
              rintro e w5 ⟨rfl, hb⟩
              have HSD5 := HSD.keep hb
              try dsimp only
              refine hK8.out _ _ (fun _ => HSD5) ?_
              try simp only [Act.put]
              refine wpAnyT_take 2 (i := 12) (v := ?n12) rfl (by kernel_rfl) (by kernel_rfl) (by kernel_rfl) (by kernel_rfl) (by kernel_rfl) (fun _ _ _ h => h) (by rfl) ?hn12 (by assumption) ?rn12
              case hn12 => (intro w hSw; obtain ⟨s0, s1, s2⟩ := hSw.three; obtain ⟨m0, m1, m2, mz, mlt⟩ := hSw.ld.cells; go_simp; (try with_reducible rfl))
              simp only [Act.put]
              refine wpAnyT_take 2 (i := 13) (v := ?n13) rfl (by kernel_rfl) (by kernel_rfl) (by kernel_rfl) (by kernel_rfl) (by kernel_rfl) (fun _ _ _ h => h) (by rfl) ?hn13 (by assumption) ?rn13
              case hn13 => (intro w hSw; obtain ⟨s0, s1, s2⟩ := hSw.three; obtain ⟨m0, m1, m2, mz, mlt⟩ := hSw.ld.cells; go_simp; (try with_reducible rfl))
              simp only [Act.put]
              refine wpAnyT_skip 2 (i := 14) rfl (by kernel_rfl) (by kernel_rfl) (by kernel_rfl) (by kernel_rfl) (by kernel_rfl) (fun _ _ _ h => h) (by go_simp) (by assumption) ?_
              simp only [Act.put]
              refine wpAnyT_skip 2 (i := 15) rfl (by kernel_rfl) (by kernel_rfl) (by kernel_rfl) (by kernel_rfl) (by kernel_rfl) (fun _ _ _ h => h) (by go_simp) (by assumption) ?_
              simp only [Act.put]
              refine wpAnyT_skip 2 (i := 16) rfl (by kernel_rfl) (by kernel_rfl) (by kernel_rfl) (by kernel_rfl) (by kernel_rfl) (fun _ _ _ h => h) (by go_simp) (by assumption) ?_
              simp only [Act.put]
              refine wpAnyT_skip 2 (i := 17) rfl (by kernel_rfl) (by kernel_rfl) (by kernel_rfl) (by kernel_rfl) (by kernel_rfl) (fun _ _ _ h => h) (by go_simp) (by assumption) ?_
              simp only [Act.put]
              refine wpAnyT_skip 2 (i := 18) rfl (by kernel_rfl) (by kernel_rfl) (by kernel_rfl) (by kernel_rfl) (by kernel_rfl) (fun _ _ _ h => h) (by go_simp) (by assumption) ?_
              simp only [Act.put]
              refine wpAnyT_skip 2 (i := 19) rfl (by kernel_rfl) (by kernel_rfl) (by kernel_rfl) (by kernel_rfl) (by kernel_rfl) (fun _ _ _ h => h) (by go_simp) (by assumption) ?_
              simp only [Act.put]
              refine wpAnyT_take 2 (i := 20) (v := ?n20) rfl (by kernel_rfl) (by kernel_rfl) (by kernel_rfl) (by kernel_rfl) (by kernel_rfl) (fun _ _ _ h => h) (by go_simp) ?hn20 (by assumption) ?rn20
              case hn20 => (intro w hSw; obtain ⟨s0, s1, s2⟩ := hSw.three; obtain ⟨m0, m1, m2, mz, mlt⟩ := hSw.ld.cells; go_simp; (try with_reducible rfl))
              simp only [Act.put]
              refine wpAnyT_one (i := 21) (by kernel_rfl) rfl ?_
              intro K21 hK21
              go_simp
              try dsimp only
              refine hK21.out _ _ (fun _ => HSD5) ?_
              try simp only [Act.put]
              refine wpAnyT_one (i := 22) (by kernel_rfl) rfl ?_
              intro K22 hK22
              go_simp
              try dsimp only
              refine hK22.out _ _ (fun _ => HSD5) ?_
              try simp only [Act.put]
              obtain ⟨m0, m1, m2, mz, mlt⟩ := HSD5.ld.cells
              have HSD6 := HSD5.put ⟨sck, snx, sL⟩ HSD5.ld.row
              refine wpAnyT_one (i := 23) (by kernel_rfl) rfl ?_
              intro K23 hK23
              go_simp
              try dsimp only
              refine hK23.out _ _ (fun _ => HSD6) ?_
              try simp only [Act.put]
              refine wpAnyT_one (i := 24) (by kernel_rfl) rfl ?_
              intro K24 hK24
              go_simp
              try dsimp only
              refine hK24.out _ _ (fun _ => HSD6) ?_
              try simp only [Act.put]
              refine wpAnyT_done (by kernel_rfl) ?_ _
              go_wp2_with fail
              refine load_end (o := o) HSD6.ld ?_ rfl rfl rfl rfl rfl
              rw [HEND.out, if_neg fun h => hc h.1]
/-- store.Store's load -/
theorem store_load (B sb db : Nat) (D : Dk) (s : St) (v : Value) (n f x : Int) (down : Bool) (W : World) (h : SD B sb db D s v n f x down W) (hf : D.fits) (k : Nat) (hk : k < 2) :
    Calls Tryz.prog 52 #[.pointer (some ⟨sb, 0, none⟩), .int .i64 k] W (LoadGot W (loadR tagL (blkOf D) k)) := by
  rcases ho : openL tagL (blkOf D (slotAt k)) with _ | l
  · rw [loadR_none tagL ho]
    exact load_bad B sb db D s v n f x down W h hf k hk [] false ho (fun _ => rfl) (by decide) (.inl rfl)
  · have hl := openL_len ho
    have hb := blkOf_size hf (slotAt k)
    by_cases h6 : (parts 32 l).length = 6
    · rw [loadR_words tagL ho h6]
      exact load_words B sb db D s v n f x down W h hf k hk l ho (by omega) h6
    · rw [loadR_len tagL ho h6]
      exact load_bad B sb db D s v n f x down W h hf k hk l true ho (fun h => by cases h) (by omega) (.inr h6)
end Go.Proofs.YtepjcdjpikbbjaaGreatDoor
