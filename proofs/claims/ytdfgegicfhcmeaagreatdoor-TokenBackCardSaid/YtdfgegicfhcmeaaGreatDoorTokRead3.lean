/-
  token.Read at an access token.
-/
import Derived.Test.YtdfgegicfhcmeaaGreatDoorTokRead2
namespace Go.Proofs.YtdfgegicfhcmeaaGreatDoor
open Go.RowKit Go.Sort

set_option maxHeartbeats 8000000 in
set_option maxRecDepth 100000 in
theorem tokRead_2 (key : Int) (s : ByteArray) (W : World) (hs : s.size ≤ 1000) (hm : MaxL W) (hT : Tens W) (hv : ErrVars W) (x y z t : List UInt8) (hL : parts 46 s.data.toList = [[97], x, y, z, t]) :
    Calls Tryz.prog 7 #[.int .i64 key, .string s] W (ReadGot W (tokR (fun B => tagL key B) [[97], x, y, z, t])) := by
  have H := Lib.hid (tokRead_start key s W hs hm hT hv)
  have hlen : ∀ w ∈ [[97], x, y, z, t], w.length ≤ 1000 := by rw [← hL]; exact parts_word_len 46 _ _ (by rw [size_data]; exact hs)
  rw [hL] at H
  have hx : (txt x).size ≤ 1000000 := by rw [txt_size]; have := hlen x (by simp); omega
  have hy : (txt y).size ≤ 1000000 := by rw [txt_size]; have := hlen y (by simp); omega
  have hz : (txt z).size ≤ 1000000 := by rw [txt_size]; have := hlen z (by simp); omega
  have ht : t.length ≤ 1000 := hlen t (by simp)
  obtain ⟨i0, hi, hz0, hz1, hz2⟩ := info_parts intInfo
  have e1 : ((txt [97]).toList == [97]) = true := by rw [toList_txt]; decide
  have lten := hT.lt
  clear hm hT hv hL hlen
  go_enter Tryz.func7, Tryz.ntmps7
  go_wp2_with fail
  go_at_call 18
  refine H.out.mono ?_
  rintro e w1 ⟨v, rfl, h⟩
  obtain ⟨g, cap, rfl, hcap, hmax, hg1, hg2, hrl, hcells, _, _, _, _, _⟩ := h.facts
  have HTK := Lib.hid (TK.start h hg1 hg2 2)
  have hc0 := hcells 0 (by simp)
  clear h hcells
  simp only [List.length_cons, List.length_nil, Nat.zero_add, Nat.reduceAdd, List.getD_cons_zero] at hc0 hcap
  generalize txt [97] = rr at *
  go_wp2_with fail
  have hB0 : w1.heap.size + 1 = (w1.alloc (.cells #[.int .i64 2, .int .i64 0, .int .i64 0, .int .i64 0] 23)).heap.size := by simp
  generalize w1.alloc (.cells #[.int .i64 2, .int .i64 0, .int .i64 0, .int .i64 0] 23) = w2 at *
  have n1 := HTK.out.ne1
  have n2 := HTK.out.ne2
  have n3 := HTK.out.ne3
  clear hc0 hg1 hg2
  generalize w1.heap.size = tb at *
  obtain ⟨hcs, ⟨r0, r1, r2, r3⟩, ⟨f0, f1, f2, f3⟩, ⟨k0, k1, k2, k3⟩, ⟨q0, q1, q2, q3⟩, lg, lt, lW⟩ := HTK.out.facts
  refine wp_loop_rounds 4 ?_
  have hc := hcs 1 (by simp)
  simp at hc
  clear hcs
  rw [rounds_succ]
  go_wp2_with fail
  go_at_call 19
  refine (number_c (txt x) _ hx HTK.out.tr.tens HTK.out.tr.errs).mono ?_
  rintro e wa0 ⟨rfl, hb⟩
  rw [data_txt]
  have HA0 := Lib.hid (HTK.out.keep' hb)
  clear r0 r1 r2 r3 f0 f1 f2 f3 k0 k1 k2 k3 q0 q1 q2 q3 lg lt lW
  clear hc hb
  obtain ⟨hcs, ⟨r0, r1, r2, r3⟩, ⟨f0, f1, f2, f3⟩, ⟨k0, k1, k2, k3⟩, ⟨q0, q1, q2, q3⟩, lg, lt, lW⟩ := HA0.out.facts
  cases hnx : numB x
  · clear hcs
    go_wp2_with fail
    rw [show tokR (fun B => tagL key B) [[97], x, y, z, t] = (3, 0, 0, 0, 0) from tokR_none (by simp [tokP, hnx])]
    exact read_end (four_below HA0.out.tr.below (.int .i64 0) (.int .i64 0) (.int .i64 0) (.int .i64 0)) (four_sets HA0.out.tr.res (.int .i64 0) (.int .i64 0) (.int .i64 0) (.int .i64 0)) rfl rfl rfl
  · have HNx := Lib.hid hnx
    clear hnx
    have HCS := Lib.hid hcs
    clear hcs
    go_wp2_with
      (at_builtin; refine wpList_append_own _ rfl _ _ 49 rfl (tb + 1) 3 i0 (.int .i64 0) 1 8 Tryz.underlying49 hi hz0 hz1 hz2 rfl (by decide) _ 0 [] rfl (World.ownsRow_nil _ _ _ _) ⟨wa0.heap.size, 0, none⟩ 1 1 [.int .i64 (atoiN x)] rfl rfl (cell_one_new _ _ _) (fun u hu => by simp at hu; subst hu; rfl) (by unfold maxLen; omega) (by omega) (by have := HA0.out.hB; simp; omega) ?_; intro v0 wb0 hown' hgrow hnil
       have HO0 := Lib.hid hown'
       have HB0 := Lib.hid ((HA0.out.keep' ((Below.refl _ _).alloc (Nat.le_refl _) _)).grown hgrow (fun i hi => by cases hi))
       clear hown' hgrow hnil)
    clear HCS
    clear r0 r1 r2 r3 f0 f1 f2 f3 k0 k1 k2 k3 q0 q1 q2 q3 lg lt lW
    obtain ⟨hcs, ⟨r0, r1, r2, r3⟩, ⟨f0, f1, f2, f3⟩, ⟨k0, k1, k2, k3⟩, ⟨q0, q1, q2, q3⟩, lg, lt, lW⟩ := HB0.out.facts
    have hc := hcs 2 (by simp)
    simp at hc
    clear hcs
    rw [rounds_succ]
    go_wp2_with fail
    go_at_call 19
    refine (number_c (txt y) _ hy HB0.out.tr.tens HB0.out.tr.errs).mono ?_
    rintro e wa1 ⟨rfl, hb⟩
    rw [data_txt]
    have HA1 := Lib.hid (HB0.out.keep' hb)
    have hown := owns_keep HO0.out hb
    clear r0 r1 r2 r3 f0 f1 f2 f3 k0 k1 k2 k3 q0 q1 q2 q3 lg lt lW
    clear hc hb
    obtain ⟨hcs, ⟨r0, r1, r2, r3⟩, ⟨f0, f1, f2, f3⟩, ⟨k0, k1, k2, k3⟩, ⟨q0, q1, q2, q3⟩, lg, lt, lW⟩ := HA1.out.facts
    cases hny : numB y
    · clear hcs
      go_wp2_with fail
      rw [show tokR (fun B => tagL key B) [[97], x, y, z, t] = (3, 0, 0, 0, 0) from tokR_none (by simp [tokP, HNx.out, hny])]
      exact read_end (four_below HA1.out.tr.below (.int .i64 0) (.int .i64 0) (.int .i64 0) (.int .i64 0)) (four_sets HA1.out.tr.res (.int .i64 0) (.int .i64 0) (.int .i64 0) (.int .i64 0)) rfl rfl rfl
    · have HNy := Lib.hid hny
      have hownB := hown.lt
      clear hny
      have HCS := Lib.hid hcs
      clear hcs
      go_wp2_with
        (at_builtin; refine wpList_append_own _ rfl _ _ 49 rfl (tb + 1) 3 i0 (.int .i64 0) 1 8 Tryz.underlying49 hi hz0 hz1 hz2 rfl (by decide) _ 1 [.int .i64 (atoiN x)] rfl (hown.alloc _) ⟨wa1.heap.size, 0, none⟩ 1 1 [.int .i64 (atoiN y)] rfl rfl (cell_one_new _ _ _) (fun u hu => by simp at hu; subst hu; rfl) (by unfold maxLen; omega) (by omega) (by have := HA1.out.hB; simp; omega) ?_; intro v1 wb1 hown' hgrow hnil
         have HO1 := Lib.hid hown'
         have HB1 := Lib.hid ((HA1.out.keep' ((Below.refl _ _).alloc (Nat.le_refl _) _)).grown hgrow (fun i hi => (hownB i hi).1))
         clear hown' hgrow hnil)
      clear HCS
      clear r0 r1 r2 r3 f0 f1 f2 f3 k0 k1 k2 k3 q0 q1 q2 q3 lg lt lW
      obtain ⟨hcs, ⟨r0, r1, r2, r3⟩, ⟨f0, f1, f2, f3⟩, ⟨k0, k1, k2, k3⟩, ⟨q0, q1, q2, q3⟩, lg, lt, lW⟩ := HB1.out.facts
      clear hownB
      have hc := hcs 3 (by simp)
      simp at hc
      clear hcs
      rw [rounds_succ]
      go_wp2_with fail
      go_at_call 19
      refine (number_c (txt z) _ hz HB1.out.tr.tens HB1.out.tr.errs).mono ?_
      rintro e wa2 ⟨rfl, hb⟩
      rw [data_txt]
      have HA2 := Lib.hid (HB1.out.keep' hb)
      have hown := owns_keep HO1.out hb
      clear r0 r1 r2 r3 f0 f1 f2 f3 k0 k1 k2 k3 q0 q1 q2 q3 lg lt lW
      clear hc hb
      obtain ⟨hcs, ⟨r0, r1, r2, r3⟩, ⟨f0, f1, f2, f3⟩, ⟨k0, k1, k2, k3⟩, ⟨q0, q1, q2, q3⟩, lg, lt, lW⟩ := HA2.out.facts
      cases hnz : numB z
      · clear hcs
        go_wp2_with fail
        rw [show tokR (fun B => tagL key B) [[97], x, y, z, t] = (3, 0, 0, 0, 0) from tokR_none (by simp [tokP, HNx.out, HNy.out, hnz])]
        exact read_end (four_below HA2.out.tr.below (.int .i64 0) (.int .i64 0) (.int .i64 0) (.int .i64 0)) (four_sets HA2.out.tr.res (.int .i64 0) (.int .i64 0) (.int .i64 0) (.int .i64 0)) rfl rfl rfl
      · have HNz := Lib.hid hnz
        have hownB := hown.lt
        clear hnz
        have HCS := Lib.hid hcs
        clear hcs
        go_wp2_with
          (at_builtin; refine wpList_append_own _ rfl _ _ 49 rfl (tb + 1) 3 i0 (.int .i64 0) 1 8 Tryz.underlying49 hi hz0 hz1 hz2 rfl (by decide) _ 2 [.int .i64 (atoiN x), .int .i64 (atoiN y)] rfl (hown.alloc _) ⟨wa2.heap.size, 0, none⟩ 1 1 [.int .i64 (atoiN z)] rfl rfl (cell_one_new _ _ _) (fun u hu => by simp at hu; subst hu; rfl) (by unfold maxLen; omega) (by omega) (by have := HA2.out.hB; simp; omega) ?_; intro v2 wb2 hown' hgrow hnil
           have HO2 := Lib.hid hown'
           have HB2 := Lib.hid ((HA2.out.keep' ((Below.refl _ _).alloc (Nat.le_refl _) _)).grown hgrow (fun i hi => (hownB i hi).1))
           clear hown' hgrow hnil)
        clear HCS
        clear r0 r1 r2 r3 f0 f1 f2 f3 k0 k1 k2 k3 q0 q1 q2 q3 lg lt lW
        obtain ⟨hcs, ⟨r0, r1, r2, r3⟩, ⟨f0, f1, f2, f3⟩, ⟨k0, k1, k2, k3⟩, ⟨q0, q1, q2, q3⟩, lg, lt, lW⟩ := HB2.out.facts
        clear hownB
        rw [rounds_succ]
        have hc := hcs 4 (by simp)
        simp at hc
        clear hcs
        have hts := txt_size t
        have HTT := Lib.hid (data_txt t)
        have HTR1 := Lib.hid (fun (w : World) (hh : t.all (hexD.contains ·) = true) => (trim_set ⟨#[48, 49, 50, 51, 52, 53, 54, 55, 56, 57, 97, 98, 99, 100, 101, 102]⟩ (txt t) w (by omega) (by decide) (ascii_of_all (by decide))).1 (by rw [data_txt]; exact hh))
        have HTR2 := Lib.hid (fun (w : World) (hh : t.all (hexD.contains ·) = false) => (trim_set ⟨#[48, 49, 50, 51, 52, 53, 54, 55, 56, 57, 97, 98, 99, 100, 101, 102]⟩ (txt t) w (by omega) (by decide) (ascii_of_all (by decide))).2 (by rw [data_txt]; exact hh))
        generalize txt t = TT at *
        by_cases h16 : t.length = 16
        · have e16 : ((TT.size : Int) != 16) = false := by simp; omega
          have H16 := Lib.hid h16
          clear hts
          cases hhex : t.all (hexD.contains ·)
          · have HT := Lib.hid (fun w => HTR2.out w hhex)
            have HX := Lib.hid hhex
            clear hhex HTR1 HTR2
            go_wp2_with
              (go_at_call 20; refine (HT.out _).mono ?_; rintro e wc ⟨⟨z, rfl, hz⟩, hb⟩
               have HC := Lib.hid (HB2.out.keep' hb)
               clear r0 r1 r2 r3 f0 f1 f2 f3 k0 k1 k2 k3 q0 q1 q2 q3 lg lt lW
               clear hb
               obtain ⟨_, ⟨r0, r1, r2, r3⟩, ⟨f0, f1, f2, f3⟩, _, _, _, _, lW⟩ := HC.out.facts)
            rw [tokR_2 HNx.out HNy.out HNz.out, if_neg (tagB_no2 HX.out)]
            exact read_end (four_below HC.out.tr.below (.int .i64 0) (.int .i64 0) (.int .i64 0) (.int .i64 0)) (four_sets HC.out.tr.res (.int .i64 0) (.int .i64 0) (.int .i64 0) (.int .i64 0)) rfl rfl rfl
          · have HT := Lib.hid (fun w => HTR1.out w hhex)
            have HX := Lib.hid hhex
            clear hhex HTR1 HTR2
            have hown := HO2.out
            have HOO := HO2
            go_wp2_with
              (go_at_call 20; refine (HT.out _).mono ?_; rintro e wc ⟨rfl, hb⟩
               have HC := Lib.hid (HB2.out.keep' hb)
               have HO := Lib.hid (owns_keep HOO.out hb)
               clear r0 r1 r2 r3 f0 f1 f2 f3 k0 k1 k2 k3 q0 q1 q2 q3 lg lt lW
               clear hb
               obtain ⟨hcs, ⟨r0, r1, r2, r3⟩, ⟨f0, f1, f2, f3⟩, ⟨k0, k1, k2, k3⟩, ⟨q0, q1, q2, q3⟩, lg, lt, lW⟩ := HC.out.facts
               clear hcs)
            rcases HO.out.2 with ⟨_, e0⟩ | ⟨gn, capn, cur, rfl, hgn, hbn, hn1, hn2, hn3, hn4⟩
            · cases e0
            have c0 := HO.out.cellAt 0 (by omega)
            have c1 := HO.out.cellAt 1 (by omega)
            have c2 := HO.out.cellAt 2 (by omega)
            simp at c0 c1 c2
            have lgn : gn < wc.heap.size := Blk.lt (t := 3) (cs := cur) hbn
            have gnt : tb ≠ gn := by omega
            have gnt' : gn ≠ tb := by omega
            clear hbn hn4
            have HTE := Lib.hid (TE.of_tk HC.out (by omega) lten)
            go_region
            go_wp2_with fail
            have HT4 : Hid (TE W tb #[.int .i64 2, .int .i64 (atoiN x), .int .i64 (atoiN y), .int .i64 (atoiN z)] (((wc.setCell ⟨tb, 1, none⟩ (.int .i64 (atoiN x))).setCell ⟨tb, 2, none⟩ (.int .i64 (atoiN y))).setCell ⟨tb, 3, none⟩ (.int .i64 (atoiN z))).drew) := Lib.hid (TE.drew (((HTE.out.set 1 (.int .i64 (atoiN x))).set 2 (.int .i64 (atoiN y))).set 3 (.int .i64 (atoiN z))))
            generalize (((wc.setCell ⟨tb, 1, none⟩ (.int .i64 (atoiN x))).setCell ⟨tb, 2, none⟩ (.int .i64 (atoiN y))).setCell ⟨tb, 3, none⟩ (.int .i64 (atoiN z))).drew = w4 at *
            clear r0 r1 r2 r3 f0 f1 f2 f3 k0 k1 k2 k3 q0 q1 q2 q3 lg lt lW HTE HC HO
            clear c0 c1 c2 lgn gnt gnt'
            have hrt := right_2 HNx.out HNy.out HNz.out
            have HBD := Lib.hid (token_body 2 (atoiN x) (atoiN y) (atoiN z) w4 HT4.out.tens hrt)
            unfold v4 at HBD
            have hbs := bodyS_size _ _ _ _ hrt
            clear hrt
            have HBE := Lib.hid (bodyS_2 HNx.out HNy.out HNz.out)
            have HTG := Lib.hid (fun w => mac_tagS key (bodyS 2 (atoiN x) (atoiN y) (atoiN z)) w (by omega))
            have hsz := tagS_size key (bodyS 2 (atoiN x) (atoiN y) (atoiN z))
            have hts2 : TT.size ≤ 1000000 := by have := congrArg List.length HTT.out; rw [size_data] at this; omega
            have HSM := Lib.hid (fun w => mac_same TT (tagS key (bodyS 2 (atoiN x) (atoiN y) (atoiN z))) w hts2 (by omega))
            have HEQ := Lib.hid (tag_eq key HTT.out HBE.out)
            clear hbs hsz hts2
            generalize bodyS 2 (atoiN x) (atoiN y) (atoiN z) = BS at *
            generalize tagS key BS = TG at *
            go_at_call 16
            refine HBD.out.mono ?_
            rintro e w5 ⟨rfl, hb5⟩
            have HT5 := Lib.hid (HT4.out.keep hb5)
            clear hb5
            go_wp2_with fail
            go_at_call 17
            refine (HTG.out _).mono ?_
            rintro e w6 ⟨rfl, hb6⟩
            have HT6 := Lib.hid (HT5.out.keep hb6)
            clear hb6
            go_wp2_with fail
            go_at_call 21
            refine (HSM.out _).mono ?_
            rintro e w7 ⟨rfl, hb7⟩
            have HT7 := Lib.hid (HT6.out.keep (same_below hb7))
            clear hb7
            obtain ⟨⟨r0, r1, r2, r3⟩, ⟨f0, f1, f2, f3⟩, ⟨k0, k1, k2, k3⟩, lW, lt⟩ := HT7.out.facts
            cases hq : decide (TT = TG)
            · have HQ := Lib.hid hq
              have hne := HEQ.out
              rw [hq] at hne
              clear hq
              have HNE := Lib.hid hne
              clear hne
              go_wp2_with fail
              rw [tokR_2 HNx.out HNy.out HNz.out, if_pos (tagB_yes H16.out HX.out), if_neg (by simpa using HNE.out)]
              exact read_end (four_below HT7.out.below (.int .i64 0) (.int .i64 0) (.int .i64 0) (.int .i64 0)) (four_sets HT7.out.res (.int .i64 0) (.int .i64 0) (.int .i64 0) (.int .i64 0)) rfl rfl rfl
            · have HQ := Lib.hid hq
              have hne := HEQ.out
              rw [hq] at hne
              clear hq
              have HNE := Lib.hid hne
              clear hne
              go_wp2_with fail
              rw [tokR_2 HNx.out HNy.out HNz.out, if_pos (tagB_yes H16.out HX.out), if_pos (by simpa using HNE.out)]
              exact read_end (four_below HT7.out.below _ _ _ _) (four_sets HT7.out.res _ _ _ _) rfl rfl rfl
        · have e16 : ((TT.size : Int) != 16) = true := by simp; omega
          clear hts
          have H16 := Lib.hid h16
          clear h16
          go_wp2_with fail
          rw [show tokR (fun B => tagL key B) [[97], x, y, z, t] = (3, 0, 0, 0, 0) from by rw [tokR_2 HNx.out HNy.out HNz.out, if_neg (tagB_no1 H16.out)]]
          exact read_end (four_below HB2.out.tr.below (.int .i64 0) (.int .i64 0) (.int .i64 0) (.int .i64 0)) (four_sets HB2.out.tr.res (.int .i64 0) (.int .i64 0) (.int .i64 0) (.int .i64 0)) rfl rfl rfl
end Go.Proofs.YtdfgegicfhcmeaaGreatDoor
