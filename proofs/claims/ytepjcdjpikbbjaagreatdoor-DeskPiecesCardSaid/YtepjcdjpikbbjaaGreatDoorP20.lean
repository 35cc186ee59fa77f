/-
  token.Read at an access token.
-/
import Derived.Test.YtepjcdjpikbbjaaGreatDoorP19
import Derived.Test.YtepjcdjpikbbjaaGreatDoorP04
namespace Go.Proofs.YtepjcdjpikbbjaaGreatDoor
open Go.RowKit Go.Sort

set_option maxHeartbeats 8000000 in
set_option maxRecDepth 100000 in
theorem tokRead_2 (key : Int) (s : ByteArray) (W : World) (hs : s.size ≤ 5000) (hm : MaxL W) (hT : Tens W) (hv : ErrVars W) (x y z t : List UInt8) (hL : parts 46 s.data.toList = [[97], x, y, z, t]) :
    Calls Tryz.prog 225 #[.int .i64 key, .string s] W (TokGot W (tokR (fun B => tagL key B) [[97], x, y, z, t])) := by
  have H := Lib.hid (tokRead_start key s W hs hm hT hv)
  have hlen : ∀ w ∈ [[97], x, y, z, t], w.length ≤ 5000 := by rw [← hL]; exact parts_word_len 46 _ _ (by rw [size_data]; exact hs)
  rw [hL] at H
  have hx : (txt x).size ≤ 1000000 := by rw [txt_size]; have := hlen x (by simp); omega
  have hy : (txt y).size ≤ 1000000 := by rw [txt_size]; have := hlen y (by simp); omega
  have hz : (txt z).size ≤ 1000000 := by rw [txt_size]; have := hlen z (by simp); omega
  have ht : t.length ≤ 5000 := hlen t (by simp)
  obtain ⟨i0, hi, hz0, hz1, hz2⟩ := info_parts intInfo
  have e1 : ((txt [97]).toList == [97]) = true := by rw [toList_txt]; decide
  have lten := hT.lt
  clear hm hT hv hL hlen
  go_enter Tryz.func225, Tryz.ntmps225
  go_wp2_with fail
  go_at_call 13
  refine H.out.mono ?_
  rintro e w1 ⟨v, rfl, h⟩
  obtain ⟨g, cap, rfl, hcap, hmax, hg1, hg2, hrl, hcells, _, _, _, _, _⟩ := h.facts
  have HTK := Lib.hid (TK.start h hg1 hg2 2)
  have hc0 := hcells 0 (by simp)
  clear h hcells
  simp only [List.length_cons, List.length_nil, Nat.zero_add, Nat.reduceAdd, List.getD_cons_zero] at hc0 hcap
  generalize txt [97] = rr at *
  go_wp2_with fail
  have hB0 : w1.heap.size + 1 = (w1.alloc (.cells #[.int .i64 2, .int .i64 0, .int .i64 0, .int .i64 0] 182)).heap.size := by simp
  generalize w1.alloc (.cells #[.int .i64 2, .int .i64 0, .int .i64 0, .int .i64 0] 182) = w2 at *
  have n1 := HTK.out.ne1
  have n2 := HTK.out.ne2
  have n3 := HTK.out.ne3
  clear hc0 hg1 hg2
  generalize w1.heap.size = tb at *
  obtain ⟨hcs, ⟨r0, r1, r2, r3⟩, ⟨f0, f1, f2, f3⟩, ⟨k0, k1, k2, k3⟩, ⟨q0, q1, q2, q3⟩, lg, lt, lW⟩ := HTK.out.facts
  refine wp_loop_rounds 4 ?_
  have hc := hcs 1 (by simp)
  simp at hc
  clear hcs
  rw [rounds_succ]
  go_wp2_with fail
  go_at_call 249
  refine (number_c (txt x) _ hx HTK.out.tr.tens HTK.out.tr.errs).mono ?_
  rintro e wa0 ⟨rfl, hb⟩
  rw [data_txt]
  have HA0 := Lib.hid (HTK.out.keep' hb)
  clear r0 r1 r2 r3 f0 f1 f2 f3 k0 k1 k2 k3 q0 q1 q2 q3 lg lt lW
  clear hc hb
  obtain ⟨hcs, ⟨r0, r1, r2, r3⟩, ⟨f0, f1, f2, f3⟩, ⟨k0, k1, k2, k3⟩, ⟨q0, q1, q2, q3⟩, lg, lt, lW⟩ := HA0.out.facts
  cases hnx : numB x
  · clear hcs
    go_wp2_with fail
    rw [show tokR (fun B => tagL key B) [[97], x, y, z, t] = (3, 0, 0, 0, 0) from tokR_none (by simp [tokP, hnx])]
    exact tok_end (four_below HA0.out.tr.below (.int .i64 0) (.int .i64 0) (.int .i64 0) (.int .i64 0)) (four_sets HA0.out.tr.res (.int .i64 0) (.int .i64 0) (.int .i64 0) (.int .i64 0)) rfl rfl rfl
  · have HNx := Lib.hid hnx
    clear hnx
    have HCS := Lib.hid hcs
    clear hcs
    go_wp2_with
      (at_builtin; refine wpList_append_own _ rfl _ _ 88 rfl (tb + 1) 3 i0 (.int .i64 0) 1 8 Tryz.underlying88 hi hz0 hz1 hz2 rfl (by decide) _ 0 [] rfl (World.ownsRow_nil _ _ _ _) ⟨wa0.heap.size, 0, none⟩ 1 1 [.int .i64 (atoiN x)] rfl rfl (cell_one_new _ _ _) (fun u hu => by simp at hu; subst hu; rfl) (by unfold maxLen; omega) (by omega) (by have := HA0.out.hB; simp; omega) ?_; intro v0 wb0 hown' hgrow hnil
       have HO0 := Lib.hid hown'
       have HB0 := Lib.hid ((HA0.out.keep' ((Below.refl _ _).alloc (Nat.le_refl _) _)).grown hgrow (fun i hi => by cases hi))
       clear hown' hgrow hnil)
    clear HCS
    clear r0 r1 r2 r3 f0 f1 f2 f3 k0 k1 k2 k3 q0 q1 q2 q3 lg lt lW
    obtain ⟨hcs, ⟨r0, r1, r2, r3⟩, ⟨f0, f1, f2, f3⟩, ⟨k0, k1, k2, k3⟩, ⟨q0, q1, q2, q3⟩, lg, lt, lW⟩ := HB0.out.facts
    have hc := hcs 2 (by simp)
    simp at hc
    clear hcs
    rw [rounds_succ]
    go_wp2_with fail
    go_at_call 249
    refine (number_c (txt y) _ hy HB0.out.tr.tens HB0.out.tr.errs).mono ?_
    rintro e wa1 ⟨rfl, hb⟩
    rw [data_txt]
    have HA1 := Lib.hid (HB0.out.keep' hb)
    have hown := owns_keep HO0.out hb
    clear r0 r1 r2 r3 f0 f1 f2 f3 k0 k1 k2 k3 q0 q1 q2 q3 lg lt lW
    clear hc hb
    obtain ⟨hcs, ⟨r0, r1, r2, r3⟩, ⟨f0, f1, f2, f3⟩, ⟨k0, k1, k2, k3⟩, ⟨q0, q1, q2, q3⟩, lg, lt, lW⟩ := HA1.out.facts
    cases hny : numB y
    · clear hcs
      go_wp2_with fail
      rw [show tokR (fun B => tagL key B) [[97], x, y, z, t] = (3, 0, 0, 0, 0) from tokR_none (by simp [tokP, HNx.out, hny])]
      exact tok_end (four_below HA1.out.tr.below (.int .i64 0) (.int .i64 0) (.int .i64 0) (.int .i64 0)) (four_sets HA1.out.tr.res (.int .i64 0) (.int .i64 0) (.int .i64 0) (.int .i64 0)) rfl rfl rfl
    · have HNy := Lib.hid hny
      have hownB := hown.lt
      clear hny
      have HCS := Lib.hid hcs
      clear hcs
      go_wp2_with
        (at_builtin; refine wpList_append_own _ rfl _ _ 88 rfl (tb + 1) 3 i0 (.int .i64 0) 1 8 Tryz.underlying88 hi hz0 hz1 hz2 rfl (by decide) _ 1 [.int .i64 (atoiN x)] rfl (hown.alloc _) ⟨wa1.heap.size, 0, none⟩ 1 1 [.int .i64 (atoiN y)] rfl rfl (cell_one_new _ _ _) (fun u hu => by simp at hu; subst hu; rfl) (by unfold maxLen; omega) (by omega) (by have := HA1.out.hB; simp; omega) ?_; intro v1 wb1 hown' hgrow hnil
         have HO1 := Lib.hid hown'
         have HB1 := Lib.hid ((HA1.out.keep' ((Below.refl _ _).alloc (Nat.le_refl _) _)).grown hgrow (fun i hi => (hownB i hi).1))
         clear hown' hgrow hnil)
      clear HCS
      clear r0 r1 r2 r3 f0 f1 f2 f3 k0 k1 k2 k3 q0 q1 q2 q3 lg lt lW
      obtain ⟨hcs, ⟨r0, r1, r2, r3⟩, ⟨f0, f1, f2, f3⟩, ⟨k0, k1, k2, k3⟩, ⟨q0, q1, q2, q3⟩, lg, lt, lW⟩ := HB1.out.facts
      clear hownB
      have hc := hcs 3 (by simp)
      simp at hc
      clear hcs
      rw [rounds_succ]
      go_wp2_with fail
      go_at_call 249
      refine (number_c (txt z) _ hz HB1.out.tr.tens HB1.out.tr.errs).mono ?_
      rintro e wa2 ⟨rfl, hb⟩
      rw [data_txt]
      have HA2 := Lib.hid (HB1.out.keep' hb)
      have hown := owns_keep HO1.out hb
      clear r0 r1 r2 r3 f0 f1 f2 f3 k0 k1 k2 k3 q0 q1 q2 q3 lg lt lW
      clear hc hb
      obtain ⟨hcs, ⟨r0, r1, r2, r3⟩, ⟨f0, f1, f2, f3⟩, ⟨k0, k1, k2, k3⟩, ⟨q0, q1, q2, q3⟩, lg, lt, lW⟩ := HA2.out.facts
      cases hnz : numB z
      · clear hcs
        go_wp2_with fail
        rw [show tokR (fun B => tagL key B) [[97], x, y, z, t] = (3, 0, 0, 0, 0) from tokR_none (by simp [tokP, HNx.out, HNy.out, hnz])]
        exact tok_end (four_below HA2.out.tr.below (.int .i64 0) (.int .i64 0) (.int .i64 0) (.int .i64 0)) (four_sets HA2.out.tr.res (.int .i64 0) (.int .i64 0) (.int .i64 0) (.int .i64 0)) rfl rfl rfl
      · have HNz := Lib.hid hnz
        have hownB := hown.lt
        clear hnz
        have HCS := Lib.hid hcs
        clear hcs
        go_wp2_with
          (at_builtin; refine wpList_append_own _ rfl _ _ 88 rfl (tb + 1) 3 i0 (.int .i64 0) 1 8 Tryz.underlying88 hi hz0 hz1 hz2 rfl (by decide) _ 2 [.int .i64 (atoiN x), .int .i64 (atoiN y)] rfl (hown.alloc _) ⟨wa2.heap.size, 0, none⟩ 1 1 [.int .i64 (atoiN z)] rfl rfl (cell_one_new _ _ _) (fun u hu => by simp at hu; subst hu; rfl) (by unfold maxLen; omega) (by omega) (by have := HA2.out.hB; simp; omega) ?_; intro v2 wb2 hown' hgrow hnil
           have HO2 := Lib.hid hown'
           have HB2 := Lib.hid ((HA2.out.keep' ((Below.refl _ _).alloc (Nat.le_refl _) _)).grown hgrow (fun i hi => (hownB i hi).1))
           clear hown' hgrow hnil)
        clear HCS
        clear r0 r1 r2 r3 f0 f1 f2 f3 k0 k1 k2 k3 q0 q1 q2 q3 lg lt lW
        obtain ⟨hcs, ⟨r0, r1, r2, r3⟩, ⟨f0, f1, f2, f3⟩, ⟨k0, k1, k2, k3⟩, ⟨q0, q1, q2, q3⟩, lg, lt, lW⟩ := HB2.out.facts
        clear hownB
        rw [rounds_succ]
        have hc := hcs 4 (by simp)
        simp at hc
        clear hcs
        have hts := txt_size t
        have HTT := Lib.hid (data_txt t)
        have HTR1 := Lib.hid (fun (w : World) (hh : t.all (hexD.contains ·) = true) => (trim_set ⟨#[48, 49, 50, 51, 52, 53, 54, 55, 56, 57, 97, 98, 99, 100, 101, 102]⟩ (txt t) w (by omega) (by decide) (ascii_of_all (by decide))).1 (by rw [data_txt]; exact hh))
        have HTR2 := Lib.hid (fun (w : World) (hh : t.all (hexD.contains ·) = false) => (trim_set ⟨#[48, 49, 50, 51, 52, 53, 54, 55, 56, 57, 97, 98, 99, 100, 101, 102]⟩ (txt t) w (by omega) (by decide) (ascii_of_all (by decide))).2 (by rw [data_txt]; exact hh))
        generalize txt t = TT at *
        by_cases h16 : t.length = 16
        · have e16 : ((TT.size : Int) != 16) = false := by simp; omega
          have H16 := Lib.hid h16
          clear hts
          cases hhex : t.all (hexD.contains ·)
          · have HT := Lib.hid (fun w => HTR2.out w hhex)
            have HX := Lib.hid hhex
            clear hhex HTR1 HTR2
            go_wp2_with
              (go_at_call 219; refine (HT.out _).mono ?_; rintro e wc ⟨⟨z, rfl, hz⟩, hb⟩
               have HC := Lib.hid (HB2.out.keep' hb)
               clear r0 r1 r2 r3 f0 f1 f2 f3 k0 k1 k2 k3 q0 q1 q2 q3 lg lt lW
               clear hb
               obtain ⟨_, ⟨r0, r1, r2, r3⟩, ⟨f0, f1, f2, f3⟩, _, _, _, _, lW⟩ := HC.out.facts)
            rw [tokR_2 HNx.out HNy.out HNz.out, if_neg (tagB_no2 HX.out)]
            exact tok_end (four_below HC.out.tr.below (.int .i64 0) (.int .i64 0) (.int .i64 0) (.int .i64 0)) (four_sets HC.out.tr.res (.int .i64 0) (.int .i64 0) (.int .i64 0) (.int .i64 0)) rfl rfl rfl
          · have HT := Lib.hid (fun w => HTR1.out w hhex)
            have HX := Lib.hid hhex
            clear hhex HTR1 HTR2
            have hown := HO2.out
            have HOO := HO2
            go_wp2_with
              (go_at_call 219; refine (HT.out _).mono ?_; rintro e wc ⟨rfl, hb⟩
               have HC := Lib.hid (HB2.out.keep' hb)
               have HO := Lib.hid (owns_keep HOO.out hb)
               clear r0 r1 r2 r3 f0 f1 f2 f3 k0 k1 k2 k3 q0 q1 q2 q3 lg lt lW
               clear hb
               obtain ⟨hcs, ⟨r0, r1, r2, r3⟩, ⟨f0, f1, f2, f3⟩, ⟨k0, k1, k2, k3⟩, ⟨q0, q1, q2, q3⟩, lg, lt, lW⟩ := HC.out.facts
               clear hcs)
            rcases HO.out.2 with ⟨_, e0⟩ | ⟨gn, capn, cur, rfl, hgn, hbn, hn1, hn2, hn3, hn4⟩
            · cases e0
            have c0 := HO.out.cellAt 0 (by omega)
            have c1 := HO.out.cellAt 1 (by omega)
            have c2 := HO.out.cellAt 2 (by omega)
            simp at c0 c1 c2
            have lgn : gn < wc.heap.size := Blk.lt (t := 3) (cs := cur) hbn
            have gnt : tb ≠ gn := by omega
            have gnt' : gn ≠ tb := by omega
            clear hbn hn4
            have HTE := Lib.hid (TE.of_tk HC.out (by omega) lten)
            go_region
            go_wp2_with fail
            have HT4 : Hid (TE W tb #[.int .i64 2, .int .i64 (atoiN x), .int .i64 (atoiN y), .int .i64 (atoiN z)] (((wc.setCell ⟨tb, 1, none⟩ (.int .i64 (atoiN x))).setCell ⟨tb, 2, none⟩ (.int .i64 (atoiN y))).setCell ⟨tb, 3, none⟩ (.int .i64 (atoiN z))).drew) := Lib.hid (TE.drew (((HTE.out.set 1 (.int .i64 (atoiN x))).set 2 (.int .i64 (atoiN y))).set 3 (.int .i64 (atoiN z))))
            generalize (((wc.setCell ⟨tb, 1, none⟩ (.int .i64 (atoiN x))).setCell ⟨tb, 2, none⟩ (.int .i64 (atoiN y))).setCell ⟨tb, 3, none⟩ (.int .i64 (atoiN z))).drew = w4 at *
            clear r0 r1 r2 r3 f0 f1 f2 f3 k0 k1 k2 k3 q0 q1 q2 q3 lg lt lW HTE HC HO
            clear c0 c1 c2 lgn gnt gnt'
            have hrt := right_2 HNx.out HNy.out HNz.out
            have HBD := Lib.hid (token_body 2 (atoiN x) (atoiN y) (atoiN z) w4 HT4.out.tens hrt)
            unfold v4 at HBD
            have hbs := bodyS_size _ _ _ _ hrt
            clear hrt
            have HBE := Lib.hid (bodyS_2 HNx.out HNy.out HNz.out)
            have HTG := Lib.hid (fun w => mac_tagS key (bodyS 2 (atoiN x) (atoiN y) (atoiN z)) w (by omega))
            have hsz := tagS_size key (bodyS 2 (atoiN x) (atoiN y) (atoiN z))
            have hts2 : TT.size ≤ 1000000 := by have := congrArg List.length HTT.out; rw [size_data] at this; omega
            have HSM := Lib.hid (fun w => mac_same TT (tagS key (bodyS 2 (atoiN x) (atoiN y) (atoiN z))) w hts2 (by omega))
            have HEQ := Lib.hid (tag_eq key HTT.out HBE.out)
            clear hbs hsz hts2
            generalize bodyS 2 (atoiN x) (atoiN y) (atoiN z) = BS at *
            generalize tagS key BS = TG at *
            go_at_call 192
            refine HBD.out.mono ?_
            rintro e w5 ⟨rfl, hb5⟩
            have HT5 := Lib.hid (HT4.out.keep hb5)
            clear hb5
            go_wp2_with fail
            go_at_call 107
            refine (HTG.out _).mono ?_
            rintro e w6 ⟨rfl, hb6⟩
            have HT6 := Lib.hid (HT5.out.keep hb6)
            clear hb6
            go_wp2_with fail
            go_at_call 250
            refine (HSM.out _).mono ?_
            rintro e w7 ⟨rfl, hb7⟩
            have HT7 := Lib.hid (HT6.out.keep (same_below hb7))
            clear hb7
            obtain ⟨⟨r0, r1, r2, r3⟩, ⟨f0, f1, f2, f3⟩, ⟨k0, k1, k2, k3⟩, lW, lt⟩ := HT7.out.facts
            cases hq : decide (TT = TG)
            · have HQ := Lib.hid hq
              have hne := HEQ.out
              rw [hq] at hne
              clear hq
              have HNE := Lib.hid hne
              clear hne
              go_wp2_with fail
              rw [tokR_2 HNx.out HNy.out HNz.out, if_pos (tagB_yes H16.out HX.out), if_neg (by simpa using HNE.out)]
              exact tok_end (four_below HT7.out.below (.int .i64 0) (.int .i64 0) (.int .i64 0) (.int .i64 0)) (four_sets HT7.out.res (.int .i64 0) (.int .i64 0) (.int .i64 0) (.int .i64 0)) rfl rfl rfl
            · have HQ := Lib.hid hq
              have hne := HEQ.out
              rw [hq] at hne
              clear hq
              have HNE := Lib.hid hne
              clear hne
              go_wp2_with fail
              rw [tokR_2 HNx.out HNy.out HNz.out, if_pos (tagB_yes H16.out HX.out), if_pos (by simpa using HNE.out)]
              exact tok_end (four_below HT7.out.below _ _ _ _) (four_sets HT7.out.res _ _ _ _) rfl rfl rfl
        · have e16 : ((TT.size : Int) != 16) = true := by simp; omega
          clear hts
          have H16 := Lib.hid h16
          clear h16
          go_wp2_with fail
          rw [show tokR (fun B => tagL key B) [[97], x, y, z, t] = (3, 0, 0, 0, 0) from by rw [tokR_2 HNx.out HNy.out HNz.out, if_neg (tagB_no1 H16.out)]]
          exact tok_end (four_below HB2.out.tr.below (.int .i64 0) (.int .i64 0) (.int .i64 0) (.int .i64 0)) (four_sets HB2.out.tr.res (.int .i64 0) (.int .i64 0) (.int .i64 0) (.int .i64 0)) rfl rfl rfl
end Go.Proofs.YtepjcdjpikbbjaaGreatDoor

/-
  token.Read: the token that any text is, or what is wrong with it.
-/
namespace Go.Proofs.YtepjcdjpikbbjaaGreatDoor
open Go.RowKit Go.Sort

theorem token_read (key : Int) (s : ByteArray) (W : World) (hs : s.size ≤ 5000) (hm : MaxL W) (hT : Tens W) (hv : ErrVars W) :
    Calls Tryz.prog 225 #[.int .i64 key, .string s] W (TokGot W (tokR (fun B => tagL key B) (parts 46 s.data.toList))) := by
  by_cases h1 : (parts 46 s.data.toList).getD 0 [] = [97]
  · by_cases h2 : (parts 46 s.data.toList).length = 5
    · rcases e : parts 46 s.data.toList with _ | ⟨a, _ | ⟨b, _ | ⟨c, _ | ⟨d, _ | ⟨t, _ | ⟨u, r⟩⟩⟩⟩⟩⟩
      all_goals (rw [e] at h1 h2; simp at h1 h2)
      subst h1
      exact tokRead_2 key s W hs hm hT hv b c d t e
    · rw [tokR_none (tokP_len2 h1 h2)]
      exact tokRead_form key s W hs hm hT hv (.inr (.inl ⟨h1, h2⟩))
  · by_cases h3 : (parts 46 s.data.toList).getD 0 [] = [114]
    · by_cases h2 : (parts 46 s.data.toList).length = 4
      · rcases e : parts 46 s.data.toList with _ | ⟨a, _ | ⟨b, _ | ⟨c, _ | ⟨d, _ | ⟨u, r⟩⟩⟩⟩⟩
        all_goals (rw [e] at h3 h2; simp at h3 h2)
        subst h3
        exact tokRead_1 key s W hs hm hT hv b c d e
      · rw [tokR_none (tokP_len1 h3 h2)]
        exact tokRead_form key s W hs hm hT hv (.inr (.inr ⟨h3, h2⟩))
    · rw [tokR_none (tokP_kind h1 h3)]
      exact tokRead_form key s W hs hm hT hv (.inl ⟨h1, h3⟩)
end Go.Proofs.YtepjcdjpikbbjaaGreatDoor

/-
  A service: live.
-/
namespace Go.Proofs.YtepjcdjpikbbjaaGreatDoor
open Go.RowKit Go.Sort

/-- what live gives: the token as it was read, the family (none, or the one of its number), what is wrong -/
def liveF (s : St) (q : Int × Int × Int × Int × Int) : Fam := if q.1 ≠ 0 then Fam.zero else (findF s.fams q.2.2.1).getD Fam.zero
def liveE (r : Ru) (s : St) (q : Int × Int × Int × Int × Int) (kind : Int) : Int :=
  if q.1 ≠ 0 then q.1 else if q.2.1 ≠ kind then 1 else match findF s.fams q.2.2.1 with
    | none => 7
    | some f => if f.dead then 6 else if oldB r s.clock f then 10 else 0
def LiveGot (r : Ru) (s : St) (q : Int × Int × Int × Int × Int) (kind : Int) (W : World) (e : Ending) (w' : World) : Prop :=
  e = .returned (.tuple #[v4 q.2.1 q.2.2.1 q.2.2.2.1 q.2.2.2.2, famVal (liveF s q), errV (liveE r s q kind)]) ∧ Below W.heap.size W w'
theorem results_row2_tmp {P : Program} {fn : Func} {p q u : Tmp} {ty tz : TypeId} (h : fn.results = #[.cell p ty, .cell q tz, .tmp u]) (tmps : Array Value) (w : World) (g g2 : Nat) (t t2 : TypeId) (cs cs2 : Array Value) (d d2 : TypeDesc) (x : Value)
    (hp : tmps.getD p undef = .pointer (some ⟨g, 0, none⟩)) (hq : tmps.getD q undef = .pointer (some ⟨g2, 0, none⟩)) (hx : tmps.getD u undef = x) (hg : Blk w g t cs) (hg2 : Blk w g2 t2 cs2)
    (hu : P.underlying ty = some d) (hd : (match d with | .struct _ | .array _ _ => true | _ => false) = true) (hi : (P.info? ty).map (·.size) = some cs.size)
    (hu2 : P.underlying tz = some d2) (hd2 : (match d2 with | .struct _ | .array _ _ => true | _ => false) = true) (hi2 : (P.info? tz).map (·.size) = some cs2.size) :
    (results fn tmps).run P w = .ok (.tuple #[.agg cs, .agg cs2, x]) w := by
  have e : (results fn tmps).run P w = ((asAddr (tmps.getD p undef)).run P w).andThen fun a w₁ => ((loadVar ty a).run P w₁).andThen fun v w₂ => ((asAddr (tmps.getD q undef)).run P w₂).andThen fun b w₃ => ((loadVar tz b).run P w₃).andThen fun v' w₄ => .ok (.tuple #[v, v', tmps.getD u undef]) w₄ := by
    simp only [results, h]
    simp [Sem.run_bind, Result.andThen]
  rw [e, hp, hq, hx]
  simp only [asAddr, Sem.run_pure, Result.andThen]
  rw [run_loadVar_row w g t ty cs (0, 0) d hg hu hd hi]
  simp only
  rw [run_loadVar_row w g2 t2 tz cs2 (0, 0) d2 hg2 hu2 hd2 hi2]
theorem live_end {r : Ru} {s : St} {q : Int × Int × Int × Int × Int} {kind : Int} {W w : World} {A : Act} {a b c d e : Int} {f : Fam} (hb : Below W.heap.size W w) (ht : Blk w W.heap.size 182 #[.int .i64 a, .int .i64 b, .int .i64 c, .int .i64 d]) (hf : Blk w (W.heap.size + 1) 95 (famCs f))
    (hp : A.tmps.getD 6 undef = .pointer (some ⟨W.heap.size, 0, none⟩)) (hq : A.tmps.getD 7 undef = .pointer (some ⟨W.heap.size + 1, 0, none⟩)) (hx : A.tmps.getD 8 undef = errV e) (hd : A.defers = []) (h1 : q.2 = (a, b, c, d)) (h2 : f = liveF s q) (h3 : e = liveE r s q kind) :
    bodyPost Tryz.prog Tryz.f183 (LiveGot r s q kind W) Exit.ret A w := by
  refine bodyPost_ret (results_row2_tmp rfl A.tmps w _ _ _ _ _ _ _ _ _ hp hq hx ht hf Tryz.underlying182 rfl (by kernel_rfl) Tryz.underlying95 rfl (by kernel_rfl)) hd ⟨?_, hb⟩
  rw [h1, ← h2, ← h3]
  rfl
/-- four stores, and nine -/
theorem thirteen_sets {w : World} {g g2 : Nat} {T T2 : TypeId} {a0 b0 c0 d0 : Value} {f0 : Fam} (h : Blk w g T #[a0, b0, c0, d0]) (h2 : Blk w g2 T2 (famCs f0)) (hne : g ≠ g2) (a b c d : Int) (f : Fam) : ∃ w', w' = (((((((((((((w.setCell ⟨g, 0, none⟩ (.int .i64 a)).setCell ⟨g, 1, none⟩ (.int .i64 b)).setCell ⟨g, 2, none⟩ (.int .i64 c)).setCell ⟨g, 3, none⟩ (.int .i64 d)).setCell ⟨g2, 0, none⟩ (.int .i64 f.id)).setCell ⟨g2, 1, none⟩ (.string f.client)).setCell ⟨g2, 2, none⟩ (.string f.subject)).setCell ⟨g2, 3, none⟩ (.string f.scope)).setCell ⟨g2, 4, none⟩ (.int .i64 f.gen)).setCell ⟨g2, 5, none⟩ (.int .i64 f.made)).setCell ⟨g2, 6, none⟩ (.int .i64 f.used)).setCell ⟨g2, 7, none⟩ (.string f.request)).setCell ⟨g2, 8, none⟩ (.bool f.dead)) ∧
    Blk w' g T #[.int .i64 a, .int .i64 b, .int .i64 c, .int .i64 d] ∧ Blk w' g2 T2 (famCs f) ∧ ∀ {B : Nat} {W : World}, Below B W w → B ≤ g → B ≤ g2 → B ≤ w.heap.size → Below B W w' := by
  have e0 := h.put_ 0 (.int .i64 a) (cs' := #[.int .i64 a, b0, c0, d0]) rfl
  have e1 := e0.put_ 1 (.int .i64 b) (cs' := #[.int .i64 a, .int .i64 b, c0, d0]) rfl
  have e2 := e1.put_ 2 (.int .i64 c) (cs' := #[.int .i64 a, .int .i64 b, .int .i64 c, d0]) rfl
  have e3 := e2.put_ 3 (.int .i64 d) (cs' := #[.int .i64 a, .int .i64 b, .int .i64 c, .int .i64 d]) rfl
  have g0 := only_set1 w g ⟨g, 0, none⟩ rfl (.int .i64 a)
  have g1 := only_setCell g0 (p := ⟨g, 1, none⟩) (.inl rfl) (.int .i64 b)
  have g2' := only_setCell g1 (p := ⟨g, 2, none⟩) (.inl rfl) (.int .i64 c)
  have g3 := only_setCell g2' (p := ⟨g, 3, none⟩) (.inl rfl) (.int .i64 d)
  have hf3 := h2.grown g3 (by simpa using hne.symm)
  obtain ⟨n1, n2⟩ := nine_sets hf3 f.id f.client f.subject f.scope f.gen f.made f.used f.request f.dead
  refine ⟨_, rfl, e3.grown n2 (by simpa using hne), n1, fun hb h1 h2' h3 => ?_⟩
  have hb3 := hb.grown g3 h3 (fun i hi => by cases hi; exact h1)
  exact hb3.grown n2 (Nat.le_trans h3 g3.size) (fun i hi => by cases hi; exact h2')
theorem tok_cells {w : World} {g : Nat} {T : TypeId} {a b c d : Value} (h : Blk w g T #[a, b, c, d]) : w.cell? ⟨g, 0, none⟩ = some a ∧ w.cell? ⟨g, 1, none⟩ = some b ∧ w.cell? ⟨g, 2, none⟩ = some c ∧ w.cell? ⟨g, 3, none⟩ = some d := ⟨h.cell 0, h.cell 1, h.cell 2, h.cell 3⟩
set_option maxHeartbeats 4000000 in
set_option maxRecDepth 100000 in
theorem svc_live {B vb sb db k : Nat} {r : Ru} {z : SS} {v : Value} {W : World} (h : SW B vb sb db k r z v W) (t : ByteArray) (kind : Int) (ht : t.size ≤ 5000) :
    Calls Tryz.prog 183 #[.pointer (some ⟨vb, 0, none⟩), .string t, .int .i64 kind] W (LiveGot r z.s (tokOf r t) kind W) := by
  have HTR : Hid (∀ w, SW B vb sb db k r z v w → Calls Tryz.prog 225 #[.int .i64 r.key, .string t] w (TokGot w (tokOf r t))) := Lib.hid fun w h => token_read r.key t w ht h.sx.env.maxl h.sx.env.tens h.sx.env.errs
  have HFD := Lib.hid (fun w id (h : SW B vb sb db k r z v w) => svc_find h id)
  have HST := Lib.hid (fun w (h : SW B vb sb db k r z v w) => (sx_state h.sx).mono fun _ _ h => got_as h)
  have hfit := h.sx.fit
  have hru := ruB_parts h.right
  have H := Lib.hid h
  clear h
  generalize tokOf r t = q at *
  obtain ⟨qe, qk, qf, qg, qd⟩ := q
  generalize z.s = s at *
  obtain ⟨ck, nx, L⟩ := s
  unfold TokGot v4 at HTR
  unfold GotAs at HST
  dsimp only at *
  have hal := alloc2 W (.cells #[.int .i64 0, .int .i64 0, .int .i64 0, .int .i64 0] 182) (.cells (famCs Fam.zero) 95)
  have HAL := Lib.hid hal
  have H1 := Lib.hid (H.out.keep hal)
  have HT1 := Lib.hid ((Blk.new W 182 #[.int .i64 0, .int .i64 0, .int .i64 0, .int .i64 0]).alloc (.cells (famCs Fam.zero) 95))
  have hf1 : Blk ((W.alloc (.cells #[.int .i64 0, .int .i64 0, .int .i64 0, .int .i64 0] 182)).alloc (.cells (famCs Fam.zero) 95)) (W.heap.size + 1) 95 (famCs Fam.zero) := by
    have := Blk.new (W.alloc (.cells #[.int .i64 0, .int .i64 0, .int .i64 0, .int .i64 0] 182)) 95 (famCs Fam.zero)
    rw [show (W.alloc (.cells #[.int .i64 0, .int .i64 0, .int .i64 0, .int .i64 0] 182)).heap.size = W.heap.size + 1 by simp] at this
    exact this
  have HF1 := Lib.hid hf1
  clear hal hf1 H
  unfold famCs Fam.zero at HAL H1 HT1 HF1
  dsimp only at HAL H1 HT1 HF1
  obtain ⟨c0, c1, c2, c3, c4, hlt⟩ := H1.out.five
  go_enter Tryz.func183, Tryz.ntmps183
  go_wp2_with fail
  go_at_call 225
  refine (HTR.out _ H1.out).mono ?_
  rintro e w1 ⟨rfl, hb⟩
  have HB1 := Lib.hid (below_2 HAL.out hb)
  have H2 := Lib.hid (H1.out.keep hb)
  have HT2 := Lib.hid (HT1.out.below' hb)
  have HF2 := Lib.hid (HF1.out.below' hb)
  clear hb H1 HT1 HF1 HAL c0 c1 c2 c3 c4 hlt HTR
  by_cases hq : qe = 0
  · subst hq
    have e0 : errV 0 = .nilIface := errV_0
    rw [e0]
    clear e0
    obtain ⟨c0, c1, c2, c3, c4, hlt⟩ := H2.out.five
    have hal := (Below.refl w1.heap.size w1).alloc (Nat.le_refl _) (.cells #[.int .i64 qk, .int .i64 qf, .int .i64 qg, .int .i64 qd] 182)
    have H3 := Lib.hid (H2.out.keep hal)
    have HT3 := Lib.hid (HT2.out.below' hal)
    have HF3 := Lib.hid (HF2.out.below' hal)
    have HB3 := Lib.hid (below_2 HB1.out hal)
    have HV3 := Lib.hid (Blk.new w1 182 #[.int .i64 qk, .int .i64 qf, .int .i64 qg, .int .i64 qd])
    clear hal
    go_wp2_with fail
    go_at_call 181
    have hF2l := HF2.out.lt
    clear c0 c1 c2 c3 c4 hlt H2 HT2 HF2 HB1
    refine (HFD.out _ _ H3.out).mono ?_
    generalize hw3 : w1.alloc (.cells #[.int .i64 qk, .int .i64 qf, .int .i64 qg, .int .i64 qd] 182) = w3 at *
    have htb0 : W.heap.size + 1 < w1.heap.size := hF2l
    generalize hv : w1.heap.size = tb at *
    clear hw3 hv
    rintro e w4 ⟨hb, ⟨f, hfd, hmem, rfl⟩ | ⟨hfd, rfl⟩⟩
    · have H4 := Lib.hid (H3.out.keep hb)
      have HT4 := Lib.hid (HT3.out.below' hb)
      have HF4 := Lib.hid (HF3.out.below' hb)
      have HV4 := Lib.hid (HV3.out.below' hb)
      have HB4 := Lib.hid (below_2 HB3.out hb)
      have HFDD := Lib.hid hfd
      obtain ⟨_, _, gm, gu, _⟩ := famB_parts (hfit.fams f hmem)
      have HADU := Lib.hid (fun w => svc_add f.used r.idle w (by have := okN_iff.1 gu; omega) (by have := okN_iff.1 hru.2.1; omega))
      have HADM := Lib.hid (fun w => svc_add f.made r.life w (by have := okN_iff.1 gm; omega) (by have := okN_iff.1 hru.2.2.1; omega))
      clear hb hfd hmem H3 HT3 HF3 HV3 HB3 HFD gm gu
      obtain ⟨i, cl, su, scp, ge, ma, us, re, de⟩ := f
      unfold famVal famCs
      dsimp only at *
      obtain ⟨c0, c1, c2, c3, c4, hlt⟩ := H4.out.five
      go_wp2_with fail
      have hal := (Below.refl w4.heap.size w4).alloc (Nat.le_refl _) (.cells #[.int .i64 i, .string cl, .string su, .string scp, .int .i64 ge, .int .i64 ma, .int .i64 us, .string re, .bool de] 95)
      have HG4 := Lib.hid (Blk.new w4 95 #[.int .i64 i, .string cl, .string su, .string scp, .int .i64 ge, .int .i64 ma, .int .i64 us, .string re, .bool de])
      have H5 := Lib.hid (H4.out.keep hal)
      have HT4b := Lib.hid (HT4.out.below' hal)
      have HF4b := Lib.hid (HF4.out.below' hal)
      have HV4b := Lib.hid (HV4.out.below' hal)
      have HB4b := Lib.hid (below_2 HB4.out hal)
      have hfl := HF4.out.lt
      clear hal HT4 HF4 HV4 HB4 H4 c0 c1 c2 c3 c4 hlt
      go_at_call 177
      refine (HST.out _ H5.out).mono ?_
      generalize w4.alloc (.cells #[.int .i64 i, .string cl, .string su, .string scp, .int .i64 ge, .int .i64 ma, .int .i64 us, .string re, .bool de] 95) = w4b at *
      have hfb0 : W.heap.size + 1 < w4.heap.size := hfl
      generalize w4.heap.size = fb at *
      rintro e w5 ⟨a5, ac5, rfl, hr5, hb⟩
      have H6 := Lib.hid (H5.out.keep hb)
      have HT5 := Lib.hid (HT4b.out.below' hb)
      have HF5 := Lib.hid (HF4b.out.below' hb)
      have HV5 := Lib.hid (HV4b.out.below' hb)
      have HG5 := Lib.hid (HG4.out.below' hb)
      have HB5 := Lib.hid (below_2 HB4b.out hb)
      clear hr5 hb H5 HT4b HF4b HV4b HB4b HG4 HST
      have hcl := st_clock ck nx a5 L.length ac5
      obtain ⟨_, _, d2, d3, _, hlt⟩ := H6.out.five
      obtain ⟨v0, v1, v2, v3⟩ := tok_cells HV5.out
      obtain ⟨g0, g1, g2, g3, g4, g5, g6, g7, g8⟩ := fam_cells (i := i) (cl := cl) (su := su) (sc := scp) (ge := ge) (ma := ma) (us := us) (re := re) (de := de) HG5.out
      obtain ⟨t0, t1, t2, t3⟩ := tok_cells HT5.out
      have htz := HT5.out.frozen
      obtain ⟨z0, z1, z2, z3, z4, z5, z6, z7, z8⟩ := fam_cells (i := 0) (cl := ⟨#[]⟩) (su := ⟨#[]⟩) (sc := ⟨#[]⟩) (ge := 0) (ma := 0) (us := 0) (re := ⟨#[]⟩) (de := false) HF5.out
      have hz := HF5.out.frozen
      by_cases hk : qk = kind
      · have hk' : (qk != kind) = false := by simpa using hk
        have HK := Lib.hid hk
        clear hk
        cases de
        · by_cases hu : capN us r.idle < ck
          · have hu' : decide (capN us r.idle < ck) = true := decide_eq_true hu

            go_wp2_with fail
            go_quiet ((first
              | (go_at_call 184; exact Calls.quiet_of_same ((HADU.out _).mono fun _ _ h => ⟨h.1, h.2.symm⟩))
              | (go_at_call 184; exact Calls.quiet_of_same ((HADM.out _).mono fun _ _ h => ⟨h.1, h.2.symm⟩))))
            go_wp2_with fail

            have ntb0 : tb ≠ W.heap.size := by omega
            have ntb1 : tb ≠ W.heap.size + 1 := by omega
            have nfb0 : fb ≠ W.heap.size := by omega
            have nfb1 : fb ≠ W.heap.size + 1 := by omega
            go_region
            go_wp2_with fail
            obtain ⟨_, rfl, n1, n2, n3⟩ := thirteen_sets (f0 := Fam.zero) (HT5.out.drewN (nq + 1)) (HF5.out.drewN (nq + 1)) (by omega) qk qf qg qd ⟨i, cl, su, scp, ge, ma, us, re, false⟩
            exact live_end (r := r) (q := (0, qk, qf, qg, qd)) (s := ⟨ck, nx, L⟩) (kind := kind) (e := 10) (f := ⟨i, cl, su, scp, ge, ma, us, re, false⟩) (n3 (below_drewN HB5.out (nq + 1)) (Nat.le_refl _) (Nat.le_succ _) HB5.out.size) n1 n2 rfl rfl (by rw [errV_n (show (10 : Int) ≠ 0 by decide)]; rfl) rfl rfl (by unfold liveF; rw [if_neg (show ¬ (0 : Int) ≠ 0 by decide)]; first | rw [HFDD.out]; rfl | rw [HFDD.out]) (by unfold liveE; rw [if_neg (show ¬ (0 : Int) ≠ 0 by decide)]; rw [if_neg (by rw [HK.out]; exact fun h => h rfl), HFDD.out]; simp [oldB, hu])
          · have hu' : decide (capN us r.idle < ck) = false := decide_eq_false hu
            by_cases hm : capN ma r.life < ck
            · have hm' : decide (capN ma r.life < ck) = true := decide_eq_true hm

              go_wp2_with fail
              go_quiet ((first
                | (go_at_call 184; exact Calls.quiet_of_same ((HADU.out _).mono fun _ _ h => ⟨h.1, h.2.symm⟩))
                | (go_at_call 184; exact Calls.quiet_of_same ((HADM.out _).mono fun _ _ h => ⟨h.1, h.2.symm⟩))))
              go_wp2_with fail

              have ntb0 : tb ≠ W.heap.size := by omega
              have ntb1 : tb ≠ W.heap.size + 1 := by omega
              have nfb0 : fb ≠ W.heap.size := by omega
              have nfb1 : fb ≠ W.heap.size + 1 := by omega
              go_region
              go_wp2_with fail
              obtain ⟨_, rfl, n1, n2, n3⟩ := thirteen_sets (f0 := Fam.zero) (HT5.out.drewN (nq + 1)) (HF5.out.drewN (nq + 1)) (by omega) qk qf qg qd ⟨i, cl, su, scp, ge, ma, us, re, false⟩
              exact live_end (r := r) (q := (0, qk, qf, qg, qd)) (s := ⟨ck, nx, L⟩) (kind := kind) (e := 10) (f := ⟨i, cl, su, scp, ge, ma, us, re, false⟩) (n3 (below_drewN HB5.out (nq + 1)) (Nat.le_refl _) (Nat.le_succ _) HB5.out.size) n1 n2 rfl rfl (by rw [errV_n (show (10 : Int) ≠ 0 by decide)]; rfl) rfl rfl (by unfold liveF; rw [if_neg (show ¬ (0 : Int) ≠ 0 by decide)]; first | rw [HFDD.out]; rfl | rw [HFDD.out]) (by unfold liveE; rw [if_neg (show ¬ (0 : Int) ≠ 0 by decide)]; rw [if_neg (by rw [HK.out]; exact fun h => h rfl), HFDD.out]; simp [oldB, hm])
            · have hm' : decide (capN ma r.life < ck) = false := decide_eq_false hm

              go_wp2_with fail
              go_quiet ((first
                | (go_at_call 184; exact Calls.quiet_of_same ((HADU.out _).mono fun _ _ h => ⟨h.1, h.2.symm⟩))
                | (go_at_call 184; exact Calls.quiet_of_same ((HADM.out _).mono fun _ _ h => ⟨h.1, h.2.symm⟩))))
              go_wp2_with fail

              have ntb0 : tb ≠ W.heap.size := by omega
              have ntb1 : tb ≠ W.heap.size + 1 := by omega
              have nfb0 : fb ≠ W.heap.size := by omega
              have nfb1 : fb ≠ W.heap.size + 1 := by omega
              go_region
              go_wp2_with fail
              obtain ⟨_, rfl, n1, n2, n3⟩ := thirteen_sets (f0 := Fam.zero) (HT5.out.drewN (nq + 1)) (HF5.out.drewN (nq + 1)) (by omega) qk qf qg qd ⟨i, cl, su, scp, ge, ma, us, re, false⟩
              exact live_end (r := r) (q := (0, qk, qf, qg, qd)) (s := ⟨ck, nx, L⟩) (kind := kind) (e := 0) (f := ⟨i, cl, su, scp, ge, ma, us, re, false⟩) (n3 (below_drewN HB5.out (nq + 1)) (Nat.le_refl _) (Nat.le_succ _) HB5.out.size) n1 n2 rfl rfl rfl rfl rfl (by unfold liveF; rw [if_neg (show ¬ (0 : Int) ≠ 0 by decide)]; first | rw [HFDD.out]; rfl | rw [HFDD.out]) (by unfold liveE; rw [if_neg (show ¬ (0 : Int) ≠ 0 by decide)]; rw [if_neg (by rw [HK.out]; exact fun h => h rfl), HFDD.out]; simp [oldB, hu, hm])
        · go_wp2_with (first
            | (go_at_call 184; (with_reducible refine (HADU.out _).mono ?_); rintro e w' ⟨rfl, rfl⟩)
            | (go_at_call 184; (with_reducible refine (HADM.out _).mono ?_); rintro e w' ⟨rfl, rfl⟩))

          have ntb0 : tb ≠ W.heap.size := by omega
          have ntb1 : tb ≠ W.heap.size + 1 := by omega
          have nfb0 : fb ≠ W.heap.size := by omega
          have nfb1 : fb ≠ W.heap.size + 1 := by omega
          go_region
          go_wp2_with fail
          obtain ⟨_, rfl, n1, n2, n3⟩ := thirteen_sets (f0 := Fam.zero) HT5.out HF5.out (by omega) qk qf qg qd ⟨i, cl, su, scp, ge, ma, us, re, true⟩
          exact live_end (r := r) (q := (0, qk, qf, qg, qd)) (s := ⟨ck, nx, L⟩) (kind := kind) (e := 6) (f := ⟨i, cl, su, scp, ge, ma, us, re, true⟩) (below_dr (n3 HB5.out (Nat.le_refl _) (Nat.le_succ _) HB5.out.size)) n1.drew n2.drew rfl rfl (by rw [errV_n (show (6 : Int) ≠ 0 by decide)]; rfl) rfl rfl (by unfold liveF; rw [if_neg (show ¬ (0 : Int) ≠ 0 by decide)]; first | rw [HFDD.out]; rfl | rw [HFDD.out]) (by unfold liveE; rw [if_neg (show ¬ (0 : Int) ≠ 0 by decide)]; rw [if_neg (by rw [HK.out]; exact fun h => h rfl), HFDD.out]; rfl)
      · have hk' : (qk != kind) = true := by simpa using hk

        go_wp2_with (first
          | (go_at_call 184; (with_reducible refine (HADU.out _).mono ?_); rintro e w' ⟨rfl, rfl⟩)
          | (go_at_call 184; (with_reducible refine (HADM.out _).mono ?_); rintro e w' ⟨rfl, rfl⟩))

        have ntb0 : tb ≠ W.heap.size := by omega
        have ntb1 : tb ≠ W.heap.size + 1 := by omega
        have nfb0 : fb ≠ W.heap.size := by omega
        have nfb1 : fb ≠ W.heap.size + 1 := by omega
        go_region
        go_wp2_with fail
        obtain ⟨_, rfl, n1, n2, n3⟩ := thirteen_sets (f0 := Fam.zero) HT5.out HF5.out (by omega) qk qf qg qd ⟨i, cl, su, scp, ge, ma, us, re, de⟩
        exact live_end (r := r) (q := (0, qk, qf, qg, qd)) (s := ⟨ck, nx, L⟩) (kind := kind) (e := 1) (f := ⟨i, cl, su, scp, ge, ma, us, re, de⟩) (below_dr (n3 HB5.out (Nat.le_refl _) (Nat.le_succ _) HB5.out.size)) n1.drew n2.drew rfl rfl (by rw [errV_n (show (1 : Int) ≠ 0 by decide)]; rfl) rfl rfl (by unfold liveF; rw [if_neg (show ¬ (0 : Int) ≠ 0 by decide)]; first | rw [HFDD.out]; rfl | rw [HFDD.out]) (by unfold liveE; rw [if_neg (show ¬ (0 : Int) ≠ 0 by decide)]; rw [if_pos hk])
    · have H4 := Lib.hid (H3.out.keep hb)
      have HT4 := Lib.hid (HT3.out.below' hb)
      have HF4 := Lib.hid (HF3.out.below' hb)
      have HV4 := Lib.hid (HV3.out.below' hb)
      have HB4 := Lib.hid (below_2 HB3.out hb)
      have HFDD := Lib.hid hfd
      have HADU := Lib.hid (fun w => svc_add 0 r.idle w (by omega) (by have := okN_iff.1 hru.2.1; omega))
      have HADM := Lib.hid (fun w => svc_add 0 r.life w (by omega) (by have := okN_iff.1 hru.2.2.1; omega))
      clear hb hfd H3 HT3 HF3 HV3 HB3 HFD
      unfold famVal famCs Fam.zero
      dsimp only at *
      obtain ⟨c0, c1, c2, c3, c4, hlt⟩ := H4.out.five
      go_wp2_with fail
      have hal := (Below.refl w4.heap.size w4).alloc (Nat.le_refl _) (.cells #[.int .i64 0, .string ⟨#[]⟩, .string ⟨#[]⟩, .string ⟨#[]⟩, .int .i64 0, .int .i64 0, .int .i64 0, .string ⟨#[]⟩, .bool false] 95)
      have HG4 := Lib.hid (Blk.new w4 95 #[.int .i64 0, .string ⟨#[]⟩, .string ⟨#[]⟩, .string ⟨#[]⟩, .int .i64 0, .int .i64 0, .int .i64 0, .string ⟨#[]⟩, .bool false])
      have H5 := Lib.hid (H4.out.keep hal)
      have HT4b := Lib.hid (HT4.out.below' hal)
      have HF4b := Lib.hid (HF4.out.below' hal)
      have HV4b := Lib.hid (HV4.out.below' hal)
      have HB4b := Lib.hid (below_2 HB4.out hal)
      have hfl := HF4.out.lt
      clear hal HT4 HF4 HV4 HB4 H4 c0 c1 c2 c3 c4 hlt
      go_at_call 177
      refine (HST.out _ H5.out).mono ?_
      generalize w4.alloc (.cells #[.int .i64 0, .string ⟨#[]⟩, .string ⟨#[]⟩, .string ⟨#[]⟩, .int .i64 0, .int .i64 0, .int .i64 0, .string ⟨#[]⟩, .bool false] 95) = w4b at *
      have hfb0 : W.heap.size + 1 < w4.heap.size := hfl
      generalize w4.heap.size = fb at *
      rintro e w5 ⟨a5, ac5, rfl, hr5, hb⟩
      have H6 := Lib.hid (H5.out.keep hb)
      have HT5 := Lib.hid (HT4b.out.below' hb)
      have HF5 := Lib.hid (HF4b.out.below' hb)
      have HV5 := Lib.hid (HV4b.out.below' hb)
      have HG5 := Lib.hid (HG4.out.below' hb)
      have HB5 := Lib.hid (below_2 HB4b.out hb)
      clear hr5 hb H5 HT4b HF4b HV4b HB4b HG4 HST
      have hcl := st_clock ck nx a5 L.length ac5
      obtain ⟨_, _, d2, d3, _, hlt⟩ := H6.out.five
      obtain ⟨v0, v1, v2, v3⟩ := tok_cells HV5.out
      obtain ⟨g0, g1, g2, g3, g4, g5, g6, g7, g8⟩ := fam_cells (i := 0) (cl := ⟨#[]⟩) (su := ⟨#[]⟩) (sc := ⟨#[]⟩) (ge := 0) (ma := 0) (us := 0) (re := ⟨#[]⟩) (de := false) HG5.out
      obtain ⟨t0, t1, t2, t3⟩ := tok_cells HT5.out
      have htz := HT5.out.frozen
      obtain ⟨z0, z1, z2, z3, z4, z5, z6, z7, z8⟩ := fam_cells (i := 0) (cl := ⟨#[]⟩) (su := ⟨#[]⟩) (sc := ⟨#[]⟩) (ge := 0) (ma := 0) (us := 0) (re := ⟨#[]⟩) (de := false) HF5.out
      have hz := HF5.out.frozen
      by_cases hk : qk = kind
      · have hk' : (qk != kind) = false := by simpa using hk
        have HK := Lib.hid hk
        clear hk

        go_wp2_with (first
          | (go_at_call 184; (with_reducible refine (HADU.out _).mono ?_); rintro e w' ⟨rfl, rfl⟩)
          | (go_at_call 184; (with_reducible refine (HADM.out _).mono ?_); rintro e w' ⟨rfl, rfl⟩))

        have ntb0 : tb ≠ W.heap.size := by omega
        have ntb1 : tb ≠ W.heap.size + 1 := by omega
        have nfb0 : fb ≠ W.heap.size := by omega
        have nfb1 : fb ≠ W.heap.size + 1 := by omega
        go_region
        go_wp2_with fail
        obtain ⟨_, rfl, n1, n2, n3⟩ := thirteen_sets (f0 := Fam.zero) HT5.out HF5.out (by omega) qk qf qg qd Fam.zero
        exact live_end (r := r) (q := (0, qk, qf, qg, qd)) (s := ⟨ck, nx, L⟩) (kind := kind) (e := 7) (f := Fam.zero) (below_dr (n3 HB5.out (Nat.le_refl _) (Nat.le_succ _) HB5.out.size)) n1.drew n2.drew rfl rfl (by rw [errV_n (show (7 : Int) ≠ 0 by decide)]; rfl) rfl rfl (by unfold liveF; rw [if_neg (show ¬ (0 : Int) ≠ 0 by decide)]; first | rw [HFDD.out]; rfl | rw [HFDD.out]) (by unfold liveE; rw [if_neg (show ¬ (0 : Int) ≠ 0 by decide)]; rw [if_neg (by rw [HK.out]; exact fun h => h rfl), HFDD.out])
      · have hk' : (qk != kind) = true := by simpa using hk

        go_wp2_with (first
          | (go_at_call 184; (with_reducible refine (HADU.out _).mono ?_); rintro e w' ⟨rfl, rfl⟩)
          | (go_at_call 184; (with_reducible refine (HADM.out _).mono ?_); rintro e w' ⟨rfl, rfl⟩))

        have ntb0 : tb ≠ W.heap.size := by omega
        have ntb1 : tb ≠ W.heap.size + 1 := by omega
        have nfb0 : fb ≠ W.heap.size := by omega
        have nfb1 : fb ≠ W.heap.size + 1 := by omega
        go_region
        go_wp2_with fail
        obtain ⟨_, rfl, n1, n2, n3⟩ := thirteen_sets (f0 := Fam.zero) HT5.out HF5.out (by omega) qk qf qg qd Fam.zero
        exact live_end (r := r) (q := (0, qk, qf, qg, qd)) (s := ⟨ck, nx, L⟩) (kind := kind) (e := 1) (f := Fam.zero) (below_dr (n3 HB5.out (Nat.le_refl _) (Nat.le_succ _) HB5.out.size)) n1.drew n2.drew rfl rfl (by rw [errV_n (show (1 : Int) ≠ 0 by decide)]; rfl) rfl rfl (by unfold liveF; rw [if_neg (show ¬ (0 : Int) ≠ 0 by decide)]; first | rw [HFDD.out]; rfl | rw [HFDD.out]) (by unfold liveE; rw [if_neg (show ¬ (0 : Int) ≠ 0 by decide)]; rw [if_pos hk])
  · have e0 : errV qe = .iface 57 (.int .i64 qe) := errV_n hq
    rw [e0]
    clear e0
    obtain ⟨t0, t1, t2, t3⟩ := tok_cells HT2.out
    have htz := HT2.out.frozen
    obtain ⟨z0, z1, z2, z3, z4, z5, z6, z7, z8⟩ := fam_cells (i := 0) (cl := ⟨#[]⟩) (su := ⟨#[]⟩) (sc := ⟨#[]⟩) (ge := 0) (ma := 0) (us := 0) (re := ⟨#[]⟩) (de := false) HF2.out
    have hz := HF2.out.frozen
    have hw1 : W.heap.size + 1 < w1.heap.size := HF2.out.lt
    have hw0 : W.heap.size < w1.heap.size := HT2.out.lt
    go_wp2_with fail
    obtain ⟨_, rfl, n1, n2, n3⟩ := thirteen_sets (f0 := Fam.zero) HT2.out HF2.out (by omega) qk qf qg qd Fam.zero
    exact live_end ((n3 HB1.out (Nat.le_refl _) (Nat.le_succ _) (by omega)).alloc (by simp; omega) _) (n1.alloc _) (n2.alloc _) rfl rfl (by rw [errV_n hq]; rfl) rfl rfl (by unfold liveF; rw [if_pos hq]) (by unfold liveE; rw [if_pos hq])
end Go.Proofs.YtepjcdjpikbbjaaGreatDoor

/-
  A service: Grant.
-/
namespace Go.Proofs.YtepjcdjpikbbjaaGreatDoor
open Go.RowKit Go.Sort

/-- what a call that has a plan comes to: a text, and what is wrong -/
def PlanS (W : World) (B vb sb db k : Nat) (r : Ru) (z : SS) (p : Plan ByteArray) (e : Ending) (w' : World) : Prop :=
  e = .returned (.tuple #[.string (doPlan noneS z p).2.1, errV (doPlan noneS z p).2.2]) ∧ Two sb db W w' ∧ ∃ v', SW B vb sb db (k + 1) r (doPlan noneS z p).1 v' w'
theorem PlanS.say {W w : World} {B vb sb db k : Nat} {r : Ru} {z : SS} {v : Value} {t : ByteArray} {c : Int} (h : SW B vb sb db k r z v w) (hb : Below W.heap.size W w) (u : Value) (hu : u = errV c) : PlanS W B vb sb db k r z (.say t c) (.returned (.tuple #[.string t, u])) w :=
  ⟨by rw [hu]; rfl, Two.of_below hb, v, h.later⟩
theorem PlanS.bad {W w : World} {B vb sb db k : Nat} {r : Ru} {z : SS} {v' : Value} {ev : Ev} {t : ByteArray} {c : Int} (hc : (addS z ev).2 ≠ 0) (ht : Two sb db W w) (h : SW B vb sb db (k + 1) r (addS z ev).1 v' w) : PlanS W B vb sb db k r z (.put ev t c) (.returned (.tuple #[.string noneS, errV (addS z ev).2])) w := by
  have e : doPlan noneS z (.put ev t c) = ((addS z ev).1, noneS, (addS z ev).2) := if_neg hc
  unfold PlanS
  rw [e]
  exact ⟨rfl, ht, v', h⟩
theorem PlanS.good {W w : World} {B vb sb db k : Nat} {r : Ru} {z : SS} {v' : Value} {ev : Ev} {t : ByteArray} {c : Int} (hc : (addS z ev).2 = 0) (ht : Two sb db W w) (h : SW B vb sb db (k + 1) r (addS z ev).1 v' w) (u : Value) (hu : u = errV c) : PlanS W B vb sb db k r z (.put ev t c) (.returned (.tuple #[.string t, u])) w := by
  have e : doPlan noneS z (.put ev t c) = ((addS z ev).1, t, c) := if_pos hc
  unfold PlanS
  rw [e, hu]
  exact ⟨rfl, ht, v', h⟩
theorem SW.tm {B vb sb db k : Nat} {r : Ru} {z : SS} {v : Value} {w : World} (h : SW B vb sb db k r z v w) : Tens w ∧ MaxL w ∧ ErrVars w := ⟨h.sx.env.tens, h.sx.env.maxl, h.sx.env.errs⟩
section
variable {B vb sb db k : Nat} {r : Ru} {z : SS} {v : Value} {W : World}
set_option maxHeartbeats 4000000 in
set_option maxRecDepth 100000 in
theorem svc_grant (h : SW B vb sb db k r z v W) (hk : k < 1000000) (client subject sc : ByteArray) (h1 : client.size ≤ 5000) (h2 : subject.size ≤ 5000) (h3 : sc.size ≤ 5000) :
    Calls Tryz.prog 123 #[.pointer (some ⟨vb, 0, none⟩), .string client, .string subject, .string sc] W (PlanS W B vb sb db k r z (grantP r z.s client subject sc)) := by
  have HN1 := Lib.hid (fun w => ev_name client w h1)
  have HN2 := Lib.hid (fun w => ev_name subject w h2)
  have HLS := Lib.hid (fun w hm => scope_least_any sc w h3 hm)
  have HST := Lib.hid (fun w (h : SW B vb sb db k r z v w) => (sx_state h.sx).mono fun _ _ h => got_as h)
  have H := Lib.hid h
  clear h
  rcases hn1 : nameB client.data.toList with _ | _
  · have hp : grantP r z.s client subject sc = .say noneS 1 := by unfold grantP; rw [hn1]; rfl
    have HP := Lib.hid hp
    rw [hn1] at HN1
    clear hp hn1
    go_enter Tryz.func123, Tryz.ntmps123
    go_wp2_with fail
    go_at_call 178
    refine (HN1.out _).mono ?_
    rintro e w1 ⟨rfl, hb⟩
    have H1 := Lib.hid (H.out.keep hb)
    have HB1 := Lib.hid hb
    clear hb
    go_wp2_with fail
    go_ret2
    rw [HP.out]
    exact PlanS.say H1.out HB1.out _ (errV_n (by decide)).symm
  · rw [hn1] at HN1
    rcases hn2 : nameB subject.data.toList with _ | _
    · have hp : grantP r z.s client subject sc = .say noneS 1 := by unfold grantP; rw [hn1, hn2]; rfl
      have HP := Lib.hid hp
      rw [hn2] at HN2
      clear hp hn1 hn2
      go_enter Tryz.func123, Tryz.ntmps123
      go_wp2_with fail
      go_at_call 178
      refine (HN1.out _).mono ?_
      rintro e w1 ⟨rfl, hb⟩
      have H1 := Lib.hid (H.out.keep hb)
      have HB1 := Lib.hid hb
      clear hb
      go_wp2_with fail
      go_at_call 178
      refine (HN2.out _).mono ?_
      rintro e w2 ⟨rfl, hb⟩
      have H2 := Lib.hid (H1.out.keep hb)
      have HB2 := Lib.hid (below_2 HB1.out hb)
      clear hb
      go_wp2_with fail
      go_ret2
      rw [HP.out]
      exact PlanS.say H2.out HB2.out _ (errV_n (by decide)).symm
    · rw [hn2] at HN2
      have HNA := Lib.hid (show (nameB client.data.toList && nameB subject.data.toList) = true by rw [hn1, hn2]; rfl)
      have HNN := Lib.hid (And.intro hn1 hn2)
      clear hn1 hn2
      go_enter Tryz.func123, Tryz.ntmps123
      go_wp2_with fail
      go_at_call 178
      refine (HN1.out _).mono ?_
      rintro e w1 ⟨rfl, hb⟩
      have H1 := Lib.hid (H.out.keep hb)
      have HB1 := Lib.hid hb
      clear hb HN1
      go_wp2_with fail
      go_at_call 178
      refine (HN2.out _).mono ?_
      rintro e w2 ⟨rfl, hb⟩
      have H2 := Lib.hid (H1.out.keep hb)
      have HB2 := Lib.hid (below_2 HB1.out hb)
      clear hb HN2 H1 HB1
      go_wp2_with fail
      go_at_call 126
      refine (HLS.out _ H2.out.tm.2.1).mono ?_
      rintro e w3 ⟨rfl, hb⟩
      have H3 := Lib.hid (H2.out.keep hb)
      have HB3 := Lib.hid (below_2 HB2.out hb)
      clear hb HLS H2 HB2
      by_cases hsn : scopeN sc.data.toList = 0
      · have e0 : errV (scopeN sc.data.toList) = .nilIface := by rw [hsn]; exact errV_0
        rw [e0]
        have HSN := Lib.hid hsn
        clear e0 hsn
        obtain ⟨c0, c1, c2, c3, c4, hlt⟩ := H3.out.five
        go_wp2_with fail
        go_at_call 177
        refine (HST.out _ H3.out).mono ?_
        rintro e w4 ⟨a4, ac4, rfl, hr4, hb⟩
        have H4 := Lib.hid (H3.out.keep hb)
        have HB4 := Lib.hid (below_2 HB3.out hb)
        clear hr4 hb H3 HB3 HST c0 c1 c2 c3 c4 hlt
        by_cases hnx : 1099511627776 < z.s.next
        · have hp : grantP r z.s client subject sc = .say noneS 4 := by unfold grantP; rw [HNA.out, if_neg (by decide), if_neg (by rw [HSN.out]; decide), if_pos hnx]
          have HP := Lib.hid hp
          have hal := (Below.refl w4.heap.size w4).alloc (Nat.le_refl _) (.cells #[.int .i64 z.s.clock, .int .i64 z.s.next, .slice a4 z.s.fams.length ac4] 83)
          have HAL := Lib.hid hal
          clear hp hal
          go_wp2_with fail
          go_ret2
          rw [HP.out]
          exact PlanS.say (H4.out.keep HAL.out) (below_2 HB4.out HAL.out) _ (errV_n (by decide)).symm
        · by_cases hln : 20 ≤ z.s.fams.length
          · have hp : grantP r z.s client subject sc = .say noneS 12 := by unfold grantP; rw [HNA.out, if_neg (by decide), if_neg (by rw [HSN.out]; decide), if_neg hnx, if_pos hln]
            have HP := Lib.hid hp
            have hal := (Below.refl w4.heap.size w4).alloc (Nat.le_refl _) (.cells #[.int .i64 z.s.clock, .int .i64 z.s.next, .slice a4 z.s.fams.length ac4] 83)
            have HAL := Lib.hid hal
            clear hp hal
            go_wp2_with fail
            go_ret2
            rw [HP.out]
            exact PlanS.say (H4.out.keep HAL.out) (below_2 HB4.out HAL.out) _ (errV_n (by decide)).symm
          · have hp : grantP r z.s client subject sc = .put (putEv (grantF z.s client subject sc)) (refreshS r (grantF z.s client subject sc)) 0 := by unfold grantP; rw [HNA.out, if_neg (by decide), if_neg (by rw [HSN.out]; decide), if_neg hnx, if_neg hln]
            have HP := Lib.hid hp
            have hal := alloc2 w4 (.cells #[.int .i64 z.s.clock, .int .i64 z.s.next, .slice a4 z.s.fams.length ac4] 83) (.cells (famCs (grantF z.s client subject sc)) 95)
            have hfb : Blk ((w4.alloc (.cells #[.int .i64 z.s.clock, .int .i64 z.s.next, .slice a4 z.s.fams.length ac4] 83)).alloc (.cells (famCs (grantF z.s client subject sc)) 95)) (w4.heap.size + 1) 95 (famCs (grantF z.s client subject sc)) := by
              have := Blk.new (w4.alloc (.cells #[.int .i64 z.s.clock, .int .i64 z.s.next, .slice a4 z.s.fams.length ac4] 83)) 95 (famCs (grantF z.s client subject sc))
              rw [show (w4.alloc (.cells #[.int .i64 z.s.clock, .int .i64 z.s.next, .slice a4 z.s.fams.length ac4] 83)).heap.size = w4.heap.size + 1 by simp] at this
              exact this
            have HFB := Lib.hid hfb
            have H5 := Lib.hid (H4.out.keep hal)
            have HB5 := Lib.hid (below_2 HB4.out hal)
            have hfit := H4.out.sx.fit
            have hnM := okM_iff.1 hfit.next
            have hidN : okN z.s.next = true := okN_iff.2 (by omega)
            have hlst := leastL_len sc.data.toList
            have hcn := nameB_len HNN.out.1
            have hsn9 := nameB_len HNN.out.2
            have hshort : (grantF z.s client subject sc).short 5000 := by
              unfold grantF Fam.short noneS
              dsimp only
              rw [txt_size_]
              have e1 : client.size = client.data.toList.length := (size_data client).symm
              have e2 : subject.size = subject.data.toList.length := (size_data subject).symm
              refine ⟨by omega, by omega, by omega, by show 0 ≤ 5000; omega⟩
            have HPT := Lib.hid (fun w (h : SW B vb sb db k r z v w) => svc_put h hk (grantF z.s client subject sc) hshort)
            have HRF := Lib.hid (fun w z' v' (h : SW B vb sb db (k + 1) r z' v' w) => svc_refresh h (grantF z.s client subject sc) hidN (show okN 0 = true by decide))
            unfold famVal at HPT HRF
            generalize hQ : addS z (putEv (grantF z.s client subject sc)) = Q at *
            have HQ := Lib.hid hQ
            generalize hX : refreshS r (grantF z.s client subject sc) = X at *
            generalize hF : putEv (grantF z.s client subject sc) = FE at *
            unfold grantF famCs at HPT HRF HFB H5 HB5
            unfold noneS at HPT HRF HFB H5 HB5
            dsimp only at HPT HRF HFB H5 HB5
            clear hX hF hQ
            clear hp hal hfb hfit hnM hidN hlst hcn hsn9 hshort H4 HB4
            go_wp2_with fail
            go_at_call 179
            refine (HPT.out _ H5.out).mono ?_
            rintro e w6 ⟨rfl, htw, v6, h6⟩
            have H6 := Lib.hid h6
            have HT6 := Lib.hid ((Two.of_below HB5.out).trans htw)
            have HF6 := Lib.hid (HFB.out.two htw (H5.out.sx.apart HFB.out (by decide) (by decide)).1 (H5.out.sx.apart HFB.out (by decide) (by decide)).2)
            clear htw h6 HFB H5 HB5 HPT
            by_cases hq : Q.2 = 0
            · have e0 : errV Q.2 = .nilIface := by rw [hq]; exact errV_0
              rw [e0]
              have HQ0 := Lib.hid hq
              clear e0 hq
              obtain ⟨f0, f1, f2, f3, f4, f5, f6, f7, f8⟩ := fam_cells HF6.out
              go_wp2_with fail
              go_at_call 180
              refine (HRF.out _ _ _ H6.out).mono ?_
              rintro e w7 ⟨rfl, hb⟩
              have H7 := Lib.hid (H6.out.keep hb)
              have HT7 := Lib.hid (HT6.out.trans (Two.of_below hb))
              clear hb H6 HT6 f0 f1 f2 f3 f4 f5 f6 f7 f8 HF6
              go_wp2_with fail
              go_ret2
              rw [HP.out]
              exact PlanS.good (by rw [HQ.out]; exact HQ0.out) HT7.out (by rw [HQ.out]; exact H7.out) _ errV_0.symm
            · have e0 : errV Q.2 = .iface 57 (.int .i64 Q.2) := errV_n hq
              have HE0 := Lib.hid e0
              rw [e0]
              have HQ0 := Lib.hid hq
              clear e0 hq
              go_wp2_with fail
              go_ret2
              rw [HP.out, ← HE0.out, ← HQ.out]
              exact PlanS.bad (by rw [HQ.out]; exact HQ0.out) HT6.out (by rw [HQ.out]; exact H6.out)
      · have e0 : errV (scopeN sc.data.toList) = .iface 57 (.int .i64 (scopeN sc.data.toList)) := errV_n hsn
        have hp : grantP r z.s client subject sc = .say noneS (scopeN sc.data.toList) := by unfold grantP; rw [HNA.out, if_neg (by decide), if_pos hsn]
        have HP := Lib.hid hp
        have HE0 := Lib.hid e0
        rw [e0]
        clear e0 hp hsn
        go_wp2_with fail
        go_ret2
        rw [HP.out]
        exact PlanS.say H3.out HB3.out _ HE0.out.symm
end
end Go.Proofs.YtepjcdjpikbbjaaGreatDoor

/-
  A service: Kill, Tick.
-/
namespace Go.Proofs.YtepjcdjpikbbjaaGreatDoor
open Go.RowKit Go.Sort

/-- what a call that has a plan comes to: what is wrong -/
def PlanU (W : World) (B vb sb db k : Nat) (r : Ru) (z : SS) (p : Plan Unit) (e : Ending) (w' : World) : Prop :=
  e = .returned (errV (doPlan () z p).2.2) ∧ Two sb db W w' ∧ ∃ v', SW B vb sb db (k + 1) r (doPlan () z p).1 v' w'
theorem PlanU.say {W w : World} {B vb sb db k : Nat} {r : Ru} {z : SS} {v : Value} {c : Int} (h : SW B vb sb db k r z v w) (hb : Below W.heap.size W w) (u : Value) (hu : u = errV c) : PlanU W B vb sb db k r z (.say () c) (.returned u) w :=
  ⟨by rw [hu]; rfl, Two.of_below hb, v, h.later⟩
theorem PlanU.put {W w : World} {B vb sb db k : Nat} {r : Ru} {z : SS} {v' : Value} {ev : Ev} (ht : Two sb db W w) (h : SW B vb sb db (k + 1) r (addS z ev).1 v' w) : PlanU W B vb sb db k r z (.put ev () 0) (.returned (errV (addS z ev).2)) w := by
  by_cases hc : (addS z ev).2 = 0
  · have e : doPlan () z (.put ev () 0) = ((addS z ev).1, (), 0) := if_pos hc
    unfold PlanU
    rw [e, hc]
    exact ⟨rfl, ht, v', h⟩
  · have e : doPlan () z (.put ev () 0) = ((addS z ev).1, (), (addS z ev).2) := if_neg hc
    unfold PlanU
    rw [e]
    exact ⟨rfl, ht, v', h⟩
section
variable {B vb sb db k : Nat} {r : Ru} {z : SS} {v : Value} {W : World}
set_option maxHeartbeats 4000000 in
set_option maxRecDepth 100000 in
theorem svc_kill (h : SW B vb sb db k r z v W) (hk : k < 1000000) (id : Int) :
    Calls Tryz.prog 125 #[.pointer (some ⟨vb, 0, none⟩), .int .i64 id] W (PlanU W B vb sb db k r z (killP z.s id)) := by
  have HFD := Lib.hid (svc_find h id)
  have hfit := h.sx.fit
  have H := Lib.hid h
  clear h
  go_enter Tryz.func125, Tryz.ntmps125
  go_wp2_with fail
  go_at_call 181
  refine HFD.out.mono ?_
  rintro e w1 ⟨hb, ⟨f, hfd, hmem, rfl⟩ | ⟨hfd, rfl⟩⟩
  · have H1 := Lib.hid (H.out.keep hb)
    have HB1 := Lib.hid hb
    have hfb := hfit.fams f hmem
    rcases hd : f.dead with _ | _
    · have hp : killP z.s id = .put (putEv (deadF f)) () 0 := by unfold killP; rw [hfd]; simp [hd]
      have HP := Lib.hid hp
      have hsh := fam_short hfb
      have hsh2 : (deadF f).short 5000 := hsh
      have HPT := Lib.hid (fun w (h : SW B vb sb db k r z v w) => svc_put h hk (deadF f) hsh2)
      generalize hQ : addS z (putEv (deadF f)) = Q at *
      have HQ := Lib.hid hQ
      generalize putEv (deadF f) = FE at *
      unfold famVal deadF at HPT
      obtain ⟨i, cl, su, scp, ge, ma, us, re, de⟩ := f
      unfold famCs at HPT
      dsimp only at hd HPT
      subst hd
      unfold famVal famCs
      dsimp only
      have hal := (Below.refl w1.heap.size w1).alloc (Nat.le_refl _) (.cells #[.int .i64 i, .string cl, .string su, .string scp, .int .i64 ge, .int .i64 ma, .int .i64 us, .string re, .bool true] 95)
      have H2 := Lib.hid (H1.out.keep hal)
      have HB2 := Lib.hid (below_2 HB1.out hal)
      clear hp hfd hmem hfb hsh hsh2 hb hal H HFD hQ
      go_wp2_with fail
      go_at_call 179
      refine (HPT.out _ H2.out).mono ?_
      rintro e w3 ⟨rfl, htw, v3, h3⟩
      have H3 := Lib.hid h3
      have HT3 := Lib.hid ((Two.of_below HB2.out).trans htw)
      clear htw h3
      go_wp2_with fail
      go_ret
      rw [HP.out, ← HQ.out]
      exact PlanU.put HT3.out (by rw [HQ.out]; exact H3.out)
    · have hp : killP z.s id = .say () 6 := by unfold killP; rw [hfd]; simp [hd]
      have HP := Lib.hid hp
      obtain ⟨i, cl, su, scp, ge, ma, us, re, de⟩ := f
      dsimp only at hd
      subst hd
      unfold famVal famCs
      dsimp only
      have hal := (Below.refl w1.heap.size w1).alloc (Nat.le_refl _) (.cells #[.int .i64 i, .string cl, .string su, .string scp, .int .i64 ge, .int .i64 ma, .int .i64 us, .string re, .bool true] 95)
      have HAL := Lib.hid hal
      clear hp hfd hmem hfb hb H HFD hal
      go_wp2_with fail
      go_ret
      rw [HP.out]
      exact PlanU.say (H1.out.keep HAL.out) (below_2 HB1.out HAL.out) _ (errV_n (by decide)).symm
  · have hp : killP z.s id = .say () 7 := by unfold killP; rw [hfd]
    have HP := Lib.hid hp
    unfold famVal famCs Fam.zero
    dsimp only
    have hal := (Below.refl w1.heap.size w1).alloc (Nat.le_refl _) (.cells #[.int .i64 0, .string ⟨#[]⟩, .string ⟨#[]⟩, .string ⟨#[]⟩, .int .i64 0, .int .i64 0, .int .i64 0, .string ⟨#[]⟩, .bool false] 95)
    have HAL := Lib.hid hal
    have H1 := Lib.hid (H.out.keep hb)
    have HB1 := Lib.hid hb
    clear hp hfd hb H HFD hal
    go_wp2_with fail
    go_ret
    rw [HP.out]
    exact PlanU.say (H1.out.keep HAL.out) (below_2 HB1.out HAL.out) _ (errV_n (by decide)).symm
end
end Go.Proofs.YtepjcdjpikbbjaaGreatDoor
