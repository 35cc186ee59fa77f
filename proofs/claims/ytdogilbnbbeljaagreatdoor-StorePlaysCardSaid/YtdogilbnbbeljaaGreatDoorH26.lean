/-
  event.Write at a family that is put; and at all.
-/
import Derived.Test.YtdogilbnbbeljaaGreatDoorH25
namespace Go.Proofs.YtdogilbnbbeljaaGreatDoor
open Go.RowKit Go.Sort

theorem wordL_len {l : List UInt8} {n : Nat} (h : l.length ≤ n) (hn : 1 ≤ n) : (wordL l).length ≤ n := by
  unfold wordL
  split
  · simpa using hn
  · exact h
theorem reqB_len {l : List UInt8} (h : reqB l = true) : l.length ≤ 20 := by
  unfold reqB at h
  rw [Bool.or_eq_true, decide_eq_true_eq] at h
  rcases h with rfl | h
  · simp
  · exact nameB_len h
theorem line_1 {k i : Int} {cl su sc : ByteArray} {ge ma us : Int} {re : ByteArray} {de : Bool} {id ti : Int} (h : k = 1) (d : ByteArray) (hd : d.data.toList = deadL de) :
    txt (glue 32 [(⟨#[112]⟩ : ByteArray).data.toList, (itoS i).data.toList, cl.data.toList, su.data.toList, (txt (wordL sc.data.toList)).data.toList, (itoS ge).data.toList, (itoS ma).data.toList, (itoS us).data.toList, (txt (wordL re.data.toList)).data.toList, d.data.toList]) = txt (evL ⟨k, ⟨i, cl, su, sc, ge, ma, us, re, de⟩, id, ti⟩) := by
  unfold evL
  rw [evW_1 h, hd, data_txt, data_txt]
  rfl

set_option maxHeartbeats 8000000 in
set_option maxRecDepth 100000 in
theorem write_put (e : Ev) (W : World) (hs : e.fam.short 1000) (h : WB W W) (hy : evB e = true) (hk : e.kind = 1) :
    Calls Tryz.prog 30 #[evVal e] W fun x w' => x = .returned (.tuple #[.string (txt (evL e)), .nilIface]) ∧ Below W.heap.size W w' := by
  have HR := Lib.hid (fun w (hm : MaxL w) => ev_right e w hs hm)
  rw [hy] at HR
  have H0 := Lib.hid (EW.start (T := 42) h e)
  have hf : famB e.fam = true := by
    rcases evB_kind hy with ⟨_, _, _, h2⟩ | ⟨h1, _⟩ | ⟨h1, _⟩
    · exact h2
    · omega
    · omega
  obtain ⟨k, ⟨i, cl, su, sc, ge, ma, us, re, de⟩, id, ti⟩ := e
  dsimp only at hk hf
  obtain ⟨n1, n2, n3, n4, n5, n6, n7, n8⟩ := famB_parts hf
  dsimp only at n1 n2 n3 n4 n5 n6 n7 n8
  have z0 : (⟨#[112]⟩ : ByteArray).size ≤ 900 := by decide
  have z1 := itoS_900 n1
  have z2 : cl.size ≤ 900 := by have := nameB_len n5; rw [size_data] at this; omega
  have z3 : su.size ≤ 900 := by have := nameB_len n6; rw [size_data] at this; omega
  have z4 : (txt (wordL sc.data.toList)).size ≤ 900 := by rw [txt_size]; have := wordL_len (scopeB_len n8) (by decide); omega
  have z5 := itoS_900 n2
  have z6 := itoS_900 n3
  have z7 := itoS_900 n4
  have z8 : (txt (wordL re.data.toList)).size ≤ 900 := by rw [txt_size]; have := wordL_len (reqB_len n7) (by decide); omega
  obtain ⟨d, hd, z9, hdv⟩ : ∃ d : ByteArray, d.data.toList = deadL de ∧ d.size ≤ 900 ∧ d = if de then ⟨#[49]⟩ else ⟨#[48]⟩ := by
    cases de
    · exact ⟨_, rfl, by decide, rfl⟩
    · exact ⟨_, rfl, by decide, rfl⟩
  have HL := Lib.hid (line_1 (i := i) (cl := cl) (su := su) (sc := sc) (ge := ge) (ma := ma) (us := us) (re := re) (de := de) (id := id) (ti := ti) hk d hd)
  have HJ := Lib.hid (fun w => join_ten w ⟨#[112]⟩ (itoS i) cl su (txt (wordL sc.data.toList)) (itoS ge) (itoS ma) (itoS us) (txt (wordL re.data.toList)) d ⟨z0, z1, z2, z3, z4, z5, z6, z7, z8, z9⟩)
  rw [HL.out] at HJ
  have HI1 := Lib.hid (fun w hT => itoa_c i n1 w hT)
  have HI2 := Lib.hid (fun w hT => itoa_c ge n2 w hT)
  have HI3 := Lib.hid (fun w hT => itoa_c ma n3 w hT)
  have HI4 := Lib.hid (fun w hT => itoa_c us n4 w hT)
  have HW1 := Lib.hid (fun w => ev_word sc w)
  have HW2 := Lib.hid (fun w => ev_word re w)
  clear hs hy h hf n1 n2 n3 n4 n5 n6 n7 n8 z0 z1 z2 z3 z4 z5 z6 z7 z8 z9 hd HL
  generalize txt (evL ⟨k, ⟨i, cl, su, sc, ge, ma, us, re, de⟩, id, ti⟩) = line at *
  subst hk
  unfold evVal evCs at *
  dsimp only at *
  cases de
  all_goals
    simp only [Bool.false_eq_true, if_false, if_true] at hdv
    subst hdv
    go_enter Tryz.func30, Tryz.ntmps30
    go_wp2_with fail
    go_at_call 53
    refine (HR.out _ H0.out.wb.maxl).mono ?_
    rintro x w1 ⟨rfl, hb⟩
    have H1 := Lib.hid (H0.out.keep hb)
    clear hb
    obtain ⟨c0, c1, c2, c3, c4, c5, c6, c7, c8, c9, c10, c11⟩ := ev_cells H1.out.ev
    go_wp2_with fail
  · have hwb := H1.out.wb.alloc (.cells #[.int .i64 i, .string cl, .string su, .string sc, .int .i64 ge, .int .i64 ma, .int .i64 us, .string re, .bool false] 40)
    obtain ⟨d0, d1, d2, d3, d4, d5, d6, d7, _⟩ := fam_cells (Blk.new w1 40 (famCs ⟨i, cl, su, sc, ge, ma, us, re, false⟩))
    unfold famCs at d0 d1 d2 d3 d4 d5 d6 d7
    dsimp only at d0 d1 d2 d3 d4 d5 d6 d7
    clear c0 c1 c2 c3 c4 c5 c6 c7 c8 c9 c10 c11 H0 HR
    generalize w1.alloc (.cells #[.int .i64 i, .string cl, .string su, .string sc, .int .i64 ge, .int .i64 ma, .int .i64 us, .string re, .bool false] 40) = w2 at *
    have hwb2 := hwb.drew
    generalize w1.heap.size = g at *
    clear hwb H1
    go_region_held3 (fun w' => w'.cell? ⟨g, 0, none⟩ = some (.int .i64 i) ∧ w'.cell? ⟨g, 1, none⟩ = some (.string cl) ∧ w'.cell? ⟨g, 2, none⟩ = some (.string su) ∧ w'.cell? ⟨g, 3, none⟩ = some (.string sc) ∧ w'.cell? ⟨g, 4, none⟩ = some (.int .i64 ge) ∧ w'.cell? ⟨g, 5, none⟩ = some (.int .i64 ma) ∧ w'.cell? ⟨g, 6, none⟩ = some (.int .i64 us) ∧ w'.cell? ⟨g, 7, none⟩ = some (.string re) ∧ WB W w')
      (first
        | (refine ⟨?_, ?_, ?_, ?_, ?_, ?_, ?_, ?_, hwb2⟩ <;> go_keep)
        | assumption
        | (go_split_ands
           exact keep_fam (by assumption) (by assumption) (by assumption) (by assumption) (by assumption) (by assumption) (by assumption) (by assumption) (by assumption) (by assumption))
        | (go_split_ands
           exact keep_fam (by assumption) (by assumption) (by assumption) (by assumption) (by assumption) (by assumption) (by assumption) (by assumption) (by assumption) ((Below.refl _ _).alloc (Nat.le_refl _) _)))
      (first
        | (go_at_call 33; refine (HI1.out _ (WB.tens (by (go_split_ands; assumption)))).mono ?_; rintro e w1 ⟨rfl, hb1⟩)
        | (go_at_call 33; refine (HI2.out _ (WB.tens (by (go_split_ands; assumption)))).mono ?_; rintro e w1 ⟨rfl, hb1⟩)
        | (go_at_call 33; refine (HI3.out _ (WB.tens (by (go_split_ands; assumption)))).mono ?_; rintro e w1 ⟨rfl, hb1⟩)
        | (go_at_call 33; refine (HI4.out _ (WB.tens (by (go_split_ands; assumption)))).mono ?_; rintro e w1 ⟨rfl, hb1⟩)
        | (go_at_call 55; refine (HW1.out _).mono ?_; rintro e w1 ⟨rfl, rfl⟩)
        | (go_at_call 55; refine (HW2.out _).mono ?_; rintro e w1 ⟨rfl, rfl⟩)
        | (go_at_call 54; refine (HJ.out _).mono ?_; rintro e w1 ⟨rfl, hb1⟩))
    go_wp2_with fail
    go_ret2
    exact ⟨rfl, by (go_split_ands; exact WB.below (by assumption))⟩
  · have hwb := H1.out.wb.alloc (.cells #[.int .i64 i, .string cl, .string su, .string sc, .int .i64 ge, .int .i64 ma, .int .i64 us, .string re, .bool true] 40)
    obtain ⟨d0, d1, d2, d3, d4, d5, d6, d7, _⟩ := fam_cells (Blk.new w1 40 (famCs ⟨i, cl, su, sc, ge, ma, us, re, true⟩))
    unfold famCs at d0 d1 d2 d3 d4 d5 d6 d7
    dsimp only at d0 d1 d2 d3 d4 d5 d6 d7
    clear c0 c1 c2 c3 c4 c5 c6 c7 c8 c9 c10 c11 H0 HR
    generalize w1.alloc (.cells #[.int .i64 i, .string cl, .string su, .string sc, .int .i64 ge, .int .i64 ma, .int .i64 us, .string re, .bool true] 40) = w2 at *
    have hwb2 := hwb.drew
    generalize w1.heap.size = g at *
    clear hwb H1
    go_region_held3 (fun w' => w'.cell? ⟨g, 0, none⟩ = some (.int .i64 i) ∧ w'.cell? ⟨g, 1, none⟩ = some (.string cl) ∧ w'.cell? ⟨g, 2, none⟩ = some (.string su) ∧ w'.cell? ⟨g, 3, none⟩ = some (.string sc) ∧ w'.cell? ⟨g, 4, none⟩ = some (.int .i64 ge) ∧ w'.cell? ⟨g, 5, none⟩ = some (.int .i64 ma) ∧ w'.cell? ⟨g, 6, none⟩ = some (.int .i64 us) ∧ w'.cell? ⟨g, 7, none⟩ = some (.string re) ∧ WB W w')
      (first
        | (refine ⟨?_, ?_, ?_, ?_, ?_, ?_, ?_, ?_, hwb2⟩ <;> go_keep)
        | assumption
        | (go_split_ands
           exact keep_fam (by assumption) (by assumption) (by assumption) (by assumption) (by assumption) (by assumption) (by assumption) (by assumption) (by assumption) (by assumption))
        | (go_split_ands
           exact keep_fam (by assumption) (by assumption) (by assumption) (by assumption) (by assumption) (by assumption) (by assumption) (by assumption) (by assumption) ((Below.refl _ _).alloc (Nat.le_refl _) _)))
      (first
        | (go_at_call 33; refine (HI1.out _ (WB.tens (by (go_split_ands; assumption)))).mono ?_; rintro e w1 ⟨rfl, hb1⟩)
        | (go_at_call 33; refine (HI2.out _ (WB.tens (by (go_split_ands; assumption)))).mono ?_; rintro e w1 ⟨rfl, hb1⟩)
        | (go_at_call 33; refine (HI3.out _ (WB.tens (by (go_split_ands; assumption)))).mono ?_; rintro e w1 ⟨rfl, hb1⟩)
        | (go_at_call 33; refine (HI4.out _ (WB.tens (by (go_split_ands; assumption)))).mono ?_; rintro e w1 ⟨rfl, hb1⟩)
        | (go_at_call 55; refine (HW1.out _).mono ?_; rintro e w1 ⟨rfl, rfl⟩)
        | (go_at_call 55; refine (HW2.out _).mono ?_; rintro e w1 ⟨rfl, rfl⟩)
        | (go_at_call 54; refine (HJ.out _).mono ?_; rintro e w1 ⟨rfl, hb1⟩))
    go_wp2_with fail
    go_ret2
    exact ⟨rfl, by (go_split_ands; exact WB.below (by assumption))⟩
theorem ev_write_yes (e : Ev) (W : World) (hs : e.fam.short 1000) (h : WB W W) (hy : evB e = true) :
    Calls Tryz.prog 30 #[evVal e] W fun x w' => x = .returned (.tuple #[.string (txt (evL e)), .nilIface]) ∧ Below W.heap.size W w' := by
  rcases evB_kind hy with ⟨h1, _⟩ | ⟨h1, _⟩ | ⟨h1, _⟩
  · exact write_put e W hs h hy h1
  · exact write_num e W hs h hy (.inl h1)
  · exact write_num e W hs h hy (.inr h1)
end Go.Proofs.YtdogilbnbbeljaaGreatDoor
