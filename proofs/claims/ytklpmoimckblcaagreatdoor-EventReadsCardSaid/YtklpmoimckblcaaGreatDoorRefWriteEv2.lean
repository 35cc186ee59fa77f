/-
  The reference's WriteEvent at a family that is put; and at all.
-/
import Derived.Test.YtklpmoimckblcaaGreatDoorRefWriteEv
namespace Go.Proofs.YtklpmoimckblcaaGreatDoor
open Go.RowKit Go.Sort

theorem add_any (a b : ByteArray) (h : a.size + b.size ≤ 9223372036854775807) (w : World) : (Op.stringOp .add a b).run Tryz.prog w = .ok (.string (a ++ b)) w := run_string_add_sum w a b h
theorem told_three (a b c : Int) (ha : okN a = true) (hb : okN b = true) (hc : okN c = true) (g : Nat) (w : World) (h : WB w w) (hi : IntsAt w g [a, b, c]) :
    Calls Tryz.prog 19 #[.slice (some ⟨g, 0, none⟩) 3 3] w fun e w' => e = .returned (.string (txt (glue 32 [Lib.itoa a, Lib.itoa b, Lib.itoa c]))) ∧ Below w.heap.size w w' :=
  told_at g [a, b, c] w h hi (by simp) (show 3 ≤ 4 by decide) (by simp [ha, hb, hc]) _ rfl
theorem ints_3 (w : World) (T : TypeId) (a b c : Int) : IntsAt (w.alloc (.cells #[.int .i64 a, .int .i64 b, .int .i64 c] T)) w.heap.size [a, b, c] := ints_new w T [a, b, c]
theorem IntsAt.alloc {w : World} {g : Nat} {L : List Int} (h : IntsAt w g L) (o : Obj) : IntsAt (w.alloc o) g L := h.below ((Below.refl _ _).alloc (Nat.le_refl _) o)
theorem IntsAt.drw {w : World} {g : Nat} {L : List Int} (h : IntsAt w g L) : IntsAt w.drew g L := h
theorem ints_31 (w : World) (o : Obj) (T : TypeId) (a b c : Int) : IntsAt ((w.alloc o).alloc (.cells #[.int .i64 a, .int .i64 b, .int .i64 c] T)) (w.heap.size + 1) [a, b, c] := by
  have h := ints_new (w.alloc o) T [a, b, c]
  simpa using h
theorem keep_fam9 {W w w' : World} {g : Nat} {v0 v1 v2 v3 v4 v5 v6 v7 v8 : Value} (h8 : w.cell? ⟨g, 8, none⟩ = some v8) (h0 : w.cell? ⟨g, 0, none⟩ = some v0) (h1 : w.cell? ⟨g, 1, none⟩ = some v1) (h2 : w.cell? ⟨g, 2, none⟩ = some v2) (h3 : w.cell? ⟨g, 3, none⟩ = some v3)
    (h4 : w.cell? ⟨g, 4, none⟩ = some v4) (h5 : w.cell? ⟨g, 5, none⟩ = some v5) (h6 : w.cell? ⟨g, 6, none⟩ = some v6) (h7 : w.cell? ⟨g, 7, none⟩ = some v7) (hW : WB W w) (hb : Below w.heap.size w w') :
    w'.cell? ⟨g, 8, none⟩ = some v8 ∧ w'.cell? ⟨g, 0, none⟩ = some v0 ∧ w'.cell? ⟨g, 1, none⟩ = some v1 ∧ w'.cell? ⟨g, 2, none⟩ = some v2 ∧ w'.cell? ⟨g, 3, none⟩ = some v3 ∧ w'.cell? ⟨g, 4, none⟩ = some v4 ∧ w'.cell? ⟨g, 5, none⟩ = some v5 ∧ w'.cell? ⟨g, 6, none⟩ = some v6 ∧ w'.cell? ⟨g, 7, none⟩ = some v7 ∧ WB W w' := by
  have hlt : g < w.heap.size := World.block_lt_of_cell? w _ h0
  refine ⟨?_, keep_fam h0 h1 h2 h3 h4 h5 h6 h7 hW hb⟩
  rw [hb.cell (p := ⟨g, 8, none⟩) hlt]; exact h8
theorem refline (i : Int) (cl su sc : ByteArray) (ge ma us : Int) (re : ByteArray) (de : Bool) (id ti : Int) (d : ByteArray) (hd : d.data.toList = 32 :: deadL de) :
    (⟨#[112, 32]⟩ : ByteArray) ++ itoS i ++ (⟨#[32]⟩ : ByteArray) ++ cl ++ (⟨#[32]⟩ : ByteArray) ++ su ++ (⟨#[32]⟩ : ByteArray) ++ txt (wordL sc.data.toList) ++ (⟨#[32]⟩ : ByteArray) ++ txt (glue 32 [Lib.itoa ge, Lib.itoa ma, Lib.itoa us]) ++ (⟨#[32]⟩ : ByteArray) ++ txt (wordL re.data.toList) ++ d = txt (evL ⟨1, ⟨i, cl, su, sc, ge, ma, us, re, de⟩, id, ti⟩) := by
  unfold evL
  rw [evW_1 rfl]
  have e1 : (⟨#[112, 32]⟩ : ByteArray) = txt [112, 32] := rfl
  have e2 : (⟨#[32]⟩ : ByteArray) = txt [32] := rfl
  have e3 : itoS i = txt (Lib.itoa i) := rfl
  have e4 : d = txt (32 :: deadL de) := by rw [← hd, txt_data]
  have e5 : cl = txt cl.data.toList := (txt_data cl).symm
  have e6 : su = txt su.data.toList := (txt_data su).symm
  unfold famW
  dsimp only
  generalize cl.data.toList = cl' at *
  generalize su.data.toList = su' at *
  rw [e1, e2, e3, e4, e5, e6]
  simp only [txt_app, glue, List.append_assoc, List.cons_append, List.nil_append]

set_option maxHeartbeats 8000000 in
set_option maxRecDepth 100000 in
theorem refw_put (e : Ev) (W : World) (hs : e.fam.short 1000) (h : WB W W) (hy : evB e = true) (hk : e.kind = 1) :
    Calls Tryz.prog 7 #[evVal e] W fun x w' => x = .returned (.tuple #[.string (txt (evL e)), .int .i64 0]) ∧ Below W.heap.size W w' := by
  have HR := Lib.hid (fun w (hm : MaxL w) => ref_may e w hs hm)
  rw [hy] at HR
  have H0 := Lib.hid (EW.start (T := 30) h e)
  have hf : famB e.fam = true := by
    rcases evB_kind hy with ⟨_, _, _, h2⟩ | ⟨h1, _⟩ | ⟨h1, _⟩
    · exact h2
    · omega
    · omega
  obtain ⟨k, ⟨i, cl, su, sc, ge, ma, us, re, de⟩, id, ti⟩ := e
  dsimp only at hk hf
  subst hk
  obtain ⟨n1, n2, n3, n4, n5, n6, n7, n8⟩ := famB_parts hf
  dsimp only at n1 n2 n3 n4 n5 n6 n7 n8
  have z1 := itoS_900 n1
  have z2 : cl.size ≤ 900 := by have := nameB_len n5; rw [size_data] at this; omega
  have z3 : su.size ≤ 900 := by have := nameB_len n6; rw [size_data] at this; omega
  have z4 : (txt (wordL sc.data.toList)).size ≤ 900 := by rw [txt_size]; have := wordL_len (scopeB_len n8) (by decide); omega
  have z5 : (txt (glue 32 [Lib.itoa ge, Lib.itoa ma, Lib.itoa us])).size ≤ 900 := by
    rw [txt_size]
    have := glue_length 32 20 [Lib.itoa ge, Lib.itoa ma, Lib.itoa us] (by
      intro x hx
      simp only [List.mem_cons, List.not_mem_nil, or_false] at hx
      have a1 := itoa_len n2
      have a2 := itoa_len n3
      have a3 := itoa_len n4
      rcases hx with rfl | rfl | rfl <;> omega)
    have h3 : [Lib.itoa ge, Lib.itoa ma, Lib.itoa us].length = 3 := rfl
    omega
  have z8 : (txt (wordL re.data.toList)).size ≤ 900 := by rw [txt_size]; have := wordL_len (reqB_len n7) (by decide); omega
  obtain ⟨d, hd, z9, hdv⟩ : ∃ d : ByteArray, d.data.toList = 32 :: deadL de ∧ d.size ≤ 900 ∧ d = if de then ⟨#[32, 49]⟩ else ⟨#[32, 48]⟩ := by
    cases de
    · exact ⟨_, rfl, by decide, rfl⟩
    · exact ⟨_, rfl, by decide, rfl⟩
  have HL := Lib.hid (refline i cl su sc ge ma us re de id ti d hd)
  have HI1 := Lib.hid (fun g w => told_one i n1 g w)
  have HI3 := Lib.hid (fun g w => told_three ge ma us n2 n3 n4 g w)
  have HW1 := Lib.hid (fun w => ref_word sc w)
  have HW2 := Lib.hid (fun w => ref_word re w)
  clear hs hy h hf n1 n2 n3 n4 n5 n6 n7 n8 hd
  generalize txt (evL ⟨1, ⟨i, cl, su, sc, ge, ma, us, re, de⟩, id, ti⟩) = line at *
  generalize txt (wordL sc.data.toList) = sw at *
  generalize txt (wordL re.data.toList) = rw_ at *
  generalize txt (glue 32 [Lib.itoa ge, Lib.itoa ma, Lib.itoa us]) = three at *
  generalize itoS i = one at *
  have sp : (⟨#[32]⟩ : ByteArray).size = 1 := rfl
  have sq : (⟨#[112, 32]⟩ : ByteArray).size = 2 := rfl
  have q1 := add_any ⟨#[112, 32]⟩ one (by omega)
  have q2 := add_any (⟨#[112, 32]⟩ ++ one) ⟨#[32]⟩ (by simp only [ByteArray.size_append]; omega)
  have q3 := add_any (⟨#[112, 32]⟩ ++ one ++ ⟨#[32]⟩) cl (by simp only [ByteArray.size_append]; omega)
  have q4 := add_any (⟨#[112, 32]⟩ ++ one ++ ⟨#[32]⟩ ++ cl) ⟨#[32]⟩ (by simp only [ByteArray.size_append]; omega)
  have q5 := add_any (⟨#[112, 32]⟩ ++ one ++ ⟨#[32]⟩ ++ cl ++ ⟨#[32]⟩) su (by simp only [ByteArray.size_append]; omega)
  have q6 := add_any (⟨#[112, 32]⟩ ++ one ++ ⟨#[32]⟩ ++ cl ++ ⟨#[32]⟩ ++ su) ⟨#[32]⟩ (by simp only [ByteArray.size_append]; omega)
  have q7 := add_any (⟨#[112, 32]⟩ ++ one ++ ⟨#[32]⟩ ++ cl ++ ⟨#[32]⟩ ++ su ++ ⟨#[32]⟩) sw (by simp only [ByteArray.size_append]; omega)
  have q8 := add_any (⟨#[112, 32]⟩ ++ one ++ ⟨#[32]⟩ ++ cl ++ ⟨#[32]⟩ ++ su ++ ⟨#[32]⟩ ++ sw) ⟨#[32]⟩ (by simp only [ByteArray.size_append]; omega)
  have q9 := add_any (⟨#[112, 32]⟩ ++ one ++ ⟨#[32]⟩ ++ cl ++ ⟨#[32]⟩ ++ su ++ ⟨#[32]⟩ ++ sw ++ ⟨#[32]⟩) three (by simp only [ByteArray.size_append]; omega)
  have q10 := add_any (⟨#[112, 32]⟩ ++ one ++ ⟨#[32]⟩ ++ cl ++ ⟨#[32]⟩ ++ su ++ ⟨#[32]⟩ ++ sw ++ ⟨#[32]⟩ ++ three) ⟨#[32]⟩ (by simp only [ByteArray.size_append]; omega)
  have q11 := add_any (⟨#[112, 32]⟩ ++ one ++ ⟨#[32]⟩ ++ cl ++ ⟨#[32]⟩ ++ su ++ ⟨#[32]⟩ ++ sw ++ ⟨#[32]⟩ ++ three ++ ⟨#[32]⟩) rw_ (by simp only [ByteArray.size_append]; omega)
  have q12 := add_any (⟨#[112, 32]⟩ ++ one ++ ⟨#[32]⟩ ++ cl ++ ⟨#[32]⟩ ++ su ++ ⟨#[32]⟩ ++ sw ++ ⟨#[32]⟩ ++ three ++ ⟨#[32]⟩ ++ rw_) d (by simp only [ByteArray.size_append]; omega)
  rw [HL.out] at q12
  clear z1 z2 z3 z4 z5 z8 z9 sp sq HL
  unfold evVal evCs at *
  dsimp only at *
  cases de
  all_goals
    simp only [Bool.false_eq_true, if_false, if_true] at hdv
    subst hdv
    go_enter Tryz.func7, Tryz.ntmps7
    go_wp2_with fail
    go_at_call 18
    refine (HR.out _ H0.out.wb.maxl).mono ?_
    rintro x w1 ⟨rfl, hb⟩
    have H1 := Lib.hid (H0.out.keep hb)
    clear hb
    obtain ⟨c0, c1, c2, c3, c4, c5, c6, c7, c8, c9, c10, c11⟩ := ev_cells H1.out.ev
    have hlt := H1.out.ev.lt
    go_wp2_with fail
  · have hwb := H1.out.wb.alloc (.cells #[.int .i64 i, .string cl, .string su, .string sc, .int .i64 ge, .int .i64 ma, .int .i64 us, .string re, .bool false] 23)
    obtain ⟨d0, d1, d2, d3, d4, d5, d6, d7, d8⟩ := fam_cells (Blk.new w1 23 (famCs ⟨i, cl, su, sc, ge, ma, us, re, false⟩))
    unfold famCs at d0 d1 d2 d3 d4 d5 d6 d7 d8
    dsimp only at d0 d1 d2 d3 d4 d5 d6 d7 d8
    clear c0 c1 c2 c3 c4 c5 c6 c7 c8 c9 c10 c11 H0 HR hlt
    generalize w1.alloc (.cells #[.int .i64 i, .string cl, .string su, .string sc, .int .i64 ge, .int .i64 ma, .int .i64 us, .string re, .bool false] 23) = w2 at *
    have hwb2 := hwb.drew
    generalize w1.heap.size = g at *
    clear hwb H1
    go_region_held3 (fun w' => w'.cell? ⟨g, 8, none⟩ = some (.bool false) ∧ w'.cell? ⟨g, 0, none⟩ = some (.int .i64 i) ∧ w'.cell? ⟨g, 1, none⟩ = some (.string cl) ∧ w'.cell? ⟨g, 2, none⟩ = some (.string su) ∧ w'.cell? ⟨g, 3, none⟩ = some (.string sc) ∧ w'.cell? ⟨g, 4, none⟩ = some (.int .i64 ge) ∧ w'.cell? ⟨g, 5, none⟩ = some (.int .i64 ma) ∧ w'.cell? ⟨g, 6, none⟩ = some (.int .i64 us) ∧ w'.cell? ⟨g, 7, none⟩ = some (.string re) ∧ WB W w')
      (first
        | (refine ⟨?_, ?_, ?_, ?_, ?_, ?_, ?_, ?_, ?_, hwb2⟩ <;> go_keep)
        | assumption
        | (go_split_ands
           exact keep_fam9 (by assumption) (by assumption) (by assumption) (by assumption) (by assumption) (by assumption) (by assumption) (by assumption) (by assumption) (by assumption) (by assumption))
        | (go_split_ands
           exact keep_fam9 (by assumption) (by assumption) (by assumption) (by assumption) (by assumption) (by assumption) (by assumption) (by assumption) (by assumption) (by assumption) ((Below.refl _ _).alloc (Nat.le_refl _) _)))
      (first
        | (go_at_call 19; with_reducible refine (HI1.out _ _ ?_ ?_).mono ?_; (· exact WB.self (by (go_split_ands; assumption))); (· first | exact IntsAt.drw (ints_1 _ 3 i) | exact IntsAt.drw ((ints_1 _ 3 i).alloc _) | exact IntsAt.drw (ints_11 _ _ 3 i)); rintro e w1 ⟨rfl, hb1⟩)
        | (go_at_call 19; with_reducible refine (HI3.out _ _ ?_ ?_).mono ?_; (· exact WB.self (by (go_split_ands; assumption))); (· first | exact ints_3 _ 3 ge ma us | exact IntsAt.below (IntsAt.drw (ints_31 _ _ 3 ge ma us)) (by assumption) | exact IntsAt.below (IntsAt.drw ((ints_3 _ 3 ge ma us).alloc _)) (by assumption)); rintro e w1 ⟨rfl, hb1⟩)
        | (go_at_call 20; with_reducible refine (HW1.out _).mono ?_; rintro e w1 ⟨rfl, rfl⟩)
        | (go_at_call 20; with_reducible refine (HW2.out _).mono ?_; rintro e w1 ⟨rfl, rfl⟩))
    all_goals
      go_split_ands
      go_wp2_with fail
      go_ret2
      exact ⟨rfl, WB.below (by assumption)⟩
  · have hwb := H1.out.wb.alloc (.cells #[.int .i64 i, .string cl, .string su, .string sc, .int .i64 ge, .int .i64 ma, .int .i64 us, .string re, .bool true] 23)
    obtain ⟨d0, d1, d2, d3, d4, d5, d6, d7, d8⟩ := fam_cells (Blk.new w1 23 (famCs ⟨i, cl, su, sc, ge, ma, us, re, true⟩))
    unfold famCs at d0 d1 d2 d3 d4 d5 d6 d7 d8
    dsimp only at d0 d1 d2 d3 d4 d5 d6 d7 d8
    clear c0 c1 c2 c3 c4 c5 c6 c7 c8 c9 c10 c11 H0 HR hlt
    generalize w1.alloc (.cells #[.int .i64 i, .string cl, .string su, .string sc, .int .i64 ge, .int .i64 ma, .int .i64 us, .string re, .bool true] 23) = w2 at *
    have hwb2 := hwb.drew
    generalize w1.heap.size = g at *
    clear hwb H1
    go_region_held3 (fun w' => w'.cell? ⟨g, 8, none⟩ = some (.bool true) ∧ w'.cell? ⟨g, 0, none⟩ = some (.int .i64 i) ∧ w'.cell? ⟨g, 1, none⟩ = some (.string cl) ∧ w'.cell? ⟨g, 2, none⟩ = some (.string su) ∧ w'.cell? ⟨g, 3, none⟩ = some (.string sc) ∧ w'.cell? ⟨g, 4, none⟩ = some (.int .i64 ge) ∧ w'.cell? ⟨g, 5, none⟩ = some (.int .i64 ma) ∧ w'.cell? ⟨g, 6, none⟩ = some (.int .i64 us) ∧ w'.cell? ⟨g, 7, none⟩ = some (.string re) ∧ WB W w')
      (first
        | (refine ⟨?_, ?_, ?_, ?_, ?_, ?_, ?_, ?_, ?_, hwb2⟩ <;> go_keep)
        | assumption
        | (go_split_ands
           exact keep_fam9 (by assumption) (by assumption) (by assumption) (by assumption) (by assumption) (by assumption) (by assumption) (by assumption) (by assumption) (by assumption) (by assumption))
        | (go_split_ands
           exact keep_fam9 (by assumption) (by assumption) (by assumption) (by assumption) (by assumption) (by assumption) (by assumption) (by assumption) (by assumption) (by assumption) ((Below.refl _ _).alloc (Nat.le_refl _) _)))
      (first
        | (go_at_call 19; with_reducible refine (HI1.out _ _ ?_ ?_).mono ?_; (· exact WB.self (by (go_split_ands; assumption))); (· first | exact IntsAt.drw (ints_1 _ 3 i) | exact IntsAt.drw ((ints_1 _ 3 i).alloc _) | exact IntsAt.drw (ints_11 _ _ 3 i)); rintro e w1 ⟨rfl, hb1⟩)
        | (go_at_call 19; with_reducible refine (HI3.out _ _ ?_ ?_).mono ?_; (· exact WB.self (by (go_split_ands; assumption))); (· first | exact ints_3 _ 3 ge ma us | exact IntsAt.below (IntsAt.drw (ints_31 _ _ 3 ge ma us)) (by assumption) | exact IntsAt.below (IntsAt.drw ((ints_3 _ 3 ge ma us).alloc _)) (by assumption)); rintro e w1 ⟨rfl, hb1⟩)
        | (go_at_call 20; with_reducible refine (HW1.out _).mono ?_; rintro e w1 ⟨rfl, rfl⟩)
        | (go_at_call 20; with_reducible refine (HW2.out _).mono ?_; rintro e w1 ⟨rfl, rfl⟩))
    all_goals
      go_split_ands
      go_wp2_with fail
      go_ret2
      exact ⟨rfl, WB.below (by assumption)⟩

theorem refw_yes (e : Ev) (W : World) (hs : e.fam.short 1000) (h : WB W W) (hy : evB e = true) :
    Calls Tryz.prog 7 #[evVal e] W fun x w' => x = .returned (.tuple #[.string (txt (evL e)), .int .i64 0]) ∧ Below W.heap.size W w' := by
  rcases evB_kind hy with ⟨h1, _⟩ | ⟨h1, _⟩ | ⟨h1, _⟩
  · exact refw_put e W hs h hy h1
  · exact refw_num e W hs h hy (.inl h1)
  · exact refw_num e W hs h hy (.inr h1)
end Go.Proofs.YtklpmoimckblcaaGreatDoor
