/-
  rotorref.WriteToken.
-/
import Derived.Test.YtckohmhhcknmaaaGreatDoorG09
import Derived.Test.YtckohmhhcknmaaaGreatDoorG04
import Derived.Lib.LastIndexByte
import Derived.Lib.IndexAny
import Derived.RegionTactic
import Derived.Lib.IndexMore
import Derived.Test.YtckohmhhcknmaaaGreatDoorG05
import Derived.Test.YtckohmhhcknmaaaGreatDoorG08
import Derived.BigQuiet
import Derived.Deep.RegionHeld3
import Derived.Lib.IndexBytes
import Derived.Test.YtckohmhhcknmaaaGreatDoorG03
import Derived.Test.YtckohmhhcknmaaaGreatDoorG01
namespace Go.Proofs.YtckohmhhcknmaaaGreatDoor
open Go.RowKit

theorem ref_tagS (key : Int) (s : ByteArray) (W : World) (hs : s.size ≤ 1000000) (hT : Tab15 W) :
    Calls Tryz.prog 110 #[.int .i64 key, .string s] W fun e w' => e = .returned (.string (tagS key s)) ∧ Below W.heap.size W w' := ref_tag key s W hs hT
theorem keep_all {W w w' : World} {u x y z : Value} (h0 : w.cell? ⟨W.heap.size, 0, none⟩ = some u) (h1 : w.cell? ⟨W.heap.size, 1, none⟩ = some x) (h2 : w.cell? ⟨W.heap.size, 2, none⟩ = some y) (h3 : w.cell? ⟨W.heap.size, 3, none⟩ = some z)
    (hT : Tens w) (hT2 : Tab15 w) (hB : Below W.heap.size W w) (hb : Below w.heap.size w w') :
    w'.cell? ⟨W.heap.size, 0, none⟩ = some u ∧ w'.cell? ⟨W.heap.size, 1, none⟩ = some x ∧ w'.cell? ⟨W.heap.size, 2, none⟩ = some y ∧ w'.cell? ⟨W.heap.size, 3, none⟩ = some z ∧ Tens w' ∧ Tab15 w' ∧ Below W.heap.size W w' := by
  obtain ⟨a0, a1, a2, a3, a4, a5⟩ := keep_body4 h0 h1 h2 h3 hT hB hb
  exact ⟨a0, a1, a2, a3, a4, hT2.below hb hT2.lt, a5⟩

set_option maxHeartbeats 4000000 in
theorem ref_write_yes (key a b c d : Int) (W : World) (hT : Tens W) (hT2 : Tab15 W) (h : rightN a b c d = true) (hk : (a = 1 ∧ d = 0) ∨ (a = 2 ∧ okN d = true)) :
    Calls Tryz.prog 63 #[.int .i64 key, v4 a b c d] W fun e w' => e = .returned (.tuple #[.string (tokS key a b c d), .int .i64 0]) ∧ Below W.heap.size W w' := by
  obtain ⟨_, hob, hoc⟩ := right_cases h
  have hsz := bodyS_size a b c d h
  have hts := tagS_size key (bodyS a b c d)
  have e1 := add_run (bodyS a b c d) (⟨#[46]⟩ : ByteArray) 70 1 hsz (by decide) (by omega)
  have z1 := app_size (bodyS a b c d) (⟨#[46]⟩ : ByteArray) 70 1 hsz (by decide)
  have e2 := add_run _ (tagS key (bodyS a b c d)) _ 16 z1 (by omega) (by omega)
  have HT := Lib.hid hT
  have HT2 := Lib.hid hT2
  have HB := fun (w : World) (hw : Tens w) => ref_body a b c d w hw h
  have HBB := Lib.hid HB
  have htk : tokS key a b c d = bodyS a b c d ++ ⟨#[46]⟩ ++ tagS key (bodyS a b c d) := rfl
  have HTK := Lib.hid htk
  have hTl := hT.lt
  have hTl2 := hT2.lt
  clear hT hT2 h z1 HB htk
  generalize bodyS a b c d = bs at *
  generalize tokS key a b c d = tk at *
  unfold v4 at *
  rcases hk with ⟨rfl, rfl⟩ | ⟨rfl, hod⟩
  all_goals
    (go_enter Tryz.func63, Tryz.ntmps63
     go_wp2_with (go_at_call 56; refine (ref_in _ _).mono ?_; rintro e w1 ⟨rfl, rfl⟩))
  · obtain ⟨hc0, hc1, hc2, hc3⟩ := four_cells (Below.refl (W.alloc (.cells #[.int .i64 1, .int .i64 b, .int .i64 c, .int .i64 0] 127)).heap.size (W.alloc (.cells #[.int .i64 1, .int .i64 b, .int .i64 c, .int .i64 0] 127)))
    have hB1 := (Below.refl W.heap.size W).alloc (Nat.le_refl _) (.cells #[.int .i64 1, .int .i64 b, .int .i64 c, .int .i64 0] 127)
    have hT1 := HT.out.below hB1 hTl
    have hT2 := HT2.out.below hB1 hTl2
    clear HT HT2
    generalize W.alloc (.cells #[.int .i64 1, .int .i64 b, .int .i64 c, .int .i64 0] 127) = w0 at *
    have hT1' : Tens w0.drew := hT1
    have hT2' : Tab15 w0.drew := hT2
    have hB2 : Below W.heap.size W w0.drew := ⟨hB1.os, hB1.tape, hB1.output, hB1.size, hB1.block⟩
    go_region_held3 (fun w' => w'.cell? ⟨W.heap.size, 0, none⟩ = some (.int .i64 1) ∧ w'.cell? ⟨W.heap.size, 1, none⟩ = some (.int .i64 b) ∧ w'.cell? ⟨W.heap.size, 2, none⟩ = some (.int .i64 c) ∧ w'.cell? ⟨W.heap.size, 3, none⟩ = some (.int .i64 0) ∧ Tens w' ∧ Tab15 w' ∧ Below W.heap.size W w')
      (first
        | (refine ⟨?_, ?_, ?_, ?_, hT1', hT2', hB2⟩ <;> go_keep)
        | (go_split_ands
           exact keep_all (by assumption) (by assumption) (by assumption) (by assumption) (by assumption) (by assumption) (by assumption) (by assumption)))
      (first
        | (go_at_call 109; refine (HBB.out _ (by (go_split_ands; assumption))).mono ?_; rintro e w1 ⟨rfl, hb1⟩)
        | (go_at_call 110; refine (ref_tagS _ _ _ (by omega) (by (go_split_ands; assumption))).mono ?_; rintro e w1 ⟨rfl, hb1⟩))
    all_goals
      (go_wp2_with fail
       go_ret2
       exact ⟨by rw [HTK.out]; rfl, by (go_split_ands; assumption)⟩)
  · obtain ⟨hc0, hc1, hc2, hc3⟩ := four_cells (Below.refl (W.alloc (.cells #[.int .i64 2, .int .i64 b, .int .i64 c, .int .i64 d] 127)).heap.size (W.alloc (.cells #[.int .i64 2, .int .i64 b, .int .i64 c, .int .i64 d] 127)))
    have hB1 := (Below.refl W.heap.size W).alloc (Nat.le_refl _) (.cells #[.int .i64 2, .int .i64 b, .int .i64 c, .int .i64 d] 127)
    have hT1 := HT.out.below hB1 hTl
    have hT2 := HT2.out.below hB1 hTl2
    clear HT HT2
    generalize W.alloc (.cells #[.int .i64 2, .int .i64 b, .int .i64 c, .int .i64 d] 127) = w0 at *
    have hT1' : Tens w0.drew := hT1
    have hT2' : Tab15 w0.drew := hT2
    have hB2 : Below W.heap.size W w0.drew := ⟨hB1.os, hB1.tape, hB1.output, hB1.size, hB1.block⟩
    go_region_held3 (fun w' => w'.cell? ⟨W.heap.size, 0, none⟩ = some (.int .i64 2) ∧ w'.cell? ⟨W.heap.size, 1, none⟩ = some (.int .i64 b) ∧ w'.cell? ⟨W.heap.size, 2, none⟩ = some (.int .i64 c) ∧ w'.cell? ⟨W.heap.size, 3, none⟩ = some (.int .i64 d) ∧ Tens w' ∧ Tab15 w' ∧ Below W.heap.size W w')
      (first
        | (refine ⟨?_, ?_, ?_, ?_, hT1', hT2', hB2⟩ <;> go_keep)
        | (go_split_ands
           exact keep_all (by assumption) (by assumption) (by assumption) (by assumption) (by assumption) (by assumption) (by assumption) (by assumption)))
      (first
        | (go_at_call 109; refine (HBB.out _ (by (go_split_ands; assumption))).mono ?_; rintro e w1 ⟨rfl, hb1⟩)
        | (go_at_call 110; refine (ref_tagS _ _ _ (by omega) (by (go_split_ands; assumption))).mono ?_; rintro e w1 ⟨rfl, hb1⟩))
    all_goals
      (go_wp2_with fail
       go_ret2
       exact ⟨by rw [HTK.out]; rfl, by (go_split_ands; assumption)⟩)
end Go.Proofs.YtckohmhhcknmaaaGreatDoor

/-
  rotorref.WriteToken where the token is not right.
-/
namespace Go.Proofs.YtckohmhhcknmaaaGreatDoor
open Go.RowKit

set_option maxHeartbeats 4000000 in
theorem ref_write_no (key a b c d : Int) (W : World) (hr : rightN a b c d = false) :
    Calls Tryz.prog 63 #[.int .i64 key, v4 a b c d] W fun e w' => e = .returned (.tuple #[.string ⟨#[]⟩, .int .i64 1]) ∧ Below W.heap.size W w' := by
  have h : (a = 1 ∧ d = 0) ∨ (a = 1 ∧ ((d == 0) = false ∧ decide (d = 0) = false)) ∨ (a = 2) ∨ ((a == 1) = false ∧ (a == 2) = false ∧ decide (a = 1) = false ∧ decide (a = 2) = false) := by
    by_cases h1 : a = 1 <;> by_cases h2 : a = 2 <;> by_cases h3 : d = 0 <;> simp [h1, h2, h3] <;> omega
  have HR := Lib.hid hr
  clear hr
  unfold v4
  obtain ⟨ob, hob⟩ : ∃ ob, okN b = ob := ⟨_, rfl⟩
  obtain ⟨od, hod⟩ : ∃ od, okN d = od := ⟨_, rfl⟩
  obtain ⟨oc, hoc⟩ : ∃ oc, okN c = oc := ⟨_, rfl⟩
  rcases h with ⟨rfl, rfl⟩ | ⟨rfl, hd, hd'⟩ | rfl | ⟨h1, h2, h1', h2'⟩
  all_goals cases ob <;> cases od <;> cases oc
  all_goals first
    | (exfalso; have hr := HR.out; simp [rightN, *] at hr; done)
    | (exfalso; have hz : okN 0 = true := by decide
       simp [hz] at hod; done)
    | (clear HR
       go_enter Tryz.func63, Tryz.ntmps63
       go_wp2_with (go_at_call 56; refine (ref_in _ _).mono ?_; rintro e w1 ⟨rfl, rfl⟩)
       go_ret2
       exact ⟨rfl, (Below.refl _ _).alloc (Nat.le_refl _) _⟩)
end Go.Proofs.YtckohmhhcknmaaaGreatDoor

/-
  rotorref.ReadToken: the token that any text is, or what is wrong with it.
-/
namespace Go.Proofs.YtckohmhhcknmaaaGreatDoor
open Go.RowKit Go.Sort

/-- what is known while rotorref.ReadToken is under way -/
structure RK (W : World) (w : World) : Prop where
  below : Below W.heap.size W w
  res : Blk w W.heap.size 127 #[.int .i64 0, .int .i64 0, .int .i64 0, .int .i64 0]
  tens : Tens w
  tab : Tab15 w
  errs : ErrVars w
  maxl : MaxL w
  gl : 4 < W.heap.size ∧ 5 < W.heap.size ∧ 6 < W.heap.size ∧ 8 < W.heap.size ∧ 3 < W.heap.size
theorem RK.keepB {W w w' : World} {B : Nat} (h : RK W w) (hb : Below B w w') (hB : W.heap.size < B) : RK W w' :=
  ⟨h.below.trans (hb.mono (Nat.le_of_lt hB)), h.res.below hb hB, h.tens.below hb (Nat.lt_trans h.gl.2.2.1 hB), h.tab.below hb (Nat.lt_trans h.gl.2.2.2.1 hB), h.errs.below hb (Nat.lt_trans h.gl.1 hB) (Nat.lt_trans h.gl.2.1 hB), h.maxl.below hb (Nat.lt_trans h.gl.2.2.2.2 hB), h.gl⟩
theorem RK.keep {W w w' : World} (h : RK W w) (hb : Below w.heap.size w w') : RK W w' := h.keepB hb h.res.lt
theorem RK.start {W : World} (hm : MaxL W) (hT : Tens W) (hT2 : Tab15 W) (hv : ErrVars W) : RK W (W.alloc (.cells #[.int .i64 0, .int .i64 0, .int .i64 0, .int .i64 0] 127)) := by
  have hb : Below W.heap.size W (W.alloc (.cells #[.int .i64 0, .int .i64 0, .int .i64 0, .int .i64 0] 127)) := (Below.refl _ _).alloc (Nat.le_refl _) _
  exact ⟨hb, Blk.new W _ _, hT.below hb hT.lt, hT2.below hb hT2.lt, hv.below' hb, hm.below' hb, hv.lt.1, hv.lt.2, hT.lt, hT2.lt, hm.lt⟩
theorem RK.facts {W w : World} (h : RK W w) : (w.cell? ⟨W.heap.size, 0, none⟩ = some (.int .i64 0) ∧ w.cell? ⟨W.heap.size, 1, none⟩ = some (.int .i64 0) ∧ w.cell? ⟨W.heap.size, 2, none⟩ = some (.int .i64 0) ∧ w.cell? ⟨W.heap.size, 3, none⟩ = some (.int .i64 0)) ∧
    (w.frozen? ⟨W.heap.size, 0, none⟩ = false ∧ w.frozen? ⟨W.heap.size, 1, none⟩ = false ∧ w.frozen? ⟨W.heap.size, 2, none⟩ = false ∧ w.frozen? ⟨W.heap.size, 3, none⟩ = false) ∧ W.heap.size < w.heap.size := by
  have hr := h.res
  exact ⟨⟨hr.cell 0, hr.cell 1, hr.cell 2, hr.cell 3⟩, ⟨hr.frozen 0, hr.frozen 1, hr.frozen 2, hr.frozen 3⟩, hr.lt⟩

def RefReadGot (W : World) (R : Int × Int × Int × Int × Int) (e : Ending) (w' : World) : Prop := e = .returned (.tuple #[v4 R.2.1 R.2.2.1 R.2.2.2.1 R.2.2.2.2, .int .i64 R.1]) ∧ Below W.heap.size W w'
theorem ref_end {W w : World} {A : Act} {a b c d n : Int} (hb : Below W.heap.size W w) (hr : Blk w W.heap.size 127 #[.int .i64 a, .int .i64 b, .int .i64 c, .int .i64 d])
    (hp : A.tmps.getD 4 undef = .pointer (some ⟨W.heap.size, 0, none⟩)) (hx : A.tmps.getD 5 undef = .int .i64 n) (hd : A.defers = []) :
    bodyPost Tryz.prog Tryz.f108 (RefReadGot W (n, a, b, c, d)) Exit.ret A w :=
  bodyPost_ret (tok_row_tmp rfl A.tmps w _ _ _ _ _ hp hx hr Tryz.underlying127 rfl (by kernel_rfl)) hd ⟨rfl, hb⟩

/-- a text with its last point -/
structure Cut (s B T : ByteArray) (k : Nat) : Prop where
  at_ : Lib.lastIndexByte s 46 = (k : Int)
  lt : k < s.size
  tag : s.extract (k + 1) s.size = T
  body : s.extract 0 k = B
  parts : parts 46 s.data.toList = Go.Proofs.YtckohmhhcknmaaaGreatDoor.parts 46 B.data.toList ++ [T.data.toList]
theorem byte_list (s : ByteArray) (j : Nat) (hj : j < s.size) : s.data.toList[j]? = some (s.data[j]!) := by
  have hj' : j < s.data.size := hj
  rw [List.getElem?_eq_getElem (by simpa using hj'), getElem!_pos s.data j hj']
  simp
theorem cut_or (s : ByteArray) : (Lib.lastIndexByte s 46 = -1 ∧ parts 46 s.data.toList = [s.data.toList]) ∨ ∃ B T k, Cut s B T k := by
  rcases Lib.lastIndexByte_spec s 46 with ⟨h1, h2⟩ | ⟨i, h1, h2, h3, h4⟩
  · refine .inl ⟨h1, parts_none fun hm => ?_⟩
    obtain ⟨j, hj, e⟩ := List.mem_iff_getElem.1 hm
    rw [size_data] at hj
    have e2 := byte_list s j hj
    rw [List.getElem?_eq_getElem (by rw [size_data]; exact hj), e] at e2
    have e3 := h2 j hj
    rw [← Option.some.inj e2] at e3
    exact e3 rfl
  · refine .inr ⟨s.extract 0 i, s.extract (i + 1) s.size, i, h2, h1, rfl, rfl, ?_⟩
    have e46 : s.data[i]! = 46 := by
      apply UInt8.toNat_inj.1
      have : (46 : UInt8).toNat = 46 := rfl
      omega
    have eB : (s.extract 0 i).data.toList = s.data.toList.take i := by rw [Lib.extract_data]; simp
    have eT : (s.extract (i + 1) s.size).data.toList = s.data.toList.drop (i + 1) := by rw [Lib.extract_to_end]
    have hl : i < s.data.toList.length := by rw [size_data]; exact h1
    have e : s.data.toList = s.data.toList.take i ++ 46 :: s.data.toList.drop (i + 1) := by
      have hd := List.drop_eq_getElem_cons hl
      have e2 := byte_list s i h1
      rw [List.getElem?_eq_getElem hl, e46] at e2
      rw [Option.some.inj e2] at hd
      rw [← hd, List.take_append_drop]
    rw [eB, eT]
    have hno : (46 : UInt8) ∉ s.data.toList.drop (i + 1) := ?_
    · conv => lhs; rw [e]
      rw [parts_app, parts_none hno]
    intro hm
    obtain ⟨j, hj, ej⟩ := List.mem_iff_getElem.1 hm
    rw [List.length_drop, size_data] at hj
    have e2 := byte_list s (i + 1 + j) (by omega)
    rw [List.getElem_drop] at ej
    rw [List.getElem?_eq_getElem (by rw [size_data]; omega), ej] at e2
    have e3 := h4 (i + 1 + j) (by omega) (by omega)
    rw [← Option.some.inj e2] at e3
    exact e3 rfl
theorem hex_case (T : ByteArray) (j : Nat) (hj : j < T.size) : hexD.contains (T[j]) = decide (0 ≤ Lib.indexByte (⟨#[48, 49, 50, 51, 52, 53, 54, 55, 56, 57, 97, 98, 99, 100, 101, 102]⟩ : ByteArray).data.toList ((T[j].toNat : Int).toNat.toUInt8)) := by
  have e : ((T[j].toNat : Int).toNat.toUInt8) = T[j] := by simp
  rw [e]
  exact Lib.contains_iff_indexByte _ _
def HexRel (T : ByteArray) (i : Value) : Prop := ∃ j : Nat, j ≤ 16 ∧ i = .int .i64 j ∧ ∀ m (h : m < T.size), m < j → hexD.contains (T[m]) = true
theorem hex_all {T : ByteArray} (h16 : T.size = 16) (h : ∀ m (h : m < T.size), m < 16 → hexD.contains (T[m]) = true) : tagB T.data.toList = true := by
  refine tagB_yes (by rw [size_data]; exact h16) ?_
  rw [List.all_eq_true]
  intro x hx
  obtain ⟨m, hm, rfl⟩ := List.mem_iff_getElem.1 hx
  rw [size_data] at hm
  exact h m hm (by omega)
theorem hex_of {T : ByteArray} (h : tagB T.data.toList = true) (m : Nat) (hm : m < T.size) : hexD.contains (T[m]) = true := by
  unfold tagB at h
  rw [Bool.and_eq_true] at h
  have := List.all_eq_true.1 h.2 T[m] (by
    have : T.data.toList[m]'(by rw [size_data]; exact hm) = T[m] := rfl
    rw [← this]
    exact List.getElem_mem _)
  exact this

set_option maxHeartbeats 4000000 in
set_option maxRecDepth 100000 in
theorem refRead_none (key : Int) (s : ByteArray) (W : World) (hs : s.size ≤ 1000) (h : Lib.lastIndexByte s 46 = -1) (hm : MaxL W) (hT : Tens W) (hT2 : Tab15 W) (hv : ErrVars W) :
    Calls Tryz.prog 108 #[.int .i64 key, .string s] W (RefReadGot W (3, 0, 0, 0, 0)) := by
  have HR := Lib.hid (RK.start hm hT hT2 hv)
  have HL := Lib.hid (fun w => Tryz.strings_LastIndexByte s 46 (by omega) w)
  rw [h] at HL
  clear h hm hT hT2 hv
  have hb : Below W.heap.size W (W.alloc (.cells #[.int .i64 0, .int .i64 0, .int .i64 0, .int .i64 0] 127)) := HR.out.below
  go_enter Tryz.func108, Tryz.ntmps108
  go_wp2_with (go_at_call 138; refine (HL.out _).mono ?_; rintro e w1 ⟨rfl, rfl⟩)
  exact ref_end HR.out.below HR.out.res rfl rfl rfl

set_option maxHeartbeats 4000000 in
set_option maxRecDepth 100000 in
theorem refRead_tag (key : Int) (s B T : ByteArray) (k : Nat) (W : World) (hs : s.size ≤ 1000) (h : Cut s B T k) (hb : tagB T.data.toList = false) (hm : MaxL W) (hT : Tens W) (hT2 : Tab15 W) (hv : ErrVars W) :
    Calls Tryz.prog 108 #[.int .i64 key, .string s] W (RefReadGot W (3, 0, 0, 0, 0)) := by
  have HR := Lib.hid (RK.start hm hT hT2 hv)
  have HL := Lib.hid (fun w => Tryz.strings_LastIndexByte s 46 (by omega) w)
  rw [h.at_] at HL
  have hk := h.lt
  have hE := h.tag
  have HTB := Lib.hid hb
  have hz : T.size = s.size - (k + 1) := by rw [← hE, ByteArray.size_extract]; omega
  have hk0 : ¬ (k : Int) < 0 := by omega
  have hTs : T.size ≤ 1000 := by omega
  clear h hm hT hT2 hv hb hz
  by_cases h16 : T.size = 16
  · have e16 : ((T.size : Int) != 16) = false := by simp; omega
    have H16 := Lib.hid h16
    have ht16 : 16 ≤ T.size := by omega
    clear h16
    go_enter Tryz.func108, Tryz.ntmps108
    go_wp2_with (go_at_call 138; refine (HL.out _).mono ?_; rintro e w1 ⟨rfl, rfl⟩)
    clear hE
    go_loop [30] (fun i => HexRel T i) (fun i => 16 - (intOf i).toNat)
    case atStart => exact ⟨0, by omega, rfl, fun m _ hm => by omega⟩
    case round =>
      obtain ⟨j, hj, rfl, hno⟩ := hrel
      have HNO := Lib.hid hno
      clear hno
      by_cases hlt : j < 16
      · have hjT : j < T.size := by omega
        have hcase := hex_case T j hjT
        have HI := Lib.hid (fun w => Tryz.strings_IndexByte ⟨#[48, 49, 50, 51, 52, 53, 54, 55, 56, 57, 97, 98, 99, 100, 101, 102]⟩ (T[j].toNat : Int) w)
        generalize Lib.indexByte (⟨#[48, 49, 50, 51, 52, 53, 54, 55, 56, 57, 97, 98, 99, 100, 101, 102]⟩ : ByteArray).data.toList ((T[j].toNat : Int).toNat.toUInt8) = n at *
        by_cases hn : 0 ≤ n
        · have HC := Lib.hid hcase
          have hn2 : ¬ n < 0 := by omega
          clear hcase
          go_wp2_with (go_at_call 148; refine (HI.out _).mono ?_; rintro e w2 ⟨rfl, rfl⟩)
          go_round
          case rel =>
            refine ⟨j + 1, by omega, by go_num, fun m hm hmj => ?_⟩
            by_cases e : m = j
            · subst e
              rw [HC.out]
              simpa using hn
            · exact HNO.out m hm (by omega)
          case measure => simp [intOf]; omega
        · clear hcase
          have hn2 : n < 0 := by omega
          obtain ⟨⟨r0, r1, r2, r3⟩, ⟨f0, f1, f2, f3⟩, lW⟩ := HR.out.facts
          go_wp2_with (go_at_call 148; refine (HI.out _).mono ?_; rintro e w2 ⟨rfl, rfl⟩)
          exact ref_end HR.out.below HR.out.res rfl rfl rfl
      · exfalso
        have := hex_all H16.out fun m hm h16 => HNO.out m hm (by omega)
        rw [HTB.out] at this
        cases this
  · have e16 : ((T.size : Int) != 16) = true := by simp; omega
    clear h16
    go_enter Tryz.func108, Tryz.ntmps108
    go_wp2_with (go_at_call 138; refine (HL.out _).mono ?_; rintro e w1 ⟨rfl, rfl⟩)
    exact ref_end HR.out.below HR.out.res rfl rfl rfl
end Go.Proofs.YtckohmhhcknmaaaGreatDoor

/-
  rotorref.ReadToken: the numbers of the body's words.
-/
namespace Go.Proofs.YtckohmhhcknmaaaGreatDoor
open Go.RowKit Go.Sort

/-- the i-th number behind k words -/
def numAt (L : List (List UInt8)) (k i : Nat) : Int := if i < k then atoiN (L.getD (i + 1) []) else 0
def nums3 (L : List (List UInt8)) (k : Nat) : Array Value := #[.int .i64 (numAt L k 0), .int .i64 (numAt L k 1), .int .i64 (numAt L k 2)]
structure RN (W : World) (L : List (List UInt8)) (v : Value) (nb : Nat) (cs : Array Value) (w : World) : Prop where
  rk : RK W w
  row : Row w (W.heap.size + 1) v L
  arr : Blk w nb 239 cs
  ne : W.heap.size < nb
  vne : v.ownBlock ≠ some nb
theorem RN.keep {W w w' : World} {L : List (List UInt8)} {v : Value} {nb : Nat} {cs : Array Value} (h : RN W L v nb cs w) (hb : Below w.heap.size w w') : RN W L v nb cs w' :=
  ⟨h.rk.keep hb, h.row.below hb, h.arr.below' hb, h.ne, h.vne⟩
theorem RN.set {W w : World} {L : List (List UInt8)} {v : Value} {nb : Nat} {cs : Array Value} (h : RN W L v nb cs w) (i : Nat) (u : Value) : RN W L v nb (cs.setIfInBounds i u) (w.setCell ⟨nb, i, none⟩ u) := by
  have hg : w.grownBy (w.setCell ⟨nb, i, none⟩ u) (some nb) := only_setCell (only_refl w _) (.inl rfl) u
  exact ⟨h.rk.keepB ((Below.refl nb w).setCell (Nat.le_refl _) u) h.ne, h.row.kept hg h.vne, h.arr.set_ i u, h.ne, h.vne⟩
theorem nums3_set (L : List (List UInt8)) (k : Nat) (hk : k < 3) : (nums3 L k).setIfInBounds k (.int .i64 (atoiN (L.getD (k + 1) []))) = nums3 L (k + 1) := by
  have : k = 0 ∨ k = 1 ∨ k = 2 := by omega
  rcases this with rfl | rfl | rfl <;> simp [nums3, numAt]
theorem nums3_far (L : List (List UInt8)) (k : Nat) (hk : ¬ k < 3) : nums3 L (k + 1) = nums3 L k := by
  unfold nums3 numAt
  rw [if_pos (by omega), if_pos (by omega), if_pos (by omega), if_pos (by omega), if_pos (by omega), if_pos (by omega)]
theorem atoi_some (s : ByteArray) (w : World) (hs : s.size ≤ 1000000) (hv : ErrVars w) :
    Calls Tryz.prog 99 #[.string s] w fun e w' => (∃ ev, e = .returned (.tuple #[.int .i64 (atoiN s.data.toList), ev])) ∧ Below w.heap.size w w' := by
  cases hE : atoiE s.data.toList
  · exact (atoi_no s w hs hv hE).mono fun e w' ⟨⟨te, pe, h⟩, hb⟩ => ⟨⟨_, h⟩, hb⟩
  · exact (atoi_yes s w hs hE).mono fun e w' ⟨h, hb⟩ => ⟨⟨_, h⟩, hb⟩
theorem RN.start {W w : World} {L : List (List UInt8)} {g cap : Nat} (h : RK W w) (hr : Row w (W.heap.size + 1) (.slice (some ⟨g, 0, none⟩) L.length cap) L) (hg1 : W.heap.size + 1 ≤ g) (hg2 : g < w.heap.size) :
    RN W L (.slice (some ⟨g, 0, none⟩) L.length cap) w.heap.size (nums3 L 0) (w.alloc (.cells #[.int .i64 0, .int .i64 0, .int .i64 0] 239)) := by
  have e : nums3 L 0 = #[.int .i64 0, .int .i64 0, .int .i64 0] := by simp [nums3, numAt]
  rw [e]
  exact ⟨h.keep ((Below.refl _ _).alloc (Nat.le_refl _) _), hr.alloc _, Blk.new w _ _, by omega, by simp [Value.ownBlock]; omega⟩
def WRel (W : World) (L : List (List UInt8)) (v : Value) (nb : Nat) (i : Value) (w : World) : Prop := ∃ k : Nat, k ≤ L.length - 1 ∧ i = .int .i64 k ∧ RN W L v nb (nums3 L k) w

theorem bodyS_L {a b c d : Int} (h : a = 1 ∨ a = 2) : bodyS a b c d = txt (bodyL a b c d) := by
  have e (x : Int) : itoS x = txt (Lib.itoa x) := rfl
  rcases h with rfl | rfl
  · rw [bodyS, bodyL, if_pos rfl, if_pos rfl, e, e, show (⟨#[114, 46]⟩ : ByteArray) = txt [114, 46] from rfl, show (⟨#[46]⟩ : ByteArray) = txt [46] from rfl]
    simp only [txt_app]
  · rw [bodyS, bodyL, if_neg (by decide), if_neg (by decide), e, e, e, show (⟨#[97, 46]⟩ : ByteArray) = txt [97, 46] from rfl, show (⟨#[46]⟩ : ByteArray) = txt [46] from rfl]
    simp only [txt_app]
theorem right_ok {a b c d : Int} : rightN a b c d = true ↔ tokOk a b c d := by
  unfold rightN tokOk
  simp [and_assoc]
def Miss (a b c d : Int) (B : ByteArray) : Prop := rightN a b c d = false ∨ (rightN a b c d = true ∧ bodyS a b c d ≠ B)
def Hit (a b c d : Int) (B : ByteArray) : Prop := rightN a b c d = true ∧ bodyS a b c d = B
theorem miss_of {a b c d : Int} {B : ByteArray} (h : ¬ Hit a b c d B) : Miss a b c d B := by
  unfold Miss
  cases hr : rightN a b c d
  · exact .inl rfl
  · exact .inr ⟨rfl, fun e => h ⟨hr, e⟩⟩
theorem hit_iff {a b c d : Int} {B : ByteArray} (h : Hit a b c d B) : tokOk a b c d ∧ bodyL a b c d = B.data.toList := by
  have h1 := right_ok.1 h.1
  refine ⟨h1, ?_⟩
  have e := h.2
  rw [bodyS_L (h1.1.imp (·.1) (·.1))] at e
  rw [← e, data_txt]
theorem tok_cases (B : ByteArray) (L : List (List UInt8)) (hL : parts 46 B.data.toList = L) :
    (Hit 1 (numAt L (L.length - 1) 0) (numAt L (L.length - 1) 1) 0 B ∧ tokP L = some (1, numAt L (L.length - 1) 0, numAt L (L.length - 1) 1, 0)) ∨
    (Miss 1 (numAt L (L.length - 1) 0) (numAt L (L.length - 1) 1) 0 B ∧ Hit 2 (numAt L (L.length - 1) 0) (numAt L (L.length - 1) 1) (numAt L (L.length - 1) 2) B ∧ tokP L = some (2, numAt L (L.length - 1) 0, numAt L (L.length - 1) 1, numAt L (L.length - 1) 2)) ∨
    (Miss 1 (numAt L (L.length - 1) 0) (numAt L (L.length - 1) 1) 0 B ∧ Miss 2 (numAt L (L.length - 1) 0) (numAt L (L.length - 1) 1) (numAt L (L.length - 1) 2) B ∧ tokP L = none) := by
  have none_of {a b c d : Int} (hn : tokP L = none) : Miss a b c d B := miss_of fun h => by
    have h2 := hit_iff h
    have h3 := tokP_body h2.1
    rw [h2.2, hL, hn] at h3
    cases h3
  cases e : tokP L with
  | none => exact .inr (.inr ⟨none_of e, none_of e, rfl⟩)
  | some q =>
    obtain ⟨a, b, c, d⟩ := q
    have h1 := tokP_some (B := B.data.toList) (by rw [hL]; exact e)
    have hp := parts_body h1.1
    rw [h1.2, hL] at hp
    obtain ⟨hk, hb, hc⟩ := id h1.1
    have hit : bodyS a b c d = B := by
      rw [bodyS_L (hk.imp (·.1) (·.1)), h1.2, txt_data]
    rcases hk with ⟨rfl, rfl⟩ | ⟨rfl, hd⟩
    · rw [if_pos rfl] at hp
      have e0 : numAt L (L.length - 1) 0 = b := by rw [hp]; simp [numAt, atoiN_itoa hb]
      have e1 : numAt L (L.length - 1) 1 = c := by rw [hp]; simp [numAt, atoiN_itoa hc]
      rw [e0, e1]
      exact .inl ⟨⟨right_ok.2 h1.1, hit⟩, rfl⟩
    · rw [if_neg (by decide)] at hp
      have e0 : numAt L (L.length - 1) 0 = b := by rw [hp]; simp [numAt, atoiN_itoa hb]
      have e1 : numAt L (L.length - 1) 1 = c := by rw [hp]; simp [numAt, atoiN_itoa hc]
      have e2 : numAt L (L.length - 1) 2 = d := by rw [hp]; simp [numAt, atoiN_itoa hd]
      rw [e0, e1, e2]
      refine .inr (.inl ⟨miss_of fun h => ?_, ⟨right_ok.2 h1.1, hit⟩, rfl⟩)
      have h2 := (hit_iff h).2
      rw [← h1.2] at h2
      simp [bodyL] at h2
theorem tokR_app {F : List UInt8 → List UInt8} {L : List (List UInt8)} {t : List UInt8} (ht : tagB t = true) :
    tokR F (L ++ [t]) = match tokP L with
      | none => (3, 0, 0, 0, 0)
      | some (a, b, c, d) => if t = F (glue 46 L) then (0, a, b, c, d) else (5, 0, 0, 0, 0) := by
  unfold tokR
  have e1 : (L ++ [t]).dropLast = L := by simp
  have e2 : (L ++ [t]).getLastD [] = t := by simp
  rw [e1, e2, ht]
  rfl
end Go.Proofs.YtckohmhhcknmaaaGreatDoor

/-
  A service with the power on, in plain Lean: what it adds is added; a token that it gave is read as that; one family's turns.
-/
namespace Go.Proofs.YtckohmhhcknmaaaGreatDoor
open Go.RowKit

theorem offS_on {z : SS} (h : z.off = false) : offS z = false := by unfold offS; rw [h]; rfl
theorem SS_eta (z : SS) {s : St} {b c : Bool} (h1 : z.s = s) (h2 : z.off = b) (h3 : z.down = c) : z = ⟨s, z.log, z.writes, b, z.left, c⟩ := by
  subst h1
  subst h2
  subst h3
  rfl
/-- with the power on an event that may be is added -/
theorem addS_on {z : SS} {e : Ev} (ho : z.off = false) (hd : z.down = false) (he : evB e = true) (hl : (applyS z.s e).fams.length ≤ 20) : ∃ lg wr lf, addS z e = (⟨applyS z.s e, lg, wr, false, lf, false⟩, 0) := by
  by_cases h16 : z.log = 16
  · have hk := manyS_keeps (z.s.fams.length + 1) z
    have hrun : runS (z.s.fams.length + 1) z = (manyS (z.s.fams.length + 1) z, true) := by
      have := runS_many (z.s.fams.length + 1) 0 z fun j _ => offS_on ((manyS_keeps j z).2.2.1.trans ho)
      rw [Nat.add_zero] at this
      rw [this]
      rfl
    have hoff : (logS (manyS (z.s.fams.length + 1) z) 0).off = false := hk.2.2.1.trans ho
    refine ⟨(nowS (oneS (logS (manyS (z.s.fams.length + 1) z) 0)) (applyS z.s e)).log, (nowS (oneS (logS (manyS (z.s.fams.length + 1) z) 0)) (applyS z.s e)).writes, (nowS (oneS (logS (manyS (z.s.fams.length + 1) z) 0)) (applyS z.s e)).left, ?_⟩
    rw [addS_save hd he hl h16, saveS_yes hd hrun, if_pos rfl, lastS_on (offS_on hoff)]
    have e1 : (nowS (oneS (logS (manyS (z.s.fams.length + 1) z) 0)) (applyS z.s e)).off = false := hk.2.2.1.trans ho
    have e2 : (nowS (oneS (logS (manyS (z.s.fams.length + 1) z) 0)) (applyS z.s e)).down = false := hk.2.2.2.trans hd
    rw [← e1]
    exact Prod.ext (SS_eta _ rfl rfl (e2.trans e1.symm)) rfl
  · have e1 : (nowS (oneS z) (applyS z.s e)).off = false := ho
    have e2 : (nowS (oneS z) (applyS z.s e)).down = false := hd
    refine ⟨(nowS (oneS z) (applyS z.s e)).log, (nowS (oneS z) (applyS z.s e)).writes, (nowS (oneS z) (applyS z.s e)).left, ?_⟩
    rw [addS_one hd he hl h16, lastS_on (offS_on ho), ← e1]
    exact Prod.ext (SS_eta _ rfl rfl (e2.trans e1.symm)) rfl
/-- an event that is added: what a plan comes to -/
theorem doPlan_on {α : Type} {d : α} {z z' : SS} {ev : Ev} {a : α} {e : Int} (h : addS z ev = (z', 0)) : doPlan d z (.put ev a e) = (z', a, e) := by
  have h2 : (addS z ev).2 = 0 := by rw [h]
  have h1 : (addS z ev).1 = z' := by rw [h]
  have : doPlan d z (.put ev a e) = ((addS z ev).1, a, e) := if_pos h2
  rw [this, h1]
theorem dot_join (B : ByteArray) (l t : List UInt8) (h : B = txt l) : B ++ (⟨#[46]⟩ : ByteArray) ++ (⟨t.toArray⟩ : ByteArray) = txt (l ++ 46 :: t) := by
  have e1 : (⟨#[46]⟩ : ByteArray) = txt [46] := rfl
  have e2 : (⟨t.toArray⟩ : ByteArray) = txt t := rfl
  rw [h, e1, e2, txt_app, txt_app, List.append_assoc]
  rfl
theorem tokS_text {key a b c d : Int} (h : tokOk a b c d) : tokS key a b c d = txt (bodyL a b c d ++ 46 :: tagL key (bodyL a b c d)) := by
  have hb : bodyS a b c d = txt (bodyL a b c d) := bodyS_L (h.1.imp (·.1) (·.1))
  unfold tokS tagS
  rw [dot_join _ _ _ hb, hb, data_txt]
/-- a token's text is that token again -/
theorem tokOf_tokS {r : Ru} {a b c d : Int} (h : tokOk a b c d) : tokOf r (tokS r.key a b c d) = (0, a, b, c, d) := by
  unfold tokOf
  rw [tokS_text h, data_txt, tokR_text h (tagB_tagL _ _), if_pos rfl]
/-- a text that is a token is that token's text -/
theorem tokOf_back {r : Ru} {t : ByteArray} {a b c d : Int} (h : tokOf r t = (0, a, b, c, d)) : tokOk a b c d ∧ t = tokS r.key a b c d := by
  obtain ⟨h1, h2⟩ := tokR_back h
  refine ⟨h1, ?_⟩
  rw [tokS_text h1, ← h2, txt_data]
theorem tokS_len {key a b c d : Int} (h : tokOk a b c d) : (tokS key a b c d).size ≤ 100 := by
  have hsz := bodyS_size a b c d (right_ok.2 h)
  rw [bodyS_L (h.1.imp (·.1) (·.1))] at hsz
  have hbl : (bodyL a b c d).length ≤ 70 := hsz
  have htl := tagB_len (tagB_tagL key (bodyL a b c d))
  rw [tokS_text h]
  show (bodyL a b c d ++ 46 :: tagL key (bodyL a b c d)).length ≤ 100
  simp [htl]
  omega
theorem tokS_pos {key a b c d : Int} (h : tokOk a b c d) : tokS key a b c d ≠ noneS := by
  intro e
  have : (tokS key a b c d).data.toList = [] := by rw [e]; rfl
  rw [tokS_text h, data_txt] at this
  simp at this
theorem tok_one {b c : Int} (hb : okN b = true) (hc : okN c = true) : tokOk 1 b c 0 := ⟨.inl ⟨rfl, rfl⟩, hb, hc⟩
/-- one family alone -/
structure Ag (z : SS) (c : Int) (f : Fam) : Prop where
  s : z.s = ⟨c, 2, [f]⟩
  off : z.off = false
  down : z.down = false
  id : f.id = 1
  fb : famB f = true
  dead : f.dead = false
  made : f.made = 0
  c0 : 0 ≤ c
theorem capN_ge {a b c : Int} (ha : 0 ≤ a) (hb : c ≤ b) (hc : c ≤ 1000) : ¬ capN a b < c := by
  unfold capN
  split <;> omega
theorem Ag.live {r : Ru} {z : SS} {c : Int} {f : Fam} (h : Ag z c f) (h1 : c ≤ r.idle) (h2 : c ≤ r.life) (h3 : c ≤ 1000) {g : Int} (hg : okN g = true) : liveR r z.s (tokS r.key 1 1 g 0) 1 = ⟨0, g, 0, f⟩ := by
  have hold : oldB r c f = false := by
    unfold oldB
    rw [Bool.or_eq_false_iff]
    refine ⟨decide_eq_false (capN_ge (okN_iff.1 (famB_parts h.fb).2.2.2.1).1 h1 h3), decide_eq_false (capN_ge ?_ h2 h3)⟩
    rw [h.made]
    exact Int.le_refl _
  have hf : findF [f] 1 = some f := by simp [findF, h.id]
  unfold liveR
  rw [tokOf_tokS (tok_one (by decide) hg), h.s]
  simp only [hf, h.dead, hold]
  simp
/-- the family's turn -/
theorem Ag.turn {r : Ru} {z : SS} {c : Int} {f : Fam} (h : Ag z c f) (h1 : c ≤ r.idle) (h2 : c ≤ r.life) (h3 : c ≤ 1000) (hgen : f.gen ≤ 1000) {q sc : ByteArray} (hq : nameB q.data.toList = true) (hs : scopeN sc.data.toList = 0) (hw : withB (leastL sc.data.toList) f.scope.data.toList = true) :
    ∃ f' z', doPlan noneS z (rotateP r z.s (tokS r.key 1 1 f.gen 0) q sc) = (z', tokS r.key 1 1 (f.gen + 1) 0, 0) ∧ Ag z' c f' ∧ f'.gen = f.gen + 1 ∧ f'.request = q ∧ f'.scope = txt (leastL sc.data.toList) := by
  have hfb := famB_parts h.fb
  have hg0 := okN_iff.1 hfb.2.1
  have hg1 : okN (f.gen + 1) = true := okN_iff.2 ⟨by omega, by omega⟩
  have hp : rotateP r z.s (tokS r.key 1 1 f.gen 0) q sc = .put (putEv (turnF z.s f q sc)) (tokS r.key 1 1 (f.gen + 1) 0) 0 := by
    unfold rotateP
    rw [hq, if_neg (by decide), h.live h1 h2 h3 hfb.2.1]
    unfold rotateL
    dsimp only
    rw [if_neg (by simp), if_neg (by omega), if_neg (by omega), if_neg (by omega), if_neg (by simp [hs]), if_neg (by rw [hw]; decide), if_neg (by omega)]
    unfold refreshS turnF
    dsimp only
    rw [h.id]
  have hfb' : famB (turnF z.s f q sc) = true := by
    unfold famB turnF
    dsimp only
    have hsl := scope_least sc.data.toList
    have hll := least_least sc.data.toList
    have hck : okN z.s.clock = true := by rw [h.s]; exact okN_iff.2 ⟨h.c0, by show c ≤ _; omega⟩
    have hsb : scopeB (txt (leastL sc.data.toList)).data.toList = true := by rw [data_txt]; exact scopeB_iff.2 ⟨hsl.1, hll⟩
    have hrq : reqB q.data.toList = true := by unfold reqB; rw [hq]; simp
    rw [hfb.1, hg1, hfb.2.2.1, hck, hfb.2.2.2.2.1, hfb.2.2.2.2.2.1, hrq, hsb]
    rfl
  have hev : evB (putEv (turnF z.s f q sc)) = true := putEv_may hfb'
  have happ : applyS z.s (putEv (turnF z.s f q sc)) = ⟨c, 2, [turnF z.s f q sc]⟩ := by
    rw [applyS_1 rfl, h.s]
    show St.mk c (max 2 (f.id + 1)) (putL [f] (turnF ⟨c, 2, [f]⟩ f q sc)) = _
    rw [h.id]
    have ha : ahead [f] 1 = 0 := by rw [ahead_cons, h.id, if_neg (by decide)]
    have hh : hasB [f] 1 = true := by
      unfold hasB
      rw [ha]
      simp [h.id]
    have hid : (turnF ⟨c, 2, [f]⟩ f q sc).id = 1 := h.id
    unfold putL
    rw [hid, hh, ha]
    rfl
  obtain ⟨lg, wr, lf, hadd⟩ := addS_on h.off h.down hev (by rw [happ]; show 1 ≤ 20; decide)
  refine ⟨turnF z.s f q sc, ⟨applyS z.s (putEv (turnF z.s f q sc)), lg, wr, false, lf, false⟩, ?_, ⟨happ, rfl, rfl, h.id, hfb', h.dead, h.made, h.c0⟩, rfl, rfl, rfl⟩
  rw [hp]
  exact doPlan_on hadd
/-- the same request once more -/
theorem Ag.again {r : Ru} {z : SS} {c : Int} {f : Fam} (h : Ag z c f) (h1 : c ≤ r.idle) (h2 : c ≤ r.life) (h3 : c ≤ 1000) {g : Int} (hg : okN g = true) (hgen : f.gen = g + 1) {q sc : ByteArray} (hq : nameB q.data.toList = true) (hr : f.request = q) :
    doPlan noneS z (rotateP r z.s (tokS r.key 1 1 g 0) q sc) = (z, tokS r.key 1 1 f.gen 0, 0) := by
  have hp : rotateP r z.s (tokS r.key 1 1 g 0) q sc = .say (tokS r.key 1 1 f.gen 0) 0 := by
    unfold rotateP
    rw [hq, if_neg (by decide), h.live h1 h2 h3 hg]
    unfold rotateL
    dsimp only
    rw [if_neg (by simp), if_neg (by omega), if_pos ⟨by omega, by rw [hr]⟩]
    unfold refreshS
    rw [h.id]
  rw [hp]
  rfl
/-- an elder token by another request -/
theorem Ag.stolen {r : Ru} {z : SS} {c : Int} {f : Fam} (h : Ag z c f) (h1 : c ≤ r.idle) (h2 : c ≤ r.life) (h3 : c ≤ 1000) {g : Int} (hg : okN g = true) (hgen : f.gen = g + 1) {q sc : ByteArray} (hq : nameB q.data.toList = true) (hr : q.data.toList ≠ f.request.data.toList) :
    ∃ z', doPlan noneS z (rotateP r z.s (tokS r.key 1 1 g 0) q sc) = (z', noneS, 15) ∧ ∀ t' q' sc' a, tokOf r t' = (0, 1, 1, a, 0) → nameB q'.data.toList = true → doPlan noneS z' (rotateP r z'.s t' q' sc') = (z', noneS, 6) := by
  have hp : rotateP r z.s (tokS r.key 1 1 g 0) q sc = .put (putEv (deadF f)) noneS 15 := by
    unfold rotateP
    rw [hq, if_neg (by decide), h.live h1 h2 h3 hg]
    unfold rotateL
    dsimp only
    rw [if_neg (by simp), if_neg (by omega), if_neg (fun hh => hr hh.2), if_pos (by omega)]
  have hev : evB (putEv (deadF f)) = true := putEv_may h.fb
  have happ : applyS z.s (putEv (deadF f)) = ⟨c, 2, [deadF f]⟩ := by
    rw [applyS_1 rfl, h.s]
    show St.mk c (max 2 (f.id + 1)) (putL [f] (deadF f)) = _
    rw [h.id]
    have ha : ahead [f] 1 = 0 := by rw [ahead_cons, h.id, if_neg (by decide)]
    have hh : hasB [f] 1 = true := by
      unfold hasB
      rw [ha]
      simp [h.id]
    have hid : (deadF f).id = 1 := h.id
    unfold putL
    rw [hid, hh, ha]
    rfl
  obtain ⟨lg, wr, lf, hadd⟩ := addS_on h.off h.down hev (by rw [happ]; show 1 ≤ 20; decide)
  refine ⟨⟨applyS z.s (putEv (deadF f)), lg, wr, false, lf, false⟩, ?_, fun t' q' sc' a ht hq' => ?_⟩
  · rw [hp]
    exact doPlan_on hadd
  · have hf : findF [deadF f] 1 = some (deadF f) := by simp [findF, deadF, h.id]
    have hdd : (deadF f).dead = true := rfl
    have hlv : liveR r ⟨c, 2, [deadF f]⟩ t' 1 = ⟨6, 0, 0, Fam.zero⟩ := by
      unfold liveR
      rw [ht]
      simp [hf, hdd]
    dsimp only
    rw [happ]
    unfold rotateP
    rw [hq', if_neg (by decide), hlv]
    unfold rotateL
    rw [if_pos (by decide)]
    rfl
/-- the first family of an empty store -/
theorem Ag.grant {r : Ru} {cl su sc : ByteArray} (h1 : nameB cl.data.toList = true) (h2 : nameB su.data.toList = true) (hs : scopeN sc.data.toList = 0) :
    ∃ f z, doPlan noneS newS (grantP r newS.s cl su sc) = (z, tokS r.key 1 1 0 0, 0) ∧ Ag z 0 f ∧ f.gen = 0 ∧ f.scope = txt (leastL sc.data.toList) := by
  have hp : grantP r newS.s cl su sc = .put (putEv (grantF newS.s cl su sc)) (tokS r.key 1 1 0 0) 0 := by
    unfold grantP
    rw [h1, h2, if_neg (by decide), if_neg (by simp [hs]), if_neg (by decide), if_neg (by decide)]
    rfl
  have hfb : famB (grantF newS.s cl su sc) = true := by
    unfold famB grantF
    dsimp only
    have hsb : scopeB (txt (leastL sc.data.toList)).data.toList = true := by rw [data_txt]; exact scopeB_iff.2 ⟨(scope_least _).1, least_least _⟩
    rw [h1, h2, hsb]
    rfl
  have happ : applyS newS.s (putEv (grantF newS.s cl su sc)) = ⟨0, 2, [grantF newS.s cl su sc]⟩ := rfl
  obtain ⟨lg, wr, lf, hadd⟩ := addS_on (z := newS) rfl rfl (putEv_may hfb) (by rw [happ]; show 1 ≤ 20; decide)
  refine ⟨grantF newS.s cl su sc, ⟨applyS newS.s (putEv (grantF newS.s cl su sc)), lg, wr, false, lf, false⟩, ?_, ⟨happ, rfl, rfl, rfl, hfb, rfl, rfl, Int.le_refl _⟩, rfl, rfl⟩
  rw [hp]
  exact doPlan_on hadd
/-- a tick -/
theorem Ag.tick {z : SS} {c : Int} {f : Fam} (h : Ag z c f) (hc : c ≤ 1000) : ∃ z', doPlan () z (tickP z.s 1) = (z', (), 0) ∧ Ag z' (c + 1) f := by
  have h0 := h.c0
  have hcap : capN z.s.clock 1 = c + 1 := by
    rw [h.s]
    unfold capN
    rw [if_neg (by show ¬ _ < c + 1; omega)]
  have hp : tickP z.s 1 = .put (tickEv (c + 1)) () 0 := by
    unfold tickP
    rw [if_neg (by decide), hcap]
  have hev : evB (tickEv (c + 1)) = true := by
    unfold evB tickEv
    dsimp only
    rw [if_neg (by decide), if_neg (by decide), if_pos rfl, okN_iff.2 ⟨by omega, by omega⟩]
    rfl
  have happ : applyS z.s (tickEv (c + 1)) = ⟨c + 1, 2, [f]⟩ := by rw [h.s]; rfl
  obtain ⟨lg, wr, lf, hadd⟩ := addS_on h.off h.down hev (by rw [happ]; show 1 ≤ 20; decide)
  refine ⟨⟨applyS z.s (tickEv (c + 1)), lg, wr, false, lf, false⟩, ?_, ⟨happ, rfl, rfl, h.id, h.fb, h.dead, h.made, by omega⟩⟩
  rw [hp]
  exact doPlan_on hadd
theorem tok_apart {key g h : Int} (hg : okN g = true) (hh : okN h = true) (hne : g ≠ h) : tokS key 1 1 g 0 ≠ tokS key 1 1 h 0 := by
  intro e
  have h1 := tokOf_tokS (r := ⟨key, 0, 0, 0⟩) (tok_one (b := 1) (by decide) hg)
  have h2 := tokOf_tokS (r := ⟨key, 0, 0, 0⟩) (tok_one (b := 1) (by decide) hh)
  dsimp only at h1 h2
  rw [e, h2] at h1
  simp at h1
  exact hne h1.symm
def readW : List UInt8 := [114, 101, 97, 100]
def writeW : List UInt8 := [119, 114, 105, 116, 101]
def bothW : List UInt8 := [114, 101, 97, 100, 43, 119, 114, 105, 116, 101]
theorem s_readW : scopeN readW = 0 ∧ scopeL readW = [readW] := by
  have h := scope_of (s := readW) (ws := [readW]) rfl (by decide) (by decide) (by decide) (by decide)
  exact ⟨h.1, h.2.trans (uniq_of_up (by unfold Up; simp))⟩
theorem s_bothW : scopeN bothW = 0 ∧ scopeL bothW = [readW, writeW] := by
  have h := scope_of (s := bothW) (ws := [readW, writeW]) rfl (by decide) (by decide) (by decide) (by decide)
  exact ⟨h.1, h.2.trans (uniq_of_up (by unfold Up; simp [leW, readW, writeW]; decide))⟩
theorem read_in_read : withB (leastL readW) (txt (leastL readW)).data.toList = true := by
  have h : leastL readW = readW := by unfold leastL; rw [s_readW.2]; rfl
  rw [data_txt, h]
  unfold withB withN withinB
  rw [s_readW.1, s_readW.2]
  decide
theorem read_in_both : withB (leastL readW) (txt (leastL bothW)).data.toList = true := by
  have h : leastL readW = readW := by unfold leastL; rw [s_readW.2]; rfl
  have h2 : leastL bothW = bothW := by unfold leastL; rw [s_bothW.2]; rfl
  rw [data_txt, h, h2]
  unfold withB withN withinB
  rw [s_readW.1, s_bothW.1, s_readW.2, s_bothW.2]
  decide
end Go.Proofs.YtckohmhhcknmaaaGreatDoor

/-
  The library's cuts at a blank, as the store's plain words have them.
-/
namespace Go.Proofs.YtckohmhhcknmaaaGreatDoor

theorem all_kept {p : UInt8 → Bool} : ∀ l : List UInt8, (∀ x ∈ l, p x = true) → l.takeWhile p = l ∧ l.dropWhile p = []
  | [], _ => ⟨rfl, rfl⟩
  | x :: l, h => by
    obtain ⟨h1, h2⟩ := all_kept l fun y hy => h y (List.mem_cons_of_mem _ hy)
    rw [List.takeWhile_cons, List.dropWhile_cons, if_pos (h x (List.mem_cons_self ..)), if_pos (h x (List.mem_cons_self ..)), h1, h2]
    exact ⟨rfl, rfl⟩
theorem lib_cut (l : List UInt8) : Lib.cut l [32] = (firstHead l, firstRest l, decide (32 ∈ l)) := by
  by_cases h : (32 : UInt8) ∈ l
  · obtain ⟨a, b, rfl, ha⟩ := first_of h
    obtain ⟨h1, h2⟩ := first_cut (b := b) ha
    have hi : Lib.index (a ++ 32 :: b) [32] = (a.length : Int) := by
      refine Lib.index_first (by simp) ?_ ?_
      · rw [Lib.occAt_iff_take _ _ _ (by simp)]
        simp
      · intro j hj
        rcases ho : Lib.occAt (a ++ 32 :: b) [32] j with _ | _
        · rfl
        · exfalso
          have := Lib.occAt_head rfl ho
          rw [List.getElem?_append_left hj] at this
          exact ha (List.mem_of_getElem? this)
    unfold Lib.cut
    rw [hi, if_pos (by omega), h1, h2, decide_eq_true h]
    simp
  · have hi : Lib.index l [32] = -1 := by
      refine Lib.index_none fun j _ => ?_
      rcases ho : Lib.occAt l [32] j with _ | _
      · rfl
      · exact absurd (List.mem_of_getElem? (Lib.occAt_head rfl ho)) h
    have hall : ∀ x ∈ l, (x != 32) = true := fun x hx => by
      have : x ≠ 32 := fun e => h (by rw [← e]; exact hx)
      simpa using this
    unfold Lib.cut firstHead firstRest
    rw [hi, if_neg (by decide), decide_eq_false h, (all_kept l hall).1, (all_kept l hall).2]
    rfl
/-- the last blank of a text: none, or where it stands -/
theorem last_blank (s : ByteArray) : (Lib.lastIndexByte s 32 = -1 ∧ cutLast s.data.toList = none) ∨
    ∃ i : Nat, i < s.size ∧ Lib.lastIndexByte s 32 = i ∧ cutLast s.data.toList = some (s.data.toList.take i, s.data.toList.drop (i + 1)) := by
  have hz : s.data.toList.length = s.size := size_data s
  have hget : ∀ j, j < s.size → s.data.toList[j]? = some (s.data[j]!) := fun j hj => by
    have hj' : j < s.data.size := hj
    rw [Array.getElem?_toList, Array.getElem?_eq_getElem hj', getElem!_pos s.data j hj']
  rcases Lib.lastIndexByte_spec s 32 with ⟨h1, h2⟩ | ⟨i, hi, h1, h2, h3⟩
  · refine .inl ⟨h1, ?_⟩
    unfold cutLast
    rw [if_neg]
    intro hm
    obtain ⟨j, hj⟩ := List.mem_iff_getElem?.1 hm
    have hlt := (List.getElem?_eq_some_iff.1 hj).1
    rw [hget j (by omega)] at hj
    have := h2 j (by omega)
    rw [Option.some.inj hj] at this
    exact this rfl
  · refine .inr ⟨i, hi, h1, ?_⟩
    have hb : s.data[i]! = 32 := by
      apply UInt8.toNat_inj.1
      have : ((s.data[i]!).toNat : Int) = 32 := h2
      show (s.data[i]!).toNat = 32
      omega
    have he : s.data.toList = s.data.toList.take i ++ 32 :: s.data.toList.drop (i + 1) := by
      have h4 := List.take_append_drop i s.data.toList
      have hlt : i < s.data.toList.length := by omega
      rw [List.drop_eq_getElem_cons hlt] at h4
      have h5 := hget i hi
      rw [List.getElem?_eq_getElem hlt] at h5
      rw [Option.some.inj h5, hb] at h4
      exact h4.symm
    have hf : (32 : UInt8) ∉ s.data.toList.drop (i + 1) := by
      intro hm
      obtain ⟨j, hj⟩ := List.mem_iff_getElem?.1 hm
      rw [List.getElem?_drop] at hj
      have hlt := (List.getElem?_eq_some_iff.1 hj).1
      rw [hget _ (by omega)] at hj
      have := h3 (i + 1 + j) (by omega) (by omega)
      rw [Option.some.inj hj] at this
      exact this rfl
    have := cutLast_of (x := s.data.toList.take i) hf
    rw [← he] at this
    exact this
end Go.Proofs.YtckohmhhcknmaaaGreatDoor

/-
  store.sealed, store.opened: words with their tag behind; what stands ahead of a tag that is right.
-/
namespace Go.Proofs.YtckohmhhcknmaaaGreatDoor
open Go.RowKit Go.Sort

theorem dig_no (d : Nat) : dig d ≠ 32 := by
  by_cases h : d < 16
  · have : ∀ n : Fin 16, dig n.1 ≠ 32 := by decide
    exact this ⟨d, h⟩
  · unfold dig
    rw [List.getD_eq_getElem?_getD, List.getElem?_eq_none (by show hexTab.length ≤ d; unfold hexTab; simp; omega)]
    decide
theorem hexN_no : ∀ (k n : Nat), (32 : UInt8) ∉ hexN k n
  | 0, n => by simp [hexN]
  | k + 1, n => by
    rw [hexN_cons, List.mem_cons]
    rintro (h | h)
    · exact dig_no _ h.symm
    · exact hexN_no k n h
theorem tag_ok : TagOk tagL := ⟨fun _ _ => hexN_length _ _, fun _ _ => hexN_no _ _⟩
theorem sealL_len (x : List UInt8) : (sealL tagL x).length = x.length + 17 := by
  unfold sealL
  rw [List.length_append, List.length_cons, tag_ok.len]

set_option maxRecDepth 100000 in
theorem store_sealed (B : Nat) (v : Value) (L : List (List UInt8)) (W : World) (h : Row W B v L) (hL : L.length ≤ 100) (hlen : (glue 32 L).length ≤ 1000) :
    Calls Tryz.prog 75 #[v] W fun e w' => e = .returned (.string (txt (sealL tagL (glue 32 L)))) ∧ Below W.heap.size W w' := by
  have HJ := Lib.hid (join_row 32 h (by omega) (by omega))
  have hsz : (txt (glue 32 L)).size ≤ 1000 := by rw [← size_data, data_txt]; exact hlen
  have HT := Lib.hid (fun w => mac_tag 0 (txt (glue 32 L)) w (by omega))
  have hdt : (txt (glue 32 L)).data.toList = glue 32 L := data_txt _
  rw [hdt] at HT
  have hts : (⟨(tagL 0 (glue 32 L)).toArray⟩ : ByteArray).size = 16 := by have := tag_ok.len 0 (glue 32 L); simpa [ByteArray.size] using this
  have hres : (txt (glue 32 L) ++ ⟨#[32]⟩) ++ (⟨(tagL 0 (glue 32 L)).toArray⟩ : ByteArray) = txt (sealL tagL (glue 32 L)) := by
    apply ByteArray.ext
    apply Array.ext'
    unfold sealL txt
    simp
  have HR := Lib.hid hres
  clear h hL hlen hdt hres
  generalize txt (sealL tagL (glue 32 L)) = r at *
  generalize (⟨(tagL 0 (glue 32 L)).toArray⟩ : ByteArray) = tg at *
  generalize txt (glue 32 L) = x at *
  go_enter Tryz.func75, Tryz.ntmps75
  go_wp2_with fail
  go_at_call 78
  refine HJ.out.mono ?_
  rintro e w1 ⟨rfl, hb⟩
  have HB := Lib.hid hb
  clear hb HJ
  go_wp2_with fail
  go_at_call 76
  refine (HT.out _).mono ?_
  rintro e w2 ⟨rfl, hb⟩
  have HB2 := Lib.hid (below_2 HB.out hb)
  clear hb HT
  go_wp2_with fail
  go_ret
  refine ⟨?_, HB2.out⟩
  rw [← HR.out]
  rfl

/-- what store.opened gives -/
def OpenGot (W : World) (o : Option (List UInt8)) (e : Ending) (w' : World) : Prop :=
  (∃ x b, e = .returned (.tuple #[.string x, .bool b]) ∧ (match o with | some l => x = txt l ∧ b = true | none => x = ⟨#[]⟩ ∧ b = false)) ∧ Below W.heap.size W w'

theorem opened_none (s : ByteArray) (W : World) (hs : s.size ≤ 1000) (h1 : Lib.lastIndexByte s 32 = -1) :
    Calls Tryz.prog 98 #[.string s] W fun e w' => e = .returned (.tuple #[.string ⟨#[]⟩, .bool false]) ∧ Below W.heap.size W w' := by
  have HL := Lib.hid (fun w => Tryz.strings_LastIndexByte s 32 (by omega) w)
  rw [h1] at HL
  clear h1
  go_enter Tryz.func98, Tryz.ntmps98
  go_wp2_with (go_at_call 138; refine (HL.out _).mono ?_; rintro e w1 ⟨rfl, rfl⟩)
  go_quiet (fail)
  go_wp2_with fail
  go_ret2
  exact ⟨rfl, below_drewN (Below.refl _ _) _⟩
set_option maxRecDepth 100000 in
theorem opened_some (s x t : ByteArray) (i : Nat) (W : World) (hs : s.size ≤ 1000) (h1 : Lib.lastIndexByte s 32 = (i : Int)) (hi : i < s.size) (hx : s.extract 0 i = x) (ht : s.extract (i + 1) s.size = t) (hxs : x.size ≤ 1000) :
    Calls Tryz.prog 98 #[.string s] W fun e w' => e = .returned (.tuple #[.string (if t.data.toList = tagL 0 x.data.toList then x else ⟨#[]⟩), .bool (decide (t.data.toList = tagL 0 x.data.toList))]) ∧ Below W.heap.size W w' := by
  have HL := Lib.hid (fun w => Tryz.strings_LastIndexByte s 32 (by omega) w)
  rw [h1] at HL
  have HT := Lib.hid (fun w => mac_tag 0 x w (by omega))
  have hq : (t.toList == (⟨(tagL 0 x.data.toList).toArray⟩ : ByteArray).toList) = decide (t.data.toList = tagL 0 x.data.toList) := by
    rw [ByteArray.toList_eq, ByteArray.toList_eq, Bool.eq_iff_iff]
    simp
  have hi0 : ¬ (i : Int) < 0 := by omega
  have hi1 : (0 : Int) ≤ (i : Int) := by omega
  have hi2 : (i : Int) ≤ (s.size : Int) := by omega
  have hi3 : (0 : Int) ≤ (i : Int) + 1 := by omega
  have hi4 : (i : Int) + 1 ≤ (s.size : Int) := by omega
  have hi5 : IntKind.i64.wrap ((i : Int) + 1) = (i : Int) + 1 := by unfold IntKind.wrap; simp [IntKind.signed, IntKind.bits]; omega
  have hi6 : ((i : Int) + 1).toNat = i + 1 := by omega
  generalize (⟨(tagL 0 x.data.toList).toArray⟩ : ByteArray) = tg at *
  clear h1
  by_cases hc : t.data.toList = tagL 0 x.data.toList
  all_goals
    have HC := Lib.hid hc
    first | rw [if_pos hc] | rw [if_neg hc]
    first | rw [decide_eq_true hc] at hq ⊢ | rw [decide_eq_false hc] at hq ⊢
    clear hc
    go_enter Tryz.func98, Tryz.ntmps98
    go_wp2_with (go_at_call 138; refine (HL.out _).mono ?_; rintro e w1 ⟨rfl, rfl⟩)
    go_region_held3 (fun w' => Below w1.heap.size w1 w')
      (first
        | with_reducible assumption
        | exact below_drewN (Below.refl _ _) 1
        | exact below_2 (by assumption) (by assumption))
      (first
        | (go_at_call 76; with_reducible refine (HT.out _).mono ?_; rintro e w2 ⟨rfl, hb2⟩))
    go_wp2_with fail
    go_ret2
    exact ⟨rfl, by assumption⟩

/-- store.opened: what stands ahead of a tag that is right -/
theorem store_opened (s : ByteArray) (W : World) (hs : s.size ≤ 1000) : Calls Tryz.prog 98 #[.string s] W (OpenGot W (openL tagL s.data.toList)) := by
  rcases last_blank s with ⟨h1, h2⟩ | ⟨i, hi, h1, h2⟩
  · refine (opened_none s W hs h1).mono fun e w' ⟨he, hb⟩ => ⟨⟨_, _, he, ?_⟩, hb⟩
    unfold openL
    rw [h2]
    exact ⟨rfl, rfl⟩
  · have hx : (s.extract 0 i).data.toList = s.data.toList.take i := by rw [Lib.extract_data]; simp
    have ht : (s.extract (i + 1) s.size).data.toList = s.data.toList.drop (i + 1) := by rw [Lib.extract_to_end]
    refine (opened_some s (s.extract 0 i) (s.extract (i + 1) s.size) i W hs h1 hi rfl rfl (by rw [ByteArray.size_extract]; omega)).mono fun e w' ⟨he, hb⟩ => ⟨⟨_, _, he, ?_⟩, hb⟩
    unfold openL
    rw [h2]
    dsimp only
    rw [hx, ht]
    by_cases hc : s.data.toList.drop (i + 1) = tagL 0 (s.data.toList.take i)
    · rw [if_pos hc, if_pos hc]
      refine ⟨?_, by simpa using hc⟩
      rw [← hx, txt_data]
    · rw [if_neg hc, if_neg hc]
      exact ⟨rfl, by simpa using hc⟩
end Go.Proofs.YtckohmhhcknmaaaGreatDoor

/-
  Families and events as values.
-/
namespace Go.Proofs.YtckohmhhcknmaaaGreatDoor
open Go.RowKit Go.Sort

def famCs (f : Fam) : Array Value := #[.int .i64 f.id, .string f.client, .string f.subject, .string f.scope, .int .i64 f.gen, .int .i64 f.made, .int .i64 f.used, .string f.request, .bool f.dead]
def evCs (e : Ev) : Array Value := #[.int .i64 e.kind, .int .i64 e.fam.id, .string e.fam.client, .string e.fam.subject, .string e.fam.scope, .int .i64 e.fam.gen, .int .i64 e.fam.made, .int .i64 e.fam.used, .string e.fam.request, .bool e.fam.dead, .int .i64 e.id, .int .i64 e.time]
def famVal (f : Fam) : Value := .agg (famCs f)
def evVal (e : Ev) : Value := .agg (evCs e)
/-- a family's texts are short -/
def Fam.short (f : Fam) (n : Nat) : Prop := f.client.size ≤ n ∧ f.subject.size ≤ n ∧ f.scope.size ≤ n ∧ f.request.size ≤ n
theorem fam_cells {w : World} {g : Nat} {T : TypeId} {i : Int} {cl su sc : ByteArray} {ge ma us : Int} {re : ByteArray} {de : Bool} (h : Blk w g T (famCs ⟨i, cl, su, sc, ge, ma, us, re, de⟩)) :
    w.cell? ⟨g, 0, none⟩ = some (.int .i64 i) ∧ w.cell? ⟨g, 1, none⟩ = some (.string cl) ∧ w.cell? ⟨g, 2, none⟩ = some (.string su) ∧ w.cell? ⟨g, 3, none⟩ = some (.string sc) ∧ w.cell? ⟨g, 4, none⟩ = some (.int .i64 ge) ∧
    w.cell? ⟨g, 5, none⟩ = some (.int .i64 ma) ∧ w.cell? ⟨g, 6, none⟩ = some (.int .i64 us) ∧ w.cell? ⟨g, 7, none⟩ = some (.string re) ∧ w.cell? ⟨g, 8, none⟩ = some (.bool de) :=
  ⟨h.cell 0, h.cell 1, h.cell 2, h.cell 3, h.cell 4, h.cell 5, h.cell 6, h.cell 7, h.cell 8⟩
theorem ev_cells {w : World} {g : Nat} {T : TypeId} {k i : Int} {cl su sc : ByteArray} {ge ma us : Int} {re : ByteArray} {de : Bool} {id ti : Int} (h : Blk w g T (evCs ⟨k, ⟨i, cl, su, sc, ge, ma, us, re, de⟩, id, ti⟩)) :
    w.cell? ⟨g, 0, none⟩ = some (.int .i64 k) ∧ w.cell? ⟨g, 1, none⟩ = some (.int .i64 i) ∧ w.cell? ⟨g, 2, none⟩ = some (.string cl) ∧ w.cell? ⟨g, 3, none⟩ = some (.string su) ∧ w.cell? ⟨g, 4, none⟩ = some (.string sc) ∧ w.cell? ⟨g, 5, none⟩ = some (.int .i64 ge) ∧
    w.cell? ⟨g, 6, none⟩ = some (.int .i64 ma) ∧ w.cell? ⟨g, 7, none⟩ = some (.int .i64 us) ∧ w.cell? ⟨g, 8, none⟩ = some (.string re) ∧ w.cell? ⟨g, 9, none⟩ = some (.bool de) ∧ w.cell? ⟨g, 10, none⟩ = some (.int .i64 id) ∧ w.cell? ⟨g, 11, none⟩ = some (.int .i64 ti) :=
  ⟨h.cell 0, h.cell 1, h.cell 2, h.cell 3, h.cell 4, h.cell 5, h.cell 6, h.cell 7, h.cell 8, h.cell 9, h.cell 10, h.cell 11⟩
/-- numbers that lie in a block from its first cell on -/
def IntsAt (w : World) (g : Nat) (L : List Int) : Prop := ∀ j, j < L.length → w.cell? ⟨g, j, none⟩ = some (.int .i64 (L.getD j 0))
theorem IntsAt.drewN {w : World} {g : Nat} {L : List Int} (h : IntsAt w g L) (q : Nat) : IntsAt (w.drewN q) g L := h

/-- what the reference's May knows while it runs: the blocks of the event and of its family -/
structure MR (T : TypeId) (W : World) (e : Ev) (w : World) : Prop where
  below : Below W.heap.size W w
  ev : Blk w W.heap.size T (evCs e)
  fam : Blk w (W.heap.size + 1) 79 (famCs e.fam)
theorem MR.keep {T : TypeId} {W w w' : World} {e : Ev} (h : MR T W e w) (hb : Below w.heap.size w w') : MR T W e w' :=
  ⟨below_2 h.below hb, h.ev.below' hb, h.fam.below' hb⟩
theorem MR.start {T : TypeId} {W : World} (e : Ev) : MR T W e ((W.alloc (.cells (evCs e) T)).alloc (.cells (famCs e.fam) 79)) := by
  have hb : Below W.heap.size W ((W.alloc (.cells (evCs e) T)).alloc (.cells (famCs e.fam) 79)) := ((Below.refl _ _).alloc (Nat.le_refl _) _).alloc (by simp) _
  refine ⟨hb, (Blk.new W _ _).alloc _, ?_⟩
  have := Blk.new (W.alloc (.cells (evCs e) T)) 79 (famCs e.fam)
  simpa using this
theorem MR.cells {T : TypeId} {W w : World} {k i : Int} {cl su sc : ByteArray} {ge ma us : Int} {re : ByteArray} {de : Bool} {id ti : Int} (h : MR T W ⟨k, ⟨i, cl, su, sc, ge, ma, us, re, de⟩, id, ti⟩ w) :
    w.cell? ⟨W.heap.size, 0, none⟩ = some (.int .i64 k) ∧ w.cell? ⟨W.heap.size, 10, none⟩ = some (.int .i64 id) ∧ w.cell? ⟨W.heap.size, 11, none⟩ = some (.int .i64 ti) ∧
    w.cell? ⟨W.heap.size + 1, 0, none⟩ = some (.int .i64 i) ∧ w.cell? ⟨W.heap.size + 1, 1, none⟩ = some (.string cl) ∧ w.cell? ⟨W.heap.size + 1, 2, none⟩ = some (.string su) ∧ w.cell? ⟨W.heap.size + 1, 3, none⟩ = some (.string sc) ∧ w.cell? ⟨W.heap.size + 1, 4, none⟩ = some (.int .i64 ge) ∧
    w.cell? ⟨W.heap.size + 1, 5, none⟩ = some (.int .i64 ma) ∧ w.cell? ⟨W.heap.size + 1, 6, none⟩ = some (.int .i64 us) ∧ w.cell? ⟨W.heap.size + 1, 7, none⟩ = some (.string re) ∧ w.cell? ⟨W.heap.size + 1, 8, none⟩ = some (.bool de) :=
  ⟨h.ev.cell 0, h.ev.cell 10, h.ev.cell 11, h.fam.cell 0, h.fam.cell 1, h.fam.cell 2, h.fam.cell 3, h.fam.cell 4, h.fam.cell 5, h.fam.cell 6, h.fam.cell 7, h.fam.cell 8⟩
theorem four_ok (a b c d : Int) : [a, b, c, d].all okN = (okN a && okN b && okN c && okN d) := by simp [Bool.and_assoc]
theorem ints_new (w : World) (T : TypeId) (L : List Int) : IntsAt (w.alloc (.cells (L.map fun x => Value.int .i64 x).toArray T)) w.heap.size L := by
  intro j hj
  have h := (Blk.new w T (L.map fun x => Value.int .i64 x).toArray).cell j
  rw [h]
  simp [hj]
theorem empty_list {s : ByteArray} : s.toList.isEmpty = decide (s.data.toList = []) := by
  rw [ByteArray.toList_eq]
  cases s.data.toList <;> simp
theorem scope_eq (x s : ByteArray) (l : List UInt8) (hx : x = txt l) : (x.toList == s.toList) = decide (l = s.data.toList) := by
  rw [hx, toList_txt, ByteArray.toList_eq, Bool.eq_iff_iff]
  simp

/-- the sizes of a family's texts -/
def Fam.len (f : Fam) : Nat := f.client.size + f.subject.size + f.scope.size + f.request.size
theorem Fam.short_of {f : Fam} {n : Nat} (h : f.len ≤ n) : f.short n := by
  unfold Fam.len at h
  exact ⟨by omega, by omega, by omega, by omega⟩

theorem one_ok (a : Int) : [a].all okN = okN a := by simp
theorem alloc2 (W : World) (o o' : Obj) : Below W.heap.size W ((W.alloc o).alloc o') := ((Below.refl _ _).alloc (Nat.le_refl _) _).alloc (by simp) _
theorem isZero_list (f : Fam) : f.isZero = (decide (f.id = 0) && decide (f.client.toList = []) && decide (f.subject.toList = []) && decide (f.scope.toList = []) && decide (f.gen = 0) && decide (f.made = 0) && decide (f.used = 0) && decide (f.request.toList = []) && !f.dead) := by
  unfold Fam.isZero
  rw [ByteArray.toList_eq, ByteArray.toList_eq, ByteArray.toList_eq, ByteArray.toList_eq]
theorem alloc3 {W w : World} (o o' o'' : Obj) (h : Below (((W.alloc o).alloc o').alloc o'').heap.size (((W.alloc o).alloc o').alloc o'') w) : Below W.heap.size W w :=
  below_2 ((alloc2 W o o').alloc (by simp; omega) o'') h
theorem zero_of {i ge ma us : Int} {cl su sc re : ByteArray} {de : Bool} (h1 : i = 0) (h2 : cl.toList = []) (h3 : su.toList = []) (h4 : sc.toList = []) (h5 : ge = 0) (h6 : ma = 0) (h7 : us = 0) (h8 : re.toList = []) (h9 : ¬ de = true)
    (h : Fam.isZero ⟨i, cl, su, sc, ge, ma, us, re, de⟩ = false) : False := by
  rw [isZero_list] at h
  have h9' : de = false := by simpa using h9
  dsimp only at h
  rw [h2, h3, h4, h8, h1, h5, h6, h7, h9'] at h
  simp at h
theorem ints_2 (W : World) (o o' : Obj) (T : TypeId) (b : Int) : IntsAt (((W.alloc o).alloc o').alloc (.cells #[.int .i64 b] T)) (W.heap.size + 1 + 1) [b] := by
  have h := ints_new ((W.alloc o).alloc o') T [b]
  simpa using h
/-- the two kinds of one number: what is to be none, and the number -/
theorem right_num (T : Int) (a b : Int) (e : Ev) (hk : e.kind = T) (h : (T = 2 ∧ a = e.time ∧ b = e.id) ∨ (T = 3 ∧ a = e.id ∧ b = e.time)) : evB e = (e.fam.isZero && decide (a = 0) && okN b) := by
  rcases h with ⟨rfl, rfl, rfl⟩ | ⟨rfl, rfl, rfl⟩
  · unfold evB; rw [hk, if_neg (by decide), if_pos rfl]
  · unfold evB; rw [hk, if_neg (by decide), if_neg (by decide), if_pos rfl]
theorem ints_at {L : List Int} {k : Nat} (hk : k < L.length) (h : okN (L.getD k 0) = false) : L.all okN = false := by
  rw [List.all_eq_false]
  refine ⟨L[k], List.getElem_mem hk, ?_⟩
  simpa [List.getD, hk] using h
theorem ints_all {L : List Int} (h : ∀ j, j < L.length → okN (L.getD j 0) = true) : L.all okN = true := by
  rw [List.all_eq_true]
  intro x hx
  obtain ⟨j, hj, rfl⟩ := List.mem_iff_getElem.1 hx
  have := h j hj
  simpa [List.getD, hj] using this
end Go.Proofs.YtckohmhhcknmaaaGreatDoor
