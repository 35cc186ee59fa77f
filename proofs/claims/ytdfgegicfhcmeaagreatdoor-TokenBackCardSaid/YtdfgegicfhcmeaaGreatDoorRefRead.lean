/-
  rotorref.ReadToken: the token that any text is, or what is wrong with it.
-/
import Derived.Test.YtdfgegicfhcmeaaGreatDoorTokPure
import Derived.Test.YtdfgegicfhcmeaaGreatDoorAtoi
import Derived.Test.YtdfgegicfhcmeaaGreatDoorTokRead2
import Derived.Test.YtdfgegicfhcmeaaGreatDoorRefWrite2
import Derived.Lib.LastIndexByte
import Derived.Lib.IndexAny
namespace Go.Proofs.YtdfgegicfhcmeaaGreatDoor
open Go.RowKit Go.Sort

/-- what is known while rotorref.ReadToken is under way -/
structure RK (W : World) (w : World) : Prop where
  below : Below W.heap.size W w
  res : Blk w W.heap.size 38 #[.int .i64 0, .int .i64 0, .int .i64 0, .int .i64 0]
  tens : Tens w
  tab : Tab15 w
  errs : ErrVars w
  maxl : MaxL w
  gl : 3 < W.heap.size ∧ 4 < W.heap.size ∧ 2 < W.heap.size ∧ 8 < W.heap.size ∧ 1 < W.heap.size
theorem RK.keepB {W w w' : World} {B : Nat} (h : RK W w) (hb : Below B w w') (hB : W.heap.size < B) : RK W w' :=
  ⟨h.below.trans (hb.mono (Nat.le_of_lt hB)), h.res.below hb hB, h.tens.below hb (Nat.lt_trans h.gl.2.2.1 hB), h.tab.below hb (Nat.lt_trans h.gl.2.2.2.1 hB), h.errs.below hb (Nat.lt_trans h.gl.1 hB) (Nat.lt_trans h.gl.2.1 hB), h.maxl.below hb (Nat.lt_trans h.gl.2.2.2.2 hB), h.gl⟩
theorem RK.keep {W w w' : World} (h : RK W w) (hb : Below w.heap.size w w') : RK W w' := h.keepB hb h.res.lt
theorem RK.start {W : World} (hm : MaxL W) (hT : Tens W) (hT2 : Tab15 W) (hv : ErrVars W) : RK W (W.alloc (.cells #[.int .i64 0, .int .i64 0, .int .i64 0, .int .i64 0] 38)) := by
  have hb : Below W.heap.size W (W.alloc (.cells #[.int .i64 0, .int .i64 0, .int .i64 0, .int .i64 0] 38)) := (Below.refl _ _).alloc (Nat.le_refl _) _
  exact ⟨hb, Blk.new W _ _, hT.below hb hT.lt, hT2.below hb hT2.lt, hv.below' hb, hm.below' hb, hv.lt.1, hv.lt.2, hT.lt, hT2.lt, hm.lt⟩
theorem RK.facts {W w : World} (h : RK W w) : (w.cell? ⟨W.heap.size, 0, none⟩ = some (.int .i64 0) ∧ w.cell? ⟨W.heap.size, 1, none⟩ = some (.int .i64 0) ∧ w.cell? ⟨W.heap.size, 2, none⟩ = some (.int .i64 0) ∧ w.cell? ⟨W.heap.size, 3, none⟩ = some (.int .i64 0)) ∧
    (w.frozen? ⟨W.heap.size, 0, none⟩ = false ∧ w.frozen? ⟨W.heap.size, 1, none⟩ = false ∧ w.frozen? ⟨W.heap.size, 2, none⟩ = false ∧ w.frozen? ⟨W.heap.size, 3, none⟩ = false) ∧ W.heap.size < w.heap.size := by
  have hr := h.res
  exact ⟨⟨hr.cell 0, hr.cell 1, hr.cell 2, hr.cell 3⟩, ⟨hr.frozen 0, hr.frozen 1, hr.frozen 2, hr.frozen 3⟩, hr.lt⟩

def RefReadGot (W : World) (R : Int × Int × Int × Int × Int) (e : Ending) (w' : World) : Prop := e = .returned (.tuple #[v4 R.2.1 R.2.2.1 R.2.2.2.1 R.2.2.2.2, .int .i64 R.1]) ∧ Below W.heap.size W w'
theorem ref_end {W w : World} {A : Act} {a b c d n : Int} (hb : Below W.heap.size W w) (hr : Blk w W.heap.size 38 #[.int .i64 a, .int .i64 b, .int .i64 c, .int .i64 d])
    (hp : A.tmps.getD 4 undef = .pointer (some ⟨W.heap.size, 0, none⟩)) (hx : A.tmps.getD 5 undef = .int .i64 n) (hd : A.defers = []) :
    bodyPost Tryz.prog Tryz.f11 (RefReadGot W (n, a, b, c, d)) Exit.ret A w :=
  bodyPost_ret (results_row_tmp rfl A.tmps w _ _ _ _ _ hp hx hr Tryz.underlying38 rfl (by kernel_rfl)) hd ⟨rfl, hb⟩

/-- a text with its last point -/
structure Cut (s B T : ByteArray) (k : Nat) : Prop where
  at_ : Lib.lastIndexByte s 46 = (k : Int)
  lt : k < s.size
  tag : s.extract (k + 1) s.size = T
  body : s.extract 0 k = B
  parts : parts 46 s.data.toList = Go.Proofs.YtdfgegicfhcmeaaGreatDoor.parts 46 B.data.toList ++ [T.data.toList]
theorem byte_list (s : ByteArray) (j : Nat) (hj : j < s.size) : s.data.toList[j]? = some (s.data[j]!) := by
  have hj' : j < s.data.size := hj
  rw [List.getElem?_eq_getElem (by simpa using hj'), getElem!_pos s.data j hj']
  simp
theorem cut_or (s : ByteArray) : (Lib.lastIndexByte s 46 = -1 ∧ parts 46 s.data.toList = [s.data.toList]) ∨ ∃ B T k, Cut s B T k := by
  rcases Lib.lastIndexByte_spec s 46 with ⟨h1, h2⟩ | ⟨i, h1, h2, h3, h4⟩
  · refine .inl ⟨h1, parts_none fun hm => ?_⟩
    obtain ⟨j, hj, e⟩ := List.mem_iff_getElem.1 hm
    rw [size_data] at hj
    have e2 := byte_list s j hj
    rw [List.getElem?_eq_getElem (by rw [size_data]; exact hj), e] at e2
    have e3 := h2 j hj
    rw [← Option.some.inj e2] at e3
    exact e3 rfl
  · refine .inr ⟨s.extract 0 i, s.extract (i + 1) s.size, i, h2, h1, rfl, rfl, ?_⟩
    have e46 : s.data[i]! = 46 := by
      apply UInt8.toNat_inj.1
      have : (46 : UInt8).toNat = 46 := rfl
      omega
    have eB : (s.extract 0 i).data.toList = s.data.toList.take i := by rw [Lib.extract_data]; simp
    have eT : (s.extract (i + 1) s.size).data.toList = s.data.toList.drop (i + 1) := by rw [Lib.extract_to_end]
    have hl : i < s.data.toList.length := by rw [size_data]; exact h1
    have e : s.data.toList = s.data.toList.take i ++ 46 :: s.data.toList.drop (i + 1) := by
      have hd := List.drop_eq_getElem_cons hl
      have e2 := byte_list s i h1
      rw [List.getElem?_eq_getElem hl, e46] at e2
      rw [Option.some.inj e2] at hd
      rw [← hd, List.take_append_drop]
    rw [eB, eT]
    have hno : (46 : UInt8) ∉ s.data.toList.drop (i + 1) := ?_
    · conv => lhs; rw [e]
      rw [parts_app, parts_none hno]
    intro hm
    obtain ⟨j, hj, ej⟩ := List.mem_iff_getElem.1 hm
    rw [List.length_drop, size_data] at hj
    have e2 := byte_list s (i + 1 + j) (by omega)
    rw [List.getElem_drop] at ej
    rw [List.getElem?_eq_getElem (by rw [size_data]; omega), ej] at e2
    have e3 := h4 (i + 1 + j) (by omega) (by omega)
    rw [← Option.some.inj e2] at e3
    exact e3 rfl
theorem hex_case (T : ByteArray) (j : Nat) (hj : j < T.size) : hexD.contains (T[j]) = decide (0 ≤ Lib.indexByte (⟨#[48, 49, 50, 51, 52, 53, 54, 55, 56, 57, 97, 98, 99, 100, 101, 102]⟩ : ByteArray).data.toList ((T[j].toNat : Int).toNat.toUInt8)) := by
  have e : ((T[j].toNat : Int).toNat.toUInt8) = T[j] := by simp
  rw [e]
  exact Lib.contains_iff_indexByte _ _
def HexRel (T : ByteArray) (i : Value) : Prop := ∃ j : Nat, j ≤ 16 ∧ i = .int .i64 j ∧ ∀ m (h : m < T.size), m < j → hexD.contains (T[m]) = true
theorem hex_all {T : ByteArray} (h16 : T.size = 16) (h : ∀ m (h : m < T.size), m < 16 → hexD.contains (T[m]) = true) : tagB T.data.toList = true := by
  refine tagB_yes (by rw [size_data]; exact h16) ?_
  rw [List.all_eq_true]
  intro x hx
  obtain ⟨m, hm, rfl⟩ := List.mem_iff_getElem.1 hx
  rw [size_data] at hm
  exact h m hm (by omega)
theorem hex_of {T : ByteArray} (h : tagB T.data.toList = true) (m : Nat) (hm : m < T.size) : hexD.contains (T[m]) = true := by
  unfold tagB at h
  rw [Bool.and_eq_true] at h
  have := List.all_eq_true.1 h.2 T[m] (by
    have : T.data.toList[m]'(by rw [size_data]; exact hm) = T[m] := rfl
    rw [← this]
    exact List.getElem_mem _)
  exact this

set_option maxHeartbeats 4000000 in
set_option maxRecDepth 100000 in
theorem refRead_none (key : Int) (s : ByteArray) (W : World) (hs : s.size ≤ 1000) (h : Lib.lastIndexByte s 46 = -1) (hm : MaxL W) (hT : Tens W) (hT2 : Tab15 W) (hv : ErrVars W) :
    Calls Tryz.prog 11 #[.int .i64 key, .string s] W (RefReadGot W (3, 0, 0, 0, 0)) := by
  have HR := Lib.hid (RK.start hm hT hT2 hv)
  have HL := Lib.hid (fun w => Tryz.strings_LastIndexByte s 46 (by omega) w)
  rw [h] at HL
  clear h hm hT hT2 hv
  have hb : Below W.heap.size W (W.alloc (.cells #[.int .i64 0, .int .i64 0, .int .i64 0, .int .i64 0] 38)) := HR.out.below
  go_enter Tryz.func11, Tryz.ntmps11
  go_wp2_with (go_at_call 27; refine (HL.out _).mono ?_; rintro e w1 ⟨rfl, rfl⟩)
  exact ref_end HR.out.below HR.out.res rfl rfl rfl

set_option maxHeartbeats 4000000 in
set_option maxRecDepth 100000 in
theorem refRead_tag (key : Int) (s B T : ByteArray) (k : Nat) (W : World) (hs : s.size ≤ 1000) (h : Cut s B T k) (hb : tagB T.data.toList = false) (hm : MaxL W) (hT : Tens W) (hT2 : Tab15 W) (hv : ErrVars W) :
    Calls Tryz.prog 11 #[.int .i64 key, .string s] W (RefReadGot W (3, 0, 0, 0, 0)) := by
  have HR := Lib.hid (RK.start hm hT hT2 hv)
  have HL := Lib.hid (fun w => Tryz.strings_LastIndexByte s 46 (by omega) w)
  rw [h.at_] at HL
  have hk := h.lt
  have hE := h.tag
  have HTB := Lib.hid hb
  have hz : T.size = s.size - (k + 1) := by rw [← hE, ByteArray.size_extract]; omega
  have hk0 : ¬ (k : Int) < 0 := by omega
  have hTs : T.size ≤ 1000 := by omega
  clear h hm hT hT2 hv hb hz
  by_cases h16 : T.size = 16
  · have e16 : ((T.size : Int) != 16) = false := by simp; omega
    have H16 := Lib.hid h16
    have ht16 : 16 ≤ T.size := by omega
    clear h16
    go_enter Tryz.func11, Tryz.ntmps11
    go_wp2_with (go_at_call 27; refine (HL.out _).mono ?_; rintro e w1 ⟨rfl, rfl⟩)
    clear hE
    go_loop [30] (fun i => HexRel T i) (fun i => 16 - (intOf i).toNat)
    case atStart => exact ⟨0, by omega, rfl, fun m _ hm => by omega⟩
    case round =>
      obtain ⟨j, hj, rfl, hno⟩ := hrel
      have HNO := Lib.hid hno
      clear hno
      by_cases hlt : j < 16
      · have hjT : j < T.size := by omega
        have hcase := hex_case T j hjT
        have HI := Lib.hid (fun w => Tryz.strings_IndexByte ⟨#[48, 49, 50, 51, 52, 53, 54, 55, 56, 57, 97, 98, 99, 100, 101, 102]⟩ (T[j].toNat : Int) w)
        generalize Lib.indexByte (⟨#[48, 49, 50, 51, 52, 53, 54, 55, 56, 57, 97, 98, 99, 100, 101, 102]⟩ : ByteArray).data.toList ((T[j].toNat : Int).toNat.toUInt8) = n at *
        by_cases hn : 0 ≤ n
        · have HC := Lib.hid hcase
          have hn2 : ¬ n < 0 := by omega
          clear hcase
          go_wp2_with (go_at_call 28; refine (HI.out _).mono ?_; rintro e w2 ⟨rfl, rfl⟩)
          go_round
          case rel =>
            refine ⟨j + 1, by omega, by go_num, fun m hm hmj => ?_⟩
            by_cases e : m = j
            · subst e
              rw [HC.out]
              simpa using hn
            · exact HNO.out m hm (by omega)
          case measure => simp [intOf]; omega
        · clear hcase
          have hn2 : n < 0 := by omega
          obtain ⟨⟨r0, r1, r2, r3⟩, ⟨f0, f1, f2, f3⟩, lW⟩ := HR.out.facts
          go_wp2_with (go_at_call 28; refine (HI.out _).mono ?_; rintro e w2 ⟨rfl, rfl⟩)
          exact ref_end HR.out.below HR.out.res rfl rfl rfl
      · exfalso
        have := hex_all H16.out fun m hm h16 => HNO.out m hm (by omega)
        rw [HTB.out] at this
        cases this
  · have e16 : ((T.size : Int) != 16) = true := by simp; omega
    clear h16
    go_enter Tryz.func11, Tryz.ntmps11
    go_wp2_with (go_at_call 27; refine (HL.out _).mono ?_; rintro e w1 ⟨rfl, rfl⟩)
    exact ref_end HR.out.below HR.out.res rfl rfl rfl
end Go.Proofs.YtdfgegicfhcmeaaGreatDoor
