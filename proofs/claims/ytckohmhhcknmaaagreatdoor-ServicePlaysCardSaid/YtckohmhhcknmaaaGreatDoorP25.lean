/-
  rotorref's service: Sweep.
-/
import Derived.Test.YtckohmhhcknmaaaGreatDoorP24
import Derived.Test.YtckohmhhcknmaaaGreatDoorP04
import Derived.Test.YtckohmhhcknmaaaGreatDoorP14
import Derived.Test.YtckohmhhcknmaaaGreatDoorP22
import Derived.Test.YtckohmhhcknmaaaGreatDoorP18
import Derived.Lib.LastIndexByte
import Derived.Lib.IndexAny
import Derived.RegionTactic
namespace Go.Proofs.YtckohmhhcknmaaaGreatDoor
open Go.RowKit Go.Sort

section
variable {W : World} {B qb rb : Nat} {r : Ru} {z : SS} {v : Value}
set_option maxHeartbeats 4000000 in
set_option maxRecDepth 100000 in
theorem rsv_sweep (h : RV B qb rb r z v W) (hz : RZ r z) :
    Calls Tryz.prog 31 #[.pointer (some ⟨qb, 0, none⟩)] W (RPlanI W B qb rb r z (sweepP r z.s)) := by
  have hfit := hz.fit
  have hlen := hfit.len
  have HOLD := Lib.hid (fun w v f (hf : famB f = true) (h : RV B qb rb r z v w) => rsv_old h hz.ru f hf)
  have HA : Hid (∀ w v id, RV B qb rb r z v w → Calls Tryz.prog 67 #[.pointer (some ⟨rb, 0, none⟩), evVal (dropEv id)] w (RefAdd w B rb (addS z (dropEv id)))) := Lib.hid fun w v id h => ref_adds B rb z v _ w h.ra h.rr h.big hfit (by show Fam.zero.short 1000; unfold Fam.short Fam.zero; dsimp only; refine ⟨by decide, by decide, by decide, by decide⟩) hz.lg
  obtain ⟨sa, sc, rfl⟩ := h.rr.slice
  obtain ⟨c0, c1, c2, c3, c4, hlt⟩ := h.five
  obtain ⟨d0, d1, d2, hlt2⟩ := h.three
  have H := Lib.hid h
  clear h
  go_enter Tryz.func31, Tryz.ntmps31
  go_wp2_with fail
  clear c0 c1 c2 c3 c4 hlt d0 d1 d2 hlt2
  go_loopw [16] (fun i wr => FmRel W B qb rb r z (.slice sa z.s.fams.length sc) (fun f => f.dead || oldB r z.s.clock f) i wr) (fun i _ => z.s.fams.length - (intOf i).toNat)
  case atStart => exact ⟨0, Nat.zero_le _, rfl, Below.refl _ _, H.out, fun j f hj => absurd hj (Nat.not_lt_zero _)⟩
  case round =>
    obtain ⟨j, hj, rfl, hb, hs, hno⟩ := hrel
    have HB := Lib.hid hb
    have HS := Lib.hid hs
    have HNO := Lib.hid hno
    clear hb hs hno H
    by_cases hlt : j < z.s.fams.length
    · obtain ⟨g, rfl, _, ra⟩ := HS.out.rr.lit hlt
      obtain ⟨f, hf⟩ : ∃ f, z.s.fams[j]? = some f := ⟨_, List.getElem?_eq_getElem hlt⟩
      have HF := Lib.hid hf
      have hfb := hfit.fams f (List.mem_of_getElem? hf)
      have HO := Lib.hid (fun w (h : RV B qb rb r z (.slice (some ⟨g, 0, none⟩) z.s.fams.length sc) w) => HOLD.out w _ f hfb h)
      have h0 : (0 : Int) ≤ (j : Int) := by omega
      have h1 : (j : Int) < (z.s.fams.length : Int) := by omega
      have HAA : Hid (∀ w, RV B qb rb r z (.slice (some ⟨g, 0, none⟩) z.s.fams.length sc) w → Calls Tryz.prog 67 #[.pointer (some ⟨rb, 0, none⟩), .agg #[.int .i64 2, .int .i64 0, .string ⟨#[]⟩, .string ⟨#[]⟩, .string ⟨#[]⟩, .int .i64 0, .int .i64 0, .int .i64 0, .string ⟨#[]⟩, .bool false, .int .i64 f.id, .int .i64 0]] w (RefAdd w B rb (addS z (dropEv f.id)))) := Lib.hid fun w h => HA.out w _ f.id h
      obtain ⟨i, cl, su, scp, ge, ma, us, re, de⟩ := f
      unfold famVal famCs at HO
      obtain ⟨e0, e1, e2, e3, e4, e5, e6, e7, e8⟩ := ra.nine hf
      have hal := (Below.refl wr.heap.size wr).alloc (Nat.le_refl _) (.cells #[.int .i64 i, .string cl, .string su, .string scp, .int .i64 ge, .int .i64 ma, .int .i64 us, .string re, .bool de] 79)
      have H2 := Lib.hid (HS.out.keep hal)
      have HB2 := Lib.hid (below_2 HB.out hal)
      have HG2 := Lib.hid (Blk.new wr 79 #[.int .i64 i, .string cl, .string su, .string scp, .int .i64 ge, .int .i64 ma, .int .i64 us, .string re, .bool de])
      dsimp only at HO HAA
      clear hal hf hfb ra
      cases de
      · generalize hob : oldB r z.s.clock ⟨i, cl, su, scp, ge, ma, us, re, false⟩ = ob at *
        have HOB := Lib.hid hob
        clear hob
        go_wp2_with fail
        generalize wr.alloc (.cells #[.int .i64 i, .string cl, .string su, .string scp, .int .i64 ge, .int .i64 ma, .int .i64 us, .string re, .bool false] 79) = w2 at *
        generalize wr.heap.size = fb at *
        clear e0 e1 e2 e3 e4 e5 e6 e7 e8
        go_at_call 68
        refine (HO.out _ H2.out).mono ?_
        rintro e w3 ⟨rfl, hb3⟩
        have H3 := Lib.hid (H2.out.keep hb3)
        have HG3 := Lib.hid (HG2.out.below' hb3)
        have HB3 := Lib.hid (below_2 HB2.out hb3)
        clear hb3 H2 HG2 HB2
        cases ob
        · go_wp2_with fail
          go_roundw
          case rel => exact ⟨j + 1, by omega, by go_num, HB3.out, H3.out, fun m f hm hf => by
            by_cases e : m = j
            · subst e
              rw [HF.out] at hf
              cases hf
              show (false || oldB r z.s.clock _) = false
              rw [HOB.out]
              rfl
            · exact HNO.out m f (by omega) hf⟩
          case measure => simp [intOf]; omega
        · have hp : sweepP r z.s = .put (dropEv i) i 0 := by
            unfold sweepP sweepF
            rw [find_at HNO.out HF.out (by show (false || oldB r z.s.clock _) = true; rw [HOB.out]; rfl)]
          have HP := Lib.hid hp
          clear hp HNO HF
          obtain ⟨d0, d1, d2, d3, d4, d5, d6, d7, d8⟩ := fam_cells HG3.out
          go_wp2_with fail
          clear d0 d1 d2 d3 d4 d5 d6 d7 d8
          generalize hQ : addS z (dropEv i) = Q at *
          have HQ := Lib.hid hQ
          clear hQ
          have HSD := H3.out.drew
          have HGD : Blk w3.drew fb 79 #[.int .i64 i, .string cl, .string su, .string scp, .int .i64 ge, .int .i64 ma, .int .i64 us, .string re, .bool false] := HG3.out
          have HBD := Lib.hid (below_dr HB3.out)
          have HD : w3.drew.cell? ⟨qb, 0, none⟩ = some (.pointer (some ⟨rb, 0, none⟩)) ∧ w3.drew.cell? ⟨fb, 0, none⟩ = some (.int .i64 i) := ⟨HSD.five.1, HGD.cell 0⟩
          go_region_held3 (fun w' => w'.cell? ⟨qb, 0, none⟩ = some (.pointer (some ⟨rb, 0, none⟩)) ∧ w'.cell? ⟨fb, 0, none⟩ = some (.int .i64 i))
            (first
              | with_reducible assumption
              | with_reducible exact HD)
            (first
              | (go_at_call 67; (with_reducible refine (HAA.out _ HSD).mono ?_); rintro x' w6 ⟨rfl, hg, v6, ha, hr⟩
                 have hs6 := HSD.turn hg ha hr
                 have hk := HGD.grown hg (by simpa using HGD.ne_ HSD.ra (by decide))
                 have hx6 : w6.cell? ⟨qb, 0, none⟩ = some (.pointer (some ⟨rb, 0, none⟩)) ∧ w6.cell? ⟨fb, 0, none⟩ = some (.int .i64 i) := ⟨hs6.five.1, hk.cell 0⟩))
          have H6 := Lib.hid hs6
          have HT6 := Lib.hid (only_trans (only_of_below HBD.out _) hg)
          have HK6 := Lib.hid hk
          clear hg ha hr hs6 hk hx6 HD HSD HGD HBD
          by_cases hq : Q.2 = 0
          · have e0 : (.int .i64 Q.2 : Value) = .int .i64 0 := by rw [hq]
            rw [e0]
            have HQ0 := Lib.hid hq
            obtain ⟨d0, d1, d2, d3, d4, d5, d6, d7, d8⟩ := fam_cells HK6.out
            clear e0 hq
            go_wp2_with fail
            go_ret2
            rw [HP.out]
            exact RPlanI.good (by rw [HQ.out]; exact HQ0.out) HT6.out (by rw [HQ.out]; exact H6.out)
          · have HQ0 := Lib.hid hq
            go_wp2_with fail
            go_ret2
            rw [HP.out, ← HQ.out]
            exact RPlanI.bad (by rw [HQ.out]; exact HQ0.out) HT6.out (by rw [HQ.out]; exact H6.out)
      · have hp : sweepP r z.s = .put (dropEv i) i 0 := by
          unfold sweepP sweepF
          rw [find_at HNO.out HF.out rfl]
        have HP := Lib.hid hp
        clear hp HNO HF HO HOLD
        go_wp2_with fail
        generalize wr.alloc (.cells #[.int .i64 i, .string cl, .string su, .string scp, .int .i64 ge, .int .i64 ma, .int .i64 us, .string re, .bool true] 79) = w2 at *
        generalize wr.heap.size = fb at *
        clear e0 e1 e2 e3 e4 e5 e6 e7 e8
        generalize hQ : addS z (dropEv i) = Q at *
        have HQ := Lib.hid hQ
        clear hQ
        have HSD := H2.out.drew
        have HGD : Blk w2.drew fb 79 #[.int .i64 i, .string cl, .string su, .string scp, .int .i64 ge, .int .i64 ma, .int .i64 us, .string re, .bool true] := HG2.out
        have HBD := Lib.hid (below_dr HB2.out)
        have HD : w2.drew.cell? ⟨qb, 0, none⟩ = some (.pointer (some ⟨rb, 0, none⟩)) ∧ w2.drew.cell? ⟨fb, 0, none⟩ = some (.int .i64 i) := ⟨HSD.five.1, HGD.cell 0⟩
        go_region_held3 (fun w' => w'.cell? ⟨qb, 0, none⟩ = some (.pointer (some ⟨rb, 0, none⟩)) ∧ w'.cell? ⟨fb, 0, none⟩ = some (.int .i64 i))
          (first
            | with_reducible assumption
            | with_reducible exact HD)
          (first
            | (go_at_call 67; (with_reducible refine (HAA.out _ HSD).mono ?_); rintro x' w6 ⟨rfl, hg, v6, ha, hr⟩
               have hs6 := HSD.turn hg ha hr
               have hk := HGD.grown hg (by simpa using HGD.ne_ HSD.ra (by decide))
               have hx6 : w6.cell? ⟨qb, 0, none⟩ = some (.pointer (some ⟨rb, 0, none⟩)) ∧ w6.cell? ⟨fb, 0, none⟩ = some (.int .i64 i) := ⟨hs6.five.1, hk.cell 0⟩))
        have H6 := Lib.hid hs6
        have HT6 := Lib.hid (only_trans (only_of_below HBD.out _) hg)
        have HK6 := Lib.hid hk
        clear hg ha hr hs6 hk hx6 HD HSD HGD HBD
        by_cases hq : Q.2 = 0
        · have e0 : (.int .i64 Q.2 : Value) = .int .i64 0 := by rw [hq]
          rw [e0]
          have HQ0 := Lib.hid hq
          obtain ⟨d0, d1, d2, d3, d4, d5, d6, d7, d8⟩ := fam_cells HK6.out
          clear e0 hq
          go_wp2_with fail
          go_ret2
          rw [HP.out]
          exact RPlanI.good (by rw [HQ.out]; exact HQ0.out) HT6.out (by rw [HQ.out]; exact H6.out)
        · have HQ0 := Lib.hid hq
          go_wp2_with fail
          go_ret2
          rw [HP.out, ← HQ.out]
          exact RPlanI.bad (by rw [HQ.out]; exact HQ0.out) HT6.out (by rw [HQ.out]; exact H6.out)
    · have hkn : j = z.s.fams.length := by omega
      have hp : sweepP r z.s = .say 0 8 := by
        unfold sweepP sweepF
        rw [find_end_none (fun m f hm hf => HNO.out m f (by omega) hf)]
      have HP := Lib.hid hp
      clear hp
      go_wp2_with fail
      go_ret2
      rw [HP.out]
      exact RPlanI.say HS.out HB.out
end
end Go.Proofs.YtckohmhhcknmaaaGreatDoor

/-
  rotorref.ReadToken: the token that any text is, or what is wrong with it.
-/
namespace Go.Proofs.YtckohmhhcknmaaaGreatDoor
open Go.RowKit Go.Sort

/-- what is known while rotorref.ReadToken is under way -/
structure RK (W : World) (w : World) : Prop where
  below : Below W.heap.size W w
  res : Blk w W.heap.size 127 #[.int .i64 0, .int .i64 0, .int .i64 0, .int .i64 0]
  tens : Tens w
  tab : Tab15 w
  errs : ErrVars w
  maxl : MaxL w
  gl : 4 < W.heap.size ∧ 5 < W.heap.size ∧ 6 < W.heap.size ∧ 8 < W.heap.size ∧ 3 < W.heap.size
theorem RK.keepB {W w w' : World} {B : Nat} (h : RK W w) (hb : Below B w w') (hB : W.heap.size < B) : RK W w' :=
  ⟨h.below.trans (hb.mono (Nat.le_of_lt hB)), h.res.below hb hB, h.tens.below hb (Nat.lt_trans h.gl.2.2.1 hB), h.tab.below hb (Nat.lt_trans h.gl.2.2.2.1 hB), h.errs.below hb (Nat.lt_trans h.gl.1 hB) (Nat.lt_trans h.gl.2.1 hB), h.maxl.below hb (Nat.lt_trans h.gl.2.2.2.2 hB), h.gl⟩
theorem RK.keep {W w w' : World} (h : RK W w) (hb : Below w.heap.size w w') : RK W w' := h.keepB hb h.res.lt
theorem RK.start {W : World} (hm : MaxL W) (hT : Tens W) (hT2 : Tab15 W) (hv : ErrVars W) : RK W (W.alloc (.cells #[.int .i64 0, .int .i64 0, .int .i64 0, .int .i64 0] 127)) := by
  have hb : Below W.heap.size W (W.alloc (.cells #[.int .i64 0, .int .i64 0, .int .i64 0, .int .i64 0] 127)) := (Below.refl _ _).alloc (Nat.le_refl _) _
  exact ⟨hb, Blk.new W _ _, hT.below hb hT.lt, hT2.below hb hT2.lt, hv.below' hb, hm.below' hb, hv.lt.1, hv.lt.2, hT.lt, hT2.lt, hm.lt⟩
theorem RK.facts {W w : World} (h : RK W w) : (w.cell? ⟨W.heap.size, 0, none⟩ = some (.int .i64 0) ∧ w.cell? ⟨W.heap.size, 1, none⟩ = some (.int .i64 0) ∧ w.cell? ⟨W.heap.size, 2, none⟩ = some (.int .i64 0) ∧ w.cell? ⟨W.heap.size, 3, none⟩ = some (.int .i64 0)) ∧
    (w.frozen? ⟨W.heap.size, 0, none⟩ = false ∧ w.frozen? ⟨W.heap.size, 1, none⟩ = false ∧ w.frozen? ⟨W.heap.size, 2, none⟩ = false ∧ w.frozen? ⟨W.heap.size, 3, none⟩ = false) ∧ W.heap.size < w.heap.size := by
  have hr := h.res
  exact ⟨⟨hr.cell 0, hr.cell 1, hr.cell 2, hr.cell 3⟩, ⟨hr.frozen 0, hr.frozen 1, hr.frozen 2, hr.frozen 3⟩, hr.lt⟩

def RefReadGot (W : World) (R : Int × Int × Int × Int × Int) (e : Ending) (w' : World) : Prop := e = .returned (.tuple #[v4 R.2.1 R.2.2.1 R.2.2.2.1 R.2.2.2.2, .int .i64 R.1]) ∧ Below W.heap.size W w'
theorem ref_end {W w : World} {A : Act} {a b c d n : Int} (hb : Below W.heap.size W w) (hr : Blk w W.heap.size 127 #[.int .i64 a, .int .i64 b, .int .i64 c, .int .i64 d])
    (hp : A.tmps.getD 4 undef = .pointer (some ⟨W.heap.size, 0, none⟩)) (hx : A.tmps.getD 5 undef = .int .i64 n) (hd : A.defers = []) :
    bodyPost Tryz.prog Tryz.f108 (RefReadGot W (n, a, b, c, d)) Exit.ret A w :=
  bodyPost_ret (tok_row_tmp rfl A.tmps w _ _ _ _ _ hp hx hr Tryz.underlying127 rfl (by kernel_rfl)) hd ⟨rfl, hb⟩

/-- a text with its last point -/
structure Cut (s B T : ByteArray) (k : Nat) : Prop where
  at_ : Lib.lastIndexByte s 46 = (k : Int)
  lt : k < s.size
  tag : s.extract (k + 1) s.size = T
  body : s.extract 0 k = B
  parts : parts 46 s.data.toList = Go.Proofs.YtckohmhhcknmaaaGreatDoor.parts 46 B.data.toList ++ [T.data.toList]
theorem byte_list (s : ByteArray) (j : Nat) (hj : j < s.size) : s.data.toList[j]? = some (s.data[j]!) := by
  have hj' : j < s.data.size := hj
  rw [List.getElem?_eq_getElem (by simpa using hj'), getElem!_pos s.data j hj']
  simp
theorem cut_or (s : ByteArray) : (Lib.lastIndexByte s 46 = -1 ∧ parts 46 s.data.toList = [s.data.toList]) ∨ ∃ B T k, Cut s B T k := by
  rcases Lib.lastIndexByte_spec s 46 with ⟨h1, h2⟩ | ⟨i, h1, h2, h3, h4⟩
  · refine .inl ⟨h1, parts_none fun hm => ?_⟩
    obtain ⟨j, hj, e⟩ := List.mem_iff_getElem.1 hm
    rw [size_data] at hj
    have e2 := byte_list s j hj
    rw [List.getElem?_eq_getElem (by rw [size_data]; exact hj), e] at e2
    have e3 := h2 j hj
    rw [← Option.some.inj e2] at e3
    exact e3 rfl
  · refine .inr ⟨s.extract 0 i, s.extract (i + 1) s.size, i, h2, h1, rfl, rfl, ?_⟩
    have e46 : s.data[i]! = 46 := by
      apply UInt8.toNat_inj.1
      have : (46 : UInt8).toNat = 46 := rfl
      omega
    have eB : (s.extract 0 i).data.toList = s.data.toList.take i := by rw [Lib.extract_data]; simp
    have eT : (s.extract (i + 1) s.size).data.toList = s.data.toList.drop (i + 1) := by rw [Lib.extract_to_end]
    have hl : i < s.data.toList.length := by rw [size_data]; exact h1
    have e : s.data.toList = s.data.toList.take i ++ 46 :: s.data.toList.drop (i + 1) := by
      have hd := List.drop_eq_getElem_cons hl
      have e2 := byte_list s i h1
      rw [List.getElem?_eq_getElem hl, e46] at e2
      rw [Option.some.inj e2] at hd
      rw [← hd, List.take_append_drop]
    rw [eB, eT]
    have hno : (46 : UInt8) ∉ s.data.toList.drop (i + 1) := ?_
    · conv => lhs; rw [e]
      rw [parts_app, parts_none hno]
    intro hm
    obtain ⟨j, hj, ej⟩ := List.mem_iff_getElem.1 hm
    rw [List.length_drop, size_data] at hj
    have e2 := byte_list s (i + 1 + j) (by omega)
    rw [List.getElem_drop] at ej
    rw [List.getElem?_eq_getElem (by rw [size_data]; omega), ej] at e2
    have e3 := h4 (i + 1 + j) (by omega) (by omega)
    rw [← Option.some.inj e2] at e3
    exact e3 rfl
theorem hex_case (T : ByteArray) (j : Nat) (hj : j < T.size) : hexD.contains (T[j]) = decide (0 ≤ Lib.indexByte (⟨#[48, 49, 50, 51, 52, 53, 54, 55, 56, 57, 97, 98, 99, 100, 101, 102]⟩ : ByteArray).data.toList ((T[j].toNat : Int).toNat.toUInt8)) := by
  have e : ((T[j].toNat : Int).toNat.toUInt8) = T[j] := by simp
  rw [e]
  exact Lib.contains_iff_indexByte _ _
def HexRel (T : ByteArray) (i : Value) : Prop := ∃ j : Nat, j ≤ 16 ∧ i = .int .i64 j ∧ ∀ m (h : m < T.size), m < j → hexD.contains (T[m]) = true
theorem hex_all {T : ByteArray} (h16 : T.size = 16) (h : ∀ m (h : m < T.size), m < 16 → hexD.contains (T[m]) = true) : tagB T.data.toList = true := by
  refine tagB_yes (by rw [size_data]; exact h16) ?_
  rw [List.all_eq_true]
  intro x hx
  obtain ⟨m, hm, rfl⟩ := List.mem_iff_getElem.1 hx
  rw [size_data] at hm
  exact h m hm (by omega)
theorem hex_of {T : ByteArray} (h : tagB T.data.toList = true) (m : Nat) (hm : m < T.size) : hexD.contains (T[m]) = true := by
  unfold tagB at h
  rw [Bool.and_eq_true] at h
  have := List.all_eq_true.1 h.2 T[m] (by
    have : T.data.toList[m]'(by rw [size_data]; exact hm) = T[m] := rfl
    rw [← this]
    exact List.getElem_mem _)
  exact this

set_option maxHeartbeats 4000000 in
set_option maxRecDepth 100000 in
theorem refRead_none (key : Int) (s : ByteArray) (W : World) (hs : s.size ≤ 1000) (h : Lib.lastIndexByte s 46 = -1) (hm : MaxL W) (hT : Tens W) (hT2 : Tab15 W) (hv : ErrVars W) :
    Calls Tryz.prog 108 #[.int .i64 key, .string s] W (RefReadGot W (3, 0, 0, 0, 0)) := by
  have HR := Lib.hid (RK.start hm hT hT2 hv)
  have HL := Lib.hid (fun w => Tryz.strings_LastIndexByte s 46 (by omega) w)
  rw [h] at HL
  clear h hm hT hT2 hv
  have hb : Below W.heap.size W (W.alloc (.cells #[.int .i64 0, .int .i64 0, .int .i64 0, .int .i64 0] 127)) := HR.out.below
  go_enter Tryz.func108, Tryz.ntmps108
  go_wp2_with (go_at_call 138; refine (HL.out _).mono ?_; rintro e w1 ⟨rfl, rfl⟩)
  exact ref_end HR.out.below HR.out.res rfl rfl rfl

set_option maxHeartbeats 4000000 in
set_option maxRecDepth 100000 in
theorem refRead_tag (key : Int) (s B T : ByteArray) (k : Nat) (W : World) (hs : s.size ≤ 1000) (h : Cut s B T k) (hb : tagB T.data.toList = false) (hm : MaxL W) (hT : Tens W) (hT2 : Tab15 W) (hv : ErrVars W) :
    Calls Tryz.prog 108 #[.int .i64 key, .string s] W (RefReadGot W (3, 0, 0, 0, 0)) := by
  have HR := Lib.hid (RK.start hm hT hT2 hv)
  have HL := Lib.hid (fun w => Tryz.strings_LastIndexByte s 46 (by omega) w)
  rw [h.at_] at HL
  have hk := h.lt
  have hE := h.tag
  have HTB := Lib.hid hb
  have hz : T.size = s.size - (k + 1) := by rw [← hE, ByteArray.size_extract]; omega
  have hk0 : ¬ (k : Int) < 0 := by omega
  have hTs : T.size ≤ 1000 := by omega
  clear h hm hT hT2 hv hb hz
  by_cases h16 : T.size = 16
  · have e16 : ((T.size : Int) != 16) = false := by simp; omega
    have H16 := Lib.hid h16
    have ht16 : 16 ≤ T.size := by omega
    clear h16
    go_enter Tryz.func108, Tryz.ntmps108
    go_wp2_with (go_at_call 138; refine (HL.out _).mono ?_; rintro e w1 ⟨rfl, rfl⟩)
    clear hE
    go_loop [30] (fun i => HexRel T i) (fun i => 16 - (intOf i).toNat)
    case atStart => exact ⟨0, by omega, rfl, fun m _ hm => by omega⟩
    case round =>
      obtain ⟨j, hj, rfl, hno⟩ := hrel
      have HNO := Lib.hid hno
      clear hno
      by_cases hlt : j < 16
      · have hjT : j < T.size := by omega
        have hcase := hex_case T j hjT
        have HI := Lib.hid (fun w => Tryz.strings_IndexByte ⟨#[48, 49, 50, 51, 52, 53, 54, 55, 56, 57, 97, 98, 99, 100, 101, 102]⟩ (T[j].toNat : Int) w)
        generalize Lib.indexByte (⟨#[48, 49, 50, 51, 52, 53, 54, 55, 56, 57, 97, 98, 99, 100, 101, 102]⟩ : ByteArray).data.toList ((T[j].toNat : Int).toNat.toUInt8) = n at *
        by_cases hn : 0 ≤ n
        · have HC := Lib.hid hcase
          have hn2 : ¬ n < 0 := by omega
          clear hcase
          go_wp2_with (go_at_call 148; refine (HI.out _).mono ?_; rintro e w2 ⟨rfl, rfl⟩)
          go_round
          case rel =>
            refine ⟨j + 1, by omega, by go_num, fun m hm hmj => ?_⟩
            by_cases e : m = j
            · subst e
              rw [HC.out]
              simpa using hn
            · exact HNO.out m hm (by omega)
          case measure => simp [intOf]; omega
        · clear hcase
          have hn2 : n < 0 := by omega
          obtain ⟨⟨r0, r1, r2, r3⟩, ⟨f0, f1, f2, f3⟩, lW⟩ := HR.out.facts
          go_wp2_with (go_at_call 148; refine (HI.out _).mono ?_; rintro e w2 ⟨rfl, rfl⟩)
          exact ref_end HR.out.below HR.out.res rfl rfl rfl
      · exfalso
        have := hex_all H16.out fun m hm h16 => HNO.out m hm (by omega)
        rw [HTB.out] at this
        cases this
  · have e16 : ((T.size : Int) != 16) = true := by simp; omega
    clear h16
    go_enter Tryz.func108, Tryz.ntmps108
    go_wp2_with (go_at_call 138; refine (HL.out _).mono ?_; rintro e w1 ⟨rfl, rfl⟩)
    exact ref_end HR.out.below HR.out.res rfl rfl rfl
end Go.Proofs.YtckohmhhcknmaaaGreatDoor

/-
  rotorref.ReadToken: the numbers of the body's words.
-/
namespace Go.Proofs.YtckohmhhcknmaaaGreatDoor
open Go.RowKit Go.Sort

/-- the i-th number behind k words -/
def numAt (L : List (List UInt8)) (k i : Nat) : Int := if i < k then atoiN (L.getD (i + 1) []) else 0
def nums3 (L : List (List UInt8)) (k : Nat) : Array Value := #[.int .i64 (numAt L k 0), .int .i64 (numAt L k 1), .int .i64 (numAt L k 2)]
structure RN (W : World) (L : List (List UInt8)) (v : Value) (nb : Nat) (cs : Array Value) (w : World) : Prop where
  rk : RK W w
  row : Row w (W.heap.size + 1) v L
  arr : Blk w nb 239 cs
  ne : W.heap.size < nb
  vne : v.ownBlock ≠ some nb
theorem RN.keep {W w w' : World} {L : List (List UInt8)} {v : Value} {nb : Nat} {cs : Array Value} (h : RN W L v nb cs w) (hb : Below w.heap.size w w') : RN W L v nb cs w' :=
  ⟨h.rk.keep hb, h.row.below hb, h.arr.below' hb, h.ne, h.vne⟩
theorem RN.set {W w : World} {L : List (List UInt8)} {v : Value} {nb : Nat} {cs : Array Value} (h : RN W L v nb cs w) (i : Nat) (u : Value) : RN W L v nb (cs.setIfInBounds i u) (w.setCell ⟨nb, i, none⟩ u) := by
  have hg : w.grownBy (w.setCell ⟨nb, i, none⟩ u) (some nb) := only_setCell (only_refl w _) (.inl rfl) u
  exact ⟨h.rk.keepB ((Below.refl nb w).setCell (Nat.le_refl _) u) h.ne, h.row.kept hg h.vne, h.arr.set_ i u, h.ne, h.vne⟩
theorem nums3_set (L : List (List UInt8)) (k : Nat) (hk : k < 3) : (nums3 L k).setIfInBounds k (.int .i64 (atoiN (L.getD (k + 1) []))) = nums3 L (k + 1) := by
  have : k = 0 ∨ k = 1 ∨ k = 2 := by omega
  rcases this with rfl | rfl | rfl <;> simp [nums3, numAt]
theorem nums3_far (L : List (List UInt8)) (k : Nat) (hk : ¬ k < 3) : nums3 L (k + 1) = nums3 L k := by
  unfold nums3 numAt
  rw [if_pos (by omega), if_pos (by omega), if_pos (by omega), if_pos (by omega), if_pos (by omega), if_pos (by omega)]
theorem atoi_some (s : ByteArray) (w : World) (hs : s.size ≤ 1000000) (hv : ErrVars w) :
    Calls Tryz.prog 99 #[.string s] w fun e w' => (∃ ev, e = .returned (.tuple #[.int .i64 (atoiN s.data.toList), ev])) ∧ Below w.heap.size w w' := by
  cases hE : atoiE s.data.toList
  · exact (atoi_no s w hs hv hE).mono fun e w' ⟨⟨te, pe, h⟩, hb⟩ => ⟨⟨_, h⟩, hb⟩
  · exact (atoi_yes s w hs hE).mono fun e w' ⟨h, hb⟩ => ⟨⟨_, h⟩, hb⟩
theorem RN.start {W w : World} {L : List (List UInt8)} {g cap : Nat} (h : RK W w) (hr : Row w (W.heap.size + 1) (.slice (some ⟨g, 0, none⟩) L.length cap) L) (hg1 : W.heap.size + 1 ≤ g) (hg2 : g < w.heap.size) :
    RN W L (.slice (some ⟨g, 0, none⟩) L.length cap) w.heap.size (nums3 L 0) (w.alloc (.cells #[.int .i64 0, .int .i64 0, .int .i64 0] 239)) := by
  have e : nums3 L 0 = #[.int .i64 0, .int .i64 0, .int .i64 0] := by simp [nums3, numAt]
  rw [e]
  exact ⟨h.keep ((Below.refl _ _).alloc (Nat.le_refl _) _), hr.alloc _, Blk.new w _ _, by omega, by simp [Value.ownBlock]; omega⟩
def WRel (W : World) (L : List (List UInt8)) (v : Value) (nb : Nat) (i : Value) (w : World) : Prop := ∃ k : Nat, k ≤ L.length - 1 ∧ i = .int .i64 k ∧ RN W L v nb (nums3 L k) w

theorem bodyS_L {a b c d : Int} (h : a = 1 ∨ a = 2) : bodyS a b c d = txt (bodyL a b c d) := by
  have e (x : Int) : itoS x = txt (Lib.itoa x) := rfl
  rcases h with rfl | rfl
  · rw [bodyS, bodyL, if_pos rfl, if_pos rfl, e, e, show (⟨#[114, 46]⟩ : ByteArray) = txt [114, 46] from rfl, show (⟨#[46]⟩ : ByteArray) = txt [46] from rfl]
    simp only [txt_app]
  · rw [bodyS, bodyL, if_neg (by decide), if_neg (by decide), e, e, e, show (⟨#[97, 46]⟩ : ByteArray) = txt [97, 46] from rfl, show (⟨#[46]⟩ : ByteArray) = txt [46] from rfl]
    simp only [txt_app]
theorem right_ok {a b c d : Int} : rightN a b c d = true ↔ tokOk a b c d := by
  unfold rightN tokOk
  simp [and_assoc]
def Miss (a b c d : Int) (B : ByteArray) : Prop := rightN a b c d = false ∨ (rightN a b c d = true ∧ bodyS a b c d ≠ B)
def Hit (a b c d : Int) (B : ByteArray) : Prop := rightN a b c d = true ∧ bodyS a b c d = B
theorem miss_of {a b c d : Int} {B : ByteArray} (h : ¬ Hit a b c d B) : Miss a b c d B := by
  unfold Miss
  cases hr : rightN a b c d
  · exact .inl rfl
  · exact .inr ⟨rfl, fun e => h ⟨hr, e⟩⟩
theorem hit_iff {a b c d : Int} {B : ByteArray} (h : Hit a b c d B) : tokOk a b c d ∧ bodyL a b c d = B.data.toList := by
  have h1 := right_ok.1 h.1
  refine ⟨h1, ?_⟩
  have e := h.2
  rw [bodyS_L (h1.1.imp (·.1) (·.1))] at e
  rw [← e, data_txt]
theorem tok_cases (B : ByteArray) (L : List (List UInt8)) (hL : parts 46 B.data.toList = L) :
    (Hit 1 (numAt L (L.length - 1) 0) (numAt L (L.length - 1) 1) 0 B ∧ tokP L = some (1, numAt L (L.length - 1) 0, numAt L (L.length - 1) 1, 0)) ∨
    (Miss 1 (numAt L (L.length - 1) 0) (numAt L (L.length - 1) 1) 0 B ∧ Hit 2 (numAt L (L.length - 1) 0) (numAt L (L.length - 1) 1) (numAt L (L.length - 1) 2) B ∧ tokP L = some (2, numAt L (L.length - 1) 0, numAt L (L.length - 1) 1, numAt L (L.length - 1) 2)) ∨
    (Miss 1 (numAt L (L.length - 1) 0) (numAt L (L.length - 1) 1) 0 B ∧ Miss 2 (numAt L (L.length - 1) 0) (numAt L (L.length - 1) 1) (numAt L (L.length - 1) 2) B ∧ tokP L = none) := by
  have none_of {a b c d : Int} (hn : tokP L = none) : Miss a b c d B := miss_of fun h => by
    have h2 := hit_iff h
    have h3 := tokP_body h2.1
    rw [h2.2, hL, hn] at h3
    cases h3
  cases e : tokP L with
  | none => exact .inr (.inr ⟨none_of e, none_of e, rfl⟩)
  | some q =>
    obtain ⟨a, b, c, d⟩ := q
    have h1 := tokP_some (B := B.data.toList) (by rw [hL]; exact e)
    have hp := parts_body h1.1
    rw [h1.2, hL] at hp
    obtain ⟨hk, hb, hc⟩ := id h1.1
    have hit : bodyS a b c d = B := by
      rw [bodyS_L (hk.imp (·.1) (·.1)), h1.2, txt_data]
    rcases hk with ⟨rfl, rfl⟩ | ⟨rfl, hd⟩
    · rw [if_pos rfl] at hp
      have e0 : numAt L (L.length - 1) 0 = b := by rw [hp]; simp [numAt, atoiN_itoa hb]
      have e1 : numAt L (L.length - 1) 1 = c := by rw [hp]; simp [numAt, atoiN_itoa hc]
      rw [e0, e1]
      exact .inl ⟨⟨right_ok.2 h1.1, hit⟩, rfl⟩
    · rw [if_neg (by decide)] at hp
      have e0 : numAt L (L.length - 1) 0 = b := by rw [hp]; simp [numAt, atoiN_itoa hb]
      have e1 : numAt L (L.length - 1) 1 = c := by rw [hp]; simp [numAt, atoiN_itoa hc]
      have e2 : numAt L (L.length - 1) 2 = d := by rw [hp]; simp [numAt, atoiN_itoa hd]
      rw [e0, e1, e2]
      refine .inr (.inl ⟨miss_of fun h => ?_, ⟨right_ok.2 h1.1, hit⟩, rfl⟩)
      have h2 := (hit_iff h).2
      rw [← h1.2] at h2
      simp [bodyL] at h2
theorem tokR_app {F : List UInt8 → List UInt8} {L : List (List UInt8)} {t : List UInt8} (ht : tagB t = true) :
    tokR F (L ++ [t]) = match tokP L with
      | none => (3, 0, 0, 0, 0)
      | some (a, b, c, d) => if t = F (glue 46 L) then (0, a, b, c, d) else (5, 0, 0, 0, 0) := by
  unfold tokR
  have e1 : (L ++ [t]).dropLast = L := by simp
  have e2 : (L ++ [t]).getLastD [] = t := by simp
  rw [e1, e2, ht]
  rfl
end Go.Proofs.YtckohmhhcknmaaaGreatDoor
