/-
  The reference's Least and Within.
-/
import Derived.Test.YteppafikdpdeaaaGreatDoorRefScope
import Derived.Test.YteppafikdpdeaaaGreatDoorWithin
namespace Go.Proofs.YteppafikdpdeaaaGreatDoor
open Go.RowKit Go.Sort

theorem ref_least (s : ByteArray) (W : World) (hs : s.size ≤ 1000) :
    Calls Tryz.prog 6 #[.string s] W fun e w' => e = .returned (.tuple #[.string (txt (leastL s.data.toList)), .int .i64 (scopeN s.data.toList)]) ∧ Below W.heap.size W w' := by
  have H := Lib.hid (ref_scope s W hs)
  go_enter Tryz.func6, Tryz.ntmps6
  go_wp2_with
    (first
    | (go_at_call 4; refine H.out.mono ?_; rintro e w1 ⟨v, rfl, hr, hb⟩
       have HJ := Lib.hid (join_scope hr)
       have HB := Lib.hid hb
       clear hr hb)
    | (go_at_call 18; refine HJ.out.mono ?_; rintro e w2 ⟨rfl, hb⟩
       have HB2 := Lib.hid (HB.out.trans (hb.mono HB.out.size))
       clear hb))
  go_ret2
  exact ⟨rfl, HB2.out⟩

theorem count_01 {L : List (List UInt8)} (h : L.Nodup) (x : List UInt8) : L.count x = if L.contains x then 1 else 0 := by
  by_cases hx : x ∈ L
  · rw [if_pos (List.contains_iff_mem.2 hx)]
    have h1 := List.nodup_iff_count.1 h x
    have h2 := List.count_pos_iff.2 hx
    omega
  · rw [List.count_eq_zero.2 hx, if_neg (fun h => hx (List.contains_iff_mem.1 h))]
def inB (b : List UInt8) (w : List UInt8) : Bool := (scopeL b).contains w
def OutRel (a b : List UInt8) (n i : Value) : Prop := ∃ k : Nat, k ≤ (scopeL a).length ∧ i = .int .i64 k ∧ n = .int .i64 (((scopeL a).take k).countP (inB b))
def InnRel (b x : List UInt8) (N : Nat) (n j : Value) : Prop := ∃ k : Nat, k ≤ (scopeL b).length ∧ j = .int .i64 k ∧ n = .int .i64 ((N + ((scopeL b).take k).count x : Nat))
theorem take_next {L : List (List UInt8)} {k : Nat} (h : k < L.length) : L.take (k + 1) = L.take k ++ [L.getD k []] := by
  rw [List.take_add_one, List.getElem?_eq_getElem h]
  simp [List.getD, h]
theorem countP_take_le (L : List (List UInt8)) (p : List UInt8 → Bool) (k : Nat) : (L.take k).countP p ≤ k := Nat.le_trans List.countP_le_length (List.length_take_le _ _)
theorem count_take_le (L : List (List UInt8)) (x : List UInt8) (k : Nat) : (L.take k).count x ≤ k := Nat.le_trans List.count_le_length (List.length_take_le _ _)
theorem within_count (a b : List UInt8) : decide (((scopeL a).countP (inB b) : Int) = ((scopeL a).length : Int)) = withinB a b := by
  rw [Bool.eq_iff_iff, decide_eq_true_eq]
  unfold withinB
  rw [List.all_eq_true]
  have : ((scopeL a).countP (inB b) : Int) = ((scopeL a).length : Int) ↔ (scopeL a).countP (inB b) = (scopeL a).length := by omega
  rw [this, List.countP_eq_length]
  rfl

set_option maxHeartbeats 8000000 in
theorem ref_within (a b : ByteArray) (W : World) (ha : a.size ≤ 1000) (hb : b.size ≤ 1000) :
    Calls Tryz.prog 8 #[.string a, .string b] W fun e w' => e = .returned (.tuple #[.bool (withB a.data.toList b.data.toList), .int .i64 (withN a.data.toList b.data.toList)]) ∧ Below W.heap.size W w' := by
  have H1 := Lib.hid (ref_scope a W ha)
  have HB := Lib.hid (fun w => ref_scope b w hb)
  by_cases h0 : scopeN a.data.toList = 0
  · have E := Lib.hid h0
    have W2 := Lib.hid (withN_2 (b := b.data.toList) h0)
    clear h0
    by_cases h1 : scopeN b.data.toList = 0
    · have E2 := Lib.hid h1
      have W3 := Lib.hid (show withN a.data.toList b.data.toList = 0 by rw [W2.out, h1])
      clear h1
      go_enter Tryz.func8, Tryz.ntmps8
      go_wp2_with fail
      go_at_call 4
      refine H1.out.mono ?_
      rintro e w1 ⟨v, rfl, hr1, hb1⟩
      rw [E.out]
      have HR1 := Lib.hid hr1
      have HB1 := Lib.hid hb1
      clear hr1 hb1
      go_wp2_with fail
      go_at_call 4
      refine (HB.out _).mono ?_
      rintro e w2 ⟨u, rfl, hr2, hb2⟩
      rw [E2.out]
      have HR2 := Lib.hid (RowOrNil.below HR1.out hb2)
      have HR3 := Lib.hid hr2
      have HB2 := Lib.hid (HB1.out.trans (hb2.mono HB1.out.size))
      have hl1 := (scopeL_small a.data.toList).1
      have hl2 := (scopeL_small b.data.toList).1
      obtain ⟨A, cap, ev, hcA⟩ := HR2.out.slice
      subst ev
      obtain ⟨B, cap', eu, hcB⟩ := HR3.out.slice
      subst eu
      have HCA := Lib.hid hcA
      have HCB := Lib.hid hcB
      clear hr2 hb2 hcA hcB
      go_wp2_with fail
      go_loop [9, 32] (fun n i => OutRel a.data.toList b.data.toList n i) (fun _ i => (scopeL a.data.toList).length - (intOf i).toNat)
      case atStart => exact ⟨0, Nat.zero_le _, rfl, rfl⟩
      case round =>
        obtain ⟨k, hk, rfl, rfl⟩ := hrel
        have hcl := countP_take_le (scopeL a.data.toList) (inB b.data.toList) k
        by_cases hlt : k < (scopeL a.data.toList).length
        · obtain ⟨g, eA, hc⟩ := HCA.out k hlt
          subst eA
          have HT := Lib.hid (take_next hlt)
          generalize hx : (scopeL a.data.toList).getD k [] = x at *
          have HX := Lib.hid hx
          clear hx
          generalize hN : ((scopeL a.data.toList).take k).countP (inB b.data.toList) = N at *
          have HN := Lib.hid hN
          clear hN
          go_wp2_with fail
          go_loop [9, 38] (fun n i => InnRel b.data.toList x N n i) (fun _ i => (scopeL b.data.toList).length - (intOf i).toNat)
          case atStart => exact ⟨0, Nat.zero_le _, rfl, by simp⟩
          case round =>
            obtain ⟨j, hj, rfl, rfl⟩ := hrel
            have hcl2 := count_take_le (scopeL b.data.toList) x j
            by_cases hjt : j < (scopeL b.data.toList).length
            · obtain ⟨g2, eB, hc2⟩ := HCB.out j hjt
              subst eB
              have HT2 := Lib.hid (take_next hjt)
              generalize hy : (scopeL b.data.toList).getD j [] = y at *
              have HY := Lib.hid hy
              clear hy
              generalize hM : ((scopeL b.data.toList).take j).count x = M at *
              have HM := Lib.hid hM
              clear hM
              by_cases hxy : x = y
              · have et : ((txt x).toList == (txt y).toList) = true := by rw [hxy]; simp
                have HXY := Lib.hid hxy
                clear hxy
                go_wp2_with fail
                go_round
                case rel =>
                  refine ⟨j + 1, by omega, by go_num, ?_⟩
                  rw [HT2.out, List.count_append, HM.out, HXY.out]
                  simp
                  go_num
                case measure => simp [intOf]; omega
              · have et : ((txt x).toList == (txt y).toList) = false := by rw [toList_txt, toList_txt]; simpa using hxy
                have HXY := Lib.hid hxy
                clear hxy
                go_wp2_with fail
                go_round
                case rel =>
                  refine ⟨j + 1, by omega, by go_num, ?_⟩
                  rw [HT2.out, List.count_append, HM.out, List.count_singleton]
                  rw [if_neg (by simpa using fun h => HXY.out h.symm)]
                  go_num
                case measure => simp [intOf]; omega
            · have ej : j = (scopeL b.data.toList).length := by omega
              have hcount := count_01 (scopeL_up b.data.toList).nodup x
              have HC := Lib.hid (show ((scopeL b.data.toList).take j).count x = if inB b.data.toList x then 1 else 0 by rw [ej, List.take_length, hcount]; rfl)
              clear hcount ej
              generalize ((scopeL b.data.toList).take j).count x = M at *
              go_wp2_with fail
              go_round
              case rel =>
                refine ⟨k + 1, by omega, by go_num, ?_⟩
                rw [HT.out, List.countP_append, HN.out, HC.out]
                cases hin : inB b.data.toList x
                · simp [hin]
                · simp [hin]
              case measure => simp [intOf]; omega
        · have ek : k = (scopeL a.data.toList).length := by omega
          have HW := Lib.hid (show decide ((((scopeL a.data.toList).take k).countP (inB b.data.toList) : Int) = ((scopeL a.data.toList).length : Int)) = withinB a.data.toList b.data.toList by
            rw [ek, List.take_length]; exact within_count _ _)
          clear ek
          generalize ((scopeL a.data.toList).take k).countP (inB b.data.toList) = N at *
          go_wp2_with fail
          go_ret2
          refine ⟨?_, HB2.out⟩
          rw [W3.out]
          unfold withB
          rw [W3.out, ← HW.out]
          simp
          rfl
    · have E2 := Lib.hid (show (scopeN b.data.toList == 0) = false by simpa using h1)
      have E3 := Lib.hid h1
      have W3 := Lib.hid (withB_bad (a := a.data.toList) (b := b.data.toList) (by rw [W2.out]; exact h1))
      clear h1
      go_enter Tryz.func8, Tryz.ntmps8
      go_wp2_with fail
      go_at_call 4
      refine H1.out.mono ?_
      rintro e w1 ⟨v, rfl, hr1, hb1⟩
      rw [E.out]
      have HB1 := Lib.hid hb1
      clear hr1 hb1
      go_wp2_with fail
      go_at_call 4
      refine (HB.out _).mono ?_
      rintro e w2 ⟨u, rfl, hr2, hb2⟩
      have HB2 := Lib.hid (HB1.out.trans (hb2.mono HB1.out.size))
      clear hr2 hb2
      have e3 := E3.out
      have e4 := E2.out
      go_wp2_with fail
      go_ret2
      exact ⟨by rw [W3.out, W2.out]; rfl, HB2.out⟩
  · have E2 := Lib.hid (show (scopeN a.data.toList == 0) = false by simpa using h0)
    have E3 := Lib.hid h0
    have W2 := Lib.hid (withN_1 (b := b.data.toList) h0)
    have W3 := Lib.hid (withB_bad (a := a.data.toList) (b := b.data.toList) (by rw [W2.out]; exact h0))
    clear h0
    go_enter Tryz.func8, Tryz.ntmps8
    go_wp2_with fail
    go_at_call 4
    refine H1.out.mono ?_
    rintro e w1 ⟨v, rfl, hr1, hb1⟩
    have HB1 := Lib.hid hb1
    clear hr1 hb1
    have e3 := E3.out
    have e4 := E2.out
    go_wp2_with fail
    go_ret2
    exact ⟨by rw [W3.out, W2.out]; rfl, HB1.out⟩
end Go.Proofs.YteppafikdpdeaaaGreatDoor
