/-
  The reference's May: may an event be?
-/
import Derived.Test.YtdogilbnbbeljaaGreatDoorH20
import Derived.Test.YtdogilbnbbeljaaGreatDoorH03
namespace Go.Proofs.YtdogilbnbbeljaaGreatDoor
open Go.RowKit Go.Sort

def MayRel (L : List Int) (w : World) (i : Value) (wr : World) : Prop := ∃ k : Nat, k ≤ 4 ∧ i = .int .i64 k ∧ w = wr ∧ ∀ j, j < k → okN (L.getD j 0) = true
theorem ints_4 (w : World) (T : TypeId) (a b c d : Int) : IntsAt (w.alloc (.cells #[.int .i64 a, .int .i64 b, .int .i64 c, .int .i64 d] T)) w.heap.size [a, b, c, d] := ints_new w T [a, b, c, d]

set_option maxHeartbeats 16000000 in
set_option maxRecDepth 100000 in
theorem may_put (e : Ev) (W : World) (hk : e.kind = 1) (hs : e.fam.short 1000) :
    Calls Tryz.prog 44 #[evVal e] W fun x w' => x = .returned (.bool (evB e)) ∧ Below W.heap.size W w' := by
  have hr : evB e = (decide (e.id = 0) && decide (e.time = 0) && famB e.fam) := by unfold evB; rw [if_pos hk]
  have HS := Lib.hid (MR.start (T := 61) (W := W) e)
  obtain ⟨k, ⟨i, cl, su, sc, ge, ma, us, re, de⟩, id, ti⟩ := e
  dsimp only at hk
  subst hk
  obtain ⟨s1, s2, s3, s4⟩ := hs
  dsimp only at s1 s2 s3 s4 hr
  unfold famB at hr
  dsimp only at hr
  have h1 : (id == 0) = decide (id = 0) := by rw [Bool.eq_iff_iff]; simp
  have h2 : (ti == 0) = decide (ti = 0) := by rw [Bool.eq_iff_iff]; simp
  have HN1 := Lib.hid (fun w => ref_name cl w s1)
  have HN2 := Lib.hid (fun w => ref_name su w s2)
  have HN3 := Lib.hid (fun w => ref_name re w s4)
  have HL := Lib.hid (fun w => ref_least sc w s3)
  have h6 := empty_list (s := re)
  have h8 := scope_eq (txt (leastL sc.data.toList)) sc _ rfl
  have h7 : (scopeN sc.data.toList == 0) = decide (scopeN sc.data.toList = 0) := by rw [Bool.eq_iff_iff]; simp
  have h9 : scopeB sc.data.toList = (decide (scopeN sc.data.toList = 0) && decide (leastL sc.data.toList = sc.data.toList)) := rfl
  have h10 : reqB re.data.toList = (decide (re.data.toList = []) || nameB re.data.toList) := rfl
  have h11 : [i, ge, ma, us].all okN = (okN i && okN ge && okN ma && okN us) := four_ok i ge ma us
  rw [h9, h10] at hr
  clear h9 h10
  generalize txt (leastL sc.data.toList) = y at *
  have hb : (okN i && okN ge && okN ma && okN us && nameB cl.data.toList && nameB su.data.toList && (decide (re.data.toList = []) || nameB re.data.toList) && (decide (scopeN sc.data.toList = 0) && decide (leastL sc.data.toList = sc.data.toList))) = ((okN i && okN ge && okN ma && okN us) && nameB cl.data.toList && nameB su.data.toList && (decide (re.data.toList = []) || nameB re.data.toList) && (decide (scopeN sc.data.toList = 0) && decide (leastL sc.data.toList = sc.data.toList))) := rfl
  rw [hb, ← h11] at hr
  clear hb h11
  generalize decide (scopeN sc.data.toList = 0) = b8 at *
  generalize scopeN sc.data.toList = n at *
  generalize decide (leastL sc.data.toList = sc.data.toList) = b9 at *
  generalize nameB cl.data.toList = b4 at *
  generalize nameB su.data.toList = b5 at *
  generalize nameB re.data.toList = b7 at *
  generalize decide (re.data.toList = []) = b6 at *
  generalize decide (id = 0) = b1 at *
  generalize decide (ti = 0) = b2 at *
  have HR := Lib.hid hr
  have H1 := Lib.hid h1
  have H2 := Lib.hid h2
  have H6 := Lib.hid h6
  have H7 := Lib.hid h7
  have H8 := Lib.hid h8
  clear hr h1 h2 h6 h7 h8
  unfold evVal evCs
  dsimp only
  go_enter Tryz.func44, Tryz.ntmps44
  go_wp2_with fail
  have HC := Lib.hid (HS.out.keep ((Below.refl _ _).alloc (Nat.le_refl _) (.cells #[.int .i64 i, .int .i64 ge, .int .i64 ma, .int .i64 us] 3)))
  unfold evCs famCs at HC
  dsimp only at HC
  have HI := Lib.hid (ints_4 ((W.alloc (.cells #[.int .i64 1, .int .i64 i, .string cl, .string su, .string sc, .int .i64 ge, .int .i64 ma, .int .i64 us, .string re, .bool de, .int .i64 id, .int .i64 ti] 61)).alloc (.cells #[.int .i64 i, .string cl, .string su, .string sc, .int .i64 ge, .int .i64 ma, .int .i64 us, .string re, .bool de] 40)) 3 i ge ma us)
  have hsz : ((W.alloc (.cells #[.int .i64 1, .int .i64 i, .string cl, .string su, .string sc, .int .i64 ge, .int .i64 ma, .int .i64 us, .string re, .bool de, .int .i64 id, .int .i64 ti] 61)).alloc (.cells #[.int .i64 i, .string cl, .string su, .string sc, .int .i64 ge, .int .i64 ma, .int .i64 us, .string re, .bool de] 40)).heap.size = W.heap.size + 1 + 1 := by simp
  rw [hsz] at HI
  clear hsz HS
  generalize (((W.alloc (.cells #[.int .i64 1, .int .i64 i, .string cl, .string su, .string sc, .int .i64 ge, .int .i64 ma, .int .i64 us, .string re, .bool de, .int .i64 id, .int .i64 ti] 61)).alloc (.cells #[.int .i64 i, .string cl, .string su, .string sc, .int .i64 ge, .int .i64 ma, .int .i64 us, .string re, .bool de] 40)).alloc (.cells #[.int .i64 i, .int .i64 ge, .int .i64 ma, .int .i64 us] 3)) = w0 at *
  obtain ⟨c0, c1, c2, d0, d1, d2, d3, d4, d5, d6, d7, d8⟩ := HC.out.cells
  go_loopw [24] (fun i' wr => MayRel [i, ge, ma, us] w0 i' wr) (fun i' _ => 4 - (intOf i').toNat)
  case atStart => exact ⟨0, by omega, rfl, rfl, fun j hj => absurd hj (Nat.not_lt_zero _)⟩
  case round =>
    obtain ⟨k, hk, rfl, rfl, hyes⟩ := hrel
    have HY := Lib.hid hyes
    clear hyes
    by_cases hlt : k < 4
    · have hc := HI.out k hlt
      clear c0 c1 c2 d0 d1 d2 d3 d4 d5 d6 d7 d8
      have HLT := Lib.hid (show k < [i, ge, ma, us].length from hlt)
      generalize hx : [i, ge, ma, us].getD k 0 = z at *
      have HX := Lib.hid hx
      clear hx
      have HIN := Lib.hid (fun w => ref_in3 z 0 1099511627776 w)
      have hok : (decide ((0 : Int) ≤ z) && decide (z ≤ 1099511627776)) = okN z := rfl
      rw [hok] at HIN
      clear hok
      cases hz : okN z
      all_goals
        have HZ := Lib.hid hz
        rw [hz] at HIN
        clear hz
        go_wp2_with fail
        go_at_call 65
        refine (HIN.out _).mono ?_
        rintro x w' ⟨rfl, rfl⟩
        go_wp2_with fail
      · go_ret
        refine ⟨?_, HC.out.below⟩
        rw [HR.out, ints_at HLT.out (by rw [HX.out]; exact HZ.out)]
        simp
      · go_roundw
        case rel =>
          refine ⟨k + 1, by omega, by go_num, rfl, fun j hj => ?_⟩
          by_cases e : j = k
          · subst e
            rw [HX.out]
            exact HZ.out
          · exact HY.out j (by omega)
        case measure => simp [intOf]; omega
    · have hk4 : k = 4 := by omega
      subst hk4
      have hall := ints_all (L := [i, ge, ma, us]) fun j hj => HY.out j hj
      have hr2 := HR.out
      rw [hall] at hr2
      have HR := Lib.hid hr2
      clear hall HI HY hr2
      go_wp2_with fail
      go_at_call 66
      refine (HL.out _).mono ?_
      rintro x w' ⟨rfl, hb⟩
      have HC := Lib.hid (HC.out.keep hb)
      clear hb c0 c1 c2 d0 d1 d2 d3 d4 d5 d6 d7 d8
      obtain ⟨c0, c1, c2, d0, d1, d2, d3, d4, d5, d6, d7, d8⟩ := HC.out.cells
      have h1 := H1.out
      clear H1
      cases b1
      · go_wp2_with fail
        go_ret
        exact ⟨by rw [HR.out]; first | rfl | simp, HC.out.below⟩
      have h2 := H2.out
      clear H2
      cases b2
      · go_wp2_with fail
        go_ret
        exact ⟨by rw [HR.out]; first | rfl | simp, HC.out.below⟩
      go_wp2_with fail
      go_at_call 67
      refine (HN1.out _).mono ?_
      rintro x w' ⟨rfl, rfl⟩
      cases b4
      · go_wp2_with fail
        go_ret
        exact ⟨by rw [HR.out]; first | rfl | simp, HC.out.below⟩
      go_wp2_with fail
      go_at_call 67
      refine (HN2.out _).mono ?_
      rintro x w' ⟨rfl, rfl⟩
      cases b5
      · go_wp2_with fail
        go_ret
        exact ⟨by rw [HR.out]; first | rfl | simp, HC.out.below⟩
      have h6 := H6.out
      clear H6
      cases b6
      · go_wp2_with fail
        go_at_call 67
        refine (HN3.out _).mono ?_
        rintro x w' ⟨rfl, rfl⟩
        cases b7
        · go_wp2_with fail
          go_ret
          exact ⟨by rw [HR.out]; first | rfl | simp, HC.out.below⟩
        have h7 := H7.out
        have h8 := H8.out
        clear H7 H8
        cases b8
        all_goals
          go_wp2_with fail
          go_ret
          exact ⟨by rw [HR.out]; first | rfl | simp, HC.out.below⟩
      · have h7 := H7.out
        have h8 := H8.out
        clear H7 H8
        cases b8
        all_goals
          go_wp2_with fail
          go_ret
          exact ⟨by rw [HR.out]; first | rfl | simp, HC.out.below⟩
end Go.Proofs.YtdogilbnbbeljaaGreatDoor
