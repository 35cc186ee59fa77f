/-
  strings.Join of a scope's words.
-/
import Derived.Test.YtdogilbnbbeljaaGreatDoorH10
import Derived.Test.YtdogilbnbbeljaaGreatDoorH18
import Derived.Test.YtdogilbnbbeljaaGreatDoorH19
import Derived.Test.YtdogilbnbbeljaaGreatDoorH03
namespace Go.Proofs.YtdogilbnbbeljaaGreatDoor
open Go.RowKit Go.Sort

theorem join_nil (w : World) (c : Nat) (sep : ByteArray) : Calls Tryz.prog 54 #[.slice none 0 c, .string sep] w fun e w' => e = .returned (.string ⟨#[]⟩) ∧ w' = w := Tryz.strings_Join_none none c sep w
theorem join_scope {w : World} {B : Nat} {v : Value} {s : List UInt8} (h : RowOrNil w B v (scopeL s)) : Calls Tryz.prog 54 #[v, .string ⟨#[43]⟩] w fun e w' => e = .returned (.string (txt (leastL s))) ∧ Below w.heap.size w w' := by
  rcases h with ⟨rfl, h⟩ | h
  · refine (join_nil w 0 _).mono ?_
    rintro e w' ⟨rfl, rfl⟩
    unfold leastL
    rw [h]
    exact ⟨rfl, Below.refl _ _⟩
  · have h1 := scopeL_small s
    have h2 := leastL_len s
    exact join_row 43 h (by omega) (by show (leastL s).length ≤ _; omega)
end Go.Proofs.YtdogilbnbbeljaaGreatDoor

/-
  The reference's Least.
-/
namespace Go.Proofs.YtdogilbnbbeljaaGreatDoor
open Go.RowKit Go.Sort

theorem ref_least (s : ByteArray) (W : World) (hs : s.size ≤ 1000) :
    Calls Tryz.prog 66 #[.string s] W fun e w' => e = .returned (.tuple #[.string (txt (leastL s.data.toList)), .int .i64 (scopeN s.data.toList)]) ∧ Below W.heap.size W w' := by
  have H := Lib.hid (ref_scope s W hs)
  go_enter Tryz.func66, Tryz.ntmps66
  go_wp2_with
    (first
    | (go_at_call 91; refine H.out.mono ?_; rintro e w1 ⟨v, rfl, hr, hb⟩
       have HJ := Lib.hid (join_scope hr)
       have HB := Lib.hid hb
       clear hr hb)
    | (go_at_call 54; refine HJ.out.mono ?_; rintro e w2 ⟨rfl, hb⟩
       have HB2 := Lib.hid (HB.out.trans (hb.mono HB.out.size))
       clear hb))
  go_ret2
  exact ⟨rfl, HB2.out⟩

end Go.Proofs.YtdogilbnbbeljaaGreatDoor

/-
  The reference's Name.
-/
namespace Go.Proofs.YtdogilbnbbeljaaGreatDoor
open Go.RowKit Go.Sort

theorem ref_in3 (x lo hi : Int) (w : World) : Calls Tryz.prog 65 #[.int .i64 x, .int .i64 lo, .int .i64 hi] w fun e w' => e = .returned (.bool (decide (lo ≤ x) && decide (x ≤ hi))) ∧ w = w' := by
  by_cases h0 : lo ≤ x
  · go_enter Tryz.func65, Tryz.ntmps65
    go_wp2_with fail
    go_ret
    refine ⟨?_, rfl⟩
    show Ending.returned _ = _
    simp [h0]
  · have h1 : x < lo := by omega
    go_enter Tryz.func65, Tryz.ntmps65
    go_wp2_with fail
    go_ret
    refine ⟨?_, rfl⟩
    show Ending.returned _ = _
    simp
    omega
theorem nameB_size (s : ByteArray) : nameB s.data.toList = (decide (1 ≤ (s.size : Int)) && decide ((s.size : Int) ≤ 20) && s.data.toList.all nameC) := by
  unfold nameB
  rw [size_data]
  congr 2 <;> simp <;> omega

def NameRel (s : ByteArray) (w : World) (i : Value) (wr : World) : Prop := ∃ k : Nat, k ≤ s.size ∧ i = .int .i64 k ∧ w = wr ∧ ∀ j, j < k → ∀ c, s.data.toList[j]? = some c → nameC c = true
theorem all_name {s : ByteArray} (h : ∀ j, j < s.size → ∀ c, s.data.toList[j]? = some c → nameC c = true) : s.data.toList.all nameC = true := by
  rw [List.all_eq_true]
  intro c hc
  obtain ⟨j, e⟩ := List.mem_iff_getElem?.1 hc
  have hj := (List.getElem?_eq_some_iff.1 e).1
  exact h j (by rw [size_data] at hj; exact hj) c e
theorem not_name {s : ByteArray} {k : Nat} {c : UInt8} (h : s.data.toList[k]? = some c) (hc : nameC c = false) : s.data.toList.all nameC = false := by
  rw [List.all_eq_false]
  exact ⟨c, List.mem_of_getElem? h, by rw [hc]; decide⟩
theorem name_class (n : Nat) : (n < 45 ∨ (45 < n ∧ n < 48) ∨ (48 ≤ n ∧ 57 < n ∧ n < 97) ∨ (97 ≤ n ∧ 122 < n)) ∨ n = 45 ∨ (48 ≤ n ∧ n ≤ 57) ∨ (97 ≤ n ∧ n ≤ 122) := by omega

set_option maxHeartbeats 4000000 in
theorem ref_name (s : ByteArray) (W : World) (hs : s.size ≤ 1000) : Calls Tryz.prog 67 #[.string s] W fun e w' => e = .returned (.bool (nameB s.data.toList)) ∧ W = w' := by
  have HN := Lib.hid (nameB_size s)
  go_enter Tryz.func67, Tryz.ntmps67
  go_wp2
  go_loopw [7] (fun i wr => NameRel s W i wr) (fun i _ => s.size - (intOf i).toNat)
  case atStart => exact ⟨0, Nat.zero_le _, rfl, rfl, fun j hj => absurd hj (Nat.not_lt_zero _)⟩
  case round =>
    obtain ⟨k, hk, rfl, rfl, hyes⟩ := hrel
    have HY := Lib.hid hyes
    clear hyes
    by_cases hlt : k < s.size
    · have hbyte := byte_at s k hlt
      have HC := Lib.hid (nameC_iff s[k])
      have HBY := Lib.hid hbyte
      clear hbyte
      have hcl := name_class s[k].toNat
      rcases hcl with (h | ⟨h, h'⟩ | ⟨h, h', h''⟩ | ⟨h, h'⟩) | h | ⟨h, h'⟩ | ⟨h, h'⟩
      all_goals
        have e45 : ((s[k].toNat : Int) == 45) = decide (s[k].toNat = 45) := by
          rw [Bool.eq_iff_iff]; simp; omega
        first
          | (have e45' : decide (s[k].toNat = 45) = true := by simp; omega
             rw [e45'] at e45; clear e45')
          | (have e45' : decide (s[k].toNat = 45) = false := by simp; omega
             rw [e45'] at e45; clear e45')
        go_wp2_with fail
      all_goals first
        | (have hc : nameC s[k] = true := by
             rw [HC.out]; simp; omega
           go_roundw
           case rel =>
             refine ⟨k + 1, by omega, by go_num, rfl, fun j hj c hjc => ?_⟩
             by_cases e : j = k
             · subst e
               rw [HBY.out] at hjc
               cases hjc
               exact hc
             · exact HY.out j (by omega) c hjc
           case measure => simp [intOf]; omega)
        | (have hc : nameC s[k] = false := by
             rw [HC.out]; simp; omega
           go_ret
           refine ⟨?_, rfl⟩
           rw [HN.out, not_name HBY.out hc, Bool.and_false]
           rfl)
        | (exfalso
           simp only [Bool.not_eq_eq_eq_not, Bool.not_false, decide_eq_true_eq] at *
           omega)
    · go_wp2_with (go_at_call 65; refine (ref_in3 _ _ _ _).mono ?_; rintro e w2 ⟨rfl, rfl⟩)
      go_ret
      refine ⟨?_, rfl⟩
      rw [HN.out, all_name fun j hj => HY.out j (by omega), Bool.and_true]
      rfl
end Go.Proofs.YtdogilbnbbeljaaGreatDoor
