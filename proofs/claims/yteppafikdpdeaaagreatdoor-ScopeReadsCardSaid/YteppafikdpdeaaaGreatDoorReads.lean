/-
  The walk of the statement ScopeReads.
-/
import Derived.Test.YteppafikdpdeaaaGreatDoorRefWithin
import Derived.Test.YteppafikdpdeaaaGreatDoorTell
namespace Go.Proofs.YteppafikdpdeaaaGreatDoor
open Go.RowKit Go.Sort

theorem bare_yes (n : Int) (w : World) (hg : ErrType w) : Calls Tryz.prog 10 #[errV n, .int .i64 n] w fun e w' => e = .returned (.bool true) ∧ Below w.heap.size w w' :=
  (bare_any n n w hg).mono fun e w' ⟨h, hb⟩ => ⟨by rw [h]; simp, hb⟩

theorem scopeReads_long (a b : ByteArray) (W : World) (h : ¬ (a.size ≤ 120 ∧ b.size ≤ 120)) (ha : a.size ≤ 140737488355328) (hb : b.size ≤ 140737488355328) :
    Calls Tryz.prog 3 #[.string a, .string b] W fun e w' => e = .returned (.bool true) ∧ Below W.heap.size W w' := by
  by_cases h1 : 120 < a.size
  · go_enter Tryz.func3, Tryz.ntmps3
    go_wp2_with fail
    go_ret
    exact ⟨rfl, Below.refl _ _⟩
  · have h2 : 120 < b.size := by omega
    clear h
    go_enter Tryz.func3, Tryz.ntmps3
    go_wp2_with fail
    go_ret
    exact ⟨rfl, Below.refl _ _⟩

set_option maxHeartbeats 8000000 in
set_option maxRecDepth 100000 in
theorem scopeReads_short (a b : ByteArray) (W : World) (ha : a.size ≤ 120) (hb : b.size ≤ 120) (hm : MaxL W) (hE : ErrType W) :
    Calls Tryz.prog 3 #[.string a, .string b] W fun e w' => e = .returned (.bool true) ∧ Below W.heap.size W w' := by
  have HM := Lib.hid hm
  have HE := Lib.hid hE
  have l3 := hE.lt
  have l4 := hm.lt
  have C1 := Lib.hid (ref_scope a W (by omega))
  have C2 := Lib.hid (fun w h => scope_read a w (by omega) h)
  have C3 := Lib.hid (fun w => ref_least a w (by omega))
  have C4 := Lib.hid (fun w h => scope_least_any a w (by omega) h)
  have C5 := Lib.hid (fun w => ref_within a b w (by omega) (by omega))
  have C6 := Lib.hid (fun w h => scope_within a b w (by omega) (by omega) h)
  clear hm hE
  go_enter Tryz.func3, Tryz.ntmps3
  go_wp2_with fail
  go_at_call 4
  refine C1.out.mono ?_
  rintro e w1 ⟨v, rfl, hr, hb1⟩
  have HR := Lib.hid hr
  have HB1 := Lib.hid hb1
  clear hr hb1
  go_wp2_with fail
  go_at_call 5
  refine (C2.out _ (HM.out.below HB1.out l4)).mono ?_
  rintro e w2 ⟨u, rfl, hr, hb2⟩
  have HR2 := Lib.hid (RowOrNil.below HR.out hb2)
  have HU := Lib.hid hr
  have HB2 := Lib.hid (below_2 HB1.out hb2)
  clear hr hb2
  go_wp2_with fail
  go_at_call 6
  refine (C3.out _).mono ?_
  rintro e w3 ⟨rfl, hb3⟩
  have HR3 := Lib.hid (RowOrNil.below HR2.out hb3)
  have HU3 := Lib.hid (RowOrNil.below HU.out hb3)
  have HB3 := Lib.hid (below_2 HB2.out hb3)
  clear hb3
  go_wp2_with fail
  go_at_call 7
  refine (C4.out _ (HM.out.below HB3.out l4)).mono ?_
  rintro e w4 ⟨rfl, hb4⟩
  have HR4 := Lib.hid (RowOrNil.below HR3.out hb4)
  have HU4 := Lib.hid (RowOrNil.below HU3.out hb4)
  have HB4 := Lib.hid (below_2 HB3.out hb4)
  clear hb4
  go_wp2_with fail
  go_at_call 8
  refine (C5.out _).mono ?_
  rintro e w5 ⟨rfl, hb5⟩
  have HR5 := Lib.hid (RowOrNil.below HR4.out hb5)
  have HU5 := Lib.hid (RowOrNil.below HU4.out hb5)
  have HB5 := Lib.hid (below_2 HB4.out hb5)
  clear hb5
  go_wp2_with fail
  go_at_call 9
  refine (C6.out _ (HM.out.below HB5.out l4)).mono ?_
  rintro e w6 ⟨rfl, hb6⟩
  have HR6 := Lib.hid (RowOrNil.below HR5.out hb6)
  have HU6 := Lib.hid (RowOrNil.below HU5.out hb6)
  have HB6 := Lib.hid (below_2 HB5.out hb6)
  clear hb6 C1 C2 C3 C4 C5 C6
  have hlen := (scopeL_small a.data.toList).1
  generalize scopeN a.data.toList = n at *
  generalize txt (leastL a.data.toList) = X at *
  generalize withB a.data.toList b.data.toList = r at *
  generalize withN a.data.toList b.data.toList = m at *
  generalize scopeL a.data.toList = L at *
  obtain ⟨A, cap, ev, hcA⟩ := HR6.out.slice
  subst ev
  obtain ⟨A2, cap2, ev, hcA2⟩ := HU6.out.slice
  subst ev
  clear hcA hcA2
  go_wp2_with fail
  go_at_call 10
  refine (bare_yes _ _ (HE.out.below HB6.out l3)).mono ?_
  rintro e w7 ⟨rfl, hb7⟩
  have HR7 := Lib.hid (RowOrNil.below HR6.out hb7)
  have HU7 := Lib.hid (RowOrNil.below HU6.out hb7)
  have HB7 := Lib.hid (below_2 HB6.out hb7)
  clear hb7
  go_wp2_with fail
  go_at_call 10
  refine (bare_yes _ _ (HE.out.below HB7.out l3)).mono ?_
  rintro e w8 ⟨rfl, hb8⟩
  have HR8 := Lib.hid (RowOrNil.below HR7.out hb8)
  have HU8 := Lib.hid (RowOrNil.below HU7.out hb8)
  have HB8 := Lib.hid (below_2 HB7.out hb8)
  clear hb8
  go_wp2_with fail
  go_at_call 10
  refine (bare_yes _ _ (HE.out.below HB8.out l3)).mono ?_
  rintro e w9 ⟨rfl, hb9⟩
  have HR9 := Lib.hid (RowOrNil.below HR8.out hb9)
  have HU9 := Lib.hid (RowOrNil.below HU8.out hb9)
  have HB9 := Lib.hid (below_2 HB8.out hb9)
  clear hb9
  go_wp2_with fail
  go_loopw [17] (fun i wr => ∃ k q : Nat, k ≤ L.length ∧ i = .int .i64 k ∧ wr = w9.drewN q) (fun i _ => L.length - (intOf i).toNat)
  case atStart => exact ⟨0, 0, Nat.zero_le _, rfl, rfl⟩
  case round =>
    obtain ⟨k, q, hk, rfl, rfl⟩ := hrel
    by_cases hlt : k < L.length
    · obtain ⟨B1, c1, e1, hc1⟩ := HR9.out.slice
      injection e1 with e1 _ e2
      subst e1; subst e2
      obtain ⟨g1, rfl, hc⟩ := hc1 k hlt
      obtain ⟨B2, c2, e1, hc2⟩ := HU9.out.slice
      injection e1 with e1 _ e2
      subst e1; subst e2
      obtain ⟨g2, rfl, hc'⟩ := hc2 k hlt
      clear hc1 hc2
      generalize txt (L.getD k []) = y at *
      have h0 : (0 : Int) ≤ (k : Int) := by omega
      have h1 : (k : Int) < (L.length : Int) := by omega
      go_wp2_with fail
      go_quiet (fail)
      go_wp2_with fail
      go_roundw
      case rel => exact ⟨k + 1, _, by omega, by go_num, rfl⟩
      case measure => simp [intOf]; omega
    · go_wp2_with fail
      go_ret
      exact ⟨rfl, below_drewN HB9.out q⟩

theorem scopeReads_walk (a b : ByteArray) (W : World) (ha : a.size ≤ 140737488355328) (hb : b.size ≤ 140737488355328) (hm : MaxL W) (hE : ErrType W) :
    Calls Tryz.prog 3 #[.string a, .string b] W fun e w' => e = .returned (.bool true) ∧ Below W.heap.size W w' := by
  by_cases h : a.size ≤ 120 ∧ b.size ≤ 120
  · exact scopeReads_short a b W h.1 h.2 hm hE
  · exact scopeReads_long a b W h ha hb
end Go.Proofs.YteppafikdpdeaaaGreatDoor
