/-
  The walk of the statement ScopeOrder.
-/
import Derived.Test.YteppafikdpdeaaaDoorOrderPure
import Derived.Test.YteppafikdpdeaaaDoorWithin
namespace Go.Proofs.YteppafikdpdeaaaDoor
open Go.RowKit Go.Sort

theorem scope_least_at (l : List UInt8) (W : World) (hs : l.length ≤ 1000) (hm : MaxL W) :
    Calls Tryd.prog 5 #[.string (txt l)] W fun e w' => e = .returned (.tuple #[.string (txt (leastL l)), errV (scopeN l)]) ∧ Below W.heap.size W w' := by
  have := scope_least_any (txt l) W (by rw [txt_size]; exact hs) hm
  rwa [data_txt] at this
theorem scope_within_at (a b : List UInt8) (W : World) (ha : a.length ≤ 1000) (hb : b.length ≤ 1000) (hm : MaxL W) :
    Calls Tryd.prog 6 #[.string (txt a), .string (txt b)] W fun e w' => e = .returned (.tuple #[.bool (withB a b), errV (withN a b)]) ∧ Below W.heap.size W w' := by
  have := scope_within (txt a) (txt b) W (by rw [txt_size]; exact ha) (by rw [txt_size]; exact hb) hm
  rwa [data_txt, data_txt] at this

theorem narrow_1 (w : World) (hm : MaxL w) : Calls Tryd.prog 6 #[.string ⟨#[114, 101, 97, 100]⟩, .string ⟨#[119, 114, 105, 116, 101, 43, 114, 101, 97, 100]⟩] w fun e w' => e = .returned (.tuple #[.bool true, .nilIface]) ∧ Below w.heap.size w w' := by
  have h := scope_within_at [114, 101, 97, 100] [119, 114, 105, 116, 101, 43, 114, 101, 97, 100] w (by decide) (by decide) hm
  have h1 : withN [114, 101, 97, 100] [119, 114, 105, 116, 101, 43, 114, 101, 97, 100] = 0 := by rw [withN_2 s_read.1, s_both.1]
  have h2 : withB [114, 101, 97, 100] [119, 114, 105, 116, 101, 43, 114, 101, 97, 100] = true := by unfold withB; rw [h1, read_both]; rfl
  rw [h1, h2] at h
  exact h
theorem narrow_2 (w : World) (hm : MaxL w) : Calls Tryd.prog 5 #[.string ⟨#[98, 43, 97, 43, 98]⟩] w fun e w' => e = .returned (.tuple #[.string ⟨#[97, 43, 98]⟩, .nilIface]) ∧ Below w.heap.size w w' := by
  have h := scope_least_at [98, 43, 97, 43, 98] w (by decide) hm
  rw [bab_least, s_bab.1] at h
  exact h
theorem narrow_yes (W : World) (hm : MaxL W) : Calls Tryd.prog 4 #[] W fun e w' => e = .returned (.bool true) ∧ Below W.heap.size W w' := by
  have H1 := Lib.hid (narrow_1 W hm)
  have H2 := Lib.hid narrow_2
  have HM := Lib.hid hm
  clear hm
  go_enter Tryd.func4, Tryd.ntmps4
  go_wp2_with
    (first
    | (go_at_call 6; refine H1.out.mono ?_; rintro e w1 ⟨rfl, hb⟩
       have HB := Lib.hid hb
       clear hb)
    | (go_at_call 5; refine (H2.out _ (HM.out.below' HB.out)).mono ?_; rintro e w2 ⟨rfl, hb⟩
       have HB2 := Lib.hid (HB.out.trans (hb.mono HB.out.size))
       clear hb))
  go_ret
  exact ⟨rfl, HB2.out⟩

theorem withN_zero {a b : List UInt8} (ha : scopeN a = 0) (hb : scopeN b = 0) : withN a b = 0 := by rw [withN_2 ha, hb]
theorem withB_zero {a b : List UInt8} (ha : scopeN a = 0) (hb : scopeN b = 0) : withB a b = withinB a b := by unfold withB; rw [withN_zero ha hb]; simp

set_option maxHeartbeats 4000000 in
set_option maxRecDepth 100000 in
/-- one of the three is no scope -/
theorem order_bad (a b c : List UInt8) (W : World) (hs : a.length + b.length + c.length ≤ 300) (hm : MaxL W) (h : ¬ (scopeN a = 0 ∧ scopeN b = 0 ∧ scopeN c = 0)) :
    Calls Tryd.prog 3 #[.string (txt a), .string (txt b), .string (txt c)] W fun e w' => e = .returned (.bool true) ∧ Below W.heap.size W w' := by
  have HN := Lib.hid (narrow_yes W hm)
  have HM := Lib.hid hm
  have H1 := Lib.hid (fun w (h : MaxL w) => scope_least_at a w (by omega) h)
  have H2 := Lib.hid (fun w (h : MaxL w) => scope_least_at b w (by omega) h)
  have H3 := Lib.hid (fun w (h : MaxL w) => scope_least_at c w (by omega) h)
  have z1 := txt_size a
  have z2 := txt_size b
  have z3 := txt_size c
  clear hm
  generalize txt a = A at *
  generalize txt b = B at *
  generalize txt c = C at *
  generalize txt (leastL a) = X at *
  generalize txt (leastL b) = Y at *
  generalize txt (leastL c) = Z at *
  have hz1 : A.size + B.size + C.size ≤ 300 := by omega
  clear z1 z2 z3 hs
  have key : ∀ (x y z : Value), (x = errV (scopeN a) ∧ y = errV (scopeN b) ∧ z = errV (scopeN c)) → ((∃ n, x = .iface 38 (.int .i64 n)) ∨ (x = .nilIface ∧ ∃ n, y = .iface 38 (.int .i64 n)) ∨ (x = .nilIface ∧ y = .nilIface ∧ ∃ n, z = .iface 38 (.int .i64 n))) := by
    rintro x y z ⟨rfl, rfl, rfl⟩
    by_cases h1 : scopeN a = 0
    · by_cases h2 : scopeN b = 0
      · have h3 : scopeN c ≠ 0 := fun h3 => h ⟨h1, h2, h3⟩
        exact .inr (.inr ⟨by rw [h1]; rfl, by rw [h2]; rfl, _, errV_not h3⟩)
      · exact .inr (.inl ⟨by rw [h1]; rfl, _, errV_not h2⟩)
    · exact .inl ⟨_, errV_not h1⟩
  obtain hk := key _ _ _ ⟨rfl, rfl, rfl⟩
  clear key h
  generalize errV (scopeN a) = x at *
  generalize errV (scopeN b) = y at *
  generalize errV (scopeN c) = z at *
  rcases hk with ⟨n, rfl⟩ | ⟨rfl, n, rfl⟩ | ⟨rfl, rfl, n, rfl⟩
  all_goals
    go_enter Tryd.func3, Tryd.ntmps3
    go_wp2_with
      (go_at_call 4; refine HN.out.mono ?_; rintro e w0 ⟨rfl, hb⟩
       have HB := Lib.hid hb
       have HM1 := Lib.hid (HM.out.below' hb)
       clear hb)
    go_at_call 5
    refine (H1.out _ HM1.out).mono ?_
    rintro e w1 ⟨rfl, hb⟩
    have HB1 := Lib.hid (HB.out.trans (hb.mono HB.out.size))
    have HM2 := Lib.hid (HM1.out.below' hb)
    clear hb
    go_wp2_with fail
    go_at_call 5
    refine (H2.out _ HM2.out).mono ?_
    rintro e w2 ⟨rfl, hb⟩
    have HB2 := Lib.hid (HB1.out.trans (hb.mono HB1.out.size))
    have HM3 := Lib.hid (HM2.out.below' hb)
    clear hb
    go_wp2_with fail
    go_at_call 5
    refine (H3.out _ HM3.out).mono ?_
    rintro e w3 ⟨rfl, hb⟩
    have HB3 := Lib.hid (HB2.out.trans (hb.mono HB2.out.size))
    clear hb
    go_wp2_with fail
    go_ret
    exact ⟨rfl, HB3.out⟩

theorem ret_b {x : Bool} (h : x = true) : Ending.returned (.bool x) = .returned (.bool true) := by rw [h]
def agree (ab ba bc ac p : Bool) : Bool := (!ab || !bc || ac) && ((ab && ba) == p)
set_option maxHeartbeats 4000000 in
set_option maxRecDepth 100000 in
theorem order_steps (A B C X Y Z : ByteArray) (ab ba bc ac p : Bool) (W : World) (hs : A.size + B.size + C.size ≤ 300) (hm : MaxL W) (hag : agree ab ba bc ac p = true) (hp : (X.toList == Y.toList) = p)
    (h1 : ∀ w, MaxL w → Calls Tryd.prog 5 #[.string A] w fun e w' => e = .returned (.tuple #[.string X, .nilIface]) ∧ Below w.heap.size w w')
    (h2 : ∀ w, MaxL w → Calls Tryd.prog 5 #[.string B] w fun e w' => e = .returned (.tuple #[.string Y, .nilIface]) ∧ Below w.heap.size w w')
    (h3 : ∀ w, MaxL w → Calls Tryd.prog 5 #[.string C] w fun e w' => e = .returned (.tuple #[.string Z, .nilIface]) ∧ Below w.heap.size w w')
    (k1 : ∀ w, MaxL w → Calls Tryd.prog 6 #[.string A, .string X] w fun e w' => e = .returned (.tuple #[.bool true, .nilIface]) ∧ Below w.heap.size w w')
    (k2 : ∀ w, MaxL w → Calls Tryd.prog 6 #[.string A, .string B] w fun e w' => e = .returned (.tuple #[.bool ab, .nilIface]) ∧ Below w.heap.size w w')
    (k3 : ∀ w, MaxL w → Calls Tryd.prog 6 #[.string B, .string A] w fun e w' => e = .returned (.tuple #[.bool ba, .nilIface]) ∧ Below w.heap.size w w')
    (k4 : ∀ w, MaxL w → Calls Tryd.prog 6 #[.string B, .string C] w fun e w' => e = .returned (.tuple #[.bool bc, .nilIface]) ∧ Below w.heap.size w w')
    (k5 : ∀ w, MaxL w → Calls Tryd.prog 6 #[.string A, .string C] w fun e w' => e = .returned (.tuple #[.bool ac, .nilIface]) ∧ Below w.heap.size w w')
    (k6 : ∀ w, MaxL w → Calls Tryd.prog 5 #[.string X] w fun e w' => e = .returned (.tuple #[.string X, .nilIface]) ∧ Below w.heap.size w w') :
    Calls Tryd.prog 3 #[.string A, .string B, .string C] W fun e w' => e = .returned (.bool true) ∧ Below W.heap.size W w' := by
  have HN := Lib.hid (narrow_yes W hm)
  have HM := Lib.hid hm
  have H1 := Lib.hid h1
  have H2 := Lib.hid h2
  have H3 := Lib.hid h3
  have K1 := Lib.hid k1
  have K2 := Lib.hid k2
  have K3 := Lib.hid k3
  have K4 := Lib.hid k4
  have K5 := Lib.hid k5
  have K6 := Lib.hid k6
  have HP := Lib.hid hp
  have HAG := Lib.hid hag
  clear hm h1 h2 h3 k1 k2 k3 k4 k5 k6 hp hag
  go_enter Tryd.func3, Tryd.ntmps3
  go_wp2_with
    (go_at_call 4; refine HN.out.mono ?_; rintro e w0 ⟨rfl, hb⟩
     have HB0 := Lib.hid hb
     have HM0 := Lib.hid (HM.out.below' hb)
     clear hb)
  go_at_call 5
  refine (H1.out _ HM0.out).mono ?_
  rintro e w1 ⟨rfl, hb⟩
  have HB1 := Lib.hid (HB0.out.trans (hb.mono HB0.out.size))
  have HM1 := Lib.hid (HM0.out.below' hb)
  clear hb
  go_wp2_with fail
  go_at_call 5
  refine (H2.out _ HM1.out).mono ?_
  rintro e w2 ⟨rfl, hb⟩
  have HB2 := Lib.hid (HB1.out.trans (hb.mono HB1.out.size))
  have HM2 := Lib.hid (HM1.out.below' hb)
  clear hb
  go_wp2_with fail
  go_at_call 5
  refine (H3.out _ HM2.out).mono ?_
  rintro e w3 ⟨rfl, hb⟩
  have HB3 := Lib.hid (HB2.out.trans (hb.mono HB2.out.size))
  have HM3 := Lib.hid (HM2.out.below' hb)
  clear hb
  go_wp2_with fail
  go_at_call 6
  refine (K1.out _ HM3.out).mono ?_
  rintro e w4 ⟨rfl, hb⟩
  have HB4 := Lib.hid (HB3.out.trans (hb.mono HB3.out.size))
  have HM4 := Lib.hid (HM3.out.below' hb)
  clear hb
  go_wp2_with fail
  go_at_call 6
  refine (K2.out _ HM4.out).mono ?_
  rintro e w5 ⟨rfl, hb⟩
  have HB5 := Lib.hid (HB4.out.trans (hb.mono HB4.out.size))
  have HM5 := Lib.hid (HM4.out.below' hb)
  clear hb
  go_wp2_with fail
  go_at_call 6
  refine (K3.out _ HM5.out).mono ?_
  rintro e w6 ⟨rfl, hb⟩
  have HB6 := Lib.hid (HB5.out.trans (hb.mono HB5.out.size))
  have HM6 := Lib.hid (HM5.out.below' hb)
  clear hb
  go_wp2_with fail
  go_at_call 6
  refine (K4.out _ HM6.out).mono ?_
  rintro e w7 ⟨rfl, hb⟩
  have HB7 := Lib.hid (HB6.out.trans (hb.mono HB6.out.size))
  have HM7 := Lib.hid (HM6.out.below' hb)
  clear hb
  go_wp2_with fail
  go_at_call 6
  refine (K5.out _ HM7.out).mono ?_
  rintro e w8 ⟨rfl, hb⟩
  have HB8 := Lib.hid (HB7.out.trans (hb.mono HB7.out.size))
  have HM8 := Lib.hid (HM7.out.below' hb)
  clear hb
  go_wp2_with fail
  go_at_call 5
  refine (K6.out _ HM8.out).mono ?_
  rintro e w9 ⟨rfl, hb⟩
  have HB9 := Lib.hid (HB8.out.trans (hb.mono HB8.out.size))
  have HM9 := Lib.hid (HM8.out.below' hb)
  clear hb
  go_wp2_with fail
  all_goals
    go_ret
    refine ⟨ret_b ?_, HB9.out⟩
    have hg := HAG.out
    unfold agree at hg
    rw [← HP.out] at hg
    revert hg
    generalize (X.toList == Y.toList) = q
    intro hg
    cases q <;> cases ba <;> simp_all

theorem order_good (a b c : List UInt8) (W : World) (hs : a.length + b.length + c.length ≤ 300) (hm : MaxL W) (h : scopeN a = 0 ∧ scopeN b = 0 ∧ scopeN c = 0) :
    Calls Tryd.prog 3 #[.string (txt a), .string (txt b), .string (txt c)] W fun e w' => e = .returned (.bool true) ∧ Below W.heap.size W w' := by
  obtain ⟨h1, h2, h3⟩ := h
  have law := order_law a b c
  have hl := (scope_least a).1
  have hla := leastL_len a
  have e0 : ∀ {x y : List UInt8}, scopeN x = 0 → scopeN y = 0 → errV (withN x y) = .nilIface := fun hx hy => by rw [withN_zero hx hy]; rfl
  refine order_steps (txt a) (txt b) (txt c) (txt (leastL a)) (txt (leastL b)) (txt (leastL c)) (withinB a b) (withinB b a) (withinB b c) (withinB a c) ((txt (leastL a)).toList == (txt (leastL b)).toList) W
    (by rw [txt_size, txt_size, txt_size]; exact hs) hm ?_ rfl ?_ ?_ ?_ ?_ ?_ ?_ ?_ ?_ ?_
  · rw [toList_txt, toList_txt]
    have l3 := law.2.2.1
    have l4 := law.2.2.2
    have l5 : ((withinB a b && withinB b a) == (leastL a == leastL b)) = true := by
      rw [beq_iff_eq, Bool.eq_iff_iff, Bool.and_eq_true, l4, beq_iff_eq]
    unfold agree
    rw [l5]
    cases h5 : withinB a b <;> cases h6 : withinB b c <;> simp
    exact l3 h5 h6
  · intro w hw
    have := scope_least_at a w (by omega) hw
    rwa [h1] at this
  · intro w hw
    have := scope_least_at b w (by omega) hw
    rwa [h2] at this
  · intro w hw
    have := scope_least_at c w (by omega) hw
    rwa [h3] at this
  · intro w hw
    have := scope_within_at a (leastL a) w (by omega) (by omega) hw
    rwa [withB_zero h1 hl, law.1, e0 h1 hl] at this
  · intro w hw
    have := scope_within_at a b w (by omega) (by omega) hw
    rwa [withB_zero h1 h2, e0 h1 h2] at this
  · intro w hw
    have := scope_within_at b a w (by omega) (by omega) hw
    rwa [withB_zero h2 h1, e0 h2 h1] at this
  · intro w hw
    have := scope_within_at b c w (by omega) (by omega) hw
    rwa [withB_zero h2 h3, e0 h2 h3] at this
  · intro w hw
    have := scope_within_at a c w (by omega) (by omega) hw
    rwa [withB_zero h1 h3, e0 h1 h3] at this
  · intro w hw
    have := scope_least_at (leastL a) w (by omega) hw
    rwa [law.2.1, hl] at this

theorem order_long (a b c : ByteArray) (W : World) (hs : 300 < a.size + b.size + c.size) (ha : a.size ≤ 140737488355328) (hb : b.size ≤ 140737488355328) (hc : c.size ≤ 140737488355328) :
    Calls Tryd.prog 3 #[.string a, .string b, .string c] W fun e w' => e = .returned (.bool true) ∧ Below W.heap.size W w' := by
  go_enter Tryd.func3, Tryd.ntmps3
  go_wp2_with fail
  go_ret
  exact ⟨rfl, Below.refl _ _⟩

theorem order_walk (a b c : ByteArray) (W : World) (ha : a.size ≤ 140737488355328) (hb : b.size ≤ 140737488355328) (hc : c.size ≤ 140737488355328) (hm : MaxL W) :
    Calls Tryd.prog 3 #[.string a, .string b, .string c] W fun e w' => e = .returned (.bool true) ∧ Below W.heap.size W w' := by
  by_cases hs : a.size + b.size + c.size ≤ 300
  · rw [← txt_data a, ← txt_data b, ← txt_data c]
    have hs' : a.data.toList.length + b.data.toList.length + c.data.toList.length ≤ 300 := by rw [size_data, size_data, size_data]; exact hs
    by_cases h : scopeN a.data.toList = 0 ∧ scopeN b.data.toList = 0 ∧ scopeN c.data.toList = 0
    · exact order_good _ _ _ W hs' hm h
    · exact order_bad _ _ _ W hs' hm h
  · exact order_long a b c W (by omega) ha hb hc
end Go.Proofs.YteppafikdpdeaaaDoor
