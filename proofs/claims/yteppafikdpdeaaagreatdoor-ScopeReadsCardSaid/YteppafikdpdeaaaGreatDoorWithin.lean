/-
  scope.Within: whether all words of a scope are in another one.
-/
import Derived.Test.YteppafikdpdeaaaGreatDoorScope
import Derived.Sort.Walk0
namespace Go.Proofs.YteppafikdpdeaaaGreatDoor
open Go.RowKit Go.Sort

/-- is the t-th word below x? -/
def lessAt (L : List (List UInt8)) (x : List UInt8) (t : Nat) : Bool := Op.bytesLess (txt (L.getD t [])).toList (txt x).toList
theorem lessAt_eq (L : List (List UInt8)) (x : List UInt8) (t : Nat) : lessAt L x t = decide (L.getD t [] < x) := by
  unfold lessAt
  rw [toList_txt, toList_txt, Go.Proofs.bytesLess_eq]
theorem up_at {L : List (List UInt8)} (h : Up L) {i j : Nat} (hij : i ≤ j) (hj : j < L.length) : L.getD i [] ≤ L.getD j [] := by
  rcases Nat.eq_or_lt_of_le hij with rfl | hlt
  · exact List.le_refl _
  · have h1 := List.pairwise_iff_getElem.1 h i j (by omega) hj hlt
    have h2 : leW L[i] L[j] = true := h1.1
    simp only [leW, decide_eq_true_eq] at h2
    simpa [List.getD, hj, show i < L.length by omega] using h2
/-- what the halving finds in words that are sorted -/
theorem search_up {L : List (List UInt8)} (h : Up L) (x : List UInt8) :
    decide (Lib.bsGo (lessAt L x) L.length 0 L.length < L.length ∧ txt (L.getD (Lib.bsGo (lessAt L x) L.length 0 L.length) []) = txt x) = L.contains x := by
  obtain ⟨k, hk, h1, h2⟩ : ∃ k, k ≤ L.length ∧ (∀ t, t < k → lessAt L x t = true) ∧ (∀ t, k ≤ t → t < L.length → lessAt L x t = false) := by
    have key : ∀ n, n ≤ L.length → ∃ k, k ≤ n ∧ (∀ t, t < k → lessAt L x t = true) ∧ (∀ t, k ≤ t → t < n → lessAt L x t = false) := by
      intro n
      induction n with
      | zero => exact fun _ => ⟨0, Nat.le_refl _, fun t ht => absurd ht (Nat.not_lt_zero _), fun t _ ht => absurd ht (Nat.not_lt_zero _)⟩
      | succ n ih =>
        intro hn
        obtain ⟨k, hk, a, b⟩ := ih (by omega)
        by_cases hl : lessAt L x n = true
        · refine ⟨n + 1, Nat.le_refl _, fun t ht => ?_, fun t h3 h4 => by omega⟩
          rw [lessAt_eq, decide_eq_true_eq] at hl ⊢
          exact List.lt_of_le_of_lt (up_at h (by omega) (by omega)) hl
        · refine ⟨k, by omega, a, fun t h3 h4 => ?_⟩
          by_cases e : t = n
          · subst e; simpa using hl
          · exact b t h3 (by omega)
    exact key _ (Nat.le_refl _)
  have hs : Lib.bsGo (lessAt L x) L.length 0 L.length = k := by
    have hg : ∀ (f lo hi : Nat), hi - lo ≤ f → lo ≤ k → k ≤ hi → hi ≤ L.length → Lib.bsGo (lessAt L x) f lo hi = k := by
      intro f
      induction f with
      | zero => intro lo hi hf a b c; simp [Lib.bsGo]; omega
      | succ f ih =>
        intro lo hi hf a b c
        unfold Lib.bsGo
        by_cases hlt : lo < hi
        · rw [if_pos hlt]
          by_cases hm : (lo + hi) / 2 < k
          · rw [h1 _ hm, if_pos rfl]; exact ih _ _ (by omega) (by omega) b c
          · rw [h2 _ (by omega) (by omega)]; exact ih _ _ (by omega) a (by omega) (by omega)
        · rw [if_neg hlt]; omega
    exact hg _ _ _ (by omega) (Nat.zero_le _) hk (Nat.le_refl _)
  rw [hs, Bool.eq_iff_iff, decide_eq_true_eq, List.contains_iff_mem]
  constructor
  · rintro ⟨hlt, e⟩
    have := txt_inj e
    rw [← this]
    simp [List.getD, hlt]
  · intro hm
    obtain ⟨t, ht, rfl⟩ := List.mem_iff_getElem.1 hm
    have hkt : k ≤ t := by
      rcases Nat.lt_or_ge t k with h3 | h3
      · have := h1 t h3
        rw [lessAt_eq, decide_eq_true_eq] at this
        simp [List.getD, ht] at this
        exact absurd this (List.lt_irrefl _)
      · exact h3
    have hklt : k < L.length := by omega
    refine ⟨hklt, ?_⟩
    have a := up_at h hkt ht
    have b := h2 k (Nat.le_refl _) hklt
    rw [lessAt_eq, decide_eq_false_iff_not] at b
    have e1 : L.getD t [] = L[t] := by simp [List.getD, ht]
    rw [e1] at a
    rw [List.le_antisymm a (List.not_lt.1 b)]

theorem search_row {B : Nat} {v : Value} {L : List (List UInt8)} {w : World} (h : RowOrNil w B v L) (hu : Up L) (hL : L.length ≤ 1000000) (x : List UInt8) :
    Calls Tryz.prog 19 #[v, .string (txt x)] w fun e w' => (∃ i : Nat, e = .returned (.tuple #[.int .i64 i, .bool (L.contains x)])) ∧ ∃ q, w' = w.drewN q := by
  rcases h with ⟨rfl, rfl⟩ | h
  · refine (Any2.slices_BinarySearch_string_empty Tryz.bs26 none 0 (txt x) w).mono ?_
    rintro e w' ⟨rfl, rfl⟩
    exact ⟨⟨0, rfl⟩, 0, rfl⟩
  · obtain ⟨g, cap, rfl, hg, hlt, hn, hm, hH⟩ := h.parts
    refine (Any2.slices_BinarySearch_string Tryz.bs26 g 0 L.length cap (fun t => txt (L.getD t [])) (txt x) w (by omega) (fun j hj => by rw [Nat.zero_add]; exact h.cell j hj)).mono ?_
    rintro e w' ⟨rfl, q, rfl⟩
    refine ⟨⟨Lib.bsGo (lessAt L x) L.length 0 L.length, ?_⟩, q, rfl⟩
    rw [← search_up hu x]
    rfl

def WithRel (a b : List UInt8) (B1 B2 B : Nat) (W : World) (v u : Value) (i : Value) (wr : World) : Prop :=
  ∃ k : Nat, k ≤ (scopeL a).length ∧ i = .int .i64 k ∧ RowOrNil wr B1 v (scopeL a) ∧ RowOrNil wr B2 u (scopeL b) ∧ Below B W wr ∧ ∀ j, j < k → (scopeL b).contains ((scopeL a).getD j []) = true
theorem RowOrNil.below {w w' : World} {B : Nat} {v : Value} {L : List (List UInt8)} (h : RowOrNil w B v L) (hb : Below w.heap.size w w') : RowOrNil w' B v L := h.imp id fun h => h.below hb
theorem RowOrNil.drewN {w : World} {B : Nat} {v : Value} {L : List (List UInt8)} (h : RowOrNil w B v L) (n : Nat) : RowOrNil (w.drewN n) B v L := h
theorem RowOrNil.slice {w : World} {B : Nat} {v : Value} {L : List (List UInt8)} (h : RowOrNil w B v L) : ∃ A cap, v = .slice A L.length cap ∧ ∀ j, j < L.length → ∃ g, A = some ⟨g, 0, none⟩ ∧ w.cell? ⟨g, j, none⟩ = some (.string (txt (L.getD j []))) := by
  rcases h with ⟨rfl, rfl⟩ | h
  · exact ⟨none, 0, rfl, fun j hj => absurd hj (Nat.not_lt_zero _)⟩
  · obtain ⟨g, cap, rfl, _⟩ := id h
    exact ⟨_, cap, rfl, fun j hj => ⟨g, rfl, h.cell j hj⟩⟩
def withN (a b : List UInt8) : Int := if scopeN a = 0 then scopeN b else scopeN a
def withB (a b : List UInt8) : Bool := decide (withN a b = 0) && withinB a b
theorem withB_bad {a b : List UInt8} (h : withN a b ≠ 0) : withB a b = false := by simp [withB, h]
theorem withN_1 {a b : List UInt8} (h : scopeN a ≠ 0) : withN a b = scopeN a := by simp [withN, h]
theorem withN_2 {a b : List UInt8} (h : scopeN a = 0) : withN a b = scopeN b := by simp [withN, h]
theorem withB_no {a b : List UInt8} {k : Nat} (hk : k < (scopeL a).length) (h : (scopeL b).contains ((scopeL a).getD k []) = false) : withB a b = false := by
  have : withinB a b = false := by
    unfold withinB
    rw [List.all_eq_false]
    exact ⟨(scopeL a)[k], List.getElem_mem hk, by simpa [List.getD, hk] using h⟩
  simp [withB, this]
theorem withB_yes {a b : List UInt8} (h0 : withN a b = 0) (h : ∀ j, j < (scopeL a).length → (scopeL b).contains ((scopeL a).getD j []) = true) : withB a b = true := by
  have : withinB a b = true := by
    unfold withinB
    rw [List.all_eq_true]
    intro x hx
    obtain ⟨j, hj, rfl⟩ := List.mem_iff_getElem.1 hx
    have := h j hj
    simpa [List.getD, hj] using this
  simp [withB, this, h0]

set_option maxHeartbeats 4000000 in
theorem scope_within (a b : ByteArray) (W : World) (ha : a.size ≤ 1000) (hb : b.size ≤ 1000) (hm : MaxL W) :
    Calls Tryz.prog 9 #[.string a, .string b] W fun e w' => e = .returned (.tuple #[.bool (withB a.data.toList b.data.toList), errV (withN a.data.toList b.data.toList)]) ∧ Below W.heap.size W w' := by
  have H1 := Lib.hid (scope_read a W ha hm)
  have HM := Lib.hid hm
  have HB := Lib.hid (fun w (h : MaxL w) => scope_read b w hb h)
  clear hm
  by_cases h0 : scopeN a.data.toList = 0
  · have E := Lib.hid (show errV (scopeN a.data.toList) = .nilIface by rw [h0]; rfl)
    have W2 := Lib.hid (withN_2 (b := b.data.toList) h0)
    clear h0
    by_cases h1 : scopeN b.data.toList = 0
    · have E2 := Lib.hid (show errV (scopeN b.data.toList) = .nilIface by rw [h1]; rfl)
      have W3 := Lib.hid (show withN a.data.toList b.data.toList = 0 by rw [W2.out, h1])
      clear h1
      go_enter Tryz.func9, Tryz.ntmps9
      go_wp2_with fail
      go_at_call 5
      refine H1.out.mono ?_
      rintro e w1 ⟨v, rfl, hr1, hb1⟩
      rw [E.out]
      have HR1 := Lib.hid hr1
      have HB1 := Lib.hid hb1
      clear hr1 hb1
      go_wp2_with fail
      go_at_call 5
      refine (HB.out _ (HM.out.below' HB1.out)).mono ?_
      rintro e w2 ⟨u, rfl, hr2, hb2⟩
      rw [E2.out]
      have HR2 := Lib.hid (RowOrNil.below HR1.out hb2)
      have HR3 := Lib.hid hr2
      have HB2 := Lib.hid (HB1.out.trans (hb2.mono HB1.out.size))
      have hl1 := (scopeL_small a.data.toList).1
      have hl2 := (scopeL_small b.data.toList).1
      obtain ⟨A, cap, ev, _⟩ := HR2.out.slice
      subst ev
      clear hr2 hb2
      go_wp2_with fail
      go_loopw [31] (fun i wr => WithRel a.data.toList b.data.toList W.heap.size w1.heap.size W.heap.size W (.slice A (scopeL a.data.toList).length cap) u i wr) (fun i _ => (scopeL a.data.toList).length - (intOf i).toNat)
      case atStart => exact ⟨0, Nat.zero_le _, rfl, HR2.out, HR3.out, HB2.out, fun j hj => absurd hj (Nat.not_lt_zero _)⟩
      case round =>
        clear HR1 HB1 HR2 HR3 HB2
        obtain ⟨k, hk, rfl, hr1, hr2, hb, hno⟩ := hrel
        have HR1 := Lib.hid hr1
        have HS := Lib.hid (fun x => search_row hr2 (scopeL_up _) (by omega) x)
        have HR2 := Lib.hid hr2
        have HB := Lib.hid hb
        have HNO := Lib.hid hno
        clear hr2 hb hno
        by_cases hlt : k < (scopeL a.data.toList).length
        · obtain ⟨A', cap', ev, hcell⟩ := hr1.slice
          injection ev with ea _ ec
          subst ea; subst ec
          obtain ⟨g, rfl, hc⟩ := hcell k hlt
          clear hcell hr1
          generalize hx : (scopeL a.data.toList).getD k [] = x at *
          by_cases hin : (scopeL b.data.toList).contains x = true
          · have HX := Lib.hid hx
            have HIN := Lib.hid hin
            clear hx hin
            go_wp2_with
              (go_at_call 19; refine (HS.out x).mono ?_; rintro e w3 ⟨⟨i, rfl⟩, q, rfl⟩
               rw [HIN.out])
            go_roundw
            case rel =>
              refine ⟨k + 1, by omega, by go_num, RowOrNil.drewN HR1.out q, RowOrNil.drewN HR2.out q, below_drewN HB.out q, fun j hj => ?_⟩
              by_cases e : j = k
              · subst e
                rw [HX.out]
                exact HIN.out
              · exact HNO.out j (by omega)
            case measure => simp [intOf]; omega
          · have hin' : (scopeL b.data.toList).contains x = false := by simpa using hin
            have HW := Lib.hid (withB_no hlt (by rw [hx]; exact hin'))
            have HIN := Lib.hid hin'
            clear hx hin hin'
            go_wp2_with
              (go_at_call 19; refine (HS.out x).mono ?_; rintro e w3 ⟨⟨i, rfl⟩, q, rfl⟩
               rw [HIN.out])
            go_ret2
            exact ⟨by rw [HW.out, W3.out]; rfl, below_drewN HB.out q⟩
        · have HW := Lib.hid (withB_yes W3.out fun j hj => HNO.out j (by omega))
          clear hr1
          go_wp2_with fail
          go_ret2
          exact ⟨by rw [HW.out, W3.out]; rfl, HB.out⟩
    · have E2 := Lib.hid (errV_not h1)
      have W3 := Lib.hid (withB_bad (a := a.data.toList) (b := b.data.toList) (by rw [W2.out]; exact h1))
      clear h1
      go_enter Tryz.func9, Tryz.ntmps9
      go_wp2_with fail
      go_at_call 5
      refine H1.out.mono ?_
      rintro e w1 ⟨v, rfl, hr1, hb1⟩
      rw [E.out]
      have HB1 := Lib.hid hb1
      clear hr1 hb1
      go_wp2_with fail
      go_at_call 5
      refine (HB.out _ (HM.out.below' HB1.out)).mono ?_
      rintro e w2 ⟨u, rfl, hr2, hb2⟩
      rw [E2.out]
      have HB2 := Lib.hid (HB1.out.trans (hb2.mono HB1.out.size))
      clear hr2 hb2
      go_wp2_with fail
      go_ret2
      exact ⟨by rw [W3.out, W2.out, E2.out]; rfl, HB2.out⟩
  · have E := Lib.hid (errV_not h0)
    have W2 := Lib.hid (withN_1 (b := b.data.toList) h0)
    have W3 := Lib.hid (withB_bad (a := a.data.toList) (b := b.data.toList) (by rw [W2.out]; exact h0))
    clear h0
    go_enter Tryz.func9, Tryz.ntmps9
    go_wp2_with fail
    go_at_call 5
    refine H1.out.mono ?_
    rintro e w1 ⟨v, rfl, hr1, hb1⟩
    rw [E.out]
    have HB1 := Lib.hid hb1
    clear hr1 hb1
    go_wp2_with fail
    go_ret2
    exact ⟨by rw [W3.out, W2.out, E.out]; rfl, HB1.out⟩
end Go.Proofs.YteppafikdpdeaaaGreatDoor
