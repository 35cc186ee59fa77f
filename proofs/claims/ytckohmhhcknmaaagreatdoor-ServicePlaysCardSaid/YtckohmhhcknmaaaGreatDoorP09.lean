/-
  scope.Read, Least, Within: what they give is the plain law's.
-/
import Derived.Test.YtckohmhhcknmaaaGreatDoorP08
import Derived.Sort.Walk0
import Derived.Test.YtckohmhhcknmaaaGreatDoorP04
import Derived.Test.YtckohmhhcknmaaaGreatDoorP05
import Derived.Lib.IndexMore
import Derived.Lib.LastIndexByte
import Derived.BigQuiet
import Derived.Deep.RegionHeld3
import Derived.Lib.IndexBytes
import Derived.Test.YtckohmhhcknmaaaGreatDoorP03
import Derived.Test.YtckohmhhcknmaaaGreatDoorP01
import Derived.Maps.AppendAt
import Derived.Deep.Onto
import Derived.Lib.SliceRun
namespace Go.Proofs.YtckohmhhcknmaaaGreatDoor
open Go.RowKit Go.Sort

def letters : ByteArray := ⟨#[97, 98, 99, 100, 101, 102, 103, 104, 105, 106, 107, 108, 109, 110, 111, 112, 113, 114, 115, 116, 117, 118, 119, 120, 121, 122]⟩
theorem letters_has (c : UInt8) : letters.data.toList.contains c = (decide (97 ≤ c.toNat) && decide (c.toNat ≤ 122)) := by
  have h : ∀ n : Fin 256, letters.data.toList.contains (UInt8.ofFin n) = (decide (97 ≤ (UInt8.ofFin n).toNat) && decide ((UInt8.ofFin n).toNat ≤ 122)) := of_decide_eq_true (by kernel_rfl)
  exact h c.toFin
theorem letters_all (l : List UInt8) : l.all (letters.data.toList.contains ·) = lowB l := by
  unfold lowB
  congr 1
  funext c
  exact letters_has c
theorem trim_low (x : ByteArray) (w : World) (hx : x.size ≤ 1000000) (h : lowB x.data.toList = true) :
    Calls Tryz.prog 46 #[.string x, .string ⟨#[97, 98, 99, 100, 101, 102, 103, 104, 105, 106, 107, 108, 109, 110, 111, 112, 113, 114, 115, 116, 117, 118, 119, 120, 121, 122]⟩] w fun e w' => e = .returned (.string ⟨#[]⟩) ∧ Below w.heap.size w w' :=
  (trim_set letters x w hx (by decide) (ascii_of_all (by decide))).1 (by rw [letters_all]; exact h)
theorem trim_high (x : ByteArray) (w : World) (hx : x.size ≤ 1000000) (h : lowB x.data.toList = false) :
    Calls Tryz.prog 46 #[.string x, .string ⟨#[97, 98, 99, 100, 101, 102, 103, 104, 105, 106, 107, 108, 109, 110, 111, 112, 113, 114, 115, 116, 117, 118, 119, 120, 121, 122]⟩] w fun e w' => NotEmpty e ∧ Below w.heap.size w w' :=
  (trim_set letters x w hx (by decide) (ascii_of_all (by decide))).2 (by rw [letters_all]; exact h)

def ScopeGot (s : ByteArray) (W : World) (e : Ending) (w' : World) : Prop :=
  ∃ v, e = .returned (.tuple #[v, errV (scopeN s.data.toList)]) ∧ RowOrNil w' W.heap.size v (scopeL s.data.toList) ∧ Below W.heap.size W w'

def WordsRel (B : Nat) (W : World) (v : Value) (L : List (List UInt8)) (i : Value) (wr : World) : Prop :=
  ∃ k : Nat, k ≤ L.length ∧ i = .int .i64 k ∧ Row wr B v L ∧ Below B W wr ∧ ∀ j, j < k → okW (L.getD j []) = true

theorem all_of_none {L : List (List UInt8)} (h : ∀ j, j < L.length → okW (L.getD j []) = true) : L.all okW = true := by
  rw [List.all_eq_true]
  intro x hx
  obtain ⟨j, hj, rfl⟩ := List.mem_iff_getElem.1 hx
  have := h j hj
  simpa [List.getD, hj] using this
theorem not_all_of_at {L : List (List UInt8)} {k : Nat} (hk : k < L.length) (h : okW (L.getD k []) = false) : L.all okW = false := by
  rw [List.all_eq_false]
  refine ⟨L[k], List.getElem_mem hk, ?_⟩
  simpa [List.getD, hk] using h
theorem scope_read_nil (w : World) : Calls Tryz.prog 77 #[.string ⟨#[]⟩] w (ScopeGot ⟨#[]⟩ w) := by
  go_enter Tryz.func77, Tryz.ntmps77
  go_wp2_with fail
  go_ret2
  exact ⟨_, rfl, .inl ⟨rfl, rfl⟩, Below.refl _ _⟩

set_option maxHeartbeats 4000000 in
theorem scope_read_some (s : ByteArray) (W : World) (hs : s.size ≤ 1000) (hm : MaxL W) (h0 : s.data.toList ≠ []) : Calls Tryz.prog 77 #[.string s] W (ScopeGot s W) := by
  have hemp : s.toList.isEmpty = false := by
    rw [← txt_data s, toList_txt]; simpa using h0
  have H0 := Lib.hid h0
  have hp := parts_len 43 s.data.toList
  rw [size_data] at hp
  have HSP := Lib.hid (split_row 43 s W.heap.size W (by omega) hm (Nat.le_refl _))
  clear h0 hm
  have HPS : Hid (∀ w ∈ parts 43 s.data.toList, w.length ≤ 1000) := Lib.hid (parts_word_len 43 _ _ (by rw [size_data]; exact hs))
  generalize hL : parts 43 s.data.toList = L at *
  have HL := Lib.hid hL
  clear hL
  go_enter Tryz.func77, Tryz.ntmps77
  go_wp2_with
    (go_at_call 93; refine HSP.out.mono ?_; rintro e w1 ⟨v, rfl, hr, hb⟩
     obtain ⟨g, cap, rfl, _⟩ := id hr
     have HR := Lib.hid hr
     have HB := Lib.hid hb
     clear hr hb)
  go_loopw [13] (fun i wr => WordsRel W.heap.size W (.slice (some ⟨g, 0, none⟩) L.length cap) L i wr) (fun i _ => L.length - (intOf i).toNat)
  case atStart => exact ⟨0, Nat.zero_le _, rfl, HR.out, HB.out, fun j hj => absurd hj (Nat.not_lt_zero _)⟩
  case round =>
    obtain ⟨k, hk, rfl, hr, hb, hno⟩ := hrel
    clear HR HB HSP hemp
    have HR := Lib.hid hr
    have HB := Lib.hid hb
    have HNO := Lib.hid hno
    clear hb hno
    by_cases hlt : k < L.length
    · have hc := hr.cell k hlt
      have hsz : (L.getD k []).length ≤ 1000 := by
        have := HPS.out (L[k]) (List.getElem_mem hlt)
        simpa [List.getD, hlt] using this
      clear hr
      generalize hx : L.getD k [] = x at *
      have HX := Lib.hid hx
      clear hx
      by_cases hne : x = []
      · subst hne
        rw [show txt [] = (⟨#[]⟩ : ByteArray) from rfl] at hc
        go_wp2_with fail
        go_ret2
        have h3 : scopeN s.data.toList = 3 := scopeN_form H0.out (by rw [HL.out]; exact not_all_of_at hlt (by rw [HX.out]; rfl))
        exact ⟨_, by rw [h3]; rfl, .inl ⟨rfl, scopeL_bad (by rw [h3]; decide)⟩, HB.out⟩
      · have hemp : (txt x).toList.isEmpty = false := by rw [toList_txt]; simpa using hne
        have htx : (txt x).data.toList = x := data_txt x
        have hts : (txt x).size ≤ 1000000 := by rw [txt_size]; omega
        have HTX := Lib.hid htx
        clear htx
        generalize txt x = y at *
        by_cases hlow : lowB x = true
        · have HT := Lib.hid (fun w => trim_low y w hts (by rw [HTX.out]; exact hlow))
          go_wp2_with
            (go_at_call 46; refine (HT.out _).mono ?_; rintro e w2 ⟨rfl, hb2⟩
             have HR2 := Lib.hid (HR.out.below hb2)
             have HB2 := Lib.hid (HB.out.trans (hb2.mono HB.out.size))
             clear hb2)
          go_roundw
          case rel =>
            refine ⟨k + 1, by omega, by go_num, HR2.out, HB2.out, fun j hj => ?_⟩
            by_cases e : j = k
            · subst e
              rw [HX.out]
              simp [okW, hlow, hne]
            · exact HNO.out j (by omega)
          case measure => simp [intOf]; omega
        · have hlow' : lowB x = false := by simpa using hlow
          have HT := Lib.hid (fun w => trim_high y w hts (by rw [HTX.out]; exact hlow'))
          go_wp2_with
            (go_at_call 46; refine (HT.out _).mono ?_; rintro e w2 ⟨⟨z, rfl, hz⟩, hb2⟩
             have HB2 := Lib.hid (HB.out.trans (hb2.mono HB.out.size))
             clear hb2)
          go_ret2
          have h3 : scopeN s.data.toList = 3 := scopeN_form H0.out (by rw [HL.out]; exact not_all_of_at hlt (by rw [HX.out]; simp [okW, hlow']))
          exact ⟨_, by rw [h3]; rfl, .inl ⟨rfl, scopeL_bad (by rw [h3]; decide)⟩, HB2.out⟩
    · have hall : (parts 43 s.data.toList).all okW = true := by rw [HL.out]; exact all_of_none fun j hj => HNO.out j (by omega)
      have HALL := Lib.hid hall
      clear hall hr
      have HS := Lib.hid (sort_row HR.out HB.out HB.out.size (by omega))
      go_wp2_with
        (first
        | (go_at_call 121; refine HS.out.mono ?_; rintro e w2 ⟨rfl, hr2, hb2⟩
           have HC := Lib.hid (compact_row hr2 hb2 (by rw [List.length_mergeSort]; omega))
           clear hr2 hb2)
        | (go_at_call 122; refine HC.out.mono ?_; rintro e w3 ⟨g3, cap3, rfl, hr3, hb3⟩
           rw [show Lib.compact (L.mergeSort leW) = uniq (parts 43 s.data.toList) by rw [HL.out]; rfl] at *
           have HR3 := Lib.hid hr3
           have HB3 := Lib.hid hb3
           have HCL := Lib.hid (contains_long _ g3 cap3 _ w3 hr3 (by have := compact_len (L.mergeSort leW); rw [List.length_mergeSort] at this; rw [HL.out]; exact Nat.le_trans this (by omega)))
           clear hr3 hb3)
        | (go_at_call 123; refine HCL.out.mono ?_; rintro e w4 ⟨rfl, q, rfl⟩))
      · have hor : (5 : Int) < ((uniq (parts 43 s.data.toList)).length : Int) ∨ (uniq (parts 43 s.data.toList)).any longB = true := by assumption
        have h4 : scopeN s.data.toList = 4 := scopeN_limit H0.out HALL.out (hor.elim (fun h => .inl (by omega)) .inr)
        go_ret2
        exact ⟨_, by rw [h4]; rfl, .inl ⟨rfl, scopeL_bad (by rw [h4]; decide)⟩, below_drewN HB3.out q⟩
      · have hand : ((uniq (parts 43 s.data.toList)).length : Int) ≤ 5 ∧ (uniq (parts 43 s.data.toList)).any longB = false := by assumption
        have h0 := scopeN_fine H0.out HALL.out (by omega) hand.2
        go_ret2
        exact ⟨_, by rw [h0.1]; rfl, .inr (by rw [h0.2]; exact HR3.out.drewN q), below_drewN HB3.out q⟩
      · have hgt : (5 : Int) < ((uniq (parts 43 s.data.toList)).length : Int) := by assumption
        have h4 : scopeN s.data.toList = 4 := scopeN_limit H0.out HALL.out (.inl (by omega))
        go_ret2
        exact ⟨_, by rw [h4]; rfl, .inl ⟨rfl, scopeL_bad (by rw [h4]; decide)⟩, HB3.out⟩

theorem scope_read (s : ByteArray) (W : World) (hs : s.size ≤ 1000) (hm : MaxL W) : Calls Tryz.prog 77 #[.string s] W (ScopeGot s W) := by
  by_cases h0 : s.data.toList = []
  · obtain rfl : s = ⟨#[]⟩ := by rw [← txt_data s, h0]; rfl
    exact scope_read_nil W
  · exact scope_read_some s W hs hm h0

theorem errV_not {n : Int} (h : n ≠ 0) : errV n = .iface 35 (.int .i64 n) := if_neg h
theorem leastL_bad {s : List UInt8} (h : scopeN s ≠ 0) : leastL s = [] := by unfold leastL; rw [scopeL_bad h]; rfl
/-- a text and an error -/
theorem scope_least_any (s : ByteArray) (W : World) (hs : s.size ≤ 1000) (hm : MaxL W) :
    Calls Tryz.prog 38 #[.string s] W fun e w' => e = .returned (.tuple #[.string (txt (leastL s.data.toList)), errV (scopeN s.data.toList)]) ∧ Below W.heap.size W w' := by
  have H := Lib.hid (scope_read s W hs hm)
  clear hm
  by_cases h0 : scopeN s.data.toList = 0
  · have E := Lib.hid (show errV (scopeN s.data.toList) = .nilIface by rw [h0]; rfl)
    clear h0
    go_enter Tryz.func38, Tryz.ntmps38
    go_wp2_with
      (first
      | (go_at_call 77; refine H.out.mono ?_; rintro e w1 ⟨v, rfl, hr, hb⟩
         rw [E.out]
         have HJ := Lib.hid (join_scope hr)
         have HB := Lib.hid hb
         clear hr hb)
      | (go_at_call 78; refine HJ.out.mono ?_; rintro e w2 ⟨rfl, hb⟩
         have HB2 := Lib.hid (HB.out.trans (hb.mono HB.out.size))
         clear hb))
    go_ret2
    exact ⟨by rw [E.out]; rfl, HB2.out⟩
  · have E := Lib.hid (errV_not h0)
    have L := Lib.hid (leastL_bad h0)
    clear h0
    go_enter Tryz.func38, Tryz.ntmps38
    go_wp2_with
      (go_at_call 77; refine H.out.mono ?_; rintro e w1 ⟨v, rfl, hr, hb⟩
       rw [E.out]
       have HB := Lib.hid hb
       clear hr hb)
    go_ret2
    exact ⟨by rw [E.out, L.out]; rfl, HB.out⟩
end Go.Proofs.YtckohmhhcknmaaaGreatDoor

/-
  scope.Within: whether all words of a scope are in another one.
-/
namespace Go.Proofs.YtckohmhhcknmaaaGreatDoor
open Go.RowKit Go.Sort

/-- is the t-th word below x? -/
def lessAt (L : List (List UInt8)) (x : List UInt8) (t : Nat) : Bool := Op.bytesLess (txt (L.getD t [])).toList (txt x).toList
theorem lessAt_eq (L : List (List UInt8)) (x : List UInt8) (t : Nat) : lessAt L x t = decide (L.getD t [] < x) := by
  unfold lessAt
  rw [toList_txt, toList_txt, Go.Proofs.bytesLess_eq]
theorem up_at {L : List (List UInt8)} (h : Up L) {i j : Nat} (hij : i ≤ j) (hj : j < L.length) : L.getD i [] ≤ L.getD j [] := by
  rcases Nat.eq_or_lt_of_le hij with rfl | hlt
  · exact List.le_refl _
  · have h1 := List.pairwise_iff_getElem.1 h i j (by omega) hj hlt
    have h2 : leW L[i] L[j] = true := h1.1
    simp only [leW, decide_eq_true_eq] at h2
    simpa [List.getD, hj, show i < L.length by omega] using h2
/-- what the halving finds in words that are sorted -/
theorem search_up {L : List (List UInt8)} (h : Up L) (x : List UInt8) :
    decide (Lib.bsGo (lessAt L x) L.length 0 L.length < L.length ∧ txt (L.getD (Lib.bsGo (lessAt L x) L.length 0 L.length) []) = txt x) = L.contains x := by
  obtain ⟨k, hk, h1, h2⟩ : ∃ k, k ≤ L.length ∧ (∀ t, t < k → lessAt L x t = true) ∧ (∀ t, k ≤ t → t < L.length → lessAt L x t = false) := by
    have key : ∀ n, n ≤ L.length → ∃ k, k ≤ n ∧ (∀ t, t < k → lessAt L x t = true) ∧ (∀ t, k ≤ t → t < n → lessAt L x t = false) := by
      intro n
      induction n with
      | zero => exact fun _ => ⟨0, Nat.le_refl _, fun t ht => absurd ht (Nat.not_lt_zero _), fun t _ ht => absurd ht (Nat.not_lt_zero _)⟩
      | succ n ih =>
        intro hn
        obtain ⟨k, hk, a, b⟩ := ih (by omega)
        by_cases hl : lessAt L x n = true
        · refine ⟨n + 1, Nat.le_refl _, fun t ht => ?_, fun t h3 h4 => by omega⟩
          rw [lessAt_eq, decide_eq_true_eq] at hl ⊢
          exact List.lt_of_le_of_lt (up_at h (by omega) (by omega)) hl
        · refine ⟨k, by omega, a, fun t h3 h4 => ?_⟩
          by_cases e : t = n
          · subst e; simpa using hl
          · exact b t h3 (by omega)
    exact key _ (Nat.le_refl _)
  have hs : Lib.bsGo (lessAt L x) L.length 0 L.length = k := by
    have hg : ∀ (f lo hi : Nat), hi - lo ≤ f → lo ≤ k → k ≤ hi → hi ≤ L.length → Lib.bsGo (lessAt L x) f lo hi = k := by
      intro f
      induction f with
      | zero => intro lo hi hf a b c; simp [Lib.bsGo]; omega
      | succ f ih =>
        intro lo hi hf a b c
        unfold Lib.bsGo
        by_cases hlt : lo < hi
        · rw [if_pos hlt]
          by_cases hm : (lo + hi) / 2 < k
          · rw [h1 _ hm, if_pos rfl]; exact ih _ _ (by omega) (by omega) b c
          · rw [h2 _ (by omega) (by omega)]; exact ih _ _ (by omega) a (by omega) (by omega)
        · rw [if_neg hlt]; omega
    exact hg _ _ _ (by omega) (Nat.zero_le _) hk (Nat.le_refl _)
  rw [hs, Bool.eq_iff_iff, decide_eq_true_eq, List.contains_iff_mem]
  constructor
  · rintro ⟨hlt, e⟩
    have := txt_inj e
    rw [← this]
    simp [List.getD, hlt]
  · intro hm
    obtain ⟨t, ht, rfl⟩ := List.mem_iff_getElem.1 hm
    have hkt : k ≤ t := by
      rcases Nat.lt_or_ge t k with h3 | h3
      · have := h1 t h3
        rw [lessAt_eq, decide_eq_true_eq] at this
        simp [List.getD, ht] at this
        exact absurd this (List.lt_irrefl _)
      · exact h3
    have hklt : k < L.length := by omega
    refine ⟨hklt, ?_⟩
    have a := up_at h hkt ht
    have b := h2 k (Nat.le_refl _) hklt
    rw [lessAt_eq, decide_eq_false_iff_not] at b
    have e1 : L.getD t [] = L[t] := by simp [List.getD, ht]
    rw [e1] at a
    rw [List.le_antisymm a (List.not_lt.1 b)]

theorem search_row {B : Nat} {v : Value} {L : List (List UInt8)} {w : World} (h : RowOrNil w B v L) (hu : Up L) (hL : L.length ≤ 1000000) (x : List UInt8) :
    Calls Tryz.prog 81 #[v, .string (txt x)] w fun e w' => (∃ i : Nat, e = .returned (.tuple #[.int .i64 i, .bool (L.contains x)])) ∧ ∃ q, w' = w.drewN q := by
  rcases h with ⟨rfl, rfl⟩ | h
  · refine (Any2.slices_BinarySearch_string_empty Tryz.bs26 none 0 (txt x) w).mono ?_
    rintro e w' ⟨rfl, rfl⟩
    exact ⟨⟨0, rfl⟩, 0, rfl⟩
  · obtain ⟨g, cap, rfl, hg, hlt, hn, hm, hH⟩ := h.parts
    refine (Any2.slices_BinarySearch_string Tryz.bs26 g 0 L.length cap (fun t => txt (L.getD t [])) (txt x) w (by omega) (fun j hj => by rw [Nat.zero_add]; exact h.cell j hj)).mono ?_
    rintro e w' ⟨rfl, q, rfl⟩
    refine ⟨⟨Lib.bsGo (lessAt L x) L.length 0 L.length, ?_⟩, q, rfl⟩
    rw [← search_up hu x]
    rfl

def WithRel (a b : List UInt8) (B1 B2 B : Nat) (W : World) (v u : Value) (i : Value) (wr : World) : Prop :=
  ∃ k : Nat, k ≤ (scopeL a).length ∧ i = .int .i64 k ∧ RowOrNil wr B1 v (scopeL a) ∧ RowOrNil wr B2 u (scopeL b) ∧ Below B W wr ∧ ∀ j, j < k → (scopeL b).contains ((scopeL a).getD j []) = true
theorem RowOrNil.below {w w' : World} {B : Nat} {v : Value} {L : List (List UInt8)} (h : RowOrNil w B v L) (hb : Below w.heap.size w w') : RowOrNil w' B v L := h.imp id fun h => h.below hb
theorem RowOrNil.drewN {w : World} {B : Nat} {v : Value} {L : List (List UInt8)} (h : RowOrNil w B v L) (n : Nat) : RowOrNil (w.drewN n) B v L := h
theorem RowOrNil.slice {w : World} {B : Nat} {v : Value} {L : List (List UInt8)} (h : RowOrNil w B v L) : ∃ A cap, v = .slice A L.length cap ∧ ∀ j, j < L.length → ∃ g, A = some ⟨g, 0, none⟩ ∧ w.cell? ⟨g, j, none⟩ = some (.string (txt (L.getD j []))) := by
  rcases h with ⟨rfl, rfl⟩ | h
  · exact ⟨none, 0, rfl, fun j hj => absurd hj (Nat.not_lt_zero _)⟩
  · obtain ⟨g, cap, rfl, _⟩ := id h
    exact ⟨_, cap, rfl, fun j hj => ⟨g, rfl, h.cell j hj⟩⟩
def withN (a b : List UInt8) : Int := if scopeN a = 0 then scopeN b else scopeN a
def withB (a b : List UInt8) : Bool := decide (withN a b = 0) && withinB a b
theorem withB_bad {a b : List UInt8} (h : withN a b ≠ 0) : withB a b = false := by simp [withB, h]
theorem withN_1 {a b : List UInt8} (h : scopeN a ≠ 0) : withN a b = scopeN a := by simp [withN, h]
theorem withN_2 {a b : List UInt8} (h : scopeN a = 0) : withN a b = scopeN b := by simp [withN, h]
theorem withB_no {a b : List UInt8} {k : Nat} (hk : k < (scopeL a).length) (h : (scopeL b).contains ((scopeL a).getD k []) = false) : withB a b = false := by
  have : withinB a b = false := by
    unfold withinB
    rw [List.all_eq_false]
    exact ⟨(scopeL a)[k], List.getElem_mem hk, by simpa [List.getD, hk] using h⟩
  simp [withB, this]
theorem withB_yes {a b : List UInt8} (h0 : withN a b = 0) (h : ∀ j, j < (scopeL a).length → (scopeL b).contains ((scopeL a).getD j []) = true) : withB a b = true := by
  have : withinB a b = true := by
    unfold withinB
    rw [List.all_eq_true]
    intro x hx
    obtain ⟨j, hj, rfl⟩ := List.mem_iff_getElem.1 hx
    have := h j hj
    simpa [List.getD, hj] using this
  simp [withB, this, h0]

set_option maxHeartbeats 4000000 in
theorem scope_within (a b : ByteArray) (W : World) (ha : a.size ≤ 1000) (hb : b.size ≤ 1000) (hm : MaxL W) :
    Calls Tryz.prog 45 #[.string a, .string b] W fun e w' => e = .returned (.tuple #[.bool (withB a.data.toList b.data.toList), errV (withN a.data.toList b.data.toList)]) ∧ Below W.heap.size W w' := by
  have H1 := Lib.hid (scope_read a W ha hm)
  have HM := Lib.hid hm
  have HB := Lib.hid (fun w (h : MaxL w) => scope_read b w hb h)
  clear hm
  by_cases h0 : scopeN a.data.toList = 0
  · have E := Lib.hid (show errV (scopeN a.data.toList) = .nilIface by rw [h0]; rfl)
    have W2 := Lib.hid (withN_2 (b := b.data.toList) h0)
    clear h0
    by_cases h1 : scopeN b.data.toList = 0
    · have E2 := Lib.hid (show errV (scopeN b.data.toList) = .nilIface by rw [h1]; rfl)
      have W3 := Lib.hid (show withN a.data.toList b.data.toList = 0 by rw [W2.out, h1])
      clear h1
      go_enter Tryz.func45, Tryz.ntmps45
      go_wp2_with fail
      go_at_call 77
      refine H1.out.mono ?_
      rintro e w1 ⟨v, rfl, hr1, hb1⟩
      rw [E.out]
      have HR1 := Lib.hid hr1
      have HB1 := Lib.hid hb1
      clear hr1 hb1
      go_wp2_with fail
      go_at_call 77
      refine (HB.out _ (HM.out.below' HB1.out)).mono ?_
      rintro e w2 ⟨u, rfl, hr2, hb2⟩
      rw [E2.out]
      have HR2 := Lib.hid (RowOrNil.below HR1.out hb2)
      have HR3 := Lib.hid hr2
      have HB2 := Lib.hid (HB1.out.trans (hb2.mono HB1.out.size))
      have hl1 := (scopeL_small a.data.toList).1
      have hl2 := (scopeL_small b.data.toList).1
      obtain ⟨A, cap, ev, _⟩ := HR2.out.slice
      subst ev
      clear hr2 hb2
      go_wp2_with fail
      go_loopw [31] (fun i wr => WithRel a.data.toList b.data.toList W.heap.size w1.heap.size W.heap.size W (.slice A (scopeL a.data.toList).length cap) u i wr) (fun i _ => (scopeL a.data.toList).length - (intOf i).toNat)
      case atStart => exact ⟨0, Nat.zero_le _, rfl, HR2.out, HR3.out, HB2.out, fun j hj => absurd hj (Nat.not_lt_zero _)⟩
      case round =>
        clear HR1 HB1 HR2 HR3 HB2
        obtain ⟨k, hk, rfl, hr1, hr2, hb, hno⟩ := hrel
        have HR1 := Lib.hid hr1
        have HS := Lib.hid (fun x => search_row hr2 (scopeL_up _) (by omega) x)
        have HR2 := Lib.hid hr2
        have HB := Lib.hid hb
        have HNO := Lib.hid hno
        clear hr2 hb hno
        by_cases hlt : k < (scopeL a.data.toList).length
        · obtain ⟨A', cap', ev, hcell⟩ := hr1.slice
          injection ev with ea _ ec
          subst ea; subst ec
          obtain ⟨g, rfl, hc⟩ := hcell k hlt
          clear hcell hr1
          generalize hx : (scopeL a.data.toList).getD k [] = x at *
          by_cases hin : (scopeL b.data.toList).contains x = true
          · have HX := Lib.hid hx
            have HIN := Lib.hid hin
            clear hx hin
            go_wp2_with
              (go_at_call 81; refine (HS.out x).mono ?_; rintro e w3 ⟨⟨i, rfl⟩, q, rfl⟩
               rw [HIN.out])
            go_roundw
            case rel =>
              refine ⟨k + 1, by omega, by go_num, RowOrNil.drewN HR1.out q, RowOrNil.drewN HR2.out q, below_drewN HB.out q, fun j hj => ?_⟩
              by_cases e : j = k
              · subst e
                rw [HX.out]
                exact HIN.out
              · exact HNO.out j (by omega)
            case measure => simp [intOf]; omega
          · have hin' : (scopeL b.data.toList).contains x = false := by simpa using hin
            have HW := Lib.hid (withB_no hlt (by rw [hx]; exact hin'))
            have HIN := Lib.hid hin'
            clear hx hin hin'
            go_wp2_with
              (go_at_call 81; refine (HS.out x).mono ?_; rintro e w3 ⟨⟨i, rfl⟩, q, rfl⟩
               rw [HIN.out])
            go_ret2
            exact ⟨by rw [HW.out, W3.out]; rfl, below_drewN HB.out q⟩
        · have HW := Lib.hid (withB_yes W3.out fun j hj => HNO.out j (by omega))
          clear hr1
          go_wp2_with fail
          go_ret2
          exact ⟨by rw [HW.out, W3.out]; rfl, HB.out⟩
    · have E2 := Lib.hid (errV_not h1)
      have W3 := Lib.hid (withB_bad (a := a.data.toList) (b := b.data.toList) (by rw [W2.out]; exact h1))
      clear h1
      go_enter Tryz.func45, Tryz.ntmps45
      go_wp2_with fail
      go_at_call 77
      refine H1.out.mono ?_
      rintro e w1 ⟨v, rfl, hr1, hb1⟩
      rw [E.out]
      have HB1 := Lib.hid hb1
      clear hr1 hb1
      go_wp2_with fail
      go_at_call 77
      refine (HB.out _ (HM.out.below' HB1.out)).mono ?_
      rintro e w2 ⟨u, rfl, hr2, hb2⟩
      rw [E2.out]
      have HB2 := Lib.hid (HB1.out.trans (hb2.mono HB1.out.size))
      clear hr2 hb2
      go_wp2_with fail
      go_ret2
      exact ⟨by rw [W3.out, W2.out, E2.out]; rfl, HB2.out⟩
  · have E := Lib.hid (errV_not h0)
    have W2 := Lib.hid (withN_1 (b := b.data.toList) h0)
    have W3 := Lib.hid (withB_bad (a := a.data.toList) (b := b.data.toList) (by rw [W2.out]; exact h0))
    clear h0
    go_enter Tryz.func45, Tryz.ntmps45
    go_wp2_with fail
    go_at_call 77
    refine H1.out.mono ?_
    rintro e w1 ⟨v, rfl, hr1, hb1⟩
    rw [E.out]
    have HB1 := Lib.hid hb1
    clear hr1 hb1
    go_wp2_with fail
    go_ret2
    exact ⟨by rw [W3.out, W2.out, E.out]; rfl, HB1.out⟩
end Go.Proofs.YtckohmhhcknmaaaGreatDoor

/-
  A service in plain Lean: what it says at once, and which event it lets be.
-/
namespace Go.Proofs.YtckohmhhcknmaaaGreatDoor
open Go.RowKit

structure Ru where
  key : Int
  idle : Int
  life : Int
  access : Int
def ruB (r : Ru) : Bool := okN r.key && okN r.idle && okN r.life && okN r.access
def capN (a b : Int) : Int := if a + b > 1099511627776 then 1099511627776 else a + b
def findF (L : List Fam) (id : Int) : Option Fam := L.find? fun f => decide (f.id = id)
def oldB (r : Ru) (now : Int) (f : Fam) : Bool := decide (capN f.used r.idle < now) || decide (capN f.made r.life < now)
/-- what is told at once, or an event that is to be and what is told then -/
inductive Plan (α : Type) where
  | say (a : α) (e : Int)
  | put (ev : Ev) (a : α) (e : Int)
def doPlan {α : Type} (dflt : α) (z : SS) : Plan α → SS × α × Int
  | .say a e => (z, a, e)
  | .put ev a e => if (addS z ev).2 = 0 then ((addS z ev).1, a, e) else ((addS z ev).1, dflt, (addS z ev).2)
def noneS : ByteArray := ⟨#[]⟩
def dropEv (id : Int) : Ev := ⟨2, Fam.zero, id, 0⟩
def tickEv (n : Int) : Ev := ⟨3, Fam.zero, 0, n⟩
def refreshS (r : Ru) (f : Fam) : ByteArray := tokS r.key 1 f.id f.gen 0
def tokOf (r : Ru) (t : ByteArray) : Int × Int × Int × Int × Int := tokR (fun B => tagL r.key B) (parts 46 t.data.toList)
/-- a token's family, if it lives: what is wrong, the token's generation and end, the family -/
structure Lv where
  e : Int
  gen : Int
  ends : Int
  f : Fam
def liveR (r : Ru) (s : St) (t : ByteArray) (kind : Int) : Lv :=
  if (tokOf r t).1 ≠ 0 then ⟨(tokOf r t).1, 0, 0, Fam.zero⟩
  else if (tokOf r t).2.1 ≠ kind then ⟨1, 0, 0, Fam.zero⟩
  else match findF s.fams (tokOf r t).2.2.1 with
    | none => ⟨7, 0, 0, Fam.zero⟩
    | some f => if f.dead then ⟨6, 0, 0, Fam.zero⟩ else if oldB r s.clock f then ⟨10, 0, 0, Fam.zero⟩ else ⟨0, (tokOf r t).2.2.2.1, (tokOf r t).2.2.2.2, f⟩
def grantF (s : St) (client subject sc : ByteArray) : Fam := ⟨s.next, client, subject, txt (leastL sc.data.toList), 0, s.clock, s.clock, noneS, false⟩
def grantP (r : Ru) (s : St) (client subject sc : ByteArray) : Plan ByteArray :=
  if (nameB client.data.toList && nameB subject.data.toList) = false then .say noneS 1
  else if scopeN sc.data.toList ≠ 0 then .say noneS (scopeN sc.data.toList)
  else if 1099511627776 < s.next then .say noneS 4
  else if 20 ≤ s.fams.length then .say noneS 12
  else .put (putEv (grantF s client subject sc)) (refreshS r (grantF s client subject sc)) 0
def deadF (f : Fam) : Fam := ⟨f.id, f.client, f.subject, f.scope, f.gen, f.made, f.used, f.request, true⟩
def turnF (s : St) (f : Fam) (request sc : ByteArray) : Fam := ⟨f.id, f.client, f.subject, txt (leastL sc.data.toList), f.gen + 1, f.made, s.clock, request, f.dead⟩
def rotateL (r : Ru) (s : St) (l : Lv) (request sc : ByteArray) : Plan ByteArray :=
  if l.e ≠ 0 then .say noneS l.e
  else if l.f.gen < l.gen then .say noneS 2
  else if l.gen = l.f.gen - 1 ∧ request.data.toList = l.f.request.data.toList then .say (refreshS r l.f) 0
  else if l.gen < l.f.gen then .put (putEv (deadF l.f)) noneS 15
  else if scopeN sc.data.toList ≠ 0 then .say noneS (scopeN sc.data.toList)
  else if withB (leastL sc.data.toList) l.f.scope.data.toList = false then .say noneS 13
  else if l.f.gen = 1099511627776 then .say noneS 4
  else .put (putEv (turnF s l.f request sc)) (refreshS r (turnF s l.f request sc)) 0
def rotateP (r : Ru) (s : St) (t request sc : ByteArray) : Plan ByteArray :=
  if nameB request.data.toList = false then .say noneS 1 else rotateL r s (liveR r s t 1) request sc
def mintL (r : Ru) (s : St) (l : Lv) : ByteArray × Int :=
  if l.e ≠ 0 then (noneS, l.e)
  else if l.f.gen < l.gen then (noneS, 2)
  else if l.gen < l.f.gen then (noneS, 8)
  else (tokS r.key 2 l.f.id l.f.gen (capN s.clock r.access), 0)
def mintP (r : Ru) (s : St) (t : ByteArray) : ByteArray × Int := mintL r s (liveR r s t 1)
def showL (s : St) (l : Lv) : Fam × Int :=
  if l.e ≠ 0 then (Fam.zero, l.e)
  else if l.f.gen < l.gen then (Fam.zero, 2)
  else if l.ends < s.clock then (Fam.zero, 10)
  else (l.f, 0)
def showP (r : Ru) (s : St) (t : ByteArray) : Fam × Int := showL s (liveR r s t 2)
def killP (s : St) (id : Int) : Plan Unit := match findF s.fams id with
  | none => .say () 7
  | some f => if f.dead then .say () 6 else .put (putEv (deadF f)) () 0
def tickP (s : St) (n : Int) : Plan Unit := if okN n = false then .say () 2 else .put (tickEv (capN s.clock n)) () 0
def sweepF (r : Ru) (s : St) : Option Fam := s.fams.find? fun f => f.dead || oldB r s.clock f
def sweepP (r : Ru) (s : St) : Plan Int := match sweepF r s with
  | none => .say 0 8
  | some f => .put (dropEv f.id) f.id 0
end Go.Proofs.YtckohmhhcknmaaaGreatDoor

/-
  The library's cuts at a blank, as the store's plain words have them.
-/
namespace Go.Proofs.YtckohmhhcknmaaaGreatDoor

theorem all_kept {p : UInt8 → Bool} : ∀ l : List UInt8, (∀ x ∈ l, p x = true) → l.takeWhile p = l ∧ l.dropWhile p = []
  | [], _ => ⟨rfl, rfl⟩
  | x :: l, h => by
    obtain ⟨h1, h2⟩ := all_kept l fun y hy => h y (List.mem_cons_of_mem _ hy)
    rw [List.takeWhile_cons, List.dropWhile_cons, if_pos (h x (List.mem_cons_self ..)), if_pos (h x (List.mem_cons_self ..)), h1, h2]
    exact ⟨rfl, rfl⟩
theorem lib_cut (l : List UInt8) : Lib.cut l [32] = (firstHead l, firstRest l, decide (32 ∈ l)) := by
  by_cases h : (32 : UInt8) ∈ l
  · obtain ⟨a, b, rfl, ha⟩ := first_of h
    obtain ⟨h1, h2⟩ := first_cut (b := b) ha
    have hi : Lib.index (a ++ 32 :: b) [32] = (a.length : Int) := by
      refine Lib.index_first (by simp) ?_ ?_
      · rw [Lib.occAt_iff_take _ _ _ (by simp)]
        simp
      · intro j hj
        rcases ho : Lib.occAt (a ++ 32 :: b) [32] j with _ | _
        · rfl
        · exfalso
          have := Lib.occAt_head rfl ho
          rw [List.getElem?_append_left hj] at this
          exact ha (List.mem_of_getElem? this)
    unfold Lib.cut
    rw [hi, if_pos (by omega), h1, h2, decide_eq_true h]
    simp
  · have hi : Lib.index l [32] = -1 := by
      refine Lib.index_none fun j _ => ?_
      rcases ho : Lib.occAt l [32] j with _ | _
      · rfl
      · exact absurd (List.mem_of_getElem? (Lib.occAt_head rfl ho)) h
    have hall : ∀ x ∈ l, (x != 32) = true := fun x hx => by
      have : x ≠ 32 := fun e => h (by rw [← e]; exact hx)
      simpa using this
    unfold Lib.cut firstHead firstRest
    rw [hi, if_neg (by decide), decide_eq_false h, (all_kept l hall).1, (all_kept l hall).2]
    rfl
/-- the last blank of a text: none, or where it stands -/
theorem last_blank (s : ByteArray) : (Lib.lastIndexByte s 32 = -1 ∧ cutLast s.data.toList = none) ∨
    ∃ i : Nat, i < s.size ∧ Lib.lastIndexByte s 32 = i ∧ cutLast s.data.toList = some (s.data.toList.take i, s.data.toList.drop (i + 1)) := by
  have hz : s.data.toList.length = s.size := size_data s
  have hget : ∀ j, j < s.size → s.data.toList[j]? = some (s.data[j]!) := fun j hj => by
    have hj' : j < s.data.size := hj
    rw [Array.getElem?_toList, Array.getElem?_eq_getElem hj', getElem!_pos s.data j hj']
  rcases Lib.lastIndexByte_spec s 32 with ⟨h1, h2⟩ | ⟨i, hi, h1, h2, h3⟩
  · refine .inl ⟨h1, ?_⟩
    unfold cutLast
    rw [if_neg]
    intro hm
    obtain ⟨j, hj⟩ := List.mem_iff_getElem?.1 hm
    have hlt := (List.getElem?_eq_some_iff.1 hj).1
    rw [hget j (by omega)] at hj
    have := h2 j (by omega)
    rw [Option.some.inj hj] at this
    exact this rfl
  · refine .inr ⟨i, hi, h1, ?_⟩
    have hb : s.data[i]! = 32 := by
      apply UInt8.toNat_inj.1
      have : ((s.data[i]!).toNat : Int) = 32 := h2
      show (s.data[i]!).toNat = 32
      omega
    have he : s.data.toList = s.data.toList.take i ++ 32 :: s.data.toList.drop (i + 1) := by
      have h4 := List.take_append_drop i s.data.toList
      have hlt : i < s.data.toList.length := by omega
      rw [List.drop_eq_getElem_cons hlt] at h4
      have h5 := hget i hi
      rw [List.getElem?_eq_getElem hlt] at h5
      rw [Option.some.inj h5, hb] at h4
      exact h4.symm
    have hf : (32 : UInt8) ∉ s.data.toList.drop (i + 1) := by
      intro hm
      obtain ⟨j, hj⟩ := List.mem_iff_getElem?.1 hm
      rw [List.getElem?_drop] at hj
      have hlt := (List.getElem?_eq_some_iff.1 hj).1
      rw [hget _ (by omega)] at hj
      have := h3 (i + 1 + j) (by omega) (by omega)
      rw [Option.some.inj hj] at this
      exact this rfl
    have := cutLast_of (x := s.data.toList.take i) hf
    rw [← he] at this
    exact this
end Go.Proofs.YtckohmhhcknmaaaGreatDoor

/-
  store.sealed, store.opened: words with their tag behind; what stands ahead of a tag that is right.
-/
namespace Go.Proofs.YtckohmhhcknmaaaGreatDoor
open Go.RowKit Go.Sort

theorem dig_no (d : Nat) : dig d ≠ 32 := by
  by_cases h : d < 16
  · have : ∀ n : Fin 16, dig n.1 ≠ 32 := by decide
    exact this ⟨d, h⟩
  · unfold dig
    rw [List.getD_eq_getElem?_getD, List.getElem?_eq_none (by show hexTab.length ≤ d; unfold hexTab; simp; omega)]
    decide
theorem hexN_no : ∀ (k n : Nat), (32 : UInt8) ∉ hexN k n
  | 0, n => by simp [hexN]
  | k + 1, n => by
    rw [hexN_cons, List.mem_cons]
    rintro (h | h)
    · exact dig_no _ h.symm
    · exact hexN_no k n h
theorem tag_ok : TagOk tagL := ⟨fun _ _ => hexN_length _ _, fun _ _ => hexN_no _ _⟩
theorem sealL_len (x : List UInt8) : (sealL tagL x).length = x.length + 17 := by
  unfold sealL
  rw [List.length_append, List.length_cons, tag_ok.len]

set_option maxRecDepth 100000 in
theorem store_sealed (B : Nat) (v : Value) (L : List (List UInt8)) (W : World) (h : Row W B v L) (hL : L.length ≤ 100) (hlen : (glue 32 L).length ≤ 1000) :
    Calls Tryz.prog 75 #[v] W fun e w' => e = .returned (.string (txt (sealL tagL (glue 32 L)))) ∧ Below W.heap.size W w' := by
  have HJ := Lib.hid (join_row 32 h (by omega) (by omega))
  have hsz : (txt (glue 32 L)).size ≤ 1000 := by rw [← size_data, data_txt]; exact hlen
  have HT := Lib.hid (fun w => mac_tag 0 (txt (glue 32 L)) w (by omega))
  have hdt : (txt (glue 32 L)).data.toList = glue 32 L := data_txt _
  rw [hdt] at HT
  have hts : (⟨(tagL 0 (glue 32 L)).toArray⟩ : ByteArray).size = 16 := by have := tag_ok.len 0 (glue 32 L); simpa [ByteArray.size] using this
  have hres : (txt (glue 32 L) ++ ⟨#[32]⟩) ++ (⟨(tagL 0 (glue 32 L)).toArray⟩ : ByteArray) = txt (sealL tagL (glue 32 L)) := by
    apply ByteArray.ext
    apply Array.ext'
    unfold sealL txt
    simp
  have HR := Lib.hid hres
  clear h hL hlen hdt hres
  generalize txt (sealL tagL (glue 32 L)) = r at *
  generalize (⟨(tagL 0 (glue 32 L)).toArray⟩ : ByteArray) = tg at *
  generalize txt (glue 32 L) = x at *
  go_enter Tryz.func75, Tryz.ntmps75
  go_wp2_with fail
  go_at_call 78
  refine HJ.out.mono ?_
  rintro e w1 ⟨rfl, hb⟩
  have HB := Lib.hid hb
  clear hb HJ
  go_wp2_with fail
  go_at_call 76
  refine (HT.out _).mono ?_
  rintro e w2 ⟨rfl, hb⟩
  have HB2 := Lib.hid (below_2 HB.out hb)
  clear hb HT
  go_wp2_with fail
  go_ret
  refine ⟨?_, HB2.out⟩
  rw [← HR.out]
  rfl

/-- what store.opened gives -/
def OpenGot (W : World) (o : Option (List UInt8)) (e : Ending) (w' : World) : Prop :=
  (∃ x b, e = .returned (.tuple #[.string x, .bool b]) ∧ (match o with | some l => x = txt l ∧ b = true | none => x = ⟨#[]⟩ ∧ b = false)) ∧ Below W.heap.size W w'

theorem opened_none (s : ByteArray) (W : World) (hs : s.size ≤ 1000) (h1 : Lib.lastIndexByte s 32 = -1) :
    Calls Tryz.prog 98 #[.string s] W fun e w' => e = .returned (.tuple #[.string ⟨#[]⟩, .bool false]) ∧ Below W.heap.size W w' := by
  have HL := Lib.hid (fun w => Tryz.strings_LastIndexByte s 32 (by omega) w)
  rw [h1] at HL
  clear h1
  go_enter Tryz.func98, Tryz.ntmps98
  go_wp2_with (go_at_call 138; refine (HL.out _).mono ?_; rintro e w1 ⟨rfl, rfl⟩)
  go_quiet (fail)
  go_wp2_with fail
  go_ret2
  exact ⟨rfl, below_drewN (Below.refl _ _) _⟩
set_option maxRecDepth 100000 in
theorem opened_some (s x t : ByteArray) (i : Nat) (W : World) (hs : s.size ≤ 1000) (h1 : Lib.lastIndexByte s 32 = (i : Int)) (hi : i < s.size) (hx : s.extract 0 i = x) (ht : s.extract (i + 1) s.size = t) (hxs : x.size ≤ 1000) :
    Calls Tryz.prog 98 #[.string s] W fun e w' => e = .returned (.tuple #[.string (if t.data.toList = tagL 0 x.data.toList then x else ⟨#[]⟩), .bool (decide (t.data.toList = tagL 0 x.data.toList))]) ∧ Below W.heap.size W w' := by
  have HL := Lib.hid (fun w => Tryz.strings_LastIndexByte s 32 (by omega) w)
  rw [h1] at HL
  have HT := Lib.hid (fun w => mac_tag 0 x w (by omega))
  have hq : (t.toList == (⟨(tagL 0 x.data.toList).toArray⟩ : ByteArray).toList) = decide (t.data.toList = tagL 0 x.data.toList) := by
    rw [ByteArray.toList_eq, ByteArray.toList_eq, Bool.eq_iff_iff]
    simp
  have hi0 : ¬ (i : Int) < 0 := by omega
  have hi1 : (0 : Int) ≤ (i : Int) := by omega
  have hi2 : (i : Int) ≤ (s.size : Int) := by omega
  have hi3 : (0 : Int) ≤ (i : Int) + 1 := by omega
  have hi4 : (i : Int) + 1 ≤ (s.size : Int) := by omega
  have hi5 : IntKind.i64.wrap ((i : Int) + 1) = (i : Int) + 1 := by unfold IntKind.wrap; simp [IntKind.signed, IntKind.bits]; omega
  have hi6 : ((i : Int) + 1).toNat = i + 1 := by omega
  generalize (⟨(tagL 0 x.data.toList).toArray⟩ : ByteArray) = tg at *
  clear h1
  by_cases hc : t.data.toList = tagL 0 x.data.toList
  all_goals
    have HC := Lib.hid hc
    first | rw [if_pos hc] | rw [if_neg hc]
    first | rw [decide_eq_true hc] at hq ⊢ | rw [decide_eq_false hc] at hq ⊢
    clear hc
    go_enter Tryz.func98, Tryz.ntmps98
    go_wp2_with (go_at_call 138; refine (HL.out _).mono ?_; rintro e w1 ⟨rfl, rfl⟩)
    go_region_held3 (fun w' => Below w1.heap.size w1 w')
      (first
        | with_reducible assumption
        | exact below_drewN (Below.refl _ _) 1
        | exact below_2 (by assumption) (by assumption))
      (first
        | (go_at_call 76; with_reducible refine (HT.out _).mono ?_; rintro e w2 ⟨rfl, hb2⟩))
    go_wp2_with fail
    go_ret2
    exact ⟨rfl, by assumption⟩

/-- store.opened: what stands ahead of a tag that is right -/
theorem store_opened (s : ByteArray) (W : World) (hs : s.size ≤ 1000) : Calls Tryz.prog 98 #[.string s] W (OpenGot W (openL tagL s.data.toList)) := by
  rcases last_blank s with ⟨h1, h2⟩ | ⟨i, hi, h1, h2⟩
  · refine (opened_none s W hs h1).mono fun e w' ⟨he, hb⟩ => ⟨⟨_, _, he, ?_⟩, hb⟩
    unfold openL
    rw [h2]
    exact ⟨rfl, rfl⟩
  · have hx : (s.extract 0 i).data.toList = s.data.toList.take i := by rw [Lib.extract_data]; simp
    have ht : (s.extract (i + 1) s.size).data.toList = s.data.toList.drop (i + 1) := by rw [Lib.extract_to_end]
    refine (opened_some s (s.extract 0 i) (s.extract (i + 1) s.size) i W hs h1 hi rfl rfl (by rw [ByteArray.size_extract]; omega)).mono fun e w' ⟨he, hb⟩ => ⟨⟨_, _, he, ?_⟩, hb⟩
    unfold openL
    rw [h2]
    dsimp only
    rw [hx, ht]
    by_cases hc : s.data.toList.drop (i + 1) = tagL 0 (s.data.toList.take i)
    · rw [if_pos hc, if_pos hc]
      refine ⟨?_, by simpa using hc⟩
      rw [← hx, txt_data]
    · rw [if_neg hc, if_neg hc]
      exact ⟨rfl, by simpa using hc⟩
end Go.Proofs.YtckohmhhcknmaaaGreatDoor

/-
  Families and events as values.
-/
namespace Go.Proofs.YtckohmhhcknmaaaGreatDoor
open Go.RowKit Go.Sort

def famCs (f : Fam) : Array Value := #[.int .i64 f.id, .string f.client, .string f.subject, .string f.scope, .int .i64 f.gen, .int .i64 f.made, .int .i64 f.used, .string f.request, .bool f.dead]
def evCs (e : Ev) : Array Value := #[.int .i64 e.kind, .int .i64 e.fam.id, .string e.fam.client, .string e.fam.subject, .string e.fam.scope, .int .i64 e.fam.gen, .int .i64 e.fam.made, .int .i64 e.fam.used, .string e.fam.request, .bool e.fam.dead, .int .i64 e.id, .int .i64 e.time]
def famVal (f : Fam) : Value := .agg (famCs f)
def evVal (e : Ev) : Value := .agg (evCs e)
/-- a family's texts are short -/
def Fam.short (f : Fam) (n : Nat) : Prop := f.client.size ≤ n ∧ f.subject.size ≤ n ∧ f.scope.size ≤ n ∧ f.request.size ≤ n
theorem fam_cells {w : World} {g : Nat} {T : TypeId} {i : Int} {cl su sc : ByteArray} {ge ma us : Int} {re : ByteArray} {de : Bool} (h : Blk w g T (famCs ⟨i, cl, su, sc, ge, ma, us, re, de⟩)) :
    w.cell? ⟨g, 0, none⟩ = some (.int .i64 i) ∧ w.cell? ⟨g, 1, none⟩ = some (.string cl) ∧ w.cell? ⟨g, 2, none⟩ = some (.string su) ∧ w.cell? ⟨g, 3, none⟩ = some (.string sc) ∧ w.cell? ⟨g, 4, none⟩ = some (.int .i64 ge) ∧
    w.cell? ⟨g, 5, none⟩ = some (.int .i64 ma) ∧ w.cell? ⟨g, 6, none⟩ = some (.int .i64 us) ∧ w.cell? ⟨g, 7, none⟩ = some (.string re) ∧ w.cell? ⟨g, 8, none⟩ = some (.bool de) :=
  ⟨h.cell 0, h.cell 1, h.cell 2, h.cell 3, h.cell 4, h.cell 5, h.cell 6, h.cell 7, h.cell 8⟩
theorem ev_cells {w : World} {g : Nat} {T : TypeId} {k i : Int} {cl su sc : ByteArray} {ge ma us : Int} {re : ByteArray} {de : Bool} {id ti : Int} (h : Blk w g T (evCs ⟨k, ⟨i, cl, su, sc, ge, ma, us, re, de⟩, id, ti⟩)) :
    w.cell? ⟨g, 0, none⟩ = some (.int .i64 k) ∧ w.cell? ⟨g, 1, none⟩ = some (.int .i64 i) ∧ w.cell? ⟨g, 2, none⟩ = some (.string cl) ∧ w.cell? ⟨g, 3, none⟩ = some (.string su) ∧ w.cell? ⟨g, 4, none⟩ = some (.string sc) ∧ w.cell? ⟨g, 5, none⟩ = some (.int .i64 ge) ∧
    w.cell? ⟨g, 6, none⟩ = some (.int .i64 ma) ∧ w.cell? ⟨g, 7, none⟩ = some (.int .i64 us) ∧ w.cell? ⟨g, 8, none⟩ = some (.string re) ∧ w.cell? ⟨g, 9, none⟩ = some (.bool de) ∧ w.cell? ⟨g, 10, none⟩ = some (.int .i64 id) ∧ w.cell? ⟨g, 11, none⟩ = some (.int .i64 ti) :=
  ⟨h.cell 0, h.cell 1, h.cell 2, h.cell 3, h.cell 4, h.cell 5, h.cell 6, h.cell 7, h.cell 8, h.cell 9, h.cell 10, h.cell 11⟩
/-- numbers that lie in a block from its first cell on -/
def IntsAt (w : World) (g : Nat) (L : List Int) : Prop := ∀ j, j < L.length → w.cell? ⟨g, j, none⟩ = some (.int .i64 (L.getD j 0))
theorem IntsAt.drewN {w : World} {g : Nat} {L : List Int} (h : IntsAt w g L) (q : Nat) : IntsAt (w.drewN q) g L := h

/-- what the reference's May knows while it runs: the blocks of the event and of its family -/
structure MR (T : TypeId) (W : World) (e : Ev) (w : World) : Prop where
  below : Below W.heap.size W w
  ev : Blk w W.heap.size T (evCs e)
  fam : Blk w (W.heap.size + 1) 79 (famCs e.fam)
theorem MR.keep {T : TypeId} {W w w' : World} {e : Ev} (h : MR T W e w) (hb : Below w.heap.size w w') : MR T W e w' :=
  ⟨below_2 h.below hb, h.ev.below' hb, h.fam.below' hb⟩
theorem MR.start {T : TypeId} {W : World} (e : Ev) : MR T W e ((W.alloc (.cells (evCs e) T)).alloc (.cells (famCs e.fam) 79)) := by
  have hb : Below W.heap.size W ((W.alloc (.cells (evCs e) T)).alloc (.cells (famCs e.fam) 79)) := ((Below.refl _ _).alloc (Nat.le_refl _) _).alloc (by simp) _
  refine ⟨hb, (Blk.new W _ _).alloc _, ?_⟩
  have := Blk.new (W.alloc (.cells (evCs e) T)) 79 (famCs e.fam)
  simpa using this
theorem MR.cells {T : TypeId} {W w : World} {k i : Int} {cl su sc : ByteArray} {ge ma us : Int} {re : ByteArray} {de : Bool} {id ti : Int} (h : MR T W ⟨k, ⟨i, cl, su, sc, ge, ma, us, re, de⟩, id, ti⟩ w) :
    w.cell? ⟨W.heap.size, 0, none⟩ = some (.int .i64 k) ∧ w.cell? ⟨W.heap.size, 10, none⟩ = some (.int .i64 id) ∧ w.cell? ⟨W.heap.size, 11, none⟩ = some (.int .i64 ti) ∧
    w.cell? ⟨W.heap.size + 1, 0, none⟩ = some (.int .i64 i) ∧ w.cell? ⟨W.heap.size + 1, 1, none⟩ = some (.string cl) ∧ w.cell? ⟨W.heap.size + 1, 2, none⟩ = some (.string su) ∧ w.cell? ⟨W.heap.size + 1, 3, none⟩ = some (.string sc) ∧ w.cell? ⟨W.heap.size + 1, 4, none⟩ = some (.int .i64 ge) ∧
    w.cell? ⟨W.heap.size + 1, 5, none⟩ = some (.int .i64 ma) ∧ w.cell? ⟨W.heap.size + 1, 6, none⟩ = some (.int .i64 us) ∧ w.cell? ⟨W.heap.size + 1, 7, none⟩ = some (.string re) ∧ w.cell? ⟨W.heap.size + 1, 8, none⟩ = some (.bool de) :=
  ⟨h.ev.cell 0, h.ev.cell 10, h.ev.cell 11, h.fam.cell 0, h.fam.cell 1, h.fam.cell 2, h.fam.cell 3, h.fam.cell 4, h.fam.cell 5, h.fam.cell 6, h.fam.cell 7, h.fam.cell 8⟩
theorem four_ok (a b c d : Int) : [a, b, c, d].all okN = (okN a && okN b && okN c && okN d) := by simp [Bool.and_assoc]
theorem ints_new (w : World) (T : TypeId) (L : List Int) : IntsAt (w.alloc (.cells (L.map fun x => Value.int .i64 x).toArray T)) w.heap.size L := by
  intro j hj
  have h := (Blk.new w T (L.map fun x => Value.int .i64 x).toArray).cell j
  rw [h]
  simp [hj]
theorem empty_list {s : ByteArray} : s.toList.isEmpty = decide (s.data.toList = []) := by
  rw [ByteArray.toList_eq]
  cases s.data.toList <;> simp
theorem scope_eq (x s : ByteArray) (l : List UInt8) (hx : x = txt l) : (x.toList == s.toList) = decide (l = s.data.toList) := by
  rw [hx, toList_txt, ByteArray.toList_eq, Bool.eq_iff_iff]
  simp

/-- the sizes of a family's texts -/
def Fam.len (f : Fam) : Nat := f.client.size + f.subject.size + f.scope.size + f.request.size
theorem one_ok (a : Int) : [a].all okN = okN a := by simp
theorem alloc2 (W : World) (o o' : Obj) : Below W.heap.size W ((W.alloc o).alloc o') := ((Below.refl _ _).alloc (Nat.le_refl _) _).alloc (by simp) _
theorem isZero_list (f : Fam) : f.isZero = (decide (f.id = 0) && decide (f.client.toList = []) && decide (f.subject.toList = []) && decide (f.scope.toList = []) && decide (f.gen = 0) && decide (f.made = 0) && decide (f.used = 0) && decide (f.request.toList = []) && !f.dead) := by
  unfold Fam.isZero
  rw [ByteArray.toList_eq, ByteArray.toList_eq, ByteArray.toList_eq, ByteArray.toList_eq]
theorem alloc3 {W w : World} (o o' o'' : Obj) (h : Below (((W.alloc o).alloc o').alloc o'').heap.size (((W.alloc o).alloc o').alloc o'') w) : Below W.heap.size W w :=
  below_2 ((alloc2 W o o').alloc (by simp; omega) o'') h
theorem zero_of {i ge ma us : Int} {cl su sc re : ByteArray} {de : Bool} (h1 : i = 0) (h2 : cl.toList = []) (h3 : su.toList = []) (h4 : sc.toList = []) (h5 : ge = 0) (h6 : ma = 0) (h7 : us = 0) (h8 : re.toList = []) (h9 : ¬ de = true)
    (h : Fam.isZero ⟨i, cl, su, sc, ge, ma, us, re, de⟩ = false) : False := by
  rw [isZero_list] at h
  have h9' : de = false := by simpa using h9
  dsimp only at h
  rw [h2, h3, h4, h8, h1, h5, h6, h7, h9'] at h
  simp at h
theorem ints_2 (W : World) (o o' : Obj) (T : TypeId) (b : Int) : IntsAt (((W.alloc o).alloc o').alloc (.cells #[.int .i64 b] T)) (W.heap.size + 1 + 1) [b] := by
  have h := ints_new ((W.alloc o).alloc o') T [b]
  simpa using h
/-- the two kinds of one number: what is to be none, and the number -/
theorem right_num (T : Int) (a b : Int) (e : Ev) (hk : e.kind = T) (h : (T = 2 ∧ a = e.time ∧ b = e.id) ∨ (T = 3 ∧ a = e.id ∧ b = e.time)) : evB e = (e.fam.isZero && decide (a = 0) && okN b) := by
  rcases h with ⟨rfl, rfl, rfl⟩ | ⟨rfl, rfl, rfl⟩
  · unfold evB; rw [hk, if_neg (by decide), if_pos rfl]
  · unfold evB; rw [hk, if_neg (by decide), if_neg (by decide), if_pos rfl]
theorem ints_at {L : List Int} {k : Nat} (hk : k < L.length) (h : okN (L.getD k 0) = false) : L.all okN = false := by
  rw [List.all_eq_false]
  refine ⟨L[k], List.getElem_mem hk, ?_⟩
  simpa [List.getD, hk] using h
theorem ints_all {L : List Int} (h : ∀ j, j < L.length → okN (L.getD j 0) = true) : L.all okN = true := by
  rw [List.all_eq_true]
  intro x hx
  obtain ⟨j, hj, rfl⟩ := List.mem_iff_getElem.1 hx
  have := h j hj
  simpa [List.getD, hj] using this
end Go.Proofs.YtckohmhhcknmaaaGreatDoor

/-
  A slice of families of the call's own, told as a list; slices.Clone of one.
-/
namespace Go.Proofs.YtckohmhhcknmaaaGreatDoor
open Go.RowKit Go.Sort

/-- the cells of families, one behind the other -/
def flat (L : List Fam) : List Value := L.flatMap fun f => (famCs f).toList
theorem famCs_len (f : Fam) : (famCs f).toList.length = 9 := rfl
theorem flat_len : ∀ L : List Fam, (flat L).length = L.length * 9
  | [] => rfl
  | f :: L => by
    have := flat_len L
    unfold flat at this ⊢
    rw [List.flatMap_cons, List.length_append, this, famCs_len, List.length_cons]
    omega
theorem flat_cons (f : Fam) (L : List Fam) : flat (f :: L) = (famCs f).toList ++ flat L := rfl
theorem flat_app (a b : List Fam) : flat (a ++ b) = flat a ++ flat b := by simp [flat]
theorem flat_get : ∀ {L : List Fam} {i : Nat} {f : Fam}, L[i]? = some f → ∀ j, j < 9 → (flat L)[i * 9 + j]? = (famCs f)[j]?
  | [], i, f, h, _, _ => by simp at h
  | g :: L, 0, f, h, j, hj => by
    simp at h
    subst h
    rw [flat_cons, Nat.zero_mul, Nat.zero_add, List.getElem?_append_left (by rw [famCs_len]; exact hj), Array.getElem?_toList]
  | g :: L, i + 1, f, h, j, hj => by
    rw [flat_cons, List.getElem?_append_right (by rw [famCs_len]; omega), famCs_len, show (i + 1) * 9 + j - 9 = i * 9 + j by omega]
    exact flat_get (by simpa using h) j hj
theorem flat_take (L : List Fam) (k : Nat) : flat (L.take k) = (flat L).take (k * 9) := by
  induction L generalizing k with
  | nil => simp [flat]
  | cons f L ih =>
    cases k with
    | zero => simp [flat]
    | succ k => rw [List.take_succ_cons, flat_cons, flat_cons, ih, List.take_append, famCs_len, List.take_of_length_le (l := (famCs f).toList) (by rw [famCs_len]; omega), show (k + 1) * 9 - 9 = k * 9 by omega]
theorem flat_drop (L : List Fam) (k : Nat) : flat (L.drop k) = (flat L).drop (k * 9) := by
  induction L generalizing k with
  | nil => simp [flat]
  | cons f L ih =>
    cases k with
    | zero => simp [flat]
    | succ k => rw [List.drop_succ_cons, flat_cons, ih, List.drop_append, famCs_len, List.drop_of_length_le (l := (famCs f).toList) (by rw [famCs_len]; omega), show (k + 1) * 9 - 9 = k * 9 by omega, List.nil_append]
theorem flat_one {L : List Fam} {u : Value} (h : u ∈ flat L) : u.oneCell' = true := by
  obtain ⟨f, _, hu⟩ := List.mem_flatMap.1 h
  simp only [famCs, List.mem_cons, List.not_mem_nil, or_false] at hu
  rcases hu with rfl | rfl | rfl | rfl | rfl | rfl | rfl | rfl | rfl <;> rfl

/-- v is a slice of the call's own (nil or not) that holds these families -/
def FRow (w : World) (B : Nat) (v : Value) (L : List Fam) : Prop := w.ownsRow B 79 9 v L.length (flat L)
theorem FRow.nil (w : World) (B : Nat) : FRow w B (.slice none 0 0) [] := World.ownsRow_nil _ _ _ _
section
variable {w w' : World} {B : Nat} {v : Value} {L : List Fam}
theorem FRow.below (h : FRow w B v L) (hb : Below w.heap.size w w') : FRow w' B v L := h.kept (only_of_below hb (some w.heap.size)) (.inr (fun he => by have := (h.lt _ he).2; omega))
theorem FRow.mono {B' : Nat} (h : FRow w B v L) (hB : B' ≤ B) : FRow w B' v L := World.ownsRow.mono h hB
theorem FRow.kept (h : FRow w B v L) {row : Option Nat} (hg : w.grownBy w' row) (hne : v.ownBlock ≠ row) : FRow w' B v L := World.ownsRow.kept h hg (.inr hne)
/-- nil, or a block whose first cells they are -/
theorem FRow.parts (h : FRow w B v L) : (v = .slice none 0 0 ∧ L = []) ∨ ∃ g cap, v = .slice (some ⟨g, 0, none⟩) L.length cap ∧ B ≤ g ∧ g < w.heap.size ∧ L.length ≤ cap ∧ cap ≤ 9223372036854775807 ∧
    (∀ j, w.frozen? ⟨g, j, none⟩ = false) ∧ (∀ j, j < cap * 9 → (w.cell? ⟨g, j, none⟩).isSome = true) ∧ (∀ j, j < L.length * 9 → w.cell? ⟨g, j, none⟩ = (flat L)[j]?) := by
  rcases h.2 with ⟨rfl, h0⟩ | ⟨g, cap, cur, rfl, hB, hb, hn, hm, hc, ht⟩
  · exact .inl ⟨rfl, List.eq_nil_of_length_eq_zero h0⟩
  · have hlt : g < w.heap.size := by
      rcases Nat.lt_or_ge g w.heap.size with h' | h'
      · exact h'
      · rw [Array.getElem?_eq_none h'] at hb; cases hb
    refine .inr ⟨g, cap, rfl, hB, hlt, hn, by unfold maxLen at hm; exact hm, fun j => by simp [World.frozen?, hb], fun j hj => ?_, fun j hj => ?_⟩
    · rw [cell_of_row w g j cur _ (0, 0) hb, Array.getElem?_eq_getElem (by omega)]
      rfl
    · rw [cell_of_row w g j cur _ (0, 0) hb, ← ht, List.getElem?_take, if_pos hj, Array.getElem?_toList]
/-- one family's cells -/
theorem FRow.at_ {g cap : Nat} (h : FRow w B (.slice (some ⟨g, 0, none⟩) L.length cap) L) {i : Nat} {f : Fam} (hi : L[i]? = some f) (j : Nat) (hj : j < 9) : w.cell? ⟨g, i * 9 + j, none⟩ = (famCs f)[j]? := by
  have hil := (List.getElem?_eq_some_iff.1 hi).1
  rcases h.parts with ⟨e, _⟩ | ⟨g', cap', e, _, _, _, _, _, _, hc⟩
  · simp at e
  · simp only [Value.slice.injEq, Option.some.injEq, Addr.mk.injEq, and_true, true_and] at e
    obtain ⟨rfl, rfl⟩ := e
    rw [hc _ (by omega), flat_get hi j hj]
end
theorem famInfo : (Tryz.prog.info? 79).map (fun i => (i.zero, i.size, i.bytes)) = some (some (.agg (famCs Fam.zero)), 9, 104) := by kernel_rfl

set_option maxHeartbeats 2000000 in
set_option maxRecDepth 100000 in
theorem fam_clone (B : Nat) (v : Value) (L : List Fam) (w : World) (h : FRow w B v L) (hL : L.length ≤ 1000000) :
    Calls Tryz.prog 79 #[v] w fun e w' => ∃ v', e = .returned v' ∧ FRow w' w.heap.size v' L ∧ Below w.heap.size w w' := by
  obtain ⟨i0, hii, hz0, hz1, hz2⟩ := info_parts famInfo
  have q44 : ∀ (w : World) (a : Option Addr) (n c n' c' : Nat), (binOp .eql 37 (.slice a n c) (.slice none n' c')).run Tryz.prog w = .ok (.bool a.isNone) w := fun w a n c n' c' => Lib.run_eql_slice_nil w _ _ a n c n' c' Tryz.underlying37
  rcases h.parts with ⟨rfl, rfl⟩ | ⟨g, cap, rfl, h1, h2, h3, h4, h5, h6, h7⟩
  · go_enter Tryz.func79, Tryz.ntmps79
    go_wp2_with fail
    go_ret
    exact ⟨_, rfl, FRow.nil _ _, Below.refl _ _⟩
  · have hown : (w.alloc (.cells #[] 79)).ownsRow w.heap.size 79 9 (.slice (some ⟨w.heap.size, 0, none⟩) 0 0) 0 [] :=
      ⟨rfl, .inr ⟨w.heap.size, 0, #[], rfl, Nat.le_refl _, heap_alloc_new w _, Nat.le_refl _, Nat.zero_le _, rfl, rfl⟩⟩
    have hl := flat_len L
    have hnews : ∀ j u, (flat L)[j]? = some u → (w.alloc (.cells #[] 79)).cell? ((⟨g, 0, none⟩ : Addr).add j) = some u := by
      intro j u hj
      have hjl := (List.getElem?_eq_some_iff.1 hj).1
      rw [Addr.add_lit, Nat.zero_add, World.cell?_alloc_past (w := w) _ g j h2, h7 j (by omega), hj]
    have HO := Lib.hid hown
    have HN := Lib.hid hnews
    have HL := Lib.hid hl
    clear hown hnews hl h h5 h6 h7
    go_enter Tryz.func79, Tryz.ntmps79
    go_wp2_with
      (at_builtin; refine wpList_append_own _ rfl _ _ 37 rfl w.heap.size 79 i0 (.agg (famCs Fam.zero)) 9 104 Tryz.underlying37 hii hz0 hz1 hz2 rfl (by decide) _ 0 [] rfl HO.out ⟨g, 0, none⟩ L.length cap (flat L) rfl HL.out HN.out (fun x hx => flat_one hx) (by unfold maxLen; omega) (by omega) (by simp) ?_; intro v' w3 hown hgrow hnil
       have HO3 := Lib.hid hown
       have HG := Lib.hid hgrow
       clear hown hgrow hnil)
    go_ret
    refine ⟨_, rfl, ?_, ?_⟩
    · have := HO3.out
      rw [Nat.zero_add, List.nil_append] at this
      exact this
    · have b1 : Below w.heap.size w (w.alloc (.cells #[] 79)) := (Below.refl _ _).alloc (Nat.le_refl _) _
      exact below_of_only b1 HG.out (Nat.le_refl _) b1.size
end Go.Proofs.YtckohmhhcknmaaaGreatDoor

/-
  Worlds of which but two blocks, and new ones, have turned.
-/
namespace Go.Proofs.YtckohmhhcknmaaaGreatDoor
open Go.RowKit Go.Sort

structure Two (a b : Nat) (w w' : World) : Prop where
  os : w'.os = w.os
  tape : w'.tape = w.tape
  output : w'.output = w.output
  size : w.heap.size ≤ w'.heap.size
  block : ∀ i, i < w.heap.size → i ≠ a → i ≠ b → w'.heap[i]? = w.heap[i]?
section
variable {a b : Nat} {w w' w'' : World}
theorem Two.refl (a b : Nat) (w : World) : Two a b w w := ⟨rfl, rfl, rfl, Nat.le_refl _, fun _ _ _ _ => rfl⟩
theorem Two.trans (h : Two a b w w') (k : Two a b w' w'') : Two a b w w'' :=
  ⟨k.os.trans h.os, k.tape.trans h.tape, k.output.trans h.output, Nat.le_trans h.size k.size, fun i hi h1 h2 => (k.block i (Nat.lt_of_lt_of_le hi h.size) h1 h2).trans (h.block i hi h1 h2)⟩
theorem Two.of_below (h : Below w.heap.size w w') : Two a b w w' := ⟨h.os, h.tape, h.output, h.size, fun i hi _ _ => h.block i hi⟩
theorem Two.of_one (h : w.grownBy w' (some a)) : Two a b w w' := ⟨h.os, h.tape, h.output, h.size, fun i hi h1 _ => h.block i hi (by simpa using h1)⟩
theorem Two.of_two (h : w.grownBy w' (some b)) : Two a b w w' := ⟨h.os, h.tape, h.output, h.size, fun i hi _ h2 => h.block i hi (by simpa using h2)⟩
theorem Two.below {B : Nat} {W : World} (h : Two a b w w') (hW : Below B W w) (hB : B ≤ w.heap.size) (ha : B ≤ a) (hb : B ≤ b) : Below B W w' :=
  ⟨h.os.trans hW.os, h.tape.trans hW.tape, h.output.trans hW.output, Nat.le_trans hW.size h.size, fun i hi => (h.block i (by omega) (by omega) (by omega)).trans (hW.block i hi)⟩
theorem Blk.two {g : Nat} {t : TypeId} {cs : Array Value} (h : Blk w g t cs) (k : Two a b w w') (h1 : g ≠ a) (h2 : g ≠ b) : Blk w' g t cs := (k.block g h.lt h1 h2).trans h
theorem Two.cell {p : Addr} {v : Value} (k : Two a b w w') (h : w.cell? p = some v) (h1 : p.block ≠ a) (h2 : p.block ≠ b) : w'.cell? p = some v := by
  have hlt := World.block_lt_of_cell? w _ h
  rw [World.cell?_of_block (w := w) (k.block p.block hlt h1 h2)]
  exact h
theorem FRow.two {B : Nat} {v : Value} {L : List Fam} (h : FRow w B v L) (k : Two a b w w') (h1 : v.ownBlock ≠ some a) (h2 : v.ownBlock ≠ some b) : FRow w' B v L := by
  refine ⟨h.1, ?_⟩
  rcases h.2 with hn | ⟨g, cap, cur, rfl, hb, hgg, rest⟩
  · exact .inl hn
  · refine .inr ⟨g, cap, cur, rfl, hb, ?_, rest⟩
    have hg := (Array.getElem?_eq_some_iff.1 hgg).1
    rw [k.block g hg (by simpa [Value.ownBlock] using h1) (by simpa [Value.ownBlock] using h2)]
    exact hgg
end
end Go.Proofs.YtckohmhhcknmaaaGreatDoor
