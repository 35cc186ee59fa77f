/-
  scope.Read, Least, Within: what they give is the plain law's.
-/
import Derived.Test.YtdogilbnbbeljaaGreatDoorH22
import Derived.Test.YtdogilbnbbeljaaGreatDoorH16
import Derived.Test.YtdogilbnbbeljaaGreatDoorH20
namespace Go.Proofs.YtdogilbnbbeljaaGreatDoor
open Go.RowKit Go.Sort

def letters : ByteArray := ⟨#[97, 98, 99, 100, 101, 102, 103, 104, 105, 106, 107, 108, 109, 110, 111, 112, 113, 114, 115, 116, 117, 118, 119, 120, 121, 122]⟩
theorem letters_has (c : UInt8) : letters.data.toList.contains c = (decide (97 ≤ c.toNat) && decide (c.toNat ≤ 122)) := by
  have h : ∀ n : Fin 256, letters.data.toList.contains (UInt8.ofFin n) = (decide (97 ≤ (UInt8.ofFin n).toNat) && decide ((UInt8.ofFin n).toNat ≤ 122)) := of_decide_eq_true (by kernel_rfl)
  exact h c.toFin
theorem letters_all (l : List UInt8) : l.all (letters.data.toList.contains ·) = lowB l := by
  unfold lowB
  congr 1
  funext c
  exact letters_has c
theorem trim_low (x : ByteArray) (w : World) (hx : x.size ≤ 1000000) (h : lowB x.data.toList = true) :
    Calls Tryz.prog 109 #[.string x, .string ⟨#[97, 98, 99, 100, 101, 102, 103, 104, 105, 106, 107, 108, 109, 110, 111, 112, 113, 114, 115, 116, 117, 118, 119, 120, 121, 122]⟩] w fun e w' => e = .returned (.string ⟨#[]⟩) ∧ Below w.heap.size w w' :=
  (trim_set letters x w hx (by decide) (ascii_of_all (by decide))).1 (by rw [letters_all]; exact h)
theorem trim_high (x : ByteArray) (w : World) (hx : x.size ≤ 1000000) (h : lowB x.data.toList = false) :
    Calls Tryz.prog 109 #[.string x, .string ⟨#[97, 98, 99, 100, 101, 102, 103, 104, 105, 106, 107, 108, 109, 110, 111, 112, 113, 114, 115, 116, 117, 118, 119, 120, 121, 122]⟩] w fun e w' => NotEmpty e ∧ Below w.heap.size w w' :=
  (trim_set letters x w hx (by decide) (ascii_of_all (by decide))).2 (by rw [letters_all]; exact h)

def ScopeGot (s : ByteArray) (W : World) (e : Ending) (w' : World) : Prop :=
  ∃ v, e = .returned (.tuple #[v, errV (scopeN s.data.toList)]) ∧ RowOrNil w' W.heap.size v (scopeL s.data.toList) ∧ Below W.heap.size W w'

def WordsRel (B : Nat) (W : World) (v : Value) (L : List (List UInt8)) (i : Value) (wr : World) : Prop :=
  ∃ k : Nat, k ≤ L.length ∧ i = .int .i64 k ∧ Row wr B v L ∧ Below B W wr ∧ ∀ j, j < k → okW (L.getD j []) = true

theorem all_of_none {L : List (List UInt8)} (h : ∀ j, j < L.length → okW (L.getD j []) = true) : L.all okW = true := by
  rw [List.all_eq_true]
  intro x hx
  obtain ⟨j, hj, rfl⟩ := List.mem_iff_getElem.1 hx
  have := h j hj
  simpa [List.getD, hj] using this
theorem not_all_of_at {L : List (List UInt8)} {k : Nat} (hk : k < L.length) (h : okW (L.getD k []) = false) : L.all okW = false := by
  rw [List.all_eq_false]
  refine ⟨L[k], List.getElem_mem hk, ?_⟩
  simpa [List.getD, hk] using h
theorem scope_read_nil (w : World) : Calls Tryz.prog 106 #[.string ⟨#[]⟩] w (ScopeGot ⟨#[]⟩ w) := by
  go_enter Tryz.func106, Tryz.ntmps106
  go_wp2_with fail
  go_ret2
  exact ⟨_, rfl, .inl ⟨rfl, rfl⟩, Below.refl _ _⟩

set_option maxHeartbeats 4000000 in
theorem scope_read_some (s : ByteArray) (W : World) (hs : s.size ≤ 1000) (hm : MaxL W) (h0 : s.data.toList ≠ []) : Calls Tryz.prog 106 #[.string s] W (ScopeGot s W) := by
  have hemp : s.toList.isEmpty = false := by
    rw [← txt_data s, toList_txt]; simpa using h0
  have H0 := Lib.hid h0
  have hp := parts_len 43 s.data.toList
  rw [size_data] at hp
  have HSP := Lib.hid (split_row 43 s W.heap.size W (by omega) hm (Nat.le_refl _))
  clear h0 hm
  have HPS : Hid (∀ w ∈ parts 43 s.data.toList, w.length ≤ 1000) := Lib.hid (parts_word_len 43 _ _ (by rw [size_data]; exact hs))
  generalize hL : parts 43 s.data.toList = L at *
  have HL := Lib.hid hL
  clear hL
  go_enter Tryz.func106, Tryz.ntmps106
  go_wp2_with
    (go_at_call 49; refine HSP.out.mono ?_; rintro e w1 ⟨v, rfl, hr, hb⟩
     obtain ⟨g, cap, rfl, _⟩ := id hr
     have HR := Lib.hid hr
     have HB := Lib.hid hb
     clear hr hb)
  go_loopw [13] (fun i wr => WordsRel W.heap.size W (.slice (some ⟨g, 0, none⟩) L.length cap) L i wr) (fun i _ => L.length - (intOf i).toNat)
  case atStart => exact ⟨0, Nat.zero_le _, rfl, HR.out, HB.out, fun j hj => absurd hj (Nat.not_lt_zero _)⟩
  case round =>
    obtain ⟨k, hk, rfl, hr, hb, hno⟩ := hrel
    clear HR HB HSP hemp
    have HR := Lib.hid hr
    have HB := Lib.hid hb
    have HNO := Lib.hid hno
    clear hb hno
    by_cases hlt : k < L.length
    · have hc := hr.cell k hlt
      have hsz : (L.getD k []).length ≤ 1000 := by
        have := HPS.out (L[k]) (List.getElem_mem hlt)
        simpa [List.getD, hlt] using this
      clear hr
      generalize hx : L.getD k [] = x at *
      have HX := Lib.hid hx
      clear hx
      by_cases hne : x = []
      · subst hne
        rw [show txt [] = (⟨#[]⟩ : ByteArray) from rfl] at hc
        go_wp2_with fail
        go_ret2
        have h3 : scopeN s.data.toList = 3 := scopeN_form H0.out (by rw [HL.out]; exact not_all_of_at hlt (by rw [HX.out]; rfl))
        exact ⟨_, by rw [h3]; rfl, .inl ⟨rfl, scopeL_bad (by rw [h3]; decide)⟩, HB.out⟩
      · have hemp : (txt x).toList.isEmpty = false := by rw [toList_txt]; simpa using hne
        have htx : (txt x).data.toList = x := data_txt x
        have hts : (txt x).size ≤ 1000000 := by rw [txt_size]; omega
        have HTX := Lib.hid htx
        clear htx
        generalize txt x = y at *
        by_cases hlow : lowB x = true
        · have HT := Lib.hid (fun w => trim_low y w hts (by rw [HTX.out]; exact hlow))
          go_wp2_with
            (go_at_call 109; refine (HT.out _).mono ?_; rintro e w2 ⟨rfl, hb2⟩
             have HR2 := Lib.hid (HR.out.below hb2)
             have HB2 := Lib.hid (HB.out.trans (hb2.mono HB.out.size))
             clear hb2)
          go_roundw
          case rel =>
            refine ⟨k + 1, by omega, by go_num, HR2.out, HB2.out, fun j hj => ?_⟩
            by_cases e : j = k
            · subst e
              rw [HX.out]
              simp [okW, hlow, hne]
            · exact HNO.out j (by omega)
          case measure => simp [intOf]; omega
        · have hlow' : lowB x = false := by simpa using hlow
          have HT := Lib.hid (fun w => trim_high y w hts (by rw [HTX.out]; exact hlow'))
          go_wp2_with
            (go_at_call 109; refine (HT.out _).mono ?_; rintro e w2 ⟨⟨z, rfl, hz⟩, hb2⟩
             have HB2 := Lib.hid (HB.out.trans (hb2.mono HB.out.size))
             clear hb2)
          go_ret2
          have h3 : scopeN s.data.toList = 3 := scopeN_form H0.out (by rw [HL.out]; exact not_all_of_at hlt (by rw [HX.out]; simp [okW, hlow']))
          exact ⟨_, by rw [h3]; rfl, .inl ⟨rfl, scopeL_bad (by rw [h3]; decide)⟩, HB2.out⟩
    · have hall : (parts 43 s.data.toList).all okW = true := by rw [HL.out]; exact all_of_none fun j hj => HNO.out j (by omega)
      have HALL := Lib.hid hall
      clear hall hr
      have HS := Lib.hid (sort_row HR.out HB.out HB.out.size (by omega))
      go_wp2_with
        (first
        | (go_at_call 147; refine HS.out.mono ?_; rintro e w2 ⟨rfl, hr2, hb2⟩
           have HC := Lib.hid (compact_row hr2 hb2 (by rw [List.length_mergeSort]; omega))
           clear hr2 hb2)
        | (go_at_call 148; refine HC.out.mono ?_; rintro e w3 ⟨g3, cap3, rfl, hr3, hb3⟩
           rw [show Lib.compact (L.mergeSort leW) = uniq (parts 43 s.data.toList) by rw [HL.out]; rfl] at *
           have HR3 := Lib.hid hr3
           have HB3 := Lib.hid hb3
           have HCL := Lib.hid (contains_long _ g3 cap3 _ w3 hr3 (by have := compact_len (L.mergeSort leW); rw [List.length_mergeSort] at this; rw [HL.out]; exact Nat.le_trans this (by omega)))
           clear hr3 hb3)
        | (go_at_call 149; refine HCL.out.mono ?_; rintro e w4 ⟨rfl, q, rfl⟩))
      · have hor : (5 : Int) < ((uniq (parts 43 s.data.toList)).length : Int) ∨ (uniq (parts 43 s.data.toList)).any longB = true := by assumption
        have h4 : scopeN s.data.toList = 4 := scopeN_limit H0.out HALL.out (hor.elim (fun h => .inl (by omega)) .inr)
        go_ret2
        exact ⟨_, by rw [h4]; rfl, .inl ⟨rfl, scopeL_bad (by rw [h4]; decide)⟩, below_drewN HB3.out q⟩
      · have hand : ((uniq (parts 43 s.data.toList)).length : Int) ≤ 5 ∧ (uniq (parts 43 s.data.toList)).any longB = false := by assumption
        have h0 := scopeN_fine H0.out HALL.out (by omega) hand.2
        go_ret2
        exact ⟨_, by rw [h0.1]; rfl, .inr (by rw [h0.2]; exact HR3.out.drewN q), below_drewN HB3.out q⟩
      · have hgt : (5 : Int) < ((uniq (parts 43 s.data.toList)).length : Int) := by assumption
        have h4 : scopeN s.data.toList = 4 := scopeN_limit H0.out HALL.out (.inl (by omega))
        go_ret2
        exact ⟨_, by rw [h4]; rfl, .inl ⟨rfl, scopeL_bad (by rw [h4]; decide)⟩, HB3.out⟩

theorem scope_read (s : ByteArray) (W : World) (hs : s.size ≤ 1000) (hm : MaxL W) : Calls Tryz.prog 106 #[.string s] W (ScopeGot s W) := by
  by_cases h0 : s.data.toList = []
  · obtain rfl : s = ⟨#[]⟩ := by rw [← txt_data s, h0]; rfl
    exact scope_read_nil W
  · exact scope_read_some s W hs hm h0

theorem errV_zero : errV 0 = .nilIface := rfl
theorem errV_not {n : Int} (h : n ≠ 0) : errV n = .iface 47 (.int .i64 n) := if_neg h
theorem leastL_bad {s : List UInt8} (h : scopeN s ≠ 0) : leastL s = [] := by unfold leastL; rw [scopeL_bad h]; rfl
/-- a text and an error -/
theorem scope_least_any (s : ByteArray) (W : World) (hs : s.size ≤ 1000) (hm : MaxL W) :
    Calls Tryz.prog 78 #[.string s] W fun e w' => e = .returned (.tuple #[.string (txt (leastL s.data.toList)), errV (scopeN s.data.toList)]) ∧ Below W.heap.size W w' := by
  have H := Lib.hid (scope_read s W hs hm)
  clear hm
  by_cases h0 : scopeN s.data.toList = 0
  · have E := Lib.hid (show errV (scopeN s.data.toList) = .nilIface by rw [h0]; rfl)
    clear h0
    go_enter Tryz.func78, Tryz.ntmps78
    go_wp2_with
      (first
      | (go_at_call 106; refine H.out.mono ?_; rintro e w1 ⟨v, rfl, hr, hb⟩
         rw [E.out]
         have HJ := Lib.hid (join_scope hr)
         have HB := Lib.hid hb
         clear hr hb)
      | (go_at_call 54; refine HJ.out.mono ?_; rintro e w2 ⟨rfl, hb⟩
         have HB2 := Lib.hid (HB.out.trans (hb.mono HB.out.size))
         clear hb))
    go_ret2
    exact ⟨by rw [E.out]; rfl, HB2.out⟩
  · have E := Lib.hid (errV_not h0)
    have L := Lib.hid (leastL_bad h0)
    clear h0
    go_enter Tryz.func78, Tryz.ntmps78
    go_wp2_with
      (go_at_call 106; refine H.out.mono ?_; rintro e w1 ⟨v, rfl, hr, hb⟩
       rw [E.out]
       have HB := Lib.hid hb
       clear hr hb)
    go_ret2
    exact ⟨by rw [E.out, L.out]; rfl, HB.out⟩
end Go.Proofs.YtdogilbnbbeljaaGreatDoor
