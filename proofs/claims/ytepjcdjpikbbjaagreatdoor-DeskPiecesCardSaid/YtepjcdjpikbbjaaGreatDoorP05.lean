/-
  scope.Read, Least, Within: what they give is the plain law's.
-/
import Derived.Test.YtepjcdjpikbbjaaGreatDoorP04
import Derived.Test.YtepjcdjpikbbjaaGreatDoorP03
import Derived.Test.YtepjcdjpikbbjaaGreatDoorP01
import Derived.Test.YtepjcdjpikbbjaaGreatDoorP02
import Derived.Lib.LaidTab
import Derived.Lib.ItoaLen
import Derived.Deep.RegionHeld3
import Derived.Lib.AtoiErrMem
namespace Go.Proofs.YtepjcdjpikbbjaaGreatDoor
open Go.RowKit Go.Sort

def letters : ByteArray := ⟨#[97, 98, 99, 100, 101, 102, 103, 104, 105, 106, 107, 108, 109, 110, 111, 112, 113, 114, 115, 116, 117, 118, 119, 120, 121, 122]⟩
theorem letters_has (c : UInt8) : letters.data.toList.contains c = (decide (97 ≤ c.toNat) && decide (c.toNat ≤ 122)) := by
  have h : ∀ n : Fin 256, letters.data.toList.contains (UInt8.ofFin n) = (decide (97 ≤ (UInt8.ofFin n).toNat) && decide ((UInt8.ofFin n).toNat ≤ 122)) := of_decide_eq_true (by kernel_rfl)
  exact h c.toFin
theorem letters_all (l : List UInt8) : l.all (letters.data.toList.contains ·) = lowB l := by
  unfold lowB
  congr 1
  funext c
  exact letters_has c
theorem trim_low (x : ByteArray) (w : World) (hx : x.size ≤ 1000000) (h : lowB x.data.toList = true) :
    Calls Tryz.prog 219 #[.string x, .string ⟨#[97, 98, 99, 100, 101, 102, 103, 104, 105, 106, 107, 108, 109, 110, 111, 112, 113, 114, 115, 116, 117, 118, 119, 120, 121, 122]⟩] w fun e w' => e = .returned (.string ⟨#[]⟩) ∧ Below w.heap.size w w' :=
  (trim_set letters x w hx (by decide) (ascii_of_all (by decide))).1 (by rw [letters_all]; exact h)
theorem trim_high (x : ByteArray) (w : World) (hx : x.size ≤ 1000000) (h : lowB x.data.toList = false) :
    Calls Tryz.prog 219 #[.string x, .string ⟨#[97, 98, 99, 100, 101, 102, 103, 104, 105, 106, 107, 108, 109, 110, 111, 112, 113, 114, 115, 116, 117, 118, 119, 120, 121, 122]⟩] w fun e w' => NotEmpty e ∧ Below w.heap.size w w' :=
  (trim_set letters x w hx (by decide) (ascii_of_all (by decide))).2 (by rw [letters_all]; exact h)

def ScopeGot (s : ByteArray) (W : World) (e : Ending) (w' : World) : Prop :=
  ∃ v, e = .returned (.tuple #[v, errV (scopeN s.data.toList)]) ∧ RowOrNil w' W.heap.size v (scopeL s.data.toList) ∧ Below W.heap.size W w'

def WordsRel (B : Nat) (W : World) (v : Value) (L : List (List UInt8)) (i : Value) (wr : World) : Prop :=
  ∃ k : Nat, k ≤ L.length ∧ i = .int .i64 k ∧ Row wr B v L ∧ Below B W wr ∧ ∀ j, j < k → okW (L.getD j []) = true

theorem all_of_none {L : List (List UInt8)} (h : ∀ j, j < L.length → okW (L.getD j []) = true) : L.all okW = true := by
  rw [List.all_eq_true]
  intro x hx
  obtain ⟨j, hj, rfl⟩ := List.mem_iff_getElem.1 hx
  have := h j hj
  simpa [List.getD, hj] using this
theorem not_all_of_at {L : List (List UInt8)} {k : Nat} (hk : k < L.length) (h : okW (L.getD k []) = false) : L.all okW = false := by
  rw [List.all_eq_false]
  refine ⟨L[k], List.getElem_mem hk, ?_⟩
  simpa [List.getD, hk] using h
theorem scope_read_nil (w : World) : Calls Tryz.prog 182 #[.string ⟨#[]⟩] w (ScopeGot ⟨#[]⟩ w) := by
  go_enter Tryz.func182, Tryz.ntmps182
  go_wp2_with fail
  go_ret2
  exact ⟨_, rfl, .inl ⟨rfl, rfl⟩, Below.refl _ _⟩

set_option maxHeartbeats 4000000 in
theorem scope_read_some (s : ByteArray) (W : World) (hs : s.size ≤ 5000) (hm : MaxL W) (h0 : s.data.toList ≠ []) : Calls Tryz.prog 182 #[.string s] W (ScopeGot s W) := by
  have hemp : s.toList.isEmpty = false := by
    rw [← txt_data s, toList_txt]; simpa using h0
  have H0 := Lib.hid h0
  have hp := parts_len 43 s.data.toList
  rw [size_data] at hp
  have HSP := Lib.hid (split_row 43 s W.heap.size W (by omega) hm (Nat.le_refl _))
  clear h0 hm
  have HPS : Hid (∀ w ∈ parts 43 s.data.toList, w.length ≤ 5000) := Lib.hid (parts_word_len 43 _ _ (by rw [size_data]; exact hs))
  generalize hL : parts 43 s.data.toList = L at *
  have HL := Lib.hid hL
  clear hL
  go_enter Tryz.func182, Tryz.ntmps182
  go_wp2_with
    (go_at_call 13; refine HSP.out.mono ?_; rintro e w1 ⟨v, rfl, hr, hb⟩
     obtain ⟨g, cap, rfl, _⟩ := id hr
     have HR := Lib.hid hr
     have HB := Lib.hid hb
     clear hr hb)
  go_loopw [13] (fun i wr => WordsRel W.heap.size W (.slice (some ⟨g, 0, none⟩) L.length cap) L i wr) (fun i _ => L.length - (intOf i).toNat)
  case atStart => exact ⟨0, Nat.zero_le _, rfl, HR.out, HB.out, fun j hj => absurd hj (Nat.not_lt_zero _)⟩
  case round =>
    obtain ⟨k, hk, rfl, hr, hb, hno⟩ := hrel
    clear HR HB HSP hemp
    have HR := Lib.hid hr
    have HB := Lib.hid hb
    have HNO := Lib.hid hno
    clear hb hno
    by_cases hlt : k < L.length
    · have hc := hr.cell k hlt
      have hsz : (L.getD k []).length ≤ 5000 := by
        have := HPS.out (L[k]) (List.getElem_mem hlt)
        simpa [List.getD, hlt] using this
      clear hr
      generalize hx : L.getD k [] = x at *
      have HX := Lib.hid hx
      clear hx
      by_cases hne : x = []
      · subst hne
        rw [show txt [] = (⟨#[]⟩ : ByteArray) from rfl] at hc
        go_wp2_with fail
        go_ret2
        have h3 : scopeN s.data.toList = 3 := scopeN_form H0.out (by rw [HL.out]; exact not_all_of_at hlt (by rw [HX.out]; rfl))
        exact ⟨_, by rw [h3]; rfl, .inl ⟨rfl, scopeL_bad (by rw [h3]; decide)⟩, HB.out⟩
      · have hemp : (txt x).toList.isEmpty = false := by rw [toList_txt]; simpa using hne
        have htx : (txt x).data.toList = x := data_txt x
        have hts : (txt x).size ≤ 1000000 := by rw [txt_size]; omega
        have HTX := Lib.hid htx
        clear htx
        generalize txt x = y at *
        by_cases hlow : lowB x = true
        · have HT := Lib.hid (fun w => trim_low y w hts (by rw [HTX.out]; exact hlow))
          go_wp2_with
            (go_at_call 219; refine (HT.out _).mono ?_; rintro e w2 ⟨rfl, hb2⟩
             have HR2 := Lib.hid (HR.out.below hb2)
             have HB2 := Lib.hid (HB.out.trans (hb2.mono HB.out.size))
             clear hb2)
          go_roundw
          case rel =>
            refine ⟨k + 1, by omega, by go_num, HR2.out, HB2.out, fun j hj => ?_⟩
            by_cases e : j = k
            · subst e
              rw [HX.out]
              simp [okW, hlow, hne]
            · exact HNO.out j (by omega)
          case measure => simp [intOf]; omega
        · have hlow' : lowB x = false := by simpa using hlow
          have HT := Lib.hid (fun w => trim_high y w hts (by rw [HTX.out]; exact hlow'))
          go_wp2_with
            (go_at_call 219; refine (HT.out _).mono ?_; rintro e w2 ⟨⟨z, rfl, hz⟩, hb2⟩
             have HB2 := Lib.hid (HB.out.trans (hb2.mono HB.out.size))
             clear hb2)
          go_ret2
          have h3 : scopeN s.data.toList = 3 := scopeN_form H0.out (by rw [HL.out]; exact not_all_of_at hlt (by rw [HX.out]; simp [okW, hlow']))
          exact ⟨_, by rw [h3]; rfl, .inl ⟨rfl, scopeL_bad (by rw [h3]; decide)⟩, HB2.out⟩
    · have hall : (parts 43 s.data.toList).all okW = true := by rw [HL.out]; exact all_of_none fun j hj => HNO.out j (by omega)
      have HALL := Lib.hid hall
      clear hall hr
      have HS := Lib.hid (sort_row HR.out HB.out HB.out.size (by omega))
      go_wp2_with
        (first
        | (go_at_call 197; refine HS.out.mono ?_; rintro e w2 ⟨rfl, hr2, hb2⟩
           have HC := Lib.hid (compact_row hr2 hb2 (by rw [List.length_mergeSort]; omega))
           clear hr2 hb2)
        | (go_at_call 222; refine HC.out.mono ?_; rintro e w3 ⟨g3, cap3, rfl, hr3, hb3⟩
           rw [show Lib.compact (L.mergeSort leW) = uniq (parts 43 s.data.toList) by rw [HL.out]; rfl] at *
           have HR3 := Lib.hid hr3
           have HB3 := Lib.hid hb3
           have HCL := Lib.hid (contains_long _ g3 cap3 _ w3 hr3 (by have := compact_len (L.mergeSort leW); rw [List.length_mergeSort] at this; rw [HL.out]; exact Nat.le_trans this (by omega)))
           clear hr3 hb3)
        | (go_at_call 223; refine HCL.out.mono ?_; rintro e w4 ⟨rfl, q, rfl⟩))
      · have hor : (5 : Int) < ((uniq (parts 43 s.data.toList)).length : Int) ∨ (uniq (parts 43 s.data.toList)).any longB = true := by assumption
        have h4 : scopeN s.data.toList = 4 := scopeN_limit H0.out HALL.out (hor.elim (fun h => .inl (by omega)) .inr)
        go_ret2
        exact ⟨_, by rw [h4]; rfl, .inl ⟨rfl, scopeL_bad (by rw [h4]; decide)⟩, below_drewN HB3.out q⟩
      · have hand : ((uniq (parts 43 s.data.toList)).length : Int) ≤ 5 ∧ (uniq (parts 43 s.data.toList)).any longB = false := by assumption
        have h0 := scopeN_fine H0.out HALL.out (by omega) hand.2
        go_ret2
        exact ⟨_, by rw [h0.1]; rfl, .inr (by rw [h0.2]; exact HR3.out.drewN q), below_drewN HB3.out q⟩
      · have hgt : (5 : Int) < ((uniq (parts 43 s.data.toList)).length : Int) := by assumption
        have h4 : scopeN s.data.toList = 4 := scopeN_limit H0.out HALL.out (.inl (by omega))
        go_ret2
        exact ⟨_, by rw [h4]; rfl, .inl ⟨rfl, scopeL_bad (by rw [h4]; decide)⟩, HB3.out⟩

theorem scope_read (s : ByteArray) (W : World) (hs : s.size ≤ 5000) (hm : MaxL W) : Calls Tryz.prog 182 #[.string s] W (ScopeGot s W) := by
  by_cases h0 : s.data.toList = []
  · obtain rfl : s = ⟨#[]⟩ := by rw [← txt_data s, h0]; rfl
    exact scope_read_nil W
  · exact scope_read_some s W hs hm h0

theorem errV_not {n : Int} (h : n ≠ 0) : errV n = .iface 57 (.int .i64 n) := if_neg h
theorem leastL_bad {s : List UInt8} (h : scopeN s ≠ 0) : leastL s = [] := by unfold leastL; rw [scopeL_bad h]; rfl
/-- a text and an error -/
theorem scope_least_any (s : ByteArray) (W : World) (hs : s.size ≤ 5000) (hm : MaxL W) :
    Calls Tryz.prog 126 #[.string s] W fun e w' => e = .returned (.tuple #[.string (txt (leastL s.data.toList)), errV (scopeN s.data.toList)]) ∧ Below W.heap.size W w' := by
  have H := Lib.hid (scope_read s W hs hm)
  clear hm
  by_cases h0 : scopeN s.data.toList = 0
  · have E := Lib.hid (show errV (scopeN s.data.toList) = .nilIface by rw [h0]; rfl)
    clear h0
    go_enter Tryz.func126, Tryz.ntmps126
    go_wp2_with
      (first
      | (go_at_call 182; refine H.out.mono ?_; rintro e w1 ⟨v, rfl, hr, hb⟩
         rw [E.out]
         have HJ := Lib.hid (join_scope hr)
         have HB := Lib.hid hb
         clear hr hb)
      | (go_at_call 50; refine HJ.out.mono ?_; rintro e w2 ⟨rfl, hb⟩
         have HB2 := Lib.hid (HB.out.trans (hb.mono HB.out.size))
         clear hb))
    go_ret2
    exact ⟨by rw [E.out]; rfl, HB2.out⟩
  · have E := Lib.hid (errV_not h0)
    have L := Lib.hid (leastL_bad h0)
    clear h0
    go_enter Tryz.func126, Tryz.ntmps126
    go_wp2_with
      (go_at_call 182; refine H.out.mono ?_; rintro e w1 ⟨v, rfl, hr, hb⟩
       rw [E.out]
       have HB := Lib.hid hb
       clear hr hb)
    go_ret2
    exact ⟨by rw [E.out, L.out]; rfl, HB.out⟩
end Go.Proofs.YtepjcdjpikbbjaaGreatDoor

/-
  event.right: may an event be?
-/
namespace Go.Proofs.YtepjcdjpikbbjaaGreatDoor
open Go.RowKit Go.Sort

/-- what event.right and the reference's May know while they run: the packages' variables, and the blocks of the event and of its family -/
structure ER (T : TypeId) (W : World) (e : Ev) (w : World) : Prop where
  below : Below W.heap.size W w
  maxl : MaxL w
  ev : Blk w W.heap.size T (evCs e)
  fam : Blk w (W.heap.size + 1) 95 (famCs e.fam)
theorem ER.keep {T : TypeId} {W w w' : World} {e : Ev} (h : ER T W e w) (hb : Below w.heap.size w w') : ER T W e w' :=
  ⟨below_2 h.below hb, h.maxl.below' hb, h.ev.below' hb, h.fam.below' hb⟩
theorem ER.start {T : TypeId} {W : World} (hm : MaxL W) (e : Ev) : ER T W e ((W.alloc (.cells (evCs e) T)).alloc (.cells (famCs e.fam) 95)) := by
  have hb : Below W.heap.size W ((W.alloc (.cells (evCs e) T)).alloc (.cells (famCs e.fam) 95)) := ((Below.refl _ _).alloc (Nat.le_refl _) _).alloc (by simp) _
  refine ⟨hb, hm.below' hb, (Blk.new W _ _).alloc _, ?_⟩
  have := Blk.new (W.alloc (.cells (evCs e) T)) 95 (famCs e.fam)
  simpa using this
theorem ER.cells {T : TypeId} {W w : World} {k i : Int} {cl su sc : ByteArray} {ge ma us : Int} {re : ByteArray} {de : Bool} {id ti : Int} (h : ER T W ⟨k, ⟨i, cl, su, sc, ge, ma, us, re, de⟩, id, ti⟩ w) :
    w.cell? ⟨W.heap.size, 0, none⟩ = some (.int .i64 k) ∧ w.cell? ⟨W.heap.size, 10, none⟩ = some (.int .i64 id) ∧ w.cell? ⟨W.heap.size, 11, none⟩ = some (.int .i64 ti) ∧
    w.cell? ⟨W.heap.size + 1, 0, none⟩ = some (.int .i64 i) ∧ w.cell? ⟨W.heap.size + 1, 1, none⟩ = some (.string cl) ∧ w.cell? ⟨W.heap.size + 1, 2, none⟩ = some (.string su) ∧ w.cell? ⟨W.heap.size + 1, 3, none⟩ = some (.string sc) ∧ w.cell? ⟨W.heap.size + 1, 4, none⟩ = some (.int .i64 ge) ∧
    w.cell? ⟨W.heap.size + 1, 5, none⟩ = some (.int .i64 ma) ∧ w.cell? ⟨W.heap.size + 1, 6, none⟩ = some (.int .i64 us) ∧ w.cell? ⟨W.heap.size + 1, 7, none⟩ = some (.string re) ∧ w.cell? ⟨W.heap.size + 1, 8, none⟩ = some (.bool de) :=
  ⟨h.ev.cell 0, h.ev.cell 10, h.ev.cell 11, h.fam.cell 0, h.fam.cell 1, h.fam.cell 2, h.fam.cell 3, h.fam.cell 4, h.fam.cell 5, h.fam.cell 6, h.fam.cell 7, h.fam.cell 8⟩
set_option maxHeartbeats 16000000 in
set_option maxRecDepth 100000 in
theorem right_put (e : Ev) (W : World) (hk : e.kind = 1) (hs : e.fam.short 5000) (hm : MaxL W) :
    Calls Tryz.prog 159 #[evVal e] W fun x w' => x = .returned (.bool (evB e)) ∧ Below W.heap.size W w' := by
  have hr : evB e = (decide (e.id = 0) && decide (e.time = 0) && famB e.fam) := by unfold evB; rw [if_pos hk]
  have HS := Lib.hid (ER.start (T := 116) hm e)
  obtain ⟨k, ⟨i, cl, su, sc, ge, ma, us, re, de⟩, id, ti⟩ := e
  dsimp only at hk
  subst hk
  obtain ⟨s1, s2, s3, s4⟩ := hs
  dsimp only at s1 s2 s3 s4 hr
  unfold famB at hr
  dsimp only at hr
  have h1 : (id == 0) = decide (id = 0) := by rw [Bool.eq_iff_iff]; simp
  have h2 : (ti == 0) = decide (ti = 0) := by rw [Bool.eq_iff_iff]; simp
  have HW : Hid (∀ (g : Nat) (w : World), IntsAt w g [i, ge, ma, us] → Calls Tryz.prog 205 #[.slice (some ⟨g, 0, none⟩) 4 4] w fun e w' => e = .returned (.bool ([i, ge, ma, us].all okN)) ∧ Below w.heap.size w w') := Lib.hid fun g w h => ev_within g 4 [i, ge, ma, us] w h (show 4 ≤ 1000000 by decide)
  rw [four_ok] at HW
  have HN1 := Lib.hid (fun w => ev_name cl w s1)
  have HN2 := Lib.hid (fun w => ev_name su w s2)
  have HN3 := Lib.hid (fun w => ev_name re w s4)
  have HL := Lib.hid (fun w (h : MaxL w) => scope_least_any sc w s3 h)
  have h6 := empty_list (s := re)
  have h8 := scope_eq (txt (leastL sc.data.toList)) sc _ rfl
  have h9 : scopeB sc.data.toList = (decide (scopeN sc.data.toList = 0) && decide (leastL sc.data.toList = sc.data.toList)) := rfl
  have h10 : reqB re.data.toList = (decide (re.data.toList = []) || nameB re.data.toList) := rfl
  rw [h9, h10] at hr
  clear hm h9 h10
  generalize txt (leastL sc.data.toList) = y at *
  have hb : (okN i && okN ge && okN ma && okN us && nameB cl.data.toList && nameB su.data.toList && (decide (re.data.toList = []) || nameB re.data.toList) && (decide (scopeN sc.data.toList = 0) && decide (leastL sc.data.toList = sc.data.toList))) = ((okN i && okN ge && okN ma && okN us) && nameB cl.data.toList && nameB su.data.toList && (decide (re.data.toList = []) || nameB re.data.toList) && (decide (scopeN sc.data.toList = 0) && decide (leastL sc.data.toList = sc.data.toList))) := rfl
  rw [hb] at hr
  clear hb
  have hE : (decide (scopeN sc.data.toList = 0) = true ∧ errV (scopeN sc.data.toList) = .nilIface) ∨ (decide (scopeN sc.data.toList = 0) = false ∧ ∃ n, errV (scopeN sc.data.toList) = .iface 57 (.int .i64 n)) := by
    by_cases h : scopeN sc.data.toList = 0
    · exact .inl ⟨by simpa using h, if_pos h⟩
    · exact .inr ⟨by simpa using h, _, if_neg h⟩
  generalize errV (scopeN sc.data.toList) = ev at *
  generalize decide (scopeN sc.data.toList = 0) = b8 at *
  generalize decide (leastL sc.data.toList = sc.data.toList) = b9 at *
  generalize nameB cl.data.toList = b4 at *
  generalize nameB su.data.toList = b5 at *
  generalize nameB re.data.toList = b7 at *
  generalize decide (re.data.toList = []) = b6 at *
  generalize (okN i && okN ge && okN ma && okN us) = b3 at *
  generalize decide (id = 0) = b1 at *
  generalize decide (ti = 0) = b2 at *
  have HR := Lib.hid hr
  have H1 := Lib.hid h1
  have H2 := Lib.hid h2
  have H6 := Lib.hid h6
  clear hr h1 h2 h6
  unfold evVal evCs
  dsimp only
  go_enter Tryz.func159, Tryz.ntmps159
  go_wp2_with fail
  have HC := HS
  go_at_call 126
  refine (HL.out _ HC.out.maxl).mono ?_
  rintro x w' ⟨rfl, hb⟩
  have HC := Lib.hid (HC.out.keep hb)
  clear hb
  obtain ⟨c0, c1, c2, d0, d1, d2, d3, d4, d5, d6, d7, d8⟩ := HC.out.cells
  have h1 := H1.out
  clear H1
  cases b1
  · go_wp2_with fail
    go_ret
    exact ⟨by rw [HR.out]; first | rfl | simp, HC.out.below⟩
  have h2 := H2.out
  clear H2
  cases b2
  · go_wp2_with fail
    go_ret
    exact ⟨by rw [HR.out]; first | rfl | simp, HC.out.below⟩
  go_wp2_with fail
  go_at_call 205
  refine (HW.out _ _ (ints_new _ 3 [i, ge, ma, us])).mono ?_
  rintro x w' ⟨rfl, hb⟩
  have HC := Lib.hid ((HC.out.keep ((Below.refl _ _).alloc (Nat.le_refl _) (.cells #[.int .i64 i, .int .i64 ge, .int .i64 ma, .int .i64 us] 3))).keep hb)
  clear hb c0 c1 c2 d0 d1 d2 d3 d4 d5 d6 d7 d8
  obtain ⟨c0, c1, c2, d0, d1, d2, d3, d4, d5, d6, d7, d8⟩ := HC.out.cells
  cases b3
  · go_wp2_with fail
    go_ret
    exact ⟨by rw [HR.out]; first | rfl | simp, HC.out.below⟩
  go_wp2_with fail
  go_at_call 178
  refine (HN1.out _).mono ?_
  rintro x w' ⟨rfl, hb⟩
  have HC := Lib.hid (HC.out.keep hb)
  clear hb c0 c1 c2 d0 d1 d2 d3 d4 d5 d6 d7 d8
  obtain ⟨c0, c1, c2, d0, d1, d2, d3, d4, d5, d6, d7, d8⟩ := HC.out.cells
  cases b4
  · go_wp2_with fail
    go_ret
    exact ⟨by rw [HR.out]; first | rfl | simp, HC.out.below⟩
  go_wp2_with fail
  go_at_call 178
  refine (HN2.out _).mono ?_
  rintro x w' ⟨rfl, hb⟩
  have HC := Lib.hid (HC.out.keep hb)
  clear hb c0 c1 c2 d0 d1 d2 d3 d4 d5 d6 d7 d8
  obtain ⟨c0, c1, c2, d0, d1, d2, d3, d4, d5, d6, d7, d8⟩ := HC.out.cells
  cases b5
  · go_wp2_with fail
    go_ret
    exact ⟨by rw [HR.out]; first | rfl | simp, HC.out.below⟩
  have h6 := H6.out
  clear H6
  cases b6
  · go_wp2_with fail
    go_at_call 178
    refine (HN3.out _).mono ?_
    rintro x w' ⟨rfl, hb⟩
    have HC := Lib.hid (HC.out.keep hb)
    clear hb c0 c1 c2 d0 d1 d2 d3 d4 d5 d6 d7 d8
    obtain ⟨c0, c1, c2, d0, d1, d2, d3, d4, d5, d6, d7, d8⟩ := HC.out.cells
    cases b7
    · go_wp2_with fail
      go_ret
      exact ⟨by rw [HR.out]; first | rfl | simp, HC.out.below⟩
    rcases hE with ⟨rfl, rfl⟩ | ⟨rfl, n, rfl⟩
    all_goals
      go_wp2_with fail
      go_ret
      exact ⟨by rw [HR.out]; first | rfl | simp, HC.out.below⟩
  · rcases hE with ⟨rfl, rfl⟩ | ⟨rfl, n, rfl⟩
    all_goals
      go_wp2_with fail
      go_ret
      exact ⟨by rw [HR.out]; first | rfl | simp, HC.out.below⟩
end Go.Proofs.YtepjcdjpikbbjaaGreatDoor

/-
  event.right at the other kinds, and at all.
-/
namespace Go.Proofs.YtepjcdjpikbbjaaGreatDoor
open Go.RowKit Go.Sort

set_option maxHeartbeats 16000000 in
set_option maxRecDepth 100000 in
theorem right_drop (e : Ev) (W : World) (hk : e.kind = 2 ∨ e.kind = 3) :
    Calls Tryz.prog 159 #[evVal e] W fun x w' => x = .returned (.bool (evB e)) ∧ Below W.heap.size W w' := by
  obtain ⟨a, b, hab⟩ : ∃ a b, ((e.kind = 2 ∧ a = e.time ∧ b = e.id) ∨ (e.kind = 3 ∧ a = e.id ∧ b = e.time)) := by
    rcases hk with h | h
    · exact ⟨_, _, .inl ⟨h, rfl, rfl⟩⟩
    · exact ⟨_, _, .inr ⟨h, rfl, rfl⟩⟩
  have HR := Lib.hid (right_num e.kind a b e rfl hab)
  have HW : Hid (∀ (g : Nat) (w : World), IntsAt w g [b] → Calls Tryz.prog 205 #[.slice (some ⟨g, 0, none⟩) 1 1] w fun e w' => e = .returned (.bool ([b].all okN)) ∧ Below w.heap.size w w') := Lib.hid fun g w h => ev_within g 1 [b] w h (show 1 ≤ 1000000 by decide)
  rw [one_ok] at HW
  clear hk
  obtain ⟨k, f, id, ti⟩ := e
  dsimp only at hab HR
  have hb : b = id ∨ b = ti := by rcases hab with ⟨-, -, h⟩ | ⟨-, -, h⟩ <;> simp [h]
  cases hz : f.isZero
  · have HX := Lib.hid hz
    have hev : Hid (evB ⟨k, f, id, ti⟩ = false) := Lib.hid (by rw [HR.out, hz]; rfl)
    clear HR hz
    generalize hX : evB ⟨k, f, id, ti⟩ = X at *
    clear hX
    obtain ⟨i, cl, su, sc, ge, ma, us, re, de⟩ := f
    unfold evVal evCs
    dsimp only
    rcases hab with ⟨rfl, rfl, rfl⟩ | ⟨rfl, rfl, rfl⟩
    all_goals
      go_enter Tryz.func159, Tryz.ntmps159
      go_wp2_with fail
      all_goals first
        | (go_ret
           exact ⟨by rw [hev.out]; rfl, alloc2 _ _ _⟩)
        | exact (zero_of (by assumption) (by assumption) (by assumption) (by assumption) (by assumption) (by assumption) (by assumption) (by assumption) (by assumption) HX.out).elim
  · obtain rfl := Fam.isZero_iff.1 hz
    clear hz
    have hz2 : Fam.zero.isZero = true := Fam.isZero_iff.2 rfl
    rw [hz2] at HR
    clear hz2
    generalize hX : evB ⟨k, Fam.zero, id, ti⟩ = X at *
    clear hX
    unfold evVal evCs Fam.zero
    dsimp only
    by_cases h0 : a = 0
    · have h0' : decide (a = 0) = true := by simpa using h0
      rw [h0'] at HR
      rcases hab with ⟨rfl, h1, rfl⟩ | ⟨rfl, h1, rfl⟩
      all_goals
        subst h1
        subst h0
        go_enter Tryz.func159, Tryz.ntmps159
        go_wp2_with (go_at_call 205; refine (HW.out _ _ (ints_2 W _ _ 3 b)).mono ?_; rintro x w' ⟨rfl, hb⟩; have HB := Lib.hid (alloc3 _ _ _ hb); clear hb)
        go_ret
        exact ⟨by rw [HR.out]; rfl, HB.out⟩
    · have h0' : decide (a = 0) = false := by simpa using h0
      rw [h0'] at HR
      have h0b : (a == 0) = false := by simpa using h0
      rcases hab with ⟨rfl, rfl, rfl⟩ | ⟨rfl, rfl, rfl⟩
      all_goals
        go_enter Tryz.func159, Tryz.ntmps159
        go_wp2_with fail
        go_ret
        exact ⟨by rw [HR.out]; rfl, alloc2 _ _ _⟩

set_option maxHeartbeats 4000000 in
set_option maxRecDepth 100000 in
theorem right_odd (e : Ev) (W : World) (h1 : e.kind ≠ 1) (h2 : e.kind ≠ 2) (h3 : e.kind ≠ 3) :
    Calls Tryz.prog 159 #[evVal e] W fun x w' => x = .returned (.bool (evB e)) ∧ Below W.heap.size W w' := by
  have HR : Hid (evB e = false) := Lib.hid (by unfold evB; rw [if_neg h1, if_neg h2, if_neg h3])
  obtain ⟨k, ⟨i, cl, su, sc, ge, ma, us, re, de⟩, id, ti⟩ := e
  dsimp only at h1 h2 h3
  have e1 : (k == 1) = false := by simpa using h1
  have e2 : (k == 2) = false := by simpa using h2
  have e3 : (k == 3) = false := by simpa using h3
  clear h1 h2 h3
  unfold evVal evCs
  dsimp only
  go_enter Tryz.func159, Tryz.ntmps159
  go_wp2_with fail
  go_ret
  exact ⟨by rw [HR.out]; rfl, alloc2 _ _ _⟩
theorem ev_right (e : Ev) (W : World) (hs : e.fam.short 5000) (hm : MaxL W) :
    Calls Tryz.prog 159 #[evVal e] W fun x w' => x = .returned (.bool (evB e)) ∧ Below W.heap.size W w' := by
  by_cases h1 : e.kind = 1
  · exact right_put e W h1 hs hm
  · by_cases h2 : e.kind = 2
    · exact right_drop e W (.inl h2)
    · by_cases h3 : e.kind = 3
      · exact right_drop e W (.inr h3)
      · exact right_odd e W h1 h2 h3
end Go.Proofs.YtepjcdjpikbbjaaGreatDoor

/-
  strconv.Itoa, told by Below; the table kept.
-/
namespace Go.Proofs.YtepjcdjpikbbjaaGreatDoor
open Go.RowKit Go.Sort

def Tens (w : World) : Prop := Lib.TabIs Tryz.prog w "internal/strconv.uint64pow10" .u64 Lib.pow10Tab
theorem tens_g : Tryz.prog.globalNamed "internal/strconv.uint64pow10" = some 7 := by kernel_rfl
theorem Tens.below {B : Nat} {w w' : World} (h : Tens w) (hb : Below B w w') (hB : 7 < B) : Tens w' := by
  unfold Tens Lib.TabIs at *
  unfold World.var? at *
  simp only [tens_g, Option.bind_some] at h ⊢
  rw [hb.block _ hB]
  exact h
theorem Tens.lt {w : World} (h : Tens w) : 7 < w.heap.size := by
  have h1 := Lib.TabIs.cell h tens_g 0 (by decide)
  rcases Nat.lt_or_ge 7 w.heap.size with h' | h'
  · exact h'
  · simp [World.cell?, Array.getElem?_eq_none h'] at h1
theorem below_grown (w : World) (k : Nat) (os : Array Obj) : Below w.heap.size w (grow (w.drewN k) os) := by
  refine ⟨rfl, rfl, rfl, ?_, fun i hi => ?_⟩
  · show w.heap.size ≤ (w.heap ++ os).size
    simp
  · show (w.heap ++ os)[i]? = w.heap[i]?
    rw [Array.getElem?_append_left hi]

def itoS (x : Int) : ByteArray := ⟨(Lib.itoa x).toArray⟩
theorem itoS_size (x : Int) (hx : okN x = true) : (itoS x).size ≤ 21 := by
  have h : 0 ≤ x ∧ x ≤ 1099511627776 := by simpa [okN] using hx
  show (Lib.itoa x).toArray.size ≤ 21
  rw [List.size_toArray]
  exact Lib.itoa_length_le x (by omega) (by omega)
theorem itoa_c (x : Int) (hx : okN x = true) (w : World) (hT : Tens w) :
    Calls Tryz.prog 26 #[.int .i64 x] w fun e w' => e = .returned (.string (itoS x)) ∧ Below w.heap.size w w' := by
  have h : 0 ≤ x ∧ x ≤ 1099511627776 := by simpa [okN] using hx
  refine (Tryz.strconv_Itoa x (by omega) (by omega) w hT).mono ?_
  rintro e w' ⟨rfl, k, os, rfl⟩
  exact ⟨rfl, below_grown w k os⟩
theorem keep_body {W w w' : World} {x y z : Value} (h1 : w.cell? ⟨W.heap.size, 1, none⟩ = some x) (h2 : w.cell? ⟨W.heap.size, 2, none⟩ = some y) (h3 : w.cell? ⟨W.heap.size, 3, none⟩ = some z)
    (hT : Tens w) (hB : Below W.heap.size W w) (hb : Below w.heap.size w w') :
    w'.cell? ⟨W.heap.size, 1, none⟩ = some x ∧ w'.cell? ⟨W.heap.size, 2, none⟩ = some y ∧ w'.cell? ⟨W.heap.size, 3, none⟩ = some z ∧ Tens w' ∧ Below W.heap.size W w' := by
  have hlt : W.heap.size < w.heap.size := World.block_lt_of_cell? w _ h1
  refine ⟨?_, ?_, ?_, hT.below hb hT.lt, hB.trans (hb.mono hB.size)⟩
  · rw [hb.cell (p := ⟨W.heap.size, 1, none⟩) hlt]; exact h1
  · rw [hb.cell (p := ⟨W.heap.size, 2, none⟩) hlt]; exact h2
  · rw [hb.cell (p := ⟨W.heap.size, 3, none⟩) hlt]; exact h3
end Go.Proofs.YtepjcdjpikbbjaaGreatDoor

/-
  word, by the program and by the reference; strings.Join of ten new words; what is known while an event is written.
-/
namespace Go.Proofs.YtepjcdjpikbbjaaGreatDoor
open Go.RowKit Go.Sort

theorem wordL_txt (s : ByteArray) : s.toList.isEmpty = true → txt (wordL s.data.toList) = ⟨#[95]⟩ := by
  intro h
  rw [empty_list, decide_eq_true_eq] at h
  rw [h]
  rfl
theorem wordL_same (s : ByteArray) : s.toList.isEmpty = false → txt (wordL s.data.toList) = s := by
  intro h
  rw [empty_list, decide_eq_false_iff_not] at h
  unfold wordL
  rw [if_neg h, txt_data]
theorem ev_word (s : ByteArray) (w : World) : Calls Tryz.prog 227 #[.string s] w fun e w' => e = .returned (.string (txt (wordL s.data.toList))) ∧ w = w' := by
  cases h : s.toList.isEmpty
  · have H := Lib.hid (wordL_same s h)
    go_enter Tryz.func227, Tryz.ntmps227
    go_wp2_with fail
    go_ret
    exact ⟨by rw [H.out]; rfl, rfl⟩
  · have H := Lib.hid (wordL_txt s h)
    go_enter Tryz.func227, Tryz.ntmps227
    go_wp2_with fail
    go_ret
    exact ⟨by rw [H.out]; rfl, rfl⟩
theorem glue_length (c : UInt8) (n : Nat) : ∀ ws : List (List UInt8), (∀ w ∈ ws, w.length ≤ n) → (glue c ws).length ≤ (n + 1) * ws.length
  | [], _ => by simp [glue]
  | [w], h => by have := h w (by simp); simp [glue]; omega
  | w :: v :: r, h => by
    have := h w (by simp)
    have ih := glue_length c n (v :: r) fun x hx => h x (List.mem_cons_of_mem _ hx)
    rw [glue]
    simp only [List.length_append, List.length_cons, Nat.mul_add] at ih ⊢
    omega
theorem join_new (c : UInt8) (w : World) (L : List (List UInt8)) (hL : L.length ≤ 100) (hw : ∀ x ∈ L, x.length ≤ 900) :
    Calls Tryz.prog 50 #[.slice (some ⟨w.heap.size, 0, none⟩) L.length L.length, .string ⟨#[c]⟩] (w.alloc (.cells (L.map encStr).toArray 9)) fun e w' => e = .returned (.string (txt (glue c L))) ∧ Below (w.alloc (.cells (L.map encStr).toArray 9)).heap.size (w.alloc (.cells (L.map encStr).toArray 9)) w' := by
  have hg := glue_length c 900 L hw
  exact join_row c (Row.new (w := w) (L := L) (Nat.le_refl _) (by unfold maxLen; omega)) (by omega) (by omega)
theorem enc_data (s : ByteArray) : encStr s.data.toList = .string s := by unfold encStr; congr 1
theorem join_ten (w : World) (a b c d e f g h i j : ByteArray) (z : a.size ≤ 900 ∧ b.size ≤ 900 ∧ c.size ≤ 900 ∧ d.size ≤ 900 ∧ e.size ≤ 900 ∧ f.size ≤ 900 ∧ g.size ≤ 900 ∧ h.size ≤ 900 ∧ i.size ≤ 900 ∧ j.size ≤ 900) :
    Calls Tryz.prog 50 #[.slice (some ⟨w.heap.size, 0, none⟩) 10 10, .string ⟨#[32]⟩] (w.alloc (.cells #[.string a, .string b, .string c, .string d, .string e, .string f, .string g, .string h, .string i, .string j] 9))
      fun x w' => x = .returned (.string (txt (glue 32 [a.data.toList, b.data.toList, c.data.toList, d.data.toList, e.data.toList, f.data.toList, g.data.toList, h.data.toList, i.data.toList, j.data.toList]))) ∧ Below (w.alloc (.cells #[.string a, .string b, .string c, .string d, .string e, .string f, .string g, .string h, .string i, .string j] 9)).heap.size (w.alloc (.cells #[.string a, .string b, .string c, .string d, .string e, .string f, .string g, .string h, .string i, .string j] 9)) w' := by
  have hj := join_new 32 w [a.data.toList, b.data.toList, c.data.toList, d.data.toList, e.data.toList, f.data.toList, g.data.toList, h.data.toList, i.data.toList, j.data.toList] (show 10 ≤ 100 by decide) (by
    intro x hx
    simp only [List.mem_cons, List.not_mem_nil, or_false] at hx
    rcases hx with rfl | rfl | rfl | rfl | rfl | rfl | rfl | rfl | rfl | rfl
    all_goals rw [size_data]; omega)
  simp only [List.map_cons, List.map_nil, enc_data] at hj
  exact hj

/-- the number table, and that nothing of the caller's has turned -/
structure WB (W w : World) : Prop where
  below : Below W.heap.size W w
  tens : Tens w
  maxl : MaxL w
theorem WB.keep {W w w' : World} (h : WB W w) (hb : Below w.heap.size w w') : WB W w' := ⟨below_2 h.below hb, h.tens.below hb h.tens.lt, h.maxl.below' hb⟩
theorem WB.drew {W w : World} (h : WB W w) : WB W w.drew := ⟨⟨h.below.os, h.below.tape, h.below.output, h.below.size, h.below.block⟩, h.tens, h.maxl⟩
theorem keep_fam {W w w' : World} {g : Nat} {v0 v1 v2 v3 v4 v5 v6 v7 : Value} (h0 : w.cell? ⟨g, 0, none⟩ = some v0) (h1 : w.cell? ⟨g, 1, none⟩ = some v1) (h2 : w.cell? ⟨g, 2, none⟩ = some v2) (h3 : w.cell? ⟨g, 3, none⟩ = some v3)
    (h4 : w.cell? ⟨g, 4, none⟩ = some v4) (h5 : w.cell? ⟨g, 5, none⟩ = some v5) (h6 : w.cell? ⟨g, 6, none⟩ = some v6) (h7 : w.cell? ⟨g, 7, none⟩ = some v7) (hW : WB W w) (hb : Below w.heap.size w w') :
    w'.cell? ⟨g, 0, none⟩ = some v0 ∧ w'.cell? ⟨g, 1, none⟩ = some v1 ∧ w'.cell? ⟨g, 2, none⟩ = some v2 ∧ w'.cell? ⟨g, 3, none⟩ = some v3 ∧ w'.cell? ⟨g, 4, none⟩ = some v4 ∧ w'.cell? ⟨g, 5, none⟩ = some v5 ∧ w'.cell? ⟨g, 6, none⟩ = some v6 ∧ w'.cell? ⟨g, 7, none⟩ = some v7 ∧ WB W w' := by
  have hlt : g < w.heap.size := World.block_lt_of_cell? w _ h0
  refine ⟨?_, ?_, ?_, ?_, ?_, ?_, ?_, ?_, hW.keep hb⟩
  · rw [hb.cell (p := ⟨g, 0, none⟩) hlt]; exact h0
  · rw [hb.cell (p := ⟨g, 1, none⟩) hlt]; exact h1
  · rw [hb.cell (p := ⟨g, 2, none⟩) hlt]; exact h2
  · rw [hb.cell (p := ⟨g, 3, none⟩) hlt]; exact h3
  · rw [hb.cell (p := ⟨g, 4, none⟩) hlt]; exact h4
  · rw [hb.cell (p := ⟨g, 5, none⟩) hlt]; exact h5
  · rw [hb.cell (p := ⟨g, 6, none⟩) hlt]; exact h6
  · rw [hb.cell (p := ⟨g, 7, none⟩) hlt]; exact h7
end Go.Proofs.YtepjcdjpikbbjaaGreatDoor

/-
  event.Write: an event's line, or that it may not be.
-/
namespace Go.Proofs.YtepjcdjpikbbjaaGreatDoor
open Go.RowKit Go.Sort

/-- what is known while an event is written -/
structure EW (T : TypeId) (W : World) (e : Ev) (w : World) : Prop where
  wb : WB W w
  ev : Blk w W.heap.size T (evCs e)
theorem EW.keep {T : TypeId} {W w w' : World} {e : Ev} (h : EW T W e w) (hb : Below w.heap.size w w') : EW T W e w' := ⟨h.wb.keep hb, h.ev.below' hb⟩
theorem WB.alloc {W w : World} (h : WB W w) (o : Obj) : WB W (w.alloc o) := h.keep ((Below.refl _ _).alloc (Nat.le_refl _) o)
theorem EW.start {T : TypeId} {W : World} (h : WB W W) (e : Ev) : EW T W e (W.alloc (.cells (evCs e) T)) := ⟨h.alloc _, Blk.new W T _⟩
theorem WB.self {W w : World} (h : WB W w) : WB w w := ⟨Below.refl _ _, h.tens, h.maxl⟩

set_option maxHeartbeats 4000000 in
theorem write_no (e : Ev) (W : World) (hs : e.fam.short 5000) (h : WB W W) (hn : evB e = false) :
    Calls Tryz.prog 186 #[evVal e] W fun x w' => x = .returned (.tuple #[.string ⟨#[]⟩, .iface 57 (.int .i64 1)]) ∧ Below W.heap.size W w' := by
  have HR := Lib.hid (fun w (hm : MaxL w) => ev_right e w hs hm)
  rw [hn] at HR
  have H0 := Lib.hid (EW.start (T := 116) h e)
  obtain ⟨k, ⟨i, cl, su, sc, ge, ma, us, re, de⟩, id, ti⟩ := e
  clear hs hn h
  unfold evVal evCs at *
  dsimp only at *
  go_enter Tryz.func186, Tryz.ntmps186
  go_wp2_with fail
  go_at_call 159
  refine (HR.out _ H0.out.wb.maxl).mono ?_
  rintro x w1 ⟨rfl, hb⟩
  have H1 := Lib.hid (H0.out.keep hb)
  clear hb
  go_wp2_with fail
  go_ret2
  exact ⟨rfl, H1.out.wb.below⟩

theorem add2 (a b : UInt8) (x : ByteArray) (hx : x.size ≤ 900) (w : World) : (Op.stringOp .add ⟨#[a, b]⟩ x).run Tryz.prog w = .ok (.string (⟨#[a, b]⟩ ++ x)) w :=
  run_string_add_sum w _ _ (by show 2 + x.size ≤ _; omega)
theorem line_2 {e : Ev} (h : e.kind = 2) : (⟨#[100, 32]⟩ : ByteArray) ++ itoS e.id = txt (evL e) := by
  unfold evL
  rw [evW_2 h]
  show txt [100, 32] ++ txt (Lib.itoa e.id) = _
  rw [txt_app]
  rfl
theorem line_3 {e : Ev} (h : e.kind = 3) : (⟨#[99, 32]⟩ : ByteArray) ++ itoS e.time = txt (evL e) := by
  unfold evL
  rw [evW_3 h]
  show txt [99, 32] ++ txt (Lib.itoa e.time) = _
  rw [txt_app]
  rfl
theorem itoS_900 {x : Int} (h : okN x = true) : (itoS x).size ≤ 900 := by
  have := itoS_size x h
  omega

set_option maxHeartbeats 4000000 in
theorem write_num (e : Ev) (W : World) (hs : e.fam.short 5000) (h : WB W W) (hy : evB e = true) (hk : e.kind = 2 ∨ e.kind = 3) :
    Calls Tryz.prog 186 #[evVal e] W fun x w' => x = .returned (.tuple #[.string (txt (evL e)), .nilIface]) ∧ Below W.heap.size W w' := by
  have HR := Lib.hid (fun w (hm : MaxL w) => ev_right e w hs hm)
  rw [hy] at HR
  have H0 := Lib.hid (EW.start (T := 116) h e)
  have hc := evB_kind hy
  rcases hk with hk | hk
  · have hn : okN e.id = true := by
      rcases hc with ⟨h1, _⟩ | ⟨_, _, _, h2⟩ | ⟨h1, _⟩
      · omega
      · exact h2
      · omega
    have HL := Lib.hid (line_2 hk)
    have hz := itoS_900 hn
    have HI := Lib.hid (fun w hT => itoa_c e.id hn w hT)
    generalize txt (evL e) = line at *
    obtain ⟨k, ⟨i, cl, su, sc, ge, ma, us, re, de⟩, id, ti⟩ := e
    dsimp only at hk
    subst hk
    clear hs hy h hc hn
    unfold evVal evCs at *
    dsimp only at *
    have ha := add2 100 32 _ hz
    generalize itoS id = y at *
    go_enter Tryz.func186, Tryz.ntmps186
    go_wp2_with fail
    go_at_call 159
    refine (HR.out _ H0.out.wb.maxl).mono ?_
    rintro x w1 ⟨rfl, hb⟩
    have H1 := Lib.hid (H0.out.keep hb)
    clear hb
    obtain ⟨c0, c1, c2, c3, c4, c5, c6, c7, c8, c9, c10, c11⟩ := ev_cells H1.out.ev
    go_wp2_with fail
    go_at_call 26
    refine (HI.out _ H1.out.wb.tens).mono ?_
    rintro x w2 ⟨rfl, hb⟩
    have H2 := Lib.hid (H1.out.keep hb)
    clear hb
    go_wp2_with fail
    go_ret2
    exact ⟨by rw [← HL.out]; rfl, H2.out.wb.below⟩
  · have hn : okN e.time = true := by
      rcases hc with ⟨h1, _⟩ | ⟨h1, _⟩ | ⟨_, _, _, h2⟩
      · omega
      · omega
      · exact h2
    have HL := Lib.hid (line_3 hk)
    have hz := itoS_900 hn
    have HI := Lib.hid (fun w hT => itoa_c e.time hn w hT)
    generalize txt (evL e) = line at *
    obtain ⟨k, ⟨i, cl, su, sc, ge, ma, us, re, de⟩, id, ti⟩ := e
    dsimp only at hk
    subst hk
    clear hs hy h hc hn
    unfold evVal evCs at *
    dsimp only at *
    have ha := add2 99 32 _ hz
    generalize itoS ti = y at *
    go_enter Tryz.func186, Tryz.ntmps186
    go_wp2_with fail
    go_at_call 159
    refine (HR.out _ H0.out.wb.maxl).mono ?_
    rintro x w1 ⟨rfl, hb⟩
    have H1 := Lib.hid (H0.out.keep hb)
    clear hb
    obtain ⟨c0, c1, c2, c3, c4, c5, c6, c7, c8, c9, c10, c11⟩ := ev_cells H1.out.ev
    go_wp2_with fail
    go_at_call 26
    refine (HI.out _ H1.out.wb.tens).mono ?_
    rintro x w2 ⟨rfl, hb⟩
    have H2 := Lib.hid (H1.out.keep hb)
    clear hb
    go_wp2_with fail
    go_ret2
    exact ⟨by rw [← HL.out]; rfl, H2.out.wb.below⟩
end Go.Proofs.YtepjcdjpikbbjaaGreatDoor

/-
  event.Write at a family that is put; and at all.
-/
namespace Go.Proofs.YtepjcdjpikbbjaaGreatDoor
open Go.RowKit Go.Sort

theorem wordL_len {l : List UInt8} {n : Nat} (h : l.length ≤ n) (hn : 1 ≤ n) : (wordL l).length ≤ n := by
  unfold wordL
  split
  · simpa using hn
  · exact h
theorem reqB_len {l : List UInt8} (h : reqB l = true) : l.length ≤ 20 := by
  unfold reqB at h
  rw [Bool.or_eq_true, decide_eq_true_eq] at h
  rcases h with rfl | h
  · simp
  · exact nameB_len h
theorem line_1 {k i : Int} {cl su sc : ByteArray} {ge ma us : Int} {re : ByteArray} {de : Bool} {id ti : Int} (h : k = 1) (d : ByteArray) (hd : d.data.toList = deadL de) :
    txt (glue 32 [(⟨#[112]⟩ : ByteArray).data.toList, (itoS i).data.toList, cl.data.toList, su.data.toList, (txt (wordL sc.data.toList)).data.toList, (itoS ge).data.toList, (itoS ma).data.toList, (itoS us).data.toList, (txt (wordL re.data.toList)).data.toList, d.data.toList]) = txt (evL ⟨k, ⟨i, cl, su, sc, ge, ma, us, re, de⟩, id, ti⟩) := by
  unfold evL
  rw [evW_1 h, hd, data_txt, data_txt]
  rfl

set_option maxHeartbeats 8000000 in
set_option maxRecDepth 100000 in
theorem write_put (e : Ev) (W : World) (hs : e.fam.short 5000) (h : WB W W) (hy : evB e = true) (hk : e.kind = 1) :
    Calls Tryz.prog 186 #[evVal e] W fun x w' => x = .returned (.tuple #[.string (txt (evL e)), .nilIface]) ∧ Below W.heap.size W w' := by
  have HR := Lib.hid (fun w (hm : MaxL w) => ev_right e w hs hm)
  rw [hy] at HR
  have H0 := Lib.hid (EW.start (T := 116) h e)
  have hf : famB e.fam = true := by
    rcases evB_kind hy with ⟨_, _, _, h2⟩ | ⟨h1, _⟩ | ⟨h1, _⟩
    · exact h2
    · omega
    · omega
  obtain ⟨k, ⟨i, cl, su, sc, ge, ma, us, re, de⟩, id, ti⟩ := e
  dsimp only at hk hf
  obtain ⟨n1, n2, n3, n4, n5, n6, n7, n8⟩ := famB_parts hf
  dsimp only at n1 n2 n3 n4 n5 n6 n7 n8
  have z0 : (⟨#[112]⟩ : ByteArray).size ≤ 900 := by decide
  have z1 := itoS_900 n1
  have z2 : cl.size ≤ 900 := by have := nameB_len n5; rw [size_data] at this; omega
  have z3 : su.size ≤ 900 := by have := nameB_len n6; rw [size_data] at this; omega
  have z4 : (txt (wordL sc.data.toList)).size ≤ 900 := by rw [txt_size]; have := wordL_len (scopeB_len n8) (by decide); omega
  have z5 := itoS_900 n2
  have z6 := itoS_900 n3
  have z7 := itoS_900 n4
  have z8 : (txt (wordL re.data.toList)).size ≤ 900 := by rw [txt_size]; have := wordL_len (reqB_len n7) (by decide); omega
  obtain ⟨d, hd, z9, hdv⟩ : ∃ d : ByteArray, d.data.toList = deadL de ∧ d.size ≤ 900 ∧ d = if de then ⟨#[49]⟩ else ⟨#[48]⟩ := by
    cases de
    · exact ⟨_, rfl, by decide, rfl⟩
    · exact ⟨_, rfl, by decide, rfl⟩
  have HL := Lib.hid (line_1 (i := i) (cl := cl) (su := su) (sc := sc) (ge := ge) (ma := ma) (us := us) (re := re) (de := de) (id := id) (ti := ti) hk d hd)
  have HJ := Lib.hid (fun w => join_ten w ⟨#[112]⟩ (itoS i) cl su (txt (wordL sc.data.toList)) (itoS ge) (itoS ma) (itoS us) (txt (wordL re.data.toList)) d ⟨z0, z1, z2, z3, z4, z5, z6, z7, z8, z9⟩)
  rw [HL.out] at HJ
  have HI1 := Lib.hid (fun w hT => itoa_c i n1 w hT)
  have HI2 := Lib.hid (fun w hT => itoa_c ge n2 w hT)
  have HI3 := Lib.hid (fun w hT => itoa_c ma n3 w hT)
  have HI4 := Lib.hid (fun w hT => itoa_c us n4 w hT)
  have HW1 := Lib.hid (fun w => ev_word sc w)
  have HW2 := Lib.hid (fun w => ev_word re w)
  clear hs hy h hf n1 n2 n3 n4 n5 n6 n7 n8 z0 z1 z2 z3 z4 z5 z6 z7 z8 z9 hd HL
  generalize txt (evL ⟨k, ⟨i, cl, su, sc, ge, ma, us, re, de⟩, id, ti⟩) = line at *
  subst hk
  unfold evVal evCs at *
  dsimp only at *
  cases de
  all_goals
    simp only [Bool.false_eq_true, if_false, if_true] at hdv
    subst hdv
    go_enter Tryz.func186, Tryz.ntmps186
    go_wp2_with fail
    go_at_call 159
    refine (HR.out _ H0.out.wb.maxl).mono ?_
    rintro x w1 ⟨rfl, hb⟩
    have H1 := Lib.hid (H0.out.keep hb)
    clear hb
    obtain ⟨c0, c1, c2, c3, c4, c5, c6, c7, c8, c9, c10, c11⟩ := ev_cells H1.out.ev
    go_wp2_with fail
  · have hwb := H1.out.wb.alloc (.cells #[.int .i64 i, .string cl, .string su, .string sc, .int .i64 ge, .int .i64 ma, .int .i64 us, .string re, .bool false] 95)
    obtain ⟨d0, d1, d2, d3, d4, d5, d6, d7, _⟩ := fam_cells (Blk.new w1 95 (famCs ⟨i, cl, su, sc, ge, ma, us, re, false⟩))
    unfold famCs at d0 d1 d2 d3 d4 d5 d6 d7
    dsimp only at d0 d1 d2 d3 d4 d5 d6 d7
    clear c0 c1 c2 c3 c4 c5 c6 c7 c8 c9 c10 c11 H0 HR
    generalize w1.alloc (.cells #[.int .i64 i, .string cl, .string su, .string sc, .int .i64 ge, .int .i64 ma, .int .i64 us, .string re, .bool false] 95) = w2 at *
    have hwb2 := hwb.drew
    generalize w1.heap.size = g at *
    clear hwb H1
    go_region_held3 (fun w' => w'.cell? ⟨g, 0, none⟩ = some (.int .i64 i) ∧ w'.cell? ⟨g, 1, none⟩ = some (.string cl) ∧ w'.cell? ⟨g, 2, none⟩ = some (.string su) ∧ w'.cell? ⟨g, 3, none⟩ = some (.string sc) ∧ w'.cell? ⟨g, 4, none⟩ = some (.int .i64 ge) ∧ w'.cell? ⟨g, 5, none⟩ = some (.int .i64 ma) ∧ w'.cell? ⟨g, 6, none⟩ = some (.int .i64 us) ∧ w'.cell? ⟨g, 7, none⟩ = some (.string re) ∧ WB W w')
      (first
        | (refine ⟨?_, ?_, ?_, ?_, ?_, ?_, ?_, ?_, hwb2⟩ <;> go_keep)
        | assumption
        | (go_split_ands
           exact keep_fam (by assumption) (by assumption) (by assumption) (by assumption) (by assumption) (by assumption) (by assumption) (by assumption) (by assumption) (by assumption))
        | (go_split_ands
           exact keep_fam (by assumption) (by assumption) (by assumption) (by assumption) (by assumption) (by assumption) (by assumption) (by assumption) (by assumption) ((Below.refl _ _).alloc (Nat.le_refl _) _)))
      (first
        | (go_at_call 26; refine (HI1.out _ (WB.tens (by (go_split_ands; assumption)))).mono ?_; rintro e w1 ⟨rfl, hb1⟩)
        | (go_at_call 26; refine (HI2.out _ (WB.tens (by (go_split_ands; assumption)))).mono ?_; rintro e w1 ⟨rfl, hb1⟩)
        | (go_at_call 26; refine (HI3.out _ (WB.tens (by (go_split_ands; assumption)))).mono ?_; rintro e w1 ⟨rfl, hb1⟩)
        | (go_at_call 26; refine (HI4.out _ (WB.tens (by (go_split_ands; assumption)))).mono ?_; rintro e w1 ⟨rfl, hb1⟩)
        | (go_at_call 227; refine (HW1.out _).mono ?_; rintro e w1 ⟨rfl, rfl⟩)
        | (go_at_call 227; refine (HW2.out _).mono ?_; rintro e w1 ⟨rfl, rfl⟩)
        | (go_at_call 50; refine (HJ.out _).mono ?_; rintro e w1 ⟨rfl, hb1⟩))
    go_wp2_with fail
    go_ret2
    exact ⟨rfl, by (go_split_ands; exact WB.below (by assumption))⟩
  · have hwb := H1.out.wb.alloc (.cells #[.int .i64 i, .string cl, .string su, .string sc, .int .i64 ge, .int .i64 ma, .int .i64 us, .string re, .bool true] 95)
    obtain ⟨d0, d1, d2, d3, d4, d5, d6, d7, _⟩ := fam_cells (Blk.new w1 95 (famCs ⟨i, cl, su, sc, ge, ma, us, re, true⟩))
    unfold famCs at d0 d1 d2 d3 d4 d5 d6 d7
    dsimp only at d0 d1 d2 d3 d4 d5 d6 d7
    clear c0 c1 c2 c3 c4 c5 c6 c7 c8 c9 c10 c11 H0 HR
    generalize w1.alloc (.cells #[.int .i64 i, .string cl, .string su, .string sc, .int .i64 ge, .int .i64 ma, .int .i64 us, .string re, .bool true] 95) = w2 at *
    have hwb2 := hwb.drew
    generalize w1.heap.size = g at *
    clear hwb H1
    go_region_held3 (fun w' => w'.cell? ⟨g, 0, none⟩ = some (.int .i64 i) ∧ w'.cell? ⟨g, 1, none⟩ = some (.string cl) ∧ w'.cell? ⟨g, 2, none⟩ = some (.string su) ∧ w'.cell? ⟨g, 3, none⟩ = some (.string sc) ∧ w'.cell? ⟨g, 4, none⟩ = some (.int .i64 ge) ∧ w'.cell? ⟨g, 5, none⟩ = some (.int .i64 ma) ∧ w'.cell? ⟨g, 6, none⟩ = some (.int .i64 us) ∧ w'.cell? ⟨g, 7, none⟩ = some (.string re) ∧ WB W w')
      (first
        | (refine ⟨?_, ?_, ?_, ?_, ?_, ?_, ?_, ?_, hwb2⟩ <;> go_keep)
        | assumption
        | (go_split_ands
           exact keep_fam (by assumption) (by assumption) (by assumption) (by assumption) (by assumption) (by assumption) (by assumption) (by assumption) (by assumption) (by assumption))
        | (go_split_ands
           exact keep_fam (by assumption) (by assumption) (by assumption) (by assumption) (by assumption) (by assumption) (by assumption) (by assumption) (by assumption) ((Below.refl _ _).alloc (Nat.le_refl _) _)))
      (first
        | (go_at_call 26; refine (HI1.out _ (WB.tens (by (go_split_ands; assumption)))).mono ?_; rintro e w1 ⟨rfl, hb1⟩)
        | (go_at_call 26; refine (HI2.out _ (WB.tens (by (go_split_ands; assumption)))).mono ?_; rintro e w1 ⟨rfl, hb1⟩)
        | (go_at_call 26; refine (HI3.out _ (WB.tens (by (go_split_ands; assumption)))).mono ?_; rintro e w1 ⟨rfl, hb1⟩)
        | (go_at_call 26; refine (HI4.out _ (WB.tens (by (go_split_ands; assumption)))).mono ?_; rintro e w1 ⟨rfl, hb1⟩)
        | (go_at_call 227; refine (HW1.out _).mono ?_; rintro e w1 ⟨rfl, rfl⟩)
        | (go_at_call 227; refine (HW2.out _).mono ?_; rintro e w1 ⟨rfl, rfl⟩)
        | (go_at_call 50; refine (HJ.out _).mono ?_; rintro e w1 ⟨rfl, hb1⟩))
    go_wp2_with fail
    go_ret2
    exact ⟨rfl, by (go_split_ands; exact WB.below (by assumption))⟩
theorem ev_write_yes (e : Ev) (W : World) (hs : e.fam.short 5000) (h : WB W W) (hy : evB e = true) :
    Calls Tryz.prog 186 #[evVal e] W fun x w' => x = .returned (.tuple #[.string (txt (evL e)), .nilIface]) ∧ Below W.heap.size W w' := by
  rcases evB_kind hy with ⟨h1, _⟩ | ⟨h1, _⟩ | ⟨h1, _⟩
  · exact write_put e W hs h hy h1
  · exact write_num e W hs h hy (.inl h1)
  · exact write_num e W hs h hy (.inr h1)
end Go.Proofs.YtepjcdjpikbbjaaGreatDoor

/-
  strconv.Atoi: its number, and whether it gives an error.
-/
namespace Go.Proofs.YtepjcdjpikbbjaaGreatDoor
open Go.RowKit Go.Sort

/-- the library's two errors are there -/
def ErrVars (w : World) : Prop := (∃ tp p, w.cell? ⟨5, 0, none⟩ = some (.iface tp p)) ∧ (∃ tp p, w.cell? ⟨6, 0, none⟩ = some (.iface tp p))
theorem ErrVars.lt {w : World} (h : ErrVars w) : 5 < w.heap.size ∧ 6 < w.heap.size := by
  obtain ⟨⟨_, _, h1⟩, _, _, h2⟩ := h
  exact ⟨World.block_lt_of_cell? w _ h1, World.block_lt_of_cell? w _ h2⟩
theorem ErrVars.below {B : Nat} {w w' : World} (h : ErrVars w) (hb : Below B w w') (h1 : 5 < B) (h2 : 6 < B) : ErrVars w' := by
  obtain ⟨⟨a, b, e1⟩, c, d, e2⟩ := h
  exact ⟨⟨a, b, (hb.cell (p := ⟨5, 0, none⟩) h1).trans e1⟩, c, d, (hb.cell (p := ⟨6, 0, none⟩) h2).trans e2⟩
theorem ErrVars.below' {w w' : World} (h : ErrVars w) (hb : Below w.heap.size w w') : ErrVars w' := h.below hb h.lt.1 h.lt.2

theorem atoi_yes (s : ByteArray) (w : World) (hs : s.size ≤ 1000000) (h : atoiE s.data.toList = true) :
    Calls Tryz.prog 51 #[.string s] w fun e w' => e = .returned (.tuple #[.int .i64 (atoiN s.data.toList), .nilIface]) ∧ Below w.heap.size w w' := by
  unfold atoiE at h
  unfold atoiN
  rcases ha : Lib.atoiAll s.data.toList with v | _ | _
  · refine (Tryz.strconv_Atoi_ok s (by omega) v ha w).mono ?_
    rintro e w' ⟨rfl, hw⟩
    refine ⟨rfl, ?_⟩
    rcases hw with rfl | ⟨t, rfl⟩
    · exact Below.refl _ _
    · exact Lib.bytesWorld_below w _ t
  · rw [ha] at h; cases h
  · rw [ha] at h; cases h
def Failed (n : Int) (e : Ending) : Prop := ∃ te pe, e = .returned (.tuple #[.int .i64 n, .iface te pe])
theorem atoi_no (s : ByteArray) (w : World) (hs : s.size ≤ 1000000) (hv : ErrVars w) (h : atoiE s.data.toList = false) :
    Calls Tryz.prog 51 #[.string s] w fun e w' => Failed (atoiN s.data.toList) e ∧ Below w.heap.size w w' := by
  unfold atoiE at h
  unfold atoiN
  obtain ⟨⟨t1, p1, h1⟩, t2, p2, h2⟩ := hv
  rcases ha : Lib.atoiAll s.data.toList with v | _ | _
  · rw [ha] at h; cases h
  · refine (Tryz.strconv_Atoi_syntax s (by omega) ha _ w h1 (.inr ⟨_, _, rfl⟩)).mono ?_
    rintro e w' ⟨N, rfl, _, _, hb⟩
    exact ⟨⟨_, _, rfl⟩, hb⟩
  · refine (Tryz.strconv_Atoi_range s (by omega) ha _ w h2 (.inr ⟨_, _, rfl⟩)).mono ?_
    rintro e w' ⟨N, rfl, _, _, hb⟩
    exact ⟨⟨_, _, rfl⟩, hb⟩
/-- strconv.Itoa at any int -/
theorem itoa_any (x : Int) (h0 : -9223372036854775808 ≤ x) (h1 : x ≤ 9223372036854775807) (w : World) (hT : Tens w) :
    Calls Tryz.prog 26 #[.int .i64 x] w fun e w' => e = .returned (.string (itoS x)) ∧ Below w.heap.size w w' := by
  refine (Tryz.strconv_Itoa x h0 h1 w hT).mono ?_
  rintro e w' ⟨rfl, k, os, rfl⟩
  exact ⟨rfl, below_grown w k os⟩
theorem itoS_data (x : Int) : (itoS x).data.toList = Lib.itoa x := by simp [itoS]
theorem itoS_list (x : Int) : (itoS x).toList = Lib.itoa x := by rw [ByteArray.toList_eq]; exact itoS_data x
end Go.Proofs.YtepjcdjpikbbjaaGreatDoor

/-
  The reference's Told: numbers with blanks between.
-/
namespace Go.Proofs.YtepjcdjpikbbjaaGreatDoor
open Go.RowKit Go.Sort

theorem own_below {w w' : World} {B n : Nat} {e : TypeId} {v : Value} {xs : List Value} (h : w.ownsRow B e 1 v n xs) (hb : Below w.heap.size w w') : w'.ownsRow B e 1 v n xs :=
  h.kept (only_of_below hb (some w.heap.size)) (.inr (fun he => by have := (h.lt _ he).2; omega))
theorem IntsAt.below {w w' : World} {g : Nat} {L : List Int} (h : IntsAt w g L) (hb : Below w.heap.size w w') : IntsAt w' g L := by
  intro j hj
  have h1 := h j hj
  have hlt : g < w.heap.size := World.block_lt_of_cell? w _ h1
  rw [hb.cell (p := ⟨g, j, none⟩) hlt]
  exact h1
/-- what the loop over the numbers knows -/
structure TD (W : World) (g : Nat) (L : List Int) (k : Nat) (out : Value) (w : World) : Prop where
  wb : WB W w
  ints : IntsAt w g L
  row : w.ownsRow W.heap.size 9 1 out k ((L.take k).map fun x => encStr (Lib.itoa x))
theorem TD.start {W : World} {g : Nat} {L : List Int} (h : WB W W) (hi : IntsAt W g L) : TD W g L 0 (.slice none 0 0) W := ⟨h, hi, World.ownsRow_nil _ _ _ _⟩
theorem TD.call {W w w1 : World} {g k : Nat} {L : List Int} {out : Value} (h : TD W g L k out w) (hb : Below w.heap.size w w1) : TD W g L k out w1 := ⟨h.wb.keep hb, h.ints.below hb, own_below h.row hb⟩
theorem TD.next {W w1 w3 : World} {g k : Nat} {L : List Int} {out v' : Value} {o : Obj} (h0 : WB W W) (hi : IntsAt W g L) (h : TD W g L k out w1) (hk : k < L.length) {y : Value} (hy : y = encStr (Lib.itoa (L.getD k 0)))
    (ho : w3.ownsRow W.heap.size 9 1 v' (k + 1) ((L.take k).map (fun x => encStr (Lib.itoa x)) ++ [y])) (hg : (w1.alloc o).grownBy w3 out.ownBlock) : TD W g L (k + 1) v' w3 := by
  have b1 : Below W.heap.size W (w1.alloc o) := h.wb.below.alloc h.wb.below.size o
  have b2 : Below W.heap.size W w3 := b1.grown hg b1.size fun i e => (h.row.lt i e).1
  refine ⟨h0.keep b2, hi.below b2, ?_⟩
  have e : (L.take (k + 1)).map (fun x => encStr (Lib.itoa x)) = (L.take k).map (fun x => encStr (Lib.itoa x)) ++ [y] := by
    rw [List.take_add_one, List.getElem?_eq_getElem hk, List.map_append, hy]
    simp [List.getD, hk]
  rw [e]
  exact ho
def ToldRel (W : World) (g : Nat) (L : List Int) (out i : Value) (wr : World) : Prop := ∃ k : Nat, k ≤ L.length ∧ i = .int .i64 k ∧ TD W g L k out wr
theorem TD.join {W w : World} {g : Nat} {L : List Int} {out : Value} (h : TD W g L L.length out w) (hL : L ≠ []) (h4 : L.length ≤ 4) (hn : ∀ x ∈ L, okN x = true) :
    Calls Tryz.prog 50 #[out, .string ⟨#[32]⟩] w fun e w' => e = .returned (.string (txt (glue 32 (L.map Lib.itoa)))) ∧ Below w.heap.size w w' := by
  have hr := h.row
  rw [List.take_length] at hr
  have hr2 : w.ownsRow W.heap.size 9 1 out (L.map Lib.itoa).length ((L.map Lib.itoa).map encStr) := by
    rw [List.map_map, List.length_map]; exact hr
  have hg := glue_length 32 20 (L.map Lib.itoa) (by
    intro x hx
    obtain ⟨y, hy, rfl⟩ := List.mem_map.1 hx
    have := itoa_len (hn y hy)
    omega)
  rw [List.length_map] at hg
  exact join_row 32 (row_of_owns hr2 (by simpa using hL)) (by rw [List.length_map]; omega) (by omega)

end Go.Proofs.YtepjcdjpikbbjaaGreatDoor
