/-
  The desk's small words: must, words, number, plain, word.
-/
import Derived.Test.YtepjcdjpikbbjaaGreatDoorP10
import Derived.Test.YtepjcdjpikbbjaaGreatDoorP07
import Derived.Lib.IndexMore
import Derived.Lib.LastIndexByte
import Derived.Test.YtepjcdjpikbbjaaGreatDoorP08
import Derived.Test.YtepjcdjpikbbjaaGreatDoorP03
import Derived.BigQuiet
import Derived.Deep.RegionHeld3
import Derived.Lib.IndexBytes
import Derived.Test.YtepjcdjpikbbjaaGreatDoorP04
import Derived.Maps.AppendAt
import Derived.Deep.Onto
import Derived.Lib.SliceRun
import Derived.Shelf.Spec.SlicesInsertGrow
import Derived.Laws.CopyRow
namespace Go.Proofs.YtepjcdjpikbbjaaGreatDoor
open Go.RowKit Go.Sort

/-- what is thrown -/
def errP (c : Int) : List PanicEntry := [{ v := .iface 73 (.agg #[.int .i64 c]), recovered := false }]
theorem must_nil (w : World) : Calls Tryz.prog 20 #[.nilIface] w fun e w' => e = .returned (.tuple #[]) ∧ w = w' := by
  go_enter Tryz.func20, Tryz.ntmps20
  go_wp2_with fail
  go_end0
  exact ⟨rfl, rfl⟩
def Thrown (c : Int) (w : World) (e : Ending) (w' : World) : Prop := e = .panicked (errP c) ∧ Below w.heap.size w w'
theorem must_no (c : Int) (w : World) (hg : ErrType w) : Calls Tryz.prog 20 #[.iface 57 (.int .i64 c)] w (Thrown c w) := by
  go_enter Tryz.func20, Tryz.ntmps20
  go_wp2_with (go_at_call 55; refine (tell_no c _ hg).mono ?_; rintro e w' ⟨rfl, hb⟩)
  exact ⟨rfl, rfl, hb⟩
theorem words_yes (a : Option Addr) (n c : Nat) (w : World) : Calls Tryz.prog 17 #[.slice a n c, .int .i64 n] w fun e w' => e = .returned (.tuple #[]) ∧ w = w' := by
  have hd : ((n : Int) != (n : Int)) = false := by simp
  go_enter Tryz.func17, Tryz.ntmps17
  go_wp2_with fail
  go_end0
  exact ⟨rfl, rfl⟩
theorem words_no (a : Option Addr) (n c : Nat) (m : Int) (w : World) (hg : ErrType w) (hn : (n : Int) ≠ m) : Calls Tryz.prog 17 #[.slice a n c, .int .i64 m] w (Thrown 3 w) := by
  have hd : ((n : Int) != m) = true := by simpa using hn
  have HM := Lib.hid (fun w h => must_no 3 w h)
  unfold Thrown at HM
  have HG := Lib.hid hg
  clear hg hn
  go_enter Tryz.func17, Tryz.ntmps17
  go_wp2_with fail
  go_at_call 20
  refine (HM.out _ HG.out).mono ?_
  rintro e w' ⟨rfl, hb⟩
  dsimp only
  trace_state
  exact ⟨rfl, rfl, hb⟩
theorem numE_str {l : List UInt8} (h : atoiE l = true) : numE l = ((itoS (atoiN l)).toList == l) := by
  unfold numE
  rw [h, itoS_list, Bool.true_and, Bool.eq_iff_iff]
  simp
set_option maxHeartbeats 1000000 in
theorem dnum_yes (s : ByteArray) (W : World) (hs : s.size ≤ 1000000) (hT : Tens W) (hn : numE s.data.toList = true) :
    Calls Tryz.prog 18 #[.string s] W fun e w' => e = .returned (.int .i64 (atoiN s.data.toList)) ∧ Below W.heap.size W w' := by
  have hb := atoiN_bounds s.data.toList
  have hE : atoiE s.data.toList = true := by
    unfold numE at hn
    rw [Bool.and_eq_true] at hn
    exact hn.1
  have hq : ((itoS (atoiN s.data.toList)).toList == s.toList) = true := by
    rw [numE_str hE] at hn
    rw [ByteArray.toList_eq (bs := s)]
    exact hn
  have hq2 : (!((itoS (atoiN s.data.toList)).toList == s.toList)) = false := by rw [hq]; rfl
  have HA := Lib.hid (atoi_yes s W hs hE)
  have HI := Lib.hid (fun w => itoa_any (atoiN s.data.toList) hb.1 hb.2 w)
  have HT := Lib.hid hT
  have lt := hT.lt
  clear hE hT hn hb
  generalize atoiN s.data.toList = n at *
  generalize itoS n = y at *
  go_enter Tryz.func18, Tryz.ntmps18
  go_wp2_with
    (first
    | (go_at_call 51; refine HA.out.mono ?_; rintro e w1 ⟨rfl, hb1⟩
       have HB := Lib.hid hb1
       clear hb1)
    | (go_at_call 26; refine (HI.out _ (HT.out.below HB.out lt)).mono ?_; rintro e w2 ⟨rfl, hb2⟩
       have HB2 := Lib.hid (below_2 HB.out hb2)
       clear hb2))
  go_ret
  exact ⟨rfl, HB2.out⟩
set_option maxHeartbeats 1000000 in
theorem dnum_no (s : ByteArray) (W : World) (hs : s.size ≤ 1000000) (hT : Tens W) (hv : ErrVars W) (hg : ErrType W) (hlt : 1 < W.heap.size) (hn : numE s.data.toList = false) :
    Calls Tryz.prog 18 #[.string s] W (Thrown 3 W) := by
  have hb := atoiN_bounds s.data.toList
  have HM := Lib.hid (fun w h => must_no 3 w h)
  unfold Thrown at HM
  have HG := Lib.hid hg
  have HT := Lib.hid hT
  have lt := hT.lt
  cases hE : atoiE s.data.toList
  · have HA := Lib.hid (atoi_no s W hs hv hE)
    clear hE hT hv hn hg hb
    generalize atoiN s.data.toList = n at *
    go_enter Tryz.func18, Tryz.ntmps18
    go_wp2_with fail
    go_at_call 51
    refine HA.out.mono ?_
    rintro e w1 ⟨⟨te, pe, rfl⟩, hb1⟩
    have HB := Lib.hid hb1
    clear hb1
    go_wp2_with fail
    go_at_call 20
    refine (HM.out _ (HG.out.below HB.out hlt)).mono ?_
    rintro e w' ⟨rfl, hb⟩
    dsimp only
    exact ⟨rfl, rfl, below_2 HB.out hb⟩
  · have hq : ((itoS (atoiN s.data.toList)).toList == s.toList) = false := by
      rw [numE_str hE] at hn
      rw [ByteArray.toList_eq (bs := s)]
      exact hn
    have hq2 : (!((itoS (atoiN s.data.toList)).toList == s.toList)) = true := by rw [hq]; rfl
    have HA := Lib.hid (atoi_yes s W hs hE)
    have HI := Lib.hid (fun w => itoa_any (atoiN s.data.toList) hb.1 hb.2 w)
    clear hE hT hv hn hg hb
    generalize atoiN s.data.toList = n at *
    generalize itoS n = y at *
    go_enter Tryz.func18, Tryz.ntmps18
    go_wp2_with
      (first
      | (go_at_call 51; refine HA.out.mono ?_; rintro e w1 ⟨rfl, hb1⟩
         have HB := Lib.hid hb1
         clear hb1)
      | (go_at_call 26; refine (HI.out _ (HT.out.below HB.out lt)).mono ?_; rintro e w2 ⟨rfl, hb2⟩
         have HB2 := Lib.hid (below_2 HB.out hb2)
         clear hb2))
    go_at_call 20
    refine (HM.out _ (HG.out.below HB2.out hlt)).mono ?_
    rintro e w' ⟨rfl, hb⟩
    dsimp only
    exact ⟨rfl, rfl, below_2 HB2.out hb⟩
theorem desk_word (s : ByteArray) (w : World) : Calls Tryz.prog 127 #[.string s] w fun e w' => e = .returned (.string (wordS s)) ∧ w = w' := by
  cases h : s.toList.isEmpty
  · have H := Lib.hid (show wordS s = s by rw [empty_list, decide_eq_false_iff_not] at h; unfold wordS; rw [if_neg h])
    go_enter Tryz.func127, Tryz.ntmps127
    go_wp2_with fail
    go_ret
    exact ⟨by rw [H.out]; rfl, rfl⟩
  · have H := Lib.hid (show wordS s = ⟨#[95]⟩ by rw [empty_list, decide_eq_true_eq] at h; unfold wordS; rw [if_pos h])
    go_enter Tryz.func127, Tryz.ntmps127
    go_wp2_with fail
    go_ret
    exact ⟨by rw [H.out]; rfl, rfl⟩
theorem desk_plain (s : ByteArray) (w : World) : Calls Tryz.prog 124 #[.string s] w fun e w' => e = .returned (.string (plainS s)) ∧ w = w' := by
  cases h : (s.toList == [95])
  · have H := Lib.hid (show plainS s = s by unfold plainS; rw [if_neg]; intro e; rw [ByteArray.toList_eq, e] at h; cases h)
    go_enter Tryz.func124, Tryz.ntmps124
    go_wp2_with fail
    go_ret
    exact ⟨by rw [H.out]; rfl, rfl⟩
  · have H := Lib.hid (show plainS s = ⟨#[]⟩ by unfold plainS; rw [ByteArray.toList_eq] at h; rw [if_pos (by simpa using h)]; rfl)
    go_enter Tryz.func124, Tryz.ntmps124
    go_wp2_with fail
    go_ret
    exact ⟨by rw [H.out]; rfl, rfl⟩
end Go.Proofs.YtepjcdjpikbbjaaGreatDoor

/-
  The library's cuts at a blank, as the store's plain words have them.
-/
namespace Go.Proofs.YtepjcdjpikbbjaaGreatDoor

theorem all_kept {p : UInt8 → Bool} : ∀ l : List UInt8, (∀ x ∈ l, p x = true) → l.takeWhile p = l ∧ l.dropWhile p = []
  | [], _ => ⟨rfl, rfl⟩
  | x :: l, h => by
    obtain ⟨h1, h2⟩ := all_kept l fun y hy => h y (List.mem_cons_of_mem _ hy)
    rw [List.takeWhile_cons, List.dropWhile_cons, if_pos (h x (List.mem_cons_self ..)), if_pos (h x (List.mem_cons_self ..)), h1, h2]
    exact ⟨rfl, rfl⟩
theorem lib_cut (l : List UInt8) : Lib.cut l [32] = (firstHead l, firstRest l, decide (32 ∈ l)) := by
  by_cases h : (32 : UInt8) ∈ l
  · obtain ⟨a, b, rfl, ha⟩ := first_of h
    obtain ⟨h1, h2⟩ := first_cut (b := b) ha
    have hi : Lib.index (a ++ 32 :: b) [32] = (a.length : Int) := by
      refine Lib.index_first (by simp) ?_ ?_
      · rw [Lib.occAt_iff_take _ _ _ (by simp)]
        simp
      · intro j hj
        rcases ho : Lib.occAt (a ++ 32 :: b) [32] j with _ | _
        · rfl
        · exfalso
          have := Lib.occAt_head rfl ho
          rw [List.getElem?_append_left hj] at this
          exact ha (List.mem_of_getElem? this)
    unfold Lib.cut
    rw [hi, if_pos (by omega), h1, h2, decide_eq_true h]
    simp
  · have hi : Lib.index l [32] = -1 := by
      refine Lib.index_none fun j _ => ?_
      rcases ho : Lib.occAt l [32] j with _ | _
      · rfl
      · exact absurd (List.mem_of_getElem? (Lib.occAt_head rfl ho)) h
    have hall : ∀ x ∈ l, (x != 32) = true := fun x hx => by
      have : x ≠ 32 := fun e => h (by rw [← e]; exact hx)
      simpa using this
    unfold Lib.cut firstHead firstRest
    rw [hi, if_neg (by decide), decide_eq_false h, (all_kept l hall).1, (all_kept l hall).2]
    rfl
/-- the last blank of a text: none, or where it stands -/
theorem last_blank (s : ByteArray) : (Lib.lastIndexByte s 32 = -1 ∧ cutLast s.data.toList = none) ∨
    ∃ i : Nat, i < s.size ∧ Lib.lastIndexByte s 32 = i ∧ cutLast s.data.toList = some (s.data.toList.take i, s.data.toList.drop (i + 1)) := by
  have hz : s.data.toList.length = s.size := size_data s
  have hget : ∀ j, j < s.size → s.data.toList[j]? = some (s.data[j]!) := fun j hj => by
    have hj' : j < s.data.size := hj
    rw [Array.getElem?_toList, Array.getElem?_eq_getElem hj', getElem!_pos s.data j hj']
  rcases Lib.lastIndexByte_spec s 32 with ⟨h1, h2⟩ | ⟨i, hi, h1, h2, h3⟩
  · refine .inl ⟨h1, ?_⟩
    unfold cutLast
    rw [if_neg]
    intro hm
    obtain ⟨j, hj⟩ := List.mem_iff_getElem?.1 hm
    have hlt := (List.getElem?_eq_some_iff.1 hj).1
    rw [hget j (by omega)] at hj
    have := h2 j (by omega)
    rw [Option.some.inj hj] at this
    exact this rfl
  · refine .inr ⟨i, hi, h1, ?_⟩
    have hb : s.data[i]! = 32 := by
      apply UInt8.toNat_inj.1
      have : ((s.data[i]!).toNat : Int) = 32 := h2
      show (s.data[i]!).toNat = 32
      omega
    have he : s.data.toList = s.data.toList.take i ++ 32 :: s.data.toList.drop (i + 1) := by
      have h4 := List.take_append_drop i s.data.toList
      have hlt : i < s.data.toList.length := by omega
      rw [List.drop_eq_getElem_cons hlt] at h4
      have h5 := hget i hi
      rw [List.getElem?_eq_getElem hlt] at h5
      rw [Option.some.inj h5, hb] at h4
      exact h4.symm
    have hf : (32 : UInt8) ∉ s.data.toList.drop (i + 1) := by
      intro hm
      obtain ⟨j, hj⟩ := List.mem_iff_getElem?.1 hm
      rw [List.getElem?_drop] at hj
      have hlt := (List.getElem?_eq_some_iff.1 hj).1
      rw [hget _ (by omega)] at hj
      have := h3 (i + 1 + j) (by omega) (by omega)
      rw [Option.some.inj hj] at this
      exact this rfl
    have := cutLast_of (x := s.data.toList.take i) hf
    rw [← he] at this
    exact this
end Go.Proofs.YtepjcdjpikbbjaaGreatDoor

/-
  store.sealed, store.opened: words with their tag behind; what stands ahead of a tag that is right.
-/
namespace Go.Proofs.YtepjcdjpikbbjaaGreatDoor
open Go.RowKit Go.Sort

theorem dig_no (d : Nat) : dig d ≠ 32 := by
  by_cases h : d < 16
  · have : ∀ n : Fin 16, dig n.1 ≠ 32 := by decide
    exact this ⟨d, h⟩
  · unfold dig
    rw [List.getD_eq_getElem?_getD, List.getElem?_eq_none (by show hexTab.length ≤ d; unfold hexTab; simp; omega)]
    decide
theorem hexN_no : ∀ (k n : Nat), (32 : UInt8) ∉ hexN k n
  | 0, n => by simp [hexN]
  | k + 1, n => by
    rw [hexN_cons, List.mem_cons]
    rintro (h | h)
    · exact dig_no _ h.symm
    · exact hexN_no k n h
theorem tag_ok : TagOk tagL := ⟨fun _ _ => hexN_length _ _, fun _ _ => hexN_no _ _⟩
theorem sealL_len (x : List UInt8) : (sealL tagL x).length = x.length + 17 := by
  unfold sealL
  rw [List.length_append, List.length_cons, tag_ok.len]

set_option maxRecDepth 100000 in
theorem store_sealed (B : Nat) (v : Value) (L : List (List UInt8)) (W : World) (h : Row W B v L) (hL : L.length ≤ 100) (hlen : (glue 32 L).length ≤ 5000) :
    Calls Tryz.prog 189 #[v] W fun e w' => e = .returned (.string (txt (sealL tagL (glue 32 L)))) ∧ Below W.heap.size W w' := by
  have HJ := Lib.hid (join_row 32 h (by omega) (by omega))
  have hsz : (txt (glue 32 L)).size ≤ 5000 := by rw [← size_data, data_txt]; exact hlen
  have HT := Lib.hid (fun w => mac_tag 0 (txt (glue 32 L)) w (by omega))
  have hdt : (txt (glue 32 L)).data.toList = glue 32 L := data_txt _
  rw [hdt] at HT
  have hts : (⟨(tagL 0 (glue 32 L)).toArray⟩ : ByteArray).size = 16 := by have := tag_ok.len 0 (glue 32 L); simpa [ByteArray.size] using this
  have hres : (txt (glue 32 L) ++ ⟨#[32]⟩) ++ (⟨(tagL 0 (glue 32 L)).toArray⟩ : ByteArray) = txt (sealL tagL (glue 32 L)) := by
    apply ByteArray.ext
    apply Array.ext'
    unfold sealL txt
    simp
  have HR := Lib.hid hres
  clear h hL hlen hdt hres
  generalize txt (sealL tagL (glue 32 L)) = r at *
  generalize (⟨(tagL 0 (glue 32 L)).toArray⟩ : ByteArray) = tg at *
  generalize txt (glue 32 L) = x at *
  go_enter Tryz.func189, Tryz.ntmps189
  go_wp2_with fail
  go_at_call 50
  refine HJ.out.mono ?_
  rintro e w1 ⟨rfl, hb⟩
  have HB := Lib.hid hb
  clear hb HJ
  go_wp2_with fail
  go_at_call 107
  refine (HT.out _).mono ?_
  rintro e w2 ⟨rfl, hb⟩
  have HB2 := Lib.hid (below_2 HB.out hb)
  clear hb HT
  go_wp2_with fail
  go_ret
  refine ⟨?_, HB2.out⟩
  rw [← HR.out]
  rfl

/-- what store.opened gives -/
def OpenGot (W : World) (o : Option (List UInt8)) (e : Ending) (w' : World) : Prop :=
  (∃ x b, e = .returned (.tuple #[.string x, .bool b]) ∧ (match o with | some l => x = txt l ∧ b = true | none => x = ⟨#[]⟩ ∧ b = false)) ∧ Below W.heap.size W w'

theorem opened_none (s : ByteArray) (W : World) (hs : s.size ≤ 5000) (h1 : Lib.lastIndexByte s 32 = -1) :
    Calls Tryz.prog 105 #[.string s] W fun e w' => e = .returned (.tuple #[.string ⟨#[]⟩, .bool false]) ∧ Below W.heap.size W w' := by
  have HL := Lib.hid (fun w => Tryz.strings_LastIndexByte s 32 (by omega) w)
  rw [h1] at HL
  clear h1
  go_enter Tryz.func105, Tryz.ntmps105
  go_wp2_with (go_at_call 155; refine (HL.out _).mono ?_; rintro e w1 ⟨rfl, rfl⟩)
  go_quiet (fail)
  go_wp2_with fail
  go_ret2
  exact ⟨rfl, below_drewN (Below.refl _ _) _⟩
set_option maxRecDepth 100000 in
theorem opened_some (s x t : ByteArray) (i : Nat) (W : World) (hs : s.size ≤ 5000) (h1 : Lib.lastIndexByte s 32 = (i : Int)) (hi : i < s.size) (hx : s.extract 0 i = x) (ht : s.extract (i + 1) s.size = t) (hxs : x.size ≤ 5000) :
    Calls Tryz.prog 105 #[.string s] W fun e w' => e = .returned (.tuple #[.string (if t.data.toList = tagL 0 x.data.toList then x else ⟨#[]⟩), .bool (decide (t.data.toList = tagL 0 x.data.toList))]) ∧ Below W.heap.size W w' := by
  have HL := Lib.hid (fun w => Tryz.strings_LastIndexByte s 32 (by omega) w)
  rw [h1] at HL
  have HT := Lib.hid (fun w => mac_tag 0 x w (by omega))
  have hq : (t.toList == (⟨(tagL 0 x.data.toList).toArray⟩ : ByteArray).toList) = decide (t.data.toList = tagL 0 x.data.toList) := by
    rw [ByteArray.toList_eq, ByteArray.toList_eq, Bool.eq_iff_iff]
    simp
  have hi0 : ¬ (i : Int) < 0 := by omega
  have hi1 : (0 : Int) ≤ (i : Int) := by omega
  have hi2 : (i : Int) ≤ (s.size : Int) := by omega
  have hi3 : (0 : Int) ≤ (i : Int) + 1 := by omega
  have hi4 : (i : Int) + 1 ≤ (s.size : Int) := by omega
  have hi5 : IntKind.i64.wrap ((i : Int) + 1) = (i : Int) + 1 := by unfold IntKind.wrap; simp [IntKind.signed, IntKind.bits]; omega
  have hi6 : ((i : Int) + 1).toNat = i + 1 := by omega
  generalize (⟨(tagL 0 x.data.toList).toArray⟩ : ByteArray) = tg at *
  clear h1
  by_cases hc : t.data.toList = tagL 0 x.data.toList
  all_goals
    have HC := Lib.hid hc
    first | rw [if_pos hc] | rw [if_neg hc]
    first | rw [decide_eq_true hc] at hq ⊢ | rw [decide_eq_false hc] at hq ⊢
    clear hc
    go_enter Tryz.func105, Tryz.ntmps105
    go_wp2_with (go_at_call 155; refine (HL.out _).mono ?_; rintro e w1 ⟨rfl, rfl⟩)
    go_region_held3 (fun w' => Below w1.heap.size w1 w')
      (first
        | with_reducible assumption
        | exact below_drewN (Below.refl _ _) 1
        | exact below_2 (by assumption) (by assumption))
      (first
        | (go_at_call 107; with_reducible refine (HT.out _).mono ?_; rintro e w2 ⟨rfl, hb2⟩))
    go_wp2_with fail
    go_ret2
    exact ⟨rfl, by assumption⟩

/-- store.opened: what stands ahead of a tag that is right -/
theorem store_opened (s : ByteArray) (W : World) (hs : s.size ≤ 5000) : Calls Tryz.prog 105 #[.string s] W (OpenGot W (openL tagL s.data.toList)) := by
  rcases last_blank s with ⟨h1, h2⟩ | ⟨i, hi, h1, h2⟩
  · refine (opened_none s W hs h1).mono fun e w' ⟨he, hb⟩ => ⟨⟨_, _, he, ?_⟩, hb⟩
    unfold openL
    rw [h2]
    exact ⟨rfl, rfl⟩
  · have hx : (s.extract 0 i).data.toList = s.data.toList.take i := by rw [Lib.extract_data]; simp
    have ht : (s.extract (i + 1) s.size).data.toList = s.data.toList.drop (i + 1) := by rw [Lib.extract_to_end]
    refine (opened_some s (s.extract 0 i) (s.extract (i + 1) s.size) i W hs h1 hi rfl rfl (by rw [ByteArray.size_extract]; omega)).mono fun e w' ⟨he, hb⟩ => ⟨⟨_, _, he, ?_⟩, hb⟩
    unfold openL
    rw [h2]
    dsimp only
    rw [hx, ht]
    by_cases hc : s.data.toList.drop (i + 1) = tagL 0 (s.data.toList.take i)
    · rw [if_pos hc, if_pos hc]
      refine ⟨?_, by simpa using hc⟩
      rw [← hx, txt_data]
    · rw [if_neg hc, if_neg hc]
      exact ⟨rfl, by simpa using hc⟩
end Go.Proofs.YtepjcdjpikbbjaaGreatDoor

/-
  A slice of families of the call's own, told as a list; slices.Clone of one.
-/
namespace Go.Proofs.YtepjcdjpikbbjaaGreatDoor
open Go.RowKit Go.Sort

/-- the cells of families, one behind the other -/
def flat (L : List Fam) : List Value := L.flatMap fun f => (famCs f).toList
theorem famCs_len (f : Fam) : (famCs f).toList.length = 9 := rfl
theorem flat_len : ∀ L : List Fam, (flat L).length = L.length * 9
  | [] => rfl
  | f :: L => by
    have := flat_len L
    unfold flat at this ⊢
    rw [List.flatMap_cons, List.length_append, this, famCs_len, List.length_cons]
    omega
theorem flat_cons (f : Fam) (L : List Fam) : flat (f :: L) = (famCs f).toList ++ flat L := rfl
theorem flat_app (a b : List Fam) : flat (a ++ b) = flat a ++ flat b := by simp [flat]
theorem flat_get : ∀ {L : List Fam} {i : Nat} {f : Fam}, L[i]? = some f → ∀ j, j < 9 → (flat L)[i * 9 + j]? = (famCs f)[j]?
  | [], i, f, h, _, _ => by simp at h
  | g :: L, 0, f, h, j, hj => by
    simp at h
    subst h
    rw [flat_cons, Nat.zero_mul, Nat.zero_add, List.getElem?_append_left (by rw [famCs_len]; exact hj), Array.getElem?_toList]
  | g :: L, i + 1, f, h, j, hj => by
    rw [flat_cons, List.getElem?_append_right (by rw [famCs_len]; omega), famCs_len, show (i + 1) * 9 + j - 9 = i * 9 + j by omega]
    exact flat_get (by simpa using h) j hj
theorem flat_take (L : List Fam) (k : Nat) : flat (L.take k) = (flat L).take (k * 9) := by
  induction L generalizing k with
  | nil => simp [flat]
  | cons f L ih =>
    cases k with
    | zero => simp [flat]
    | succ k => rw [List.take_succ_cons, flat_cons, flat_cons, ih, List.take_append, famCs_len, List.take_of_length_le (l := (famCs f).toList) (by rw [famCs_len]; omega), show (k + 1) * 9 - 9 = k * 9 by omega]
theorem flat_drop (L : List Fam) (k : Nat) : flat (L.drop k) = (flat L).drop (k * 9) := by
  induction L generalizing k with
  | nil => simp [flat]
  | cons f L ih =>
    cases k with
    | zero => simp [flat]
    | succ k => rw [List.drop_succ_cons, flat_cons, ih, List.drop_append, famCs_len, List.drop_of_length_le (l := (famCs f).toList) (by rw [famCs_len]; omega), show (k + 1) * 9 - 9 = k * 9 by omega, List.nil_append]
theorem flat_one {L : List Fam} {u : Value} (h : u ∈ flat L) : u.oneCell' = true := by
  obtain ⟨f, _, hu⟩ := List.mem_flatMap.1 h
  simp only [famCs, List.mem_cons, List.not_mem_nil, or_false] at hu
  rcases hu with rfl | rfl | rfl | rfl | rfl | rfl | rfl | rfl | rfl <;> rfl

/-- v is a slice of the call's own (nil or not) that holds these families -/
def FRow (w : World) (B : Nat) (v : Value) (L : List Fam) : Prop := w.ownsRow B 95 9 v L.length (flat L)
theorem FRow.nil (w : World) (B : Nat) : FRow w B (.slice none 0 0) [] := World.ownsRow_nil _ _ _ _
section
variable {w w' : World} {B : Nat} {v : Value} {L : List Fam}
theorem FRow.below (h : FRow w B v L) (hb : Below w.heap.size w w') : FRow w' B v L := h.kept (only_of_below hb (some w.heap.size)) (.inr (fun he => by have := (h.lt _ he).2; omega))
theorem FRow.mono {B' : Nat} (h : FRow w B v L) (hB : B' ≤ B) : FRow w B' v L := World.ownsRow.mono h hB
theorem FRow.kept (h : FRow w B v L) {row : Option Nat} (hg : w.grownBy w' row) (hne : v.ownBlock ≠ row) : FRow w' B v L := World.ownsRow.kept h hg (.inr hne)
/-- nil, or a block whose first cells they are -/
theorem FRow.parts (h : FRow w B v L) : (v = .slice none 0 0 ∧ L = []) ∨ ∃ g cap, v = .slice (some ⟨g, 0, none⟩) L.length cap ∧ B ≤ g ∧ g < w.heap.size ∧ L.length ≤ cap ∧ cap ≤ 9223372036854775807 ∧
    (∀ j, w.frozen? ⟨g, j, none⟩ = false) ∧ (∀ j, j < cap * 9 → (w.cell? ⟨g, j, none⟩).isSome = true) ∧ (∀ j, j < L.length * 9 → w.cell? ⟨g, j, none⟩ = (flat L)[j]?) := by
  rcases h.2 with ⟨rfl, h0⟩ | ⟨g, cap, cur, rfl, hB, hb, hn, hm, hc, ht⟩
  · exact .inl ⟨rfl, List.eq_nil_of_length_eq_zero h0⟩
  · have hlt : g < w.heap.size := by
      rcases Nat.lt_or_ge g w.heap.size with h' | h'
      · exact h'
      · rw [Array.getElem?_eq_none h'] at hb; cases hb
    refine .inr ⟨g, cap, rfl, hB, hlt, hn, by unfold maxLen at hm; exact hm, fun j => by simp [World.frozen?, hb], fun j hj => ?_, fun j hj => ?_⟩
    · rw [cell_of_row w g j cur _ (0, 0) hb, Array.getElem?_eq_getElem (by omega)]
      rfl
    · rw [cell_of_row w g j cur _ (0, 0) hb, ← ht, List.getElem?_take, if_pos hj, Array.getElem?_toList]
/-- one family's cells -/
theorem FRow.at_ {g cap : Nat} (h : FRow w B (.slice (some ⟨g, 0, none⟩) L.length cap) L) {i : Nat} {f : Fam} (hi : L[i]? = some f) (j : Nat) (hj : j < 9) : w.cell? ⟨g, i * 9 + j, none⟩ = (famCs f)[j]? := by
  have hil := (List.getElem?_eq_some_iff.1 hi).1
  rcases h.parts with ⟨e, _⟩ | ⟨g', cap', e, _, _, _, _, _, _, hc⟩
  · simp at e
  · simp only [Value.slice.injEq, Option.some.injEq, Addr.mk.injEq, and_true, true_and] at e
    obtain ⟨rfl, rfl⟩ := e
    rw [hc _ (by omega), flat_get hi j hj]
end
theorem famInfo : (Tryz.prog.info? 95).map (fun i => (i.zero, i.size, i.bytes)) = some (some (.agg (famCs Fam.zero)), 9, 104) := by kernel_rfl

set_option maxHeartbeats 2000000 in
set_option maxRecDepth 100000 in
theorem fam_clone (B : Nat) (v : Value) (L : List Fam) (w : World) (h : FRow w B v L) (hL : L.length ≤ 1000000) :
    Calls Tryz.prog 109 #[v] w fun e w' => ∃ v', e = .returned v' ∧ FRow w' w.heap.size v' L ∧ Below w.heap.size w w' := by
  obtain ⟨i0, hii, hz0, hz1, hz2⟩ := info_parts famInfo
  have q44 : ∀ (w : World) (a : Option Addr) (n c n' c' : Nat), (binOp .eql 81 (.slice a n c) (.slice none n' c')).run Tryz.prog w = .ok (.bool a.isNone) w := fun w a n c n' c' => Lib.run_eql_slice_nil w _ _ a n c n' c' Tryz.underlying81
  rcases h.parts with ⟨rfl, rfl⟩ | ⟨g, cap, rfl, h1, h2, h3, h4, h5, h6, h7⟩
  · go_enter Tryz.func109, Tryz.ntmps109
    go_wp2_with fail
    go_ret
    exact ⟨_, rfl, FRow.nil _ _, Below.refl _ _⟩
  · have hown : (w.alloc (.cells #[] 95)).ownsRow w.heap.size 95 9 (.slice (some ⟨w.heap.size, 0, none⟩) 0 0) 0 [] :=
      ⟨rfl, .inr ⟨w.heap.size, 0, #[], rfl, Nat.le_refl _, heap_alloc_new w _, Nat.le_refl _, Nat.zero_le _, rfl, rfl⟩⟩
    have hl := flat_len L
    have hnews : ∀ j u, (flat L)[j]? = some u → (w.alloc (.cells #[] 95)).cell? ((⟨g, 0, none⟩ : Addr).add j) = some u := by
      intro j u hj
      have hjl := (List.getElem?_eq_some_iff.1 hj).1
      rw [Addr.add_lit, Nat.zero_add, World.cell?_alloc_past (w := w) _ g j h2, h7 j (by omega), hj]
    have HO := Lib.hid hown
    have HN := Lib.hid hnews
    have HL := Lib.hid hl
    clear hown hnews hl h h5 h6 h7
    go_enter Tryz.func109, Tryz.ntmps109
    go_wp2_with
      (at_builtin; refine wpList_append_own _ rfl _ _ 81 rfl w.heap.size 95 i0 (.agg (famCs Fam.zero)) 9 104 Tryz.underlying81 hii hz0 hz1 hz2 rfl (by decide) _ 0 [] rfl HO.out ⟨g, 0, none⟩ L.length cap (flat L) rfl HL.out HN.out (fun x hx => flat_one hx) (by unfold maxLen; omega) (by omega) (by simp) ?_; intro v' w3 hown hgrow hnil
       have HO3 := Lib.hid hown
       have HG := Lib.hid hgrow
       clear hown hgrow hnil)
    go_ret
    refine ⟨_, rfl, ?_, ?_⟩
    · have := HO3.out
      rw [Nat.zero_add, List.nil_append] at this
      exact this
    · have b1 : Below w.heap.size w (w.alloc (.cells #[] 95)) := (Below.refl _ _).alloc (Nat.le_refl _) _
      exact below_of_only b1 HG.out (Nat.le_refl _) b1.size
end Go.Proofs.YtepjcdjpikbbjaaGreatDoor

/-
  Worlds of which but two blocks, and new ones, have turned.
-/
namespace Go.Proofs.YtepjcdjpikbbjaaGreatDoor
open Go.RowKit Go.Sort

structure Two (a b : Nat) (w w' : World) : Prop where
  os : w'.os = w.os
  tape : w'.tape = w.tape
  output : w'.output = w.output
  size : w.heap.size ≤ w'.heap.size
  block : ∀ i, i < w.heap.size → i ≠ a → i ≠ b → w'.heap[i]? = w.heap[i]?
section
variable {a b : Nat} {w w' w'' : World}
theorem Two.refl (a b : Nat) (w : World) : Two a b w w := ⟨rfl, rfl, rfl, Nat.le_refl _, fun _ _ _ _ => rfl⟩
theorem Two.trans (h : Two a b w w') (k : Two a b w' w'') : Two a b w w'' :=
  ⟨k.os.trans h.os, k.tape.trans h.tape, k.output.trans h.output, Nat.le_trans h.size k.size, fun i hi h1 h2 => (k.block i (Nat.lt_of_lt_of_le hi h.size) h1 h2).trans (h.block i hi h1 h2)⟩
theorem Two.of_below (h : Below w.heap.size w w') : Two a b w w' := ⟨h.os, h.tape, h.output, h.size, fun i hi _ _ => h.block i hi⟩
theorem Two.of_one (h : w.grownBy w' (some a)) : Two a b w w' := ⟨h.os, h.tape, h.output, h.size, fun i hi h1 _ => h.block i hi (by simpa using h1)⟩
theorem Two.of_two (h : w.grownBy w' (some b)) : Two a b w w' := ⟨h.os, h.tape, h.output, h.size, fun i hi _ h2 => h.block i hi (by simpa using h2)⟩
theorem Two.below {B : Nat} {W : World} (h : Two a b w w') (hW : Below B W w) (hB : B ≤ w.heap.size) (ha : B ≤ a) (hb : B ≤ b) : Below B W w' :=
  ⟨h.os.trans hW.os, h.tape.trans hW.tape, h.output.trans hW.output, Nat.le_trans hW.size h.size, fun i hi => (h.block i (by omega) (by omega) (by omega)).trans (hW.block i hi)⟩
theorem Blk.two {g : Nat} {t : TypeId} {cs : Array Value} (h : Blk w g t cs) (k : Two a b w w') (h1 : g ≠ a) (h2 : g ≠ b) : Blk w' g t cs := (k.block g h.lt h1 h2).trans h
theorem Two.cell {p : Addr} {v : Value} (k : Two a b w w') (h : w.cell? p = some v) (h1 : p.block ≠ a) (h2 : p.block ≠ b) : w'.cell? p = some v := by
  have hlt := World.block_lt_of_cell? w _ h
  rw [World.cell?_of_block (w := w) (k.block p.block hlt h1 h2)]
  exact h
theorem FRow.two {B : Nat} {v : Value} {L : List Fam} (h : FRow w B v L) (k : Two a b w w') (h1 : v.ownBlock ≠ some a) (h2 : v.ownBlock ≠ some b) : FRow w' B v L := by
  refine ⟨h.1, ?_⟩
  rcases h.2 with hn | ⟨g, cap, cur, rfl, hb, hgg, rest⟩
  · exact .inl hn
  · refine .inr ⟨g, cap, cur, rfl, hb, ?_, rest⟩
    have hg := (Array.getElem?_eq_some_iff.1 hgg).1
    rw [k.block g hg (by simpa [Value.ownBlock] using h1) (by simpa [Value.ownBlock] using h2)]
    exact hgg
end
end Go.Proofs.YtepjcdjpikbbjaaGreatDoor

/-
  slices.BinarySearchFunc of families, by number.
-/
namespace Go.Proofs.YtepjcdjpikbbjaaGreatDoor
open Go.RowKit Go.Sort

theorem fam_cmp (f : Fam) (n : Int) (hf : okN f.id = true) (hn : okN n = true) (w : World) :
    Calls Tryz.prog 112 #[famVal f, .int .i64 n] w fun e w' => e = .returned (.int .i64 (f.id - n)) ∧ Below w.heap.size w w' := by
  have h1 := okN_iff.1 hf
  have h2 := okN_iff.1 hn
  obtain ⟨i, cl, su, sc, ge, ma, us, re, de⟩ := f
  dsimp only at h1
  unfold famVal famCs
  dsimp only
  go_enter Tryz.func112, Tryz.ntmps112
  go_wp2_with fail
  go_ret
  exact ⟨rfl, (Below.refl _ _).alloc (Nat.le_refl _) _⟩

/-- one family's nine cells -/
theorem FRow.nine {w : World} {B g cap : Nat} {L : List Fam} (h : FRow w B (.slice (some ⟨g, 0, none⟩) L.length cap) L) {k : Nat} {i : Int} {cl su sc : ByteArray} {ge ma us : Int} {re : ByteArray} {de : Bool} (hk : L[k]? = some ⟨i, cl, su, sc, ge, ma, us, re, de⟩) :
    w.cell? ⟨g, k * 9, none⟩ = some (.int .i64 i) ∧ w.cell? ⟨g, k * 9 + 1, none⟩ = some (.string cl) ∧ w.cell? ⟨g, k * 9 + 2, none⟩ = some (.string su) ∧ w.cell? ⟨g, k * 9 + 3, none⟩ = some (.string sc) ∧ w.cell? ⟨g, k * 9 + 4, none⟩ = some (.int .i64 ge) ∧
    w.cell? ⟨g, k * 9 + 5, none⟩ = some (.int .i64 ma) ∧ w.cell? ⟨g, k * 9 + 6, none⟩ = some (.int .i64 us) ∧ w.cell? ⟨g, k * 9 + 7, none⟩ = some (.string re) ∧ w.cell? ⟨g, k * 9 + 8, none⟩ = some (.bool de) :=
  ⟨h.at_ hk 0 (by decide), h.at_ hk 1 (by decide), h.at_ hk 2 (by decide), h.at_ hk 3 (by decide), h.at_ hk 4 (by decide), h.at_ hk 5 (by decide), h.at_ hk 6 (by decide), h.at_ hk 7 (by decide), h.at_ hk 8 (by decide)⟩
/-- the search's two bounds -/
structure FD (W : World) (B : Nat) (v : Value) (L : List Fam) (n : Int) (a b : Nat) (w : World) : Prop where
  below : Below W.heap.size W w
  row : FRow w B v L
  le : a ≤ b
  top : b ≤ L.length
  low : ∀ j f, j < a → L[j]? = some f → f.id < n
  high : ∀ j f, b ≤ j → L[j]? = some f → n ≤ f.id
def FindRel (W : World) (B : Nat) (v : Value) (L : List Fam) (n : Int) (i j : Value) (wr : World) : Prop := ∃ a b : Nat, i = .int .i64 a ∧ j = .int .i64 b ∧ FD W B v L n a b wr

set_option maxHeartbeats 4000000 in
set_option maxRecDepth 100000 in
theorem fam_find_some (B g cap : Nat) (L : List Fam) (n : Int) (W : World) (h : FRow W B (.slice (some ⟨g, 0, none⟩) L.length cap) L) (hL : L.length ≤ 1000000) (hA : Asc L) (hids : ∀ f ∈ L, okN f.id = true) (hn : okN n = true) :
    Calls Tryz.prog 111 #[.slice (some ⟨g, 0, none⟩) L.length cap, .int .i64 n, .func (.func 112) #[] #[]] W
      fun e w' => e = .returned (.tuple #[.int .i64 (ahead L n), .bool (hasB L n)]) ∧ Below W.heap.size W w' := by
  have H0 := Lib.hid h
  have HI := Lib.hid hids
  have HA := Lib.hid hA
  clear h hids hA
  go_enter Tryz.func111, Tryz.ntmps111
  go_wp2
  go_loopw [9, 10] (fun i j wr => FindRel W B (.slice (some ⟨g, 0, none⟩) L.length cap) L n i j wr) (fun i j _ => (intOf j).toNat - (intOf i).toNat)
  case atStart => exact ⟨0, L.length, rfl, rfl, Below.refl _ _, H0.out, Nat.zero_le _, Nat.le_refl _, fun j f hj => absurd hj (Nat.not_lt_zero _), fun j f hj hf => by rw [List.getElem?_eq_none hj] at hf; cases hf⟩
  case round =>
    obtain ⟨a, b, rfl, rfl, hd⟩ := hrel
    have HD := Lib.hid hd
    have hab := hd.le
    have htop := hd.top
    clear hd
    by_cases hlt : a < b
    · obtain ⟨k, hk1, hk2, hk3, hk4⟩ : ∃ k : Nat, ((a : Int) + (b : Int)) / 2 = (k : Int) ∧ (a + b) / 2 = k ∧ a ≤ k ∧ k < b := ⟨(a + b) / 2, by omega, rfl, by omega, by omega⟩
      have hkL : k < L.length := by omega
      obtain ⟨f, hf⟩ : ∃ f, L[k]? = some f := ⟨_, List.getElem?_eq_getElem hkL⟩
      have hfo := HI.out f (List.mem_of_getElem? hf)
      have HC := Lib.hid (fun w => fam_cmp f n hfo hn w)
      have hfr := okN_iff.1 hfo
      have hnr := okN_iff.1 hn
      have hsh : ∀ j f', j < k + 1 → L[j]? = some f' → f'.id ≤ f.id := by
        intro j f' hj hf'
        rcases Nat.lt_or_ge j k with hjk | hjk
        · have := List.pairwise_iff_getElem.1 HA.out j k (by omega) hkL hjk
          rw [List.getElem?_eq_getElem (by omega)] at hf' hf
          cases hf'
          cases hf
          omega
        · obtain rfl : j = k := by omega
          rw [hf] at hf'
          cases hf'
          exact Int.le_refl _
      have hsl : ∀ j f', k ≤ j → L[j]? = some f' → f.id ≤ f'.id := by
        intro j f' hj hf'
        rcases Nat.lt_or_ge k j with hjk | hjk
        · have hjl := (List.getElem?_eq_some_iff.1 hf').1
          have := List.pairwise_iff_getElem.1 HA.out k j hkL hjl hjk
          rw [List.getElem?_eq_getElem (by omega)] at hf' hf
          cases hf'
          cases hf
          omega
        · obtain rfl : j = k := by omega
          rw [hf] at hf'
          cases hf'
          exact Int.le_refl _
      have HSH := Lib.hid hsh
      have HSL := Lib.hid hsl
      obtain ⟨i, cl, su, sc, ge, ma, us, re, de⟩ := f
      obtain ⟨c0, c1, c2, c3, c4, c5, c6, c7, c8⟩ := HD.out.row.nine hf
      have HF := Lib.hid hf
      unfold famVal famCs at HC
      dsimp only at HC hfr hfo
      clear hf hsh hsl hfo
      by_cases hc : i < n
      all_goals
        go_wp2_with fail
        go_at_call 112
        refine (HC.out _).mono ?_
        rintro e w1 ⟨rfl, hb⟩
        have HB := Lib.hid hb
        clear hb c0 c1 c2 c3 c4 c5 c6 c7 c8
        go_wp2_with fail
      · go_roundw
        case rel => exact ⟨k + 1, b, by go_num, rfl, below_2 HD.out.below HB.out, HD.out.row.below HB.out, by omega, HD.out.top, fun j f' hj hf' => by have := HSH.out j f' hj hf'; omega, HD.out.high⟩
        case measure => simp [intOf]; omega
      · go_roundw
        case rel => exact ⟨a, k, rfl, rfl, below_2 HD.out.below HB.out, HD.out.row.below HB.out, hk3, by omega, HD.out.low, fun j f' hj hf' => by have := HSL.out j f' hj hf'; omega⟩
        case measure => simp [intOf]; omega
    · obtain rfl : a = b := by omega
      have HE := Lib.hid (ahead_eq HA.out HD.out.top HD.out.low HD.out.high)
      by_cases haL : a < L.length
      · obtain ⟨f, hf⟩ : ∃ f, L[a]? = some f := ⟨_, List.getElem?_eq_getElem haL⟩
        have hfo := HI.out f (List.mem_of_getElem? hf)
        have HC := Lib.hid (fun w => fam_cmp f n hfo hn w)
        have HHB := Lib.hid (hasB_some (L := L) (n := n) (f := f) (by rw [HE.out]; exact hf))
        obtain ⟨i, cl, su, sc, ge, ma, us, re, de⟩ := f
        obtain ⟨c0, c1, c2, c3, c4, c5, c6, c7, c8⟩ := HD.out.row.nine hf
        have hz : (i - n == 0) = decide (i = n) := by rw [Bool.eq_iff_iff]; simp; omega
        unfold famVal famCs at HC
        dsimp only at HC HHB
        generalize decide (i = n) = bq at *
        clear hf hfo
        go_wp2_with fail
        go_at_call 112
        refine (HC.out _).mono ?_
        rintro e w1 ⟨rfl, hb⟩
        have HB := Lib.hid hb
        clear hb c0 c1 c2 c3 c4 c5 c6 c7 c8
        go_wp2_with fail
        go_ret2
        exact ⟨by rw [HE.out, HHB.out]; rfl, below_2 HD.out.below HB.out⟩
      · have HHB := Lib.hid (hasB_none (L := L) (n := n) (by rw [HE.out]; omega))
        go_wp2_with fail
        go_ret2
        exact ⟨by rw [HE.out, HHB.out]; rfl, HD.out.below⟩
set_option maxHeartbeats 4000000 in
set_option maxRecDepth 100000 in
theorem fam_find_nil (n : Int) (W : World) :
    Calls Tryz.prog 111 #[.slice none 0 0, .int .i64 n, .func (.func 112) #[] #[]] W
      fun e w' => e = .returned (.tuple #[.int .i64 0, .bool false]) ∧ W = w' := by
  go_enter Tryz.func111, Tryz.ntmps111
  go_wp2
  go_loopw [9, 10] (fun i j wr => i = .int .i64 0 ∧ j = .int .i64 0 ∧ W = wr) (fun _ _ _ => 0)
  case atStart => exact ⟨rfl, rfl, rfl⟩
  case round =>
    obtain ⟨rfl, rfl, rfl⟩ := hrel
    go_wp2_with fail
    go_ret2
    exact ⟨rfl, rfl⟩
theorem fam_find (B : Nat) (v : Value) (L : List Fam) (n : Int) (W : World) (h : FRow W B v L) (hL : L.length ≤ 1000000) (hA : Asc L) (hids : ∀ f ∈ L, okN f.id = true) (hn : okN n = true) :
    Calls Tryz.prog 111 #[v, .int .i64 n, .func (.func 112) #[] #[]] W
      fun e w' => e = .returned (.tuple #[.int .i64 (ahead L n), .bool (hasB L n)]) ∧ Below W.heap.size W w' := by
  rcases h.parts with ⟨rfl, rfl⟩ | ⟨g, cap, rfl, _⟩
  · exact (fam_find_nil n W).mono fun e w' hh => ⟨hh.1, hh.2 ▸ Below.refl _ _⟩
  · exact fam_find_some B g cap L n W h hL hA hids hn
/-- event.Apply's search: its slice lies in a variable -/
theorem fam_at (B vb : Nat) (v : Value) (L : List Fam) (n : Int) (W : World) (h : FRow W B v L) (hv : W.cell? ⟨vb, 0, none⟩ = some v) (hL : L.length ≤ 1000000) (hA : Asc L) (hids : ∀ f ∈ L, okN f.id = true) (hn : okN n = true) :
    Calls Tryz.prog 110 #[.int .i64 n, .pointer (some ⟨vb, 0, none⟩)] W fun e w' => e = .returned (.tuple #[.int .i64 (ahead L n), .bool (hasB L n)]) ∧ Below W.heap.size W w' := by
  have H := Lib.hid (fam_find B v L n W h hL hA hids hn)
  clear hA hids hn
  rcases h.parts with ⟨rfl, rfl⟩ | ⟨g, cap, rfl, _⟩
  all_goals
    clear h
    go_enter Tryz.func110, Tryz.ntmps110
    go_wp2_with (go_at_call 111; refine H.out.mono ?_; rintro e w1 ⟨rfl, hb⟩; have HB := Lib.hid hb; clear hb)
    go_ret2
    exact ⟨rfl, HB.out⟩
end Go.Proofs.YtepjcdjpikbbjaaGreatDoor

/-
  slices.Insert of one family.
-/
namespace Go.Proofs.YtepjcdjpikbbjaaGreatDoor
open Go.RowKit Go.Sort

theorem FRow.block {w : World} {B : Nat} {v : Value} {L : List Fam} (h : FRow w B v L) : (v = .slice none 0 0 ∧ L = []) ∨ ∃ g cap cur, v = .slice (some ⟨g, 0, none⟩) L.length cap ∧ B ≤ g ∧ Blk w g 95 cur ∧ L.length ≤ cap ∧ cap ≤ 9223372036854775807 ∧ cur.size = cap * 9 ∧ cur.toList.take (L.length * 9) = flat L := by
  rcases h.2 with ⟨rfl, h0⟩ | ⟨g, cap, cur, rfl, hB, hb, hn, hm, hc, ht⟩
  · exact .inl ⟨rfl, List.eq_nil_of_length_eq_zero h0⟩
  · exact .inr ⟨g, cap, cur, rfl, hB, hb, hn, by unfold maxLen at hm; exact hm, hc, ht⟩
theorem FRow.of_block {w : World} {B g cap : Nat} {cur : Array Value} {L : List Fam} (hB : B ≤ g) (hb : Blk w g 95 cur) (hn : L.length ≤ cap) (hm : cap ≤ 9223372036854775807) (hc : cur.size = cap * 9) (ht : cur.toList.take (L.length * 9) = flat L) : FRow w B (.slice (some ⟨g, 0, none⟩) L.length cap) L :=
  ⟨flat_len L, .inr ⟨g, cap, cur, rfl, hB, hb, hn, by unfold maxLen; exact hm, hc, ht⟩⟩

set_option maxHeartbeats 2000000 in
set_option maxRecDepth 100000 in
/-- slices.Insert at the end -/
theorem fam_insert_end (B vb : Nat) (v : Value) (L : List Fam) (f : Fam) (w : World) (h : FRow w B v L) (hL : L.length ≤ 1000000) (hB : B ≤ w.heap.size) (hv : Blk w vb 95 (famCs f)) :
    Calls Tryz.prog 113 #[v, .int .i64 L.length, .slice (some ⟨vb, 0, none⟩) 1 1] w fun e w' => ∃ v', e = .returned v' ∧ FRow w' B v' (L ++ [f]) ∧ w.grownBy w' v.ownBlock := by
  obtain ⟨i0, hii, hz0, hz1, hz2⟩ := info_parts famInfo
  have hnews : ∀ j u, (famCs f).toList[j]? = some u → w.cell? ((⟨vb, 0, none⟩ : Addr).add j) = some u := by
    intro j u hj
    rw [Addr.add_lit, Nat.zero_add, hv.cell j]
    rwa [Array.getElem?_toList] at hj
  have HN := Lib.hid hnews
  have HO := Lib.hid h
  have hone : ∀ u ∈ (famCs f).toList, u.oneCell' = true := fun u hu => flat_one (L := [f]) (by simpa [flat] using hu)
  have HON := Lib.hid hone
  clear hnews hv hone
  rcases h.parts with ⟨rfl, rfl⟩ | ⟨g, cap, rfl, h1, h2, h3, h4, _⟩
  all_goals
    clear h
    go_enter Tryz.func113, Tryz.ntmps113
    go_wp2_with
      (at_builtin; refine wpList_append_own _ rfl _ _ 81 rfl B 95 i0 (.agg (famCs Fam.zero)) 9 104 Tryz.underlying81 hii hz0 hz1 hz2 rfl (by decide) _ _ _ rfl HO.out ⟨vb, 0, none⟩ 1 1 (famCs f).toList rfl rfl HN.out HON.out (by unfold maxLen; omega) (by omega) hB ?_; intro v' w3 hown hgrow hnil
       have HO3 := Lib.hid hown
       have HG := Lib.hid hgrow
       clear hown hgrow hnil)
  all_goals
    go_ret
    refine ⟨_, rfl, ?_, HG.out⟩
    have := HO3.out
    first
      | (unfold FRow
         rw [flat_app, List.length_append]
         simpa [flat] using this)
      | simpa [FRow, flat] using this

theorem famSize : (Tryz.prog.info? 95).map (·.size) = some 9 := by kernel_rfl
/-- copy, of families: all is read before anything is written -/
theorem run_copy_fam (w : World) (ty : TypeId) (g o dLen dCap : Nat) (a : Addr) (sLen sCap m : Nat) (cur : Array Value) (cs : List Value) (hg : Blk w g 95 cur) (hm : Nat.min sLen dLen = m) (hl : cs.length = m * 9)
    (hsrc : ∀ j v, cs[j]? = some v → w.cell? (a.add j) = some v) (hfit : o + cs.length ≤ cur.size) (h1 : ∀ v ∈ cs, v.oneCell' = true) :
    (Builtin.copy_ #[81, 81] ty #[.slice (some ⟨g, o, none⟩) dLen dCap, .slice (some a) sLen sCap]).run Tryz.prog w =
      .ok (goInt m) (w.setRow g (cur.toList.take o ++ cs ++ cur.toList.drop (o + cs.length)).toArray) := by
  have hld := run_loadCells_list (P := Tryz.prog) w a cs hsrc
  rw [hl] at hld
  have hst := run_storeCells_at Tryz.prog g o _ cs 0 cur w hg (by simpa using hfit) h1
  obtain ⟨i, hq, hi⟩ : ∃ i, Tryz.prog.info? 95 = some i ∧ i.size = 9 := by
    have h := famSize
    cases hq : Tryz.prog.info? 95 with
    | none => rw [hq] at h; cases h
    | some i => rw [hq] at h; exact ⟨i, rfl, by simpa using h⟩
  simp [Builtin.copy_, run_underlying Tryz.underlying81, Builtin.lenOf, Builtin.firstCells, sizeOf, typeInfo, hq, hi, hm, hld, hst]
theorem Blk.row {w : World} {g : Nat} {T : TypeId} {cur new : Array Value} (h : Blk w g T cur) : Blk (w.setRow g new) g T new := setRow_heap w g cur new _ _ h
theorem only_setRow (w : World) (g : Nat) (new : Array Value) : w.grownBy (w.setRow g new) (some g) :=
  ⟨rfl, rfl, rfl, by simp, fun i _ hne => setRow_other w g i new (by intro e; exact hne (by rw [e]))⟩
theorem shape_blk {w : World} {g : Nat} {T : TypeId} {cur : Array Value} (h : Blk w g T cur) : w.shape? g = some (T, cur.size) := by
  unfold Blk at h
  simp [World.shape?, h]
theorem size_fam (w : World) : (Go.sizeOf 95).run Tryz.prog w = .ok 9 w := by kernel_rfl

/-- the cells behind an insertion in place -/
theorem ins_cells {L : List Fam} {f : Fam} {xs : List Value} {i c : Nat} (hx : xs.length = c * 9) (ht : xs.take (L.length * 9) = flat L) (hi : i ≤ L.length) (hc : L.length + 1 ≤ c) :
    let c1 := xs.take ((i + 1) * 9) ++ flat (L.drop i) ++ xs.drop ((i + 1) * 9 + (flat (L.drop i)).length)
    let c2 := c1.take (i * 9) ++ (famCs f).toList ++ c1.drop (i * 9 + (famCs f).toList.length)
    c1.length = c * 9 ∧ c2.length = c * 9 ∧ c2.take ((L.length + 1) * 9) = flat (L.take i ++ f :: L.drop i) := by
  intro c1 c2
  have hd : (flat (L.drop i)).length = (L.length - i) * 9 := by rw [flat_len, List.length_drop]
  have hf : (famCs f).toList.length = 9 := rfl
  have h1 : c1.length = c * 9 := by
    show (xs.take ((i + 1) * 9) ++ flat (L.drop i) ++ xs.drop ((i + 1) * 9 + (flat (L.drop i)).length)).length = _
    simp only [List.length_append, List.length_take, List.length_drop, hd, hx]
    omega
  have ht1 : c1.take (i * 9) = flat (L.take i) := by
    show (xs.take ((i + 1) * 9) ++ flat (L.drop i) ++ xs.drop ((i + 1) * 9 + (flat (L.drop i)).length)).take (i * 9) = _
    rw [List.append_assoc, List.take_append_of_le_length (by rw [List.length_take, hx]; omega), List.take_take, flat_take, ← ht, List.take_take]
    congr 1
    omega
  have hd1 : c1.drop (i * 9 + 9) = flat (L.drop i) ++ xs.drop ((L.length + 1) * 9) := by
    show (xs.take ((i + 1) * 9) ++ flat (L.drop i) ++ xs.drop ((i + 1) * 9 + (flat (L.drop i)).length)).drop (i * 9 + 9) = _
    have hl : (xs.take ((i + 1) * 9)).length = i * 9 + 9 := by rw [List.length_take, hx]; omega
    rw [List.append_assoc, ← hl, List.drop_left, hd]
    congr 2
    omega
  have hc2 : c2 = flat (L.take i) ++ (famCs f).toList ++ (flat (L.drop i) ++ xs.drop ((L.length + 1) * 9)) := by
    show c1.take (i * 9) ++ (famCs f).toList ++ c1.drop (i * 9 + (famCs f).toList.length) = _
    rw [ht1, hf, hd1]
  refine ⟨h1, ?_, ?_⟩
  · rw [hc2]
    simp only [List.length_append, List.length_drop, hd, hx, hf, flat_len, List.length_take]
    omega
  · have e : flat (L.take i ++ f :: L.drop i) = flat (L.take i) ++ (famCs f).toList ++ flat (L.drop i) := by
      rw [flat_app, flat_cons, List.append_assoc]
    rw [hc2, e, ← List.append_assoc, List.take_append_of_le_length (by simp only [List.length_append, hd, hf, flat_len, List.length_take]; omega), List.take_of_length_le (by simp only [List.length_append, hd, hf, flat_len, List.length_take]; omega)]

set_option maxHeartbeats 8000000 in
set_option maxRecDepth 100000 in
/-- slices.Insert ahead of the end, where there is room -/
theorem fam_insert_room (B g cap vb i : Nat) (cur : Array Value) (L : List Fam) (f : Fam) (w : World) (hi : i < L.length) (hb : Blk w g 95 cur) (hcap : L.length + 1 ≤ cap) (hm : cap ≤ 9223372036854775807) (hc : cur.size = cap * 9)
    (ht : cur.toList.take (L.length * 9) = flat L) (hBg : B ≤ g) (hL : L.length ≤ 1000000) (hv : Blk w vb 95 (famCs f)) (hne : vb ≠ g) :
    Calls Tryz.prog 113 #[.slice (some ⟨g, 0, none⟩) L.length cap, .int .i64 i, .slice (some ⟨vb, 0, none⟩) 1 1] w fun e w' => ∃ v', e = .returned v' ∧ FRow w' B v' (L.take i ++ f :: L.drop i) ∧ w.grownBy w' (some g) := by
  have hcl : cur.toList.length = cap * 9 := by rw [Array.length_toList]; exact hc
  obtain ⟨k1, k2, k3⟩ := ins_cells (f := f) hcl ht (Nat.le_of_lt hi) hcap
  have hd : (flat (L.drop i)).length = (L.length - i) * 9 := by rw [flat_len, List.length_drop]
  have hov : ∀ o lb cb, (callFunc 163 #[.slice (some ⟨vb, 0, none⟩) 1 1, .slice (some ⟨g, o, none⟩) lb cb]).run Tryz.prog w = .ok (.value (.bool false)) w := fun o lb cb => by
    rw [run_callFunc_extern Tryz.func163 (by kernel_rfl) (by kernel_rfl) (by kernel_rfl) (e := Extern.SlicesOverlaps.overlaps #[81, 81] #[4]) (by kernel_rfl),
      Lib.run_overlaps_apart w 81 4 95 Tryz.underlying81 9 size_fam ⟨vb, 0, none⟩ ⟨g, o, none⟩ 1 1 lb cb hne _ _ _ _ (shape_blk hv) (shape_blk hb) (by rw [hc]; omega) (hv.frozen 0) (hv.frozen _)]
    rfl
  have hsrc1 : ∀ j v, (flat (L.drop i))[j]? = some v → w.drew.cell? ((⟨g, i * 9, none⟩ : Addr).add j) = some v := by
    intro j v hj
    have hjl := (List.getElem?_eq_some_iff.1 hj).1
    rw [Addr.add_lit]
    show w.cell? ⟨g, i * 9 + j, none⟩ = some v
    rw [hb.cell, ← hj, flat_drop, List.getElem?_drop, ← ht, List.getElem?_take, if_pos (by omega), Array.getElem?_toList]
  obtain ⟨c1, hc1⟩ : ∃ c1 : Array Value, c1 = (cur.toList.take ((i + 1) * 9) ++ flat (L.drop i) ++ cur.toList.drop ((i + 1) * 9 + (flat (L.drop i)).length)).toArray := ⟨_, rfl⟩
  have hc1l : c1.toList = cur.toList.take ((i + 1) * 9) ++ flat (L.drop i) ++ cur.toList.drop ((i + 1) * 9 + (flat (L.drop i)).length) := by rw [hc1]
  have hcp1 : ∀ ty, (Builtin.copy_ #[81, 81] ty #[.slice (some ⟨g, (i + 1) * 9, none⟩) (L.length - i) (cap - (i + 1)), .slice (some ⟨g, i * 9, none⟩) (L.length + 1 - i) (cap - i)]).run Tryz.prog w.drew = .ok (goInt (L.length - i : Nat)) (w.drew.setRow g c1) := fun ty => by
    rw [hc1]
    exact run_copy_fam w.drew ty g _ _ _ _ _ _ (L.length - i) cur _ hb.drew (by simp only [Nat.min_def]; split <;> omega) hd hsrc1 (by rw [hd, hc]; omega) (fun v hv => flat_one hv)
  have hb1' : Blk (w.drew.setRow g c1) g 95 c1 := hb.drew.row
  obtain ⟨W1, hW1⟩ : ∃ W1, W1 = w.drew.setRow g c1 := ⟨_, rfl⟩
  rw [← hW1] at hcp1 hb1'
  have hvW : Blk W1 vb 95 (famCs f) := by rw [hW1]; exact hv.drew.grown (only_setRow _ _ _) (by simpa using hne)
  have hsrc2 : ∀ j v, (famCs f).toList[j]? = some v → W1.cell? ((⟨vb, 0, none⟩ : Addr).add j) = some v := by
    intro j v hj
    rw [Addr.add_lit, Nat.zero_add, hvW.cell, ← Array.getElem?_toList, hj]
  obtain ⟨c2, hc2⟩ : ∃ c2 : Array Value, c2 = (c1.toList.take (i * 9) ++ (famCs f).toList ++ c1.toList.drop (i * 9 + (famCs f).toList.length)).toArray := ⟨_, rfl⟩
  have hc1s : c1.size = cap * 9 := by rw [← Array.length_toList, hc1l]; exact k1
  have hcp2 : ∀ ty dc, (Builtin.copy_ #[81, 81] ty #[.slice (some ⟨g, i * 9, none⟩) (L.length + 1 - i) dc, .slice (some ⟨vb, 0, none⟩) 1 1]).run Tryz.prog W1 = .ok (goInt (1 : Nat)) (W1.setRow g c2) := fun ty dc => by
    rw [hc2]
    exact run_copy_fam W1 ty g _ _ _ _ _ _ 1 c1 _ hb1' (by simp only [Nat.min_def]; split <;> omega) rfl hsrc2 (by rw [hc1s]; show i * 9 + 9 ≤ _; omega) (fun v hv => flat_one (L := [f]) (by simpa [flat] using hv))
  have HFIN := Lib.hid (show FRow (W1.setRow g c2) B (.slice (some ⟨g, 0, none⟩) (L.take i ++ f :: L.drop i).length cap) (L.take i ++ f :: L.drop i) ∧ w.grownBy (W1.setRow g c2) (some g) from by
    have hlen : (L.take i ++ f :: L.drop i).length = L.length + 1 := by simp; omega
    have hc2l : c2.toList = (c1.toList.take (i * 9) ++ (famCs f).toList ++ c1.toList.drop (i * 9 + (famCs f).toList.length)) := by rw [hc2]
    rw [hc1l] at hc2l
    refine ⟨FRow.of_block hBg hb1'.row (by omega) hm ?_ ?_, ?_⟩
    · rw [← Array.length_toList, hc2l]; exact k2
    · rw [hlen, hc2l]; exact k3
    · rw [hW1]
      exact only_trans (only_trans (only_drew (only_refl w (some g))) (only_setRow w.drew g c1)) (only_setRow _ g c2))
  have hlen : (L.take i ++ f :: L.drop i).length = L.length + 1 := by simp; omega
  rw [hlen] at HFIN
  have hw1 : IntKind.i64.wrap ((i : Int) + 1) = (i : Int) + 1 := by rw [IntKind.wrap_i64]; omega
  have hz1 : (0 : Int) ≤ (i : Int) + 1 := by omega
  have htn : ((i : Int) + 1).toNat = i + 1 := by omega
  have hz2 : ¬ (cap = i + 1) := by omega
  have hz3 : (i : Int) ≤ (L.length : Int) + 1 := by omega
  have hz4 : ¬ (cap = i) := by omega
  have hin : i ≤ L.length := by omega
  have mixed : Tryz.prog.follows .mixedOrders = true := by kernel_rfl
  have HW1 := Lib.hid hW1
  clear k1 k2 k3 hd hcl ht hsrc1 hsrc2 hc1 hc1l hc1s hc2 hvW hb1' hW1 hb hv hlen
  go_enter Tryz.func113, Tryz.ntmps113
  go_wp2_with (simp only [hov])
  go_region_law_o (refine step_copy_runI rfl _ _ 81 81 rfl _ _ (by simp [Act.eval, Act.put]) (by simp [Act.eval, Act.put]) (hcp1 _) ?_)
  go_wp2_with (at_builtin; refine wpList_copy_runI _ rfl _ _ 81 81 rfl _ _ rfl rfl (hcp2 _ _) ?_)
  go_ret
  exact ⟨_, rfl, HFIN.out.1, HFIN.out.2⟩
end Go.Proofs.YtepjcdjpikbbjaaGreatDoor
