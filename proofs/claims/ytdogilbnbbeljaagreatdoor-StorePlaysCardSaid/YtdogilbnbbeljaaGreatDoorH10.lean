/-
  strings.Join of a row of texts, by the shelf's contract.
-/
import Derived.Test.YtdogilbnbbeljaaGreatDoorH02
import Derived.Test.YtdogilbnbbeljaaGreatDoorH09
import Derived.Test.YtdogilbnbbeljaaGreatDoorH05
import Derived.Test.YtdogilbnbbeljaaGreatDoorH06
import Derived.Test.YtdogilbnbbeljaaGreatDoorH08
import Derived.BigQuiet
import Derived.Deep.RegionHeld3
import Derived.Lib.IndexBytes
namespace Go.Proofs.YtdogilbnbbeljaaGreatDoor
open Go.RowKit Go.Sort

theorem join_row (c : UInt8) {B : Nat} {v : Value} {L : List (List UInt8)} {w : World} (h : Row w B v L) (hL : L.length ≤ 1000000) (hlen : (glue c L).length ≤ 1000000) :
    Calls Tryz.prog 54 #[v, .string ⟨#[c]⟩] w fun e w' => e = .returned (.string (txt (glue c L))) ∧ Below w.heap.size w w' := by
  obtain ⟨g, cap, rfl, hg, hlt, hn, hm, hH⟩ := h.parts
  have hd : (L.map txt).map (·.data.toList) = L := by
    rw [List.map_map]
    exact (List.map_congr_left fun x _ => data_txt x).trans (List.map_id L)
  have hj : Lib.join ((L.map txt).map (·.data.toList)) (⟨#[c]⟩ : ByteArray).data.toList = glue c L := by rw [hd]; exact glue_join c L
  have := Tryz.strings_Join g 0 cap (L.map txt) ⟨#[c]⟩ w (fun j x hx => by
    rw [List.getElem?_map] at hx
    rcases e : L[j]? with _ | y
    · rw [e] at hx; cases hx
    · rw [e] at hx
      have hj := (List.getElem?_eq_some_iff.1 e).1
      have hc := (hH j (by simpa using hj)).1
      rw [hc]
      simp at hx
      subst hx
      simp [encStr, txt, List.getElem!_eq_getElem?_getD, e]) hlt (by rw [List.length_map]; omega) (by rw [List.length_map]; omega) (by rw [hj]; omega)
  rw [List.length_map, hj] at this
  exact this
end Go.Proofs.YtdogilbnbbeljaaGreatDoor

/-
  store.sealed, store.opened: words with their tag behind; what stands ahead of a tag that is right.
-/
namespace Go.Proofs.YtdogilbnbbeljaaGreatDoor
open Go.RowKit Go.Sort

theorem dig_no (d : Nat) : dig d ≠ 32 := by
  by_cases h : d < 16
  · have : ∀ n : Fin 16, dig n.1 ≠ 32 := by decide
    exact this ⟨d, h⟩
  · unfold dig
    rw [List.getD_eq_getElem?_getD, List.getElem?_eq_none (by show hexTab.length ≤ d; unfold hexTab; simp; omega)]
    decide
theorem hexN_no : ∀ (k n : Nat), (32 : UInt8) ∉ hexN k n
  | 0, n => by simp [hexN]
  | k + 1, n => by
    rw [hexN_cons, List.mem_cons]
    rintro (h | h)
    · exact dig_no _ h.symm
    · exact hexN_no k n h
theorem tag_ok : TagOk tagL := ⟨fun _ _ => hexN_length _ _, fun _ _ => hexN_no _ _⟩
theorem sealL_len (x : List UInt8) : (sealL tagL x).length = x.length + 17 := by
  unfold sealL
  rw [List.length_append, List.length_cons, tag_ok.len]

set_option maxRecDepth 100000 in
theorem store_sealed (B : Nat) (v : Value) (L : List (List UInt8)) (W : World) (h : Row W B v L) (hL : L.length ≤ 100) (hlen : (glue 32 L).length ≤ 1000) :
    Calls Tryz.prog 34 #[v] W fun e w' => e = .returned (.string (txt (sealL tagL (glue 32 L)))) ∧ Below W.heap.size W w' := by
  have HJ := Lib.hid (join_row 32 h (by omega) (by omega))
  have hsz : (txt (glue 32 L)).size ≤ 1000 := by rw [← size_data, data_txt]; exact hlen
  have HT := Lib.hid (fun w => mac_tag 0 (txt (glue 32 L)) w (by omega))
  have hdt : (txt (glue 32 L)).data.toList = glue 32 L := data_txt _
  rw [hdt] at HT
  have hts : (⟨(tagL 0 (glue 32 L)).toArray⟩ : ByteArray).size = 16 := by have := tag_ok.len 0 (glue 32 L); simpa [ByteArray.size] using this
  have hres : (txt (glue 32 L) ++ ⟨#[32]⟩) ++ (⟨(tagL 0 (glue 32 L)).toArray⟩ : ByteArray) = txt (sealL tagL (glue 32 L)) := by
    apply ByteArray.ext
    apply Array.ext'
    unfold sealL txt
    simp
  have HR := Lib.hid hres
  clear h hL hlen hdt hres
  generalize txt (sealL tagL (glue 32 L)) = r at *
  generalize (⟨(tagL 0 (glue 32 L)).toArray⟩ : ByteArray) = tg at *
  generalize txt (glue 32 L) = x at *
  go_enter Tryz.func34, Tryz.ntmps34
  go_wp2_with fail
  go_at_call 54
  refine HJ.out.mono ?_
  rintro e w1 ⟨rfl, hb⟩
  have HB := Lib.hid hb
  clear hb HJ
  go_wp2_with fail
  go_at_call 35
  refine (HT.out _).mono ?_
  rintro e w2 ⟨rfl, hb⟩
  have HB2 := Lib.hid (below_2 HB.out hb)
  clear hb HT
  go_wp2_with fail
  go_ret
  refine ⟨?_, HB2.out⟩
  rw [← HR.out]
  rfl

/-- what store.opened gives -/
def OpenGot (W : World) (o : Option (List UInt8)) (e : Ending) (w' : World) : Prop :=
  (∃ x b, e = .returned (.tuple #[.string x, .bool b]) ∧ (match o with | some l => x = txt l ∧ b = true | none => x = ⟨#[]⟩ ∧ b = false)) ∧ Below W.heap.size W w'

theorem opened_none (s : ByteArray) (W : World) (hs : s.size ≤ 1000) (h1 : Lib.lastIndexByte s 32 = -1) :
    Calls Tryz.prog 48 #[.string s] W fun e w' => e = .returned (.tuple #[.string ⟨#[]⟩, .bool false]) ∧ Below W.heap.size W w' := by
  have HL := Lib.hid (fun w => Tryz.strings_LastIndexByte s 32 (by omega) w)
  rw [h1] at HL
  clear h1
  go_enter Tryz.func48, Tryz.ntmps48
  go_wp2_with (go_at_call 70; refine (HL.out _).mono ?_; rintro e w1 ⟨rfl, rfl⟩)
  go_quiet (fail)
  go_wp2_with fail
  go_ret2
  exact ⟨rfl, below_drewN (Below.refl _ _) _⟩
set_option maxRecDepth 100000 in
theorem opened_some (s x t : ByteArray) (i : Nat) (W : World) (hs : s.size ≤ 1000) (h1 : Lib.lastIndexByte s 32 = (i : Int)) (hi : i < s.size) (hx : s.extract 0 i = x) (ht : s.extract (i + 1) s.size = t) (hxs : x.size ≤ 1000) :
    Calls Tryz.prog 48 #[.string s] W fun e w' => e = .returned (.tuple #[.string (if t.data.toList = tagL 0 x.data.toList then x else ⟨#[]⟩), .bool (decide (t.data.toList = tagL 0 x.data.toList))]) ∧ Below W.heap.size W w' := by
  have HL := Lib.hid (fun w => Tryz.strings_LastIndexByte s 32 (by omega) w)
  rw [h1] at HL
  have HT := Lib.hid (fun w => mac_tag 0 x w (by omega))
  have hq : (t.toList == (⟨(tagL 0 x.data.toList).toArray⟩ : ByteArray).toList) = decide (t.data.toList = tagL 0 x.data.toList) := by
    rw [ByteArray.toList_eq, ByteArray.toList_eq, Bool.eq_iff_iff]
    simp
  have hi0 : ¬ (i : Int) < 0 := by omega
  have hi1 : (0 : Int) ≤ (i : Int) := by omega
  have hi2 : (i : Int) ≤ (s.size : Int) := by omega
  have hi3 : (0 : Int) ≤ (i : Int) + 1 := by omega
  have hi4 : (i : Int) + 1 ≤ (s.size : Int) := by omega
  have hi5 : IntKind.i64.wrap ((i : Int) + 1) = (i : Int) + 1 := by unfold IntKind.wrap; simp [IntKind.signed, IntKind.bits]; omega
  have hi6 : ((i : Int) + 1).toNat = i + 1 := by omega
  generalize (⟨(tagL 0 x.data.toList).toArray⟩ : ByteArray) = tg at *
  clear h1
  by_cases hc : t.data.toList = tagL 0 x.data.toList
  all_goals
    have HC := Lib.hid hc
    first | rw [if_pos hc] | rw [if_neg hc]
    first | rw [decide_eq_true hc] at hq ⊢ | rw [decide_eq_false hc] at hq ⊢
    clear hc
    go_enter Tryz.func48, Tryz.ntmps48
    go_wp2_with (go_at_call 70; refine (HL.out _).mono ?_; rintro e w1 ⟨rfl, rfl⟩)
    go_region_held3 (fun w' => Below w1.heap.size w1 w')
      (first
        | with_reducible assumption
        | exact below_drewN (Below.refl _ _) 1
        | exact below_2 (by assumption) (by assumption))
      (first
        | (go_at_call 35; with_reducible refine (HT.out _).mono ?_; rintro e w2 ⟨rfl, hb2⟩))
    go_wp2_with fail
    go_ret2
    exact ⟨rfl, by assumption⟩

/-- store.opened: what stands ahead of a tag that is right -/
theorem store_opened (s : ByteArray) (W : World) (hs : s.size ≤ 1000) : Calls Tryz.prog 48 #[.string s] W (OpenGot W (openL tagL s.data.toList)) := by
  rcases last_blank s with ⟨h1, h2⟩ | ⟨i, hi, h1, h2⟩
  · refine (opened_none s W hs h1).mono fun e w' ⟨he, hb⟩ => ⟨⟨_, _, he, ?_⟩, hb⟩
    unfold openL
    rw [h2]
    exact ⟨rfl, rfl⟩
  · have hx : (s.extract 0 i).data.toList = s.data.toList.take i := by rw [Lib.extract_data]; simp
    have ht : (s.extract (i + 1) s.size).data.toList = s.data.toList.drop (i + 1) := by rw [Lib.extract_to_end]
    refine (opened_some s (s.extract 0 i) (s.extract (i + 1) s.size) i W hs h1 hi rfl rfl (by rw [ByteArray.size_extract]; omega)).mono fun e w' ⟨he, hb⟩ => ⟨⟨_, _, he, ?_⟩, hb⟩
    unfold openL
    rw [h2]
    dsimp only
    rw [hx, ht]
    by_cases hc : s.data.toList.drop (i + 1) = tagL 0 (s.data.toList.take i)
    · rw [if_pos hc, if_pos hc]
      refine ⟨?_, by simpa using hc⟩
      rw [← hx, txt_data]
    · rw [if_neg hc, if_neg hc]
      exact ⟨rfl, by simpa using hc⟩
end Go.Proofs.YtdogilbnbbeljaaGreatDoor
