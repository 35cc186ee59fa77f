/-
  The reference's Scope: what it gives is the plain law's.
-/
import Derived.Test.YtckohmhhcknmaaaGreatDoorP12
import Derived.Test.YtckohmhhcknmaaaGreatDoorP08
import Derived.Test.YtckohmhhcknmaaaGreatDoorP03
import Derived.Test.YtckohmhhcknmaaaGreatDoorP09
import Derived.Test.YtckohmhhcknmaaaGreatDoorP01
import Derived.OrdersHeld
import Derived.Deep.RegionHeld3
namespace Go.Proofs.YtckohmhhcknmaaaGreatDoor
open Go.RowKit Go.Sort Go.Maps

theorem row_ne_map {P : Program} {K E e : TypeId} {w : World} {B m n k : Nat} {f : List UInt8 → Bool} {v : Value} {xs : List Value} (h : w.ownsRow B e 1 v n xs) (hm : MapSB P K E w m k f) : v.ownBlock ≠ some m := by
  obtain ⟨D, ⟨es, clock, hb, _⟩, _⟩ := hm
  rcases h.2 with ⟨rfl, _⟩ | ⟨g, cap, cur, rfl, _, hg, _⟩
  · simp [Value.ownBlock]
  · intro e
    have : g = m := by simpa [Value.ownBlock] using e
    subst this
    rw [hb] at hg
    cases hg

structure RefInv (W : World) (s : List UInt8) (k : Nat) (d : List (List UInt8)) (c : List UInt8) (out : Value) (wr : World) : Prop where
  below : Below W.heap.size W wr
  map : MapSB Tryz.prog 9 4 wr W.heap.size d.length (fun x => d.contains x)
  row : wr.ownsRow W.heap.size 9 1 out (firsts d).length ((firsts d).map encStr)
  len : d.length ≤ k
  clen : c.length ≤ k
  front : k ≤ s.length → Front s k d c
  done : k = s.length + 1 → parts 43 s = d ∧ (parts 43 s).all okW = true
  top : k ≤ s.length + 1

section
variable {W wr wm w3 : World} {s : List UInt8} {k : Nat} {d : List (List UInt8)} {c : List UInt8} {out v' : Value} {o : Obj}
theorem RefInv.ne (h : RefInv W s k d c out wr) : out.ownBlock ≠ some W.heap.size := row_ne_map h.row h.map
theorem RefInv.wm_below (h : RefInv W s k d c out wr) (hg : wr.grownBy wm (some W.heap.size)) : Below W.heap.size W wm := below_of_only h.below hg (Nat.le_refl _) h.below.size
theorem RefInv.seamFront (h : RefInv W s k d c out wr) (hc : c ≠ []) (hx : k = s.length ∨ s[k]? = some 43) : (k + 1 ≤ s.length → Front s (k + 1) (d ++ [c]) []) ∧ (k + 1 = s.length + 1 → parts 43 s = d ++ [c] ∧ (parts 43 s).all okW = true) ∧ k + 1 ≤ s.length + 1 := by
  rcases hx with hx | hx
  · refine ⟨fun h' => by omega, fun _ => ?_, by omega⟩
    have hf := h.front (by omega)
    subst hx
    exact hf.done hc
  · have hlt := (List.getElem?_eq_some_iff.1 hx).1
    exact ⟨fun _ => (h.front (by omega)).seam hx hc, fun h' => by omega, by omega⟩
theorem RefInv.seamOld (h : RefInv W s k d c out wr) (hc : c ≠ []) (hx : k = s.length ∨ s[k]? = some 43) (hin : d.contains c = true) : RefInv W s (k + 1) (d ++ [c]) [] out wr := by
  obtain ⟨f1, f2, f3⟩ := h.seamFront hc hx
  have hf : firsts (d ++ [c]) = firsts d := by
    rw [firsts_snoc, addNew, if_pos]
    rw [List.contains_iff_mem, (firsts_spec _ d rfl).2.1, ← List.contains_iff_mem]
    exact hin
  refine ⟨h.below, ?_, by rw [hf]; exact h.row, by have := h.len; simp; omega, by simp, f1, f2, f3⟩
  have e : (fun x => (d ++ [c]).contains x) = fun x => d.contains x := by
    funext x
    rw [Bool.eq_iff_iff, List.contains_iff_mem, List.contains_iff_mem, List.mem_append, List.mem_singleton]
    exact ⟨fun h => h.elim id fun e => by subst e; exact List.contains_iff_mem.1 hin, .inl⟩
  rw [e]
  exact h.map.mono (by simp)
theorem RefInv.seamNew (h : RefInv W s k d c out wr) (hc : c ≠ []) (hx : k = s.length ∨ s[k]? = some 43) (hin : d.contains c = false)
    (hm : MapSB Tryz.prog 9 4 wm W.heap.size (d.length + 1) (fun y => if y = c then true else d.contains y)) (hg1 : wr.grownBy wm (some W.heap.size))
    (ho : w3.ownsRow W.heap.size 9 1 v' ((firsts d).length + 1) ((firsts d).map encStr ++ [.string (txt c)])) (hg2 : (wm.alloc o).grownBy w3 out.ownBlock) : RefInv W s (k + 1) (d ++ [c]) [] v' w3 := by
  obtain ⟨f1, f2, f3⟩ := h.seamFront hc hx
  have hf : firsts (d ++ [c]) = firsts d ++ [c] := by
    rw [firsts_snoc, addNew, if_neg]
    rw [List.contains_iff_mem, (firsts_spec _ d rfl).2.1, ← List.contains_iff_mem, hin]
    decide
  have b1 : Below W.heap.size W wm := h.wm_below hg1
  have b2 : Below W.heap.size W (wm.alloc o) := b1.alloc b1.size o
  refine ⟨b2.grown hg2 b2.size fun i e => (h.row.lt i e).1, ?_, ?_, by have := h.len; simp; omega, by simp, f1, f2, f3⟩
  · have e : (fun x => (d ++ [c]).contains x) = fun y => if y = c then true else d.contains y := by
      funext x
      by_cases e : x = c
      · subst e; simp
      · rw [if_neg e]
        rw [Bool.eq_iff_iff, List.contains_iff_mem, List.contains_iff_mem, List.mem_append, List.mem_singleton]
        exact ⟨fun h => h.elim id fun h => absurd h e, .inl⟩
    rw [e]
    simpa using (hm.alloc o).kept hg2 (Ne.symm h.ne)
  · rw [hf, List.length_append, List.map_append]
    exact ho
theorem RefInv.more (h : RefInv W s k d c out wr) {x : UInt8} (hx : s[k]? = some x) (h1 : 97 ≤ x.toNat) (h2 : x.toNat ≤ 122) : RefInv W s (k + 1) d (c ++ [x]) out wr := by
  have hlt := (List.getElem?_eq_some_iff.1 hx).1
  exact ⟨h.below, h.map, h.row, by have := h.len; omega, by have := h.clen; simp; omega, fun _ => (h.front (by omega)).more hx h1 h2, fun h' => by omega, by omega⟩
end
theorem seam_long {d : List (List UInt8)} {c : List UInt8} {a b : Bool} (h : d.any longB = a) (hb : b = (a || decide (8 < c.length))) : Value.bool b = .bool ((d ++ [c]).any longB) := by
  rw [List.any_append, h, hb]
  simp [longB]
def RefRel (W : World) (s : List UInt8) (out word long i : Value) (wr : World) : Prop :=
  ∃ (k : Nat) (d : List (List UInt8)) (c : List UInt8), i = .int .i64 k ∧ word = .string (txt c) ∧ long = .bool (d.any longB) ∧ RefInv W s k d c out wr
def RefGot (s : ByteArray) (W : World) (e : Ending) (w' : World) : Prop :=
  ∃ v, e = .returned (.tuple #[v, .int .i64 (scopeN s.data.toList)]) ∧ RowOrNil w' W.heap.size v (scopeL s.data.toList) ∧ Below W.heap.size W w'

theorem byte_at (s : ByteArray) (k : Nat) (h : k < s.size) : s.data.toList[k]? = some (s[k]) := by
  rw [List.getElem?_eq_getElem (by rw [size_data]; exact h)]
  rfl
theorem ref_start (W : World) (s : List UInt8) : RefInv W s 0 [] [] (.slice none 0 0) (W.alloc (.map #[] 0)) :=
  ⟨(Below.refl _ _).alloc (Nat.le_refl _) _, by simpa using MapSB.made (P := Tryz.prog) (K := 9) (E := 4) W, World.ownsRow_nil _ _ _ _, Nat.zero_le _, Nat.zero_le _, fun _ => Front.start s, fun h => by omega, by omega⟩
theorem row_of_owns {w : World} {B : Nat} {v : Value} {L : List (List UInt8)} (h : w.ownsRow B 9 1 v L.length (L.map encStr)) (hL : L ≠ []) : Row w B v L := by
  rcases h.2 with ⟨rfl, h0⟩ | ⟨g, cap, cur, rfl, _⟩
  · simp at h0; exact absurd h0 hL
  · exact ⟨g, cap, rfl, h⟩
theorem txt_more (s : ByteArray) (c : List UInt8) (k : Nat) (h : k < s.size) : txt c ++ s.extract k (k + 1) = txt (c ++ [s[k]]) := by
  rw [← txt_app]
  congr 1
  apply ByteArray.ext
  apply Array.ext
  · simp [txt]; omega
  · intro i h1 h2
    simp [txt] at h1 h2
    have : i = 0 := by omega
    subst this
    simp [txt]
    rfl
theorem strInfo : (Tryz.prog.info? 9).map (fun i => (i.zero, i.size, i.bytes)) = some (some (.string ByteArray.empty), 1, 16) := by kernel_rfl

theorem ref_scope_nil (w : World) : Calls Tryz.prog 107 #[.string ⟨#[]⟩] w (RefGot ⟨#[]⟩ w) := by
  go_enter Tryz.func107, Tryz.ntmps107
  go_wp2_with fail
  go_ret2
  exact ⟨_, rfl, .inl ⟨rfl, rfl⟩, Below.refl _ _⟩

set_option maxHeartbeats 8000000 in
set_option maxRecDepth 100000 in
theorem ref_scope_some (s : ByteArray) (W : World) (hs : s.size ≤ 1000) (h0 : s.data.toList ≠ []) : Calls Tryz.prog 107 #[.string s] W (RefGot s W) := by
  have hemp : s.toList.isEmpty = false := by
    rw [← txt_data s, toList_txt]; simpa using h0
  have H0 := Lib.hid h0
  have HST := Lib.hid (ref_start W s.data.toList)
  have hmm := @run_makeMap Tryz.prog
  obtain ⟨i0, hi, hz0, hz1, hz2⟩ := info_parts strInfo
  clear h0
  go_enter Tryz.func107, Tryz.ntmps107
  go_wp2
  go_loopw [4, 5, 7, 15] (fun out word long i wr => RefRel W s.data.toList out word long i wr) (fun _ _ _ i _ => s.size + 1 - (intOf i).toNat)
  case atStart => exact ⟨0, [], [], rfl, rfl, rfl, HST.out⟩
  case round =>
    obtain ⟨k, d, c, rfl, rfl, rfl, h⟩ := hrel
    clear hemp hmm HST
    have H := Lib.hid h
    have htop := h.top
    have hclen := h.clen
    have hdlen := h.len
    rw [size_data] at htop
    clear h
    by_cases hk : k < s.size
    · have hbyte := byte_at s k hk
      have e0 : ((k : Int) == (s.size : Int)) = false := by simp; omega
      by_cases h43 : s[k] = 43
      · have e1 : ((s[k].toNat : Int) == 43) = true := by rw [h43]; rfl
        have HX := Lib.hid (show k = s.data.toList.length ∨ s.data.toList[k]? = some 43 from .inr (by rw [hbyte, h43]))
        clear hbyte h43
        by_cases hc : c = []
        · subst hc
          rw [show txt [] = (⟨#[]⟩ : ByteArray) from rfl]
          have h3 := Lib.hid (scopeN_form H0.out (Front.empty (H.out.front (by rw [size_data]; omega)) HX.out))
          have HB := Lib.hid H.out.below
          go_wp2_with fail
          go_ret2
          exact ⟨_, by rw [h3.out]; rfl, .inl ⟨rfl, scopeL_bad (by rw [h3.out]; decide)⟩, HB.out⟩
        · have hce : (txt c).toList.isEmpty = false := by rw [toList_txt]; simpa using hc
          have hcs := txt_size c
          have hlk := H.out.map.look Tryz.underlying238 Tryz.underlying9 Tryz.underlying4 (by rfl) c (by unfold maxLen; omega)
          generalize hy : txt c = y at *
          have HY := Lib.hid hy
          clear hy
          cases hin : d.contains c
          · obtain ⟨wm, hput, hmap, hgm⟩ := H.out.map.put (T := 238) Tryz.underlying238 Tryz.underlying9 Tryz.underlying4 (by unfold maxLen; omega) c (by unfold maxLen; omega) true
            rw [HY.out] at hput
            rw [hin] at hlk
            have HIN := Lib.hid hin
            have HMAP := Lib.hid hmap
            have HGM := Lib.hid hgm
            have hrow := H.out.row.kept hgm (.inr H.out.ne)
            have hfl := (firsts_spec _ d rfl).2.2
            have hB2 := (H.out.wm_below hgm).size
            clear hin hmap hgm
            cases hlong : d.any longB
            all_goals
              have HLO := Lib.hid hlong
              clear hlong
              by_cases h8 : 8 < y.size
              all_goals
                go_wp2_with
                  (at_builtin; refine wpList_append_own _ rfl _ _ 48 rfl W.heap.size 9 i0 (.string ByteArray.empty) 1 16 Tryz.underlying48 hi hz0 hz1 hz2 rfl (by decide) _ _ _ rfl (hrow.alloc _) ⟨wm.heap.size, 0, none⟩ 1 1 [.string y] rfl rfl (cell_one_new _ _ _) (fun x hx => by simp at hx; subst hx; rfl) (by unfold maxLen; omega) (by omega) (by simp; omega) ?_; intro v' w3 hown hgrow hnil
                   have HO := Lib.hid hown
                   have HG := Lib.hid hgrow
                   clear hown hgrow hnil)
                go_roundw
                case rel => exact ⟨k + 1, d ++ [c], [], by go_num, rfl, seam_long HLO.out (by first | rfl | (simp; omega)), H.out.seamNew hc HX.out HIN.out HMAP.out HGM.out (by rw [HY.out]; exact HO.out) HG.out⟩
                case measure => simp [intOf]; omega
          · rw [hin] at hlk
            have HIN := Lib.hid hin
            clear hin
            cases hlong : d.any longB
            all_goals
              have HLO := Lib.hid hlong
              clear hlong
              by_cases h8 : 8 < y.size
              all_goals
                go_wp2_with fail
                go_roundw
                case rel => exact ⟨k + 1, d ++ [c], [], by go_num, rfl, seam_long HLO.out (by first | rfl | (simp; omega)), H.out.seamOld hc HX.out HIN.out⟩
                case measure => simp [intOf]; omega
      · have e1 : ((s[k].toNat : Int) == 43) = false := by
          have : s[k].toNat ≠ 43 := fun e => h43 (UInt8.toNat_inj.1 e)
          simp; omega
        by_cases hlow : 97 ≤ s[k].toNat ∧ s[k].toNat ≤ 122
        · obtain ⟨l1, l2⟩ := hlow
          have HM := Lib.hid (H.out.more hbyte l1 l2)
          have HTX := Lib.hid (txt_more s c k hk)
          have hcs := txt_size c
          clear hbyte h43
          go_wp2_with fail
          go_roundw
          case rel => exact ⟨k + 1, d, _, by go_num, by rw [HTX.out], rfl, HM.out⟩
          case measure => simp [intOf]; omega
        · have h3 := Lib.hid (scopeN_form H0.out (bad_byte hbyte h43 hlow))
          have HB := Lib.hid H.out.below
          clear hbyte h43
          by_cases hl : 97 ≤ s[k].toNat
          · have hl2 : 122 < s[k].toNat := by omega
            go_wp2_with fail
            go_ret2
            exact ⟨_, by rw [h3.out]; rfl, .inl ⟨rfl, scopeL_bad (by rw [h3.out]; decide)⟩, HB.out⟩
          · have hl2 : s[k].toNat < 97 := by omega
            go_wp2_with fail
            go_ret2
            exact ⟨_, by rw [h3.out]; rfl, .inl ⟨rfl, scopeL_bad (by rw [h3.out]; decide)⟩, HB.out⟩
    · by_cases hk1 : k = s.size
      · have e0 : ((k : Int) == (s.size : Int)) = true := by simp; omega
        have HX := Lib.hid (show k = s.data.toList.length ∨ s.data.toList[k]? = some 43 from .inl (by rw [size_data]; exact hk1))
        have HK := Lib.hid hk1
        have hk2 : k ≤ s.size := by omega
        have hk3 : s.size ≤ k := by omega
        clear hk1 hk
        by_cases hc : c = []
        · subst hc
          rw [show txt [] = (⟨#[]⟩ : ByteArray) from rfl]
          have h3 := Lib.hid (scopeN_form H0.out (Front.empty (H.out.front (by rw [size_data]; omega)) HX.out))
          have HB := Lib.hid H.out.below
          go_wp2_with fail
          go_ret2
          exact ⟨_, by rw [h3.out]; rfl, .inl ⟨rfl, scopeL_bad (by rw [h3.out]; decide)⟩, HB.out⟩
        · have hce : (txt c).toList.isEmpty = false := by rw [toList_txt]; simpa using hc
          have hcs := txt_size c
          have hlk := H.out.map.look Tryz.underlying238 Tryz.underlying9 Tryz.underlying4 (by rfl) c (by unfold maxLen; omega)
          generalize hy : txt c = y at *
          have HY := Lib.hid hy
          clear hy
          cases hin : d.contains c
          · obtain ⟨wm, hput, hmap, hgm⟩ := H.out.map.put (T := 238) Tryz.underlying238 Tryz.underlying9 Tryz.underlying4 (by unfold maxLen; omega) c (by unfold maxLen; omega) true
            rw [HY.out] at hput
            rw [hin] at hlk
            have HIN := Lib.hid hin
            have HMAP := Lib.hid hmap
            have HGM := Lib.hid hgm
            have hrow := H.out.row.kept hgm (.inr H.out.ne)
            have hfl := (firsts_spec _ d rfl).2.2
            have hB2 := (H.out.wm_below hgm).size
            clear hin hmap hgm
            cases hlong : d.any longB
            all_goals
              have HLO := Lib.hid hlong
              clear hlong
              by_cases h8 : 8 < y.size
              all_goals
                go_wp2_with
                  (at_builtin; refine wpList_append_own _ rfl _ _ 48 rfl W.heap.size 9 i0 (.string ByteArray.empty) 1 16 Tryz.underlying48 hi hz0 hz1 hz2 rfl (by decide) _ _ _ rfl (hrow.alloc _) ⟨wm.heap.size, 0, none⟩ 1 1 [.string y] rfl rfl (cell_one_new _ _ _) (fun x hx => by simp at hx; subst hx; rfl) (by unfold maxLen; omega) (by omega) (by simp; omega) ?_; intro v' w3 hown hgrow hnil
                   have HO := Lib.hid hown
                   have HG := Lib.hid hgrow
                   clear hown hgrow hnil)
                go_roundw
                case rel => exact ⟨k + 1, d ++ [c], [], by go_num, rfl, seam_long HLO.out (by first | rfl | (simp; omega)), H.out.seamNew hc HX.out HIN.out HMAP.out HGM.out (by rw [HY.out]; exact HO.out) HG.out⟩
                case measure => simp [intOf]; omega
          · rw [hin] at hlk
            have HIN := Lib.hid hin
            clear hin
            cases hlong : d.any longB
            all_goals
              have HLO := Lib.hid hlong
              clear hlong
              by_cases h8 : 8 < y.size
              all_goals
                go_wp2_with fail
                go_roundw
                case rel => exact ⟨k + 1, d ++ [c], [], by go_num, rfl, seam_long HLO.out (by first | rfl | (simp; omega)), H.out.seamOld hc HX.out HIN.out⟩
                case measure => simp [intOf]; omega
      · have hd := H.out.done (by rw [size_data]; omega)
        have hp := hd.1
        have hfs := firsts_spec _ d rfl
        have hne : firsts d ≠ [] := by
          intro e
          have : parts 43 s.data.toList = [] := by
            rw [hp]
            rcases d with _ | ⟨x, r⟩
            · rfl
            · have := (hfs.2.1 x).2 (by simp)
              rw [e] at this; simp at this
          exact parts_ne 43 _ this
        have hrow := row_of_owns H.out.row hne
        have hlen := len_uniq hfs.1 hfs.2.1
        have hany : (uniq d).any longB = d.any longB := by
          rw [Bool.eq_iff_iff, List.any_eq_true, List.any_eq_true]
          exact ⟨fun ⟨x, a, b⟩ => ⟨x, mem_uniq.1 a, b⟩, fun ⟨x, a, b⟩ => ⟨x, mem_uniq.2 a, b⟩⟩
        have hsz := hfs.2.2
        have HS := Lib.hid (strings_row hrow H.out.below H.out.below.size (by omega))
        have HB := Lib.hid H.out.below
        obtain ⟨g, cap, ev, _⟩ := hrow
        have HALL := Lib.hid hd.2
        have HP := Lib.hid hp
        have HLEN := Lib.hid hlen
        have HANY := Lib.hid hany
        have HSU := Lib.hid (sort_uniq hfs.1 hfs.2.1)
        clear hd hp hfs hlen hany hne hsz
        subst ev
        cases hlong : d.any longB
        · by_cases h5 : 5 < (firsts d).length
          · have h4 := Lib.hid (scopeN_limit H0.out HALL.out (.inl (by rw [HP.out, ← HLEN.out]; exact h5)))
            go_wp2_with fail
            go_ret2
            exact ⟨_, by rw [h4.out]; rfl, .inl ⟨rfl, scopeL_bad (by rw [h4.out]; decide)⟩, HB.out⟩
          · have hf := Lib.hid (scopeN_fine H0.out HALL.out (by rw [HP.out, ← HLEN.out]; exact h5) (by rw [HP.out, HANY.out]; exact hlong))
            go_wp2_with
              (go_at_call 147; refine HS.out.mono ?_; rintro e w2 ⟨rfl, hr, hb⟩
               have HR := Lib.hid hr
               have HB2 := Lib.hid hb
               clear hr hb)
            go_ret2
            exact ⟨_, by rw [hf.out.1]; rfl, .inr (by rw [hf.out.2, HP.out, ← HSU.out]; exact HR.out), HB2.out⟩
        · have h4 := Lib.hid (scopeN_limit H0.out HALL.out (.inr (by rw [HP.out, HANY.out]; exact hlong)))
          go_wp2_with fail
          go_ret2
          exact ⟨_, by rw [h4.out]; rfl, .inl ⟨rfl, scopeL_bad (by rw [h4.out]; decide)⟩, HB.out⟩

theorem ref_scope (s : ByteArray) (W : World) (hs : s.size ≤ 1000) : Calls Tryz.prog 107 #[.string s] W (RefGot s W) := by
  by_cases h0 : s.data.toList = []
  · obtain rfl : s = ⟨#[]⟩ := by rw [← txt_data s, h0]; rfl
    exact ref_scope_nil W
  · exact ref_scope_some s W hs h0
end Go.Proofs.YtckohmhhcknmaaaGreatDoor

/-
  The reference's Least.
-/
namespace Go.Proofs.YtckohmhhcknmaaaGreatDoor
open Go.RowKit Go.Sort

theorem ref_least (s : ByteArray) (W : World) (hs : s.size ≤ 1000) :
    Calls Tryz.prog 58 #[.string s] W fun e w' => e = .returned (.tuple #[.string (txt (leastL s.data.toList)), .int .i64 (scopeN s.data.toList)]) ∧ Below W.heap.size W w' := by
  have H := Lib.hid (ref_scope s W hs)
  go_enter Tryz.func58, Tryz.ntmps58
  go_wp2_with
    (first
    | (go_at_call 107; refine H.out.mono ?_; rintro e w1 ⟨v, rfl, hr, hb⟩
       have HJ := Lib.hid (join_scope hr)
       have HB := Lib.hid hb
       clear hr hb)
    | (go_at_call 78; refine HJ.out.mono ?_; rintro e w2 ⟨rfl, hb⟩
       have HB2 := Lib.hid (HB.out.trans (hb.mono HB.out.size))
       clear hb))
  go_ret2
  exact ⟨rfl, HB2.out⟩

end Go.Proofs.YtckohmhhcknmaaaGreatDoor

/-
  The reference's Name.
-/
namespace Go.Proofs.YtckohmhhcknmaaaGreatDoor
open Go.RowKit Go.Sort

theorem ref_in3 (x lo hi : Int) (w : World) : Calls Tryz.prog 56 #[.int .i64 x, .int .i64 lo, .int .i64 hi] w fun e w' => e = .returned (.bool (decide (lo ≤ x) && decide (x ≤ hi))) ∧ w = w' := by
  by_cases h0 : lo ≤ x
  · go_enter Tryz.func56, Tryz.ntmps56
    go_wp2_with fail
    go_ret
    refine ⟨?_, rfl⟩
    show Ending.returned _ = _
    simp [h0]
  · have h1 : x < lo := by omega
    go_enter Tryz.func56, Tryz.ntmps56
    go_wp2_with fail
    go_ret
    refine ⟨?_, rfl⟩
    show Ending.returned _ = _
    simp
    omega
theorem nameB_size (s : ByteArray) : nameB s.data.toList = (decide (1 ≤ (s.size : Int)) && decide ((s.size : Int) ≤ 20) && s.data.toList.all nameC) := by
  unfold nameB
  rw [size_data]
  congr 2 <;> simp <;> omega

def NameRel (s : ByteArray) (w : World) (i : Value) (wr : World) : Prop := ∃ k : Nat, k ≤ s.size ∧ i = .int .i64 k ∧ w = wr ∧ ∀ j, j < k → ∀ c, s.data.toList[j]? = some c → nameC c = true
theorem all_name {s : ByteArray} (h : ∀ j, j < s.size → ∀ c, s.data.toList[j]? = some c → nameC c = true) : s.data.toList.all nameC = true := by
  rw [List.all_eq_true]
  intro c hc
  obtain ⟨j, e⟩ := List.mem_iff_getElem?.1 hc
  have hj := (List.getElem?_eq_some_iff.1 e).1
  exact h j (by rw [size_data] at hj; exact hj) c e
theorem not_name {s : ByteArray} {k : Nat} {c : UInt8} (h : s.data.toList[k]? = some c) (hc : nameC c = false) : s.data.toList.all nameC = false := by
  rw [List.all_eq_false]
  exact ⟨c, List.mem_of_getElem? h, by rw [hc]; decide⟩
theorem name_class (n : Nat) : (n < 45 ∨ (45 < n ∧ n < 48) ∨ (48 ≤ n ∧ 57 < n ∧ n < 97) ∨ (97 ≤ n ∧ 122 < n)) ∨ n = 45 ∨ (48 ≤ n ∧ n ≤ 57) ∨ (97 ≤ n ∧ n ≤ 122) := by omega

set_option maxHeartbeats 4000000 in
theorem ref_name (s : ByteArray) (W : World) (hs : s.size ≤ 1000) : Calls Tryz.prog 57 #[.string s] W fun e w' => e = .returned (.bool (nameB s.data.toList)) ∧ W = w' := by
  have HN := Lib.hid (nameB_size s)
  go_enter Tryz.func57, Tryz.ntmps57
  go_wp2
  go_loopw [7] (fun i wr => NameRel s W i wr) (fun i _ => s.size - (intOf i).toNat)
  case atStart => exact ⟨0, Nat.zero_le _, rfl, rfl, fun j hj => absurd hj (Nat.not_lt_zero _)⟩
  case round =>
    obtain ⟨k, hk, rfl, rfl, hyes⟩ := hrel
    have HY := Lib.hid hyes
    clear hyes
    by_cases hlt : k < s.size
    · have hbyte := byte_at s k hlt
      have HC := Lib.hid (nameC_iff s[k])
      have HBY := Lib.hid hbyte
      clear hbyte
      have hcl := name_class s[k].toNat
      rcases hcl with (h | ⟨h, h'⟩ | ⟨h, h', h''⟩ | ⟨h, h'⟩) | h | ⟨h, h'⟩ | ⟨h, h'⟩
      all_goals
        have e45 : ((s[k].toNat : Int) == 45) = decide (s[k].toNat = 45) := by
          rw [Bool.eq_iff_iff]; simp; omega
        first
          | (have e45' : decide (s[k].toNat = 45) = true := by simp; omega
             rw [e45'] at e45; clear e45')
          | (have e45' : decide (s[k].toNat = 45) = false := by simp; omega
             rw [e45'] at e45; clear e45')
        go_wp2_with fail
      all_goals first
        | (have hc : nameC s[k] = true := by
             rw [HC.out]; simp; omega
           go_roundw
           case rel =>
             refine ⟨k + 1, by omega, by go_num, rfl, fun j hj c hjc => ?_⟩
             by_cases e : j = k
             · subst e
               rw [HBY.out] at hjc
               cases hjc
               exact hc
             · exact HY.out j (by omega) c hjc
           case measure => simp [intOf]; omega)
        | (have hc : nameC s[k] = false := by
             rw [HC.out]; simp; omega
           go_ret
           refine ⟨?_, rfl⟩
           rw [HN.out, not_name HBY.out hc, Bool.and_false]
           rfl)
        | (exfalso
           simp only [Bool.not_eq_eq_eq_not, Bool.not_false, decide_eq_true_eq] at *
           omega)
    · go_wp2_with (go_at_call 56; refine (ref_in3 _ _ _ _).mono ?_; rintro e w2 ⟨rfl, rfl⟩)
      go_ret
      refine ⟨?_, rfl⟩
      rw [HN.out, all_name fun j hj => HY.out j (by omega), Bool.and_true]
      rfl
end Go.Proofs.YtckohmhhcknmaaaGreatDoor

/-
  The reference's May: may an event be?
-/
namespace Go.Proofs.YtckohmhhcknmaaaGreatDoor
open Go.RowKit Go.Sort

def MayRel (L : List Int) (w : World) (i : Value) (wr : World) : Prop := ∃ k : Nat, k ≤ 4 ∧ i = .int .i64 k ∧ w = wr ∧ ∀ j, j < k → okN (L.getD j 0) = true
theorem ints_4 (w : World) (T : TypeId) (a b c d : Int) : IntsAt (w.alloc (.cells #[.int .i64 a, .int .i64 b, .int .i64 c, .int .i64 d] T)) w.heap.size [a, b, c, d] := ints_new w T [a, b, c, d]

set_option maxHeartbeats 16000000 in
set_option maxRecDepth 100000 in
theorem may_put (e : Ev) (W : World) (hk : e.kind = 1) (hs : e.fam.short 1000) :
    Calls Tryz.prog 114 #[evVal e] W fun x w' => x = .returned (.bool (evB e)) ∧ Below W.heap.size W w' := by
  have hr : evB e = (decide (e.id = 0) && decide (e.time = 0) && famB e.fam) := by unfold evB; rw [if_pos hk]
  have HS := Lib.hid (MR.start (T := 137) (W := W) e)
  obtain ⟨k, ⟨i, cl, su, sc, ge, ma, us, re, de⟩, id, ti⟩ := e
  dsimp only at hk
  subst hk
  obtain ⟨s1, s2, s3, s4⟩ := hs
  dsimp only at s1 s2 s3 s4 hr
  unfold famB at hr
  dsimp only at hr
  have h1 : (id == 0) = decide (id = 0) := by rw [Bool.eq_iff_iff]; simp
  have h2 : (ti == 0) = decide (ti = 0) := by rw [Bool.eq_iff_iff]; simp
  have HN1 := Lib.hid (fun w => ref_name cl w s1)
  have HN2 := Lib.hid (fun w => ref_name su w s2)
  have HN3 := Lib.hid (fun w => ref_name re w s4)
  have HL := Lib.hid (fun w => ref_least sc w s3)
  have h6 := empty_list (s := re)
  have h8 := scope_eq (txt (leastL sc.data.toList)) sc _ rfl
  have h7 : (scopeN sc.data.toList == 0) = decide (scopeN sc.data.toList = 0) := by rw [Bool.eq_iff_iff]; simp
  have h9 : scopeB sc.data.toList = (decide (scopeN sc.data.toList = 0) && decide (leastL sc.data.toList = sc.data.toList)) := rfl
  have h10 : reqB re.data.toList = (decide (re.data.toList = []) || nameB re.data.toList) := rfl
  have h11 : [i, ge, ma, us].all okN = (okN i && okN ge && okN ma && okN us) := four_ok i ge ma us
  rw [h9, h10] at hr
  clear h9 h10
  generalize txt (leastL sc.data.toList) = y at *
  have hb : (okN i && okN ge && okN ma && okN us && nameB cl.data.toList && nameB su.data.toList && (decide (re.data.toList = []) || nameB re.data.toList) && (decide (scopeN sc.data.toList = 0) && decide (leastL sc.data.toList = sc.data.toList))) = ((okN i && okN ge && okN ma && okN us) && nameB cl.data.toList && nameB su.data.toList && (decide (re.data.toList = []) || nameB re.data.toList) && (decide (scopeN sc.data.toList = 0) && decide (leastL sc.data.toList = sc.data.toList))) := rfl
  rw [hb, ← h11] at hr
  clear hb h11
  generalize decide (scopeN sc.data.toList = 0) = b8 at *
  generalize scopeN sc.data.toList = n at *
  generalize decide (leastL sc.data.toList = sc.data.toList) = b9 at *
  generalize nameB cl.data.toList = b4 at *
  generalize nameB su.data.toList = b5 at *
  generalize nameB re.data.toList = b7 at *
  generalize decide (re.data.toList = []) = b6 at *
  generalize decide (id = 0) = b1 at *
  generalize decide (ti = 0) = b2 at *
  have HR := Lib.hid hr
  have H1 := Lib.hid h1
  have H2 := Lib.hid h2
  have H6 := Lib.hid h6
  have H7 := Lib.hid h7
  have H8 := Lib.hid h8
  clear hr h1 h2 h6 h7 h8
  unfold evVal evCs
  dsimp only
  go_enter Tryz.func114, Tryz.ntmps114
  go_wp2_with fail
  have HC := Lib.hid (HS.out.keep ((Below.refl _ _).alloc (Nat.le_refl _) (.cells #[.int .i64 i, .int .i64 ge, .int .i64 ma, .int .i64 us] 3)))
  unfold evCs famCs at HC
  dsimp only at HC
  have HI := Lib.hid (ints_4 ((W.alloc (.cells #[.int .i64 1, .int .i64 i, .string cl, .string su, .string sc, .int .i64 ge, .int .i64 ma, .int .i64 us, .string re, .bool de, .int .i64 id, .int .i64 ti] 137)).alloc (.cells #[.int .i64 i, .string cl, .string su, .string sc, .int .i64 ge, .int .i64 ma, .int .i64 us, .string re, .bool de] 79)) 3 i ge ma us)
  have hsz : ((W.alloc (.cells #[.int .i64 1, .int .i64 i, .string cl, .string su, .string sc, .int .i64 ge, .int .i64 ma, .int .i64 us, .string re, .bool de, .int .i64 id, .int .i64 ti] 137)).alloc (.cells #[.int .i64 i, .string cl, .string su, .string sc, .int .i64 ge, .int .i64 ma, .int .i64 us, .string re, .bool de] 79)).heap.size = W.heap.size + 1 + 1 := by simp
  rw [hsz] at HI
  clear hsz HS
  generalize (((W.alloc (.cells #[.int .i64 1, .int .i64 i, .string cl, .string su, .string sc, .int .i64 ge, .int .i64 ma, .int .i64 us, .string re, .bool de, .int .i64 id, .int .i64 ti] 137)).alloc (.cells #[.int .i64 i, .string cl, .string su, .string sc, .int .i64 ge, .int .i64 ma, .int .i64 us, .string re, .bool de] 79)).alloc (.cells #[.int .i64 i, .int .i64 ge, .int .i64 ma, .int .i64 us] 3)) = w0 at *
  obtain ⟨c0, c1, c2, d0, d1, d2, d3, d4, d5, d6, d7, d8⟩ := HC.out.cells
  go_loopw [24] (fun i' wr => MayRel [i, ge, ma, us] w0 i' wr) (fun i' _ => 4 - (intOf i').toNat)
  case atStart => exact ⟨0, by omega, rfl, rfl, fun j hj => absurd hj (Nat.not_lt_zero _)⟩
  case round =>
    obtain ⟨k, hk, rfl, rfl, hyes⟩ := hrel
    have HY := Lib.hid hyes
    clear hyes
    by_cases hlt : k < 4
    · have hc := HI.out k hlt
      clear c0 c1 c2 d0 d1 d2 d3 d4 d5 d6 d7 d8
      have HLT := Lib.hid (show k < [i, ge, ma, us].length from hlt)
      generalize hx : [i, ge, ma, us].getD k 0 = z at *
      have HX := Lib.hid hx
      clear hx
      have HIN := Lib.hid (fun w => ref_in3 z 0 1099511627776 w)
      have hok : (decide ((0 : Int) ≤ z) && decide (z ≤ 1099511627776)) = okN z := rfl
      rw [hok] at HIN
      clear hok
      cases hz : okN z
      all_goals
        have HZ := Lib.hid hz
        rw [hz] at HIN
        clear hz
        go_wp2_with fail
        go_at_call 56
        refine (HIN.out _).mono ?_
        rintro x w' ⟨rfl, rfl⟩
        go_wp2_with fail
      · go_ret
        refine ⟨?_, HC.out.below⟩
        rw [HR.out, ints_at HLT.out (by rw [HX.out]; exact HZ.out)]
        simp
      · go_roundw
        case rel =>
          refine ⟨k + 1, by omega, by go_num, rfl, fun j hj => ?_⟩
          by_cases e : j = k
          · subst e
            rw [HX.out]
            exact HZ.out
          · exact HY.out j (by omega)
        case measure => simp [intOf]; omega
    · have hk4 : k = 4 := by omega
      subst hk4
      have hall := ints_all (L := [i, ge, ma, us]) fun j hj => HY.out j hj
      have hr2 := HR.out
      rw [hall] at hr2
      have HR := Lib.hid hr2
      clear hall HI HY hr2
      go_wp2_with fail
      go_at_call 58
      refine (HL.out _).mono ?_
      rintro x w' ⟨rfl, hb⟩
      have HC := Lib.hid (HC.out.keep hb)
      clear hb c0 c1 c2 d0 d1 d2 d3 d4 d5 d6 d7 d8
      obtain ⟨c0, c1, c2, d0, d1, d2, d3, d4, d5, d6, d7, d8⟩ := HC.out.cells
      have h1 := H1.out
      clear H1
      cases b1
      · go_wp2_with fail
        go_ret
        exact ⟨by rw [HR.out]; first | rfl | simp, HC.out.below⟩
      have h2 := H2.out
      clear H2
      cases b2
      · go_wp2_with fail
        go_ret
        exact ⟨by rw [HR.out]; first | rfl | simp, HC.out.below⟩
      go_wp2_with fail
      go_at_call 57
      refine (HN1.out _).mono ?_
      rintro x w' ⟨rfl, rfl⟩
      cases b4
      · go_wp2_with fail
        go_ret
        exact ⟨by rw [HR.out]; first | rfl | simp, HC.out.below⟩
      go_wp2_with fail
      go_at_call 57
      refine (HN2.out _).mono ?_
      rintro x w' ⟨rfl, rfl⟩
      cases b5
      · go_wp2_with fail
        go_ret
        exact ⟨by rw [HR.out]; first | rfl | simp, HC.out.below⟩
      have h6 := H6.out
      clear H6
      cases b6
      · go_wp2_with fail
        go_at_call 57
        refine (HN3.out _).mono ?_
        rintro x w' ⟨rfl, rfl⟩
        cases b7
        · go_wp2_with fail
          go_ret
          exact ⟨by rw [HR.out]; first | rfl | simp, HC.out.below⟩
        have h7 := H7.out
        have h8 := H8.out
        clear H7 H8
        cases b8
        all_goals
          go_wp2_with fail
          go_ret
          exact ⟨by rw [HR.out]; first | rfl | simp, HC.out.below⟩
      · have h7 := H7.out
        have h8 := H8.out
        clear H7 H8
        cases b8
        all_goals
          go_wp2_with fail
          go_ret
          exact ⟨by rw [HR.out]; first | rfl | simp, HC.out.below⟩
end Go.Proofs.YtckohmhhcknmaaaGreatDoor

/-
  The reference's May at the other kinds, and at all.
-/
namespace Go.Proofs.YtckohmhhcknmaaaGreatDoor
open Go.RowKit Go.Sort

set_option maxHeartbeats 16000000 in
set_option maxRecDepth 100000 in
theorem may_drop (e : Ev) (W : World) (hk : e.kind = 2 ∨ e.kind = 3) :
    Calls Tryz.prog 114 #[evVal e] W fun x w' => x = .returned (.bool (evB e)) ∧ Below W.heap.size W w' := by
  obtain ⟨a, b, hab⟩ : ∃ a b, ((e.kind = 2 ∧ a = e.time ∧ b = e.id) ∨ (e.kind = 3 ∧ a = e.id ∧ b = e.time)) := by
    rcases hk with h | h
    · exact ⟨_, _, .inl ⟨h, rfl, rfl⟩⟩
    · exact ⟨_, _, .inr ⟨h, rfl, rfl⟩⟩
  have HR := Lib.hid (right_num e.kind a b e rfl hab)
  have HIN := Lib.hid (fun w => ref_in3 b 0 1099511627776 w)
  rw [show (decide ((0 : Int) ≤ b) && decide (b ≤ 1099511627776)) = okN b from rfl] at HIN
  clear hk
  obtain ⟨k, f, id, ti⟩ := e
  dsimp only at hab HR
  have hb : b = id ∨ b = ti := by rcases hab with ⟨-, -, h⟩ | ⟨-, -, h⟩ <;> simp [h]
  cases hz : f.isZero
  · have HX := Lib.hid hz
    have hev : Hid (evB ⟨k, f, id, ti⟩ = false) := Lib.hid (by rw [HR.out, hz]; rfl)
    clear HR hz
    generalize hX : evB ⟨k, f, id, ti⟩ = X at *
    clear hX
    obtain ⟨i, cl, su, sc, ge, ma, us, re, de⟩ := f
    unfold evVal evCs
    dsimp only
    rcases hab with ⟨rfl, rfl, rfl⟩ | ⟨rfl, rfl, rfl⟩
    all_goals
      go_enter Tryz.func114, Tryz.ntmps114
      go_wp2_with fail
      all_goals first
        | (go_ret
           exact ⟨by rw [hev.out]; rfl, alloc2 _ _ _⟩)
        | exact (zero_of (by assumption) (by assumption) (by assumption) (by assumption) (by assumption) (by assumption) (by assumption) (by assumption) (by assumption) HX.out).elim
  · obtain rfl := Fam.isZero_iff.1 hz
    clear hz
    have hz2 : Fam.zero.isZero = true := Fam.isZero_iff.2 rfl
    rw [hz2] at HR
    clear hz2
    generalize hX : evB ⟨k, Fam.zero, id, ti⟩ = X at *
    clear hX
    unfold evVal evCs Fam.zero
    dsimp only
    by_cases h0 : a = 0
    · have h0' : decide (a = 0) = true := by simpa using h0
      rw [h0'] at HR
      rcases hab with ⟨rfl, h1, rfl⟩ | ⟨rfl, h1, rfl⟩
      all_goals
        subst h1
        subst h0
        go_enter Tryz.func114, Tryz.ntmps114
        go_wp2_with (go_at_call 56; refine (HIN.out _).mono ?_; rintro x w' ⟨rfl, rfl⟩)
        go_ret
        exact ⟨by rw [HR.out]; rfl, alloc2 _ _ _⟩
    · have h0' : decide (a = 0) = false := by simpa using h0
      rw [h0'] at HR
      have h0b : (a == 0) = false := by simpa using h0
      rcases hab with ⟨rfl, rfl, rfl⟩ | ⟨rfl, rfl, rfl⟩
      all_goals
        go_enter Tryz.func114, Tryz.ntmps114
        go_wp2_with fail
        go_ret
        exact ⟨by rw [HR.out]; rfl, alloc2 _ _ _⟩

set_option maxHeartbeats 4000000 in
set_option maxRecDepth 100000 in
theorem may_odd (e : Ev) (W : World) (h1 : e.kind ≠ 1) (h2 : e.kind ≠ 2) (h3 : e.kind ≠ 3) :
    Calls Tryz.prog 114 #[evVal e] W fun x w' => x = .returned (.bool (evB e)) ∧ Below W.heap.size W w' := by
  have HR : Hid (evB e = false) := Lib.hid (by unfold evB; rw [if_neg h1, if_neg h2, if_neg h3])
  obtain ⟨k, ⟨i, cl, su, sc, ge, ma, us, re, de⟩, id, ti⟩ := e
  dsimp only at h1 h2 h3
  have e1 : (k == 1) = false := by simpa using h1
  have e2 : (k == 2) = false := by simpa using h2
  have e3 : (k == 3) = false := by simpa using h3
  clear h1 h2 h3
  unfold evVal evCs
  dsimp only
  go_enter Tryz.func114, Tryz.ntmps114
  go_wp2_with fail
  go_ret
  exact ⟨by rw [HR.out]; rfl, alloc2 _ _ _⟩
theorem ref_may (e : Ev) (W : World) (hs : e.fam.short 1000) :
    Calls Tryz.prog 114 #[evVal e] W fun x w' => x = .returned (.bool (evB e)) ∧ Below W.heap.size W w' := by
  by_cases h1 : e.kind = 1
  · exact may_put e W h1 hs
  · by_cases h2 : e.kind = 2
    · exact may_drop e W (.inl h2)
    · by_cases h3 : e.kind = 3
      · exact may_drop e W (.inr h3)
      · exact may_odd e W h1 h2 h3
end Go.Proofs.YtckohmhhcknmaaaGreatDoor

/-
  A region that draws its order and ends in operations that wait for all others (stores): a condition on the world that holds up to them lets the loads be taken first.
-/
namespace Go.Proofs.YtckohmhhcknmaaaGreatDoor
open Go

/-- j waits for i, directly or through others -/
def waitsOn (md : Region.Mode) (ops : Array Oper) (i : Nat) : Nat → Nat → Bool
  | 0, _ => false
  | n + 1, j => match ops[j]? with
    | some o => o.after.any fun e => Region.binds md e && (e.on == i || waitsOn md ops i n e.on)
    | none => false
/-- what is listed waits for nothing that is not -/
def Downed (md : Region.Mode) (ops : Array Oper) (listed : Array Bool) : Prop := ∀ (j : Nat) (o : Oper), ops[j]? = some o → listed.getD j false = true → ∀ e ∈ o.after, Region.binds md e = true → listed.getD e.on false = true
def downB (md : Region.Mode) (ops : Array Oper) (listed : Array Bool) : Bool := (List.range ops.size).all fun j => !listed.getD j false || match ops[j]? with
  | some o => o.after.all fun e => !Region.binds md e || listed.getD e.on false
  | none => true
theorem downB_spec {md : Region.Mode} {ops : Array Oper} {listed : Array Bool} (h : downB md ops listed = true) : Downed md ops listed := by
  intro j o ho hj e he hb
  have hlt : j < ops.size := (Array.getElem?_eq_some_iff.1 ho).1
  have h1 := List.all_eq_true.1 h j (List.mem_range.2 hlt)
  simp only [hj, ho, Bool.not_true, Bool.false_or] at h1
  have h2 := Array.all_eq_true_iff_forall_mem.1 h1 e he
  simpa [hb] using h2
theorem Downed.set {md : Region.Mode} {ops : Array Oper} {listed : Array Bool} (h : Downed md ops listed) {j : Nat} (hj : j ∈ Region.ready md ops listed) : Downed md ops (listed.setIfInBounds j true) := by
  intro k o ho hk e he hb
  obtain ⟨_, oj, hoj, hall⟩ := mem_ready.1 hj
  by_cases hkj : j = k
  · subst hkj
    rw [hoj] at ho
    obtain rfl := Option.some.inj ho
    exact getD_set_true (hall e he hb)
  · rw [getD_set_ne false hkj] at hk
    exact getD_set_true (h k o ho hk e he hb)
theorem waits_listed {md : Region.Mode} {ops : Array Oper} {listed : Array Bool} (h : Downed md ops listed) {i : Nat} : ∀ (n j : Nat), waitsOn md ops i n j = true → listed.getD j false = true → listed.getD i false = true
  | 0, _, hw, _ => by cases hw
  | n + 1, j, hw, hj => by
    unfold waitsOn at hw
    split at hw
    · rename_i o ho
      obtain ⟨e, he, hb⟩ := Array.any_eq_true'.1 hw
      simp only [Bool.and_eq_true, Bool.or_eq_true, beq_iff_eq] at hb
      have h1 := h j o ho hj e he hb.1
      rcases hb.2 with rfl | h2
      · exact h1
      · exact waits_listed h n e.on h2 h1
    · cases hw

section
variable {P : Program} {ops : Array Oper} {Q : Exit → Act → World → Prop} {md : Region.Mode} {S : World → Prop} {T : List Nat}
/-- whatever order is picked; S holds behind every operation that is not of the tail T -/
def wpAnyT (P : Program) (md : Region.Mode) (ops : Array Oper) (Q : Exit → Act → World → Prop) (S : World → Prop) (T : List Nat) : Nat → Array Bool → Act → World → Prop
  | 0, listed, a, w => Region.ready md ops listed = [] ∧ Q .normal a w
  | fuel + 1, listed, a, w =>
    (Region.ready md ops listed = [] → Q .normal a w) ∧
    ∀ i ∈ Region.ready md ops listed, wpOp P ops Q i (fun a' w' => (T.contains i = false → S w') ∧ wpAnyT P md ops Q S T fuel (listed.setIfInBounds i true) a' w') a w
theorem wpAny_of_tail : ∀ (fuel : Nat) (listed : Array Bool) (a : Act) (w : World), wpAnyT P md ops Q S T fuel listed a w → wpAny P md ops Q fuel listed a w
  | 0, _, _, _, h => h
  | fuel + 1, _, _, _, h => ⟨h.1, fun i hi => wpOp_mono (fun a' w' h' => wpAny_of_tail fuel _ a' w' h'.2) (h.2 i hi)⟩
theorem not_listed {i : Nat} {listed : Array Bool} (h : listed.getD i true = false) : listed.getD i false = false := by
  rcases Nat.lt_or_ge i listed.size with h' | h'
  · simp [h'] at h ⊢; exact h
  · simp [Array.getElem?_eq_none h']
theorem wpAnyT_first {i : Nat} {oi : Oper} {v : Value} (hi : ops[i]? = some oi) (hsel : ∀ (j : Nat) (o : Oper) cs b, ops[j]? = some o → o.op ≠ .select cs b)
    (hQ : ∀ c a w, Q (.panic c) (a.put oi.dst v) w → Q (.panic c) a w) (n : Nat) (hT : ∀ j, T.contains j = true → waitsOn md ops i n j = true) :
    ∀ (fuel : Nat) (listed : Array Bool) (a : Act) (w : World), Downed md ops listed →
      (∀ j oj, ops[j]? = some oj → j ≠ i → listed.getD j true = false → (∀ e ∈ oj.after, Region.binds md e = true → e.on ≠ i) → oi.apart ops oj = true) →
      i ∈ Region.ready md ops listed → YieldsIf P ops S oi v a → S w →
      wpAnyT P md ops Q S T fuel (listed.setIfInBounds i true) (a.put oi.dst v) w → wpAnyT P md ops Q S T (fuel + 1) listed a w := by
  intro fuel
  induction fuel with
  | zero =>
    intro listed a w _ _ hr hy hS H
    refine ⟨fun h => (by rw [h] at hr; cases hr), fun j hj => ?_⟩
    by_cases hji : j = i
    · subst hji; exact hy.wpOp hi hS ⟨fun _ => hS, H⟩
    · have := ready_mono hj hji
      rw [H.1] at this
      cases this
  | succ fuel ih =>
    intro listed a w hdown hfree hr hy hS H
    refine ⟨fun h => (by rw [h] at hr; cases hr), fun j hj => ?_⟩
    by_cases hji : j = i
    · subst hji; exact hy.wpOp hi hS ⟨fun _ => hS, H⟩
    · have h1 := H.2 j (ready_mono hj hji)
      have hdown' := hdown.set hj
      have hun := (mem_ready.1 hr).1
      have hnoT : T.contains j = false := by
        rcases hc : T.contains j with _ | _
        · rfl
        · have hw := hT j hc
          have hlj : (listed.setIfInBounds j true).getD j false = true := by
            have hlt : j < listed.size := by
              rcases Nat.lt_or_ge j listed.size with h' | h'
              · exact h'
              · have := (mem_ready.1 hj).1
                simp [Array.getElem?_eq_none h'] at this
            simp [hlt]
          have h2 := waits_listed hdown' n j hw hlj
          rw [getD_set_ne false hji, not_listed hun] at h2
          cases h2
      obtain ⟨hjun, oj, hoj, hall⟩ := mem_ready.1 hj
      have hnot : ∀ e ∈ oj.after, Region.binds md e = true → e.on ≠ i := fun e he hb heq => by
        have h1 := hall e he hb
        rw [heq, not_listed hun] at h1
        cases h1
      have h2 := wpOp_putIf hoj (hfree j oj hoj hji hjun hnot) (fun cs b => hsel i oi cs b hi) (fun cs b => hsel j oj cs b hoj) hQ hy h1
      have hfree' : ∀ k ok, ops[k]? = some ok → k ≠ i → (listed.setIfInBounds j true).getD k true = false →
          (∀ e ∈ ok.after, Region.binds md e = true → e.on ≠ i) → oi.apart ops ok = true := fun k ok hk hki hun hno => by
        refine hfree k ok hk hki ?_ hno
        by_cases hjk : j = k
        · subst hjk; exact hjun
        · rw [getD_set_ne true hjk] at hun; exact hun
      refine wpOp_mono (fun a' w' h3 => ⟨h3.2.1, ih (listed.setIfInBounds j true) a' w' hdown' hfree' (ready_mono hr (Ne.symm hji)) h3.1 (h3.2.1 hnoT) ?_⟩) h2
      rw [Array.setIfInBounds_comm _ _ hji]
      exact h3.2.2
/-- take number i first -/
theorem wpAnyT_take (n : Nat) {i : Nat} {oi : Oper} {v : Value} {fuel : Nat} {listed : Array Bool} {a : Act} {w : World} (hi : ops[i]? = some oi)
    (hs : Region.noSelect ops = true) (hf : Region.free md ops listed i = true) (hr : (Region.ready md ops listed).contains i = true) (hd : downB md ops listed = true) (hT : (T.all fun j => waitsOn md ops i n j) = true)
    (hQ : ∀ c a w, Q (.panic c) (a.put oi.dst v) w → Q (.panic c) a w) (hw : Region.wanted oi (yielded ops a.tmps) = true) (hy : ∀ w, S w → (execOp a.eval oi).run P w = .ok (.value v) w) (hS : S w)
    (h : wpAnyT P md ops Q S T fuel (listed.setIfInBounds i true) (a.put oi.dst v) w) : wpAnyT P md ops Q S T (fuel + 1) listed a w :=
  wpAnyT_first hi (Region.noSelect_spec hs) hQ n (fun j hj => List.all_eq_true.1 hT j (by simpa using hj)) fuel listed a w (downB_spec hd) (Region.free_spec hi hf) (by simpa using hr) (.inl ⟨hw, hy⟩) hS h
/-- take number i first, which is not wanted -/
theorem wpAnyT_skip (n : Nat) {i : Nat} {oi : Oper} {fuel : Nat} {listed : Array Bool} {a : Act} {w : World} (hi : ops[i]? = some oi)
    (hs : Region.noSelect ops = true) (hf : Region.free md ops listed i = true) (hr : (Region.ready md ops listed).contains i = true) (hd : downB md ops listed = true) (hT : (T.all fun j => waitsOn md ops i n j) = true)
    (hQ : ∀ c a w, Q (.panic c) (a.put oi.dst undef) w → Q (.panic c) a w) (hw : Region.wanted oi (yielded ops a.tmps) = false) (hS : S w)
    (h : wpAnyT P md ops Q S T fuel (listed.setIfInBounds i true) (a.put oi.dst undef) w) : wpAnyT P md ops Q S T (fuel + 1) listed a w :=
  wpAnyT_first hi (Region.noSelect_spec hs) hQ n (fun j hj => List.all_eq_true.1 hT j (by simpa using hj)) fuel listed a w (downB_spec hd) (Region.free_spec hi hf) (by simpa using hr) (.inr ⟨hw, rfl⟩) hS h
/-- one alone may come up -/
theorem wpAnyT_one {i : Nat} {oi : Oper} {fuel : Nat} {listed : Array Bool} {a : Act} {w : World} (hr : Region.ready md ops listed = [i]) (hi : ops[i]? = some oi)
    (h : ∀ K' : Act → World → Prop, Shut (∀ a w, (T.contains i = false → S w) → wpAnyT P md ops Q S T fuel (listed.setIfInBounds i true) a w → K' a w) → if Region.wanted oi (yielded ops a.tmps) = true then Oper.wp P oi a w K' Q else K' (a.put oi.dst undef) w) :
    wpAnyT P md ops Q S T (fuel + 1) listed a w := by
  refine ⟨fun h0 => (by rw [hr] at h0; cases h0), fun j hj => ?_⟩
  rw [hr, List.mem_singleton] at hj
  subst hj
  exact wpOp_step hi fun K' hK => h K' (fun a w h1 h2 => hK a w ⟨h1, h2⟩)
/-- either of two may come up -/
theorem wpAnyT_two {i j : Nat} {oi oj : Oper} {fuel : Nat} {listed : Array Bool} {a : Act} {w : World} (hr : Region.ready md ops listed = [i, j]) (hi : ops[i]? = some oi) (hj : ops[j]? = some oj)
    (h1 : ∀ K' : Act → World → Prop, Shut (∀ a w, (T.contains i = false → S w) → wpAnyT P md ops Q S T fuel (listed.setIfInBounds i true) a w → K' a w) → if Region.wanted oi (yielded ops a.tmps) = true then Oper.wp P oi a w K' Q else K' (a.put oi.dst undef) w)
    (h2 : ∀ K' : Act → World → Prop, Shut (∀ a w, (T.contains j = false → S w) → wpAnyT P md ops Q S T fuel (listed.setIfInBounds j true) a w → K' a w) → if Region.wanted oj (yielded ops a.tmps) = true then Oper.wp P oj a w K' Q else K' (a.put oj.dst undef) w) :
    wpAnyT P md ops Q S T (fuel + 1) listed a w := by
  refine ⟨fun h0 => (by rw [hr] at h0; cases h0), fun k hk => ?_⟩
  rw [hr, List.mem_cons, List.mem_singleton] at hk
  rcases hk with rfl | rfl
  · exact wpOp_step hi fun K' hK => h1 K' (fun a w h1 h2 => hK a w ⟨h1, h2⟩)
  · exact wpOp_step hj fun K' hK => h2 K' (fun a w h1 h2 => hK a w ⟨h1, h2⟩)
theorem wpAnyT_done {listed : Array Bool} {a : Act} {w : World} (hr : Region.ready md ops listed = []) (h : Q .normal a w) : ∀ fuel, wpAnyT P md ops Q S T fuel listed a w
  | 0 => ⟨hr, h⟩
  | _ + 1 => ⟨fun _ => h, by rw [hr]; simp⟩
theorem wp_region_tail (S : World → Prop) (T : List Nat) {id : Nat} {a : Act} {w : World} (hm : P.follows .mixedOrders = true) (h : wpAnyT P .any ops Q S T ops.size (Array.replicate ops.size false) a w.drew) : (Code.region id ops true).wp P Q a w :=
  wp_region_any hm (wpAny_of_tail _ _ _ _ h)
end
end Go.Proofs.YtckohmhhcknmaaaGreatDoor

/-
  event.Name and the reference's Name.
-/
namespace Go.Proofs.YtckohmhhcknmaaaGreatDoor
open Go.RowKit Go.Sort

theorem name_trim (x : ByteArray) (w : World) (hx : x.size ≤ 1000000) :
    (x.data.toList.all nameC = true → Calls Tryz.prog 46 #[.string x, .string ⟨#[97, 98, 99, 100, 101, 102, 103, 104, 105, 106, 107, 108, 109, 110, 111, 112, 113, 114, 115, 116, 117, 118, 119, 120, 121, 122, 48, 49, 50, 51, 52, 53, 54, 55, 56, 57, 45]⟩] w fun e w' => e = .returned (.string ⟨#[]⟩) ∧ Below w.heap.size w w') ∧
    (x.data.toList.all nameC = false → Calls Tryz.prog 46 #[.string x, .string ⟨#[97, 98, 99, 100, 101, 102, 103, 104, 105, 106, 107, 108, 109, 110, 111, 112, 113, 114, 115, 116, 117, 118, 119, 120, 121, 122, 48, 49, 50, 51, 52, 53, 54, 55, 56, 57, 45]⟩] w fun e w' => NotEmpty e ∧ Below w.heap.size w w') :=
  trim_set nameS x w hx (by decide) (ascii_of_all (by decide))
theorem ev_name (s : ByteArray) (W : World) (hs : s.size ≤ 1000) : Calls Tryz.prog 12 #[.string s] W fun e w' => e = .returned (.bool (nameB s.data.toList)) ∧ Below W.heap.size W w' := by
  have HN := Lib.hid (nameB_size s)
  have hT := name_trim s W (by omega)
  by_cases h0 : s.size < 1
  · clear hT
    go_enter Tryz.func12, Tryz.ntmps12
    go_wp2_with fail
    go_ret
    refine ⟨?_, Below.refl _ _⟩
    rw [HN.out, show decide (1 ≤ (s.size : Int)) = false by simp; omega]
    rfl
  · by_cases h1 : 20 < s.size
    · clear hT
      go_enter Tryz.func12, Tryz.ntmps12
      go_wp2_with fail
      go_ret
      refine ⟨?_, Below.refl _ _⟩
      rw [HN.out, show decide ((s.size : Int) ≤ 20) = false by simp; omega]
      simp
    · have HX := Lib.hid (show (decide (1 ≤ (s.size : Int)) && decide ((s.size : Int) ≤ 20)) = true by simp; omega)
      cases ha : s.data.toList.all nameC
      · have HT := Lib.hid (hT.2 ha)
        have HA := Lib.hid ha
        clear hT ha
        go_enter Tryz.func12, Tryz.ntmps12
        go_wp2_with
          (go_at_call 46; refine HT.out.mono ?_; rintro e w2 ⟨⟨z, rfl, hz⟩, hb2⟩
           have HB := Lib.hid hb2
           clear hb2)
        go_ret
        refine ⟨?_, HB.out⟩
        rw [HN.out, HX.out, HA.out]
        rfl
      · have HT := Lib.hid (hT.1 ha)
        have HA := Lib.hid ha
        clear hT ha
        go_enter Tryz.func12, Tryz.ntmps12
        go_wp2_with
          (go_at_call 46; refine HT.out.mono ?_; rintro e w2 ⟨rfl, hb2⟩
           have HB := Lib.hid hb2
           clear hb2)
        go_ret
        refine ⟨?_, HB.out⟩
        rw [HN.out, HX.out, HA.out]
        rfl
end Go.Proofs.YtckohmhhcknmaaaGreatDoor

/-
  event.within: whether numbers are from 0 to MaxNumber.
-/
namespace Go.Proofs.YtckohmhhcknmaaaGreatDoor
open Go.RowKit Go.Sort

theorem bad_num (x : Int) (w : World) : Calls Tryz.prog 190 #[.int .i64 x] w fun e w' => e = .returned (.bool (!okN x)) ∧ w = w' := by
  by_cases h0 : 0 ≤ x
  · go_enter Tryz.func190, Tryz.ntmps190
    go_wp2_with fail
    go_ret
    refine ⟨?_, rfl⟩
    show Ending.returned _ = _
    have e : (decide (x < 0) || decide (1099511627776 < x)) = !okN x := by
      rw [Bool.eq_iff_iff]
      simp [okN, h0]
      omega
    rw [← e]
    rfl
  · have h1 : x < 0 := by omega
    go_enter Tryz.func190, Tryz.ntmps190
    go_wp2_with fail
    go_ret
    refine ⟨?_, rfl⟩
    show Ending.returned _ = _
    simp [okN]
    try omega

def IntRel (L : List Int) (w : World) (i : Value) (wr : World) : Prop := ∃ k q : Nat, k ≤ L.length ∧ i = .int .i64 k ∧ wr = w.drewN q ∧ ∀ j, j < k → okN (L.getD j 0) = true
def IntGot (L : List Int) (w : World) (e : Ending) (w' : World) : Prop := ∃ (n : Int) (q : Nat), e = .returned (.int .i64 n) ∧ (!decide (0 ≤ n)) = L.all okN ∧ w' = w.drewN q

set_option maxHeartbeats 1000000 in
theorem index_bad (g cap : Nat) (L : List Int) (w : World) (h : IntsAt w g L) (hL : L.length ≤ 1000000) :
    Calls Tryz.prog 238 #[.slice (some ⟨g, 0, none⟩) L.length cap, .func (.func 190) #[] #[]] w (IntGot L w) := by
  have HR := Lib.hid h
  clear h
  go_enter Tryz.func238, Tryz.ntmps238
  go_wp2
  go_loopw [8] (fun i wr => IntRel L w i wr) (fun i _ => L.length - (intOf i).toNat)
  case atStart => exact ⟨0, 0, Nat.zero_le _, rfl, rfl, fun j hj => absurd hj (Nat.not_lt_zero _)⟩
  case round =>
    obtain ⟨k, q, hk, rfl, rfl, hno⟩ := hrel
    have HN := Lib.hid hno
    clear hno
    by_cases hlt : k < L.length
    · have hc := (HR.out.drewN q) k hlt
      generalize hx : L.getD k 0 = x at *
      have HX := Lib.hid hx
      clear hx
      cases hok : okN x
      · have HO := Lib.hid hok
        clear hok
        have HBN := Lib.hid (fun w => (bad_num x w).mono (fun e w' (h : e = .returned (.bool (!okN x)) ∧ w = w') => (show e = .returned (.bool true) ∧ w = w' from ⟨by rw [h.1, HO.out]; rfl, h.2⟩)))
        go_wp2_with (go_at_call 190; refine (HBN.out _).mono ?_; rintro e w1 ⟨rfl, rfl⟩)
        go_ret
        refine ⟨k, q, rfl, ?_, rfl⟩
        rw [ints_at hlt (by rw [HX.out]; exact HO.out)]
        simp
      · have HO := Lib.hid hok
        clear hok
        have HBN := Lib.hid (fun w => (bad_num x w).mono (fun e w' (h : e = .returned (.bool (!okN x)) ∧ w = w') => (show e = .returned (.bool false) ∧ w = w' from ⟨by rw [h.1, HO.out]; rfl, h.2⟩)))
        go_wp2_with (go_at_call 190; refine (HBN.out _).mono ?_; rintro e w1 ⟨rfl, rfl⟩)
        go_roundw
        case rel =>
          refine ⟨k + 1, q, by omega, by go_num, rfl, fun j hj => ?_⟩
          by_cases e : j = k
          · subst e
            rw [HX.out]
            exact HO.out
          · exact HN.out j (by omega)
        case measure => simp [intOf]; omega
    · go_wp2
      go_ret
      refine ⟨-1, q, rfl, ?_, rfl⟩
      rw [ints_all fun j hj => HN.out j (by omega)]
      rfl

set_option maxHeartbeats 1000000 in
theorem contains_bad (g cap : Nat) (L : List Int) (w : World) (h : IntsAt w g L) (hL : L.length ≤ 1000000) :
    Calls Tryz.prog 189 #[.slice (some ⟨g, 0, none⟩) L.length cap, .func (.func 190) #[] #[]] w fun e w' => e = .returned (.bool (!L.all okN)) ∧ ∃ q, w' = w.drewN q := by
  have H := Lib.hid (index_bad g cap L w h hL)
  clear h
  go_enter Tryz.func189, Tryz.ntmps189
  go_wp2_with (go_at_call 238; refine H.out.mono ?_; rintro e w1 ⟨n, q, rfl, hn, rfl⟩; have HN := Lib.hid hn; clear hn)
  go_ret
  exact ⟨by rw [← HN.out, Bool.not_not]; rfl, q, rfl⟩
theorem ev_within (g cap : Nat) (L : List Int) (w : World) (h : IntsAt w g L) (hL : L.length ≤ 1000000) :
    Calls Tryz.prog 156 #[.slice (some ⟨g, 0, none⟩) L.length cap] w fun e w' => e = .returned (.bool (L.all okN)) ∧ Below w.heap.size w w' := by
  have H := Lib.hid (contains_bad g cap L w h hL)
  clear h
  go_enter Tryz.func156, Tryz.ntmps156
  go_wp2_with (go_at_call 189; refine H.out.mono ?_; rintro e w1 ⟨rfl, q, rfl⟩)
  go_ret
  exact ⟨by simp, below_drewN (Below.refl _ _) q⟩
end Go.Proofs.YtckohmhhcknmaaaGreatDoor
