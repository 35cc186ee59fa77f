/-
  slices.Delete of one family.
-/
import Derived.Test.YtdogilbnbbeljaaGreatDoorH13
import Derived.Shelf.Slices.Delete
namespace Go.Proofs.YtdogilbnbbeljaaGreatDoor
open Go.RowKit Go.Sort

/-- cells stored one by one, or as a row: one world -/
theorem setCells_row {w : World} {g o : Nat} {cur : Array Value} {cs : List Value} (hg : Blk w g 40 cur) (hfit : o + cs.length ≤ cur.size) (h1 : ∀ v ∈ cs, v.oneCell' = true) :
    w.setCells g o cs = w.setRow g (cur.toList.take o ++ cs ++ cur.toList.drop (o + cs.length)).toArray := by
  have a := run_storeCells_at Tryz.prog g o _ cs 0 cur w hg (by simpa using hfit) h1
  have b := run_storeCells_cells (P := Tryz.prog) g o cs 0 w (fun j hj => by rw [hg.cell, Array.getElem?_eq_getElem (by omega)]; rfl) (fun j _ => hg.frozen _) h1
  rw [a] at b
  simp only [Result.ok.injEq, Nat.add_zero] at b
  exact b.2.symm
theorem zero_fam (w : World) : (zeroValue 40).run Tryz.prog w = .ok (.agg (famCs Fam.zero)) w := by kernel_rfl
theorem zero_cells : Builtin.zeroCells (Value.agg (famCs Fam.zero)).cells 1 = famCs Fam.zero := by
  apply Array.ext
  · simp [Builtin.zeroCells, Value.cells, famCs]
  · intro i h1 h2
    have h2' : i < 9 := h2
    simp only [Builtin.zeroCells, Value.cells, Array.getElem_map, Array.getElem_range]
    rw [show i % (famCs Fam.zero).size = i from Nat.mod_eq_of_lt h2, getElem!_pos (famCs Fam.zero) i h2]
theorem run_clear_fam (W : World) (ty : TypeId) (g o c : Nat) (cur : Array Value) (hg : Blk W g 40 cur) (hfit : o + 9 ≤ cur.size) :
    (Builtin.clear_ #[34] ty #[.slice (some ⟨g, o, none⟩) 1 c]).run Tryz.prog W = .ok (.tuple #[]) (W.setRow g (cur.toList.take o ++ (famCs Fam.zero).toList ++ cur.toList.drop (o + 9)).toArray) := by
  have hst := run_storeCells_at Tryz.prog g o _ (famCs Fam.zero).toList 0 cur W hg hfit (fun v hv => flat_one (L := [Fam.zero]) (by simpa [flat] using hv))
  have hzc : Builtin.zeroCells (Value.agg (famCs Fam.zero)).cells 1 = famCs Fam.zero := zero_cells
  simp only [Nat.add_zero] at hst
  have hz := zero_fam W
  have hZ : (famCs Fam.zero).size = 9 := rfl
  generalize famCs Fam.zero = Z at hst hzc hz hZ ⊢
  simp [Builtin.clear_, run_underlying Tryz.underlying34, hz, hzc, hst, hZ]
/-- the cells behind a deletion -/
theorem del_cells {L : List Fam} {xs : List Value} {i c : Nat} (hx : xs.length = c * 9) (ht : xs.take (L.length * 9) = flat L) (hi : i < L.length) (hc : L.length ≤ c) :
    let c1 := xs.take (i * 9) ++ flat (L.drop (i + 1)) ++ xs.drop (i * 9 + (flat (L.drop (i + 1))).length)
    let c2 := c1.take ((L.length - 1) * 9) ++ (famCs Fam.zero).toList ++ c1.drop ((L.length - 1) * 9 + 9)
    c1.length = c * 9 ∧ c2.length = c * 9 ∧ c2.take ((L.length - 1) * 9) = flat (L.take i ++ L.drop (i + 1)) := by
  intro c1 c2
  have hd : (flat (L.drop (i + 1))).length = (L.length - (i + 1)) * 9 := by rw [flat_len, List.length_drop]
  have hf : (famCs Fam.zero).toList.length = 9 := rfl
  have htk : xs.take (i * 9) = flat (L.take i) := by rw [flat_take, ← ht, List.take_take]; congr 1; omega
  have hl : (flat (L.take i)).length = i * 9 := by rw [flat_len, List.length_take]; congr 1; omega
  have h1 : c1.length = c * 9 := by
    show (xs.take (i * 9) ++ flat (L.drop (i + 1)) ++ xs.drop (i * 9 + (flat (L.drop (i + 1))).length)).length = _
    simp only [List.length_append, List.length_take, List.length_drop, hd, hx]
    omega
  have ht1 : c1.take ((L.length - 1) * 9) = flat (L.take i ++ L.drop (i + 1)) := by
    show (xs.take (i * 9) ++ flat (L.drop (i + 1)) ++ xs.drop (i * 9 + (flat (L.drop (i + 1))).length)).take ((L.length - 1) * 9) = _
    have hll : (flat (L.take i) ++ flat (L.drop (i + 1))).length = (L.length - 1) * 9 := by rw [List.length_append, hl, hd]; omega
    rw [htk, flat_app, ← hll, List.take_left]
  refine ⟨h1, ?_, ?_⟩
  · show (c1.take ((L.length - 1) * 9) ++ (famCs Fam.zero).toList ++ c1.drop ((L.length - 1) * 9 + 9)).length = _
    simp only [List.length_append, List.length_take, List.length_drop, h1, hf]
    omega
  · show (c1.take ((L.length - 1) * 9) ++ (famCs Fam.zero).toList ++ c1.drop ((L.length - 1) * 9 + 9)).take ((L.length - 1) * 9) = _
    have hll : (c1.take ((L.length - 1) * 9)).length = (L.length - 1) * 9 := by rw [List.length_take, h1]; omega
    rw [List.append_assoc, List.take_append_of_le_length (by omega), List.take_take, Nat.min_self, ht1]

set_option maxHeartbeats 8000000 in
set_option maxRecDepth 100000 in
theorem fam_delete (B i : Nat) (v : Value) (L : List Fam) (w : World) (h : FRow w B v L) (hi : i < L.length) (hL : L.length ≤ 1000000) :
    Calls Tryz.prog 42 #[v, .int .i64 i, .int .i64 ((i : Int) + 1)] w fun e w' => ∃ v', e = .returned v' ∧ FRow w' B v' (L.take i ++ L.drop (i + 1)) ∧ w.grownBy w' v.ownBlock := by
  rcases h.block with ⟨rfl, rfl⟩ | ⟨g, cap, cur, rfl, hBg, hb, hlc, hm, hc, ht⟩
  · simp at hi
  obtain ⟨i0, hi0, hz0, hzs, hzb⟩ := info_parts famInfo
  have hcl : cur.toList.length = cap * 9 := by rw [Array.length_toList]; exact hc
  obtain ⟨k1, k2, k3⟩ := del_cells hcl ht hi hlc
  have hd : (flat (L.drop (i + 1))).length = (L.length - (i + 1)) * 9 := by rw [flat_len, List.length_drop]
  obtain ⟨c1, hc1⟩ : ∃ c1 : Array Value, c1 = (cur.toList.take (i * 9) ++ flat (L.drop (i + 1)) ++ cur.toList.drop (i * 9 + (flat (L.drop (i + 1))).length)).toArray := ⟨_, rfl⟩
  have hc1l : c1.toList = cur.toList.take (i * 9) ++ flat (L.drop (i + 1)) ++ cur.toList.drop (i * 9 + (flat (L.drop (i + 1))).length) := by rw [hc1]
  rw [← hc1l] at k1 k2 k3
  obtain ⟨W1, hW1⟩ : ∃ W1, W1 = w.drew.setCells g (0 + i * 9) (flat (L.drop (i + 1))) := ⟨_, rfl⟩
  have hW1' : W1 = w.drew.setRow g c1 := by
    rw [hW1, hc1, Nat.zero_add]
    exact setCells_row hb.drew (by rw [hd, hc]; omega) (fun u hu => flat_one hu)
  have hb1 : Blk W1 g 40 c1 := by rw [hW1']; exact hb.drew.row
  obtain ⟨c2, hc2⟩ : ∃ c2 : Array Value, c2 = (c1.toList.take ((L.length - 1) * 9) ++ (famCs Fam.zero).toList ++ c1.toList.drop ((L.length - 1) * 9 + 9)).toArray := ⟨_, rfl⟩
  have hc2l : c2.toList = c1.toList.take ((L.length - 1) * 9) ++ (famCs Fam.zero).toList ++ c1.toList.drop ((L.length - 1) * 9 + 9) := by rw [hc2]
  have hcr : ∀ ty c, (Builtin.clear_ #[34] ty #[.slice (some ⟨g, (L.length - 1) * 9, none⟩) 1 c]).run Tryz.prog W1 = .ok (.tuple #[]) (W1.setRow g c2) := fun ty c => by
    rw [hc2]
    exact run_clear_fam W1 ty g _ c c1 hb1 (by rw [← Array.length_toList, k1]; omega)
  rw [← hc2l] at k2 k3
  have hlen : (L.take i ++ L.drop (i + 1)).length = L.length - 1 := by simp; omega
  have HFIN := Lib.hid (show FRow (W1.setRow g c2) B (.slice (some ⟨g, 0, none⟩) (L.take i ++ L.drop (i + 1)).length cap) (L.take i ++ L.drop (i + 1)) ∧ w.grownBy (W1.setRow g c2) (some g) from by
    refine ⟨FRow.of_block hBg hb1.row (by omega) hm (by rw [← Array.length_toList]; exact k2) (by rw [hlen]; exact k3), ?_⟩
    rw [hW1']
    exact only_trans (only_trans (only_drew (only_refl w (some g))) (only_setRow w.drew g c1)) (only_setRow _ g c2))
  rw [hlen] at HFIN
  obtain ⟨A, hA, hsrc⟩ : ∃ A : Addr, (if cap = i + 1 then some (⟨g, 0, none⟩ : Addr) else some ⟨g, (i + 1) * 9, none⟩) = some A ∧ Hid (∀ t u, (flat (L.drop (i + 1)))[t]? = some u → w.drew.cell? (A.add t) = some u) := by
    by_cases hq : cap = i + 1
    · refine ⟨⟨g, 0, none⟩, by simp [hq], fun t u hu => ?_⟩
      have := (List.getElem?_eq_some_iff.1 hu).1
      omega
    · refine ⟨⟨g, (i + 1) * 9, none⟩, by simp [hq], fun t u hu => ?_⟩
      have hul := (List.getElem?_eq_some_iff.1 hu).1
      rw [Addr.add_lit]
      show w.cell? ⟨g, (i + 1) * 9 + t, none⟩ = some u
      rw [hb.cell, ← hu, flat_drop, List.getElem?_drop, ← ht, List.getElem?_take, if_pos (by omega), Array.getElem?_toList]
  have s1 : Hid ((flat (L.drop (i + 1))).length = (L.length - (i + 1)) * 9) := hd
  have s2 : Hid (∀ u ∈ flat (L.drop (i + 1)), u.oneCell' = true) := fun u hu => flat_one hu
  have s3 : Hid (∀ t, t < (flat (L.drop (i + 1))).length → (w.drew.cell? ⟨g, 0 + i * 9 + t, none⟩).isSome = true ∧ w.drew.frozen? ⟨g, 0 + i * 9 + t, none⟩ = false) := fun t htl => by
    rw [hd] at htl
    exact ⟨by show (w.cell? _).isSome = true; rw [hb.cell, Array.getElem?_eq_getElem (by omega)]; rfl, hb.frozen _⟩
  have HW := Lib.hid hW1
  have mixed : Tryz.prog.follows .mixedOrders = true := by kernel_rfl
  have hic : i ≤ cap := by omega
  have hjc : i + 1 ≤ cap := by omega
  have hjn : i + 1 ≤ L.length := by omega
  have hw1 : ((i : Int) + 1).toNat = i + 1 := by omega
  have hz1 : (0 : Int) ≤ (i : Int) + 1 := by omega
  have hz2 : (i : Int) ≤ (i : Int) + 1 := by omega
  have hz3 : ¬ ((i : Int) = (i : Int) + 1) := by omega
  have hz4 : (i : Int) + 1 ≤ (L.length : Int) := by omega
  have hsum : i + (L.length - (i + 1)) = L.length - 1 := by omega
  have hone : L.length - (L.length - 1) = 1 := by omega
  have hz5 : ¬ (cap = L.length - 1) := by omega
  clear k1 k2 k3 hd hcl ht hc1 hc1l hc2 hc2l hb1 hW1 hW1' hb hlen h
  go_enter Tryz.func42, Tryz.ntmps42
  go_wp2_with fail
  go_region_law_o (refine step_append_room rfl (.tmp 22) (.tmp 25) 34 rfl 40 i0 9 Tryz.underlying34 hi0 hzs g 0 i cap (by simp [Act.eval, Act.put]) A (L.length - (i + 1)) (cap - (i + 1)) (flat (L.drop (i + 1))) (by simp [Act.eval, Act.put]) s1.out hsrc.out s2.out (by omega) s3.out ?_; rw [← HW.out])
  go_wp2
  go_ret
  exact ⟨_, rfl, HFIN.out.1, HFIN.out.2⟩
end Go.Proofs.YtdogilbnbbeljaaGreatDoor
