/-
  slices.Insert of one family ahead of the end, where there is no room; and at all.
-/
import Derived.Test.YtklpmoimckblcaaGreatDoorFamInsert
namespace Go.Proofs.YtklpmoimckblcaaGreatDoor
open Go.RowKit Go.Sort

theorem zeros_size (k : Nat) : (Builtin.zeroCells (Value.agg (famCs Fam.zero)).cells k).size = k * 9 := by
  simp [Builtin.zeroCells, Value.cells, famCs]
/-- the cells behind an insertion in a new row -/
theorem grow_cells {L : List Fam} {f : Fam} {zs : List Value} {i G : Nat} (hz : zs.length = (G - i) * 9) (hi : i ≤ L.length) (hG : L.length + 1 ≤ G) :
    let r0 := flat (L.take i) ++ zs
    let r1 := r0.take (i * 9) ++ (famCs f).toList ++ r0.drop (i * 9 + (famCs f).toList.length)
    let r2 := r1.take ((i + 1) * 9) ++ flat (L.drop i) ++ r1.drop ((i + 1) * 9 + (flat (L.drop i)).length)
    r0.length = G * 9 ∧ r1.length = G * 9 ∧ r2.length = G * 9 ∧ r2.take ((L.length + 1) * 9) = flat (L.take i ++ f :: L.drop i) := by
  intro r0 r1 r2
  have hd : (flat (L.drop i)).length = (L.length - i) * 9 := by rw [flat_len, List.length_drop]
  have ht : (flat (L.take i)).length = i * 9 := by rw [flat_len, List.length_take]; congr 1; omega
  have hf : (famCs f).toList.length = 9 := rfl
  have h0 : r0.length = G * 9 := by
    show (flat (L.take i) ++ zs).length = _
    rw [List.length_append, ht, hz]
    omega
  have e1 : r1 = flat (L.take i) ++ (famCs f).toList ++ r0.drop (i * 9 + 9) := by
    show r0.take (i * 9) ++ (famCs f).toList ++ r0.drop (i * 9 + (famCs f).toList.length) = _
    rw [hf]
    congr 2
    show (flat (L.take i) ++ zs).take (i * 9) = _
    rw [← ht, List.take_left]
  have h1 : r1.length = G * 9 := by
    rw [e1, List.length_append, List.length_append, List.length_drop, ht, hf, h0]
    omega
  have e2 : r1.take ((i + 1) * 9) = flat (L.take i) ++ (famCs f).toList := by
    have hl : (flat (L.take i) ++ (famCs f).toList).length = (i + 1) * 9 := by rw [List.length_append, ht, hf]; omega
    rw [e1, ← hl, List.take_left]
  have e3 : r2 = flat (L.take i) ++ (famCs f).toList ++ flat (L.drop i) ++ r1.drop ((i + 1) * 9 + (flat (L.drop i)).length) := by
    show r1.take ((i + 1) * 9) ++ flat (L.drop i) ++ r1.drop ((i + 1) * 9 + (flat (L.drop i)).length) = _
    rw [e2]
  refine ⟨h0, h1, ?_, ?_⟩
  · rw [e3]
    simp only [List.length_append, List.length_drop, ht, hf, hd, h1]
    omega
  · have e : flat (L.take i ++ f :: L.drop i) = flat (L.take i) ++ (famCs f).toList ++ flat (L.drop i) := by
      rw [flat_app, flat_cons, List.append_assoc]
    have hl : (flat (L.take i) ++ (famCs f).toList ++ flat (L.drop i)).length = (L.length + 1) * 9 := by
      simp only [List.length_append, ht, hf, hd]; omega
    rw [e3, e, ← hl, List.take_left]

set_option maxHeartbeats 8000000 in
set_option maxRecDepth 100000 in
theorem fam_insert_grow (B g cap vb i : Nat) (cur : Array Value) (L : List Fam) (f : Fam) (w : World) (hi : i < L.length) (hb : Blk w g 23 cur) (hcap : cap < L.length + 1) (hlc : L.length ≤ cap) (hm : cap ≤ 9223372036854775807)
    (ht : cur.toList.take (L.length * 9) = flat L) (hL : L.length ≤ 1000000) (hv : Blk w vb 23 (famCs f)) (hBw : B ≤ w.heap.size) :
    Calls Tryz.prog 39 #[.slice (some ⟨g, 0, none⟩) L.length cap, .int .i64 i, .slice (some ⟨vb, 0, none⟩) 1 1] w fun e w' => ∃ v', e = .returned v' ∧ FRow w' B v' (L.take i ++ f :: L.drop i) ∧ w.grownBy w' (some g) := by
  obtain ⟨i0, hi0, hz0, hzs, hzb⟩ := info_parts famInfo
  have hgw := hb.lt
  have hvw := hv.lt
  have hd : (flat (L.drop i)).length = (L.length - i) * 9 := by rw [flat_len, List.length_drop]
  have htl : (flat (L.take i)).length = i * 9 := by rw [flat_len, List.length_take]; congr 1; omega
  have hkk : (L.length : Int) + 1 - (i : Int) = ((L.length + 1 - i : Nat) : Int) := by omega
  have hik : i + (L.length + 1 - i) = L.length + 1 := by omega
  have hcell : ∀ j u, (flat L)[j]? = some u → w.cell? ⟨g, j, none⟩ = some u := by
    intro j u hj
    rw [hb.cell, ← hj, ← ht, List.getElem?_take, if_pos (by have := (List.getElem?_eq_some_iff.1 hj).1; rw [flat_len] at this; exact this), Array.getElem?_toList]
  have hold : (Builtin.firstCells i0.size i (.slice (some ⟨g, 0, none⟩) i cap)).run Tryz.prog w.drew = .ok (flat (L.take i)).toArray w.drew := by
    rw [hzs]
    exact run_firstCells_some w.drew 9 i ⟨g, 0, none⟩ i cap (flat (L.take i)) htl (fun j u hj => by
      rw [Addr.add_lit, Nat.zero_add]
      show w.cell? ⟨g, j, none⟩ = some u
      rw [flat_take, List.getElem?_take] at hj
      split at hj
      · exact hcell j u hj
      · cases hj)
  obtain ⟨G, hG⟩ : ∃ G, G = grownCap w (L.length + 1) cap 23 := ⟨_, rfl⟩
  obtain ⟨ROW, hROW⟩ : ∃ ROW : Array Value, ROW = (flat (L.take i)).toArray ++ Builtin.zeroCells (Value.agg (famCs Fam.zero)).cells (L.length + 1 - i) ++ Builtin.zeroCells (Value.agg (famCs Fam.zero)).cells (G - (L.length + 1)) := ⟨_, rfl⟩
  have hrz : ∀ ty, (Builtin.append_ #[44, 3] ty #[.slice (some ⟨g, 0, none⟩) i cap, .int .i64 ((L.length : Int) + 1 - (i : Int))]).run Tryz.prog w =
      .ok (.slice (some ⟨w.heap.size, 0, none⟩) (L.length + 1) G) (w.drew.alloc (.cells ROW 23)) := fun ty => by
    have h := Lib.run_append_grow_zeros w 44 3 ty 23 i0 _ .i64 .i64 Tryz.underlying44 Tryz.underlying3 hi0 hz0 (some ⟨g, 0, none⟩) i cap (flat (L.take i)) hold (L.length + 1 - i) (by omega) (by omega) (by omega) (by omega) (by rw [hzb]; omega) (by rw [hzb, hik]; exact growslice_fits hcap (by omega))
    rw [hik, ← hG] at h
    rw [hkk, hROW]
    exact h
  have hGn : L.length + 1 ≤ G := by rw [hG]; exact grownCap_ge w _ _ _
  have hG63 : G ≤ 9223372036854775807 := by
    have := grownCap_le_maxLen w (L.length + 1) cap 23 (by unfold maxLen; omega)
    rw [← hG] at this
    unfold maxLen at this
    omega
  obtain ⟨zs, hzs1, hzs2⟩ : ∃ zs : List Value, ROW.toList = flat (L.take i) ++ zs ∧ zs.length = (G - i) * 9 :=
    ⟨(Builtin.zeroCells (Value.agg (famCs Fam.zero)).cells (L.length + 1 - i)).toList ++ (Builtin.zeroCells (Value.agg (famCs Fam.zero)).cells (G - (L.length + 1))).toList, by rw [hROW]; simp, by
      simp only [List.length_append, Array.length_toList, zeros_size]; omega⟩
  obtain ⟨q0, q1, q2, q3⟩ := grow_cells (f := f) hzs2 (Nat.le_of_lt hi) hGn
  rw [← hzs1] at q0 q1 q2 q3
  obtain ⟨R1, hR1⟩ : ∃ R1 : Array Value, R1 = (ROW.toList.take (i * 9) ++ (famCs f).toList ++ ROW.toList.drop (i * 9 + (famCs f).toList.length)).toArray := ⟨_, rfl⟩
  have hR1l : R1.toList = ROW.toList.take (i * 9) ++ (famCs f).toList ++ ROW.toList.drop (i * 9 + (famCs f).toList.length) := by rw [hR1]
  rw [← hR1l] at q1 q2 q3
  obtain ⟨R2, hR2⟩ : ∃ R2 : Array Value, R2 = (R1.toList.take ((i + 1) * 9) ++ flat (L.drop i) ++ R1.toList.drop ((i + 1) * 9 + (flat (L.drop i)).length)).toArray := ⟨_, rfl⟩
  have hR2l : R2.toList = R1.toList.take ((i + 1) * 9) ++ flat (L.drop i) ++ R1.toList.drop ((i + 1) * 9 + (flat (L.drop i)).length) := by rw [hR2]
  rw [← hR2l] at q2 q3
  have hcpA : ∀ W, Blk W w.heap.size 23 ROW → Blk W vb 23 (famCs f) → ∀ ty dc, (Builtin.copy_ #[44, 44] ty #[.slice (some ⟨w.heap.size, i * 9, none⟩) (L.length + 1 - i) dc, .slice (some ⟨vb, 0, none⟩) 1 1]).run Tryz.prog W = .ok (goInt (1 : Nat)) (W.setRow w.heap.size R1) := fun W h1 h2 ty dc => by
    rw [hR1]
    exact run_copy_fam W ty w.heap.size _ _ _ _ _ _ 1 ROW _ h1 (by simp only [Nat.min_def]; split <;> omega) rfl (fun j u hj => by rw [Addr.add_lit, Nat.zero_add, h2.cell, ← Array.getElem?_toList, hj]) (by rw [← Array.length_toList, q0]; show i * 9 + 9 ≤ _; omega) (fun v hv => flat_one (L := [f]) (by simpa [flat] using hv))
  have hcpB : ∀ W, Blk W w.heap.size 23 R1 → Blk W g 23 cur → ∀ ty, (Builtin.copy_ #[44, 44] ty #[.slice (some ⟨w.heap.size, (i + 1) * 9, none⟩) (L.length - i) (G - (i + 1)), .slice (some ⟨g, i * 9, none⟩) (L.length - i) (cap - i)]).run Tryz.prog W = .ok (goInt (L.length - i : Nat)) (W.setRow w.heap.size R2) := fun W h1 h2 ty => by
    rw [hR2]
    exact run_copy_fam W ty w.heap.size _ _ _ _ _ _ (L.length - i) R1 _ h1 (by simp only [Nat.min_def]; split <;> omega) hd (fun j u hj => by
      rw [Addr.add_lit, h2.cell]
      have hjl := (List.getElem?_eq_some_iff.1 hj).1
      rw [← hj, flat_drop, List.getElem?_drop, ← ht, List.getElem?_take, if_pos (by omega), Array.getElem?_toList]) (by rw [← Array.length_toList, q1, hd]; omega) (fun v hv => flat_one hv)
  have hlen : (L.take i ++ f :: L.drop i).length = L.length + 1 := by simp; omega
  have hR2s : R2.size = G * 9 := by rw [← Array.length_toList]; exact q2
  have HFIN := Lib.hid (fun (W : World) (h1 : Blk W w.heap.size 23 R2) => (FRow.of_block hBw h1 (by omega) hG63 hR2s (by rw [hlen]; exact q3) : FRow W B (.slice (some ⟨w.heap.size, 0, none⟩) (L.take i ++ f :: L.drop i).length G) (L.take i ++ f :: L.drop i)))
  rw [hlen] at HFIN
  have hcA := fun ty dc => hcpA ((w.alloc (.cells ROW 23)).drew) (Blk.new w _ _).drew (hv.alloc _).drew ty dc
  obtain ⟨W1, hW1⟩ : ∃ W1, W1 = (w.alloc (.cells ROW 23)).drew.setRow w.heap.size R1 := ⟨_, rfl⟩
  rw [← hW1] at hcA
  have hb1 : Blk W1 w.heap.size 23 R1 := by rw [hW1]; exact (Blk.new w _ _).drew.row
  have hg1 : Blk W1 g 23 cur := by rw [hW1]; exact (hb.alloc _).drew.grown (only_setRow _ _ _) (by simp; omega)
  have hl1 : Below w.heap.size w W1 := by
    rw [hW1]
    have b1 : Below w.heap.size w (w.alloc (.cells ROW 23)).drew := below_drewN ((Below.refl w.heap.size w).alloc (Nat.le_refl _) _) 1
    exact b1.grown (only_setRow _ _ _) (by simp) (fun j hj => by cases hj; exact Nat.le_refl _)
  have hcB := fun ty => hcpB W1.drew hb1.drew hg1.drew ty
  have HEND := Lib.hid (show FRow (W1.drew.setRow w.heap.size R2) B (.slice (some ⟨w.heap.size, 0, none⟩) (L.length + 1) G) (L.take i ++ f :: L.drop i) ∧ w.grownBy (W1.drew.setRow w.heap.size R2) (some g) from
    ⟨HFIN.out _ hb1.drew.row, only_of_below ((below_drewN hl1 1).grown (only_setRow _ _ _) (by have := hl1.size; simp; omega) (fun j hj => by cases hj; exact Nat.le_refl _)) _⟩)
  have HW1 := Lib.hid hW1
  have hGi : ¬ (G = i) := by omega
  have hGim : ¬ (G = i + 1) := by omega
  have hci : ¬ (cap = i) := by omega
  have hw1 : IntKind.i64.wrap ((i : Int) + 1) = (i : Int) + 1 := by rw [IntKind.wrap_i64]; omega
  have hz1 : (0 : Int) ≤ (i : Int) + 1 := by omega
  have htn : ((i : Int) + 1).toNat = i + 1 := by omega
  have hin : i ≤ L.length := by omega
  have hz3 : (cap : Int) < (L.length : Int) + 1 := by omega
  have hz2 : ¬ ((i : Int) = (L.length : Int)) := by omega
  have mixed : Tryz.prog.follows .mixedOrders = true := by kernel_rfl
  clear HFIN hW1 hb1 hg1 hl1 hR2s hcpA hcpB hv hb q0 q1 q2 q3 hR1 hR1l hR2 hR2l hzs1 hzs2 hROW hG hold hcell htl hkk hik ht hd hlen
  go_enter Tryz.func39, Tryz.ntmps39
  go_wp2_with
    (first
    | (at_builtin; refine Lib.wpList_append_run _ rfl _ _ _ _ rfl _ _ rfl rfl _ _ (hrz _) ?_)
    | (at_builtin; refine wpList_copy_runI _ rfl _ _ 44 44 rfl _ _ rfl rfl (hcA _ _) ?_))
  go_region_law_o (refine step_copy_runI rfl _ _ 44 44 rfl _ _ (by simp [Act.eval, Act.put]) (by simp [Act.eval, Act.put]) (hcB _) ?_)
  go_wp2
  go_ret
  exact ⟨_, rfl, HEND.out.1, HEND.out.2⟩
theorem fam_insert (B vb k : Nat) (v : Value) (L : List Fam) (f : Fam) (w : World) (h : FRow w B v L) (hk : k ≤ L.length) (hL : L.length ≤ 1000000) (hB : B ≤ w.heap.size) (hv : Blk w vb 23 (famCs f)) (hne : v.ownBlock ≠ some vb) :
    Calls Tryz.prog 39 #[v, .int .i64 k, .slice (some ⟨vb, 0, none⟩) 1 1] w fun e w' => ∃ v', e = .returned v' ∧ FRow w' B v' (L.take k ++ f :: L.drop k) ∧ w.grownBy w' v.ownBlock := by
  by_cases he : k = L.length
  · subst he
    rw [List.take_length, List.drop_length]
    exact fam_insert_end B vb v L f w h hL hB hv
  · rcases h.block with ⟨rfl, rfl⟩ | ⟨g, cap, cur, rfl, h1, h2, h3, h4, h5, h6⟩
    · simp at hk he
      exact absurd hk he
    · by_cases hc : L.length + 1 ≤ cap
      · exact fam_insert_room B g cap vb k cur L f w (by omega) h2 hc h4 h5 h6 h1 hL hv (by rintro rfl; exact hne rfl)
      · exact fam_insert_grow B g cap vb k cur L f w (by omega) h2 (by omega) h3 h4 h6 hL hv hB
end Go.Proofs.YtklpmoimckblcaaGreatDoor
