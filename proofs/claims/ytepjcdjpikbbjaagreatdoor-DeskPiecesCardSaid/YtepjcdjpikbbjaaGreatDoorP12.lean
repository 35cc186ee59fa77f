/-
  slices.Insert of one family ahead of the end, where there is no room; and at all.
-/
import Derived.Test.YtepjcdjpikbbjaaGreatDoorP11
import Derived.Shelf.Slices.Delete
import Derived.Deep.MidRow
import Derived.Laws.Rows
import Derived.Laws.StructEq
namespace Go.Proofs.YtepjcdjpikbbjaaGreatDoor
open Go.RowKit Go.Sort

theorem zeros_size (k : Nat) : (Builtin.zeroCells (Value.agg (famCs Fam.zero)).cells k).size = k * 9 := by
  simp [Builtin.zeroCells, Value.cells, famCs]
/-- the cells behind an insertion in a new row -/
theorem grow_cells {L : List Fam} {f : Fam} {zs : List Value} {i G : Nat} (hz : zs.length = (G - i) * 9) (hi : i ≤ L.length) (hG : L.length + 1 ≤ G) :
    let r0 := flat (L.take i) ++ zs
    let r1 := r0.take (i * 9) ++ (famCs f).toList ++ r0.drop (i * 9 + (famCs f).toList.length)
    let r2 := r1.take ((i + 1) * 9) ++ flat (L.drop i) ++ r1.drop ((i + 1) * 9 + (flat (L.drop i)).length)
    r0.length = G * 9 ∧ r1.length = G * 9 ∧ r2.length = G * 9 ∧ r2.take ((L.length + 1) * 9) = flat (L.take i ++ f :: L.drop i) := by
  intro r0 r1 r2
  have hd : (flat (L.drop i)).length = (L.length - i) * 9 := by rw [flat_len, List.length_drop]
  have ht : (flat (L.take i)).length = i * 9 := by rw [flat_len, List.length_take]; congr 1; omega
  have hf : (famCs f).toList.length = 9 := rfl
  have h0 : r0.length = G * 9 := by
    show (flat (L.take i) ++ zs).length = _
    rw [List.length_append, ht, hz]
    omega
  have e1 : r1 = flat (L.take i) ++ (famCs f).toList ++ r0.drop (i * 9 + 9) := by
    show r0.take (i * 9) ++ (famCs f).toList ++ r0.drop (i * 9 + (famCs f).toList.length) = _
    rw [hf]
    congr 2
    show (flat (L.take i) ++ zs).take (i * 9) = _
    rw [← ht, List.take_left]
  have h1 : r1.length = G * 9 := by
    rw [e1, List.length_append, List.length_append, List.length_drop, ht, hf, h0]
    omega
  have e2 : r1.take ((i + 1) * 9) = flat (L.take i) ++ (famCs f).toList := by
    have hl : (flat (L.take i) ++ (famCs f).toList).length = (i + 1) * 9 := by rw [List.length_append, ht, hf]; omega
    rw [e1, ← hl, List.take_left]
  have e3 : r2 = flat (L.take i) ++ (famCs f).toList ++ flat (L.drop i) ++ r1.drop ((i + 1) * 9 + (flat (L.drop i)).length) := by
    show r1.take ((i + 1) * 9) ++ flat (L.drop i) ++ r1.drop ((i + 1) * 9 + (flat (L.drop i)).length) = _
    rw [e2]
  refine ⟨h0, h1, ?_, ?_⟩
  · rw [e3]
    simp only [List.length_append, List.length_drop, ht, hf, hd, h1]
    omega
  · have e : flat (L.take i ++ f :: L.drop i) = flat (L.take i) ++ (famCs f).toList ++ flat (L.drop i) := by
      rw [flat_app, flat_cons, List.append_assoc]
    have hl : (flat (L.take i) ++ (famCs f).toList ++ flat (L.drop i)).length = (L.length + 1) * 9 := by
      simp only [List.length_append, ht, hf, hd]; omega
    rw [e3, e, ← hl, List.take_left]

set_option maxHeartbeats 8000000 in
set_option maxRecDepth 100000 in
theorem fam_insert_grow (B g cap vb i : Nat) (cur : Array Value) (L : List Fam) (f : Fam) (w : World) (hi : i < L.length) (hb : Blk w g 95 cur) (hcap : cap < L.length + 1) (hlc : L.length ≤ cap) (hm : cap ≤ 9223372036854775807)
    (ht : cur.toList.take (L.length * 9) = flat L) (hL : L.length ≤ 1000000) (hv : Blk w vb 95 (famCs f)) (hBw : B ≤ w.heap.size) :
    Calls Tryz.prog 113 #[.slice (some ⟨g, 0, none⟩) L.length cap, .int .i64 i, .slice (some ⟨vb, 0, none⟩) 1 1] w fun e w' => ∃ v', e = .returned v' ∧ FRow w' B v' (L.take i ++ f :: L.drop i) ∧ w.grownBy w' (some g) := by
  obtain ⟨i0, hi0, hz0, hzs, hzb⟩ := info_parts famInfo
  have hgw := hb.lt
  have hvw := hv.lt
  have hd : (flat (L.drop i)).length = (L.length - i) * 9 := by rw [flat_len, List.length_drop]
  have htl : (flat (L.take i)).length = i * 9 := by rw [flat_len, List.length_take]; congr 1; omega
  have hkk : (L.length : Int) + 1 - (i : Int) = ((L.length + 1 - i : Nat) : Int) := by omega
  have hik : i + (L.length + 1 - i) = L.length + 1 := by omega
  have hcell : ∀ j u, (flat L)[j]? = some u → w.cell? ⟨g, j, none⟩ = some u := by
    intro j u hj
    rw [hb.cell, ← hj, ← ht, List.getElem?_take, if_pos (by have := (List.getElem?_eq_some_iff.1 hj).1; rw [flat_len] at this; exact this), Array.getElem?_toList]
  have hold : (Builtin.firstCells i0.size i (.slice (some ⟨g, 0, none⟩) i cap)).run Tryz.prog w.drew = .ok (flat (L.take i)).toArray w.drew := by
    rw [hzs]
    exact run_firstCells_some w.drew 9 i ⟨g, 0, none⟩ i cap (flat (L.take i)) htl (fun j u hj => by
      rw [Addr.add_lit, Nat.zero_add]
      show w.cell? ⟨g, j, none⟩ = some u
      rw [flat_take, List.getElem?_take] at hj
      split at hj
      · exact hcell j u hj
      · cases hj)
  obtain ⟨G, hG⟩ : ∃ G, G = grownCap w (L.length + 1) cap 95 := ⟨_, rfl⟩
  obtain ⟨ROW, hROW⟩ : ∃ ROW : Array Value, ROW = (flat (L.take i)).toArray ++ Builtin.zeroCells (Value.agg (famCs Fam.zero)).cells (L.length + 1 - i) ++ Builtin.zeroCells (Value.agg (famCs Fam.zero)).cells (G - (L.length + 1)) := ⟨_, rfl⟩
  have hrz : ∀ ty, (Builtin.append_ #[81, 3] ty #[.slice (some ⟨g, 0, none⟩) i cap, .int .i64 ((L.length : Int) + 1 - (i : Int))]).run Tryz.prog w =
      .ok (.slice (some ⟨w.heap.size, 0, none⟩) (L.length + 1) G) (w.drew.alloc (.cells ROW 95)) := fun ty => by
    have h := Lib.run_append_grow_zeros w 81 3 ty 95 i0 _ .i64 .i64 Tryz.underlying81 Tryz.underlying3 hi0 hz0 (some ⟨g, 0, none⟩) i cap (flat (L.take i)) hold (L.length + 1 - i) (by omega) (by omega) (by omega) (by omega) (by rw [hzb]; omega) (by rw [hzb, hik]; exact growslice_fits hcap (by omega))
    rw [hik, ← hG] at h
    rw [hkk, hROW]
    exact h
  have hGn : L.length + 1 ≤ G := by rw [hG]; exact grownCap_ge w _ _ _
  have hG63 : G ≤ 9223372036854775807 := by
    have := grownCap_le_maxLen w (L.length + 1) cap 95 (by unfold maxLen; omega)
    rw [← hG] at this
    unfold maxLen at this
    omega
  obtain ⟨zs, hzs1, hzs2⟩ : ∃ zs : List Value, ROW.toList = flat (L.take i) ++ zs ∧ zs.length = (G - i) * 9 :=
    ⟨(Builtin.zeroCells (Value.agg (famCs Fam.zero)).cells (L.length + 1 - i)).toList ++ (Builtin.zeroCells (Value.agg (famCs Fam.zero)).cells (G - (L.length + 1))).toList, by rw [hROW]; simp, by
      simp only [List.length_append, Array.length_toList, zeros_size]; omega⟩
  obtain ⟨q0, q1, q2, q3⟩ := grow_cells (f := f) hzs2 (Nat.le_of_lt hi) hGn
  rw [← hzs1] at q0 q1 q2 q3
  obtain ⟨R1, hR1⟩ : ∃ R1 : Array Value, R1 = (ROW.toList.take (i * 9) ++ (famCs f).toList ++ ROW.toList.drop (i * 9 + (famCs f).toList.length)).toArray := ⟨_, rfl⟩
  have hR1l : R1.toList = ROW.toList.take (i * 9) ++ (famCs f).toList ++ ROW.toList.drop (i * 9 + (famCs f).toList.length) := by rw [hR1]
  rw [← hR1l] at q1 q2 q3
  obtain ⟨R2, hR2⟩ : ∃ R2 : Array Value, R2 = (R1.toList.take ((i + 1) * 9) ++ flat (L.drop i) ++ R1.toList.drop ((i + 1) * 9 + (flat (L.drop i)).length)).toArray := ⟨_, rfl⟩
  have hR2l : R2.toList = R1.toList.take ((i + 1) * 9) ++ flat (L.drop i) ++ R1.toList.drop ((i + 1) * 9 + (flat (L.drop i)).length) := by rw [hR2]
  rw [← hR2l] at q2 q3
  have hcpA : ∀ W, Blk W w.heap.size 95 ROW → Blk W vb 95 (famCs f) → ∀ ty dc, (Builtin.copy_ #[81, 81] ty #[.slice (some ⟨w.heap.size, i * 9, none⟩) (L.length + 1 - i) dc, .slice (some ⟨vb, 0, none⟩) 1 1]).run Tryz.prog W = .ok (goInt (1 : Nat)) (W.setRow w.heap.size R1) := fun W h1 h2 ty dc => by
    rw [hR1]
    exact run_copy_fam W ty w.heap.size _ _ _ _ _ _ 1 ROW _ h1 (by simp only [Nat.min_def]; split <;> omega) rfl (fun j u hj => by rw [Addr.add_lit, Nat.zero_add, h2.cell, ← Array.getElem?_toList, hj]) (by rw [← Array.length_toList, q0]; show i * 9 + 9 ≤ _; omega) (fun v hv => flat_one (L := [f]) (by simpa [flat] using hv))
  have hcpB : ∀ W, Blk W w.heap.size 95 R1 → Blk W g 95 cur → ∀ ty, (Builtin.copy_ #[81, 81] ty #[.slice (some ⟨w.heap.size, (i + 1) * 9, none⟩) (L.length - i) (G - (i + 1)), .slice (some ⟨g, i * 9, none⟩) (L.length - i) (cap - i)]).run Tryz.prog W = .ok (goInt (L.length - i : Nat)) (W.setRow w.heap.size R2) := fun W h1 h2 ty => by
    rw [hR2]
    exact run_copy_fam W ty w.heap.size _ _ _ _ _ _ (L.length - i) R1 _ h1 (by simp only [Nat.min_def]; split <;> omega) hd (fun j u hj => by
      rw [Addr.add_lit, h2.cell]
      have hjl := (List.getElem?_eq_some_iff.1 hj).1
      rw [← hj, flat_drop, List.getElem?_drop, ← ht, List.getElem?_take, if_pos (by omega), Array.getElem?_toList]) (by rw [← Array.length_toList, q1, hd]; omega) (fun v hv => flat_one hv)
  have hlen : (L.take i ++ f :: L.drop i).length = L.length + 1 := by simp; omega
  have hR2s : R2.size = G * 9 := by rw [← Array.length_toList]; exact q2
  have HFIN := Lib.hid (fun (W : World) (h1 : Blk W w.heap.size 95 R2) => (FRow.of_block hBw h1 (by omega) hG63 hR2s (by rw [hlen]; exact q3) : FRow W B (.slice (some ⟨w.heap.size, 0, none⟩) (L.take i ++ f :: L.drop i).length G) (L.take i ++ f :: L.drop i)))
  rw [hlen] at HFIN
  have hcA := fun ty dc => hcpA ((w.alloc (.cells ROW 95)).drew) (Blk.new w _ _).drew (hv.alloc _).drew ty dc
  obtain ⟨W1, hW1⟩ : ∃ W1, W1 = (w.alloc (.cells ROW 95)).drew.setRow w.heap.size R1 := ⟨_, rfl⟩
  rw [← hW1] at hcA
  have hb1 : Blk W1 w.heap.size 95 R1 := by rw [hW1]; exact (Blk.new w _ _).drew.row
  have hg1 : Blk W1 g 95 cur := by rw [hW1]; exact (hb.alloc _).drew.grown (only_setRow _ _ _) (by simp; omega)
  have hl1 : Below w.heap.size w W1 := by
    rw [hW1]
    have b1 : Below w.heap.size w (w.alloc (.cells ROW 95)).drew := below_drewN ((Below.refl w.heap.size w).alloc (Nat.le_refl _) _) 1
    exact b1.grown (only_setRow _ _ _) (by simp) (fun j hj => by cases hj; exact Nat.le_refl _)
  have hcB := fun ty => hcpB W1.drew hb1.drew hg1.drew ty
  have HEND := Lib.hid (show FRow (W1.drew.setRow w.heap.size R2) B (.slice (some ⟨w.heap.size, 0, none⟩) (L.length + 1) G) (L.take i ++ f :: L.drop i) ∧ w.grownBy (W1.drew.setRow w.heap.size R2) (some g) from
    ⟨HFIN.out _ hb1.drew.row, only_of_below ((below_drewN hl1 1).grown (only_setRow _ _ _) (by have := hl1.size; simp; omega) (fun j hj => by cases hj; exact Nat.le_refl _)) _⟩)
  have HW1 := Lib.hid hW1
  have hGi : ¬ (G = i) := by omega
  have hGim : ¬ (G = i + 1) := by omega
  have hci : ¬ (cap = i) := by omega
  have hw1 : IntKind.i64.wrap ((i : Int) + 1) = (i : Int) + 1 := by rw [IntKind.wrap_i64]; omega
  have hz1 : (0 : Int) ≤ (i : Int) + 1 := by omega
  have htn : ((i : Int) + 1).toNat = i + 1 := by omega
  have hin : i ≤ L.length := by omega
  have hz3 : (cap : Int) < (L.length : Int) + 1 := by omega
  have hz2 : ¬ ((i : Int) = (L.length : Int)) := by omega
  have mixed : Tryz.prog.follows .mixedOrders = true := by kernel_rfl
  clear HFIN hW1 hb1 hg1 hl1 hR2s hcpA hcpB hv hb q0 q1 q2 q3 hR1 hR1l hR2 hR2l hzs1 hzs2 hROW hG hold hcell htl hkk hik ht hd hlen
  go_enter Tryz.func113, Tryz.ntmps113
  go_wp2_with
    (first
    | (at_builtin; refine Lib.wpList_append_run _ rfl _ _ _ _ rfl _ _ rfl rfl _ _ (hrz _) ?_)
    | (at_builtin; refine wpList_copy_runI _ rfl _ _ 81 81 rfl _ _ rfl rfl (hcA _ _) ?_))
  go_region_law_o (refine step_copy_runI rfl _ _ 81 81 rfl _ _ (by simp [Act.eval, Act.put]) (by simp [Act.eval, Act.put]) (hcB _) ?_)
  go_wp2
  go_ret
  exact ⟨_, rfl, HEND.out.1, HEND.out.2⟩
theorem fam_insert (B vb k : Nat) (v : Value) (L : List Fam) (f : Fam) (w : World) (h : FRow w B v L) (hk : k ≤ L.length) (hL : L.length ≤ 1000000) (hB : B ≤ w.heap.size) (hv : Blk w vb 95 (famCs f)) (hne : v.ownBlock ≠ some vb) :
    Calls Tryz.prog 113 #[v, .int .i64 k, .slice (some ⟨vb, 0, none⟩) 1 1] w fun e w' => ∃ v', e = .returned v' ∧ FRow w' B v' (L.take k ++ f :: L.drop k) ∧ w.grownBy w' v.ownBlock := by
  by_cases he : k = L.length
  · subst he
    rw [List.take_length, List.drop_length]
    exact fam_insert_end B vb v L f w h hL hB hv
  · rcases h.block with ⟨rfl, rfl⟩ | ⟨g, cap, cur, rfl, h1, h2, h3, h4, h5, h6⟩
    · simp at hk he
      exact absurd hk he
    · by_cases hc : L.length + 1 ≤ cap
      · exact fam_insert_room B g cap vb k cur L f w (by omega) h2 hc h4 h5 h6 h1 hL hv (by rintro rfl; exact hne rfl)
      · exact fam_insert_grow B g cap vb k cur L f w (by omega) h2 (by omega) h3 h4 h6 hL hv hB
end Go.Proofs.YtepjcdjpikbbjaaGreatDoor

/-
  slices.Delete of one family.
-/
namespace Go.Proofs.YtepjcdjpikbbjaaGreatDoor
open Go.RowKit Go.Sort

/-- cells stored one by one, or as a row: one world -/
theorem setCells_row {w : World} {g o : Nat} {cur : Array Value} {cs : List Value} (hg : Blk w g 95 cur) (hfit : o + cs.length ≤ cur.size) (h1 : ∀ v ∈ cs, v.oneCell' = true) :
    w.setCells g o cs = w.setRow g (cur.toList.take o ++ cs ++ cur.toList.drop (o + cs.length)).toArray := by
  have a := run_storeCells_at Tryz.prog g o _ cs 0 cur w hg (by simpa using hfit) h1
  have b := run_storeCells_cells (P := Tryz.prog) g o cs 0 w (fun j hj => by rw [hg.cell, Array.getElem?_eq_getElem (by omega)]; rfl) (fun j _ => hg.frozen _) h1
  rw [a] at b
  simp only [Result.ok.injEq, Nat.add_zero] at b
  exact b.2.symm
theorem zero_fam (w : World) : (zeroValue 95).run Tryz.prog w = .ok (.agg (famCs Fam.zero)) w := by kernel_rfl
theorem zero_cells : Builtin.zeroCells (Value.agg (famCs Fam.zero)).cells 1 = famCs Fam.zero := by
  apply Array.ext
  · simp [Builtin.zeroCells, Value.cells, famCs]
  · intro i h1 h2
    have h2' : i < 9 := h2
    simp only [Builtin.zeroCells, Value.cells, Array.getElem_map, Array.getElem_range]
    rw [show i % (famCs Fam.zero).size = i from Nat.mod_eq_of_lt h2, getElem!_pos (famCs Fam.zero) i h2]
theorem run_clear_fam (W : World) (ty : TypeId) (g o c : Nat) (cur : Array Value) (hg : Blk W g 95 cur) (hfit : o + 9 ≤ cur.size) :
    (Builtin.clear_ #[81] ty #[.slice (some ⟨g, o, none⟩) 1 c]).run Tryz.prog W = .ok (.tuple #[]) (W.setRow g (cur.toList.take o ++ (famCs Fam.zero).toList ++ cur.toList.drop (o + 9)).toArray) := by
  have hst := run_storeCells_at Tryz.prog g o _ (famCs Fam.zero).toList 0 cur W hg hfit (fun v hv => flat_one (L := [Fam.zero]) (by simpa [flat] using hv))
  have hzc : Builtin.zeroCells (Value.agg (famCs Fam.zero)).cells 1 = famCs Fam.zero := zero_cells
  simp only [Nat.add_zero] at hst
  have hz := zero_fam W
  have hZ : (famCs Fam.zero).size = 9 := rfl
  generalize famCs Fam.zero = Z at hst hzc hz hZ ⊢
  simp [Builtin.clear_, run_underlying Tryz.underlying81, hz, hzc, hst, hZ]
/-- the cells behind a deletion -/
theorem del_cells {L : List Fam} {xs : List Value} {i c : Nat} (hx : xs.length = c * 9) (ht : xs.take (L.length * 9) = flat L) (hi : i < L.length) (hc : L.length ≤ c) :
    let c1 := xs.take (i * 9) ++ flat (L.drop (i + 1)) ++ xs.drop (i * 9 + (flat (L.drop (i + 1))).length)
    let c2 := c1.take ((L.length - 1) * 9) ++ (famCs Fam.zero).toList ++ c1.drop ((L.length - 1) * 9 + 9)
    c1.length = c * 9 ∧ c2.length = c * 9 ∧ c2.take ((L.length - 1) * 9) = flat (L.take i ++ L.drop (i + 1)) := by
  intro c1 c2
  have hd : (flat (L.drop (i + 1))).length = (L.length - (i + 1)) * 9 := by rw [flat_len, List.length_drop]
  have hf : (famCs Fam.zero).toList.length = 9 := rfl
  have htk : xs.take (i * 9) = flat (L.take i) := by rw [flat_take, ← ht, List.take_take]; congr 1; omega
  have hl : (flat (L.take i)).length = i * 9 := by rw [flat_len, List.length_take]; congr 1; omega
  have h1 : c1.length = c * 9 := by
    show (xs.take (i * 9) ++ flat (L.drop (i + 1)) ++ xs.drop (i * 9 + (flat (L.drop (i + 1))).length)).length = _
    simp only [List.length_append, List.length_take, List.length_drop, hd, hx]
    omega
  have ht1 : c1.take ((L.length - 1) * 9) = flat (L.take i ++ L.drop (i + 1)) := by
    show (xs.take (i * 9) ++ flat (L.drop (i + 1)) ++ xs.drop (i * 9 + (flat (L.drop (i + 1))).length)).take ((L.length - 1) * 9) = _
    have hll : (flat (L.take i) ++ flat (L.drop (i + 1))).length = (L.length - 1) * 9 := by rw [List.length_append, hl, hd]; omega
    rw [htk, flat_app, ← hll, List.take_left]
  refine ⟨h1, ?_, ?_⟩
  · show (c1.take ((L.length - 1) * 9) ++ (famCs Fam.zero).toList ++ c1.drop ((L.length - 1) * 9 + 9)).length = _
    simp only [List.length_append, List.length_take, List.length_drop, h1, hf]
    omega
  · show (c1.take ((L.length - 1) * 9) ++ (famCs Fam.zero).toList ++ c1.drop ((L.length - 1) * 9 + 9)).take ((L.length - 1) * 9) = _
    have hll : (c1.take ((L.length - 1) * 9)).length = (L.length - 1) * 9 := by rw [List.length_take, h1]; omega
    rw [List.append_assoc, List.take_append_of_le_length (by omega), List.take_take, Nat.min_self, ht1]

set_option maxHeartbeats 8000000 in
set_option maxRecDepth 100000 in
theorem fam_delete (B i : Nat) (v : Value) (L : List Fam) (w : World) (h : FRow w B v L) (hi : i < L.length) (hL : L.length ≤ 1000000) :
    Calls Tryz.prog 114 #[v, .int .i64 i, .int .i64 ((i : Int) + 1)] w fun e w' => ∃ v', e = .returned v' ∧ FRow w' B v' (L.take i ++ L.drop (i + 1)) ∧ w.grownBy w' v.ownBlock := by
  rcases h.block with ⟨rfl, rfl⟩ | ⟨g, cap, cur, rfl, hBg, hb, hlc, hm, hc, ht⟩
  · simp at hi
  obtain ⟨i0, hi0, hz0, hzs, hzb⟩ := info_parts famInfo
  have hcl : cur.toList.length = cap * 9 := by rw [Array.length_toList]; exact hc
  obtain ⟨k1, k2, k3⟩ := del_cells hcl ht hi hlc
  have hd : (flat (L.drop (i + 1))).length = (L.length - (i + 1)) * 9 := by rw [flat_len, List.length_drop]
  obtain ⟨c1, hc1⟩ : ∃ c1 : Array Value, c1 = (cur.toList.take (i * 9) ++ flat (L.drop (i + 1)) ++ cur.toList.drop (i * 9 + (flat (L.drop (i + 1))).length)).toArray := ⟨_, rfl⟩
  have hc1l : c1.toList = cur.toList.take (i * 9) ++ flat (L.drop (i + 1)) ++ cur.toList.drop (i * 9 + (flat (L.drop (i + 1))).length) := by rw [hc1]
  rw [← hc1l] at k1 k2 k3
  obtain ⟨W1, hW1⟩ : ∃ W1, W1 = w.drew.setCells g (0 + i * 9) (flat (L.drop (i + 1))) := ⟨_, rfl⟩
  have hW1' : W1 = w.drew.setRow g c1 := by
    rw [hW1, hc1, Nat.zero_add]
    exact setCells_row hb.drew (by rw [hd, hc]; omega) (fun u hu => flat_one hu)
  have hb1 : Blk W1 g 95 c1 := by rw [hW1']; exact hb.drew.row
  obtain ⟨c2, hc2⟩ : ∃ c2 : Array Value, c2 = (c1.toList.take ((L.length - 1) * 9) ++ (famCs Fam.zero).toList ++ c1.toList.drop ((L.length - 1) * 9 + 9)).toArray := ⟨_, rfl⟩
  have hc2l : c2.toList = c1.toList.take ((L.length - 1) * 9) ++ (famCs Fam.zero).toList ++ c1.toList.drop ((L.length - 1) * 9 + 9) := by rw [hc2]
  have hcr : ∀ ty c, (Builtin.clear_ #[81] ty #[.slice (some ⟨g, (L.length - 1) * 9, none⟩) 1 c]).run Tryz.prog W1 = .ok (.tuple #[]) (W1.setRow g c2) := fun ty c => by
    rw [hc2]
    exact run_clear_fam W1 ty g _ c c1 hb1 (by rw [← Array.length_toList, k1]; omega)
  rw [← hc2l] at k2 k3
  have hlen : (L.take i ++ L.drop (i + 1)).length = L.length - 1 := by simp; omega
  have HFIN := Lib.hid (show FRow (W1.setRow g c2) B (.slice (some ⟨g, 0, none⟩) (L.take i ++ L.drop (i + 1)).length cap) (L.take i ++ L.drop (i + 1)) ∧ w.grownBy (W1.setRow g c2) (some g) from by
    refine ⟨FRow.of_block hBg hb1.row (by omega) hm (by rw [← Array.length_toList]; exact k2) (by rw [hlen]; exact k3), ?_⟩
    rw [hW1']
    exact only_trans (only_trans (only_drew (only_refl w (some g))) (only_setRow w.drew g c1)) (only_setRow _ g c2))
  rw [hlen] at HFIN
  obtain ⟨A, hA, hsrc⟩ : ∃ A : Addr, (if cap = i + 1 then some (⟨g, 0, none⟩ : Addr) else some ⟨g, (i + 1) * 9, none⟩) = some A ∧ Hid (∀ t u, (flat (L.drop (i + 1)))[t]? = some u → w.drew.cell? (A.add t) = some u) := by
    by_cases hq : cap = i + 1
    · refine ⟨⟨g, 0, none⟩, by simp [hq], fun t u hu => ?_⟩
      have := (List.getElem?_eq_some_iff.1 hu).1
      omega
    · refine ⟨⟨g, (i + 1) * 9, none⟩, by simp [hq], fun t u hu => ?_⟩
      have hul := (List.getElem?_eq_some_iff.1 hu).1
      rw [Addr.add_lit]
      show w.cell? ⟨g, (i + 1) * 9 + t, none⟩ = some u
      rw [hb.cell, ← hu, flat_drop, List.getElem?_drop, ← ht, List.getElem?_take, if_pos (by omega), Array.getElem?_toList]
  have s1 : Hid ((flat (L.drop (i + 1))).length = (L.length - (i + 1)) * 9) := hd
  have s2 : Hid (∀ u ∈ flat (L.drop (i + 1)), u.oneCell' = true) := fun u hu => flat_one hu
  have s3 : Hid (∀ t, t < (flat (L.drop (i + 1))).length → (w.drew.cell? ⟨g, 0 + i * 9 + t, none⟩).isSome = true ∧ w.drew.frozen? ⟨g, 0 + i * 9 + t, none⟩ = false) := fun t htl => by
    rw [hd] at htl
    exact ⟨by show (w.cell? _).isSome = true; rw [hb.cell, Array.getElem?_eq_getElem (by omega)]; rfl, hb.frozen _⟩
  have HW := Lib.hid hW1
  have mixed : Tryz.prog.follows .mixedOrders = true := by kernel_rfl
  have hic : i ≤ cap := by omega
  have hjc : i + 1 ≤ cap := by omega
  have hjn : i + 1 ≤ L.length := by omega
  have hw1 : ((i : Int) + 1).toNat = i + 1 := by omega
  have hz1 : (0 : Int) ≤ (i : Int) + 1 := by omega
  have hz2 : (i : Int) ≤ (i : Int) + 1 := by omega
  have hz3 : ¬ ((i : Int) = (i : Int) + 1) := by omega
  have hz4 : (i : Int) + 1 ≤ (L.length : Int) := by omega
  have hsum : i + (L.length - (i + 1)) = L.length - 1 := by omega
  have hone : L.length - (L.length - 1) = 1 := by omega
  have hz5 : ¬ (cap = L.length - 1) := by omega
  clear k1 k2 k3 hd hcl ht hc1 hc1l hc2 hc2l hb1 hW1 hW1' hb hlen h
  go_enter Tryz.func114, Tryz.ntmps114
  go_wp2_with fail
  go_region_law_o (refine step_append_room rfl (.tmp 22) (.tmp 25) 81 rfl 95 i0 9 Tryz.underlying81 hi0 hzs g 0 i cap (by simp [Act.eval, Act.put]) A (L.length - (i + 1)) (cap - (i + 1)) (flat (L.drop (i + 1))) (by simp [Act.eval, Act.put]) s1.out hsrc.out s2.out (by omega) s3.out ?_; rw [← HW.out])
  go_wp2
  go_ret
  exact ⟨_, rfl, HFIN.out.1, HFIN.out.2⟩
end Go.Proofs.YtepjcdjpikbbjaaGreatDoor

/-
  event.Apply: a state behind an event.
-/
namespace Go.Proofs.YtepjcdjpikbbjaaGreatDoor
open Go.RowKit Go.Sort

/-- a state's value: its slice lies at v -/
def stCs (s : St) (v : Value) : Array Value := #[.int .i64 s.clock, .int .i64 s.next, v]
def stVal (s : St) (v : Value) : Value := .agg (stCs s v)
/-- event.Apply under way: its state's cells, its event, its slice -/
structure AP (W : World) (cs : Array Value) (e : Ev) (v : Value) (b vb : Nat) (L : List Fam) (w : World) : Prop where
  below : Below W.heap.size W w
  big : W.heap.size ≤ b
  vbig : W.heap.size ≤ vb
  st : Blk w b 83 cs
  ev : Blk w (b + 1) 116 (evCs e)
  re : Blk w (b + 1 + 1) 83 #[.int .i64 0, .int .i64 0, .slice none 0 0]
  var : Blk w vb 81 #[v]
  row : FRow w W.heap.size v L

theorem Blk.put_ {w : World} {g : Nat} {T : TypeId} {cs cs' : Array Value} (h : Blk w g T cs) (i : Nat) (u : Value) (he : cs.setIfInBounds i u = cs') : Blk (w.setCell ⟨g, i, none⟩ u) g T cs' := by
  have := h.set_ i u
  rwa [he] at this
theorem FRow.slice {w : World} {B : Nat} {v : Value} {L : List Fam} (h : FRow w B v L) : ∃ a c, v = .slice a L.length c := by
  rcases h.parts with ⟨rfl, rfl⟩ | ⟨g, cap, rfl, _⟩
  · exact ⟨_, _, rfl⟩
  · exact ⟨_, _, rfl⟩
theorem FRow.apart {w : World} {B g : Nat} {v : Value} {L : List Fam} {T : TypeId} {cs : Array Value} (h : FRow w B v L) (hb : Blk w g T cs) (hT : 95 ≠ T) : v.ownBlock ≠ some g := by
  rcases h.block with ⟨rfl, rfl⟩ | ⟨g', cap, cur, rfl, _, hb', _⟩
  · simp [Value.ownBlock]
  · have := hb'.ne_ hb hT
    simpa [Value.ownBlock] using this
theorem only_set1 (w : World) (g : Nat) (p : Addr) (hp : p.block = g) (u : Value) : w.grownBy (w.setCell p u) (some g) := only_setCell (only_refl w (some g)) (.inl hp) u

section
variable {W : World} {cs : Array Value} {e : Ev} {v : Value} {b vb : Nat} {L : List Fam} {w w' : World}
theorem AP.keep (h : AP W cs e v b vb L w) (hb : Below w.heap.size w w') : AP W cs e v b vb L w' :=
  ⟨h.below.trans (hb.mono h.below.size), h.big, h.vbig, h.st.below' hb, h.ev.below' hb, h.re.below' hb, h.var.below' hb, h.row.below hb⟩
theorem AP.nvb (h : AP W cs e v b vb L w) : vb ≠ b ∧ vb ≠ b + 1 ∧ vb ≠ b + 1 + 1 := ⟨h.var.ne_ h.st (by decide), h.var.ne_ h.ev (by decide), h.var.ne_ h.re (by decide)⟩
/-- a cell of the state is set -/
theorem AP.set (h : AP W cs e v b vb L w) (i : Nat) (u : Value) {cs' : Array Value} (hc : cs.setIfInBounds i u = cs') : AP W cs' e v b vb L (w.setCell ⟨b, i, none⟩ u) := by
  obtain ⟨n1, n2, n3⟩ := h.nvb
  refine ⟨h.below.setCell h.big u, h.big, h.vbig, ?_, h.ev.far (by show b + 1 ≠ b; omega) u, h.re.far (by show b + 1 + 1 ≠ b; omega) u, h.var.far n1 u, h.row.kept (only_set1 w b ⟨b, i, none⟩ rfl u) (h.row.apart h.st (by decide))⟩
  rw [← hc]
  exact h.st.set_ i u
/-- the slice goes on in place -/
theorem AP.inRow {g : Nat} {cur : Array Value} (h : AP W cs e v b vb L w) (hblk : Blk w g 95 cur) (hg : W.heap.size ≤ g) {cur' : Array Value} {v' : Value} {L' : List Fam} (hv : v' = v) (hr : FRow (w.setRow g cur') W.heap.size v' L') : AP W cs e v' b vb L' (w.setRow g cur') := by
  subst hv
  have n := only_setRow w g cur'
  have hne : ∀ {g' T cs}, Blk w g' T cs → 95 ≠ T → some g' ≠ some g := fun hb hT => by
    have := hblk.ne_ hb hT
    simpa using Ne.symm this
  exact ⟨h.below.grown n h.below.size (fun k hk => by cases hk; exact hg), h.big, h.vbig, h.st.grown n (hne h.st (by decide)), h.ev.grown n (hne h.ev (by decide)), h.re.grown n (hne h.re (by decide)), h.var.grown n (hne h.var (by decide)), hr⟩
theorem AP.mid (h : AP W cs e v b vb L w) (hg : w.grownBy w' v.ownBlock) : Below W.heap.size W w' ∧ Blk w' b 83 cs ∧ Blk w' (b + 1) 116 (evCs e) ∧ Blk w' (b + 1 + 1) 83 #[.int .i64 0, .int .i64 0, .slice none 0 0] ∧ Blk w' vb 81 #[v] :=
  ⟨h.below.grown hg h.below.size (fun k hk => (h.row.lt k hk).1), h.st.grown hg (Ne.symm (h.row.apart h.st (by decide))), h.ev.grown hg (Ne.symm (h.row.apart h.ev (by decide))), h.re.grown hg (Ne.symm (h.row.apart h.re (by decide))), h.var.grown hg (Ne.symm (h.row.apart h.var (by decide)))⟩
/-- a call that hands back the slice, which is stored -/
theorem AP.go (h : AP W cs e v b vb L w) (hg : w.grownBy w' v.ownBlock) {v' : Value} {L' : List Fam} (hr : FRow w' W.heap.size v' L') : AP W cs e v' b vb L' (w'.setCell ⟨vb, 0, none⟩ v') := by
  obtain ⟨n1, n2, n3⟩ := h.nvb
  obtain ⟨k1, k2, k3, k4, k5⟩ := h.mid hg
  exact ⟨k1.setCell h.vbig v', h.big, h.vbig, k2.far (Ne.symm n1) v', k3.far (Ne.symm n2) v', k4.far (Ne.symm n3) v', k5.set_ 0 v', hr.kept (only_set1 w' vb ⟨vb, 0, none⟩ rfl v') (hr.apart k5 (by decide))⟩
theorem st_cells {k0 k1 k2 : Value} {T T' T'' : TypeId} {z0 z1 z2 : Value} {vb : Nat} {v : Value} (st : Blk w b T #[k0, k1, k2]) (re : Blk w (b + 1 + 1) T' #[z0, z1, z2]) (var : Blk w vb T'' #[v]) : w.cell? ⟨b, 0, none⟩ = some k0 ∧ w.cell? ⟨b, 1, none⟩ = some k1 ∧ w.cell? ⟨b, 2, none⟩ = some k2 ∧ w.cell? ⟨vb, 0, none⟩ = some v ∧
    w.cell? ⟨b + 1 + 1, 0, none⟩ = some z0 ∧ w.cell? ⟨b + 1 + 1, 1, none⟩ = some z1 ∧ w.cell? ⟨b + 1 + 1, 2, none⟩ = some z2 ∧ (∀ j, w.frozen? ⟨b, j, none⟩ = false) ∧ (∀ j, w.frozen? ⟨b + 1 + 1, j, none⟩ = false) ∧ (∀ j, w.frozen? ⟨vb, j, none⟩ = false) :=
  ⟨st.cell 0, st.cell 1, st.cell 2, var.cell 0, re.cell 0, re.cell 1, re.cell 2, st.frozen, re.frozen, var.frozen⟩
theorem AP.cells {k0 k1 k2 : Value} (h : AP W #[k0, k1, k2] e v b vb L w) : w.cell? ⟨b, 0, none⟩ = some k0 ∧ w.cell? ⟨b, 1, none⟩ = some k1 ∧ w.cell? ⟨b, 2, none⟩ = some k2 ∧ w.cell? ⟨vb, 0, none⟩ = some v ∧
    w.cell? ⟨b + 1 + 1, 0, none⟩ = some (.int .i64 0) ∧ w.cell? ⟨b + 1 + 1, 1, none⟩ = some (.int .i64 0) ∧ w.cell? ⟨b + 1 + 1, 2, none⟩ = some (.slice none 0 0) ∧ (∀ j, w.frozen? ⟨b, j, none⟩ = false) ∧ (∀ j, w.frozen? ⟨b + 1 + 1, j, none⟩ = false) ∧ (∀ j, w.frozen? ⟨vb, j, none⟩ = false) := st_cells h.st h.re h.var
end
/-- what event.Apply gives -/
def ApplyGot (W : World) (s' : St) (x : Ending) (w' : World) : Prop := ∃ v', x = .returned (stVal s' v') ∧ FRow w' W.heap.size v' s'.fams ∧ Below W.heap.size W w'
theorem apply_end {W w : World} {A : Act} {s' : St} {e : Ev} {v v0 : Value} {b vb : Nat} {ck nx : Int} (h : AP W #[.int .i64 ck, .int .i64 nx, v0] e v b vb s'.fams w) (h1 : ck = s'.clock) (h2 : nx = s'.next)
    (hp : A.tmps.getD 4 undef = .pointer (some ⟨b + 1 + 1, 0, none⟩)) (hd : A.defers = []) :
    bodyPost Tryz.prog Tryz.f54 (ApplyGot W s') Exit.ret A ((((w.setCell ⟨b, 2, none⟩ v).setCell ⟨b + 1 + 1, 0, none⟩ (.int .i64 ck)).setCell ⟨b + 1 + 1, 1, none⟩ (.int .i64 nx)).setCell ⟨b + 1 + 1, 2, none⟩ v) := by
  subst h1
  subst h2
  have k := h.set 2 v rfl
  have h1 := k.re.put_ 0 (.int .i64 s'.clock) (cs' := #[.int .i64 s'.clock, .int .i64 0, .slice none 0 0]) rfl
  have h2 := h1.put_ 1 (.int .i64 s'.next) (cs' := #[.int .i64 s'.clock, .int .i64 s'.next, .slice none 0 0]) rfl
  have hr := h2.put_ 2 v (cs' := stCs s' v) rfl
  have g1 := only_set1 (w.setCell ⟨b, 2, none⟩ v) (b + 1 + 1) ⟨b + 1 + 1, 0, none⟩ rfl (.int .i64 s'.clock)
  have g2 := only_setCell g1 (p := ⟨b + 1 + 1, 1, none⟩) (.inl rfl) (.int .i64 s'.next)
  have hg := only_setCell g2 (p := ⟨b + 1 + 1, 2, none⟩) (.inl rfl) v
  have hbig := h.big
  have hb := k.below.grown hg k.below.size (fun j hj => by cases hj; omega)
  have hrow := k.row.kept hg (k.row.apart k.re (by decide))
  generalize ((((w.setCell ⟨b, 2, none⟩ v).setCell ⟨b + 1 + 1, 0, none⟩ (.int .i64 s'.clock)).setCell ⟨b + 1 + 1, 1, none⟩ (.int .i64 s'.next)).setCell ⟨b + 1 + 1, 2, none⟩ v) = wz at *
  exact bodyPost_ret (results_cell_row rfl A.tmps wz _ _ _ (0, 0) _ hp hr Tryz.underlying83 rfl (by kernel_rfl)) hd ⟨v, rfl, hrow, hb⟩

/-- the cells behind a store of one family -/
theorem set_cells {L : List Fam} {f : Fam} {xs : List Value} {k c : Nat} (hx : xs.length = c * 9) (ht : xs.take (L.length * 9) = flat L) (hk : k < L.length) (hc : L.length ≤ c) :
    let c1 := xs.take (k * 9) ++ (famCs f).toList ++ xs.drop (k * 9 + (famCs f).toList.length)
    c1.length = c * 9 ∧ c1.take (L.length * 9) = flat (L.set k f) := by
  intro c1
  have hf : (famCs f).toList.length = 9 := rfl
  refine ⟨?_, ?_⟩
  · show (xs.take (k * 9) ++ (famCs f).toList ++ xs.drop (k * 9 + (famCs f).toList.length)).length = _
    simp only [List.length_append, List.length_take, List.length_drop, hf, hx]
    omega
  · have e0 : xs = flat L ++ xs.drop (L.length * 9) := by rw [← ht, List.take_append_drop]
    have e1 : xs.take (k * 9) = flat (L.take k) := by rw [flat_take, ← ht, List.take_take]; congr 1; omega
    have e2 : xs.drop (k * 9 + 9) = flat (L.drop (k + 1)) ++ xs.drop (L.length * 9) := by
      conv => lhs; rw [e0]
      rw [List.drop_append_of_le_length (by rw [flat_len]; omega), flat_drop, show (k + 1) * 9 = k * 9 + 9 by omega]
    have hl : (flat (L.take k) ++ (famCs f).toList ++ flat (L.drop (k + 1))).length = L.length * 9 := by
      simp only [List.length_append, flat_len, hf, List.length_take, List.length_drop]
      omega
    show (xs.take (k * 9) ++ (famCs f).toList ++ xs.drop (k * 9 + (famCs f).toList.length)).take (L.length * 9) = _
    rw [hf, e1, e2, ← List.append_assoc, ← hl, List.take_left, set_parts hk, flat_app, flat_cons, List.append_assoc]
theorem AP.store {W : World} {cs : Array Value} {e : Ev} {b vb g cap k : Nat} {L : List Fam} {w : World} {cur : Array Value} (h : AP W cs e (.slice (some ⟨g, 0, none⟩) L.length cap) b vb L w) (hBg : W.heap.size ≤ g) (hblk : Blk w g 95 cur) (hlc : L.length ≤ cap) (hm : cap ≤ 9223372036854775807) (hc : cur.size = cap * 9) (ht : cur.toList.take (L.length * 9) = flat L) (hk : k < L.length) (f : Fam) :
    AP W cs e (.slice (some ⟨g, 0, none⟩) L.length cap) b vb (L.set k f) (w.setCells g (k * 9) (famCs f).toList) := by
  obtain ⟨k1, k2⟩ := set_cells (f := f) (by rw [Array.length_toList]; exact hc) ht hk hlc
  rw [setCells_row hblk (by show k * 9 + 9 ≤ _; omega) (fun u hu => flat_one (L := [f]) (by simpa [flat] using hu))]
  have hr := FRow.of_block (L := L.set k f) hBg (hblk.row (new := (cur.toList.take (k * 9) ++ (famCs f).toList ++ cur.toList.drop (k * 9 + (famCs f).toList.length)).toArray)) (by rw [List.length_set]; exact hlc) hm (by rw [← Array.length_toList]; exact k1) (by rw [List.length_set]; exact k2)
  rw [List.length_set] at hr
  exact h.inRow hblk hBg rfl hr
theorem there_blk {w : World} {g o n : Nat} {T : TypeId} {cur : Array Value} (h : Blk w g T cur) (hf : o + n ≤ cur.size) : w.there g o n := fun j hj =>
  ⟨by rw [h.cell, Array.getElem?_eq_getElem (by omega)]; rfl, h.frozen _⟩

def allocs (W : World) (s : St) (e : Ev) (v : Value) : World := ((W.alloc (.cells (stCs s v) 83)).alloc (.cells (evCs e) 116)).alloc (.cells #[.int .i64 0, .int .i64 0, .slice none 0 0] 83)
theorem allocs_size (W : World) (s : St) (e : Ev) (v : Value) : (allocs W s e v).heap.size = W.heap.size + 3 := by simp [allocs]
theorem allocs_below (W : World) (s : St) (e : Ev) (v : Value) : Below W.heap.size W (allocs W s e v) :=
  (((Below.refl W.heap.size W).alloc (Nat.le_refl _) _).alloc (by simp) _).alloc (by simp; omega) _
theorem AP.start {W w1 : World} {s : St} {e : Ev} {v v1 : Value} {L : List Fam} (hr : FRow w1 (allocs W s e v).heap.size v1 L) (hb : Below (allocs W s e v).heap.size (allocs W s e v) w1) : AP W (stCs s v) e v1 W.heap.size w1.heap.size L (w1.alloc (.cells #[v1] 81)) := by
  have a1 : Blk (allocs W s e v) W.heap.size 83 (stCs s v) := ((Blk.new W _ _).alloc _).alloc _
  have a2 : Blk (allocs W s e v) (W.heap.size + 1) 116 (evCs e) := by
    have := (Blk.new (W.alloc (.cells (stCs s v) 83)) 116 (evCs e)).alloc (.cells #[.int .i64 0, .int .i64 0, .slice none 0 0] 83)
    simpa [allocs] using this
  have a3 : Blk (allocs W s e v) (W.heap.size + 1 + 1) 83 #[.int .i64 0, .int .i64 0, .slice none 0 0] := by
    have := Blk.new ((W.alloc (.cells (stCs s v) 83)).alloc (.cells (evCs e) 116)) 83 #[.int .i64 0, .int .i64 0, .slice none 0 0]
    simpa [allocs] using this
  have hs := allocs_size W s e v
  have hz := hb.size
  exact ⟨((allocs_below W s e v).trans (hb.mono (by omega))).alloc (by omega) _, Nat.le_refl _, by omega, (a1.below' hb).alloc _, (a2.below' hb).alloc _, (a3.below' hb).alloc _, Blk.new w1 _ _, (hr.below ((Below.refl _ _).alloc (Nat.le_refl _) _)).mono (by omega)⟩

set_option maxHeartbeats 8000000 in
set_option maxRecDepth 100000 in
theorem apply_set (B : Nat) (v : Value) (s : St) (e : Ev) (W : World) (h : FRow W B v s.fams) (hok : StOk s) (hid : okN e.fam.id = true) (hk : e.kind = 1) (hh : hasB s.fams e.fam.id = true) :
    Calls Tryz.prog 54 #[stVal s v, evVal e] W (ApplyGot W (applyS s e)) := by
  have HA := Lib.hid (fun B vb v w (h : FRow w B v s.fams) hv => fam_at B vb v s.fams e.fam.id w h hv hok.len hok.asc hok.ids hid)
  rw [hh] at HA
  have hap : applyS s e = ⟨s.clock, max s.next (e.fam.id + 1), s.fams.set (ahead s.fams e.fam.id) e.fam⟩ := by unfold applyS putL; rw [if_pos hk, if_pos hh]
  have hlt := hasB_lt hh
  generalize applyS s e = s' at *
  have HS := Lib.hid hap
  clear hap hh
  have HC := Lib.hid (fun w (h : FRow w B v s.fams) => fam_clone B v s.fams w h hok.len)
  have H0 := Lib.hid h
  have HK := Lib.hid hok
  clear h hok
  obtain ⟨k, ⟨i, cl, su, sc, ge, ma, us, re, de⟩, id, ti⟩ := e
  obtain ⟨ck, nx, L⟩ := s
  dsimp only at *
  subst hk
  have hin := okN_iff.1 hid
  unfold stVal stCs evVal evCs
  dsimp only
  go_enter Tryz.func54, Tryz.ntmps54
  go_wp2_with fail
  refine (HC.out (allocs W ⟨ck, nx, L⟩ ⟨1, ⟨i, cl, su, sc, ge, ma, us, re, de⟩, id, ti⟩ v) (H0.out.below (allocs_below _ _ _ _))).mono ?_
  rintro e w1 ⟨v1, rfl, hr1, hb1⟩
  obtain ⟨sa, sn, rfl⟩ := hr1.slice
  have HP := Lib.hid (AP.start hr1 hb1)
  obtain ⟨c0, c1, c2, c3, c4, c5, c6, c7, c8, c9, c10, c11⟩ := ev_cells HP.out.ev
  obtain ⟨m0, m1, m2, mv, r0, r1, r2, z0, z1, z2⟩ := HP.out.cells
  clear hr1 hb1 HC H0
  go_wp2_with fail
  go_at_call 110
  refine (HA.out _ _ _ _ HP.out.row (HP.out.var.cell 0)).mono ?_
  rintro e w2 ⟨rfl, hb⟩
  have HP2 := Lib.hid (HP.out.keep hb)
  clear hb c0 c1 c2 c3 c4 c5 c6 c7 c8 c9 c10 c11 m0 m1 m2 mv r0 r1 r2 z0 z1 z2
  generalize w1.heap.size = vb at *
  rcases HP2.out.row.block with ⟨_, hnil⟩ | ⟨g, cap, cur, he, hBg, hblk, hlc, hm, hc, ht⟩
  · rw [hnil] at hlt
    simp at hlt
  simp only [Value.slice.injEq, true_and] at he
  obtain ⟨rfl, rfl⟩ := he
  generalize ahead L i = k at *
  have hth : w2.there g (k * 9) (#[.int .i64 i, .string cl, .string su, .string sc, .int .i64 ge, .int .i64 ma, .int .i64 us, .string re, .bool de] : Array Value).size := there_blk hblk (by show k * 9 + 9 ≤ _; omega)
  have HP3 := Lib.hid (HP2.out.store hBg hblk hlc hm hc ht hlt ⟨i, cl, su, sc, ge, ma, us, re, de⟩)
  obtain ⟨c0, c1, c2, c3, c4, c5, c6, c7, c8, c9, c10, c11⟩ := ev_cells HP2.out.ev
  have mv := HP2.out.var.cell 0
  generalize hw3 : w2.setCells g (k * 9) _ = w3 at HP3
  have HW3 := Lib.hid (show w2.setCells g (k * 9) (#[.int .i64 i, .string cl, .string su, .string sc, .int .i64 ge, .int .i64 ma, .int .i64 us, .string re, .bool de] : Array Value).toList = w3 from hw3)
  obtain ⟨p0, p1, p2, p3, p4, p5, p6, p7, p8, p9, p10, p11⟩ := ev_cells HP3.out.ev
  obtain ⟨q0, q1, q2, qv, r0, r1, r2, z0, z1, z2⟩ := HP3.out.cells
  clear hw3 hblk hc ht hlc hm hBg
  have hsi : (Tryz.prog.info? 95).map (·.size) = some (#[.int .i64 i, .string cl, .string su, .string sc, .int .i64 ge, .int .i64 ma, .int .i64 us, .string re, .bool de] : Array Value).size := famSize
  have hsh : (#[.int .i64 i, .string cl, .string su, .string sc, .int .i64 ge, .int .i64 ma, .int .i64 us, .string re, .bool de] : Array Value).all (·.oneCell') = true := by simp [Value.oneCell']
  go_wp2_with (with_reducible refine wpList_store_mid ?sg 95 (.tmp 32) (.tmp 31) ?so g (k * 9) #[.int .i64 i, .string cl, .string su, .string sc, .int .i64 ge, .int .i64 ma, .int .i64 us, .string re, .bool de] ?sx ?sy hth hsi hsh ?_; (case so => rfl); go_loud (case sg => rfl); go_loud (case sx => simp [Act.eval]); go_loud (case sy => simp [Act.eval]); go_loud (rw [HW3.out]); clear c0 c1 c2 c3 c4 c5 c6 c7 c8 c9 c10 c11 mv)
  obtain rfl := HS.out
  exact apply_end (HP3.out.set 1 (.int .i64 (max nx (i + 1))) rfl) rfl rfl rfl rfl

set_option maxHeartbeats 8000000 in
set_option maxRecDepth 100000 in
theorem apply_new (B : Nat) (v : Value) (s : St) (e : Ev) (W : World) (h : FRow W B v s.fams) (hok : StOk s) (hid : okN e.fam.id = true) (hk : e.kind = 1) (hh : hasB s.fams e.fam.id = false) :
    Calls Tryz.prog 54 #[stVal s v, evVal e] W (ApplyGot W (applyS s e)) := by
  have HA := Lib.hid (fun B vb v w (h : FRow w B v s.fams) hv => fam_at B vb v s.fams e.fam.id w h hv hok.len hok.asc hok.ids hid)
  rw [hh] at HA
  have hap : applyS s e = ⟨s.clock, max s.next (e.fam.id + 1), s.fams.take (ahead s.fams e.fam.id) ++ e.fam :: s.fams.drop (ahead s.fams e.fam.id)⟩ := by unfold applyS putL; rw [if_pos hk, if_neg (by rw [hh]; decide)]
  have hlt := ahead_le s.fams e.fam.id
  generalize applyS s e = s' at *
  have HS := Lib.hid hap
  clear hap hh
  have HC := Lib.hid (fun w (h : FRow w B v s.fams) => fam_clone B v s.fams w h hok.len)
  have H0 := Lib.hid h
  have HK := Lib.hid hok
  clear h hok
  obtain ⟨k, ⟨i, cl, su, sc, ge, ma, us, re, de⟩, id, ti⟩ := e
  obtain ⟨ck, nx, L⟩ := s
  dsimp only at *
  subst hk
  have hin := okN_iff.1 hid
  unfold stVal stCs evVal evCs
  dsimp only
  go_enter Tryz.func54, Tryz.ntmps54
  go_wp2_with fail
  refine (HC.out (allocs W ⟨ck, nx, L⟩ ⟨1, ⟨i, cl, su, sc, ge, ma, us, re, de⟩, id, ti⟩ v) (H0.out.below (allocs_below _ _ _ _))).mono ?_
  rintro e w1 ⟨v1, rfl, hr1, hb1⟩
  obtain ⟨sa, sn, rfl⟩ := hr1.slice
  have HP := Lib.hid (AP.start hr1 hb1)
  obtain ⟨c0, c1, c2, c3, c4, c5, c6, c7, c8, c9, c10, c11⟩ := ev_cells HP.out.ev
  obtain ⟨m0, m1, m2, mv, r0, r1, r2, z0, z1, z2⟩ := HP.out.cells
  clear hr1 hb1 HC H0
  go_wp2_with fail
  go_at_call 110
  refine (HA.out _ _ _ _ HP.out.row (HP.out.var.cell 0)).mono ?_
  rintro e w2 ⟨rfl, hb⟩
  have HP2 := Lib.hid (HP.out.keep hb)
  clear hb c0 c1 c2 c3 c4 c5 c6 c7 c8 c9 c10 c11 m0 m1 m2 mv r0 r1 r2 z0 z1 z2
  generalize w1.heap.size = vb at *
  generalize ahead L i = k at *
  obtain ⟨c0, c1, c2, c3, c4, c5, c6, c7, c8, c9, c10, c11⟩ := ev_cells HP2.out.ev
  obtain ⟨m0, m1, m2, mv, r0, r1, r2, z0, z1, z2⟩ := HP2.out.cells
  go_wp2_with fail
  go_at_call 113
  refine (fam_insert W.heap.size w2.heap.size k _ L ⟨i, cl, su, sc, ge, ma, us, re, de⟩ _ (HP2.out.row.below ((Below.refl _ _).alloc (Nat.le_refl _) _)) hlt HK.out.len (by have := HP2.out.below.size; simp; omega) (Blk.new w2 _ _) (fun hx => by have := (HP2.out.row.lt _ hx).2; omega)).mono ?_
  rintro e w3 ⟨v3, rfl, hr3, hb3⟩
  have hpa := HP2.out.keep ((Below.refl _ _).alloc (Nat.le_refl _) (.cells (famCs ⟨i, cl, su, sc, ge, ma, us, re, de⟩) 95))
  have HP3 := Lib.hid (hpa.go hb3 hr3)
  have HM := Lib.hid (hpa.mid hb3)
  clear c0 c1 c2 c3 c4 c5 c6 c7 c8 c9 c10 c11 m0 m1 m2 mv r0 r1 r2 z0 z1 z2
  obtain ⟨c0, c1, c2, c3, c4, c5, c6, c7, c8, c9, c10, c11⟩ := ev_cells HM.out.2.2.1
  obtain ⟨m0, m1, m2, mv, r0, r1, r2, z0, z1, z2⟩ := st_cells HM.out.2.1 HM.out.2.2.2.1 HM.out.2.2.2.2
  obtain ⟨n1, n2, n3⟩ := HP2.out.nvb
  obtain ⟨sb, sl, sm, rfl⟩ : ∃ a n c, v3 = .slice a n c := by obtain ⟨a, c, hx⟩ := hr3.slice; exact ⟨_, _, _, hx⟩
  clear hpa hb3 hr3
  go_wp2_with fail
  obtain rfl := HS.out
  exact apply_end (HP3.out.set 1 (.int .i64 (max nx (i + 1))) rfl) rfl rfl rfl rfl

set_option maxHeartbeats 8000000 in
set_option maxRecDepth 100000 in
theorem apply_drop (B : Nat) (v : Value) (s : St) (e : Ev) (W : World) (h : FRow W B v s.fams) (hok : StOk s) (hid : okN e.id = true) (hk : e.kind = 2) (hh : hasB s.fams e.id = true) :
    Calls Tryz.prog 54 #[stVal s v, evVal e] W (ApplyGot W (applyS s e)) := by
  have HA := Lib.hid (fun B vb v w (h : FRow w B v s.fams) hv => fam_at B vb v s.fams e.id w h hv hok.len hok.asc hok.ids hid)
  rw [hh] at HA
  have hap : applyS s e = ⟨s.clock, s.next, s.fams.take (ahead s.fams e.id) ++ s.fams.drop (ahead s.fams e.id + 1)⟩ := by unfold applyS dropL; rw [if_neg (by omega), if_pos hk, if_pos hh]
  have hlt := hasB_lt hh
  have hlen := hok.len
  have hk1 : ¬ e.kind = 1 := by omega
  generalize applyS s e = s' at *
  have HS := Lib.hid hap
  clear hap hh
  have HC := Lib.hid (fun w (h : FRow w B v s.fams) => fam_clone B v s.fams w h hok.len)
  have H0 := Lib.hid h
  have HK := Lib.hid hok
  clear h hok
  obtain ⟨k, ⟨i, cl, su, sc, ge, ma, us, re, de⟩, id, ti⟩ := e
  obtain ⟨ck, nx, L⟩ := s
  dsimp only at *
  subst hk
  have hin := okN_iff.1 hid
  unfold stVal stCs evVal evCs
  dsimp only
  go_enter Tryz.func54, Tryz.ntmps54
  go_wp2_with fail
  refine (HC.out (allocs W ⟨ck, nx, L⟩ ⟨2, ⟨i, cl, su, sc, ge, ma, us, re, de⟩, id, ti⟩ v) (H0.out.below (allocs_below _ _ _ _))).mono ?_
  rintro e w1 ⟨v1, rfl, hr1, hb1⟩
  obtain ⟨sa, sn, rfl⟩ := hr1.slice
  have HP := Lib.hid (AP.start hr1 hb1)
  obtain ⟨c0, c1, c2, c3, c4, c5, c6, c7, c8, c9, c10, c11⟩ := ev_cells HP.out.ev
  obtain ⟨m0, m1, m2, mv, r0, r1, r2, z0, z1, z2⟩ := HP.out.cells
  clear hr1 hb1 HC H0
  go_wp2_with fail
  go_at_call 110
  refine (HA.out _ _ _ _ HP.out.row (HP.out.var.cell 0)).mono ?_
  rintro e w2 ⟨rfl, hb⟩
  have HP2 := Lib.hid (HP.out.keep hb)
  clear hb c0 c1 c2 c3 c4 c5 c6 c7 c8 c9 c10 c11 m0 m1 m2 mv r0 r1 r2 z0 z1 z2
  generalize w1.heap.size = vb at *
  generalize ahead L id = k at *
  obtain ⟨c0, c1, c2, c3, c4, c5, c6, c7, c8, c9, c10, c11⟩ := ev_cells HP2.out.ev
  obtain ⟨m0, m1, m2, mv, r0, r1, r2, z0, z1, z2⟩ := HP2.out.cells
  have hkw : wrap64 ((k : Int) + 1) = (k : Int) + 1 := IntWalk.wrap64_in _ (by omega)
  go_wp2_with fail
  go_at_call 114
  refine (fam_delete W.heap.size k _ L _ HP2.out.row hlt HK.out.len).mono ?_
  rintro e w3 ⟨v3, rfl, hr3, hb3⟩
  have HP3 := Lib.hid (HP2.out.go hb3 hr3)
  have HM := Lib.hid (HP2.out.mid hb3)
  clear c0 c1 c2 c3 c4 c5 c6 c7 c8 c9 c10 c11 m0 m1 m2 mv r0 r1 r2 z0 z1 z2
  obtain ⟨c0, c1, c2, c3, c4, c5, c6, c7, c8, c9, c10, c11⟩ := ev_cells HM.out.2.2.1
  obtain ⟨m0, m1, m2, mv, r0, r1, r2, z0, z1, z2⟩ := st_cells HM.out.2.1 HM.out.2.2.2.1 HM.out.2.2.2.2
  obtain ⟨n1, n2, n3⟩ := HP2.out.nvb
  obtain ⟨sb, sl, sm, rfl⟩ : ∃ a n c, v3 = .slice a n c := by obtain ⟨a, c, hx⟩ := hr3.slice; exact ⟨_, _, _, hx⟩
  clear hb3 hr3
  go_wp2_with fail
  obtain rfl := HS.out
  exact apply_end HP3.out rfl rfl rfl rfl

set_option maxHeartbeats 8000000 in
set_option maxRecDepth 100000 in
theorem apply_none (B : Nat) (v : Value) (s : St) (e : Ev) (W : World) (h : FRow W B v s.fams) (hok : StOk s) (hid : okN e.id = true) (hk : e.kind = 2) (hh : hasB s.fams e.id = false) :
    Calls Tryz.prog 54 #[stVal s v, evVal e] W (ApplyGot W (applyS s e)) := by
  have HA := Lib.hid (fun B vb v w (h : FRow w B v s.fams) hv => fam_at B vb v s.fams e.id w h hv hok.len hok.asc hok.ids hid)
  rw [hh] at HA
  have hap : applyS s e = s := by unfold applyS dropL; rw [if_neg (by omega), if_pos hk, if_neg (by rw [hh]; decide)]
  have hlt := ahead_le s.fams e.id
  have hlen := hok.len
  have hk1 : ¬ e.kind = 1 := by omega
  generalize applyS s e = s' at *
  have HS := Lib.hid hap
  clear hap hh
  have HC := Lib.hid (fun w (h : FRow w B v s.fams) => fam_clone B v s.fams w h hok.len)
  have H0 := Lib.hid h
  have HK := Lib.hid hok
  clear h hok
  obtain ⟨k, ⟨i, cl, su, sc, ge, ma, us, re, de⟩, id, ti⟩ := e
  obtain ⟨ck, nx, L⟩ := s
  dsimp only at *
  subst hk
  have hin := okN_iff.1 hid
  unfold stVal stCs evVal evCs
  dsimp only
  go_enter Tryz.func54, Tryz.ntmps54
  go_wp2_with fail
  refine (HC.out (allocs W ⟨ck, nx, L⟩ ⟨2, ⟨i, cl, su, sc, ge, ma, us, re, de⟩, id, ti⟩ v) (H0.out.below (allocs_below _ _ _ _))).mono ?_
  rintro e w1 ⟨v1, rfl, hr1, hb1⟩
  obtain ⟨sa, sn, rfl⟩ := hr1.slice
  have HP := Lib.hid (AP.start hr1 hb1)
  obtain ⟨c0, c1, c2, c3, c4, c5, c6, c7, c8, c9, c10, c11⟩ := ev_cells HP.out.ev
  obtain ⟨m0, m1, m2, mv, r0, r1, r2, z0, z1, z2⟩ := HP.out.cells
  clear hr1 hb1 HC H0
  go_wp2_with fail
  go_at_call 110
  refine (HA.out _ _ _ _ HP.out.row (HP.out.var.cell 0)).mono ?_
  rintro e w2 ⟨rfl, hb⟩
  have HP2 := Lib.hid (HP.out.keep hb)
  clear hb c0 c1 c2 c3 c4 c5 c6 c7 c8 c9 c10 c11 m0 m1 m2 mv r0 r1 r2 z0 z1 z2
  generalize w1.heap.size = vb at *
  obtain ⟨c0, c1, c2, c3, c4, c5, c6, c7, c8, c9, c10, c11⟩ := ev_cells HP2.out.ev
  obtain ⟨m0, m1, m2, mv, r0, r1, r2, z0, z1, z2⟩ := HP2.out.cells
  go_wp2_with fail
  obtain rfl := HS.out
  exact apply_end HP2.out rfl rfl rfl rfl

set_option maxHeartbeats 8000000 in
set_option maxRecDepth 100000 in
theorem apply_clock (B : Nat) (v : Value) (s : St) (e : Ev) (W : World) (h : FRow W B v s.fams) (hok : StOk s) (hk : e.kind = 3) :
    Calls Tryz.prog 54 #[stVal s v, evVal e] W (ApplyGot W (applyS s e)) := by
  have hap : applyS s e = ⟨e.time, s.next, s.fams⟩ := by unfold applyS; rw [if_neg (by omega), if_neg (by omega), if_pos hk]
  generalize applyS s e = s' at *
  have HS := Lib.hid hap
  have hid : okN 0 = true := by decide
  clear hap
  have HC := Lib.hid (fun w (h : FRow w B v s.fams) => fam_clone B v s.fams w h hok.len)
  have H0 := Lib.hid h
  have HK := Lib.hid hok
  clear h hok
  obtain ⟨k, ⟨i, cl, su, sc, ge, ma, us, re, de⟩, id, ti⟩ := e
  obtain ⟨ck, nx, L⟩ := s
  dsimp only at *
  subst hk
  have hin := okN_iff.1 hid
  unfold stVal stCs evVal evCs
  dsimp only
  go_enter Tryz.func54, Tryz.ntmps54
  go_wp2_with fail
  refine (HC.out (allocs W ⟨ck, nx, L⟩ ⟨3, ⟨i, cl, su, sc, ge, ma, us, re, de⟩, id, ti⟩ v) (H0.out.below (allocs_below _ _ _ _))).mono ?_
  rintro e w1 ⟨v1, rfl, hr1, hb1⟩
  obtain ⟨sa, sn, rfl⟩ := hr1.slice
  have HP := Lib.hid (AP.start hr1 hb1)
  obtain ⟨c0, c1, c2, c3, c4, c5, c6, c7, c8, c9, c10, c11⟩ := ev_cells HP.out.ev
  obtain ⟨m0, m1, m2, mv, r0, r1, r2, z0, z1, z2⟩ := HP.out.cells
  obtain ⟨n1, n2, n3⟩ := HP.out.nvb
  clear hr1 hb1 HC H0
  go_wp2_with fail
  obtain rfl := HS.out
  exact apply_end (HP.out.set 0 (.int .i64 ti) rfl) rfl rfl rfl rfl

set_option maxHeartbeats 8000000 in
set_option maxRecDepth 100000 in
theorem apply_other (B : Nat) (v : Value) (s : St) (e : Ev) (W : World) (h : FRow W B v s.fams) (hok : StOk s) (hk1 : ¬ e.kind = 1) (hk2 : ¬ e.kind = 2) (hk3 : ¬ e.kind = 3) :
    Calls Tryz.prog 54 #[stVal s v, evVal e] W (ApplyGot W (applyS s e)) := by
  have hap : applyS s e = s := by unfold applyS; rw [if_neg hk1, if_neg hk2, if_neg hk3]
  generalize applyS s e = s' at *
  have HS := Lib.hid hap
  have hid : okN 0 = true := by decide
  clear hap
  have HC := Lib.hid (fun w (h : FRow w B v s.fams) => fam_clone B v s.fams w h hok.len)
  have H0 := Lib.hid h
  have HK := Lib.hid hok
  clear h hok
  obtain ⟨k, ⟨i, cl, su, sc, ge, ma, us, re, de⟩, id, ti⟩ := e
  obtain ⟨ck, nx, L⟩ := s
  dsimp only at *
  have hx := hk1
  have hin := okN_iff.1 hid
  unfold stVal stCs evVal evCs
  dsimp only
  go_enter Tryz.func54, Tryz.ntmps54
  go_wp2_with fail
  refine (HC.out (allocs W ⟨ck, nx, L⟩ ⟨k, ⟨i, cl, su, sc, ge, ma, us, re, de⟩, id, ti⟩ v) (H0.out.below (allocs_below _ _ _ _))).mono ?_
  rintro e w1 ⟨v1, rfl, hr1, hb1⟩
  obtain ⟨sa, sn, rfl⟩ := hr1.slice
  have HP := Lib.hid (AP.start hr1 hb1)
  obtain ⟨c0, c1, c2, c3, c4, c5, c6, c7, c8, c9, c10, c11⟩ := ev_cells HP.out.ev
  obtain ⟨m0, m1, m2, mv, r0, r1, r2, z0, z1, z2⟩ := HP.out.cells
  clear hr1 hb1 HC H0
  go_wp2_with fail
  obtain rfl := HS.out
  exact apply_end HP.out rfl rfl rfl rfl

/-- event.Apply -/
theorem ev_apply (B : Nat) (v : Value) (s : St) (e : Ev) (W : World) (h : FRow W B v s.fams) (hok : StOk s) (h1 : e.kind = 1 → okN e.fam.id = true) (h2 : e.kind = 2 → okN e.id = true) :
    Calls Tryz.prog 54 #[stVal s v, evVal e] W (ApplyGot W (applyS s e)) := by
  by_cases hk1 : e.kind = 1
  · cases hh : hasB s.fams e.fam.id with
    | true => exact apply_set B v s e W h hok (h1 hk1) hk1 hh
    | false => exact apply_new B v s e W h hok (h1 hk1) hk1 hh
  · by_cases hk2 : e.kind = 2
    · cases hh : hasB s.fams e.id with
      | true => exact apply_drop B v s e W h hok (h2 hk2) hk2 hh
      | false => exact apply_none B v s e W h hok (h2 hk2) hk2 hh
    · by_cases hk3 : e.kind = 3
      · exact apply_clock B v s e W h hok hk3
      · exact apply_other B v s e W h hok hk1 hk2 hk3
theorem okN_one {e : Ev} (he : evB e = true) : e.kind = 1 → okN e.fam.id = true := fun hk => by
  rcases evB_kind he with ⟨_, _, _, hf⟩ | ⟨h1, _⟩ | ⟨h1, _⟩
  · exact (famB_parts hf).1
  · omega
  · omega
theorem okN_two {e : Ev} (he : evB e = true) : e.kind = 2 → okN e.id = true := fun hk => by
  rcases evB_kind he with ⟨h1, _⟩ | ⟨_, _, _, h2⟩ | ⟨h1, _⟩
  · omega
  · exact h2
  · omega
/-- what Apply gives, told apart -/
def GotAs (w0 : World) (ck nx : Int) (L : List Fam) (x : Ending) (w' : World) : Prop := ∃ a c, x = .returned (.agg #[.int .i64 ck, .int .i64 nx, .slice a L.length c]) ∧ FRow w' w0.heap.size (.slice a L.length c) L ∧ Below w0.heap.size w0 w'
theorem got_as {w0 : World} {s' : St} {x : Ending} {w' : World} (h : ApplyGot w0 s' x w') : GotAs w0 s'.clock s'.next s'.fams x w' := by
  obtain ⟨v, rfl, hr, hb⟩ := h
  obtain ⟨a, c, rfl⟩ := hr.slice
  exact ⟨a, c, rfl, hr, hb⟩
end Go.Proofs.YtepjcdjpikbbjaaGreatDoor

/-
  plain.Same: are two states the same? It says so of the same ones.
-/
namespace Go.Proofs.YtepjcdjpikbbjaaGreatDoor
open Go.RowKit Go.Sort

theorem FRow.lit {w : World} {B n c : Nat} {a : Option Addr} {L : List Fam} (h : FRow w B (.slice a n c) L) {k : Nat} (hk : k < L.length) : ∃ g, a = some ⟨g, 0, none⟩ ∧ n = L.length ∧ FRow w B (.slice (some ⟨g, 0, none⟩) L.length c) L := by
  rcases h.parts with ⟨e, rfl⟩ | ⟨g, cap, e, _⟩
  · simp at hk
  · simp only [Value.slice.injEq] at e
    obtain ⟨rfl, rfl, rfl⟩ := e
    exact ⟨g, rfl, rfl, h⟩

end Go.Proofs.YtepjcdjpikbbjaaGreatDoor
