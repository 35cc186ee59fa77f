/-
  slices.Insert of one family.
-/
import Derived.Test.YtdogilbnbbeljaaGreatDoorH12
import Derived.Shelf.Spec.SlicesInsertGrow
import Derived.Laws.CopyRow
namespace Go.Proofs.YtdogilbnbbeljaaGreatDoor
open Go.RowKit Go.Sort

theorem FRow.block {w : World} {B : Nat} {v : Value} {L : List Fam} (h : FRow w B v L) : (v = .slice none 0 0 ∧ L = []) ∨ ∃ g cap cur, v = .slice (some ⟨g, 0, none⟩) L.length cap ∧ B ≤ g ∧ Blk w g 40 cur ∧ L.length ≤ cap ∧ cap ≤ 9223372036854775807 ∧ cur.size = cap * 9 ∧ cur.toList.take (L.length * 9) = flat L := by
  rcases h.2 with ⟨rfl, h0⟩ | ⟨g, cap, cur, rfl, hB, hb, hn, hm, hc, ht⟩
  · exact .inl ⟨rfl, List.eq_nil_of_length_eq_zero h0⟩
  · exact .inr ⟨g, cap, cur, rfl, hB, hb, hn, by unfold maxLen at hm; exact hm, hc, ht⟩
theorem FRow.of_block {w : World} {B g cap : Nat} {cur : Array Value} {L : List Fam} (hB : B ≤ g) (hb : Blk w g 40 cur) (hn : L.length ≤ cap) (hm : cap ≤ 9223372036854775807) (hc : cur.size = cap * 9) (ht : cur.toList.take (L.length * 9) = flat L) : FRow w B (.slice (some ⟨g, 0, none⟩) L.length cap) L :=
  ⟨flat_len L, .inr ⟨g, cap, cur, rfl, hB, hb, hn, by unfold maxLen; exact hm, hc, ht⟩⟩

set_option maxHeartbeats 2000000 in
set_option maxRecDepth 100000 in
/-- slices.Insert at the end -/
theorem fam_insert_end (B vb : Nat) (v : Value) (L : List Fam) (f : Fam) (w : World) (h : FRow w B v L) (hL : L.length ≤ 1000000) (hB : B ≤ w.heap.size) (hv : Blk w vb 40 (famCs f)) :
    Calls Tryz.prog 41 #[v, .int .i64 L.length, .slice (some ⟨vb, 0, none⟩) 1 1] w fun e w' => ∃ v', e = .returned v' ∧ FRow w' B v' (L ++ [f]) ∧ w.grownBy w' v.ownBlock := by
  obtain ⟨i0, hii, hz0, hz1, hz2⟩ := info_parts famInfo
  have hnews : ∀ j u, (famCs f).toList[j]? = some u → w.cell? ((⟨vb, 0, none⟩ : Addr).add j) = some u := by
    intro j u hj
    rw [Addr.add_lit, Nat.zero_add, hv.cell j]
    rwa [Array.getElem?_toList] at hj
  have HN := Lib.hid hnews
  have HO := Lib.hid h
  have hone : ∀ u ∈ (famCs f).toList, u.oneCell' = true := fun u hu => flat_one (L := [f]) (by simpa [flat] using hu)
  have HON := Lib.hid hone
  clear hnews hv hone
  rcases h.parts with ⟨rfl, rfl⟩ | ⟨g, cap, rfl, h1, h2, h3, h4, _⟩
  all_goals
    clear h
    go_enter Tryz.func41, Tryz.ntmps41
    go_wp2_with
      (at_builtin; refine wpList_append_own _ rfl _ _ 34 rfl B 40 i0 (.agg (famCs Fam.zero)) 9 104 Tryz.underlying34 hii hz0 hz1 hz2 rfl (by decide) _ _ _ rfl HO.out ⟨vb, 0, none⟩ 1 1 (famCs f).toList rfl rfl HN.out HON.out (by unfold maxLen; omega) (by omega) hB ?_; intro v' w3 hown hgrow hnil
       have HO3 := Lib.hid hown
       have HG := Lib.hid hgrow
       clear hown hgrow hnil)
  all_goals
    go_ret
    refine ⟨_, rfl, ?_, HG.out⟩
    have := HO3.out
    first
      | (unfold FRow
         rw [flat_app, List.length_append]
         simpa [flat] using this)
      | simpa [FRow, flat] using this

theorem famSize : (Tryz.prog.info? 40).map (·.size) = some 9 := by kernel_rfl
/-- copy, of families: all is read before anything is written -/
theorem run_copy_fam (w : World) (ty : TypeId) (g o dLen dCap : Nat) (a : Addr) (sLen sCap m : Nat) (cur : Array Value) (cs : List Value) (hg : Blk w g 40 cur) (hm : Nat.min sLen dLen = m) (hl : cs.length = m * 9)
    (hsrc : ∀ j v, cs[j]? = some v → w.cell? (a.add j) = some v) (hfit : o + cs.length ≤ cur.size) (h1 : ∀ v ∈ cs, v.oneCell' = true) :
    (Builtin.copy_ #[34, 34] ty #[.slice (some ⟨g, o, none⟩) dLen dCap, .slice (some a) sLen sCap]).run Tryz.prog w =
      .ok (goInt m) (w.setRow g (cur.toList.take o ++ cs ++ cur.toList.drop (o + cs.length)).toArray) := by
  have hld := run_loadCells_list (P := Tryz.prog) w a cs hsrc
  rw [hl] at hld
  have hst := run_storeCells_at Tryz.prog g o _ cs 0 cur w hg (by simpa using hfit) h1
  obtain ⟨i, hq, hi⟩ : ∃ i, Tryz.prog.info? 40 = some i ∧ i.size = 9 := by
    have h := famSize
    cases hq : Tryz.prog.info? 40 with
    | none => rw [hq] at h; cases h
    | some i => rw [hq] at h; exact ⟨i, rfl, by simpa using h⟩
  simp [Builtin.copy_, run_underlying Tryz.underlying34, Builtin.lenOf, Builtin.firstCells, sizeOf, typeInfo, hq, hi, hm, hld, hst]
theorem Blk.row {w : World} {g : Nat} {T : TypeId} {cur new : Array Value} (h : Blk w g T cur) : Blk (w.setRow g new) g T new := setRow_heap w g cur new _ _ h
theorem only_setRow (w : World) (g : Nat) (new : Array Value) : w.grownBy (w.setRow g new) (some g) :=
  ⟨rfl, rfl, rfl, by simp, fun i _ hne => setRow_other w g i new (by intro e; exact hne (by rw [e]))⟩
theorem drew_setRow (w : World) (g : Nat) (new : Array Value) : (w.setRow g new).drew = w.drew.setRow g new := rfl
theorem shape_blk {w : World} {g : Nat} {T : TypeId} {cur : Array Value} (h : Blk w g T cur) : w.shape? g = some (T, cur.size) := by
  unfold Blk at h
  simp [World.shape?, h]
theorem size_fam (w : World) : (Go.sizeOf 40).run Tryz.prog w = .ok 9 w := by kernel_rfl

/-- the cells behind an insertion in place -/
theorem ins_cells {L : List Fam} {f : Fam} {xs : List Value} {i c : Nat} (hx : xs.length = c * 9) (ht : xs.take (L.length * 9) = flat L) (hi : i ≤ L.length) (hc : L.length + 1 ≤ c) :
    let c1 := xs.take ((i + 1) * 9) ++ flat (L.drop i) ++ xs.drop ((i + 1) * 9 + (flat (L.drop i)).length)
    let c2 := c1.take (i * 9) ++ (famCs f).toList ++ c1.drop (i * 9 + (famCs f).toList.length)
    c1.length = c * 9 ∧ c2.length = c * 9 ∧ c2.take ((L.length + 1) * 9) = flat (L.take i ++ f :: L.drop i) := by
  intro c1 c2
  have hd : (flat (L.drop i)).length = (L.length - i) * 9 := by rw [flat_len, List.length_drop]
  have hf : (famCs f).toList.length = 9 := rfl
  have h1 : c1.length = c * 9 := by
    show (xs.take ((i + 1) * 9) ++ flat (L.drop i) ++ xs.drop ((i + 1) * 9 + (flat (L.drop i)).length)).length = _
    simp only [List.length_append, List.length_take, List.length_drop, hd, hx]
    omega
  have ht1 : c1.take (i * 9) = flat (L.take i) := by
    show (xs.take ((i + 1) * 9) ++ flat (L.drop i) ++ xs.drop ((i + 1) * 9 + (flat (L.drop i)).length)).take (i * 9) = _
    rw [List.append_assoc, List.take_append_of_le_length (by rw [List.length_take, hx]; omega), List.take_take, flat_take, ← ht, List.take_take]
    congr 1
    omega
  have hd1 : c1.drop (i * 9 + 9) = flat (L.drop i) ++ xs.drop ((L.length + 1) * 9) := by
    show (xs.take ((i + 1) * 9) ++ flat (L.drop i) ++ xs.drop ((i + 1) * 9 + (flat (L.drop i)).length)).drop (i * 9 + 9) = _
    have hl : (xs.take ((i + 1) * 9)).length = i * 9 + 9 := by rw [List.length_take, hx]; omega
    rw [List.append_assoc, ← hl, List.drop_left, hd]
    congr 2
    omega
  have hc2 : c2 = flat (L.take i) ++ (famCs f).toList ++ (flat (L.drop i) ++ xs.drop ((L.length + 1) * 9)) := by
    show c1.take (i * 9) ++ (famCs f).toList ++ c1.drop (i * 9 + (famCs f).toList.length) = _
    rw [ht1, hf, hd1]
  refine ⟨h1, ?_, ?_⟩
  · rw [hc2]
    simp only [List.length_append, List.length_drop, hd, hx, hf, flat_len, List.length_take]
    omega
  · have e : flat (L.take i ++ f :: L.drop i) = flat (L.take i) ++ (famCs f).toList ++ flat (L.drop i) := by
      rw [flat_app, flat_cons, List.append_assoc]
    rw [hc2, e, ← List.append_assoc, List.take_append_of_le_length (by simp only [List.length_append, hd, hf, flat_len, List.length_take]; omega), List.take_of_length_le (by simp only [List.length_append, hd, hf, flat_len, List.length_take]; omega)]

set_option maxHeartbeats 8000000 in
set_option maxRecDepth 100000 in
/-- slices.Insert ahead of the end, where there is room -/
theorem fam_insert_room (B g cap vb i : Nat) (cur : Array Value) (L : List Fam) (f : Fam) (w : World) (hi : i < L.length) (hb : Blk w g 40 cur) (hcap : L.length + 1 ≤ cap) (hm : cap ≤ 9223372036854775807) (hc : cur.size = cap * 9)
    (ht : cur.toList.take (L.length * 9) = flat L) (hBg : B ≤ g) (hL : L.length ≤ 1000000) (hv : Blk w vb 40 (famCs f)) (hne : vb ≠ g) :
    Calls Tryz.prog 41 #[.slice (some ⟨g, 0, none⟩) L.length cap, .int .i64 i, .slice (some ⟨vb, 0, none⟩) 1 1] w fun e w' => ∃ v', e = .returned v' ∧ FRow w' B v' (L.take i ++ f :: L.drop i) ∧ w.grownBy w' (some g) := by
  have hcl : cur.toList.length = cap * 9 := by rw [Array.length_toList]; exact hc
  obtain ⟨k1, k2, k3⟩ := ins_cells (f := f) hcl ht (Nat.le_of_lt hi) hcap
  have hd : (flat (L.drop i)).length = (L.length - i) * 9 := by rw [flat_len, List.length_drop]
  have hov : ∀ o lb cb, (callFunc 63 #[.slice (some ⟨vb, 0, none⟩) 1 1, .slice (some ⟨g, o, none⟩) lb cb]).run Tryz.prog w = .ok (.value (.bool false)) w := fun o lb cb => by
    rw [run_callFunc_extern Tryz.func63 (by kernel_rfl) (by kernel_rfl) (by kernel_rfl) (e := Extern.SlicesOverlaps.overlaps #[34, 34] #[4]) (by kernel_rfl),
      Lib.run_overlaps_apart w 34 4 40 Tryz.underlying34 9 size_fam ⟨vb, 0, none⟩ ⟨g, o, none⟩ 1 1 lb cb hne _ _ _ _ (shape_blk hv) (shape_blk hb) (by rw [hc]; omega) (hv.frozen 0) (hv.frozen _)]
    rfl
  have hsrc1 : ∀ j v, (flat (L.drop i))[j]? = some v → w.drew.cell? ((⟨g, i * 9, none⟩ : Addr).add j) = some v := by
    intro j v hj
    have hjl := (List.getElem?_eq_some_iff.1 hj).1
    rw [Addr.add_lit]
    show w.cell? ⟨g, i * 9 + j, none⟩ = some v
    rw [hb.cell, ← hj, flat_drop, List.getElem?_drop, ← ht, List.getElem?_take, if_pos (by omega), Array.getElem?_toList]
  obtain ⟨c1, hc1⟩ : ∃ c1 : Array Value, c1 = (cur.toList.take ((i + 1) * 9) ++ flat (L.drop i) ++ cur.toList.drop ((i + 1) * 9 + (flat (L.drop i)).length)).toArray := ⟨_, rfl⟩
  have hc1l : c1.toList = cur.toList.take ((i + 1) * 9) ++ flat (L.drop i) ++ cur.toList.drop ((i + 1) * 9 + (flat (L.drop i)).length) := by rw [hc1]
  have hcp1 : ∀ ty, (Builtin.copy_ #[34, 34] ty #[.slice (some ⟨g, (i + 1) * 9, none⟩) (L.length - i) (cap - (i + 1)), .slice (some ⟨g, i * 9, none⟩) (L.length + 1 - i) (cap - i)]).run Tryz.prog w.drew = .ok (goInt (L.length - i : Nat)) (w.drew.setRow g c1) := fun ty => by
    rw [hc1]
    exact run_copy_fam w.drew ty g _ _ _ _ _ _ (L.length - i) cur _ hb.drew (by simp only [Nat.min_def]; split <;> omega) hd hsrc1 (by rw [hd, hc]; omega) (fun v hv => flat_one hv)
  have hb1' : Blk (w.drew.setRow g c1) g 40 c1 := hb.drew.row
  obtain ⟨W1, hW1⟩ : ∃ W1, W1 = w.drew.setRow g c1 := ⟨_, rfl⟩
  rw [← hW1] at hcp1 hb1'
  have hvW : Blk W1 vb 40 (famCs f) := by rw [hW1]; exact hv.drew.grown (only_setRow _ _ _) (by simpa using hne)
  have hsrc2 : ∀ j v, (famCs f).toList[j]? = some v → W1.cell? ((⟨vb, 0, none⟩ : Addr).add j) = some v := by
    intro j v hj
    rw [Addr.add_lit, Nat.zero_add, hvW.cell, ← Array.getElem?_toList, hj]
  obtain ⟨c2, hc2⟩ : ∃ c2 : Array Value, c2 = (c1.toList.take (i * 9) ++ (famCs f).toList ++ c1.toList.drop (i * 9 + (famCs f).toList.length)).toArray := ⟨_, rfl⟩
  have hc1s : c1.size = cap * 9 := by rw [← Array.length_toList, hc1l]; exact k1
  have hcp2 : ∀ ty dc, (Builtin.copy_ #[34, 34] ty #[.slice (some ⟨g, i * 9, none⟩) (L.length + 1 - i) dc, .slice (some ⟨vb, 0, none⟩) 1 1]).run Tryz.prog W1 = .ok (goInt (1 : Nat)) (W1.setRow g c2) := fun ty dc => by
    rw [hc2]
    exact run_copy_fam W1 ty g _ _ _ _ _ _ 1 c1 _ hb1' (by simp only [Nat.min_def]; split <;> omega) rfl hsrc2 (by rw [hc1s]; show i * 9 + 9 ≤ _; omega) (fun v hv => flat_one (L := [f]) (by simpa [flat] using hv))
  have HFIN := Lib.hid (show FRow (W1.setRow g c2) B (.slice (some ⟨g, 0, none⟩) (L.take i ++ f :: L.drop i).length cap) (L.take i ++ f :: L.drop i) ∧ w.grownBy (W1.setRow g c2) (some g) from by
    have hlen : (L.take i ++ f :: L.drop i).length = L.length + 1 := by simp; omega
    have hc2l : c2.toList = (c1.toList.take (i * 9) ++ (famCs f).toList ++ c1.toList.drop (i * 9 + (famCs f).toList.length)) := by rw [hc2]
    rw [hc1l] at hc2l
    refine ⟨FRow.of_block hBg hb1'.row (by omega) hm ?_ ?_, ?_⟩
    · rw [← Array.length_toList, hc2l]; exact k2
    · rw [hlen, hc2l]; exact k3
    · rw [hW1]
      exact only_trans (only_trans (only_drew (only_refl w (some g))) (only_setRow w.drew g c1)) (only_setRow _ g c2))
  have hlen : (L.take i ++ f :: L.drop i).length = L.length + 1 := by simp; omega
  rw [hlen] at HFIN
  have hw1 : IntKind.i64.wrap ((i : Int) + 1) = (i : Int) + 1 := by rw [IntKind.wrap_i64]; omega
  have hz1 : (0 : Int) ≤ (i : Int) + 1 := by omega
  have htn : ((i : Int) + 1).toNat = i + 1 := by omega
  have hz2 : ¬ (cap = i + 1) := by omega
  have hz3 : (i : Int) ≤ (L.length : Int) + 1 := by omega
  have hz4 : ¬ (cap = i) := by omega
  have hin : i ≤ L.length := by omega
  have mixed : Tryz.prog.follows .mixedOrders = true := by kernel_rfl
  have HW1 := Lib.hid hW1
  clear k1 k2 k3 hd hcl ht hsrc1 hsrc2 hc1 hc1l hc1s hc2 hvW hb1' hW1 hb hv hlen
  go_enter Tryz.func41, Tryz.ntmps41
  go_wp2_with (simp only [hov])
  go_region_law_o (refine step_copy_runI rfl _ _ 34 34 rfl _ _ (by simp [Act.eval, Act.put]) (by simp [Act.eval, Act.put]) (hcp1 _) ?_)
  go_wp2_with (at_builtin; refine wpList_copy_runI _ rfl _ _ 34 34 rfl _ _ rfl rfl (hcp2 _ _) ?_)
  go_ret
  exact ⟨_, rfl, HFIN.out.1, HFIN.out.2⟩
end Go.Proofs.YtdogilbnbbeljaaGreatDoor

/-
  slices.Insert of one family ahead of the end, where there is no room; and at all.
-/
namespace Go.Proofs.YtdogilbnbbeljaaGreatDoor
open Go.RowKit Go.Sort

theorem zeros_size (k : Nat) : (Builtin.zeroCells (Value.agg (famCs Fam.zero)).cells k).size = k * 9 := by
  simp [Builtin.zeroCells, Value.cells, famCs]
/-- the cells behind an insertion in a new row -/
theorem grow_cells {L : List Fam} {f : Fam} {zs : List Value} {i G : Nat} (hz : zs.length = (G - i) * 9) (hi : i ≤ L.length) (hG : L.length + 1 ≤ G) :
    let r0 := flat (L.take i) ++ zs
    let r1 := r0.take (i * 9) ++ (famCs f).toList ++ r0.drop (i * 9 + (famCs f).toList.length)
    let r2 := r1.take ((i + 1) * 9) ++ flat (L.drop i) ++ r1.drop ((i + 1) * 9 + (flat (L.drop i)).length)
    r0.length = G * 9 ∧ r1.length = G * 9 ∧ r2.length = G * 9 ∧ r2.take ((L.length + 1) * 9) = flat (L.take i ++ f :: L.drop i) := by
  intro r0 r1 r2
  have hd : (flat (L.drop i)).length = (L.length - i) * 9 := by rw [flat_len, List.length_drop]
  have ht : (flat (L.take i)).length = i * 9 := by rw [flat_len, List.length_take]; congr 1; omega
  have hf : (famCs f).toList.length = 9 := rfl
  have h0 : r0.length = G * 9 := by
    show (flat (L.take i) ++ zs).length = _
    rw [List.length_append, ht, hz]
    omega
  have e1 : r1 = flat (L.take i) ++ (famCs f).toList ++ r0.drop (i * 9 + 9) := by
    show r0.take (i * 9) ++ (famCs f).toList ++ r0.drop (i * 9 + (famCs f).toList.length) = _
    rw [hf]
    congr 2
    show (flat (L.take i) ++ zs).take (i * 9) = _
    rw [← ht, List.take_left]
  have h1 : r1.length = G * 9 := by
    rw [e1, List.length_append, List.length_append, List.length_drop, ht, hf, h0]
    omega
  have e2 : r1.take ((i + 1) * 9) = flat (L.take i) ++ (famCs f).toList := by
    have hl : (flat (L.take i) ++ (famCs f).toList).length = (i + 1) * 9 := by rw [List.length_append, ht, hf]; omega
    rw [e1, ← hl, List.take_left]
  have e3 : r2 = flat (L.take i) ++ (famCs f).toList ++ flat (L.drop i) ++ r1.drop ((i + 1) * 9 + (flat (L.drop i)).length) := by
    show r1.take ((i + 1) * 9) ++ flat (L.drop i) ++ r1.drop ((i + 1) * 9 + (flat (L.drop i)).length) = _
    rw [e2]
  refine ⟨h0, h1, ?_, ?_⟩
  · rw [e3]
    simp only [List.length_append, List.length_drop, ht, hf, hd, h1]
    omega
  · have e : flat (L.take i ++ f :: L.drop i) = flat (L.take i) ++ (famCs f).toList ++ flat (L.drop i) := by
      rw [flat_app, flat_cons, List.append_assoc]
    have hl : (flat (L.take i) ++ (famCs f).toList ++ flat (L.drop i)).length = (L.length + 1) * 9 := by
      simp only [List.length_append, ht, hf, hd]; omega
    rw [e3, e, ← hl, List.take_left]

set_option maxHeartbeats 8000000 in
set_option maxRecDepth 100000 in
theorem fam_insert_grow (B g cap vb i : Nat) (cur : Array Value) (L : List Fam) (f : Fam) (w : World) (hi : i < L.length) (hb : Blk w g 40 cur) (hcap : cap < L.length + 1) (hlc : L.length ≤ cap) (hm : cap ≤ 9223372036854775807)
    (ht : cur.toList.take (L.length * 9) = flat L) (hL : L.length ≤ 1000000) (hv : Blk w vb 40 (famCs f)) (hBw : B ≤ w.heap.size) :
    Calls Tryz.prog 41 #[.slice (some ⟨g, 0, none⟩) L.length cap, .int .i64 i, .slice (some ⟨vb, 0, none⟩) 1 1] w fun e w' => ∃ v', e = .returned v' ∧ FRow w' B v' (L.take i ++ f :: L.drop i) ∧ w.grownBy w' (some g) := by
  obtain ⟨i0, hi0, hz0, hzs, hzb⟩ := info_parts famInfo
  have hgw := hb.lt
  have hvw := hv.lt
  have hd : (flat (L.drop i)).length = (L.length - i) * 9 := by rw [flat_len, List.length_drop]
  have htl : (flat (L.take i)).length = i * 9 := by rw [flat_len, List.length_take]; congr 1; omega
  have hkk : (L.length : Int) + 1 - (i : Int) = ((L.length + 1 - i : Nat) : Int) := by omega
  have hik : i + (L.length + 1 - i) = L.length + 1 := by omega
  have hcell : ∀ j u, (flat L)[j]? = some u → w.cell? ⟨g, j, none⟩ = some u := by
    intro j u hj
    rw [hb.cell, ← hj, ← ht, List.getElem?_take, if_pos (by have := (List.getElem?_eq_some_iff.1 hj).1; rw [flat_len] at this; exact this), Array.getElem?_toList]
  have hold : (Builtin.firstCells i0.size i (.slice (some ⟨g, 0, none⟩) i cap)).run Tryz.prog w.drew = .ok (flat (L.take i)).toArray w.drew := by
    rw [hzs]
    exact run_firstCells_some w.drew 9 i ⟨g, 0, none⟩ i cap (flat (L.take i)) htl (fun j u hj => by
      rw [Addr.add_lit, Nat.zero_add]
      show w.cell? ⟨g, j, none⟩ = some u
      rw [flat_take, List.getElem?_take] at hj
      split at hj
      · exact hcell j u hj
      · cases hj)
  obtain ⟨G, hG⟩ : ∃ G, G = grownCap w (L.length + 1) cap 40 := ⟨_, rfl⟩
  obtain ⟨ROW, hROW⟩ : ∃ ROW : Array Value, ROW = (flat (L.take i)).toArray ++ Builtin.zeroCells (Value.agg (famCs Fam.zero)).cells (L.length + 1 - i) ++ Builtin.zeroCells (Value.agg (famCs Fam.zero)).cells (G - (L.length + 1)) := ⟨_, rfl⟩
  have hrz : ∀ ty, (Builtin.append_ #[34, 3] ty #[.slice (some ⟨g, 0, none⟩) i cap, .int .i64 ((L.length : Int) + 1 - (i : Int))]).run Tryz.prog w =
      .ok (.slice (some ⟨w.heap.size, 0, none⟩) (L.length + 1) G) (w.drew.alloc (.cells ROW 40)) := fun ty => by
    have h := Lib.run_append_grow_zeros w 34 3 ty 40 i0 _ .i64 .i64 Tryz.underlying34 Tryz.underlying3 hi0 hz0 (some ⟨g, 0, none⟩) i cap (flat (L.take i)) hold (L.length + 1 - i) (by omega) (by omega) (by omega) (by omega) (by rw [hzb]; omega) (by rw [hzb, hik]; exact growslice_fits hcap (by omega))
    rw [hik, ← hG] at h
    rw [hkk, hROW]
    exact h
  have hGn : L.length + 1 ≤ G := by rw [hG]; exact grownCap_ge w _ _ _
  have hG63 : G ≤ 9223372036854775807 := by
    have := grownCap_le_maxLen w (L.length + 1) cap 40 (by unfold maxLen; omega)
    rw [← hG] at this
    unfold maxLen at this
    omega
  obtain ⟨zs, hzs1, hzs2⟩ : ∃ zs : List Value, ROW.toList = flat (L.take i) ++ zs ∧ zs.length = (G - i) * 9 :=
    ⟨(Builtin.zeroCells (Value.agg (famCs Fam.zero)).cells (L.length + 1 - i)).toList ++ (Builtin.zeroCells (Value.agg (famCs Fam.zero)).cells (G - (L.length + 1))).toList, by rw [hROW]; simp, by
      simp only [List.length_append, Array.length_toList, zeros_size]; omega⟩
  obtain ⟨q0, q1, q2, q3⟩ := grow_cells (f := f) hzs2 (Nat.le_of_lt hi) hGn
  rw [← hzs1] at q0 q1 q2 q3
  obtain ⟨R1, hR1⟩ : ∃ R1 : Array Value, R1 = (ROW.toList.take (i * 9) ++ (famCs f).toList ++ ROW.toList.drop (i * 9 + (famCs f).toList.length)).toArray := ⟨_, rfl⟩
  have hR1l : R1.toList = ROW.toList.take (i * 9) ++ (famCs f).toList ++ ROW.toList.drop (i * 9 + (famCs f).toList.length) := by rw [hR1]
  rw [← hR1l] at q1 q2 q3
  obtain ⟨R2, hR2⟩ : ∃ R2 : Array Value, R2 = (R1.toList.take ((i + 1) * 9) ++ flat (L.drop i) ++ R1.toList.drop ((i + 1) * 9 + (flat (L.drop i)).length)).toArray := ⟨_, rfl⟩
  have hR2l : R2.toList = R1.toList.take ((i + 1) * 9) ++ flat (L.drop i) ++ R1.toList.drop ((i + 1) * 9 + (flat (L.drop i)).length) := by rw [hR2]
  rw [← hR2l] at q2 q3
  have hcpA : ∀ W, Blk W w.heap.size 40 ROW → Blk W vb 40 (famCs f) → ∀ ty dc, (Builtin.copy_ #[34, 34] ty #[.slice (some ⟨w.heap.size, i * 9, none⟩) (L.length + 1 - i) dc, .slice (some ⟨vb, 0, none⟩) 1 1]).run Tryz.prog W = .ok (goInt (1 : Nat)) (W.setRow w.heap.size R1) := fun W h1 h2 ty dc => by
    rw [hR1]
    exact run_copy_fam W ty w.heap.size _ _ _ _ _ _ 1 ROW _ h1 (by simp only [Nat.min_def]; split <;> omega) rfl (fun j u hj => by rw [Addr.add_lit, Nat.zero_add, h2.cell, ← Array.getElem?_toList, hj]) (by rw [← Array.length_toList, q0]; show i * 9 + 9 ≤ _; omega) (fun v hv => flat_one (L := [f]) (by simpa [flat] using hv))
  have hcpB : ∀ W, Blk W w.heap.size 40 R1 → Blk W g 40 cur → ∀ ty, (Builtin.copy_ #[34, 34] ty #[.slice (some ⟨w.heap.size, (i + 1) * 9, none⟩) (L.length - i) (G - (i + 1)), .slice (some ⟨g, i * 9, none⟩) (L.length - i) (cap - i)]).run Tryz.prog W = .ok (goInt (L.length - i : Nat)) (W.setRow w.heap.size R2) := fun W h1 h2 ty => by
    rw [hR2]
    exact run_copy_fam W ty w.heap.size _ _ _ _ _ _ (L.length - i) R1 _ h1 (by simp only [Nat.min_def]; split <;> omega) hd (fun j u hj => by
      rw [Addr.add_lit, h2.cell]
      have hjl := (List.getElem?_eq_some_iff.1 hj).1
      rw [← hj, flat_drop, List.getElem?_drop, ← ht, List.getElem?_take, if_pos (by omega), Array.getElem?_toList]) (by rw [← Array.length_toList, q1, hd]; omega) (fun v hv => flat_one hv)
  have hlen : (L.take i ++ f :: L.drop i).length = L.length + 1 := by simp; omega
  have hR2s : R2.size = G * 9 := by rw [← Array.length_toList]; exact q2
  have HFIN := Lib.hid (fun (W : World) (h1 : Blk W w.heap.size 40 R2) => (FRow.of_block hBw h1 (by omega) hG63 hR2s (by rw [hlen]; exact q3) : FRow W B (.slice (some ⟨w.heap.size, 0, none⟩) (L.take i ++ f :: L.drop i).length G) (L.take i ++ f :: L.drop i)))
  rw [hlen] at HFIN
  have hcA := fun ty dc => hcpA ((w.alloc (.cells ROW 40)).drew) (Blk.new w _ _).drew (hv.alloc _).drew ty dc
  obtain ⟨W1, hW1⟩ : ∃ W1, W1 = (w.alloc (.cells ROW 40)).drew.setRow w.heap.size R1 := ⟨_, rfl⟩
  rw [← hW1] at hcA
  have hb1 : Blk W1 w.heap.size 40 R1 := by rw [hW1]; exact (Blk.new w _ _).drew.row
  have hg1 : Blk W1 g 40 cur := by rw [hW1]; exact (hb.alloc _).drew.grown (only_setRow _ _ _) (by simp; omega)
  have hl1 : Below w.heap.size w W1 := by
    rw [hW1]
    have b1 : Below w.heap.size w (w.alloc (.cells ROW 40)).drew := below_drewN ((Below.refl w.heap.size w).alloc (Nat.le_refl _) _) 1
    exact b1.grown (only_setRow _ _ _) (by simp) (fun j hj => by cases hj; exact Nat.le_refl _)
  have hcB := fun ty => hcpB W1.drew hb1.drew hg1.drew ty
  have HEND := Lib.hid (show FRow (W1.drew.setRow w.heap.size R2) B (.slice (some ⟨w.heap.size, 0, none⟩) (L.length + 1) G) (L.take i ++ f :: L.drop i) ∧ w.grownBy (W1.drew.setRow w.heap.size R2) (some g) from
    ⟨HFIN.out _ hb1.drew.row, only_of_below ((below_drewN hl1 1).grown (only_setRow _ _ _) (by have := hl1.size; simp; omega) (fun j hj => by cases hj; exact Nat.le_refl _)) _⟩)
  have HW1 := Lib.hid hW1
  have hGi : ¬ (G = i) := by omega
  have hGim : ¬ (G = i + 1) := by omega
  have hci : ¬ (cap = i) := by omega
  have hw1 : IntKind.i64.wrap ((i : Int) + 1) = (i : Int) + 1 := by rw [IntKind.wrap_i64]; omega
  have hz1 : (0 : Int) ≤ (i : Int) + 1 := by omega
  have htn : ((i : Int) + 1).toNat = i + 1 := by omega
  have hin : i ≤ L.length := by omega
  have hz3 : (cap : Int) < (L.length : Int) + 1 := by omega
  have hz2 : ¬ ((i : Int) = (L.length : Int)) := by omega
  have mixed : Tryz.prog.follows .mixedOrders = true := by kernel_rfl
  clear HFIN hW1 hb1 hg1 hl1 hR2s hcpA hcpB hv hb q0 q1 q2 q3 hR1 hR1l hR2 hR2l hzs1 hzs2 hROW hG hold hcell htl hkk hik ht hd hlen
  go_enter Tryz.func41, Tryz.ntmps41
  go_wp2_with
    (first
    | (at_builtin; refine Lib.wpList_append_run _ rfl _ _ _ _ rfl _ _ rfl rfl _ _ (hrz _) ?_)
    | (at_builtin; refine wpList_copy_runI _ rfl _ _ 34 34 rfl _ _ rfl rfl (hcA _ _) ?_))
  go_region_law_o (refine step_copy_runI rfl _ _ 34 34 rfl _ _ (by simp [Act.eval, Act.put]) (by simp [Act.eval, Act.put]) (hcB _) ?_)
  go_wp2
  go_ret
  exact ⟨_, rfl, HEND.out.1, HEND.out.2⟩
theorem fam_insert (B vb k : Nat) (v : Value) (L : List Fam) (f : Fam) (w : World) (h : FRow w B v L) (hk : k ≤ L.length) (hL : L.length ≤ 1000000) (hB : B ≤ w.heap.size) (hv : Blk w vb 40 (famCs f)) (hne : v.ownBlock ≠ some vb) :
    Calls Tryz.prog 41 #[v, .int .i64 k, .slice (some ⟨vb, 0, none⟩) 1 1] w fun e w' => ∃ v', e = .returned v' ∧ FRow w' B v' (L.take k ++ f :: L.drop k) ∧ w.grownBy w' v.ownBlock := by
  by_cases he : k = L.length
  · subst he
    rw [List.take_length, List.drop_length]
    exact fam_insert_end B vb v L f w h hL hB hv
  · rcases h.block with ⟨rfl, rfl⟩ | ⟨g, cap, cur, rfl, h1, h2, h3, h4, h5, h6⟩
    · simp at hk he
      exact absurd hk he
    · by_cases hc : L.length + 1 ≤ cap
      · exact fam_insert_room B g cap vb k cur L f w (by omega) h2 hc h4 h5 h6 h1 hL hv (by rintro rfl; exact hne rfl)
      · exact fam_insert_grow B g cap vb k cur L f w (by omega) h2 (by omega) h3 h4 h6 hL hv hB
end Go.Proofs.YtdogilbnbbeljaaGreatDoor
