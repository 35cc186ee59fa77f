/-
  slices.BinarySearchFunc of families, by number.
-/
import Derived.Test.YtckohmhhcknmaaaGreatDoorP09
import Derived.Shelf.Spec.SlicesInsertGrow
import Derived.Laws.CopyRow
import Derived.Shelf.Slices.Delete
namespace Go.Proofs.YtckohmhhcknmaaaGreatDoor
open Go.RowKit Go.Sort

theorem fam_cmp (f : Fam) (n : Int) (hf : okN f.id = true) (hn : okN n = true) (w : World) :
    Calls Tryz.prog 104 #[famVal f, .int .i64 n] w fun e w' => e = .returned (.int .i64 (f.id - n)) ∧ Below w.heap.size w w' := by
  have h1 := okN_iff.1 hf
  have h2 := okN_iff.1 hn
  obtain ⟨i, cl, su, sc, ge, ma, us, re, de⟩ := f
  dsimp only at h1
  unfold famVal famCs
  dsimp only
  go_enter Tryz.func104, Tryz.ntmps104
  go_wp2_with fail
  go_ret
  exact ⟨rfl, (Below.refl _ _).alloc (Nat.le_refl _) _⟩

/-- one family's nine cells -/
theorem FRow.nine {w : World} {B g cap : Nat} {L : List Fam} (h : FRow w B (.slice (some ⟨g, 0, none⟩) L.length cap) L) {k : Nat} {i : Int} {cl su sc : ByteArray} {ge ma us : Int} {re : ByteArray} {de : Bool} (hk : L[k]? = some ⟨i, cl, su, sc, ge, ma, us, re, de⟩) :
    w.cell? ⟨g, k * 9, none⟩ = some (.int .i64 i) ∧ w.cell? ⟨g, k * 9 + 1, none⟩ = some (.string cl) ∧ w.cell? ⟨g, k * 9 + 2, none⟩ = some (.string su) ∧ w.cell? ⟨g, k * 9 + 3, none⟩ = some (.string sc) ∧ w.cell? ⟨g, k * 9 + 4, none⟩ = some (.int .i64 ge) ∧
    w.cell? ⟨g, k * 9 + 5, none⟩ = some (.int .i64 ma) ∧ w.cell? ⟨g, k * 9 + 6, none⟩ = some (.int .i64 us) ∧ w.cell? ⟨g, k * 9 + 7, none⟩ = some (.string re) ∧ w.cell? ⟨g, k * 9 + 8, none⟩ = some (.bool de) :=
  ⟨h.at_ hk 0 (by decide), h.at_ hk 1 (by decide), h.at_ hk 2 (by decide), h.at_ hk 3 (by decide), h.at_ hk 4 (by decide), h.at_ hk 5 (by decide), h.at_ hk 6 (by decide), h.at_ hk 7 (by decide), h.at_ hk 8 (by decide)⟩
/-- the search's two bounds -/
structure FD (W : World) (B : Nat) (v : Value) (L : List Fam) (n : Int) (a b : Nat) (w : World) : Prop where
  below : Below W.heap.size W w
  row : FRow w B v L
  le : a ≤ b
  top : b ≤ L.length
  low : ∀ j f, j < a → L[j]? = some f → f.id < n
  high : ∀ j f, b ≤ j → L[j]? = some f → n ≤ f.id
def FindRel (W : World) (B : Nat) (v : Value) (L : List Fam) (n : Int) (i j : Value) (wr : World) : Prop := ∃ a b : Nat, i = .int .i64 a ∧ j = .int .i64 b ∧ FD W B v L n a b wr

set_option maxHeartbeats 4000000 in
set_option maxRecDepth 100000 in
theorem fam_find_some (B g cap : Nat) (L : List Fam) (n : Int) (W : World) (h : FRow W B (.slice (some ⟨g, 0, none⟩) L.length cap) L) (hL : L.length ≤ 1000000) (hA : Asc L) (hids : ∀ f ∈ L, okN f.id = true) (hn : okN n = true) :
    Calls Tryz.prog 103 #[.slice (some ⟨g, 0, none⟩) L.length cap, .int .i64 n, .func (.func 104) #[] #[]] W
      fun e w' => e = .returned (.tuple #[.int .i64 (ahead L n), .bool (hasB L n)]) ∧ Below W.heap.size W w' := by
  have H0 := Lib.hid h
  have HI := Lib.hid hids
  have HA := Lib.hid hA
  clear h hids hA
  go_enter Tryz.func103, Tryz.ntmps103
  go_wp2
  go_loopw [9, 10] (fun i j wr => FindRel W B (.slice (some ⟨g, 0, none⟩) L.length cap) L n i j wr) (fun i j _ => (intOf j).toNat - (intOf i).toNat)
  case atStart => exact ⟨0, L.length, rfl, rfl, Below.refl _ _, H0.out, Nat.zero_le _, Nat.le_refl _, fun j f hj => absurd hj (Nat.not_lt_zero _), fun j f hj hf => by rw [List.getElem?_eq_none hj] at hf; cases hf⟩
  case round =>
    obtain ⟨a, b, rfl, rfl, hd⟩ := hrel
    have HD := Lib.hid hd
    have hab := hd.le
    have htop := hd.top
    clear hd
    by_cases hlt : a < b
    · obtain ⟨k, hk1, hk2, hk3, hk4⟩ : ∃ k : Nat, ((a : Int) + (b : Int)) / 2 = (k : Int) ∧ (a + b) / 2 = k ∧ a ≤ k ∧ k < b := ⟨(a + b) / 2, by omega, rfl, by omega, by omega⟩
      have hkL : k < L.length := by omega
      obtain ⟨f, hf⟩ : ∃ f, L[k]? = some f := ⟨_, List.getElem?_eq_getElem hkL⟩
      have hfo := HI.out f (List.mem_of_getElem? hf)
      have HC := Lib.hid (fun w => fam_cmp f n hfo hn w)
      have hfr := okN_iff.1 hfo
      have hnr := okN_iff.1 hn
      have hsh : ∀ j f', j < k + 1 → L[j]? = some f' → f'.id ≤ f.id := by
        intro j f' hj hf'
        rcases Nat.lt_or_ge j k with hjk | hjk
        · have := List.pairwise_iff_getElem.1 HA.out j k (by omega) hkL hjk
          rw [List.getElem?_eq_getElem (by omega)] at hf' hf
          cases hf'
          cases hf
          omega
        · obtain rfl : j = k := by omega
          rw [hf] at hf'
          cases hf'
          exact Int.le_refl _
      have hsl : ∀ j f', k ≤ j → L[j]? = some f' → f.id ≤ f'.id := by
        intro j f' hj hf'
        rcases Nat.lt_or_ge k j with hjk | hjk
        · have hjl := (List.getElem?_eq_some_iff.1 hf').1
          have := List.pairwise_iff_getElem.1 HA.out k j hkL hjl hjk
          rw [List.getElem?_eq_getElem (by omega)] at hf' hf
          cases hf'
          cases hf
          omega
        · obtain rfl : j = k := by omega
          rw [hf] at hf'
          cases hf'
          exact Int.le_refl _
      have HSH := Lib.hid hsh
      have HSL := Lib.hid hsl
      obtain ⟨i, cl, su, sc, ge, ma, us, re, de⟩ := f
      obtain ⟨c0, c1, c2, c3, c4, c5, c6, c7, c8⟩ := HD.out.row.nine hf
      have HF := Lib.hid hf
      unfold famVal famCs at HC
      dsimp only at HC hfr hfo
      clear hf hsh hsl hfo
      by_cases hc : i < n
      all_goals
        go_wp2_with fail
        go_at_call 104
        refine (HC.out _).mono ?_
        rintro e w1 ⟨rfl, hb⟩
        have HB := Lib.hid hb
        clear hb c0 c1 c2 c3 c4 c5 c6 c7 c8
        go_wp2_with fail
      · go_roundw
        case rel => exact ⟨k + 1, b, by go_num, rfl, below_2 HD.out.below HB.out, HD.out.row.below HB.out, by omega, HD.out.top, fun j f' hj hf' => by have := HSH.out j f' hj hf'; omega, HD.out.high⟩
        case measure => simp [intOf]; omega
      · go_roundw
        case rel => exact ⟨a, k, rfl, rfl, below_2 HD.out.below HB.out, HD.out.row.below HB.out, hk3, by omega, HD.out.low, fun j f' hj hf' => by have := HSL.out j f' hj hf'; omega⟩
        case measure => simp [intOf]; omega
    · obtain rfl : a = b := by omega
      have HE := Lib.hid (ahead_eq HA.out HD.out.top HD.out.low HD.out.high)
      by_cases haL : a < L.length
      · obtain ⟨f, hf⟩ : ∃ f, L[a]? = some f := ⟨_, List.getElem?_eq_getElem haL⟩
        have hfo := HI.out f (List.mem_of_getElem? hf)
        have HC := Lib.hid (fun w => fam_cmp f n hfo hn w)
        have HHB := Lib.hid (hasB_some (L := L) (n := n) (f := f) (by rw [HE.out]; exact hf))
        obtain ⟨i, cl, su, sc, ge, ma, us, re, de⟩ := f
        obtain ⟨c0, c1, c2, c3, c4, c5, c6, c7, c8⟩ := HD.out.row.nine hf
        have hz : (i - n == 0) = decide (i = n) := by rw [Bool.eq_iff_iff]; simp; omega
        unfold famVal famCs at HC
        dsimp only at HC HHB
        generalize decide (i = n) = bq at *
        clear hf hfo
        go_wp2_with fail
        go_at_call 104
        refine (HC.out _).mono ?_
        rintro e w1 ⟨rfl, hb⟩
        have HB := Lib.hid hb
        clear hb c0 c1 c2 c3 c4 c5 c6 c7 c8
        go_wp2_with fail
        go_ret2
        exact ⟨by rw [HE.out, HHB.out]; rfl, below_2 HD.out.below HB.out⟩
      · have HHB := Lib.hid (hasB_none (L := L) (n := n) (by rw [HE.out]; omega))
        go_wp2_with fail
        go_ret2
        exact ⟨by rw [HE.out, HHB.out]; rfl, HD.out.below⟩
set_option maxHeartbeats 4000000 in
set_option maxRecDepth 100000 in
theorem fam_find_nil (n : Int) (W : World) :
    Calls Tryz.prog 103 #[.slice none 0 0, .int .i64 n, .func (.func 104) #[] #[]] W
      fun e w' => e = .returned (.tuple #[.int .i64 0, .bool false]) ∧ W = w' := by
  go_enter Tryz.func103, Tryz.ntmps103
  go_wp2
  go_loopw [9, 10] (fun i j wr => i = .int .i64 0 ∧ j = .int .i64 0 ∧ W = wr) (fun _ _ _ => 0)
  case atStart => exact ⟨rfl, rfl, rfl⟩
  case round =>
    obtain ⟨rfl, rfl, rfl⟩ := hrel
    go_wp2_with fail
    go_ret2
    exact ⟨rfl, rfl⟩
theorem fam_find (B : Nat) (v : Value) (L : List Fam) (n : Int) (W : World) (h : FRow W B v L) (hL : L.length ≤ 1000000) (hA : Asc L) (hids : ∀ f ∈ L, okN f.id = true) (hn : okN n = true) :
    Calls Tryz.prog 103 #[v, .int .i64 n, .func (.func 104) #[] #[]] W
      fun e w' => e = .returned (.tuple #[.int .i64 (ahead L n), .bool (hasB L n)]) ∧ Below W.heap.size W w' := by
  rcases h.parts with ⟨rfl, rfl⟩ | ⟨g, cap, rfl, _⟩
  · exact (fam_find_nil n W).mono fun e w' hh => ⟨hh.1, hh.2 ▸ Below.refl _ _⟩
  · exact fam_find_some B g cap L n W h hL hA hids hn
/-- event.Apply's search: its slice lies in a variable -/
theorem fam_at (B vb : Nat) (v : Value) (L : List Fam) (n : Int) (W : World) (h : FRow W B v L) (hv : W.cell? ⟨vb, 0, none⟩ = some v) (hL : L.length ≤ 1000000) (hA : Asc L) (hids : ∀ f ∈ L, okN f.id = true) (hn : okN n = true) :
    Calls Tryz.prog 102 #[.int .i64 n, .pointer (some ⟨vb, 0, none⟩)] W fun e w' => e = .returned (.tuple #[.int .i64 (ahead L n), .bool (hasB L n)]) ∧ Below W.heap.size W w' := by
  have H := Lib.hid (fam_find B v L n W h hL hA hids hn)
  clear hA hids hn
  rcases h.parts with ⟨rfl, rfl⟩ | ⟨g, cap, rfl, _⟩
  all_goals
    clear h
    go_enter Tryz.func102, Tryz.ntmps102
    go_wp2_with (go_at_call 103; refine H.out.mono ?_; rintro e w1 ⟨rfl, hb⟩; have HB := Lib.hid hb; clear hb)
    go_ret2
    exact ⟨rfl, HB.out⟩
end Go.Proofs.YtckohmhhcknmaaaGreatDoor

/-
  slices.Insert of one family.
-/
namespace Go.Proofs.YtckohmhhcknmaaaGreatDoor
open Go.RowKit Go.Sort

theorem FRow.block {w : World} {B : Nat} {v : Value} {L : List Fam} (h : FRow w B v L) : (v = .slice none 0 0 ∧ L = []) ∨ ∃ g cap cur, v = .slice (some ⟨g, 0, none⟩) L.length cap ∧ B ≤ g ∧ Blk w g 79 cur ∧ L.length ≤ cap ∧ cap ≤ 9223372036854775807 ∧ cur.size = cap * 9 ∧ cur.toList.take (L.length * 9) = flat L := by
  rcases h.2 with ⟨rfl, h0⟩ | ⟨g, cap, cur, rfl, hB, hb, hn, hm, hc, ht⟩
  · exact .inl ⟨rfl, List.eq_nil_of_length_eq_zero h0⟩
  · exact .inr ⟨g, cap, cur, rfl, hB, hb, hn, by unfold maxLen at hm; exact hm, hc, ht⟩
theorem FRow.of_block {w : World} {B g cap : Nat} {cur : Array Value} {L : List Fam} (hB : B ≤ g) (hb : Blk w g 79 cur) (hn : L.length ≤ cap) (hm : cap ≤ 9223372036854775807) (hc : cur.size = cap * 9) (ht : cur.toList.take (L.length * 9) = flat L) : FRow w B (.slice (some ⟨g, 0, none⟩) L.length cap) L :=
  ⟨flat_len L, .inr ⟨g, cap, cur, rfl, hB, hb, hn, by unfold maxLen; exact hm, hc, ht⟩⟩

set_option maxHeartbeats 2000000 in
set_option maxRecDepth 100000 in
/-- slices.Insert at the end -/
theorem fam_insert_end (B vb : Nat) (v : Value) (L : List Fam) (f : Fam) (w : World) (h : FRow w B v L) (hL : L.length ≤ 1000000) (hB : B ≤ w.heap.size) (hv : Blk w vb 79 (famCs f)) :
    Calls Tryz.prog 105 #[v, .int .i64 L.length, .slice (some ⟨vb, 0, none⟩) 1 1] w fun e w' => ∃ v', e = .returned v' ∧ FRow w' B v' (L ++ [f]) ∧ w.grownBy w' v.ownBlock := by
  obtain ⟨i0, hii, hz0, hz1, hz2⟩ := info_parts famInfo
  have hnews : ∀ j u, (famCs f).toList[j]? = some u → w.cell? ((⟨vb, 0, none⟩ : Addr).add j) = some u := by
    intro j u hj
    rw [Addr.add_lit, Nat.zero_add, hv.cell j]
    rwa [Array.getElem?_toList] at hj
  have HN := Lib.hid hnews
  have HO := Lib.hid h
  have hone : ∀ u ∈ (famCs f).toList, u.oneCell' = true := fun u hu => flat_one (L := [f]) (by simpa [flat] using hu)
  have HON := Lib.hid hone
  clear hnews hv hone
  rcases h.parts with ⟨rfl, rfl⟩ | ⟨g, cap, rfl, h1, h2, h3, h4, _⟩
  all_goals
    clear h
    go_enter Tryz.func105, Tryz.ntmps105
    go_wp2_with
      (at_builtin; refine wpList_append_own _ rfl _ _ 37 rfl B 79 i0 (.agg (famCs Fam.zero)) 9 104 Tryz.underlying37 hii hz0 hz1 hz2 rfl (by decide) _ _ _ rfl HO.out ⟨vb, 0, none⟩ 1 1 (famCs f).toList rfl rfl HN.out HON.out (by unfold maxLen; omega) (by omega) hB ?_; intro v' w3 hown hgrow hnil
       have HO3 := Lib.hid hown
       have HG := Lib.hid hgrow
       clear hown hgrow hnil)
  all_goals
    go_ret
    refine ⟨_, rfl, ?_, HG.out⟩
    have := HO3.out
    first
      | (unfold FRow
         rw [flat_app, List.length_append]
         simpa [flat] using this)
      | simpa [FRow, flat] using this

theorem famSize : (Tryz.prog.info? 79).map (·.size) = some 9 := by kernel_rfl
/-- copy, of families: all is read before anything is written -/
theorem run_copy_fam (w : World) (ty : TypeId) (g o dLen dCap : Nat) (a : Addr) (sLen sCap m : Nat) (cur : Array Value) (cs : List Value) (hg : Blk w g 79 cur) (hm : Nat.min sLen dLen = m) (hl : cs.length = m * 9)
    (hsrc : ∀ j v, cs[j]? = some v → w.cell? (a.add j) = some v) (hfit : o + cs.length ≤ cur.size) (h1 : ∀ v ∈ cs, v.oneCell' = true) :
    (Builtin.copy_ #[37, 37] ty #[.slice (some ⟨g, o, none⟩) dLen dCap, .slice (some a) sLen sCap]).run Tryz.prog w =
      .ok (goInt m) (w.setRow g (cur.toList.take o ++ cs ++ cur.toList.drop (o + cs.length)).toArray) := by
  have hld := run_loadCells_list (P := Tryz.prog) w a cs hsrc
  rw [hl] at hld
  have hst := run_storeCells_at Tryz.prog g o _ cs 0 cur w hg (by simpa using hfit) h1
  obtain ⟨i, hq, hi⟩ : ∃ i, Tryz.prog.info? 79 = some i ∧ i.size = 9 := by
    have h := famSize
    cases hq : Tryz.prog.info? 79 with
    | none => rw [hq] at h; cases h
    | some i => rw [hq] at h; exact ⟨i, rfl, by simpa using h⟩
  simp [Builtin.copy_, run_underlying Tryz.underlying37, Builtin.lenOf, Builtin.firstCells, sizeOf, typeInfo, hq, hi, hm, hld, hst]
theorem Blk.row {w : World} {g : Nat} {T : TypeId} {cur new : Array Value} (h : Blk w g T cur) : Blk (w.setRow g new) g T new := setRow_heap w g cur new _ _ h
theorem only_setRow (w : World) (g : Nat) (new : Array Value) : w.grownBy (w.setRow g new) (some g) :=
  ⟨rfl, rfl, rfl, by simp, fun i _ hne => setRow_other w g i new (by intro e; exact hne (by rw [e]))⟩
theorem shape_blk {w : World} {g : Nat} {T : TypeId} {cur : Array Value} (h : Blk w g T cur) : w.shape? g = some (T, cur.size) := by
  unfold Blk at h
  simp [World.shape?, h]
theorem size_fam (w : World) : (Go.sizeOf 79).run Tryz.prog w = .ok 9 w := by kernel_rfl

/-- the cells behind an insertion in place -/
theorem ins_cells {L : List Fam} {f : Fam} {xs : List Value} {i c : Nat} (hx : xs.length = c * 9) (ht : xs.take (L.length * 9) = flat L) (hi : i ≤ L.length) (hc : L.length + 1 ≤ c) :
    let c1 := xs.take ((i + 1) * 9) ++ flat (L.drop i) ++ xs.drop ((i + 1) * 9 + (flat (L.drop i)).length)
    let c2 := c1.take (i * 9) ++ (famCs f).toList ++ c1.drop (i * 9 + (famCs f).toList.length)
    c1.length = c * 9 ∧ c2.length = c * 9 ∧ c2.take ((L.length + 1) * 9) = flat (L.take i ++ f :: L.drop i) := by
  intro c1 c2
  have hd : (flat (L.drop i)).length = (L.length - i) * 9 := by rw [flat_len, List.length_drop]
  have hf : (famCs f).toList.length = 9 := rfl
  have h1 : c1.length = c * 9 := by
    show (xs.take ((i + 1) * 9) ++ flat (L.drop i) ++ xs.drop ((i + 1) * 9 + (flat (L.drop i)).length)).length = _
    simp only [List.length_append, List.length_take, List.length_drop, hd, hx]
    omega
  have ht1 : c1.take (i * 9) = flat (L.take i) := by
    show (xs.take ((i + 1) * 9) ++ flat (L.drop i) ++ xs.drop ((i + 1) * 9 + (flat (L.drop i)).length)).take (i * 9) = _
    rw [List.append_assoc, List.take_append_of_le_length (by rw [List.length_take, hx]; omega), List.take_take, flat_take, ← ht, List.take_take]
    congr 1
    omega
  have hd1 : c1.drop (i * 9 + 9) = flat (L.drop i) ++ xs.drop ((L.length + 1) * 9) := by
    show (xs.take ((i + 1) * 9) ++ flat (L.drop i) ++ xs.drop ((i + 1) * 9 + (flat (L.drop i)).length)).drop (i * 9 + 9) = _
    have hl : (xs.take ((i + 1) * 9)).length = i * 9 + 9 := by rw [List.length_take, hx]; omega
    rw [List.append_assoc, ← hl, List.drop_left, hd]
    congr 2
    omega
  have hc2 : c2 = flat (L.take i) ++ (famCs f).toList ++ (flat (L.drop i) ++ xs.drop ((L.length + 1) * 9)) := by
    show c1.take (i * 9) ++ (famCs f).toList ++ c1.drop (i * 9 + (famCs f).toList.length) = _
    rw [ht1, hf, hd1]
  refine ⟨h1, ?_, ?_⟩
  · rw [hc2]
    simp only [List.length_append, List.length_drop, hd, hx, hf, flat_len, List.length_take]
    omega
  · have e : flat (L.take i ++ f :: L.drop i) = flat (L.take i) ++ (famCs f).toList ++ flat (L.drop i) := by
      rw [flat_app, flat_cons, List.append_assoc]
    rw [hc2, e, ← List.append_assoc, List.take_append_of_le_length (by simp only [List.length_append, hd, hf, flat_len, List.length_take]; omega), List.take_of_length_le (by simp only [List.length_append, hd, hf, flat_len, List.length_take]; omega)]

set_option maxHeartbeats 8000000 in
set_option maxRecDepth 100000 in
/-- slices.Insert ahead of the end, where there is room -/
theorem fam_insert_room (B g cap vb i : Nat) (cur : Array Value) (L : List Fam) (f : Fam) (w : World) (hi : i < L.length) (hb : Blk w g 79 cur) (hcap : L.length + 1 ≤ cap) (hm : cap ≤ 9223372036854775807) (hc : cur.size = cap * 9)
    (ht : cur.toList.take (L.length * 9) = flat L) (hBg : B ≤ g) (hL : L.length ≤ 1000000) (hv : Blk w vb 79 (famCs f)) (hne : vb ≠ g) :
    Calls Tryz.prog 105 #[.slice (some ⟨g, 0, none⟩) L.length cap, .int .i64 i, .slice (some ⟨vb, 0, none⟩) 1 1] w fun e w' => ∃ v', e = .returned v' ∧ FRow w' B v' (L.take i ++ f :: L.drop i) ∧ w.grownBy w' (some g) := by
  have hcl : cur.toList.length = cap * 9 := by rw [Array.length_toList]; exact hc
  obtain ⟨k1, k2, k3⟩ := ins_cells (f := f) hcl ht (Nat.le_of_lt hi) hcap
  have hd : (flat (L.drop i)).length = (L.length - i) * 9 := by rw [flat_len, List.length_drop]
  have hov : ∀ o lb cb, (callFunc 145 #[.slice (some ⟨vb, 0, none⟩) 1 1, .slice (some ⟨g, o, none⟩) lb cb]).run Tryz.prog w = .ok (.value (.bool false)) w := fun o lb cb => by
    rw [run_callFunc_extern Tryz.func145 (by kernel_rfl) (by kernel_rfl) (by kernel_rfl) (e := Extern.SlicesOverlaps.overlaps #[37, 37] #[4]) (by kernel_rfl),
      Lib.run_overlaps_apart w 37 4 79 Tryz.underlying37 9 size_fam ⟨vb, 0, none⟩ ⟨g, o, none⟩ 1 1 lb cb hne _ _ _ _ (shape_blk hv) (shape_blk hb) (by rw [hc]; omega) (hv.frozen 0) (hv.frozen _)]
    rfl
  have hsrc1 : ∀ j v, (flat (L.drop i))[j]? = some v → w.drew.cell? ((⟨g, i * 9, none⟩ : Addr).add j) = some v := by
    intro j v hj
    have hjl := (List.getElem?_eq_some_iff.1 hj).1
    rw [Addr.add_lit]
    show w.cell? ⟨g, i * 9 + j, none⟩ = some v
    rw [hb.cell, ← hj, flat_drop, List.getElem?_drop, ← ht, List.getElem?_take, if_pos (by omega), Array.getElem?_toList]
  obtain ⟨c1, hc1⟩ : ∃ c1 : Array Value, c1 = (cur.toList.take ((i + 1) * 9) ++ flat (L.drop i) ++ cur.toList.drop ((i + 1) * 9 + (flat (L.drop i)).length)).toArray := ⟨_, rfl⟩
  have hc1l : c1.toList = cur.toList.take ((i + 1) * 9) ++ flat (L.drop i) ++ cur.toList.drop ((i + 1) * 9 + (flat (L.drop i)).length) := by rw [hc1]
  have hcp1 : ∀ ty, (Builtin.copy_ #[37, 37] ty #[.slice (some ⟨g, (i + 1) * 9, none⟩) (L.length - i) (cap - (i + 1)), .slice (some ⟨g, i * 9, none⟩) (L.length + 1 - i) (cap - i)]).run Tryz.prog w.drew = .ok (goInt (L.length - i : Nat)) (w.drew.setRow g c1) := fun ty => by
    rw [hc1]
    exact run_copy_fam w.drew ty g _ _ _ _ _ _ (L.length - i) cur _ hb.drew (by simp only [Nat.min_def]; split <;> omega) hd hsrc1 (by rw [hd, hc]; omega) (fun v hv => flat_one hv)
  have hb1' : Blk (w.drew.setRow g c1) g 79 c1 := hb.drew.row
  obtain ⟨W1, hW1⟩ : ∃ W1, W1 = w.drew.setRow g c1 := ⟨_, rfl⟩
  rw [← hW1] at hcp1 hb1'
  have hvW : Blk W1 vb 79 (famCs f) := by rw [hW1]; exact hv.drew.grown (only_setRow _ _ _) (by simpa using hne)
  have hsrc2 : ∀ j v, (famCs f).toList[j]? = some v → W1.cell? ((⟨vb, 0, none⟩ : Addr).add j) = some v := by
    intro j v hj
    rw [Addr.add_lit, Nat.zero_add, hvW.cell, ← Array.getElem?_toList, hj]
  obtain ⟨c2, hc2⟩ : ∃ c2 : Array Value, c2 = (c1.toList.take (i * 9) ++ (famCs f).toList ++ c1.toList.drop (i * 9 + (famCs f).toList.length)).toArray := ⟨_, rfl⟩
  have hc1s : c1.size = cap * 9 := by rw [← Array.length_toList, hc1l]; exact k1
  have hcp2 : ∀ ty dc, (Builtin.copy_ #[37, 37] ty #[.slice (some ⟨g, i * 9, none⟩) (L.length + 1 - i) dc, .slice (some ⟨vb, 0, none⟩) 1 1]).run Tryz.prog W1 = .ok (goInt (1 : Nat)) (W1.setRow g c2) := fun ty dc => by
    rw [hc2]
    exact run_copy_fam W1 ty g _ _ _ _ _ _ 1 c1 _ hb1' (by simp only [Nat.min_def]; split <;> omega) rfl hsrc2 (by rw [hc1s]; show i * 9 + 9 ≤ _; omega) (fun v hv => flat_one (L := [f]) (by simpa [flat] using hv))
  have HFIN := Lib.hid (show FRow (W1.setRow g c2) B (.slice (some ⟨g, 0, none⟩) (L.take i ++ f :: L.drop i).length cap) (L.take i ++ f :: L.drop i) ∧ w.grownBy (W1.setRow g c2) (some g) from by
    have hlen : (L.take i ++ f :: L.drop i).length = L.length + 1 := by simp; omega
    have hc2l : c2.toList = (c1.toList.take (i * 9) ++ (famCs f).toList ++ c1.toList.drop (i * 9 + (famCs f).toList.length)) := by rw [hc2]
    rw [hc1l] at hc2l
    refine ⟨FRow.of_block hBg hb1'.row (by omega) hm ?_ ?_, ?_⟩
    · rw [← Array.length_toList, hc2l]; exact k2
    · rw [hlen, hc2l]; exact k3
    · rw [hW1]
      exact only_trans (only_trans (only_drew (only_refl w (some g))) (only_setRow w.drew g c1)) (only_setRow _ g c2))
  have hlen : (L.take i ++ f :: L.drop i).length = L.length + 1 := by simp; omega
  rw [hlen] at HFIN
  have hw1 : IntKind.i64.wrap ((i : Int) + 1) = (i : Int) + 1 := by rw [IntKind.wrap_i64]; omega
  have hz1 : (0 : Int) ≤ (i : Int) + 1 := by omega
  have htn : ((i : Int) + 1).toNat = i + 1 := by omega
  have hz2 : ¬ (cap = i + 1) := by omega
  have hz3 : (i : Int) ≤ (L.length : Int) + 1 := by omega
  have hz4 : ¬ (cap = i) := by omega
  have hin : i ≤ L.length := by omega
  have mixed : Tryz.prog.follows .mixedOrders = true := by kernel_rfl
  have HW1 := Lib.hid hW1
  clear k1 k2 k3 hd hcl ht hsrc1 hsrc2 hc1 hc1l hc1s hc2 hvW hb1' hW1 hb hv hlen
  go_enter Tryz.func105, Tryz.ntmps105
  go_wp2_with (simp only [hov])
  go_region_law_o (refine step_copy_runI rfl _ _ 37 37 rfl _ _ (by simp [Act.eval, Act.put]) (by simp [Act.eval, Act.put]) (hcp1 _) ?_)
  go_wp2_with (at_builtin; refine wpList_copy_runI _ rfl _ _ 37 37 rfl _ _ rfl rfl (hcp2 _ _) ?_)
  go_ret
  exact ⟨_, rfl, HFIN.out.1, HFIN.out.2⟩
end Go.Proofs.YtckohmhhcknmaaaGreatDoor

/-
  slices.Insert of one family ahead of the end, where there is no room; and at all.
-/
namespace Go.Proofs.YtckohmhhcknmaaaGreatDoor
open Go.RowKit Go.Sort

theorem zeros_size (k : Nat) : (Builtin.zeroCells (Value.agg (famCs Fam.zero)).cells k).size = k * 9 := by
  simp [Builtin.zeroCells, Value.cells, famCs]
/-- the cells behind an insertion in a new row -/
theorem grow_cells {L : List Fam} {f : Fam} {zs : List Value} {i G : Nat} (hz : zs.length = (G - i) * 9) (hi : i ≤ L.length) (hG : L.length + 1 ≤ G) :
    let r0 := flat (L.take i) ++ zs
    let r1 := r0.take (i * 9) ++ (famCs f).toList ++ r0.drop (i * 9 + (famCs f).toList.length)
    let r2 := r1.take ((i + 1) * 9) ++ flat (L.drop i) ++ r1.drop ((i + 1) * 9 + (flat (L.drop i)).length)
    r0.length = G * 9 ∧ r1.length = G * 9 ∧ r2.length = G * 9 ∧ r2.take ((L.length + 1) * 9) = flat (L.take i ++ f :: L.drop i) := by
  intro r0 r1 r2
  have hd : (flat (L.drop i)).length = (L.length - i) * 9 := by rw [flat_len, List.length_drop]
  have ht : (flat (L.take i)).length = i * 9 := by rw [flat_len, List.length_take]; congr 1; omega
  have hf : (famCs f).toList.length = 9 := rfl
  have h0 : r0.length = G * 9 := by
    show (flat (L.take i) ++ zs).length = _
    rw [List.length_append, ht, hz]
    omega
  have e1 : r1 = flat (L.take i) ++ (famCs f).toList ++ r0.drop (i * 9 + 9) := by
    show r0.take (i * 9) ++ (famCs f).toList ++ r0.drop (i * 9 + (famCs f).toList.length) = _
    rw [hf]
    congr 2
    show (flat (L.take i) ++ zs).take (i * 9) = _
    rw [← ht, List.take_left]
  have h1 : r1.length = G * 9 := by
    rw [e1, List.length_append, List.length_append, List.length_drop, ht, hf, h0]
    omega
  have e2 : r1.take ((i + 1) * 9) = flat (L.take i) ++ (famCs f).toList := by
    have hl : (flat (L.take i) ++ (famCs f).toList).length = (i + 1) * 9 := by rw [List.length_append, ht, hf]; omega
    rw [e1, ← hl, List.take_left]
  have e3 : r2 = flat (L.take i) ++ (famCs f).toList ++ flat (L.drop i) ++ r1.drop ((i + 1) * 9 + (flat (L.drop i)).length) := by
    show r1.take ((i + 1) * 9) ++ flat (L.drop i) ++ r1.drop ((i + 1) * 9 + (flat (L.drop i)).length) = _
    rw [e2]
  refine ⟨h0, h1, ?_, ?_⟩
  · rw [e3]
    simp only [List.length_append, List.length_drop, ht, hf, hd, h1]
    omega
  · have e : flat (L.take i ++ f :: L.drop i) = flat (L.take i) ++ (famCs f).toList ++ flat (L.drop i) := by
      rw [flat_app, flat_cons, List.append_assoc]
    have hl : (flat (L.take i) ++ (famCs f).toList ++ flat (L.drop i)).length = (L.length + 1) * 9 := by
      simp only [List.length_append, ht, hf, hd]; omega
    rw [e3, e, ← hl, List.take_left]

set_option maxHeartbeats 8000000 in
set_option maxRecDepth 100000 in
theorem fam_insert_grow (B g cap vb i : Nat) (cur : Array Value) (L : List Fam) (f : Fam) (w : World) (hi : i < L.length) (hb : Blk w g 79 cur) (hcap : cap < L.length + 1) (hlc : L.length ≤ cap) (hm : cap ≤ 9223372036854775807)
    (ht : cur.toList.take (L.length * 9) = flat L) (hL : L.length ≤ 1000000) (hv : Blk w vb 79 (famCs f)) (hBw : B ≤ w.heap.size) :
    Calls Tryz.prog 105 #[.slice (some ⟨g, 0, none⟩) L.length cap, .int .i64 i, .slice (some ⟨vb, 0, none⟩) 1 1] w fun e w' => ∃ v', e = .returned v' ∧ FRow w' B v' (L.take i ++ f :: L.drop i) ∧ w.grownBy w' (some g) := by
  obtain ⟨i0, hi0, hz0, hzs, hzb⟩ := info_parts famInfo
  have hgw := hb.lt
  have hvw := hv.lt
  have hd : (flat (L.drop i)).length = (L.length - i) * 9 := by rw [flat_len, List.length_drop]
  have htl : (flat (L.take i)).length = i * 9 := by rw [flat_len, List.length_take]; congr 1; omega
  have hkk : (L.length : Int) + 1 - (i : Int) = ((L.length + 1 - i : Nat) : Int) := by omega
  have hik : i + (L.length + 1 - i) = L.length + 1 := by omega
  have hcell : ∀ j u, (flat L)[j]? = some u → w.cell? ⟨g, j, none⟩ = some u := by
    intro j u hj
    rw [hb.cell, ← hj, ← ht, List.getElem?_take, if_pos (by have := (List.getElem?_eq_some_iff.1 hj).1; rw [flat_len] at this; exact this), Array.getElem?_toList]
  have hold : (Builtin.firstCells i0.size i (.slice (some ⟨g, 0, none⟩) i cap)).run Tryz.prog w.drew = .ok (flat (L.take i)).toArray w.drew := by
    rw [hzs]
    exact run_firstCells_some w.drew 9 i ⟨g, 0, none⟩ i cap (flat (L.take i)) htl (fun j u hj => by
      rw [Addr.add_lit, Nat.zero_add]
      show w.cell? ⟨g, j, none⟩ = some u
      rw [flat_take, List.getElem?_take] at hj
      split at hj
      · exact hcell j u hj
      · cases hj)
  obtain ⟨G, hG⟩ : ∃ G, G = grownCap w (L.length + 1) cap 79 := ⟨_, rfl⟩
  obtain ⟨ROW, hROW⟩ : ∃ ROW : Array Value, ROW = (flat (L.take i)).toArray ++ Builtin.zeroCells (Value.agg (famCs Fam.zero)).cells (L.length + 1 - i) ++ Builtin.zeroCells (Value.agg (famCs Fam.zero)).cells (G - (L.length + 1)) := ⟨_, rfl⟩
  have hrz : ∀ ty, (Builtin.append_ #[37, 3] ty #[.slice (some ⟨g, 0, none⟩) i cap, .int .i64 ((L.length : Int) + 1 - (i : Int))]).run Tryz.prog w =
      .ok (.slice (some ⟨w.heap.size, 0, none⟩) (L.length + 1) G) (w.drew.alloc (.cells ROW 79)) := fun ty => by
    have h := Lib.run_append_grow_zeros w 37 3 ty 79 i0 _ .i64 .i64 Tryz.underlying37 Tryz.underlying3 hi0 hz0 (some ⟨g, 0, none⟩) i cap (flat (L.take i)) hold (L.length + 1 - i) (by omega) (by omega) (by omega) (by omega) (by rw [hzb]; omega) (by rw [hzb, hik]; exact growslice_fits hcap (by omega))
    rw [hik, ← hG] at h
    rw [hkk, hROW]
    exact h
  have hGn : L.length + 1 ≤ G := by rw [hG]; exact grownCap_ge w _ _ _
  have hG63 : G ≤ 9223372036854775807 := by
    have := grownCap_le_maxLen w (L.length + 1) cap 79 (by unfold maxLen; omega)
    rw [← hG] at this
    unfold maxLen at this
    omega
  obtain ⟨zs, hzs1, hzs2⟩ : ∃ zs : List Value, ROW.toList = flat (L.take i) ++ zs ∧ zs.length = (G - i) * 9 :=
    ⟨(Builtin.zeroCells (Value.agg (famCs Fam.zero)).cells (L.length + 1 - i)).toList ++ (Builtin.zeroCells (Value.agg (famCs Fam.zero)).cells (G - (L.length + 1))).toList, by rw [hROW]; simp, by
      simp only [List.length_append, Array.length_toList, zeros_size]; omega⟩
  obtain ⟨q0, q1, q2, q3⟩ := grow_cells (f := f) hzs2 (Nat.le_of_lt hi) hGn
  rw [← hzs1] at q0 q1 q2 q3
  obtain ⟨R1, hR1⟩ : ∃ R1 : Array Value, R1 = (ROW.toList.take (i * 9) ++ (famCs f).toList ++ ROW.toList.drop (i * 9 + (famCs f).toList.length)).toArray := ⟨_, rfl⟩
  have hR1l : R1.toList = ROW.toList.take (i * 9) ++ (famCs f).toList ++ ROW.toList.drop (i * 9 + (famCs f).toList.length) := by rw [hR1]
  rw [← hR1l] at q1 q2 q3
  obtain ⟨R2, hR2⟩ : ∃ R2 : Array Value, R2 = (R1.toList.take ((i + 1) * 9) ++ flat (L.drop i) ++ R1.toList.drop ((i + 1) * 9 + (flat (L.drop i)).length)).toArray := ⟨_, rfl⟩
  have hR2l : R2.toList = R1.toList.take ((i + 1) * 9) ++ flat (L.drop i) ++ R1.toList.drop ((i + 1) * 9 + (flat (L.drop i)).length) := by rw [hR2]
  rw [← hR2l] at q2 q3
  have hcpA : ∀ W, Blk W w.heap.size 79 ROW → Blk W vb 79 (famCs f) → ∀ ty dc, (Builtin.copy_ #[37, 37] ty #[.slice (some ⟨w.heap.size, i * 9, none⟩) (L.length + 1 - i) dc, .slice (some ⟨vb, 0, none⟩) 1 1]).run Tryz.prog W = .ok (goInt (1 : Nat)) (W.setRow w.heap.size R1) := fun W h1 h2 ty dc => by
    rw [hR1]
    exact run_copy_fam W ty w.heap.size _ _ _ _ _ _ 1 ROW _ h1 (by simp only [Nat.min_def]; split <;> omega) rfl (fun j u hj => by rw [Addr.add_lit, Nat.zero_add, h2.cell, ← Array.getElem?_toList, hj]) (by rw [← Array.length_toList, q0]; show i * 9 + 9 ≤ _; omega) (fun v hv => flat_one (L := [f]) (by simpa [flat] using hv))
  have hcpB : ∀ W, Blk W w.heap.size 79 R1 → Blk W g 79 cur → ∀ ty, (Builtin.copy_ #[37, 37] ty #[.slice (some ⟨w.heap.size, (i + 1) * 9, none⟩) (L.length - i) (G - (i + 1)), .slice (some ⟨g, i * 9, none⟩) (L.length - i) (cap - i)]).run Tryz.prog W = .ok (goInt (L.length - i : Nat)) (W.setRow w.heap.size R2) := fun W h1 h2 ty => by
    rw [hR2]
    exact run_copy_fam W ty w.heap.size _ _ _ _ _ _ (L.length - i) R1 _ h1 (by simp only [Nat.min_def]; split <;> omega) hd (fun j u hj => by
      rw [Addr.add_lit, h2.cell]
      have hjl := (List.getElem?_eq_some_iff.1 hj).1
      rw [← hj, flat_drop, List.getElem?_drop, ← ht, List.getElem?_take, if_pos (by omega), Array.getElem?_toList]) (by rw [← Array.length_toList, q1, hd]; omega) (fun v hv => flat_one hv)
  have hlen : (L.take i ++ f :: L.drop i).length = L.length + 1 := by simp; omega
  have hR2s : R2.size = G * 9 := by rw [← Array.length_toList]; exact q2
  have HFIN := Lib.hid (fun (W : World) (h1 : Blk W w.heap.size 79 R2) => (FRow.of_block hBw h1 (by omega) hG63 hR2s (by rw [hlen]; exact q3) : FRow W B (.slice (some ⟨w.heap.size, 0, none⟩) (L.take i ++ f :: L.drop i).length G) (L.take i ++ f :: L.drop i)))
  rw [hlen] at HFIN
  have hcA := fun ty dc => hcpA ((w.alloc (.cells ROW 79)).drew) (Blk.new w _ _).drew (hv.alloc _).drew ty dc
  obtain ⟨W1, hW1⟩ : ∃ W1, W1 = (w.alloc (.cells ROW 79)).drew.setRow w.heap.size R1 := ⟨_, rfl⟩
  rw [← hW1] at hcA
  have hb1 : Blk W1 w.heap.size 79 R1 := by rw [hW1]; exact (Blk.new w _ _).drew.row
  have hg1 : Blk W1 g 79 cur := by rw [hW1]; exact (hb.alloc _).drew.grown (only_setRow _ _ _) (by simp; omega)
  have hl1 : Below w.heap.size w W1 := by
    rw [hW1]
    have b1 : Below w.heap.size w (w.alloc (.cells ROW 79)).drew := below_drewN ((Below.refl w.heap.size w).alloc (Nat.le_refl _) _) 1
    exact b1.grown (only_setRow _ _ _) (by simp) (fun j hj => by cases hj; exact Nat.le_refl _)
  have hcB := fun ty => hcpB W1.drew hb1.drew hg1.drew ty
  have HEND := Lib.hid (show FRow (W1.drew.setRow w.heap.size R2) B (.slice (some ⟨w.heap.size, 0, none⟩) (L.length + 1) G) (L.take i ++ f :: L.drop i) ∧ w.grownBy (W1.drew.setRow w.heap.size R2) (some g) from
    ⟨HFIN.out _ hb1.drew.row, only_of_below ((below_drewN hl1 1).grown (only_setRow _ _ _) (by have := hl1.size; simp; omega) (fun j hj => by cases hj; exact Nat.le_refl _)) _⟩)
  have HW1 := Lib.hid hW1
  have hGi : ¬ (G = i) := by omega
  have hGim : ¬ (G = i + 1) := by omega
  have hci : ¬ (cap = i) := by omega
  have hw1 : IntKind.i64.wrap ((i : Int) + 1) = (i : Int) + 1 := by rw [IntKind.wrap_i64]; omega
  have hz1 : (0 : Int) ≤ (i : Int) + 1 := by omega
  have htn : ((i : Int) + 1).toNat = i + 1 := by omega
  have hin : i ≤ L.length := by omega
  have hz3 : (cap : Int) < (L.length : Int) + 1 := by omega
  have hz2 : ¬ ((i : Int) = (L.length : Int)) := by omega
  have mixed : Tryz.prog.follows .mixedOrders = true := by kernel_rfl
  clear HFIN hW1 hb1 hg1 hl1 hR2s hcpA hcpB hv hb q0 q1 q2 q3 hR1 hR1l hR2 hR2l hzs1 hzs2 hROW hG hold hcell htl hkk hik ht hd hlen
  go_enter Tryz.func105, Tryz.ntmps105
  go_wp2_with
    (first
    | (at_builtin; refine Lib.wpList_append_run _ rfl _ _ _ _ rfl _ _ rfl rfl _ _ (hrz _) ?_)
    | (at_builtin; refine wpList_copy_runI _ rfl _ _ 37 37 rfl _ _ rfl rfl (hcA _ _) ?_))
  go_region_law_o (refine step_copy_runI rfl _ _ 37 37 rfl _ _ (by simp [Act.eval, Act.put]) (by simp [Act.eval, Act.put]) (hcB _) ?_)
  go_wp2
  go_ret
  exact ⟨_, rfl, HEND.out.1, HEND.out.2⟩
theorem fam_insert (B vb k : Nat) (v : Value) (L : List Fam) (f : Fam) (w : World) (h : FRow w B v L) (hk : k ≤ L.length) (hL : L.length ≤ 1000000) (hB : B ≤ w.heap.size) (hv : Blk w vb 79 (famCs f)) (hne : v.ownBlock ≠ some vb) :
    Calls Tryz.prog 105 #[v, .int .i64 k, .slice (some ⟨vb, 0, none⟩) 1 1] w fun e w' => ∃ v', e = .returned v' ∧ FRow w' B v' (L.take k ++ f :: L.drop k) ∧ w.grownBy w' v.ownBlock := by
  by_cases he : k = L.length
  · subst he
    rw [List.take_length, List.drop_length]
    exact fam_insert_end B vb v L f w h hL hB hv
  · rcases h.block with ⟨rfl, rfl⟩ | ⟨g, cap, cur, rfl, h1, h2, h3, h4, h5, h6⟩
    · simp at hk he
      exact absurd hk he
    · by_cases hc : L.length + 1 ≤ cap
      · exact fam_insert_room B g cap vb k cur L f w (by omega) h2 hc h4 h5 h6 h1 hL hv (by rintro rfl; exact hne rfl)
      · exact fam_insert_grow B g cap vb k cur L f w (by omega) h2 (by omega) h3 h4 h6 hL hv hB
end Go.Proofs.YtckohmhhcknmaaaGreatDoor

/-
  slices.Delete of one family.
-/
namespace Go.Proofs.YtckohmhhcknmaaaGreatDoor
open Go.RowKit Go.Sort

/-- cells stored one by one, or as a row: one world -/
theorem setCells_row {w : World} {g o : Nat} {cur : Array Value} {cs : List Value} (hg : Blk w g 79 cur) (hfit : o + cs.length ≤ cur.size) (h1 : ∀ v ∈ cs, v.oneCell' = true) :
    w.setCells g o cs = w.setRow g (cur.toList.take o ++ cs ++ cur.toList.drop (o + cs.length)).toArray := by
  have a := run_storeCells_at Tryz.prog g o _ cs 0 cur w hg (by simpa using hfit) h1
  have b := run_storeCells_cells (P := Tryz.prog) g o cs 0 w (fun j hj => by rw [hg.cell, Array.getElem?_eq_getElem (by omega)]; rfl) (fun j _ => hg.frozen _) h1
  rw [a] at b
  simp only [Result.ok.injEq, Nat.add_zero] at b
  exact b.2.symm
theorem zero_fam (w : World) : (zeroValue 79).run Tryz.prog w = .ok (.agg (famCs Fam.zero)) w := by kernel_rfl
theorem zero_cells : Builtin.zeroCells (Value.agg (famCs Fam.zero)).cells 1 = famCs Fam.zero := by
  apply Array.ext
  · simp [Builtin.zeroCells, Value.cells, famCs]
  · intro i h1 h2
    have h2' : i < 9 := h2
    simp only [Builtin.zeroCells, Value.cells, Array.getElem_map, Array.getElem_range]
    rw [show i % (famCs Fam.zero).size = i from Nat.mod_eq_of_lt h2, getElem!_pos (famCs Fam.zero) i h2]
theorem run_clear_fam (W : World) (ty : TypeId) (g o c : Nat) (cur : Array Value) (hg : Blk W g 79 cur) (hfit : o + 9 ≤ cur.size) :
    (Builtin.clear_ #[37] ty #[.slice (some ⟨g, o, none⟩) 1 c]).run Tryz.prog W = .ok (.tuple #[]) (W.setRow g (cur.toList.take o ++ (famCs Fam.zero).toList ++ cur.toList.drop (o + 9)).toArray) := by
  have hst := run_storeCells_at Tryz.prog g o _ (famCs Fam.zero).toList 0 cur W hg hfit (fun v hv => flat_one (L := [Fam.zero]) (by simpa [flat] using hv))
  have hzc : Builtin.zeroCells (Value.agg (famCs Fam.zero)).cells 1 = famCs Fam.zero := zero_cells
  simp only [Nat.add_zero] at hst
  have hz := zero_fam W
  have hZ : (famCs Fam.zero).size = 9 := rfl
  generalize famCs Fam.zero = Z at hst hzc hz hZ ⊢
  simp [Builtin.clear_, run_underlying Tryz.underlying37, hz, hzc, hst, hZ]
/-- the cells behind a deletion -/
theorem del_cells {L : List Fam} {xs : List Value} {i c : Nat} (hx : xs.length = c * 9) (ht : xs.take (L.length * 9) = flat L) (hi : i < L.length) (hc : L.length ≤ c) :
    let c1 := xs.take (i * 9) ++ flat (L.drop (i + 1)) ++ xs.drop (i * 9 + (flat (L.drop (i + 1))).length)
    let c2 := c1.take ((L.length - 1) * 9) ++ (famCs Fam.zero).toList ++ c1.drop ((L.length - 1) * 9 + 9)
    c1.length = c * 9 ∧ c2.length = c * 9 ∧ c2.take ((L.length - 1) * 9) = flat (L.take i ++ L.drop (i + 1)) := by
  intro c1 c2
  have hd : (flat (L.drop (i + 1))).length = (L.length - (i + 1)) * 9 := by rw [flat_len, List.length_drop]
  have hf : (famCs Fam.zero).toList.length = 9 := rfl
  have htk : xs.take (i * 9) = flat (L.take i) := by rw [flat_take, ← ht, List.take_take]; congr 1; omega
  have hl : (flat (L.take i)).length = i * 9 := by rw [flat_len, List.length_take]; congr 1; omega
  have h1 : c1.length = c * 9 := by
    show (xs.take (i * 9) ++ flat (L.drop (i + 1)) ++ xs.drop (i * 9 + (flat (L.drop (i + 1))).length)).length = _
    simp only [List.length_append, List.length_take, List.length_drop, hd, hx]
    omega
  have ht1 : c1.take ((L.length - 1) * 9) = flat (L.take i ++ L.drop (i + 1)) := by
    show (xs.take (i * 9) ++ flat (L.drop (i + 1)) ++ xs.drop (i * 9 + (flat (L.drop (i + 1))).length)).take ((L.length - 1) * 9) = _
    have hll : (flat (L.take i) ++ flat (L.drop (i + 1))).length = (L.length - 1) * 9 := by rw [List.length_append, hl, hd]; omega
    rw [htk, flat_app, ← hll, List.take_left]
  refine ⟨h1, ?_, ?_⟩
  · show (c1.take ((L.length - 1) * 9) ++ (famCs Fam.zero).toList ++ c1.drop ((L.length - 1) * 9 + 9)).length = _
    simp only [List.length_append, List.length_take, List.length_drop, h1, hf]
    omega
  · show (c1.take ((L.length - 1) * 9) ++ (famCs Fam.zero).toList ++ c1.drop ((L.length - 1) * 9 + 9)).take ((L.length - 1) * 9) = _
    have hll : (c1.take ((L.length - 1) * 9)).length = (L.length - 1) * 9 := by rw [List.length_take, h1]; omega
    rw [List.append_assoc, List.take_append_of_le_length (by omega), List.take_take, Nat.min_self, ht1]

set_option maxHeartbeats 8000000 in
set_option maxRecDepth 100000 in
theorem fam_delete (B i : Nat) (v : Value) (L : List Fam) (w : World) (h : FRow w B v L) (hi : i < L.length) (hL : L.length ≤ 1000000) :
    Calls Tryz.prog 106 #[v, .int .i64 i, .int .i64 ((i : Int) + 1)] w fun e w' => ∃ v', e = .returned v' ∧ FRow w' B v' (L.take i ++ L.drop (i + 1)) ∧ w.grownBy w' v.ownBlock := by
  rcases h.block with ⟨rfl, rfl⟩ | ⟨g, cap, cur, rfl, hBg, hb, hlc, hm, hc, ht⟩
  · simp at hi
  obtain ⟨i0, hi0, hz0, hzs, hzb⟩ := info_parts famInfo
  have hcl : cur.toList.length = cap * 9 := by rw [Array.length_toList]; exact hc
  obtain ⟨k1, k2, k3⟩ := del_cells hcl ht hi hlc
  have hd : (flat (L.drop (i + 1))).length = (L.length - (i + 1)) * 9 := by rw [flat_len, List.length_drop]
  obtain ⟨c1, hc1⟩ : ∃ c1 : Array Value, c1 = (cur.toList.take (i * 9) ++ flat (L.drop (i + 1)) ++ cur.toList.drop (i * 9 + (flat (L.drop (i + 1))).length)).toArray := ⟨_, rfl⟩
  have hc1l : c1.toList = cur.toList.take (i * 9) ++ flat (L.drop (i + 1)) ++ cur.toList.drop (i * 9 + (flat (L.drop (i + 1))).length) := by rw [hc1]
  rw [← hc1l] at k1 k2 k3
  obtain ⟨W1, hW1⟩ : ∃ W1, W1 = w.drew.setCells g (0 + i * 9) (flat (L.drop (i + 1))) := ⟨_, rfl⟩
  have hW1' : W1 = w.drew.setRow g c1 := by
    rw [hW1, hc1, Nat.zero_add]
    exact setCells_row hb.drew (by rw [hd, hc]; omega) (fun u hu => flat_one hu)
  have hb1 : Blk W1 g 79 c1 := by rw [hW1']; exact hb.drew.row
  obtain ⟨c2, hc2⟩ : ∃ c2 : Array Value, c2 = (c1.toList.take ((L.length - 1) * 9) ++ (famCs Fam.zero).toList ++ c1.toList.drop ((L.length - 1) * 9 + 9)).toArray := ⟨_, rfl⟩
  have hc2l : c2.toList = c1.toList.take ((L.length - 1) * 9) ++ (famCs Fam.zero).toList ++ c1.toList.drop ((L.length - 1) * 9 + 9) := by rw [hc2]
  have hcr : ∀ ty c, (Builtin.clear_ #[37] ty #[.slice (some ⟨g, (L.length - 1) * 9, none⟩) 1 c]).run Tryz.prog W1 = .ok (.tuple #[]) (W1.setRow g c2) := fun ty c => by
    rw [hc2]
    exact run_clear_fam W1 ty g _ c c1 hb1 (by rw [← Array.length_toList, k1]; omega)
  rw [← hc2l] at k2 k3
  have hlen : (L.take i ++ L.drop (i + 1)).length = L.length - 1 := by simp; omega
  have HFIN := Lib.hid (show FRow (W1.setRow g c2) B (.slice (some ⟨g, 0, none⟩) (L.take i ++ L.drop (i + 1)).length cap) (L.take i ++ L.drop (i + 1)) ∧ w.grownBy (W1.setRow g c2) (some g) from by
    refine ⟨FRow.of_block hBg hb1.row (by omega) hm (by rw [← Array.length_toList]; exact k2) (by rw [hlen]; exact k3), ?_⟩
    rw [hW1']
    exact only_trans (only_trans (only_drew (only_refl w (some g))) (only_setRow w.drew g c1)) (only_setRow _ g c2))
  rw [hlen] at HFIN
  obtain ⟨A, hA, hsrc⟩ : ∃ A : Addr, (if cap = i + 1 then some (⟨g, 0, none⟩ : Addr) else some ⟨g, (i + 1) * 9, none⟩) = some A ∧ Hid (∀ t u, (flat (L.drop (i + 1)))[t]? = some u → w.drew.cell? (A.add t) = some u) := by
    by_cases hq : cap = i + 1
    · refine ⟨⟨g, 0, none⟩, by simp [hq], fun t u hu => ?_⟩
      have := (List.getElem?_eq_some_iff.1 hu).1
      omega
    · refine ⟨⟨g, (i + 1) * 9, none⟩, by simp [hq], fun t u hu => ?_⟩
      have hul := (List.getElem?_eq_some_iff.1 hu).1
      rw [Addr.add_lit]
      show w.cell? ⟨g, (i + 1) * 9 + t, none⟩ = some u
      rw [hb.cell, ← hu, flat_drop, List.getElem?_drop, ← ht, List.getElem?_take, if_pos (by omega), Array.getElem?_toList]
  have s1 : Hid ((flat (L.drop (i + 1))).length = (L.length - (i + 1)) * 9) := hd
  have s2 : Hid (∀ u ∈ flat (L.drop (i + 1)), u.oneCell' = true) := fun u hu => flat_one hu
  have s3 : Hid (∀ t, t < (flat (L.drop (i + 1))).length → (w.drew.cell? ⟨g, 0 + i * 9 + t, none⟩).isSome = true ∧ w.drew.frozen? ⟨g, 0 + i * 9 + t, none⟩ = false) := fun t htl => by
    rw [hd] at htl
    exact ⟨by show (w.cell? _).isSome = true; rw [hb.cell, Array.getElem?_eq_getElem (by omega)]; rfl, hb.frozen _⟩
  have HW := Lib.hid hW1
  have mixed : Tryz.prog.follows .mixedOrders = true := by kernel_rfl
  have hic : i ≤ cap := by omega
  have hjc : i + 1 ≤ cap := by omega
  have hjn : i + 1 ≤ L.length := by omega
  have hw1 : ((i : Int) + 1).toNat = i + 1 := by omega
  have hz1 : (0 : Int) ≤ (i : Int) + 1 := by omega
  have hz2 : (i : Int) ≤ (i : Int) + 1 := by omega
  have hz3 : ¬ ((i : Int) = (i : Int) + 1) := by omega
  have hz4 : (i : Int) + 1 ≤ (L.length : Int) := by omega
  have hsum : i + (L.length - (i + 1)) = L.length - 1 := by omega
  have hone : L.length - (L.length - 1) = 1 := by omega
  have hz5 : ¬ (cap = L.length - 1) := by omega
  clear k1 k2 k3 hd hcl ht hc1 hc1l hc2 hc2l hb1 hW1 hW1' hb hlen h
  go_enter Tryz.func106, Tryz.ntmps106
  go_wp2_with fail
  go_region_law_o (refine step_append_room rfl (.tmp 22) (.tmp 25) 37 rfl 79 i0 9 Tryz.underlying37 hi0 hzs g 0 i cap (by simp [Act.eval, Act.put]) A (L.length - (i + 1)) (cap - (i + 1)) (flat (L.drop (i + 1))) (by simp [Act.eval, Act.put]) s1.out hsrc.out s2.out (by omega) s3.out ?_; rw [← HW.out])
  go_wp2
  go_ret
  exact ⟨_, rfl, HFIN.out.1, HFIN.out.2⟩
end Go.Proofs.YtckohmhhcknmaaaGreatDoor
