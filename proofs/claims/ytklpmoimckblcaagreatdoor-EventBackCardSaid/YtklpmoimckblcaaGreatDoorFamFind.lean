/-
  slices.BinarySearchFunc of families, by number.
-/
import Derived.Test.YtklpmoimckblcaaGreatDoorFams
namespace Go.Proofs.YtklpmoimckblcaaGreatDoor
open Go.RowKit Go.Sort

theorem fam_cmp (f : Fam) (n : Int) (hf : okN f.id = true) (hn : okN n = true) (w : World) :
    Calls Tryz.prog 38 #[famVal f, .int .i64 n] w fun e w' => e = .returned (.int .i64 (f.id - n)) ∧ Below w.heap.size w w' := by
  have h1 := okN_iff.1 hf
  have h2 := okN_iff.1 hn
  obtain ⟨i, cl, su, sc, ge, ma, us, re, de⟩ := f
  dsimp only at h1
  unfold famVal famCs
  dsimp only
  go_enter Tryz.func38, Tryz.ntmps38
  go_wp2_with fail
  go_ret
  exact ⟨rfl, (Below.refl _ _).alloc (Nat.le_refl _) _⟩

/-- one family's nine cells -/
theorem FRow.nine {w : World} {B g cap : Nat} {L : List Fam} (h : FRow w B (.slice (some ⟨g, 0, none⟩) L.length cap) L) {k : Nat} {i : Int} {cl su sc : ByteArray} {ge ma us : Int} {re : ByteArray} {de : Bool} (hk : L[k]? = some ⟨i, cl, su, sc, ge, ma, us, re, de⟩) :
    w.cell? ⟨g, k * 9, none⟩ = some (.int .i64 i) ∧ w.cell? ⟨g, k * 9 + 1, none⟩ = some (.string cl) ∧ w.cell? ⟨g, k * 9 + 2, none⟩ = some (.string su) ∧ w.cell? ⟨g, k * 9 + 3, none⟩ = some (.string sc) ∧ w.cell? ⟨g, k * 9 + 4, none⟩ = some (.int .i64 ge) ∧
    w.cell? ⟨g, k * 9 + 5, none⟩ = some (.int .i64 ma) ∧ w.cell? ⟨g, k * 9 + 6, none⟩ = some (.int .i64 us) ∧ w.cell? ⟨g, k * 9 + 7, none⟩ = some (.string re) ∧ w.cell? ⟨g, k * 9 + 8, none⟩ = some (.bool de) :=
  ⟨h.at_ hk 0 (by decide), h.at_ hk 1 (by decide), h.at_ hk 2 (by decide), h.at_ hk 3 (by decide), h.at_ hk 4 (by decide), h.at_ hk 5 (by decide), h.at_ hk 6 (by decide), h.at_ hk 7 (by decide), h.at_ hk 8 (by decide)⟩
/-- the search's two bounds -/
structure FD (W : World) (B : Nat) (v : Value) (L : List Fam) (n : Int) (a b : Nat) (w : World) : Prop where
  below : Below W.heap.size W w
  row : FRow w B v L
  le : a ≤ b
  top : b ≤ L.length
  low : ∀ j f, j < a → L[j]? = some f → f.id < n
  high : ∀ j f, b ≤ j → L[j]? = some f → n ≤ f.id
def FindRel (W : World) (B : Nat) (v : Value) (L : List Fam) (n : Int) (i j : Value) (wr : World) : Prop := ∃ a b : Nat, i = .int .i64 a ∧ j = .int .i64 b ∧ FD W B v L n a b wr

set_option maxHeartbeats 4000000 in
set_option maxRecDepth 100000 in
theorem fam_find_some (B g cap : Nat) (L : List Fam) (n : Int) (W : World) (h : FRow W B (.slice (some ⟨g, 0, none⟩) L.length cap) L) (hL : L.length ≤ 1000000) (hA : Asc L) (hids : ∀ f ∈ L, okN f.id = true) (hn : okN n = true) :
    Calls Tryz.prog 37 #[.slice (some ⟨g, 0, none⟩) L.length cap, .int .i64 n, .func (.func 38) #[] #[]] W
      fun e w' => e = .returned (.tuple #[.int .i64 (ahead L n), .bool (hasB L n)]) ∧ Below W.heap.size W w' := by
  have H0 := Lib.hid h
  have HI := Lib.hid hids
  have HA := Lib.hid hA
  clear h hids hA
  go_enter Tryz.func37, Tryz.ntmps37
  go_wp2
  go_loopw [9, 10] (fun i j wr => FindRel W B (.slice (some ⟨g, 0, none⟩) L.length cap) L n i j wr) (fun i j _ => (intOf j).toNat - (intOf i).toNat)
  case atStart => exact ⟨0, L.length, rfl, rfl, Below.refl _ _, H0.out, Nat.zero_le _, Nat.le_refl _, fun j f hj => absurd hj (Nat.not_lt_zero _), fun j f hj hf => by rw [List.getElem?_eq_none hj] at hf; cases hf⟩
  case round =>
    obtain ⟨a, b, rfl, rfl, hd⟩ := hrel
    have HD := Lib.hid hd
    have hab := hd.le
    have htop := hd.top
    clear hd
    by_cases hlt : a < b
    · obtain ⟨k, hk1, hk2, hk3, hk4⟩ : ∃ k : Nat, ((a : Int) + (b : Int)) / 2 = (k : Int) ∧ (a + b) / 2 = k ∧ a ≤ k ∧ k < b := ⟨(a + b) / 2, by omega, rfl, by omega, by omega⟩
      have hkL : k < L.length := by omega
      obtain ⟨f, hf⟩ : ∃ f, L[k]? = some f := ⟨_, List.getElem?_eq_getElem hkL⟩
      have hfo := HI.out f (List.mem_of_getElem? hf)
      have HC := Lib.hid (fun w => fam_cmp f n hfo hn w)
      have hfr := okN_iff.1 hfo
      have hnr := okN_iff.1 hn
      have hsh : ∀ j f', j < k + 1 → L[j]? = some f' → f'.id ≤ f.id := by
        intro j f' hj hf'
        rcases Nat.lt_or_ge j k with hjk | hjk
        · have := List.pairwise_iff_getElem.1 HA.out j k (by omega) hkL hjk
          rw [List.getElem?_eq_getElem (by omega)] at hf' hf
          cases hf'
          cases hf
          omega
        · obtain rfl : j = k := by omega
          rw [hf] at hf'
          cases hf'
          exact Int.le_refl _
      have hsl : ∀ j f', k ≤ j → L[j]? = some f' → f.id ≤ f'.id := by
        intro j f' hj hf'
        rcases Nat.lt_or_ge k j with hjk | hjk
        · have hjl := (List.getElem?_eq_some_iff.1 hf').1
          have := List.pairwise_iff_getElem.1 HA.out k j hkL hjl hjk
          rw [List.getElem?_eq_getElem (by omega)] at hf' hf
          cases hf'
          cases hf
          omega
        · obtain rfl : j = k := by omega
          rw [hf] at hf'
          cases hf'
          exact Int.le_refl _
      have HSH := Lib.hid hsh
      have HSL := Lib.hid hsl
      obtain ⟨i, cl, su, sc, ge, ma, us, re, de⟩ := f
      obtain ⟨c0, c1, c2, c3, c4, c5, c6, c7, c8⟩ := HD.out.row.nine hf
      have HF := Lib.hid hf
      unfold famVal famCs at HC
      dsimp only at HC hfr hfo
      clear hf hsh hsl hfo
      by_cases hc : i < n
      all_goals
        go_wp2_with fail
        go_at_call 38
        refine (HC.out _).mono ?_
        rintro e w1 ⟨rfl, hb⟩
        have HB := Lib.hid hb
        clear hb c0 c1 c2 c3 c4 c5 c6 c7 c8
        go_wp2_with fail
      · go_roundw
        case rel => exact ⟨k + 1, b, by go_num, rfl, below_2 HD.out.below HB.out, HD.out.row.below HB.out, by omega, HD.out.top, fun j f' hj hf' => by have := HSH.out j f' hj hf'; omega, HD.out.high⟩
        case measure => simp [intOf]; omega
      · go_roundw
        case rel => exact ⟨a, k, rfl, rfl, below_2 HD.out.below HB.out, HD.out.row.below HB.out, hk3, by omega, HD.out.low, fun j f' hj hf' => by have := HSL.out j f' hj hf'; omega⟩
        case measure => simp [intOf]; omega
    · obtain rfl : a = b := by omega
      have HE := Lib.hid (ahead_eq HA.out HD.out.top HD.out.low HD.out.high)
      by_cases haL : a < L.length
      · obtain ⟨f, hf⟩ : ∃ f, L[a]? = some f := ⟨_, List.getElem?_eq_getElem haL⟩
        have hfo := HI.out f (List.mem_of_getElem? hf)
        have HC := Lib.hid (fun w => fam_cmp f n hfo hn w)
        have HHB := Lib.hid (hasB_some (L := L) (n := n) (f := f) (by rw [HE.out]; exact hf))
        obtain ⟨i, cl, su, sc, ge, ma, us, re, de⟩ := f
        obtain ⟨c0, c1, c2, c3, c4, c5, c6, c7, c8⟩ := HD.out.row.nine hf
        have hz : (i - n == 0) = decide (i = n) := by rw [Bool.eq_iff_iff]; simp; omega
        unfold famVal famCs at HC
        dsimp only at HC HHB
        generalize decide (i = n) = bq at *
        clear hf hfo
        go_wp2_with fail
        go_at_call 38
        refine (HC.out _).mono ?_
        rintro e w1 ⟨rfl, hb⟩
        have HB := Lib.hid hb
        clear hb c0 c1 c2 c3 c4 c5 c6 c7 c8
        go_wp2_with fail
        go_ret2
        exact ⟨by rw [HE.out, HHB.out]; rfl, below_2 HD.out.below HB.out⟩
      · have HHB := Lib.hid (hasB_none (L := L) (n := n) (by rw [HE.out]; omega))
        go_wp2_with fail
        go_ret2
        exact ⟨by rw [HE.out, HHB.out]; rfl, HD.out.below⟩
set_option maxHeartbeats 4000000 in
set_option maxRecDepth 100000 in
theorem fam_find_nil (n : Int) (W : World) :
    Calls Tryz.prog 37 #[.slice none 0 0, .int .i64 n, .func (.func 38) #[] #[]] W
      fun e w' => e = .returned (.tuple #[.int .i64 0, .bool false]) ∧ W = w' := by
  go_enter Tryz.func37, Tryz.ntmps37
  go_wp2
  go_loopw [9, 10] (fun i j wr => i = .int .i64 0 ∧ j = .int .i64 0 ∧ W = wr) (fun _ _ _ => 0)
  case atStart => exact ⟨rfl, rfl, rfl⟩
  case round =>
    obtain ⟨rfl, rfl, rfl⟩ := hrel
    go_wp2_with fail
    go_ret2
    exact ⟨rfl, rfl⟩
theorem fam_find (B : Nat) (v : Value) (L : List Fam) (n : Int) (W : World) (h : FRow W B v L) (hL : L.length ≤ 1000000) (hA : Asc L) (hids : ∀ f ∈ L, okN f.id = true) (hn : okN n = true) :
    Calls Tryz.prog 37 #[v, .int .i64 n, .func (.func 38) #[] #[]] W
      fun e w' => e = .returned (.tuple #[.int .i64 (ahead L n), .bool (hasB L n)]) ∧ Below W.heap.size W w' := by
  rcases h.parts with ⟨rfl, rfl⟩ | ⟨g, cap, rfl, _⟩
  · exact (fam_find_nil n W).mono fun e w' hh => ⟨hh.1, hh.2 ▸ Below.refl _ _⟩
  · exact fam_find_some B g cap L n W h hL hA hids hn
/-- event.Apply's search: its slice lies in a variable -/
theorem fam_at (B vb : Nat) (v : Value) (L : List Fam) (n : Int) (W : World) (h : FRow W B v L) (hv : W.cell? ⟨vb, 0, none⟩ = some v) (hL : L.length ≤ 1000000) (hA : Asc L) (hids : ∀ f ∈ L, okN f.id = true) (hn : okN n = true) :
    Calls Tryz.prog 36 #[.int .i64 n, .pointer (some ⟨vb, 0, none⟩)] W fun e w' => e = .returned (.tuple #[.int .i64 (ahead L n), .bool (hasB L n)]) ∧ Below W.heap.size W w' := by
  have H := Lib.hid (fam_find B v L n W h hL hA hids hn)
  clear hA hids hn
  rcases h.parts with ⟨rfl, rfl⟩ | ⟨g, cap, rfl, _⟩
  all_goals
    clear h
    go_enter Tryz.func36, Tryz.ntmps36
    go_wp2_with (go_at_call 37; refine H.out.mono ?_; rintro e w1 ⟨rfl, hb⟩; have HB := Lib.hid hb; clear hb)
    go_ret2
    exact ⟨rfl, HB.out⟩
end Go.Proofs.YtklpmoimckblcaaGreatDoor
