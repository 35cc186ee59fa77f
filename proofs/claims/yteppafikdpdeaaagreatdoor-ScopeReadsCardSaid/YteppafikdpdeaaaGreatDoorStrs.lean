/-
  A slice of strings that the call itself made, told as a list of texts; a text's bytes as a list; slices.ContainsFunc at 'longer than a word may be'.
-/
import Derived.Test.YteppafikdpdeaaaGreatDoorScopePure
import Derived.Test.YteppafikdpdeaaaGreatDoorWords
import Derived.Sort.OwnSorted
import Derived.Lib.OwnBridge
import Derived.Laws.OwnMore
import Derived.LoopTactic
import Derived.Deep.LoopGhost
import Derived.Deep.QuietTactic
import Derived.BigQuiet
namespace Go.Proofs.YteppafikdpdeaaaGreatDoor
open Go.RowKit Go.Sort

/-- a text by its bytes -/
def txt (l : List UInt8) : ByteArray := ⟨l.toArray⟩
theorem txt_data (s : ByteArray) : txt s.data.toList = s := by cases s; simp [txt]
theorem data_txt (l : List UInt8) : (txt l).data.toList = l := by simp [txt]
theorem txt_size (l : List UInt8) : (txt l).size = l.length := by simp [txt, ByteArray.size]
theorem size_data (s : ByteArray) : s.data.toList.length = s.size := by cases s; simp [ByteArray.size]
theorem txt_inj {a b : List UInt8} (h : txt a = txt b) : a = b := by rw [← data_txt a, h, data_txt]
theorem txt_app (a b : List UInt8) : txt a ++ txt b = txt (a ++ b) := by
  apply ByteArray.ext
  simp [txt]
theorem encStr_txt (l : List UInt8) : encStr l = .string (txt l) := rfl

/-- v is a slice (not nil) of the call's own that holds the texts L -/
def Row (w : World) (B : Nat) (v : Value) (L : List (List UInt8)) : Prop :=
  ∃ g cap, v = .slice (some ⟨g, 0, none⟩) L.length cap ∧ w.ownsRow B 9 1 v L.length (L.map encStr)

section
variable {w w' : World} {B : Nat} {v : Value} {L : List (List UInt8)}
theorem Row.kept (h : Row w B v L) {row : Option Nat} (hg : w.grownBy w' row) (hne : v.ownBlock ≠ row) : Row w' B v L := by
  obtain ⟨g, cap, e, ho⟩ := h
  exact ⟨g, cap, e, ho.kept hg (.inr hne)⟩
theorem Row.below (h : Row w B v L) (hb : Below w.heap.size w w') : Row w' B v L := by
  obtain ⟨g, cap, e, ho⟩ := h
  exact ⟨g, cap, e, ho.kept (only_of_below hb none) (.inr (by rw [e]; simp [Value.ownBlock]))⟩
theorem Row.drewN (h : Row w B v L) (n : Nat) : Row (w.drewN n) B v L := h
theorem Row.drew (h : Row w B v L) : Row w.drew B v L := h
theorem Row.alloc (h : Row w B v L) (o : Obj) : Row (w.alloc o) B v L := by
  obtain ⟨g, cap, e, ho⟩ := h
  exact ⟨g, cap, e, ho.alloc o⟩
theorem Row.cell {g cap : Nat} (h : Row w B (.slice (some ⟨g, 0, none⟩) L.length cap) L) (j : Nat) (hj : j < L.length) : w.cell? ⟨g, j, none⟩ = some (.string (txt (L.getD j []))) := by
  obtain ⟨g', cap', e, ho⟩ := h
  have := ho.cellAt j (by omega)
  rw [this]
  simp [List.getD, hj, encStr, txt]
theorem Row.parts (h : Row w B v L) : ∃ g cap, v = .slice (some ⟨g, 0, none⟩) L.length cap ∧ B ≤ g ∧ g < w.heap.size ∧ L.length ≤ cap ∧ cap ≤ maxLen ∧ Holds encStr w g 0 L.toArray := by
  obtain ⟨g, cap, rfl, ho⟩ := h
  obtain ⟨g', cap', e, h1, h2, h3, h4, _, h6⟩ := Lib.holds_of_ownsRow ho (by simp)
  injection e with e1 _ e3
  injection e1 with e1
  injection e1 with e1
  subst e1; subst e3
  exact ⟨g, cap, rfl, h1, h2, h3, h4, h6⟩
theorem Row.mono {B' : Nat} (h : Row w B v L) (hB : B' ≤ B) : Row w B' v L := by
  obtain ⟨g, cap, rfl, ho⟩ := h
  refine ⟨g, cap, rfl, ho.1, ?_⟩
  rcases ho.2 with h0 | ⟨g', cap', cur, e, h1, h2⟩
  · exact .inl h0
  · exact .inr ⟨g', cap', cur, e, by omega, h2⟩
/-- a block that holds just these texts -/
theorem Row.new (hB : B ≤ w.heap.size) (hm : L.length ≤ maxLen) : Row (w.alloc (.cells (L.map encStr).toArray 9)) B (.slice (some ⟨w.heap.size, 0, none⟩) L.length L.length) L := by
  refine ⟨_, _, rfl, by simp, .inr ⟨w.heap.size, L.length, (L.map encStr).toArray, rfl, hB, heap_alloc_new w _, Nat.le_refl _, hm, by simp, ?_⟩⟩
  rw [List.take_of_length_le (by simp)]
theorem Row.sorted {g cap n : Nat} {os : Array Obj} {T : List (List UInt8)} (h : Row w B (.slice (some ⟨g, 0, none⟩) L.length cap) L) (hl : T.length = L.length) :
    Row (grow (putRow encStr (Sort.ahead w n) g 0 T.toArray) os) B (.slice (some ⟨g, 0, none⟩) L.length cap) T := by
  obtain ⟨g', cap', e, ho⟩ := h
  injection e with e1 _ e3
  injection e1 with e1
  injection e1 with e1
  subst e1; subst e3
  rcases ho.2 with ⟨h0, _⟩ | ⟨g', cap', cur, hv, hbase, hb, h1, h2, h3, h4⟩
  · cases h0
  cases hv
  refine ⟨g, cap, by rw [hl], ?_⟩
  rw [hl]
  exact ownsRow_sorted (n := n) (os := os) hl hbase hb h1 h2 h3
theorem Row.cut {g cap q : Nat} {T : List (List UInt8)} (h : Row w B (.slice (some ⟨g, 0, none⟩) L.length cap) L) (hl : T.length ≤ L.length) :
    Row (putRow encStr (Sort.ahead w q) g 0 (T ++ List.replicate (L.length - T.length) []).toArray) B (.slice (some ⟨g, 0, none⟩) T.length cap) T := by
  obtain ⟨g', cap', e, ho⟩ := h
  injection e with e1 _ e3
  injection e1 with e1
  injection e1 with e1
  subst e1; subst e3
  have hc := Lib.ownsRow_putRow (q := q) (k := T.length) (ys := T ++ List.replicate (L.length - T.length) []) ho (by simp; omega) hl
  rw [List.take_left] at hc
  exact ⟨g, cap, rfl, hc⟩
end

theorem long_b (x : ByteArray) (w : World) : Calls Tryz.prog 17 #[.string x] w fun e w' => e = .returned (.bool (decide (8 < x.size))) ∧ w = w' := by
  by_cases h : 8 < x.size
  · have h1 : decide (8 < x.size) = true := by simpa using h
    go_enter Tryz.func17, Tryz.ntmps17
    go_wp2_with fail
    go_ret
    exact ⟨by rw [h1]; simp; omega, rfl⟩
  · have h1 : decide (8 < x.size) = false := by simpa using h
    go_enter Tryz.func17, Tryz.ntmps17
    go_wp2_with fail
    go_ret
    exact ⟨by rw [h1]; simp; omega, rfl⟩

def longB (l : List UInt8) : Bool := decide (8 < l.length)
def IdxRel (L : List (List UInt8)) (w : World) (i : Value) (wr : World) : Prop := ∃ k q : Nat, k ≤ L.length ∧ i = .int .i64 k ∧ wr = w.drewN q ∧ ∀ j, j < k → longB (L.getD j []) = false

theorem any_of_at {L : List (List UInt8)} {k : Nat} (hk : k < L.length) (h : longB (L.getD k []) = true) : L.any longB = true := by
  rw [List.any_eq_true]
  refine ⟨L[k], List.getElem_mem hk, ?_⟩
  simpa [List.getD, hk] using h
theorem any_of_none {L : List (List UInt8)} (h : ∀ j, j < L.length → longB (L.getD j []) = false) : L.any longB = false := by
  rw [List.any_eq_false]
  intro x hx
  obtain ⟨j, hj, rfl⟩ := List.mem_iff_getElem.1 hx
  have := h j hj
  simpa [List.getD, hj] using this
def AtOrNot (L : List (List UInt8)) (w : World) (e : Ending) (w' : World) : Prop := ∃ (n : Int) (q : Nat), e = .returned (.int .i64 n) ∧ decide (0 ≤ n) = L.any longB ∧ w' = w.drewN q

set_option maxHeartbeats 1000000 in
theorem index_long (B g cap : Nat) (L : List (List UInt8)) (w : World) (h : Row w B (.slice (some ⟨g, 0, none⟩) L.length cap) L) (hL : L.length ≤ 1000000) :
    Calls Tryz.prog 31 #[.slice (some ⟨g, 0, none⟩) L.length cap, .func (.func 17) #[] #[]] w (AtOrNot L w) := by
  have HR := Lib.hid h
  clear h
  go_enter Tryz.func31, Tryz.ntmps31
  go_wp2
  go_loopw [8] (fun i wr => IdxRel L w i wr) (fun i _ => L.length - (intOf i).toNat)
  case atStart => exact ⟨0, 0, Nat.zero_le _, rfl, rfl, fun j hj => absurd hj (Nat.not_lt_zero _)⟩
  case round =>
    obtain ⟨k, q, hk, rfl, rfl, hno⟩ := hrel
    have HN := Lib.hid hno
    clear hno
    by_cases hlt : k < L.length
    · have hc := (HR.out.drewN q).cell k hlt
      have hsz := txt_size (L.getD k [])
      generalize hx : txt (L.getD k []) = x at *
      have HX := Lib.hid hx
      clear hx
      by_cases hlong : 8 < x.size
      · have hd : decide (8 < x.size) = true := by simpa using hlong
        have HS := Lib.hid hsz
        clear hsz
        go_wp2_with (go_at_call 17; refine (long_b _ _).mono ?_; rintro e w1 ⟨rfl, rfl⟩)
        go_ret
        refine ⟨k, q, rfl, ?_, rfl⟩
        rw [any_of_at hlt (by unfold longB; rw [← HS.out]; simpa using hlong)]
        simp
      · have hd : decide (8 < x.size) = false := by simpa using hlong
        have HS := Lib.hid hsz
        clear hsz
        go_wp2_with (go_at_call 17; refine (long_b _ _).mono ?_; rintro e w1 ⟨rfl, rfl⟩)
        go_roundw
        case rel =>
          refine ⟨k + 1, q, by omega, by go_num, rfl, fun j hj => ?_⟩
          by_cases e : j = k
          · subst e
            unfold longB
            rw [← HS.out]
            simpa using hlong
          · exact HN.out j (by omega)
        case measure => simp [intOf]; omega
    · go_wp2
      go_ret
      refine ⟨-1, q, rfl, ?_, rfl⟩
      rw [any_of_none fun j hj => HN.out j (by omega)]
      rfl

set_option maxHeartbeats 1000000 in
theorem contains_long (B g cap : Nat) (L : List (List UInt8)) (w : World) (h : Row w B (.slice (some ⟨g, 0, none⟩) L.length cap) L) (hL : L.length ≤ 1000000) :
    Calls Tryz.prog 16 #[.slice (some ⟨g, 0, none⟩) L.length cap, .func (.func 17) #[] #[]] w fun e w' => e = .returned (.bool (L.any longB)) ∧ ∃ q, w' = w.drewN q := by
  have H := Lib.hid (index_long B g cap L w h hL)
  clear h
  go_enter Tryz.func16, Tryz.ntmps16
  go_wp2_with (go_at_call 31; refine H.out.mono ?_; rintro e w1 ⟨n, q, rfl, hn, rfl⟩; have HN := Lib.hid hn; clear hn)
  go_ret
  exact ⟨by rw [← HN.out]; rfl, q, rfl⟩
end Go.Proofs.YteppafikdpdeaaaGreatDoor
