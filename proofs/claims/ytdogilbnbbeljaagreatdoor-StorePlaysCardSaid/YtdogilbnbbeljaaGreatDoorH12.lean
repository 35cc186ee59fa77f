/-
  A slot's writes, one behind the other: what lies on the disk behind some of them, and behind all.
-/
import Derived.Test.YtdogilbnbbeljaaGreatDoorH06
import Derived.Test.YtdogilbnbbeljaaGreatDoorH11
import Derived.Test.YtdogilbnbbeljaaGreatDoorH04
import Derived.Test.YtdogilbnbbeljaaGreatDoorH03
import Derived.Maps.AppendAt
import Derived.Deep.Onto
import Derived.Lib.SliceRun
namespace Go.Proofs.YtdogilbnbbeljaaGreatDoor

/-- the writes of a slot's families, from the i-th on -/
def famU (at_ : Nat) : Nat → List Fam → List (Nat × List UInt8)
  | _, [] => []
  | i, f :: r => (at_ + 1 + i, evL (putEv f)) :: famU at_ (i + 1) r
def updAll (blk : Nat → List UInt8) (ws : List (Nat × List UInt8)) : Nat → List UInt8 := ws.foldl (fun b w => upd b w.1 w.2) blk
theorem updAll_cons (blk : Nat → List UInt8) (w : Nat × List UInt8) (ws : List (Nat × List UInt8)) : updAll blk (w :: ws) = updAll (upd blk w.1 w.2) ws := rfl
theorem updAll_snoc (blk : Nat → List UInt8) (ws : List (Nat × List UInt8)) (w : Nat × List UInt8) : updAll blk (ws ++ [w]) = upd (updAll blk ws) w.1 w.2 := by
  unfold updAll
  rw [List.foldl_append]
  rfl
/-- elsewhere nothing turns -/
theorem updAll_out (at_ j : Nat) : ∀ (L : List Fam) (i : Nat) (blk : Nat → List UInt8), (j < at_ + 1 + i ∨ at_ + 1 + i + L.length ≤ j) → updAll blk (famU at_ i L) j = blk j
  | [], _, _, _ => rfl
  | f :: r, i, blk, h => by
    rw [List.length_cons] at h
    rw [famU, updAll_cons, updAll_out at_ j r (i + 1) _ (by omega)]
    exact upd_other _ _ (by omega)
/-- each family lies at its place -/
theorem updAll_in (at_ : Nat) : ∀ (L : List Fam) (i k : Nat) (f : Fam) (blk : Nat → List UInt8), L[k]? = some f → updAll blk (famU at_ i L) (at_ + 1 + (i + k)) = evL (putEv f)
  | [], _, _, _, _, h => by simp at h
  | g :: r, i, 0, f, blk, h => by
    simp at h
    subst h
    rw [famU, updAll_cons, updAll_out at_ _ r (i + 1) _ (by omega), Nat.add_zero]
    exact upd_same _ _ _
  | g :: r, i, k + 1, f, blk, h => by
    rw [famU, updAll_cons]
    have := updAll_in at_ r (i + 1) k f (upd blk (at_ + 1 + i) (evL (putEv g))) (by simpa using h)
    rw [show i + 1 + k = i + (k + 1) by omega] at this
    exact this
theorem famU_len (at_ : Nat) : ∀ (i : Nat) (L : List Fam), (famU at_ i L).length = L.length
  | _, [] => rfl
  | i, f :: r => by rw [famU, List.length_cons, famU_len at_ (i + 1) r, List.length_cons]
theorem famU_take (at_ : Nat) : ∀ (m i : Nat) (L : List Fam), (famU at_ i L).take m = famU at_ i (L.take m)
  | 0, _, _ => by simp [famU]
  | m + 1, _, [] => by simp [famU]
  | m + 1, i, f :: r => by rw [famU, List.take_succ_cons, famU_take at_ m (i + 1) r, List.take_succ_cons, famU]
theorem famU_get (at_ : Nat) : ∀ (L : List Fam) (i k : Nat) (f : Fam), L[k]? = some f → (famU at_ i L)[k]? = some (at_ + 1 + (i + k), evL (putEv f))
  | [], _, _, _, h => by simp at h
  | g :: r, i, 0, f, h => by
    simp at h
    subst h
    simp [famU]
  | g :: r, i, k + 1, f, h => by
    have := famU_get at_ r (i + 1) k f (by simpa using h)
    rw [famU, List.getElem?_cons_succ, this, show i + 1 + k = i + (k + 1) by omega]
/-- one more is written -/
theorem famU_next (at_ : Nat) (L : List Fam) (m : Nat) (f : Fam) (h : L[m]? = some f) (blk : Nat → List UInt8) : updAll blk (famU at_ 0 (L.take (m + 1))) = upd (updAll blk (famU at_ 0 (L.take m))) (at_ + 1 + m) (evL (putEv f)) := by
  have h1 : famU at_ 0 (L.take (m + 1)) = famU at_ 0 (L.take m) ++ [(at_ + 1 + m, evL (putEv f))] := by
    rw [← famU_take, ← famU_take, List.take_add_one, famU_get at_ L 0 m f h, Nat.zero_add]
    rfl
  rw [h1, updAll_snoc]

section
variable {tg : Int → List UInt8 → List UInt8} {blk : Nat → List UInt8} {n f x : Int} {s0 : St} {es : List Ev}
/-- the power goes off among a slot's families: what lay there lies there -/
theorem SInv.cut (h : SInv tg blk n f x s0 es) (L : List Fam) (hl : L.length ≤ 20) : SInv tg (updAll blk (famU (slotAt ((n + 1) % 2).toNat) 0 L)) n f x s0 es :=
  h.part fun j hj => updAll_out _ j L 0 blk (by omega)
/-- the slot's head is written last: all is saved -/
theorem SInv.whole (h : SInv tg blk n f x s0 es) (hfit : Fit (es.foldl applyS s0)) (hn : n < 1000000) :
    SInv tg (upd (updAll blk (famU (slotAt ((n + 1) % 2).toNat) 0 (es.foldl applyS s0).fams)) (slotAt ((n + 1) % 2).toNat) (headL tg (n + 1) x (es.foldl applyS s0))) (n + 1) x x (es.foldl applyS s0) [] := by
  have hl := hfit.len
  refine h.saved hfit hn (fun j hj => ?_) (upd_same _ _ _) (fun i g hg => ?_)
  · rw [upd_other _ _ (by omega)]
    exact updAll_out _ j _ 0 blk (by omega)
  · have := updAll_in (slotAt ((n + 1) % 2).toNat) (es.foldl applyS s0).fams 0 i g blk hg
    rw [Nat.zero_add] at this
    rw [upd_other _ _ (by omega)]
    exact this
end
end Go.Proofs.YtdogilbnbbeljaaGreatDoor

/-
  A disk's blocks as texts; a slot's writes to it, as long as the power is on.
-/
namespace Go.Proofs.YtdogilbnbbeljaaGreatDoor
open Go.RowKit

/-- a disk's blocks, as texts -/
def blkOf (D : Dk) (k : Nat) : List UInt8 := (D.blk.getD k ByteArray.empty).data.toList
/-- no block is too long -/
def Dk.fits (D : Dk) : Prop := ∀ k, (D.blk.getD k ByteArray.empty).size ≤ 240
/-- is the power off? -/
def offB (D : Dk) : Bool := D.cut && D.left == 0
theorem blkOf_size {D : Dk} (h : D.fits) (k : Nat) : (blkOf D k).length ≤ 240 := by
  unfold blkOf
  rw [size_data]
  exact h k
theorem blkOf_put {D : Dk} {k : Nat} {s : ByteArray} (hl : D.blk.length = 90) (hk : k < 90) : blkOf (D.put k s) = upd (blkOf D) k s.data.toList := by
  funext j
  unfold blkOf Dk.put upd
  dsimp only
  by_cases h : j = k
  · subst h
    rw [if_pos rfl, List.getD_eq_getElem?_getD, List.getElem?_set_self (by omega)]
    rfl
  · rw [if_neg h, List.getD_eq_getElem?_getD, List.getElem?_set_ne (Ne.symm h), ← List.getD_eq_getElem?_getD]
theorem put_len (D : Dk) (k : Nat) (s : ByteArray) : (D.put k s).blk.length = D.blk.length := by
  unfold Dk.put
  simp
theorem fits_put {D : Dk} (h : D.fits) {s : ByteArray} (hs : s.size ≤ 240) (k : Nat) : (D.put k s).fits := by
  intro j
  unfold Dk.put
  dsimp only
  by_cases hj : j = k
  · subst hj
    by_cases hlt : j < D.blk.length
    · rw [List.getD_eq_getElem?_getD, List.getElem?_set_self hlt]
      exact hs
    · rw [List.getD_eq_getElem?_getD, List.getElem?_eq_none (by simp; omega)]
      exact Nat.zero_le _
  · rw [List.getD_eq_getElem?_getD, List.getElem?_set_ne (Ne.symm hj), ← List.getD_eq_getElem?_getD]
    exact h j
theorem txt_size_ (l : List UInt8) : (txt l).size = l.length := by rw [← size_data, data_txt]

/-- the disk behind the first m families of a slot -/
def famD (D : Dk) (at_ : Nat) (L : List Fam) : Nat → Dk
  | 0 => D
  | m + 1 => (famD D at_ L m).put (at_ + 1 + m) (txt (evL (putEv (L.getD m Fam.zero))))
theorem famD_len (D : Dk) (at_ : Nat) (L : List Fam) : ∀ m, (famD D at_ L m).blk.length = D.blk.length
  | 0 => rfl
  | m + 1 => by rw [famD, put_len, famD_len D at_ L m]
theorem famD_blk {D : Dk} {at_ : Nat} {L : List Fam} (hl : D.blk.length = 90) (hat : at_ + 21 ≤ 90) (hL : L.length ≤ 20) : ∀ m, m ≤ L.length → blkOf (famD D at_ L m) = updAll (blkOf D) (famU at_ 0 (L.take m))
  | 0, _ => by simp [famD, famU, updAll]
  | m + 1, hm => by
    have hlt : m < L.length := by omega
    have hf := List.getElem?_eq_getElem hlt
    rw [famD, blkOf_put (by rw [famD_len]; exact hl) (by omega), famD_blk hl hat hL m (by omega), famU_next at_ L m _ hf, data_txt]
    congr 3
    rw [List.getD_eq_getElem?_getD, hf]
    rfl
theorem famD_fits {D : Dk} {at_ : Nat} {L : List Fam} (h : D.fits) (hL : ∀ f ∈ L, famB f = true) : ∀ m, m ≤ L.length → (famD D at_ L m).fits
  | 0, _ => h
  | m + 1, hm => by
    have hlt : m < L.length := by omega
    have hf := List.getElem?_eq_getElem hlt
    rw [famD]
    refine fits_put (famD_fits h hL m (by omega)) ?_ _
    rw [List.getD_eq_getElem?_getD, hf, txt_size_]
    have := evL_len (putEv_may (hL _ (List.getElem_mem hlt)))
    show (evL (putEv L[m])).length ≤ 240
    omega
/-- a slot is saved: whole, or the power went off -/
def SaveOut (D : Dk) (at_ : Nat) (L : List Fam) (head : ByteArray) (D' : Dk) (ok : Bool) : Prop :=
  (ok = true ∧ (∀ m, m ≤ L.length → offB (famD D at_ L m) = false) ∧ D' = (famD D at_ L L.length).put at_ head) ∨
  (ok = false ∧ ∃ m, m ≤ L.length ∧ (∀ j, j < m → offB (famD D at_ L j) = false) ∧ offB (famD D at_ L m) = true ∧ D' = famD D at_ L m)
section
variable {tg : Int → List UInt8 → List UInt8} {D D' : Dk} {n f x : Int} {s0 : St} {es : List Ev}
theorem slot_top (n : Int) : slotAt (n % 2).toNat + 21 ≤ 90 := by
  have : n % 2 = 0 ∨ n % 2 = 1 := by omega
  rcases this with h | h <;> rw [h] <;> decide
/-- what lies on the disk behind a slot that was saved, or was not -/
theorem SInv.saveOut (h : SInv tg (blkOf D) n f x s0 es) (hfit : Fit (es.foldl applyS s0)) (hn : n < 1000000) (hl : D.blk.length = 90) {ok : Bool} (ho : SaveOut D (slotAt ((n + 1) % 2).toNat) (es.foldl applyS s0).fams (txt (headL tg (n + 1) x (es.foldl applyS s0))) D' ok) :
    (ok = true → SInv tg (blkOf D') (n + 1) x x (es.foldl applyS s0) []) ∧ (ok = false → SInv tg (blkOf D') n f x s0 es) ∧ D'.blk.length = 90 := by
  have hL := hfit.len
  have htop := slot_top (n + 1)
  rcases ho with ⟨rfl, _, rfl⟩ | ⟨rfl, m, hm, _, _, rfl⟩
  · refine ⟨fun _ => ?_, fun h => (by cases h), by rw [put_len, famD_len, hl]⟩
    rw [blkOf_put (by rw [famD_len]; exact hl) (by omega), famD_blk hl htop hL _ (Nat.le_refl _), List.take_length, data_txt]
    exact h.whole hfit hn
  · refine ⟨fun h => (by cases h), fun _ => ?_, by rw [famD_len, hl]⟩
    rw [famD_blk hl htop hL m hm]
    exact h.cut _ (by rw [List.length_take]; omega)
end
end Go.Proofs.YtdogilbnbbeljaaGreatDoor

/-
  A slice of families of the call's own, told as a list; slices.Clone of one.
-/
namespace Go.Proofs.YtdogilbnbbeljaaGreatDoor
open Go.RowKit Go.Sort

/-- the cells of families, one behind the other -/
def flat (L : List Fam) : List Value := L.flatMap fun f => (famCs f).toList
theorem famCs_len (f : Fam) : (famCs f).toList.length = 9 := rfl
theorem flat_len : ∀ L : List Fam, (flat L).length = L.length * 9
  | [] => rfl
  | f :: L => by
    have := flat_len L
    unfold flat at this ⊢
    rw [List.flatMap_cons, List.length_append, this, famCs_len, List.length_cons]
    omega
theorem flat_cons (f : Fam) (L : List Fam) : flat (f :: L) = (famCs f).toList ++ flat L := rfl
theorem flat_app (a b : List Fam) : flat (a ++ b) = flat a ++ flat b := by simp [flat]
theorem flat_get : ∀ {L : List Fam} {i : Nat} {f : Fam}, L[i]? = some f → ∀ j, j < 9 → (flat L)[i * 9 + j]? = (famCs f)[j]?
  | [], i, f, h, _, _ => by simp at h
  | g :: L, 0, f, h, j, hj => by
    simp at h
    subst h
    rw [flat_cons, Nat.zero_mul, Nat.zero_add, List.getElem?_append_left (by rw [famCs_len]; exact hj), Array.getElem?_toList]
  | g :: L, i + 1, f, h, j, hj => by
    rw [flat_cons, List.getElem?_append_right (by rw [famCs_len]; omega), famCs_len, show (i + 1) * 9 + j - 9 = i * 9 + j by omega]
    exact flat_get (by simpa using h) j hj
theorem flat_take (L : List Fam) (k : Nat) : flat (L.take k) = (flat L).take (k * 9) := by
  induction L generalizing k with
  | nil => simp [flat]
  | cons f L ih =>
    cases k with
    | zero => simp [flat]
    | succ k => rw [List.take_succ_cons, flat_cons, flat_cons, ih, List.take_append, famCs_len, List.take_of_length_le (l := (famCs f).toList) (by rw [famCs_len]; omega), show (k + 1) * 9 - 9 = k * 9 by omega]
theorem flat_drop (L : List Fam) (k : Nat) : flat (L.drop k) = (flat L).drop (k * 9) := by
  induction L generalizing k with
  | nil => simp [flat]
  | cons f L ih =>
    cases k with
    | zero => simp [flat]
    | succ k => rw [List.drop_succ_cons, flat_cons, ih, List.drop_append, famCs_len, List.drop_of_length_le (l := (famCs f).toList) (by rw [famCs_len]; omega), show (k + 1) * 9 - 9 = k * 9 by omega, List.nil_append]
theorem flat_one {L : List Fam} {u : Value} (h : u ∈ flat L) : u.oneCell' = true := by
  obtain ⟨f, _, hu⟩ := List.mem_flatMap.1 h
  simp only [famCs, List.mem_cons, List.not_mem_nil, or_false] at hu
  rcases hu with rfl | rfl | rfl | rfl | rfl | rfl | rfl | rfl | rfl <;> rfl

/-- v is a slice of the call's own (nil or not) that holds these families -/
def FRow (w : World) (B : Nat) (v : Value) (L : List Fam) : Prop := w.ownsRow B 40 9 v L.length (flat L)
theorem FRow.nil (w : World) (B : Nat) : FRow w B (.slice none 0 0) [] := World.ownsRow_nil _ _ _ _
section
variable {w w' : World} {B : Nat} {v : Value} {L : List Fam}
theorem FRow.below (h : FRow w B v L) (hb : Below w.heap.size w w') : FRow w' B v L := h.kept (only_of_below hb (some w.heap.size)) (.inr (fun he => by have := (h.lt _ he).2; omega))
theorem FRow.mono {B' : Nat} (h : FRow w B v L) (hB : B' ≤ B) : FRow w B' v L := World.ownsRow.mono h hB
theorem FRow.kept (h : FRow w B v L) {row : Option Nat} (hg : w.grownBy w' row) (hne : v.ownBlock ≠ row) : FRow w' B v L := World.ownsRow.kept h hg (.inr hne)
/-- nil, or a block whose first cells they are -/
theorem FRow.parts (h : FRow w B v L) : (v = .slice none 0 0 ∧ L = []) ∨ ∃ g cap, v = .slice (some ⟨g, 0, none⟩) L.length cap ∧ B ≤ g ∧ g < w.heap.size ∧ L.length ≤ cap ∧ cap ≤ 9223372036854775807 ∧
    (∀ j, w.frozen? ⟨g, j, none⟩ = false) ∧ (∀ j, j < cap * 9 → (w.cell? ⟨g, j, none⟩).isSome = true) ∧ (∀ j, j < L.length * 9 → w.cell? ⟨g, j, none⟩ = (flat L)[j]?) := by
  rcases h.2 with ⟨rfl, h0⟩ | ⟨g, cap, cur, rfl, hB, hb, hn, hm, hc, ht⟩
  · exact .inl ⟨rfl, List.eq_nil_of_length_eq_zero h0⟩
  · have hlt : g < w.heap.size := by
      rcases Nat.lt_or_ge g w.heap.size with h' | h'
      · exact h'
      · rw [Array.getElem?_eq_none h'] at hb; cases hb
    refine .inr ⟨g, cap, rfl, hB, hlt, hn, by unfold maxLen at hm; exact hm, fun j => by simp [World.frozen?, hb], fun j hj => ?_, fun j hj => ?_⟩
    · rw [cell_of_row w g j cur _ (0, 0) hb, Array.getElem?_eq_getElem (by omega)]
      rfl
    · rw [cell_of_row w g j cur _ (0, 0) hb, ← ht, List.getElem?_take, if_pos hj, Array.getElem?_toList]
/-- one family's cells -/
theorem FRow.at_ {g cap : Nat} (h : FRow w B (.slice (some ⟨g, 0, none⟩) L.length cap) L) {i : Nat} {f : Fam} (hi : L[i]? = some f) (j : Nat) (hj : j < 9) : w.cell? ⟨g, i * 9 + j, none⟩ = (famCs f)[j]? := by
  have hil := (List.getElem?_eq_some_iff.1 hi).1
  rcases h.parts with ⟨e, _⟩ | ⟨g', cap', e, _, _, _, _, _, _, hc⟩
  · simp at e
  · simp only [Value.slice.injEq, Option.some.injEq, Addr.mk.injEq, and_true, true_and] at e
    obtain ⟨rfl, rfl⟩ := e
    rw [hc _ (by omega), flat_get hi j hj]
end
theorem famInfo : (Tryz.prog.info? 40).map (fun i => (i.zero, i.size, i.bytes)) = some (some (.agg (famCs Fam.zero)), 9, 104) := by kernel_rfl

set_option maxHeartbeats 2000000 in
set_option maxRecDepth 100000 in
theorem fam_clone (B : Nat) (v : Value) (L : List Fam) (w : World) (h : FRow w B v L) (hL : L.length ≤ 1000000) :
    Calls Tryz.prog 37 #[v] w fun e w' => ∃ v', e = .returned v' ∧ FRow w' w.heap.size v' L ∧ Below w.heap.size w w' := by
  obtain ⟨i0, hii, hz0, hz1, hz2⟩ := info_parts famInfo
  have q44 : ∀ (w : World) (a : Option Addr) (n c n' c' : Nat), (binOp .eql 34 (.slice a n c) (.slice none n' c')).run Tryz.prog w = .ok (.bool a.isNone) w := fun w a n c n' c' => Lib.run_eql_slice_nil w _ _ a n c n' c' Tryz.underlying34
  rcases h.parts with ⟨rfl, rfl⟩ | ⟨g, cap, rfl, h1, h2, h3, h4, h5, h6, h7⟩
  · go_enter Tryz.func37, Tryz.ntmps37
    go_wp2_with fail
    go_ret
    exact ⟨_, rfl, FRow.nil _ _, Below.refl _ _⟩
  · have hown : (w.alloc (.cells #[] 40)).ownsRow w.heap.size 40 9 (.slice (some ⟨w.heap.size, 0, none⟩) 0 0) 0 [] :=
      ⟨rfl, .inr ⟨w.heap.size, 0, #[], rfl, Nat.le_refl _, heap_alloc_new w _, Nat.le_refl _, Nat.zero_le _, rfl, rfl⟩⟩
    have hl := flat_len L
    have hnews : ∀ j u, (flat L)[j]? = some u → (w.alloc (.cells #[] 40)).cell? ((⟨g, 0, none⟩ : Addr).add j) = some u := by
      intro j u hj
      have hjl := (List.getElem?_eq_some_iff.1 hj).1
      rw [Addr.add_lit, Nat.zero_add, World.cell?_alloc_past (w := w) _ g j h2, h7 j (by omega), hj]
    have HO := Lib.hid hown
    have HN := Lib.hid hnews
    have HL := Lib.hid hl
    clear hown hnews hl h h5 h6 h7
    go_enter Tryz.func37, Tryz.ntmps37
    go_wp2_with
      (at_builtin; refine wpList_append_own _ rfl _ _ 34 rfl w.heap.size 40 i0 (.agg (famCs Fam.zero)) 9 104 Tryz.underlying34 hii hz0 hz1 hz2 rfl (by decide) _ 0 [] rfl HO.out ⟨g, 0, none⟩ L.length cap (flat L) rfl HL.out HN.out (fun x hx => flat_one hx) (by unfold maxLen; omega) (by omega) (by simp) ?_; intro v' w3 hown hgrow hnil
       have HO3 := Lib.hid hown
       have HG := Lib.hid hgrow
       clear hown hgrow hnil)
    go_ret
    refine ⟨_, rfl, ?_, ?_⟩
    · have := HO3.out
      rw [Nat.zero_add, List.nil_append] at this
      exact this
    · have b1 : Below w.heap.size w (w.alloc (.cells #[] 40)) := (Below.refl _ _).alloc (Nat.le_refl _) _
      exact below_of_only b1 HG.out (Nat.le_refl _) b1.size
end Go.Proofs.YtdogilbnbbeljaaGreatDoor

/-
  Worlds of which but two blocks, and new ones, have turned.
-/
namespace Go.Proofs.YtdogilbnbbeljaaGreatDoor
open Go.RowKit Go.Sort

structure Two (a b : Nat) (w w' : World) : Prop where
  os : w'.os = w.os
  tape : w'.tape = w.tape
  output : w'.output = w.output
  size : w.heap.size ≤ w'.heap.size
  block : ∀ i, i < w.heap.size → i ≠ a → i ≠ b → w'.heap[i]? = w.heap[i]?
section
variable {a b : Nat} {w w' w'' : World}
theorem Two.refl (a b : Nat) (w : World) : Two a b w w := ⟨rfl, rfl, rfl, Nat.le_refl _, fun _ _ _ _ => rfl⟩
theorem Two.trans (h : Two a b w w') (k : Two a b w' w'') : Two a b w w'' :=
  ⟨k.os.trans h.os, k.tape.trans h.tape, k.output.trans h.output, Nat.le_trans h.size k.size, fun i hi h1 h2 => (k.block i (Nat.lt_of_lt_of_le hi h.size) h1 h2).trans (h.block i hi h1 h2)⟩
theorem Two.of_below (h : Below w.heap.size w w') : Two a b w w' := ⟨h.os, h.tape, h.output, h.size, fun i hi _ _ => h.block i hi⟩
theorem Two.of_one (h : w.grownBy w' (some a)) : Two a b w w' := ⟨h.os, h.tape, h.output, h.size, fun i hi h1 _ => h.block i hi (by simpa using h1)⟩
theorem Two.of_two (h : w.grownBy w' (some b)) : Two a b w w' := ⟨h.os, h.tape, h.output, h.size, fun i hi _ h2 => h.block i hi (by simpa using h2)⟩
theorem Two.below {B : Nat} {W : World} (h : Two a b w w') (hW : Below B W w) (hB : B ≤ w.heap.size) (ha : B ≤ a) (hb : B ≤ b) : Below B W w' :=
  ⟨h.os.trans hW.os, h.tape.trans hW.tape, h.output.trans hW.output, Nat.le_trans hW.size h.size, fun i hi => (h.block i (by omega) (by omega) (by omega)).trans (hW.block i hi)⟩
theorem Blk.two {g : Nat} {t : TypeId} {cs : Array Value} (h : Blk w g t cs) (k : Two a b w w') (h1 : g ≠ a) (h2 : g ≠ b) : Blk w' g t cs := (k.block g h.lt h1 h2).trans h
theorem Two.cell {p : Addr} {v : Value} (k : Two a b w w') (h : w.cell? p = some v) (h1 : p.block ≠ a) (h2 : p.block ≠ b) : w'.cell? p = some v := by
  have hlt := World.block_lt_of_cell? w _ h
  rw [World.cell?_of_block (w := w) (k.block p.block hlt h1 h2)]
  exact h
theorem FRow.two {B : Nat} {v : Value} {L : List Fam} (h : FRow w B v L) (k : Two a b w w') (h1 : v.ownBlock ≠ some a) (h2 : v.ownBlock ≠ some b) : FRow w' B v L := by
  refine ⟨h.1, ?_⟩
  rcases h.2 with hn | ⟨g, cap, cur, rfl, hb, hgg, rest⟩
  · exact .inl hn
  · refine .inr ⟨g, cap, cur, rfl, hb, ?_, rest⟩
    have hg := (Array.getElem?_eq_some_iff.1 hgg).1
    rw [k.block g hg (by simpa [Value.ownBlock] using h1) (by simpa [Value.ownBlock] using h2)]
    exact hgg
end
end Go.Proofs.YtdogilbnbbeljaaGreatDoor

/-
  slices.BinarySearchFunc of families, by number.
-/
namespace Go.Proofs.YtdogilbnbbeljaaGreatDoor
open Go.RowKit Go.Sort

theorem fam_cmp (f : Fam) (n : Int) (hf : okN f.id = true) (hn : okN n = true) (w : World) :
    Calls Tryz.prog 40 #[famVal f, .int .i64 n] w fun e w' => e = .returned (.int .i64 (f.id - n)) ∧ Below w.heap.size w w' := by
  have h1 := okN_iff.1 hf
  have h2 := okN_iff.1 hn
  obtain ⟨i, cl, su, sc, ge, ma, us, re, de⟩ := f
  dsimp only at h1
  unfold famVal famCs
  dsimp only
  go_enter Tryz.func40, Tryz.ntmps40
  go_wp2_with fail
  go_ret
  exact ⟨rfl, (Below.refl _ _).alloc (Nat.le_refl _) _⟩

/-- one family's nine cells -/
theorem FRow.nine {w : World} {B g cap : Nat} {L : List Fam} (h : FRow w B (.slice (some ⟨g, 0, none⟩) L.length cap) L) {k : Nat} {i : Int} {cl su sc : ByteArray} {ge ma us : Int} {re : ByteArray} {de : Bool} (hk : L[k]? = some ⟨i, cl, su, sc, ge, ma, us, re, de⟩) :
    w.cell? ⟨g, k * 9, none⟩ = some (.int .i64 i) ∧ w.cell? ⟨g, k * 9 + 1, none⟩ = some (.string cl) ∧ w.cell? ⟨g, k * 9 + 2, none⟩ = some (.string su) ∧ w.cell? ⟨g, k * 9 + 3, none⟩ = some (.string sc) ∧ w.cell? ⟨g, k * 9 + 4, none⟩ = some (.int .i64 ge) ∧
    w.cell? ⟨g, k * 9 + 5, none⟩ = some (.int .i64 ma) ∧ w.cell? ⟨g, k * 9 + 6, none⟩ = some (.int .i64 us) ∧ w.cell? ⟨g, k * 9 + 7, none⟩ = some (.string re) ∧ w.cell? ⟨g, k * 9 + 8, none⟩ = some (.bool de) :=
  ⟨h.at_ hk 0 (by decide), h.at_ hk 1 (by decide), h.at_ hk 2 (by decide), h.at_ hk 3 (by decide), h.at_ hk 4 (by decide), h.at_ hk 5 (by decide), h.at_ hk 6 (by decide), h.at_ hk 7 (by decide), h.at_ hk 8 (by decide)⟩
/-- the search's two bounds -/
structure FD (W : World) (B : Nat) (v : Value) (L : List Fam) (n : Int) (a b : Nat) (w : World) : Prop where
  below : Below W.heap.size W w
  row : FRow w B v L
  le : a ≤ b
  top : b ≤ L.length
  low : ∀ j f, j < a → L[j]? = some f → f.id < n
  high : ∀ j f, b ≤ j → L[j]? = some f → n ≤ f.id
def FindRel (W : World) (B : Nat) (v : Value) (L : List Fam) (n : Int) (i j : Value) (wr : World) : Prop := ∃ a b : Nat, i = .int .i64 a ∧ j = .int .i64 b ∧ FD W B v L n a b wr

set_option maxHeartbeats 4000000 in
set_option maxRecDepth 100000 in
theorem fam_find_some (B g cap : Nat) (L : List Fam) (n : Int) (W : World) (h : FRow W B (.slice (some ⟨g, 0, none⟩) L.length cap) L) (hL : L.length ≤ 1000000) (hA : Asc L) (hids : ∀ f ∈ L, okN f.id = true) (hn : okN n = true) :
    Calls Tryz.prog 39 #[.slice (some ⟨g, 0, none⟩) L.length cap, .int .i64 n, .func (.func 40) #[] #[]] W
      fun e w' => e = .returned (.tuple #[.int .i64 (ahead L n), .bool (hasB L n)]) ∧ Below W.heap.size W w' := by
  have H0 := Lib.hid h
  have HI := Lib.hid hids
  have HA := Lib.hid hA
  clear h hids hA
  go_enter Tryz.func39, Tryz.ntmps39
  go_wp2
  go_loopw [9, 10] (fun i j wr => FindRel W B (.slice (some ⟨g, 0, none⟩) L.length cap) L n i j wr) (fun i j _ => (intOf j).toNat - (intOf i).toNat)
  case atStart => exact ⟨0, L.length, rfl, rfl, Below.refl _ _, H0.out, Nat.zero_le _, Nat.le_refl _, fun j f hj => absurd hj (Nat.not_lt_zero _), fun j f hj hf => by rw [List.getElem?_eq_none hj] at hf; cases hf⟩
  case round =>
    obtain ⟨a, b, rfl, rfl, hd⟩ := hrel
    have HD := Lib.hid hd
    have hab := hd.le
    have htop := hd.top
    clear hd
    by_cases hlt : a < b
    · obtain ⟨k, hk1, hk2, hk3, hk4⟩ : ∃ k : Nat, ((a : Int) + (b : Int)) / 2 = (k : Int) ∧ (a + b) / 2 = k ∧ a ≤ k ∧ k < b := ⟨(a + b) / 2, by omega, rfl, by omega, by omega⟩
      have hkL : k < L.length := by omega
      obtain ⟨f, hf⟩ : ∃ f, L[k]? = some f := ⟨_, List.getElem?_eq_getElem hkL⟩
      have hfo := HI.out f (List.mem_of_getElem? hf)
      have HC := Lib.hid (fun w => fam_cmp f n hfo hn w)
      have hfr := okN_iff.1 hfo
      have hnr := okN_iff.1 hn
      have hsh : ∀ j f', j < k + 1 → L[j]? = some f' → f'.id ≤ f.id := by
        intro j f' hj hf'
        rcases Nat.lt_or_ge j k with hjk | hjk
        · have := List.pairwise_iff_getElem.1 HA.out j k (by omega) hkL hjk
          rw [List.getElem?_eq_getElem (by omega)] at hf' hf
          cases hf'
          cases hf
          omega
        · obtain rfl : j = k := by omega
          rw [hf] at hf'
          cases hf'
          exact Int.le_refl _
      have hsl : ∀ j f', k ≤ j → L[j]? = some f' → f.id ≤ f'.id := by
        intro j f' hj hf'
        rcases Nat.lt_or_ge k j with hjk | hjk
        · have hjl := (List.getElem?_eq_some_iff.1 hf').1
          have := List.pairwise_iff_getElem.1 HA.out k j hkL hjl hjk
          rw [List.getElem?_eq_getElem (by omega)] at hf' hf
          cases hf'
          cases hf
          omega
        · obtain rfl : j = k := by omega
          rw [hf] at hf'
          cases hf'
          exact Int.le_refl _
      have HSH := Lib.hid hsh
      have HSL := Lib.hid hsl
      obtain ⟨i, cl, su, sc, ge, ma, us, re, de⟩ := f
      obtain ⟨c0, c1, c2, c3, c4, c5, c6, c7, c8⟩ := HD.out.row.nine hf
      have HF := Lib.hid hf
      unfold famVal famCs at HC
      dsimp only at HC hfr hfo
      clear hf hsh hsl hfo
      by_cases hc : i < n
      all_goals
        go_wp2_with fail
        go_at_call 40
        refine (HC.out _).mono ?_
        rintro e w1 ⟨rfl, hb⟩
        have HB := Lib.hid hb
        clear hb c0 c1 c2 c3 c4 c5 c6 c7 c8
        go_wp2_with fail
      · go_roundw
        case rel => exact ⟨k + 1, b, by go_num, rfl, below_2 HD.out.below HB.out, HD.out.row.below HB.out, by omega, HD.out.top, fun j f' hj hf' => by have := HSH.out j f' hj hf'; omega, HD.out.high⟩
        case measure => simp [intOf]; omega
      · go_roundw
        case rel => exact ⟨a, k, rfl, rfl, below_2 HD.out.below HB.out, HD.out.row.below HB.out, hk3, by omega, HD.out.low, fun j f' hj hf' => by have := HSL.out j f' hj hf'; omega⟩
        case measure => simp [intOf]; omega
    · obtain rfl : a = b := by omega
      have HE := Lib.hid (ahead_eq HA.out HD.out.top HD.out.low HD.out.high)
      by_cases haL : a < L.length
      · obtain ⟨f, hf⟩ : ∃ f, L[a]? = some f := ⟨_, List.getElem?_eq_getElem haL⟩
        have hfo := HI.out f (List.mem_of_getElem? hf)
        have HC := Lib.hid (fun w => fam_cmp f n hfo hn w)
        have HHB := Lib.hid (hasB_some (L := L) (n := n) (f := f) (by rw [HE.out]; exact hf))
        obtain ⟨i, cl, su, sc, ge, ma, us, re, de⟩ := f
        obtain ⟨c0, c1, c2, c3, c4, c5, c6, c7, c8⟩ := HD.out.row.nine hf
        have hz : (i - n == 0) = decide (i = n) := by rw [Bool.eq_iff_iff]; simp; omega
        unfold famVal famCs at HC
        dsimp only at HC HHB
        generalize decide (i = n) = bq at *
        clear hf hfo
        go_wp2_with fail
        go_at_call 40
        refine (HC.out _).mono ?_
        rintro e w1 ⟨rfl, hb⟩
        have HB := Lib.hid hb
        clear hb c0 c1 c2 c3 c4 c5 c6 c7 c8
        go_wp2_with fail
        go_ret2
        exact ⟨by rw [HE.out, HHB.out]; rfl, below_2 HD.out.below HB.out⟩
      · have HHB := Lib.hid (hasB_none (L := L) (n := n) (by rw [HE.out]; omega))
        go_wp2_with fail
        go_ret2
        exact ⟨by rw [HE.out, HHB.out]; rfl, HD.out.below⟩
set_option maxHeartbeats 4000000 in
set_option maxRecDepth 100000 in
theorem fam_find_nil (n : Int) (W : World) :
    Calls Tryz.prog 39 #[.slice none 0 0, .int .i64 n, .func (.func 40) #[] #[]] W
      fun e w' => e = .returned (.tuple #[.int .i64 0, .bool false]) ∧ W = w' := by
  go_enter Tryz.func39, Tryz.ntmps39
  go_wp2
  go_loopw [9, 10] (fun i j wr => i = .int .i64 0 ∧ j = .int .i64 0 ∧ W = wr) (fun _ _ _ => 0)
  case atStart => exact ⟨rfl, rfl, rfl⟩
  case round =>
    obtain ⟨rfl, rfl, rfl⟩ := hrel
    go_wp2_with fail
    go_ret2
    exact ⟨rfl, rfl⟩
theorem fam_find (B : Nat) (v : Value) (L : List Fam) (n : Int) (W : World) (h : FRow W B v L) (hL : L.length ≤ 1000000) (hA : Asc L) (hids : ∀ f ∈ L, okN f.id = true) (hn : okN n = true) :
    Calls Tryz.prog 39 #[v, .int .i64 n, .func (.func 40) #[] #[]] W
      fun e w' => e = .returned (.tuple #[.int .i64 (ahead L n), .bool (hasB L n)]) ∧ Below W.heap.size W w' := by
  rcases h.parts with ⟨rfl, rfl⟩ | ⟨g, cap, rfl, _⟩
  · exact (fam_find_nil n W).mono fun e w' hh => ⟨hh.1, hh.2 ▸ Below.refl _ _⟩
  · exact fam_find_some B g cap L n W h hL hA hids hn
/-- event.Apply's search: its slice lies in a variable -/
theorem fam_at (B vb : Nat) (v : Value) (L : List Fam) (n : Int) (W : World) (h : FRow W B v L) (hv : W.cell? ⟨vb, 0, none⟩ = some v) (hL : L.length ≤ 1000000) (hA : Asc L) (hids : ∀ f ∈ L, okN f.id = true) (hn : okN n = true) :
    Calls Tryz.prog 38 #[.int .i64 n, .pointer (some ⟨vb, 0, none⟩)] W fun e w' => e = .returned (.tuple #[.int .i64 (ahead L n), .bool (hasB L n)]) ∧ Below W.heap.size W w' := by
  have H := Lib.hid (fam_find B v L n W h hL hA hids hn)
  clear hA hids hn
  rcases h.parts with ⟨rfl, rfl⟩ | ⟨g, cap, rfl, _⟩
  all_goals
    clear h
    go_enter Tryz.func38, Tryz.ntmps38
    go_wp2_with (go_at_call 39; refine H.out.mono ?_; rintro e w1 ⟨rfl, hb⟩; have HB := Lib.hid hb; clear hb)
    go_ret2
    exact ⟨rfl, HB.out⟩
end Go.Proofs.YtdogilbnbbeljaaGreatDoor
