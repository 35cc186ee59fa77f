/-
  A slice of bytes that the call itself made, also one out of a conversion (whose row bears a mark beyond its cells).
-/
import Derived.Test.YtdfgegicfhcmeaaGreatDoorWords
import Derived.ArgAppend
import Derived.Lib.ConvBytes
import Derived.OwnWalk
namespace Go.Proofs.YtdfgegicfhcmeaaGreatDoor
open Go.RowKit

structure BSat (w : World) (B g cap : Nat) (l : List UInt8) : Prop where
  base : B ≤ g
  lt : g < w.heap.size
  le : l.length ≤ cap
  max : cap ≤ maxLen
  cells : ∀ j, j < cap → (w.cell? ⟨g, j, none⟩).isSome = true ∧ w.frozen? ⟨g, j, none⟩ = false
  bytes : ∀ j (h : j < l.length), w.cell? ⟨g, j, none⟩ = some (.int .u8 (l[j]).toNat)
def BS (w : World) (B : Nat) (v : Value) (l : List UInt8) : Prop := ∃ g cap, v = .slice (some ⟨g, 0, none⟩) l.length cap ∧ BSat w B g cap l

section
variable {w w' : World} {B g cap : Nat} {v : Value} {l : List UInt8}
theorem BSat.keep (h : BSat w B g cap l) (hb : w'.heap[g]? = w.heap[g]?) (hs : w.heap.size ≤ w'.heap.size) : BSat w' B g cap l :=
  ⟨h.base, Nat.lt_of_lt_of_le h.lt hs, h.le, h.max, fun j hj => by
    rw [World.cell?_of_block (w := w) (a := ⟨g, j, none⟩) hb, World.frozen?_of_block (w := w) (a := ⟨g, j, none⟩) hb]; exact h.cells j hj,
   fun j hj => by rw [World.cell?_of_block (w := w) (a := ⟨g, j, none⟩) hb]; exact h.bytes j hj⟩
theorem BSat.below (h : BSat w B g cap l) (hb : Below w.heap.size w w') : BSat w' B g cap l := h.keep (hb.block g h.lt) hb.size
theorem BSat.alloc (h : BSat w B g cap l) (o : Obj) : BSat (w.alloc o) B g cap l := h.keep (Below.heap_alloc w o g h.lt) (by simp)
theorem BSat.drewN (h : BSat w B g cap l) (n : Nat) : BSat (w.drewN n) B g cap l := h.keep rfl (Nat.le_refl _)
theorem BSat.only {r : Option Nat} (h : BSat w B g cap l) (hb : w.grownBy w' r) (hr : some g ≠ r) : BSat w' B g cap l := h.keep (hb.block g h.lt hr) hb.size
theorem BS.alloc (h : BS w B v l) (o : Obj) : BS (w.alloc o) B v l := by
  obtain ⟨g, cap, hv, h⟩ := h
  exact ⟨g, cap, hv, h.alloc o⟩

theorem BSat.bs (h : BSat w B g cap l) (n : Nat) (hn : n = l.length) : BS w B (.slice (some ⟨g, 0, none⟩) n cap) l := ⟨g, cap, by rw [hn], h⟩
/-- out of '[]byte(s)' -/
theorem BS.conv (W : World) (e : TypeId) (s : ByteArray) (hs : s.size ≤ 140737488355328) : BS (Lib.bytesWorld W e s) W.heap.size (.slice (some ⟨W.heap.size, 0, none⟩) s.size (grownCap W s.size 0 e)) s.data.toList := by
  have hl : s.data.toList.length = s.size := rfl
  have hge := grownCap_ge W s.size 0 e
  have hsz : (Lib.bytesCells W e s).size = grownCap W s.size 0 e := by
    simp [Lib.bytesCells]
    have : s.data.size = s.size := rfl
    omega
  have hfr := Lib.bytesWorld_at_new W e s
  refine ⟨W.heap.size, grownCap W s.size 0 e, by rw [hl], ⟨Nat.le_refl _, by rw [Lib.bytesWorld_size]; omega, by rw [hl]; exact hge, grownCap_le_maxLen W s.size 0 e (by unfold maxLen; omega), ?_, ?_⟩⟩
  · intro j hj
    refine ⟨?_, ?_⟩
    · simp only [World.cell?, hfr]
      have : j < (Lib.bytesCells W e s).size := by omega
      simp [this]
    · simp only [World.frozen?, hfr]
      simp; omega
  · intro j hj
    rw [Lib.bytesWorld_cell W e s j (by omega)]
    rw [List.getD_eq_getElem?_getD, List.getElem?_eq_getElem hj]
    rfl
theorem below_conv (W : World) (e : TypeId) (s : ByteArray) : Below W.heap.size W (Lib.bytesWorld W e s) :=
  ⟨rfl, rfl, rfl, by rw [Lib.bytesWorld_size]; omega, fun k hk => Lib.bytesWorld_at_old W e s k hk⟩

/-- one byte more -/
theorem run_append_byte {P : Program} (t ty e : TypeId) (i : TypeInfo) (ht : P.underlying t = some (.slice e)) (hi : P.info? e = some i) (hz : i.zero = some (.int .u8 0)) (hsize : i.size = 1) (hby : i.bytes = 1)
    (h : BS w B v l) (ad : Addr) (c : Nat) (b : UInt8) (hb : w.cell? ad = some (.int .u8 b.toNat)) (hn : l.length + 1 ≤ 140737488355328) (hB : B ≤ w.heap.size) :
    ∃ v' w', (Builtin.append_ #[t, t] ty #[v, .slice (some ad) 1 c]).run P w = .ok v' w' ∧ BS w' B v' (l ++ [b]) ∧ Below B w w' := by
  obtain ⟨g, cap, rfl, h⟩ := h
  have hnews : ∀ j u, [Value.int .u8 (b.toNat : Int)][j]? = some u → w.cell? (ad.add j) = some u := by
    intro j u hu
    cases j with
    | zero => simp at hu; subst hu; simpa [Addr.add] using hb
    | succ j => simp at hu
  have h1 : ∀ u ∈ [Value.int .u8 (b.toNat : Int)], u.oneCell' = true := by intro u hu; simp at hu; subst hu; rfl
  by_cases hr : l.length + 1 ≤ cap
  · have hrun := run_append_room_cells (P := P) (w := w) t ty e i ht hi g 0 l.length cap ad 1 c [.int .u8 (b.toNat : Int)] (by simp [hsize]) hnews h1 hr
      (fun j hj => by simp at hj; subst hj; simp [hsize]; exact (h.cells l.length (by omega)).1) (fun j hj => by simp at hj; subst hj; simp [hsize]; exact (h.cells l.length (by omega)).2)
    rw [hsize] at hrun
    simp only [Nat.zero_add, Nat.mul_one, World.setCells] at hrun
    refine ⟨_, _, hrun, ⟨g, cap, by simp, ⟨h.base, by simpa [World.setCell] using h.lt, by simpa using hr, h.max, ?_, ?_⟩⟩, (Below.refl B w).setCell h.base _⟩
    · intro j hj
      have h2 := h.cells j hj
      by_cases e' : j = l.length
      · subst e'
        refine ⟨?_, ?_⟩
        · obtain ⟨u, hu⟩ := Option.isSome_iff_exists.1 h2.1
          rw [World.cell?_setCell_same _ _ _ hu]; rfl
        · rw [World.frozen?_setCell]; exact h2.2
      · refine ⟨?_, ?_⟩
        · rw [World.cell?_setCell_other _ _ _ _ (by simp <;> omega)]; exact h2.1
        · rw [World.frozen?_setCell]; exact h2.2
    · intro j hj
      rw [List.length_append, List.length_singleton] at hj
      by_cases e' : j = l.length
      · subst e'
        obtain ⟨u, hu⟩ := Option.isSome_iff_exists.1 (h.cells l.length (by omega)).1
        rw [World.cell?_setCell_same _ _ _ hu]; simp
      · rw [World.cell?_setCell_other _ _ _ _ (by simp <;> omega), List.getElem_append_left (by omega)]
        exact h.bytes j (by omega)
  · obtain ⟨v', w', hrun, hown, hg⟩ := run_append_arg_grows (P := P) (w := w) t ty e i (.int .u8 0) 1 1 ht hi hz hsize hby rfl (by omega) ⟨g, 0, none⟩ l.length cap (l.map fun x => Value.int .u8 (x.toNat : Int)) (by simp)
      (fun j u hu => by
        rw [List.getElem?_map] at hu
        by_cases hj : j < l.length
        · rw [List.getElem?_eq_getElem hj] at hu
          simp at hu
          rw [Addr.add_lit, ← hu]
          simpa using h.bytes j hj
        · rw [List.getElem?_eq_none (by omega)] at hu; cases hu)
      ad 1 c [.int .u8 (b.toNat : Int)] rfl hnews (by omega) (by unfold maxLen; omega) (by omega)
    refine ⟨v', w', hrun, ?_, (Below.refl B w).grown hg hB (fun k e => by cases e)⟩
    rcases hown.2 with ⟨_, h0⟩ | ⟨g', cap', cur, hv, hbg, hg', hnc, hcm, hcs, htake⟩
    · omega
    · have hlt' : g' < w'.heap.size := by
        rcases Nat.lt_or_ge g' w'.heap.size with h3 | h3
        · exact h3
        · rw [Array.getElem?_eq_none h3] at hg'; exact absurd hg' (by simp)
      refine ⟨g', cap', by rw [hv]; simp, ⟨by omega, hlt', by simpa using hnc, hcm, ?_, ?_⟩⟩
      · intro j hj
        simp only [World.cell?, World.frozen?, hg']
        have : j < cur.size := by omega
        simp [this]
      · intro j hj
        have h4 : (cur.toList.take ((l.length + 1) * 1))[j]? = cur.toList[j]? := by
          rw [List.getElem?_take_of_lt (by simpa using hj)]
        rw [htake] at h4
        have h5 : w'.cell? ⟨g', j, none⟩ = cur.toList[j]? := by simp [World.cell?, hg']
        rw [h5, ← h4]
        rw [show (l.map fun x => Value.int .u8 (x.toNat : Int)) ++ [.int .u8 (b.toNat : Int)] = (l ++ [b]).map fun x => Value.int .u8 (x.toNat : Int) by simp, List.getElem?_map, List.getElem?_eq_getElem hj]
        rfl

/-- .. for the walk: behind at_builtin -/
theorem wpList_append_byte {P : Program} {ops : Array Oper} {rest : List Oper} {o : Oper} {a : Act} {Q : Exit → Act → World → Prop} (hgd : o.guard = none) (s x : Operand) (t : TypeId)
    (ho : o.op = .call { callee := .builtin .append, args := #[s, x], argTypes := #[t, t] })
    (e : TypeId) (i : TypeInfo) (ht : P.underlying t = some (.slice e)) (hi : P.info? e = some i) (hz : i.zero = some (.int .u8 0)) (hsize : i.size = 1) (hby : i.bytes = 1)
    (hs : a.eval s = v) (h : BS w B v l) (ad : Addr) (c : Nat) (b : UInt8) (hx : a.eval x = .slice (some ad) 1 c) (hb : w.cell? ad = some (.int .u8 b.toNat)) (hn : l.length + 1 ≤ 140737488355328) (hB : B ≤ w.heap.size)
    (hK : ∀ v' w', BS w' B v' (l ++ [b]) → Below B w w' → wpList P ops Q rest (a.put o.dst v') w') : wpList P ops Q (o :: rest) a w := by
  refine wpList_plain hgd fun K hK' => ?_
  obtain ⟨v', w', hrun, r1, r2⟩ := run_append_byte (P := P) t o.type e i ht hi hz hsize hby h ad c b hb hn hB
  unfold Oper.wp
  simp [execOp, ho, resolve, invoke, builtin, hs, hx, hrun, Result.andThen]
  exact hK' _ _ (hK v' w' r1 r2)
end
end Go.Proofs.YtdfgegicfhcmeaaGreatDoor
