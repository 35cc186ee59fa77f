/-
  Families and events as values.
-/
import Derived.Test.YtklpmoimckblcaaGreatDoorEvPure
import Derived.Test.YtklpmoimckblcaaGreatDoorWords
namespace Go.Proofs.YtklpmoimckblcaaGreatDoor
open Go.RowKit Go.Sort

def famCs (f : Fam) : Array Value := #[.int .i64 f.id, .string f.client, .string f.subject, .string f.scope, .int .i64 f.gen, .int .i64 f.made, .int .i64 f.used, .string f.request, .bool f.dead]
def evCs (e : Ev) : Array Value := #[.int .i64 e.kind, .int .i64 e.fam.id, .string e.fam.client, .string e.fam.subject, .string e.fam.scope, .int .i64 e.fam.gen, .int .i64 e.fam.made, .int .i64 e.fam.used, .string e.fam.request, .bool e.fam.dead, .int .i64 e.id, .int .i64 e.time]
def famVal (f : Fam) : Value := .agg (famCs f)
def evVal (e : Ev) : Value := .agg (evCs e)
/-- a family's texts are short -/
def Fam.short (f : Fam) (n : Nat) : Prop := f.client.size ≤ n ∧ f.subject.size ≤ n ∧ f.scope.size ≤ n ∧ f.request.size ≤ n
theorem fam_cells {w : World} {g : Nat} {T : TypeId} {i : Int} {cl su sc : ByteArray} {ge ma us : Int} {re : ByteArray} {de : Bool} (h : Blk w g T (famCs ⟨i, cl, su, sc, ge, ma, us, re, de⟩)) :
    w.cell? ⟨g, 0, none⟩ = some (.int .i64 i) ∧ w.cell? ⟨g, 1, none⟩ = some (.string cl) ∧ w.cell? ⟨g, 2, none⟩ = some (.string su) ∧ w.cell? ⟨g, 3, none⟩ = some (.string sc) ∧ w.cell? ⟨g, 4, none⟩ = some (.int .i64 ge) ∧
    w.cell? ⟨g, 5, none⟩ = some (.int .i64 ma) ∧ w.cell? ⟨g, 6, none⟩ = some (.int .i64 us) ∧ w.cell? ⟨g, 7, none⟩ = some (.string re) ∧ w.cell? ⟨g, 8, none⟩ = some (.bool de) :=
  ⟨h.cell 0, h.cell 1, h.cell 2, h.cell 3, h.cell 4, h.cell 5, h.cell 6, h.cell 7, h.cell 8⟩
theorem ev_cells {w : World} {g : Nat} {T : TypeId} {k i : Int} {cl su sc : ByteArray} {ge ma us : Int} {re : ByteArray} {de : Bool} {id ti : Int} (h : Blk w g T (evCs ⟨k, ⟨i, cl, su, sc, ge, ma, us, re, de⟩, id, ti⟩)) :
    w.cell? ⟨g, 0, none⟩ = some (.int .i64 k) ∧ w.cell? ⟨g, 1, none⟩ = some (.int .i64 i) ∧ w.cell? ⟨g, 2, none⟩ = some (.string cl) ∧ w.cell? ⟨g, 3, none⟩ = some (.string su) ∧ w.cell? ⟨g, 4, none⟩ = some (.string sc) ∧ w.cell? ⟨g, 5, none⟩ = some (.int .i64 ge) ∧
    w.cell? ⟨g, 6, none⟩ = some (.int .i64 ma) ∧ w.cell? ⟨g, 7, none⟩ = some (.int .i64 us) ∧ w.cell? ⟨g, 8, none⟩ = some (.string re) ∧ w.cell? ⟨g, 9, none⟩ = some (.bool de) ∧ w.cell? ⟨g, 10, none⟩ = some (.int .i64 id) ∧ w.cell? ⟨g, 11, none⟩ = some (.int .i64 ti) :=
  ⟨h.cell 0, h.cell 1, h.cell 2, h.cell 3, h.cell 4, h.cell 5, h.cell 6, h.cell 7, h.cell 8, h.cell 9, h.cell 10, h.cell 11⟩
/-- numbers that lie in a block from its first cell on -/
def IntsAt (w : World) (g : Nat) (L : List Int) : Prop := ∀ j, j < L.length → w.cell? ⟨g, j, none⟩ = some (.int .i64 (L.getD j 0))
theorem IntsAt.drewN {w : World} {g : Nat} {L : List Int} (h : IntsAt w g L) (q : Nat) : IntsAt (w.drewN q) g L := h

/-- what the reference's May knows while it runs: the blocks of the event and of its family -/
structure MR (T : TypeId) (W : World) (e : Ev) (w : World) : Prop where
  below : Below W.heap.size W w
  ev : Blk w W.heap.size T (evCs e)
  fam : Blk w (W.heap.size + 1) 23 (famCs e.fam)
theorem MR.keep {T : TypeId} {W w w' : World} {e : Ev} (h : MR T W e w) (hb : Below w.heap.size w w') : MR T W e w' :=
  ⟨below_2 h.below hb, h.ev.below' hb, h.fam.below' hb⟩
theorem MR.start {T : TypeId} {W : World} (e : Ev) : MR T W e ((W.alloc (.cells (evCs e) T)).alloc (.cells (famCs e.fam) 23)) := by
  have hb : Below W.heap.size W ((W.alloc (.cells (evCs e) T)).alloc (.cells (famCs e.fam) 23)) := ((Below.refl _ _).alloc (Nat.le_refl _) _).alloc (by simp) _
  refine ⟨hb, (Blk.new W _ _).alloc _, ?_⟩
  have := Blk.new (W.alloc (.cells (evCs e) T)) 23 (famCs e.fam)
  simpa using this
theorem MR.cells {T : TypeId} {W w : World} {k i : Int} {cl su sc : ByteArray} {ge ma us : Int} {re : ByteArray} {de : Bool} {id ti : Int} (h : MR T W ⟨k, ⟨i, cl, su, sc, ge, ma, us, re, de⟩, id, ti⟩ w) :
    w.cell? ⟨W.heap.size, 0, none⟩ = some (.int .i64 k) ∧ w.cell? ⟨W.heap.size, 10, none⟩ = some (.int .i64 id) ∧ w.cell? ⟨W.heap.size, 11, none⟩ = some (.int .i64 ti) ∧
    w.cell? ⟨W.heap.size + 1, 0, none⟩ = some (.int .i64 i) ∧ w.cell? ⟨W.heap.size + 1, 1, none⟩ = some (.string cl) ∧ w.cell? ⟨W.heap.size + 1, 2, none⟩ = some (.string su) ∧ w.cell? ⟨W.heap.size + 1, 3, none⟩ = some (.string sc) ∧ w.cell? ⟨W.heap.size + 1, 4, none⟩ = some (.int .i64 ge) ∧
    w.cell? ⟨W.heap.size + 1, 5, none⟩ = some (.int .i64 ma) ∧ w.cell? ⟨W.heap.size + 1, 6, none⟩ = some (.int .i64 us) ∧ w.cell? ⟨W.heap.size + 1, 7, none⟩ = some (.string re) ∧ w.cell? ⟨W.heap.size + 1, 8, none⟩ = some (.bool de) :=
  ⟨h.ev.cell 0, h.ev.cell 10, h.ev.cell 11, h.fam.cell 0, h.fam.cell 1, h.fam.cell 2, h.fam.cell 3, h.fam.cell 4, h.fam.cell 5, h.fam.cell 6, h.fam.cell 7, h.fam.cell 8⟩
theorem four_ok (a b c d : Int) : [a, b, c, d].all okN = (okN a && okN b && okN c && okN d) := by simp [Bool.and_assoc]
theorem ints_new (w : World) (T : TypeId) (L : List Int) : IntsAt (w.alloc (.cells (L.map fun x => Value.int .i64 x).toArray T)) w.heap.size L := by
  intro j hj
  have h := (Blk.new w T (L.map fun x => Value.int .i64 x).toArray).cell j
  rw [h]
  simp [hj]
theorem empty_list {s : ByteArray} : s.toList.isEmpty = decide (s.data.toList = []) := by
  rw [ByteArray.toList_eq]
  cases s.data.toList <;> simp
theorem scope_eq (x s : ByteArray) (l : List UInt8) (hx : x = txt l) : (x.toList == s.toList) = decide (l = s.data.toList) := by
  rw [hx, toList_txt, ByteArray.toList_eq, Bool.eq_iff_iff]
  simp

/-- the sizes of a family's texts -/
def Fam.len (f : Fam) : Nat := f.client.size + f.subject.size + f.scope.size + f.request.size
theorem Fam.short_of {f : Fam} {n : Nat} (h : f.len ≤ n) : f.short n := by
  unfold Fam.len at h
  exact ⟨by omega, by omega, by omega, by omega⟩

theorem one_ok (a : Int) : [a].all okN = okN a := by simp
theorem alloc2 (W : World) (o o' : Obj) : Below W.heap.size W ((W.alloc o).alloc o') := ((Below.refl _ _).alloc (Nat.le_refl _) _).alloc (by simp) _
theorem isZero_list (f : Fam) : f.isZero = (decide (f.id = 0) && decide (f.client.toList = []) && decide (f.subject.toList = []) && decide (f.scope.toList = []) && decide (f.gen = 0) && decide (f.made = 0) && decide (f.used = 0) && decide (f.request.toList = []) && !f.dead) := by
  unfold Fam.isZero
  rw [ByteArray.toList_eq, ByteArray.toList_eq, ByteArray.toList_eq, ByteArray.toList_eq]
theorem alloc3 {W w : World} (o o' o'' : Obj) (h : Below (((W.alloc o).alloc o').alloc o'').heap.size (((W.alloc o).alloc o').alloc o'') w) : Below W.heap.size W w :=
  below_2 ((alloc2 W o o').alloc (by simp; omega) o'') h
theorem zero_of {i ge ma us : Int} {cl su sc re : ByteArray} {de : Bool} (h1 : i = 0) (h2 : cl.toList = []) (h3 : su.toList = []) (h4 : sc.toList = []) (h5 : ge = 0) (h6 : ma = 0) (h7 : us = 0) (h8 : re.toList = []) (h9 : ¬ de = true)
    (h : Fam.isZero ⟨i, cl, su, sc, ge, ma, us, re, de⟩ = false) : False := by
  rw [isZero_list] at h
  have h9' : de = false := by simpa using h9
  dsimp only at h
  rw [h2, h3, h4, h8, h1, h5, h6, h7, h9'] at h
  simp at h
theorem ints_2 (W : World) (o o' : Obj) (T : TypeId) (b : Int) : IntsAt (((W.alloc o).alloc o').alloc (.cells #[.int .i64 b] T)) (W.heap.size + 1 + 1) [b] := by
  have h := ints_new ((W.alloc o).alloc o') T [b]
  simpa using h
/-- the two kinds of one number: what is to be none, and the number -/
theorem right_num (T : Int) (a b : Int) (e : Ev) (hk : e.kind = T) (h : (T = 2 ∧ a = e.time ∧ b = e.id) ∨ (T = 3 ∧ a = e.id ∧ b = e.time)) : evB e = (e.fam.isZero && decide (a = 0) && okN b) := by
  rcases h with ⟨rfl, rfl, rfl⟩ | ⟨rfl, rfl, rfl⟩
  · unfold evB; rw [hk, if_neg (by decide), if_pos rfl]
  · unfold evB; rw [hk, if_neg (by decide), if_neg (by decide), if_pos rfl]
theorem ints_at {L : List Int} {k : Nat} (hk : k < L.length) (h : okN (L.getD k 0) = false) : L.all okN = false := by
  rw [List.all_eq_false]
  refine ⟨L[k], List.getElem_mem hk, ?_⟩
  simpa [List.getD, hk] using h
theorem ints_all {L : List Int} (h : ∀ j, j < L.length → okN (L.getD j 0) = true) : L.all okN = true := by
  rw [List.all_eq_true]
  intro x hx
  obtain ⟨j, hj, rfl⟩ := List.mem_iff_getElem.1 hx
  have := h j hj
  simpa [List.getD, hj] using this
end Go.Proofs.YtklpmoimckblcaaGreatDoor
