/-
  The reference's Scope: what it gives is the plain law's.
-/
import Derived.Test.YtepjcdjpikbbjaaGreatDoorP03
import Derived.Test.YtepjcdjpikbbjaaGreatDoorP01
import Derived.Test.YtepjcdjpikbbjaaGreatDoorProg
import Derived.WalkKit
namespace Go.Proofs.YtepjcdjpikbbjaaGreatDoor
open Go.RowKit Go.Sort Go.Maps

structure RefInv (W : World) (s : List UInt8) (k : Nat) (d : List (List UInt8)) (c : List UInt8) (out : Value) (wr : World) : Prop where
  below : Below W.heap.size W wr
  map : MapSB Tryz.prog 9 4 wr W.heap.size d.length (fun x => d.contains x)
  row : wr.ownsRow W.heap.size 9 1 out (firsts d).length ((firsts d).map encStr)
  len : d.length ≤ k
  clen : c.length ≤ k
  front : k ≤ s.length → Front s k d c
  done : k = s.length + 1 → parts 43 s = d ∧ (parts 43 s).all okW = true
  top : k ≤ s.length + 1

section
variable {W wr wm w3 : World} {s : List UInt8} {k : Nat} {d : List (List UInt8)} {c : List UInt8} {out v' : Value} {o : Obj}
theorem RefInv.more (h : RefInv W s k d c out wr) {x : UInt8} (hx : s[k]? = some x) (h1 : 97 ≤ x.toNat) (h2 : x.toNat ≤ 122) : RefInv W s (k + 1) d (c ++ [x]) out wr := by
  have hlt := (List.getElem?_eq_some_iff.1 hx).1
  exact ⟨h.below, h.map, h.row, by have := h.len; omega, by have := h.clen; simp; omega, fun _ => (h.front (by omega)).more hx h1 h2, fun h' => by omega, by omega⟩
end
theorem row_of_owns {w : World} {B : Nat} {v : Value} {L : List (List UInt8)} (h : w.ownsRow B 9 1 v L.length (L.map encStr)) (hL : L ≠ []) : Row w B v L := by
  rcases h.2 with ⟨rfl, h0⟩ | ⟨g, cap, cur, rfl, _⟩
  · simp at h0; exact absurd h0 hL
  · exact ⟨g, cap, rfl, h⟩
theorem strInfo : (Tryz.prog.info? 9).map (fun i => (i.zero, i.size, i.bytes)) = some (some (.string ByteArray.empty), 1, 16) := by kernel_rfl

end Go.Proofs.YtepjcdjpikbbjaaGreatDoor

/-
  strings.Join of a scope's words.
-/
namespace Go.Proofs.YtepjcdjpikbbjaaGreatDoor
open Go.RowKit Go.Sort

theorem join_nil (w : World) (c : Nat) (sep : ByteArray) : Calls Tryz.prog 50 #[.slice none 0 c, .string sep] w fun e w' => e = .returned (.string ⟨#[]⟩) ∧ w' = w := Tryz.strings_Join_none none c sep w
theorem join_scope {w : World} {B : Nat} {v : Value} {s : List UInt8} (h : RowOrNil w B v (scopeL s)) : Calls Tryz.prog 50 #[v, .string ⟨#[43]⟩] w fun e w' => e = .returned (.string (txt (leastL s))) ∧ Below w.heap.size w w' := by
  rcases h with ⟨rfl, h⟩ | h
  · refine (join_nil w 0 _).mono ?_
    rintro e w' ⟨rfl, rfl⟩
    unfold leastL
    rw [h]
    exact ⟨rfl, Below.refl _ _⟩
  · have h1 := scopeL_small s
    have h2 := leastL_len s
    exact join_row 43 h (by omega) (by show (leastL s).length ≤ _; omega)
end Go.Proofs.YtepjcdjpikbbjaaGreatDoor

/-
  The reference's Least.
-/
namespace Go.Proofs.YtepjcdjpikbbjaaGreatDoor
open Go.RowKit Go.Sort

end Go.Proofs.YtepjcdjpikbbjaaGreatDoor

/-
  The reference's Name.
-/
namespace Go.Proofs.YtepjcdjpikbbjaaGreatDoor
open Go.RowKit Go.Sort

theorem nameB_size (s : ByteArray) : nameB s.data.toList = (decide (1 ≤ (s.size : Int)) && decide ((s.size : Int) ≤ 20) && s.data.toList.all nameC) := by
  unfold nameB
  rw [size_data]
  congr 2 <;> simp <;> omega

end Go.Proofs.YtepjcdjpikbbjaaGreatDoor

/-
  Families and events as values.
-/
namespace Go.Proofs.YtepjcdjpikbbjaaGreatDoor
open Go.RowKit Go.Sort

def famCs (f : Fam) : Array Value := #[.int .i64 f.id, .string f.client, .string f.subject, .string f.scope, .int .i64 f.gen, .int .i64 f.made, .int .i64 f.used, .string f.request, .bool f.dead]
def evCs (e : Ev) : Array Value := #[.int .i64 e.kind, .int .i64 e.fam.id, .string e.fam.client, .string e.fam.subject, .string e.fam.scope, .int .i64 e.fam.gen, .int .i64 e.fam.made, .int .i64 e.fam.used, .string e.fam.request, .bool e.fam.dead, .int .i64 e.id, .int .i64 e.time]
def famVal (f : Fam) : Value := .agg (famCs f)
def evVal (e : Ev) : Value := .agg (evCs e)
/-- a family's texts are short -/
def Fam.short (f : Fam) (n : Nat) : Prop := f.client.size ≤ n ∧ f.subject.size ≤ n ∧ f.scope.size ≤ n ∧ f.request.size ≤ n
theorem fam_cells {w : World} {g : Nat} {T : TypeId} {i : Int} {cl su sc : ByteArray} {ge ma us : Int} {re : ByteArray} {de : Bool} (h : Blk w g T (famCs ⟨i, cl, su, sc, ge, ma, us, re, de⟩)) :
    w.cell? ⟨g, 0, none⟩ = some (.int .i64 i) ∧ w.cell? ⟨g, 1, none⟩ = some (.string cl) ∧ w.cell? ⟨g, 2, none⟩ = some (.string su) ∧ w.cell? ⟨g, 3, none⟩ = some (.string sc) ∧ w.cell? ⟨g, 4, none⟩ = some (.int .i64 ge) ∧
    w.cell? ⟨g, 5, none⟩ = some (.int .i64 ma) ∧ w.cell? ⟨g, 6, none⟩ = some (.int .i64 us) ∧ w.cell? ⟨g, 7, none⟩ = some (.string re) ∧ w.cell? ⟨g, 8, none⟩ = some (.bool de) :=
  ⟨h.cell 0, h.cell 1, h.cell 2, h.cell 3, h.cell 4, h.cell 5, h.cell 6, h.cell 7, h.cell 8⟩
theorem ev_cells {w : World} {g : Nat} {T : TypeId} {k i : Int} {cl su sc : ByteArray} {ge ma us : Int} {re : ByteArray} {de : Bool} {id ti : Int} (h : Blk w g T (evCs ⟨k, ⟨i, cl, su, sc, ge, ma, us, re, de⟩, id, ti⟩)) :
    w.cell? ⟨g, 0, none⟩ = some (.int .i64 k) ∧ w.cell? ⟨g, 1, none⟩ = some (.int .i64 i) ∧ w.cell? ⟨g, 2, none⟩ = some (.string cl) ∧ w.cell? ⟨g, 3, none⟩ = some (.string su) ∧ w.cell? ⟨g, 4, none⟩ = some (.string sc) ∧ w.cell? ⟨g, 5, none⟩ = some (.int .i64 ge) ∧
    w.cell? ⟨g, 6, none⟩ = some (.int .i64 ma) ∧ w.cell? ⟨g, 7, none⟩ = some (.int .i64 us) ∧ w.cell? ⟨g, 8, none⟩ = some (.string re) ∧ w.cell? ⟨g, 9, none⟩ = some (.bool de) ∧ w.cell? ⟨g, 10, none⟩ = some (.int .i64 id) ∧ w.cell? ⟨g, 11, none⟩ = some (.int .i64 ti) :=
  ⟨h.cell 0, h.cell 1, h.cell 2, h.cell 3, h.cell 4, h.cell 5, h.cell 6, h.cell 7, h.cell 8, h.cell 9, h.cell 10, h.cell 11⟩
/-- numbers that lie in a block from its first cell on -/
def IntsAt (w : World) (g : Nat) (L : List Int) : Prop := ∀ j, j < L.length → w.cell? ⟨g, j, none⟩ = some (.int .i64 (L.getD j 0))
theorem IntsAt.drewN {w : World} {g : Nat} {L : List Int} (h : IntsAt w g L) (q : Nat) : IntsAt (w.drewN q) g L := h

/-- what the reference's May knows while it runs: the blocks of the event and of its family -/
structure MR (T : TypeId) (W : World) (e : Ev) (w : World) : Prop where
  below : Below W.heap.size W w
  ev : Blk w W.heap.size T (evCs e)
  fam : Blk w (W.heap.size + 1) 95 (famCs e.fam)
theorem MR.keep {T : TypeId} {W w w' : World} {e : Ev} (h : MR T W e w) (hb : Below w.heap.size w w') : MR T W e w' :=
  ⟨below_2 h.below hb, h.ev.below' hb, h.fam.below' hb⟩
theorem MR.start {T : TypeId} {W : World} (e : Ev) : MR T W e ((W.alloc (.cells (evCs e) T)).alloc (.cells (famCs e.fam) 95)) := by
  have hb : Below W.heap.size W ((W.alloc (.cells (evCs e) T)).alloc (.cells (famCs e.fam) 95)) := ((Below.refl _ _).alloc (Nat.le_refl _) _).alloc (by simp) _
  refine ⟨hb, (Blk.new W _ _).alloc _, ?_⟩
  have := Blk.new (W.alloc (.cells (evCs e) T)) 95 (famCs e.fam)
  simpa using this
theorem MR.cells {T : TypeId} {W w : World} {k i : Int} {cl su sc : ByteArray} {ge ma us : Int} {re : ByteArray} {de : Bool} {id ti : Int} (h : MR T W ⟨k, ⟨i, cl, su, sc, ge, ma, us, re, de⟩, id, ti⟩ w) :
    w.cell? ⟨W.heap.size, 0, none⟩ = some (.int .i64 k) ∧ w.cell? ⟨W.heap.size, 10, none⟩ = some (.int .i64 id) ∧ w.cell? ⟨W.heap.size, 11, none⟩ = some (.int .i64 ti) ∧
    w.cell? ⟨W.heap.size + 1, 0, none⟩ = some (.int .i64 i) ∧ w.cell? ⟨W.heap.size + 1, 1, none⟩ = some (.string cl) ∧ w.cell? ⟨W.heap.size + 1, 2, none⟩ = some (.string su) ∧ w.cell? ⟨W.heap.size + 1, 3, none⟩ = some (.string sc) ∧ w.cell? ⟨W.heap.size + 1, 4, none⟩ = some (.int .i64 ge) ∧
    w.cell? ⟨W.heap.size + 1, 5, none⟩ = some (.int .i64 ma) ∧ w.cell? ⟨W.heap.size + 1, 6, none⟩ = some (.int .i64 us) ∧ w.cell? ⟨W.heap.size + 1, 7, none⟩ = some (.string re) ∧ w.cell? ⟨W.heap.size + 1, 8, none⟩ = some (.bool de) :=
  ⟨h.ev.cell 0, h.ev.cell 10, h.ev.cell 11, h.fam.cell 0, h.fam.cell 1, h.fam.cell 2, h.fam.cell 3, h.fam.cell 4, h.fam.cell 5, h.fam.cell 6, h.fam.cell 7, h.fam.cell 8⟩
theorem four_ok (a b c d : Int) : [a, b, c, d].all okN = (okN a && okN b && okN c && okN d) := by simp [Bool.and_assoc]
theorem ints_new (w : World) (T : TypeId) (L : List Int) : IntsAt (w.alloc (.cells (L.map fun x => Value.int .i64 x).toArray T)) w.heap.size L := by
  intro j hj
  have h := (Blk.new w T (L.map fun x => Value.int .i64 x).toArray).cell j
  rw [h]
  simp [hj]
theorem empty_list {s : ByteArray} : s.toList.isEmpty = decide (s.data.toList = []) := by
  rw [ByteArray.toList_eq]
  cases s.data.toList <;> simp
theorem scope_eq (x s : ByteArray) (l : List UInt8) (hx : x = txt l) : (x.toList == s.toList) = decide (l = s.data.toList) := by
  rw [hx, toList_txt, ByteArray.toList_eq, Bool.eq_iff_iff]
  simp

/-- the sizes of a family's texts -/
def Fam.len (f : Fam) : Nat := f.client.size + f.subject.size + f.scope.size + f.request.size
theorem one_ok (a : Int) : [a].all okN = okN a := by simp
theorem alloc2 (W : World) (o o' : Obj) : Below W.heap.size W ((W.alloc o).alloc o') := ((Below.refl _ _).alloc (Nat.le_refl _) _).alloc (by simp) _
theorem isZero_list (f : Fam) : f.isZero = (decide (f.id = 0) && decide (f.client.toList = []) && decide (f.subject.toList = []) && decide (f.scope.toList = []) && decide (f.gen = 0) && decide (f.made = 0) && decide (f.used = 0) && decide (f.request.toList = []) && !f.dead) := by
  unfold Fam.isZero
  rw [ByteArray.toList_eq, ByteArray.toList_eq, ByteArray.toList_eq, ByteArray.toList_eq]
theorem alloc3 {W w : World} (o o' o'' : Obj) (h : Below (((W.alloc o).alloc o').alloc o'').heap.size (((W.alloc o).alloc o').alloc o'') w) : Below W.heap.size W w :=
  below_2 ((alloc2 W o o').alloc (by simp; omega) o'') h
theorem zero_of {i ge ma us : Int} {cl su sc re : ByteArray} {de : Bool} (h1 : i = 0) (h2 : cl.toList = []) (h3 : su.toList = []) (h4 : sc.toList = []) (h5 : ge = 0) (h6 : ma = 0) (h7 : us = 0) (h8 : re.toList = []) (h9 : ¬ de = true)
    (h : Fam.isZero ⟨i, cl, su, sc, ge, ma, us, re, de⟩ = false) : False := by
  rw [isZero_list] at h
  have h9' : de = false := by simpa using h9
  dsimp only at h
  rw [h2, h3, h4, h8, h1, h5, h6, h7, h9'] at h
  simp at h
theorem ints_2 (W : World) (o o' : Obj) (T : TypeId) (b : Int) : IntsAt (((W.alloc o).alloc o').alloc (.cells #[.int .i64 b] T)) (W.heap.size + 1 + 1) [b] := by
  have h := ints_new ((W.alloc o).alloc o') T [b]
  simpa using h
/-- the two kinds of one number: what is to be none, and the number -/
theorem right_num (T : Int) (a b : Int) (e : Ev) (hk : e.kind = T) (h : (T = 2 ∧ a = e.time ∧ b = e.id) ∨ (T = 3 ∧ a = e.id ∧ b = e.time)) : evB e = (e.fam.isZero && decide (a = 0) && okN b) := by
  rcases h with ⟨rfl, rfl, rfl⟩ | ⟨rfl, rfl, rfl⟩
  · unfold evB; rw [hk, if_neg (by decide), if_pos rfl]
  · unfold evB; rw [hk, if_neg (by decide), if_neg (by decide), if_pos rfl]
theorem ints_at {L : List Int} {k : Nat} (hk : k < L.length) (h : okN (L.getD k 0) = false) : L.all okN = false := by
  rw [List.all_eq_false]
  refine ⟨L[k], List.getElem_mem hk, ?_⟩
  simpa [List.getD, hk] using h
theorem ints_all {L : List Int} (h : ∀ j, j < L.length → okN (L.getD j 0) = true) : L.all okN = true := by
  rw [List.all_eq_true]
  intro x hx
  obtain ⟨j, hj, rfl⟩ := List.mem_iff_getElem.1 hx
  have := h j hj
  simpa [List.getD, hj] using this
end Go.Proofs.YtepjcdjpikbbjaaGreatDoor

/-
  The reference's May: may an event be?
-/
namespace Go.Proofs.YtepjcdjpikbbjaaGreatDoor
open Go.RowKit Go.Sort

end Go.Proofs.YtepjcdjpikbbjaaGreatDoor

/-
  The reference's May at the other kinds, and at all.
-/
namespace Go.Proofs.YtepjcdjpikbbjaaGreatDoor
open Go.RowKit Go.Sort

end Go.Proofs.YtepjcdjpikbbjaaGreatDoor

/-
  event.Name and the reference's Name.
-/
namespace Go.Proofs.YtepjcdjpikbbjaaGreatDoor
open Go.RowKit Go.Sort

theorem name_trim (x : ByteArray) (w : World) (hx : x.size ≤ 1000000) :
    (x.data.toList.all nameC = true → Calls Tryz.prog 219 #[.string x, .string ⟨#[97, 98, 99, 100, 101, 102, 103, 104, 105, 106, 107, 108, 109, 110, 111, 112, 113, 114, 115, 116, 117, 118, 119, 120, 121, 122, 48, 49, 50, 51, 52, 53, 54, 55, 56, 57, 45]⟩] w fun e w' => e = .returned (.string ⟨#[]⟩) ∧ Below w.heap.size w w') ∧
    (x.data.toList.all nameC = false → Calls Tryz.prog 219 #[.string x, .string ⟨#[97, 98, 99, 100, 101, 102, 103, 104, 105, 106, 107, 108, 109, 110, 111, 112, 113, 114, 115, 116, 117, 118, 119, 120, 121, 122, 48, 49, 50, 51, 52, 53, 54, 55, 56, 57, 45]⟩] w fun e w' => NotEmpty e ∧ Below w.heap.size w w') :=
  trim_set nameS x w hx (by decide) (ascii_of_all (by decide))
theorem ev_name (s : ByteArray) (W : World) (hs : s.size ≤ 5000) : Calls Tryz.prog 178 #[.string s] W fun e w' => e = .returned (.bool (nameB s.data.toList)) ∧ Below W.heap.size W w' := by
  have HN := Lib.hid (nameB_size s)
  have hT := name_trim s W (by omega)
  by_cases h0 : s.size < 1
  · clear hT
    go_enter Tryz.func178, Tryz.ntmps178
    go_wp2_with fail
    go_ret
    refine ⟨?_, Below.refl _ _⟩
    rw [HN.out, show decide (1 ≤ (s.size : Int)) = false by simp; omega]
    rfl
  · by_cases h1 : 20 < s.size
    · clear hT
      go_enter Tryz.func178, Tryz.ntmps178
      go_wp2_with fail
      go_ret
      refine ⟨?_, Below.refl _ _⟩
      rw [HN.out, show decide ((s.size : Int) ≤ 20) = false by simp; omega]
      simp
    · have HX := Lib.hid (show (decide (1 ≤ (s.size : Int)) && decide ((s.size : Int) ≤ 20)) = true by simp; omega)
      cases ha : s.data.toList.all nameC
      · have HT := Lib.hid (hT.2 ha)
        have HA := Lib.hid ha
        clear hT ha
        go_enter Tryz.func178, Tryz.ntmps178
        go_wp2_with
          (go_at_call 219; refine HT.out.mono ?_; rintro e w2 ⟨⟨z, rfl, hz⟩, hb2⟩
           have HB := Lib.hid hb2
           clear hb2)
        go_ret
        refine ⟨?_, HB.out⟩
        rw [HN.out, HX.out, HA.out]
        rfl
      · have HT := Lib.hid (hT.1 ha)
        have HA := Lib.hid ha
        clear hT ha
        go_enter Tryz.func178, Tryz.ntmps178
        go_wp2_with
          (go_at_call 219; refine HT.out.mono ?_; rintro e w2 ⟨rfl, hb2⟩
           have HB := Lib.hid hb2
           clear hb2)
        go_ret
        refine ⟨?_, HB.out⟩
        rw [HN.out, HX.out, HA.out]
        rfl
end Go.Proofs.YtepjcdjpikbbjaaGreatDoor

/-
  event.within: whether numbers are from 0 to MaxNumber.
-/
namespace Go.Proofs.YtepjcdjpikbbjaaGreatDoor
open Go.RowKit Go.Sort

theorem bad_num (x : Int) (w : World) : Calls Tryz.prog 237 #[.int .i64 x] w fun e w' => e = .returned (.bool (!okN x)) ∧ w = w' := by
  by_cases h0 : 0 ≤ x
  · go_enter Tryz.func237, Tryz.ntmps237
    go_wp2_with fail
    go_ret
    refine ⟨?_, rfl⟩
    show Ending.returned _ = _
    have e : (decide (x < 0) || decide (1099511627776 < x)) = !okN x := by
      rw [Bool.eq_iff_iff]
      simp [okN, h0]
      omega
    rw [← e]
    rfl
  · have h1 : x < 0 := by omega
    go_enter Tryz.func237, Tryz.ntmps237
    go_wp2_with fail
    go_ret
    refine ⟨?_, rfl⟩
    show Ending.returned _ = _
    simp [okN]
    try omega

def IntRel (L : List Int) (w : World) (i : Value) (wr : World) : Prop := ∃ k q : Nat, k ≤ L.length ∧ i = .int .i64 k ∧ wr = w.drewN q ∧ ∀ j, j < k → okN (L.getD j 0) = true
def IntGot (L : List Int) (w : World) (e : Ending) (w' : World) : Prop := ∃ (n : Int) (q : Nat), e = .returned (.int .i64 n) ∧ (!decide (0 ≤ n)) = L.all okN ∧ w' = w.drewN q

set_option maxHeartbeats 1000000 in
theorem index_bad (g cap : Nat) (L : List Int) (w : World) (h : IntsAt w g L) (hL : L.length ≤ 1000000) :
    Calls Tryz.prog 279 #[.slice (some ⟨g, 0, none⟩) L.length cap, .func (.func 237) #[] #[]] w (IntGot L w) := by
  have HR := Lib.hid h
  clear h
  go_enter Tryz.func279, Tryz.ntmps279
  go_wp2
  go_loopw [8] (fun i wr => IntRel L w i wr) (fun i _ => L.length - (intOf i).toNat)
  case atStart => exact ⟨0, 0, Nat.zero_le _, rfl, rfl, fun j hj => absurd hj (Nat.not_lt_zero _)⟩
  case round =>
    obtain ⟨k, q, hk, rfl, rfl, hno⟩ := hrel
    have HN := Lib.hid hno
    clear hno
    by_cases hlt : k < L.length
    · have hc := (HR.out.drewN q) k hlt
      generalize hx : L.getD k 0 = x at *
      have HX := Lib.hid hx
      clear hx
      cases hok : okN x
      · have HO := Lib.hid hok
        clear hok
        have HBN := Lib.hid (fun w => (bad_num x w).mono (fun e w' (h : e = .returned (.bool (!okN x)) ∧ w = w') => (show e = .returned (.bool true) ∧ w = w' from ⟨by rw [h.1, HO.out]; rfl, h.2⟩)))
        go_wp2_with (go_at_call 237; refine (HBN.out _).mono ?_; rintro e w1 ⟨rfl, rfl⟩)
        go_ret
        refine ⟨k, q, rfl, ?_, rfl⟩
        rw [ints_at hlt (by rw [HX.out]; exact HO.out)]
        simp
      · have HO := Lib.hid hok
        clear hok
        have HBN := Lib.hid (fun w => (bad_num x w).mono (fun e w' (h : e = .returned (.bool (!okN x)) ∧ w = w') => (show e = .returned (.bool false) ∧ w = w' from ⟨by rw [h.1, HO.out]; rfl, h.2⟩)))
        go_wp2_with (go_at_call 237; refine (HBN.out _).mono ?_; rintro e w1 ⟨rfl, rfl⟩)
        go_roundw
        case rel =>
          refine ⟨k + 1, q, by omega, by go_num, rfl, fun j hj => ?_⟩
          by_cases e : j = k
          · subst e
            rw [HX.out]
            exact HO.out
          · exact HN.out j (by omega)
        case measure => simp [intOf]; omega
    · go_wp2
      go_ret
      refine ⟨-1, q, rfl, ?_, rfl⟩
      rw [ints_all fun j hj => HN.out j (by omega)]
      rfl

set_option maxHeartbeats 1000000 in
theorem contains_bad (g cap : Nat) (L : List Int) (w : World) (h : IntsAt w g L) (hL : L.length ≤ 1000000) :
    Calls Tryz.prog 236 #[.slice (some ⟨g, 0, none⟩) L.length cap, .func (.func 237) #[] #[]] w fun e w' => e = .returned (.bool (!L.all okN)) ∧ ∃ q, w' = w.drewN q := by
  have H := Lib.hid (index_bad g cap L w h hL)
  clear h
  go_enter Tryz.func236, Tryz.ntmps236
  go_wp2_with (go_at_call 279; refine H.out.mono ?_; rintro e w1 ⟨n, q, rfl, hn, rfl⟩; have HN := Lib.hid hn; clear hn)
  go_ret
  exact ⟨by rw [← HN.out, Bool.not_not]; rfl, q, rfl⟩
theorem ev_within (g cap : Nat) (L : List Int) (w : World) (h : IntsAt w g L) (hL : L.length ≤ 1000000) :
    Calls Tryz.prog 205 #[.slice (some ⟨g, 0, none⟩) L.length cap] w fun e w' => e = .returned (.bool (L.all okN)) ∧ Below w.heap.size w w' := by
  have H := Lib.hid (contains_bad g cap L w h hL)
  clear h
  go_enter Tryz.func205, Tryz.ntmps205
  go_wp2_with (go_at_call 236; refine H.out.mono ?_; rintro e w1 ⟨rfl, q, rfl⟩)
  go_ret
  exact ⟨by simp, below_drewN (Below.refl _ _) q⟩
end Go.Proofs.YtepjcdjpikbbjaaGreatDoor

/-
  slices.ContainsFunc at 'longer than a word may be'.
-/
namespace Go.Proofs.YtepjcdjpikbbjaaGreatDoor
open Go.RowKit Go.Sort

theorem long_b (x : ByteArray) (w : World) : Calls Tryz.prog 224 #[.string x] w fun e w' => e = .returned (.bool (decide (8 < x.size))) ∧ w = w' := by
  by_cases h : 8 < x.size
  · have h1 : decide (8 < x.size) = true := by simpa using h
    go_enter Tryz.func224, Tryz.ntmps224
    go_wp2_with fail
    go_ret
    exact ⟨by rw [h1]; simp; omega, rfl⟩
  · have h1 : decide (8 < x.size) = false := by simpa using h
    go_enter Tryz.func224, Tryz.ntmps224
    go_wp2_with fail
    go_ret
    exact ⟨by rw [h1]; simp; omega, rfl⟩

def IdxRel (L : List (List UInt8)) (w : World) (i : Value) (wr : World) : Prop := ∃ k q : Nat, k ≤ L.length ∧ i = .int .i64 k ∧ wr = w.drewN q ∧ ∀ j, j < k → longB (L.getD j []) = false

theorem any_of_at {L : List (List UInt8)} {k : Nat} (hk : k < L.length) (h : longB (L.getD k []) = true) : L.any longB = true := by
  rw [List.any_eq_true]
  refine ⟨L[k], List.getElem_mem hk, ?_⟩
  simpa [List.getD, hk] using h
theorem any_of_none {L : List (List UInt8)} (h : ∀ j, j < L.length → longB (L.getD j []) = false) : L.any longB = false := by
  rw [List.any_eq_false]
  intro x hx
  obtain ⟨j, hj, rfl⟩ := List.mem_iff_getElem.1 hx
  have := h j hj
  simpa [List.getD, hj] using this
def AtOrNot (L : List (List UInt8)) (w : World) (e : Ending) (w' : World) : Prop := ∃ (n : Int) (q : Nat), e = .returned (.int .i64 n) ∧ decide (0 ≤ n) = L.any longB ∧ w' = w.drewN q

set_option maxHeartbeats 1000000 in
theorem index_long (B g cap : Nat) (L : List (List UInt8)) (w : World) (h : Row w B (.slice (some ⟨g, 0, none⟩) L.length cap) L) (hL : L.length ≤ 1000000) :
    Calls Tryz.prog 248 #[.slice (some ⟨g, 0, none⟩) L.length cap, .func (.func 224) #[] #[]] w (AtOrNot L w) := by
  have HR := Lib.hid h
  clear h
  go_enter Tryz.func248, Tryz.ntmps248
  go_wp2
  go_loopw [8] (fun i wr => IdxRel L w i wr) (fun i _ => L.length - (intOf i).toNat)
  case atStart => exact ⟨0, 0, Nat.zero_le _, rfl, rfl, fun j hj => absurd hj (Nat.not_lt_zero _)⟩
  case round =>
    obtain ⟨k, q, hk, rfl, rfl, hno⟩ := hrel
    have HN := Lib.hid hno
    clear hno
    by_cases hlt : k < L.length
    · have hc := (HR.out.drewN q).cell k hlt
      have hsz := txt_size (L.getD k [])
      generalize hx : txt (L.getD k []) = x at *
      have HX := Lib.hid hx
      clear hx
      by_cases hlong : 8 < x.size
      · have hd : decide (8 < x.size) = true := by simpa using hlong
        have HS := Lib.hid hsz
        clear hsz
        go_wp2_with (go_at_call 224; refine (long_b _ _).mono ?_; rintro e w1 ⟨rfl, rfl⟩)
        go_ret
        refine ⟨k, q, rfl, ?_, rfl⟩
        rw [any_of_at hlt (by unfold longB; rw [← HS.out]; simpa using hlong)]
        simp
      · have hd : decide (8 < x.size) = false := by simpa using hlong
        have HS := Lib.hid hsz
        clear hsz
        go_wp2_with (go_at_call 224; refine (long_b _ _).mono ?_; rintro e w1 ⟨rfl, rfl⟩)
        go_roundw
        case rel =>
          refine ⟨k + 1, q, by omega, by go_num, rfl, fun j hj => ?_⟩
          by_cases e : j = k
          · subst e
            unfold longB
            rw [← HS.out]
            simpa using hlong
          · exact HN.out j (by omega)
        case measure => simp [intOf]; omega
    · go_wp2
      go_ret
      refine ⟨-1, q, rfl, ?_, rfl⟩
      rw [any_of_none fun j hj => HN.out j (by omega)]
      rfl

set_option maxHeartbeats 1000000 in
theorem contains_long (B g cap : Nat) (L : List (List UInt8)) (w : World) (h : Row w B (.slice (some ⟨g, 0, none⟩) L.length cap) L) (hL : L.length ≤ 1000000) :
    Calls Tryz.prog 223 #[.slice (some ⟨g, 0, none⟩) L.length cap, .func (.func 224) #[] #[]] w fun e w' => e = .returned (.bool (L.any longB)) ∧ ∃ q, w' = w.drewN q := by
  have H := Lib.hid (index_long B g cap L w h hL)
  clear h
  go_enter Tryz.func223, Tryz.ntmps223
  go_wp2_with (go_at_call 248; refine H.out.mono ?_; rintro e w1 ⟨n, q, rfl, hn, rfl⟩; have HN := Lib.hid hn; clear hn)
  go_ret
  exact ⟨by rw [← HN.out]; rfl, q, rfl⟩
end Go.Proofs.YtepjcdjpikbbjaaGreatDoor

/-
  slices.Compact of a row of texts, by the shelf's contract.
-/
namespace Go.Proofs.YtepjcdjpikbbjaaGreatDoor
open Go.RowKit Go.Sort

theorem compact_len (L : List (List UInt8)) : (Lib.compact L).length ≤ L.length := Lib.compact_length_le L
theorem compact_row {B : Nat} {v : Value} {L : List (List UInt8)} {w W : World} (h : Row w B v L) (hB : Below B W w) (hL : L.length ≤ 1000000) :
    Calls Tryz.prog 222 #[v] w fun e w' => ∃ g cap, e = .returned (.slice (some ⟨g, 0, none⟩) (Lib.compact L).length cap) ∧ Row w' B (.slice (some ⟨g, 0, none⟩) (Lib.compact L).length cap) (Lib.compact L) ∧ Below B W w' := by
  obtain ⟨g, cap, rfl, hg, hlt, hn, hm, hH⟩ := h.parts
  refine (Tryz.slices_Compact_string g 0 cap L w hH (by omega) hn).mono ?_
  rintro e w' ⟨rfl, q, rfl⟩
  exact ⟨g, cap, rfl, h.cut (compact_len L), Lib.below_putRow hB hg⟩
end Go.Proofs.YtepjcdjpikbbjaaGreatDoor

/-
  An error as the program gives it: nil, or an api.Errno.
-/
namespace Go.Proofs.YtepjcdjpikbbjaaGreatDoor

/-- an error that is nil (0), or an api.Errno -/
def errV (n : Int) : Value := if n = 0 then .nilIface else .iface 57 (.int .i64 n)

end Go.Proofs.YtepjcdjpikbbjaaGreatDoor
