/-
  Scopes in plain Lean: the words of one, in order, each once; its least form; whether one is within another.
-/
import Derived.Test.YtdogilbnbbeljaaGreatDoorH01
import Derived.Lib.SlicesCompact
import Derived.Sort.KeysCollected
import Derived.Test.YtdogilbnbbeljaaGreatDoorProg
import Derived.WalkKit
import Derived.WalkSpells
import Derived.WalkLawsBesides
import Derived.Lib.Hide
import Derived.Laws.Rows
import Derived.Deep.Draws
import Derived.Sort.OwnSorted
import Derived.Lib.OwnBridge
import Derived.Laws.OwnMore
import Derived.LoopTactic
import Derived.Deep.LoopGhost
import Derived.Deep.QuietTactic
import Derived.BigQuiet
namespace Go.Proofs.YtdogilbnbbeljaaGreatDoor

/-- the order of words -/
abbrev leW : List UInt8 → List UInt8 → Bool := fun x y => decide (x ≤ y)
theorem leW_trans : ∀ a b c : List UInt8, leW a b = true → leW b c = true → leW a c = true := fun a b c h1 h2 => by simp only [leW, decide_eq_true_eq] at *; exact List.le_trans h1 h2
theorem leW_total : ∀ a b : List UInt8, (leW a b || leW b a) = true := fun a b => by simp only [leW, Bool.or_eq_true, decide_eq_true_eq]; exact List.le_total a b
theorem leW_anti {a b : List UInt8} (h1 : leW a b = true) (h2 : leW b a = true) : a = b := by
  simp only [leW, decide_eq_true_eq] at h1 h2
  exact List.le_antisymm h1 h2
/-- sorted, each once -/
def Up (l : List (List UInt8)) : Prop := l.Pairwise fun a b => leW a b = true ∧ a ≠ b

def uniq (ws : List (List UInt8)) : List (List UInt8) := Lib.compact (ws.mergeSort leW)

theorem compactUpTo_app (l : List (List UInt8)) (x : List UInt8) : ∀ m, m ≤ l.length → Lib.compactUpTo (l ++ [x]).toArray m = Lib.compactUpTo l.toArray m
  | 0, _ => rfl
  | m + 1, h => by
    rw [Lib.compactUpTo_succ, Lib.compactUpTo_succ, compactUpTo_app l x m (by omega)]
    have g : ∀ j, j < l.length → (l ++ [x]).toArray[j]! = l.toArray[j]! := by
      intro j hj
      simp [hj, List.getElem?_append_left hj]
    have k : Lib.keeps (l ++ [x]).toArray m = Lib.keeps l.toArray m := by
      unfold Lib.keeps
      rw [g m (by omega), g (m - 1) (by omega)]
    rw [k, g m (by omega)]
theorem compact_snoc (l : List (List UInt8)) (x : List UInt8) : Lib.compact (l ++ [x]) = Lib.compact l ++ if l.getLast? = some x then [] else [x] := by
  unfold Lib.compact
  rw [List.length_append, List.length_singleton, Lib.compactUpTo_succ, compactUpTo_app l x _ (Nat.le_refl _)]
  congr 1
  have e1 : (l ++ [x]).toArray[l.length]! = x := by simp
  rw [e1]
  have hk : Lib.keeps (l ++ [x]).toArray l.length = !decide (l.getLast? = some x) := by
    unfold Lib.keeps
    rw [e1]
    rcases List.eq_nil_or_concat l with rfl | ⟨r, y, rfl⟩
    · rfl
    · have e2 : ((r ++ [y]) ++ [x]).toArray[(r ++ [y]).length - 1]! = y := by simp
      simp only [List.concat_eq_append] at e2 ⊢
      rw [e2]
      by_cases h : x = y
      · subst h; simp
      · simp [h, Ne.symm h]
  rw [hk]
  by_cases h : l.getLast? = some x <;> simp [h]
theorem mem_compact (w : List UInt8) : ∀ (n : Nat) (l : List (List UInt8)), l.length = n → (w ∈ Lib.compact l ↔ w ∈ l)
  | 0, l, h => by obtain rfl := List.eq_nil_of_length_eq_zero h; exact Iff.rfl
  | n + 1, l, h => by
    rcases List.eq_nil_or_concat l with rfl | ⟨r, y, rfl⟩
    · exact Iff.rfl
    · rw [List.concat_eq_append] at h ⊢
      have ih := mem_compact w n r (by simpa using h)
      rw [compact_snoc, List.mem_append, List.mem_append, ih]
      by_cases e : r.getLast? = some y
      · rw [if_pos e]
        have : y ∈ r := List.mem_of_getLast? e
        simp only [List.not_mem_nil, or_false, List.mem_singleton]
        exact ⟨.inl, fun h => h.elim id fun e => e ▸ this⟩
      · rw [if_neg e]
theorem compact_up : ∀ (n : Nat) (l : List (List UInt8)), l.length = n → l.Pairwise (fun a b => leW a b = true) → Up (Lib.compact l)
  | 0, l, h, _ => by obtain rfl := List.eq_nil_of_length_eq_zero h; exact List.Pairwise.nil
  | n + 1, l, h, hp => by
    rcases List.eq_nil_or_concat l with rfl | ⟨r, y, rfl⟩
    · exact List.Pairwise.nil
    · rw [List.concat_eq_append] at h hp ⊢
      rw [List.pairwise_append] at hp
      have ih := compact_up n r (by simpa using h) hp.1
      rw [compact_snoc]
      by_cases e : r.getLast? = some y
      · rw [if_pos e, List.append_nil]; exact ih
      · rw [if_neg e]
        refine List.pairwise_append.2 ⟨ih, List.pairwise_singleton _ _, ?_⟩
        intro a ha b hb
        rw [List.mem_singleton] at hb
        subst hb
        have har : a ∈ r := (mem_compact a _ r rfl).1 ha
        refine ⟨hp.2.2 a har b (by simp), ?_⟩
        rintro rfl
        rcases List.eq_nil_or_concat r with rfl | ⟨q, z, rfl⟩
        · simp at har
        · rw [List.concat_eq_append] at har e hp
          have hz : leW a z = true := by
            rcases List.mem_append.1 har with h1 | h1
            · exact (List.pairwise_append.1 hp.1).2.2 a h1 z (by simp)
            · rw [List.mem_singleton] at h1; subst h1; simp [leW]
          have hz2 : leW z a = true := hp.2.2 z (by simp) a (by simp)
          exact e (by rw [leW_anti hz hz2]; simp)
theorem mem_uniq {ws : List (List UInt8)} {w : List UInt8} : w ∈ uniq ws ↔ w ∈ ws := by
  unfold uniq
  rw [mem_compact w _ _ rfl, List.mem_mergeSort]
theorem uniq_up (ws : List (List UInt8)) : Up (uniq ws) := compact_up _ _ rfl (List.pairwise_mergeSort leW_trans leW_total ws)
theorem Up.nodup {l : List (List UInt8)} (h : Up l) : l.Nodup := h.imp fun h => h.2
theorem Up.sorted {l : List (List UInt8)} (h : Up l) : l.Pairwise fun a b => leW a b = true := h.imp fun h => h.1
/-- two that are sorted, each once, of the same words are one -/
theorem Up.ext {l r : List (List UInt8)} (h : Up l) (k : Up r) (e : ∀ w, w ∈ l ↔ w ∈ r) : l = r :=
  List.Perm.eq_of_pairwise (le := fun a b => leW a b = true) (fun _ _ _ _ h1 h2 => leW_anti h1 h2) h.sorted k.sorted ((List.perm_ext_iff_of_nodup h.nodup k.nodup).2 e)
theorem uniq_of_up {l : List (List UInt8)} (h : Up l) : uniq l = l := (uniq_up l).ext h fun _ => mem_uniq
theorem sort_uniq {out ws : List (List UInt8)} (h : out.Nodup) (e : ∀ w, w ∈ out ↔ w ∈ ws) : out.mergeSort leW = uniq ws := by
  refine Up.ext ?_ (uniq_up ws) fun w => by rw [List.mem_mergeSort, e, mem_uniq]
  have hs := List.pairwise_mergeSort leW_trans leW_total out
  have hn : (out.mergeSort leW).Nodup := (List.mergeSort_perm out leW).nodup_iff.2 h
  exact List.Pairwise.and hs hn
theorem len_uniq {out ws : List (List UInt8)} (h : out.Nodup) (e : ∀ w, w ∈ out ↔ w ∈ ws) : out.length = (uniq ws).length := by
  rw [← sort_uniq h e, List.length_mergeSort]

/-- of a to z -/
def lowB (w : List UInt8) : Bool := w.all fun c => decide (97 ≤ c.toNat) && decide (c.toNat ≤ 122)
/-- may this be a word? -/
def okW (w : List UInt8) : Bool := !w.isEmpty && lowB w
/-- what is wrong with a scope: 0, 3 or 4 -/
def scopeN (s : List UInt8) : Int :=
  if s = [] then 0 else if (parts 43 s).all okW then (if (uniq (parts 43 s)).length ≤ 5 ∧ (uniq (parts 43 s)).all (fun w => decide (w.length ≤ 8)) = true then 0 else 4) else 3
/-- its words -/
def scopeL (s : List UInt8) : List (List UInt8) := if s = [] then [] else if scopeN s = 0 then uniq (parts 43 s) else []
/-- its least form -/
def leastL (s : List UInt8) : List UInt8 := glue 43 (scopeL s)
def withinB (a b : List UInt8) : Bool := (scopeL a).all fun w => (scopeL b).contains w

theorem scopeN_cases (s : List UInt8) : scopeN s = 0 ∨ scopeN s = 3 ∨ scopeN s = 4 := by
  unfold scopeN
  split
  · exact .inl rfl
  · split
    · split
      · exact .inl rfl
      · exact .inr (.inr rfl)
    · exact .inr (.inl rfl)
theorem scopeL_up (s : List UInt8) : Up (scopeL s) := by
  unfold scopeL
  split
  · exact List.Pairwise.nil
  · split
    · exact uniq_up _
    · exact List.Pairwise.nil
theorem scopeL_ok {s w : List UInt8} (h : w ∈ scopeL s) : okW w = true := by
  unfold scopeL at h
  split at h
  · simp at h
  · rename_i hs
    split at h
    · rename_i h0
      rw [mem_uniq] at h
      unfold scopeN at h0
      rw [if_neg hs] at h0
      split at h0
      · rename_i ha
        exact List.all_eq_true.1 ha w h
      · cases h0
    · simp at h
theorem scopeL_small (s : List UInt8) : (scopeL s).length ≤ 5 ∧ ∀ w ∈ scopeL s, w.length ≤ 8 := by
  unfold scopeL
  split
  · simp
  · rename_i hs
    split
    · rename_i h0
      unfold scopeN at h0
      rw [if_neg hs] at h0
      split at h0
      · split at h0
        · rename_i h1
          exact ⟨h1.1, fun w hw => by simpa using List.all_eq_true.1 h1.2 w hw⟩
        · cases h0
      · cases h0
    · simp
theorem okW_free {w : List UInt8} (h : okW w = true) : (43 : UInt8) ∉ w := by
  intro hm
  simp only [okW, lowB, Bool.and_eq_true] at h
  have := List.all_eq_true.1 h.2 43 hm
  simp at this
theorem okW_ne {w : List UInt8} (h : okW w = true) : w ≠ [] := by
  rintro rfl
  simp [okW] at h
theorem glue_len : ∀ ws : List (List UInt8), (∀ w ∈ ws, w.length ≤ 8) → (glue 43 ws).length ≤ 9 * ws.length
  | [], _ => by simp [glue]
  | [w], h => by have := h w (by simp); simp [glue]; omega
  | w :: v :: r, h => by
    have := h w (by simp)
    have ih := glue_len (v :: r) fun x hx => h x (List.mem_cons_of_mem _ hx)
    rw [glue]
    simp at ih ⊢
    omega
theorem leastL_len (s : List UInt8) : (leastL s).length ≤ 45 := by
  have h := scopeL_small s
  have := glue_len _ h.2
  unfold leastL
  omega
theorem glue_ne {c : UInt8} : ∀ {ws : List (List UInt8)}, ws ≠ [] → (∀ w ∈ ws, w ≠ []) → glue c ws ≠ []
  | [], h, _ => absurd rfl h
  | [w], _, h => h w (by simp)
  | w :: v :: r, _, _ => by simp [glue]
/-- the least form's own words are those; it is its own least form -/
theorem scope_least (s : List UInt8) : scopeN (leastL s) = 0 ∧ scopeL (leastL s) = scopeL s := by
  by_cases h0 : scopeL s = []
  · have : leastL s = [] := by unfold leastL; rw [h0]; rfl
    rw [this, h0]
    exact ⟨rfl, rfl⟩
  · have hok : ∀ w ∈ scopeL s, okW w = true := fun w => scopeL_ok
    have hne : leastL s ≠ [] := glue_ne h0 fun w hw => okW_ne (hok w hw)
    have hp : parts 43 (leastL s) = scopeL s := parts_glue 43 _ h0 fun w hw => okW_free (hok w hw)
    have hu : uniq (scopeL s) = scopeL s := uniq_of_up (scopeL_up s)
    have hs := scopeL_small s
    have h1 : scopeN (leastL s) = 0 := by
      unfold scopeN
      rw [if_neg hne, hp, hu, if_pos (List.all_eq_true.2 hok), if_pos ⟨hs.1, List.all_eq_true.2 fun w hw => by simpa using hs.2 w hw⟩]
    refine ⟨h1, ?_⟩
    unfold scopeL
    rw [if_neg hne, if_pos h1, hp, hu]
    rfl
theorem least_inj {a b : List UInt8} (h : leastL a = leastL b) : scopeL a = scopeL b := by
  rw [← (scope_least a).2, ← (scope_least b).2, h]
theorem least_least (s : List UInt8) : leastL (leastL s) = leastL s := by
  unfold leastL
  rw [show scopeL (glue 43 (scopeL s)) = scopeL s from (scope_least s).2]
theorem within_iff {a b : List UInt8} : withinB a b = true ↔ ∀ w ∈ scopeL a, w ∈ scopeL b := by simp [withinB]
/-- LESS IS LESS, in plain Lean -/
theorem order_law (a b c : List UInt8) : withinB a (leastL a) = true ∧ leastL (leastL a) = leastL a ∧ (withinB a b = true → withinB b c = true → withinB a c = true) ∧
    ((withinB a b = true ∧ withinB b a = true) ↔ leastL a = leastL b) := by
  refine ⟨?_, least_least a, ?_, ?_, ?_⟩
  · rw [within_iff, (scope_least a).2]; exact fun w h => h
  · rw [within_iff, within_iff, within_iff]; exact fun h1 h2 w h => h2 w (h1 w h)
  · rw [within_iff, within_iff]
    intro ⟨h1, h2⟩
    unfold leastL
    rw [(scopeL_up a).ext (scopeL_up b) fun w => ⟨h1 w, h2 w⟩]
  · intro h
    rw [within_iff, within_iff, least_inj h]
    exact ⟨fun _ h => h, fun _ h => h⟩
end Go.Proofs.YtdogilbnbbeljaaGreatDoor

/-
  Words of memory: a block known whole; what is kept of a world. (After the guide's page on words.)
-/
namespace Go.Proofs.YtdogilbnbbeljaaGreatDoor
open Go.RowKit

def Blk (w : World) (g : Nat) (t : TypeId) (cs : Array Value) : Prop := w.heap[g]? = some (.cells cs t (0, 0))

section
variable {w w' : World} {g : Nat} {t : TypeId} {cs : Array Value}
theorem Blk.lt (h : Blk w g t cs) : g < w.heap.size := by
  rcases Nat.lt_or_ge g w.heap.size with hlt | hge
  · exact hlt
  · unfold Blk at h; rw [Array.getElem?_eq_none hge] at h; cases h
theorem Blk.cell (h : Blk w g t cs) (i : Nat) : w.cell? ⟨g, i, none⟩ = cs[i]? := cell_of_row w g i cs t (0, 0) h
theorem Blk.frozen (h : Blk w g t cs) (i : Nat) : w.frozen? ⟨g, i, none⟩ = false := by
  unfold Blk at h
  simp [World.frozen?, h]
theorem Blk.new (w : World) (t : TypeId) (cs : Array Value) : Blk (w.alloc (.cells cs t)) w.heap.size t cs := heap_alloc_new w _
theorem Blk.drew (h : Blk w g t cs) : Blk w.drew g t cs := h
theorem Blk.drewN (h : Blk w g t cs) (n : Nat) : Blk (w.drewN n) g t cs := h
theorem Blk.alloc (h : Blk w g t cs) (o : Obj) : Blk (w.alloc o) g t cs := (Below.heap_alloc w o g h.lt).trans h
theorem Blk.set_ (h : Blk w g t cs) (i : Nat) (u : Value) : Blk (w.setCell ⟨g, i, none⟩ u) g t (cs.setIfInBounds i u) := by
  unfold Blk at h ⊢
  simp [World.setCell, Array.getElem?_modify, h]
theorem Blk.far (h : Blk w g t cs) {p : Addr} (hp : g ≠ p.block) (u : Value) : Blk (w.setCell p u) g t cs := (Below.heap_setCell w p u g hp).trans h
theorem Blk.below {B : Nat} (h : Blk w g t cs) (hb : Below B w w') (hg : g < B) : Blk w' g t cs := (hb.block g hg).trans h
theorem Blk.below' (h : Blk w g t cs) (hb : Below w.heap.size w w') : Blk w' g t cs := (hb.block g h.lt).trans h
theorem Blk.grown {row : Option Nat} (h : Blk w g t cs) (hb : w.grownBy w' row) (hg : some g ≠ row) : Blk w' g t cs := (hb.block g h.lt hg).trans h
theorem Blk.ne_ {g' : Nat} {t' : TypeId} {cs' : Array Value} (h : Blk w g t cs) (h' : Blk w g' t' cs') (hne : t ≠ t') : g ≠ g' := by
  rintro rfl
  unfold Blk at h h'
  rw [h] at h'
  injection h' with h'
  injection h' with _ ht
  exact hne ht
theorem Blk.eq_ {cs' : Array Value} (h : Blk w g t cs) (h' : Blk w g t cs') : cs = cs' := by
  unfold Blk at h h'
  rw [h] at h'
  injection h' with h'
  injection h'
end

theorem below_drewN {B : Nat} {a w : World} (h : Below B a w) (n : Nat) : Below B a (w.drewN n) := ⟨h.os, h.tape, h.output, h.size, h.block⟩
theorem only_drewN {a w : World} {row : Option Nat} (h : a.grownBy w row) (n : Nat) : a.grownBy (w.drewN n) row := ⟨h.os, h.tape, h.output, h.size, h.block⟩
theorem only_drew {a w : World} {row : Option Nat} (h : a.grownBy w row) : a.grownBy w.drew row := ⟨h.os, h.tape, h.output, h.size, h.block⟩
theorem only_alloc {a w : World} {row : Option Nat} (h : a.grownBy w row) (o : Obj) : a.grownBy (w.alloc o) row :=
  ⟨h.os, h.tape, h.output, Nat.le_trans h.size (by simp), fun i hi hne => (Below.heap_alloc w o i (Nat.lt_of_lt_of_le hi h.size)).trans (h.block i hi hne)⟩
theorem only_setCell {a w : World} {g : Nat} (h : a.grownBy w (some g)) {p : Addr} (hp : p.block = g ∨ a.heap.size ≤ p.block) (u : Value) : a.grownBy (w.setCell p u) (some g) :=
  ⟨h.os, h.tape, h.output, by simpa [World.setCell] using h.size, fun i hi hne => (Below.heap_setCell w p u i (by
    rintro rfl
    rcases hp with hp | hp
    · exact hne (by rw [hp])
    · omega)).trans (h.block i hi hne)⟩
theorem only_of_below {a w : World} (h : Below a.heap.size a w) (row : Option Nat) : a.grownBy w row := ⟨h.os, h.tape, h.output, h.size, fun i hi _ => h.block i hi⟩
theorem only_refl (a : World) (row : Option Nat) : a.grownBy a row := World.grownBy.refl a row
theorem only_trans {a b c : World} {g : Nat} (h : a.grownBy b (some g)) (k : b.grownBy c (some g)) : a.grownBy c (some g) :=
  ⟨k.os.trans h.os, k.tape.trans h.tape, k.output.trans h.output, Nat.le_trans h.size k.size, fun i hi hn => (k.block i (Nat.lt_of_lt_of_le hi h.size) hn).trans (h.block i hi hn)⟩
theorem only_below {a b c : World} {g : Nat} (h : a.grownBy b (some g)) (k : Below b.heap.size b c) : a.grownBy c (some g) := only_trans h (only_of_below k _)
/-- only a block of the call's own has turned -/
theorem below_of_only {a b c : World} {B g : Nat} (h : Below B a b) (k : b.grownBy c (some g)) (hB : B ≤ g) (hs : B ≤ b.heap.size) : Below B a c :=
  h.grown k hs fun i e => by injection e with e; omega
theorem below_2 {W a b : World} (h1 : Below W.heap.size W a) (h2 : Below a.heap.size a b) : Below W.heap.size W b := h1.trans (h2.mono h1.size)
end Go.Proofs.YtdogilbnbbeljaaGreatDoor

/-
  A slice of strings that the call itself made, told as a list of texts; a text's bytes as a list.
-/
namespace Go.Proofs.YtdogilbnbbeljaaGreatDoor
open Go.RowKit Go.Sort

/-- a text by its bytes -/
def txt (l : List UInt8) : ByteArray := ⟨l.toArray⟩
theorem txt_data (s : ByteArray) : txt s.data.toList = s := by cases s; simp [txt]
theorem data_txt (l : List UInt8) : (txt l).data.toList = l := by simp [txt]
theorem txt_size (l : List UInt8) : (txt l).size = l.length := by simp [txt, ByteArray.size]
theorem size_data (s : ByteArray) : s.data.toList.length = s.size := by cases s; simp [ByteArray.size]
theorem txt_inj {a b : List UInt8} (h : txt a = txt b) : a = b := by rw [← data_txt a, h, data_txt]
theorem txt_app (a b : List UInt8) : txt a ++ txt b = txt (a ++ b) := by
  apply ByteArray.ext
  simp [txt]
theorem encStr_txt (l : List UInt8) : encStr l = .string (txt l) := rfl

/-- v is a slice (not nil) of the call's own that holds the texts L -/
def Row (w : World) (B : Nat) (v : Value) (L : List (List UInt8)) : Prop :=
  ∃ g cap, v = .slice (some ⟨g, 0, none⟩) L.length cap ∧ w.ownsRow B 9 1 v L.length (L.map encStr)

section
variable {w w' : World} {B : Nat} {v : Value} {L : List (List UInt8)}
theorem Row.kept (h : Row w B v L) {row : Option Nat} (hg : w.grownBy w' row) (hne : v.ownBlock ≠ row) : Row w' B v L := by
  obtain ⟨g, cap, e, ho⟩ := h
  exact ⟨g, cap, e, ho.kept hg (.inr hne)⟩
theorem Row.below (h : Row w B v L) (hb : Below w.heap.size w w') : Row w' B v L := by
  obtain ⟨g, cap, e, ho⟩ := h
  exact ⟨g, cap, e, ho.kept (only_of_below hb none) (.inr (by rw [e]; simp [Value.ownBlock]))⟩
theorem Row.drewN (h : Row w B v L) (n : Nat) : Row (w.drewN n) B v L := h
theorem Row.drew (h : Row w B v L) : Row w.drew B v L := h
theorem Row.alloc (h : Row w B v L) (o : Obj) : Row (w.alloc o) B v L := by
  obtain ⟨g, cap, e, ho⟩ := h
  exact ⟨g, cap, e, ho.alloc o⟩
theorem Row.cell {g cap : Nat} (h : Row w B (.slice (some ⟨g, 0, none⟩) L.length cap) L) (j : Nat) (hj : j < L.length) : w.cell? ⟨g, j, none⟩ = some (.string (txt (L.getD j []))) := by
  obtain ⟨g', cap', e, ho⟩ := h
  have := ho.cellAt j (by omega)
  rw [this]
  simp [List.getD, hj, encStr, txt]
theorem Row.parts (h : Row w B v L) : ∃ g cap, v = .slice (some ⟨g, 0, none⟩) L.length cap ∧ B ≤ g ∧ g < w.heap.size ∧ L.length ≤ cap ∧ cap ≤ maxLen ∧ Holds encStr w g 0 L.toArray := by
  obtain ⟨g, cap, rfl, ho⟩ := h
  obtain ⟨g', cap', e, h1, h2, h3, h4, _, h6⟩ := Lib.holds_of_ownsRow ho (by simp)
  injection e with e1 _ e3
  injection e1 with e1
  injection e1 with e1
  subst e1; subst e3
  exact ⟨g, cap, rfl, h1, h2, h3, h4, h6⟩
theorem Row.mono {B' : Nat} (h : Row w B v L) (hB : B' ≤ B) : Row w B' v L := by
  obtain ⟨g, cap, rfl, ho⟩ := h
  refine ⟨g, cap, rfl, ho.1, ?_⟩
  rcases ho.2 with h0 | ⟨g', cap', cur, e, h1, h2⟩
  · exact .inl h0
  · exact .inr ⟨g', cap', cur, e, by omega, h2⟩
/-- a block that holds just these texts -/
theorem Row.new (hB : B ≤ w.heap.size) (hm : L.length ≤ maxLen) : Row (w.alloc (.cells (L.map encStr).toArray 9)) B (.slice (some ⟨w.heap.size, 0, none⟩) L.length L.length) L := by
  refine ⟨_, _, rfl, by simp, .inr ⟨w.heap.size, L.length, (L.map encStr).toArray, rfl, hB, heap_alloc_new w _, Nat.le_refl _, hm, by simp, ?_⟩⟩
  rw [List.take_of_length_le (by simp)]
theorem Row.sorted {g cap n : Nat} {os : Array Obj} {T : List (List UInt8)} (h : Row w B (.slice (some ⟨g, 0, none⟩) L.length cap) L) (hl : T.length = L.length) :
    Row (grow (putRow encStr (Sort.ahead w n) g 0 T.toArray) os) B (.slice (some ⟨g, 0, none⟩) L.length cap) T := by
  obtain ⟨g', cap', e, ho⟩ := h
  injection e with e1 _ e3
  injection e1 with e1
  injection e1 with e1
  subst e1; subst e3
  rcases ho.2 with ⟨h0, _⟩ | ⟨g', cap', cur, hv, hbase, hb, h1, h2, h3, h4⟩
  · cases h0
  cases hv
  refine ⟨g, cap, by rw [hl], ?_⟩
  rw [hl]
  exact ownsRow_sorted (n := n) (os := os) hl hbase hb h1 h2 h3
theorem Row.cut {g cap q : Nat} {T : List (List UInt8)} (h : Row w B (.slice (some ⟨g, 0, none⟩) L.length cap) L) (hl : T.length ≤ L.length) :
    Row (putRow encStr (Sort.ahead w q) g 0 (T ++ List.replicate (L.length - T.length) []).toArray) B (.slice (some ⟨g, 0, none⟩) T.length cap) T := by
  obtain ⟨g', cap', e, ho⟩ := h
  injection e with e1 _ e3
  injection e1 with e1
  injection e1 with e1
  subst e1; subst e3
  have hc := Lib.ownsRow_putRow (q := q) (k := T.length) (ys := T ++ List.replicate (L.length - T.length) []) ho (by simp; omega) hl
  rw [List.take_left] at hc
  exact ⟨g, cap, rfl, hc⟩
end

theorem toList_txt (l : List UInt8) : (txt l).toList = l := by
  rw [ByteArray.toList_eq]
  simp [txt]
theorem parts_len (c : UInt8) : ∀ l : List UInt8, (parts c l).length ≤ l.length + 1
  | [] => by simp [parts]
  | x :: l => by
    have ih := parts_len c l
    by_cases hx : x = c
    · subst hx; rw [parts_sep]; simp; omega
    · rcases e : parts c l with _ | ⟨v, r⟩
      · exact absurd e (parts_ne c l)
      · rw [parts_cons hx e]; rw [e] at ih; simp at ih ⊢; omega

theorem parts_word_len (c : UInt8) : ∀ (l : List UInt8) (n : Nat), l.length ≤ n → ∀ w ∈ parts c l, w.length ≤ n
  | [], n, _, w, h => by simp [parts] at h; simp [h]
  | x :: l, n, hn, w, h => by
    simp at hn
    by_cases hx : x = c
    · subst hx
      rw [parts_sep] at h
      rcases List.mem_cons.1 h with rfl | h
      · simp
      · exact parts_word_len x l n (by omega) w h
    · rcases e : parts c l with _ | ⟨v, r⟩
      · exact absurd e (parts_ne c l)
      · rw [parts_cons hx e] at h
        rcases List.mem_cons.1 h with rfl | h
        · have := parts_word_len c l l.length (Nat.le_refl _) v (by rw [e]; exact List.mem_cons_self)
          simp; omega
        · exact parts_word_len c l n (by omega) w (by rw [e]; exact List.mem_cons_of_mem _ h)
end Go.Proofs.YtdogilbnbbeljaaGreatDoor
