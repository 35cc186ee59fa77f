/-
  What the reference's loop over a scope's text knows, in plain Lean: the words that lie behind it, each once in their first order; whether one is long; the word under way.
-/
import Derived.Test.YtdogilbnbbeljaaGreatDoorH02
import Derived.Maps.OwnOps
import Derived.Maps.OwnSet
import Derived.Maps.Views
import Derived.StringKeys
import Derived.Test.YtdogilbnbbeljaaGreatDoorH10
namespace Go.Proofs.YtdogilbnbbeljaaGreatDoor

/-- the words met so far, each once, in the order in which they came -/
def addNew (o : List (List UInt8)) (w : List UInt8) : List (List UInt8) := if o.contains w then o else o ++ [w]
def firsts (d : List (List UInt8)) : List (List UInt8) := d.foldl addNew []
theorem firsts_snoc (d : List (List UInt8)) (w : List UInt8) : firsts (d ++ [w]) = addNew (firsts d) w := by simp [firsts]
theorem firsts_spec : ∀ (n : Nat) (d : List (List UInt8)), d.length = n → (firsts d).Nodup ∧ (∀ w, w ∈ firsts d ↔ w ∈ d) ∧ (firsts d).length ≤ d.length
  | 0, d, h => by obtain rfl := List.eq_nil_of_length_eq_zero h; simp [firsts]
  | n + 1, d, h => by
    rcases List.eq_nil_or_concat d with rfl | ⟨r, x, rfl⟩
    · simp at h
    · rw [List.concat_eq_append] at h ⊢
      obtain ⟨h1, h2, h3⟩ := firsts_spec n r (by simpa using h)
      rw [firsts_snoc]
      unfold addNew
      by_cases hx : (firsts r).contains x = true
      · rw [if_pos hx]
        have hm : x ∈ r := (h2 x).1 (by simpa using hx)
        refine ⟨h1, fun w => ?_, by simp; omega⟩
        rw [h2 w, List.mem_append, List.mem_singleton]
        exact ⟨.inl, fun h => h.elim id fun e => e ▸ hm⟩
      · rw [if_neg hx]
        have hm : x ∉ firsts r := by simpa using hx
        refine ⟨?_, fun w => ?_, by simp; omega⟩
        · rw [List.nodup_append]
          refine ⟨h1, by simp, ?_⟩
          intro a ha b hb
          rw [List.mem_singleton] at hb
          subst hb
          rintro rfl
          exact hm ha
        · rw [List.mem_append, List.mem_append, h2 w]
/-- behind k bytes: the done words d (all may be), the word under way c (letters alone) -/
structure Front (s : List UInt8) (k : Nat) (d : List (List UInt8)) (c : List UInt8) : Prop where
  cuts : parts 43 (s.take k) = d ++ [c]
  ok : ∀ w ∈ d, okW w = true
  low : lowB c = true
theorem Front.start (s : List UInt8) : Front s 0 [] [] := ⟨by simp [parts], by simp, rfl⟩
theorem take_snoc' {s : List UInt8} {k : Nat} {x : UInt8} (h : s[k]? = some x) : s.take (k + 1) = s.take k ++ [x] := by
  rw [List.take_add_one, h]; rfl
theorem Front.seam {s : List UInt8} {k : Nat} {d : List (List UInt8)} {c : List UInt8} (h : Front s k d c) (hx : s[k]? = some 43) (hc : c ≠ []) : Front s (k + 1) (d ++ [c]) [] := by
  refine ⟨?_, ?_, rfl⟩
  · rw [take_snoc' hx, parts_seam, h.cuts]
  · intro w hw
    rcases List.mem_append.1 hw with hw | hw
    · exact h.ok w hw
    · rw [List.mem_singleton] at hw
      subst hw
      simp [okW, h.low, hc]
theorem Front.more {s : List UInt8} {k : Nat} {d : List (List UInt8)} {c : List UInt8} {x : UInt8} (h : Front s k d c) (hx : s[k]? = some x) (h1 : 97 ≤ x.toNat) (h2 : x.toNat ≤ 122) : Front s (k + 1) d (c ++ [x]) := by
  have hne : x ≠ 43 := by rintro rfl; simp at h1
  refine ⟨?_, h.ok, ?_⟩
  · rw [take_snoc' hx]
    exact parts_grow hne h.cuts
  · have := h.low
    simp only [lowB, List.all_append, Bool.and_eq_true] at this ⊢
    refine ⟨this, ?_⟩
    simp [h1, h2]
/-- a text whose beginning has a bad word behind a seam, or a byte that is no letter, is of another form -/
theorem bad_app {a b : List UInt8} (h : (parts 43 a).all okW = false) : (parts 43 (a ++ 43 :: b)).all okW = false := by
  rw [parts_app, List.all_append, h]; rfl
theorem Front.empty {s : List UInt8} {k : Nat} {d : List (List UInt8)} (h : Front s k d []) (hk : k = s.length ∨ s[k]? = some 43) : (parts 43 s).all okW = false := by
  have h0 : (parts 43 (s.take k)).all okW = false := by
    rw [h.cuts, List.all_append]
    simp [okW]
  rcases hk with rfl | hk
  · rwa [List.take_length] at h0
  · have hlt := (List.getElem?_eq_some_iff.1 hk).1
    have e : s = s.take k ++ 43 :: s.drop (k + 1) := by
      have hd := List.drop_eq_getElem_cons hlt
      rw [(List.getElem?_eq_some_iff.1 hk).2] at hd
      rw [← hd, List.take_append_drop]
    rw [e]
    exact bad_app h0
theorem parts_has {c x : UInt8} (hx : x ≠ c) : ∀ (l : List UInt8), x ∈ l → ∃ w ∈ parts c l, x ∈ w
  | [], h => by simp at h
  | y :: l, h => by
    by_cases hy : y = c
    · subst hy
      rw [parts_sep]
      rcases List.mem_cons.1 h with rfl | h
      · exact absurd rfl hx
      · obtain ⟨w, hw, hxw⟩ := parts_has hx l h
        exact ⟨w, List.mem_cons_of_mem _ hw, hxw⟩
    · rcases e : parts c l with _ | ⟨v, r⟩
      · exact absurd e (parts_ne c l)
      · rw [parts_cons hy e]
        rcases List.mem_cons.1 h with rfl | h
        · exact ⟨x :: v, by simp, by simp⟩
        · obtain ⟨w, hw, hxw⟩ := parts_has hx l h
          rw [e] at hw
          rcases List.mem_cons.1 hw with rfl | hw
          · exact ⟨y :: w, by simp, by simp [hxw]⟩
          · exact ⟨w, by simp [hw], hxw⟩
theorem bad_byte {s : List UInt8} {k : Nat} {x : UInt8} (hx : s[k]? = some x) (h43 : x ≠ 43) (h : ¬ (97 ≤ x.toNat ∧ x.toNat ≤ 122)) : (parts 43 s).all okW = false := by
  have hm : x ∈ s := List.mem_of_getElem? hx
  obtain ⟨w, hw, hxw⟩ := parts_has h43 s hm
  rw [List.all_eq_false]
  refine ⟨w, hw, ?_⟩
  intro hok
  simp only [okW, lowB, Bool.and_eq_true] at hok
  have := List.all_eq_true.1 hok.2 x hxw
  simp at this
  omega
/-- at the end all words may be -/
theorem Front.done {s : List UInt8} {d : List (List UInt8)} {c : List UInt8} (h : Front s s.length d c) (hc : c ≠ []) : parts 43 s = d ++ [c] ∧ (parts 43 s).all okW = true := by
  have h0 := h.cuts
  rw [List.take_length] at h0
  refine ⟨h0, ?_⟩
  rw [h0, List.all_append]
  simp only [Bool.and_eq_true]
  refine ⟨List.all_eq_true.2 h.ok, ?_⟩
  simp [okW, h.low, hc]
end Go.Proofs.YtdogilbnbbeljaaGreatDoor

/-
  A map that the call itself made, of texts to bools, told by a plain function.
-/
namespace Go.Proofs.YtdogilbnbbeljaaGreatDoor
open Go.RowKit Go.Maps Go.WideMaps

theorem plainElem_bool_inv {H : Type} {P : Program} {e : TypeId} (he : P.underlying e = some .bool) {v : Value} {z : DataW H × List MemPlace} (h : plainElem P e v = some z) : ∃ x : Bool, v = .bool x ∧ z = (.lit (.bool x), []) := by
  unfold plainElem at h
  cases v <;> simp_all
/-- block b is a map of at most n entries, texts (key type K) to bools (element type E), that tells f x at x -/
def MapSB (P : Program) (K E : TypeId) (w : World) (b n : Nat) (f : List UInt8 → Bool) : Prop :=
  ∃ D : DataW Unit, w.ownsMap P K (plainElem P E) b n D ∧ IsMap D ∧ ∀ x : List UInt8, D.atKey (.string x) (.lit (.bool false)) = .lit (.bool (f x))

section
variable {P : Program} {K E T : TypeId} {w w' : World} {b n : Nat} {f : List UInt8 → Bool}
theorem MapSB.made (w : World) : MapSB P K E (w.alloc (.map #[] 0)) w.heap.size 0 (fun _ => false) :=
  ⟨.map [], World.ownsMap_made w P K _, ⟨[], rfl⟩, fun x => by simp [DataW.atKey]⟩
theorem MapSB.kept (h : MapSB P K E w b n f) {row : Option Nat} (hg : w.grownBy w' row) (hne : some b ≠ row) : MapSB P K E w' b n f := by
  obtain ⟨D, h1, h2, h3⟩ := h
  exact ⟨D, h1.kept hg hne, h2, h3⟩
theorem MapSB.below (h : MapSB P K E w b n f) (hb : Below w.heap.size w w') : MapSB P K E w' b n f := h.kept (only_of_below hb none) (by simp)
theorem MapSB.alloc (h : MapSB P K E w b n f) (o : Obj) : MapSB P K E (w.alloc o) b n f := h.kept (World.grownBy_alloc w o none) (by simp)
theorem MapSB.drewN (h : MapSB P K E w b n f) (m : Nat) : MapSB P K E (w.drewN m) b n f := h
theorem MapSB.lt (h : MapSB P K E w b n f) : b < w.heap.size := by
  obtain ⟨D, h1, _⟩ := h
  exact h1.lt
theorem MapSB.mono (h : MapSB P K E w b n f) {m : Nat} (hm : n ≤ m) : MapSB P K E w b m f := by
  obtain ⟨D, h1, h2, h3⟩ := h
  exact ⟨D, h1.mono hm, h2, h3⟩
theorem MapSB.look (h : MapSB P K E w b n f) (ht : P.underlying T = some (.map K E)) (hk : P.underlying K = some .string) (he : P.underlying E = some .bool)
    (hz : (zeroValue E).run P w = .ok (.bool false) w) (x : List UInt8) (hx : x.length ≤ maxLen) :
    (Instr.lookup T (.map (some b)) (.string (txt x)) false).run P w = .ok (.bool (f x)) w := by
  obtain ⟨D, h1, h2, h3⟩ := h
  have hkey : keyOf P K (.string (txt x)) = some (.string x) := by
    rw [keyOf_string_mk hk (by rw [txt_size]; exact hx), data_txt]
  obtain ⟨v, ps, hrun, hv⟩ := h1.lookup (string_keyed hk) ht hz (plainElem_bool he false) hkey
  obtain ⟨y, rfl, hy⟩ := plainElem_bool_inv he hv
  simp only [Prod.mk.injEq] at hy
  have h4 := h3 x
  rw [hy.1] at h4
  have h6 : y = f x := by injection h4 with h4; injection h4
  rw [hrun, h6]
theorem MapSB.put (h : MapSB P K E w b n f) (ht : P.underlying T = some (.map K E)) (hk : P.underlying K = some .string) (he : P.underlying E = some .bool)
    (hn : n < maxLen) (x : List UInt8) (hx : x.length ≤ maxLen) (v : Bool) :
    ∃ w', (Instr.mapUpdate T (.map (some b)) (.string (txt x)) (.bool v)).run P w = .ok () w' ∧ MapSB P K E w' b (n + 1) (fun y => if y = x then v else f y) ∧ w.grownBy w' (some b) := by
  obtain ⟨D, h1, h2, h3⟩ := h
  have hkey : keyOf P K (.string (txt x)) = some (.string x) := by
    rw [keyOf_string_mk hk (by rw [txt_size]; exact hx), data_txt]
  obtain ⟨w', hrun, r1, r2⟩ := h1.update (string_keyed hk) ht hn hkey (plainElem_bool he v)
  refine ⟨w', hrun, ⟨_, r1, ?_, ?_⟩, r2⟩
  · obtain ⟨l, rfl⟩ := h2
    exact ⟨_, rfl⟩
  · intro y
    dsimp only
    by_cases e : y = x
    · subst e
      rw [if_pos rfl, atKey_put_same h2 (by simp [WideAt.IsKeyLit])]
    · rw [if_neg e, atKey_put_other (by simpa using e)]
      exact h3 y
end
end Go.Proofs.YtdogilbnbbeljaaGreatDoor

/-
  slices.Sort (and sort.Strings) of a row of texts, by the shelf's contracts.
-/
namespace Go.Proofs.YtdogilbnbbeljaaGreatDoor
open Go.RowKit Go.Sort

theorem sort_row {B : Nat} {v : Value} {L : List (List UInt8)} {w W : World} (h : Row w B v L) (hB : Below B W w) (hs : B ≤ w.heap.size) (hL : L.length ≤ 1000000) :
    Calls Tryz.prog 147 #[v] w fun e w' => e = .returned (.tuple #[]) ∧ Row w' B v (L.mergeSort leW) ∧ Below B W w' := by
  obtain ⟨g, cap, rfl, hg, hlt, hn, hm, hH⟩ := h.parts
  refine (Tryz.slices_Sort_string g 0 cap L w hH hlt (by omega)).mono ?_
  rintro e w' ⟨rfl, n, os, rfl⟩
  refine ⟨rfl, h.sorted (List.length_mergeSort L), ?_⟩
  exact hB.grown (grownBy_sorted _) hs (fun j hj => by cases hj; exact hg)

theorem strings_row {B : Nat} {v : Value} {L : List (List UInt8)} {w W : World} (h : Row w B v L) (hB : Below B W w) (hs : B ≤ w.heap.size) (hL : L.length ≤ 1000000) :
    Calls Tryz.prog 117 #[v] w fun e w' => e = .returned (.tuple #[]) ∧ Row w' B v (L.mergeSort leW) ∧ Below B W w' := by
  obtain ⟨g, cap, rfl, hg, hlt, hn, hm, hH⟩ := h.parts
  refine (Tryz.sort_Strings g 0 cap L w hH hlt (by omega)).mono ?_
  rintro e w' ⟨rfl, n, os, rfl⟩
  refine ⟨rfl, h.sorted (List.length_mergeSort L), ?_⟩
  exact hB.grown (grownBy_sorted _) hs (fun j hj => by cases hj; exact hg)
end Go.Proofs.YtdogilbnbbeljaaGreatDoor

/-
  A scope's number and words, by what holds of its parts; a slice of texts, or nil.
-/
namespace Go.Proofs.YtdogilbnbbeljaaGreatDoor
open Go.RowKit Go.Sort

def longB (l : List UInt8) : Bool := decide (8 < l.length)
def RowOrNil (w : World) (B : Nat) (v : Value) (L : List (List UInt8)) : Prop := (v = .slice none 0 0 ∧ L = []) ∨ Row w B v L
theorem scopeN_form {s : List UInt8} (h0 : s ≠ []) (h : (parts 43 s).all okW = false) : scopeN s = 3 := by
  unfold scopeN; rw [if_neg h0, h]; rfl
theorem scopeN_limit {s : List UInt8} (h0 : s ≠ []) (h : (parts 43 s).all okW = true) (h2 : 5 < (uniq (parts 43 s)).length ∨ (uniq (parts 43 s)).any longB = true) : scopeN s = 4 := by
  unfold scopeN; rw [if_neg h0, if_pos h, if_neg]
  rintro ⟨h3, h4⟩
  rcases h2 with h2 | h2
  · omega
  · obtain ⟨x, hx, hl⟩ := List.any_eq_true.1 h2
    have := List.all_eq_true.1 h4 x hx
    simp [longB] at hl this
    omega
theorem scopeN_fine {s : List UInt8} (h0 : s ≠ []) (h : (parts 43 s).all okW = true) (h2 : ¬ 5 < (uniq (parts 43 s)).length) (h3 : (uniq (parts 43 s)).any longB = false) : scopeN s = 0 ∧ scopeL s = uniq (parts 43 s) := by
  have h1 : scopeN s = 0 := by
    unfold scopeN; rw [if_neg h0, if_pos h, if_pos]
    refine ⟨by omega, ?_⟩
    rw [List.all_eq_true]
    intro x hx
    have := List.any_eq_false.1 h3 x hx
    simp [longB] at this
    simpa using this
  exact ⟨h1, by unfold scopeL; rw [if_neg h0, if_pos h1]⟩
theorem scopeL_bad {s : List UInt8} (h : scopeN s ≠ 0) : scopeL s = [] := by
  unfold scopeL
  split
  · rfl
  · first | rfl | rw [if_neg h]
end Go.Proofs.YtdogilbnbbeljaaGreatDoor
