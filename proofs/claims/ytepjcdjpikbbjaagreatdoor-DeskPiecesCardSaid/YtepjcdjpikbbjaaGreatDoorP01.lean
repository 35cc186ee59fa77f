/-
  What the last step of every statement wants: the row's post behind a call that left old memory as it was; a slice of structs opened. (After the guide's pages on small lemmas and structs.)
-/
import Derived.Test.YtepjcdjpikbbjaaGreatDoorRows
import Derived.WalkKit
import Derived.ProofKit
import Derived.OpenShut
import Derived.Deep.DeepHandedRow
import Derived.Deep.Slices
import Derived.Deep.Fields
import Derived.ChangeSame
import Derived.Lib.LaidTab
import Derived.Lib.SmallJoins
import Derived.LaidLaws
import Derived.LaidHandle
import Derived.SizedLaws
import Derived.Test.YtepjcdjpikbbjaaGreatDoorCards
import Derived.Test.YtepjcdjpikbbjaaGreatDoorTie
import Derived.RangeFuncOwn
import Derived.RangeFuncLeaves
import Derived.Lib.SplitLaws
import Derived.Lib.Join
import Derived.Test.YtepjcdjpikbbjaaGreatDoorProg
import Derived.WalkSpells
import Derived.WalkLawsBesides
import Derived.Lib.Hide
import Derived.Laws.Rows
import Derived.Deep.Draws
import Derived.Sort.OwnSorted
import Derived.Lib.OwnBridge
import Derived.Laws.OwnMore
import Derived.LoopTactic
import Derived.Deep.LoopGhost
import Derived.Deep.QuietTactic
import Derived.BigQuiet
namespace Go.Proofs.YtepjcdjpikbbjaaGreatDoor
open Go.ChangeShapes Go.WideShapes Go.ChangeAt Go.RowKit Go.Deep

theorem own_knob : ownKnob Tryz.prog.godebug = none := by kernel_rfl
theorem laid_out : laidOutB Tryz.prog = true := by kernel_rfl

section
variable {H : Type} {enc : TypeId × Value → H} {P : Program}
theorem post_of_below {f : Func} {s : ChangeSpec} {apart fresh handsOn again : Bool} {W W' : World} {args : Array Value} {v : Value} {ds gs : List (DataW H)} {before pa pv : List MemPlace}
    (hW : DataW.Whole enc P f.params.toList s.vars apart W args.toList ds gs before)
    (hres : ∀ (b : Nat) (sp : Nat → Bool) (hd : Bool), DataW.TrodAll enc P W' b sp hd f.resultTypes.toList (v.resultList f.resultTypes.size) (s.fn H (ds ++ gs)).results [])
    (hargs : ∀ sp : Nat → Bool, (∀ p ∈ before, sp p.block = true) → DataW.TrodAll enc P W' 0 sp true f.params.toList args.toList (s.fn H (ds ++ gs)).args pa)
    (hvars : ∀ sp : Nat → Bool, (∀ p ∈ before, sp p.block = true) → DataW.TrodVars enc P W' sp s.vars (s.fn H (ds ++ gs)).vars pv)
    (hps : before = pa ++ pv) (hb : Below W.heap.size W W')
    (hok : ∀ (j : Nat) (t : TypeId) (r : Value), f.resultTypes[j]? = some t → (v.resultList f.resultTypes.size)[j]? = some r → Value.okWide P W' .any 0 t r) :
    s.post enc P f apart fresh handsOn again W args v W' := by
  have hlt : ∀ p ∈ before, p.block < W.heap.size := fun p hp => hW.lt p hp
  have hold : ∀ p ∈ before, (fun b => decide (b < W.heap.size)) p.block = true := fun p hp => by simpa using hlt p hp
  refine ⟨ds, gs, before, [], pa, pv, hW, hres _ _ _, hargs _ hold, hvars _ hold, World.keptBut_mono (fun p hp => ⟨hp, ?_⟩) (hb.frame (· ∈ before)), fun _ => ?_⟩
  · rw [hps, List.mem_append] at hp
    exact Or.inr hp
  · obtain ⟨_, _, _, _, _, hz, hn⟩ := hW
    refine ⟨hok, _, _, ([] ++ pa) ++ pv, ⟨[] ++ pa, pv, trodAll_append (hargs _ (fun _ _ => rfl)) (hres _ _ _), hvars _ (fun _ _ => rfl), rfl, ?_, ?_⟩, ?_⟩
    · intro b off hp
      have hin : MemPlace.cell b off ∈ before := by rw [hps]; simpa using hp
      rw [hb.frozen (hlt _ hin)]
      exact hz b off hin
    · intro ha
      have := hn ha
      rw [hps] at this
      simpa using this
    · intro p hp _
      rw [hps]
      simpa using hp
end

section
variable {H : Type} {enc : TypeId × Value → H} {P : Program} {w : World} {base : Nat} {spare : Nat → Bool} {held : Bool}
end

/-- a text that came in: its reach -/
theorem string_reach {H : Type} {enc : TypeId × Value → H} {P : Program} {W : World} {base : Nat} {sp : Nat → Bool} {held : Bool} {t : TypeId} {s : ByteArray} {d : DataW H} {p : List MemPlace} {ts : List TypeId} {ds : List (DataW H)} {j : Nat}
    (ht : P.underlying t = some .string) (h : DataW.Trod enc P W base sp held t (.string s) d p) (hwt : (DataW.weightsEach P ts ds).all (· ≤ reachBytes) = true) (hts : ts[j]? = some t) (hds : ds[j]? = some d) : s.size ≤ 140737488351232 ∧ d = .lit (.string s.data.toList) := by
  obtain ⟨fuel, hf⟩ := h
  obtain ⟨s', e, e2, _⟩ := DataW.trod_string ht hf
  simp only [Value.cells, List.cons.injEq, Value.string.injEq, and_true] at e
  subst e
  simp only [Prod.mk.injEq] at e2
  have e3 := e2.1
  subst e3
  have := sized_string hwt hts hds
  refine ⟨?_, rfl⟩
  have hz : s.data.toList.length = s.size := by cases s; simp [ByteArray.size]
  rw [hz] at this
  exact this
end Go.Proofs.YtepjcdjpikbbjaaGreatDoor

/-
  What the last step of every statement that is a card wants.
-/

/-
  A range over a function whose iterator keeps state of its own in cells: the statement's law, where the iterator's contract is told for the caller's own invariant.
-/
namespace Go.Proofs.YtepjcdjpikbbjaaGreatDoor
open Go.RowKit

/-- THE ITERATOR's CONTRACT: T: what it turns between two rounds; K: what a round keeps for it; xs: what it gives. -/
def SeqTold {α : Type} (F : Fence) (n : Nat) (P : Program) (g : Nat) (lb : Array Value) (enc : α → Value) (xs : List α) (T K : World → World → Prop) (w : World) : Prop :=
  ∀ (l : Nat) (J : List α → World → Prop) (W : World), Below w.heap.size w W → (∀ pre A B, J pre A → T A B → J pre B) →
    (∀ pre x A, J pre A → pre ++ [x] <+: xs → YieldAt F (n - 1) P l #[enc x] A fun e A' => e = .returned (.bool true) ∧ J (pre ++ [x]) A' ∧ K A A') →
    J [] W →
    CallsIn F n P g (#[.func (.yield l) #[] #[]] ++ lb) W fun e W' => (∃ v, e = .returned v) ∧ J xs W'
/-- how a round's body is left -/
def toldPost {α : Type} (K : World → World → Prop) (I : List α → World → Prop) (xs : List α) (W : World) : Exit → Act → World → Prop
  | .normal, _, W' => KeepsOthers W W' ∧ K W W' ∧ I xs W'
  | _, _, _ => False
/-- what lies in no cells is turned -/
def Odd {α : Type} (n : Nat) (I : List α → World → Prop) : Prop := ∀ xs W W' l, I xs W → W.grownBy W' (some l) → n ≤ l → (∃ o : Obj, W.heap[l]? = some o ∧ o.isCells = false) → I xs W'

set_option maxHeartbeats 1000000 in
theorem wpIn_rangeFunc_told {F : Fence} {n : Nat} {P : Program} {α : Type} {g : Operand} {ps : Array Tmp} {assign body : Code} {Q : Exit → Act → World → Prop} {a : Act} {w : World}
    (hro : F.round = none) (h1 : 1 ≤ n) {gf : Nat} {lb : Array Value} (hg : a.eval g = .func (.func gf) #[] lb) (hFg : F.fn gf) (eg : ∀ args w, (callFunc gf args).run P w = .ok (.enter gf args) w)
    {enc : α → Value} {xs : List α} {T K : World → World → Prop} (hseq : SeqTold F (n - 1) P gf lb enc xs T K w) (hps : ps.size = 1)
    (hT : ∀ A B, T A B → KeepsOthers A B) (hK : ∀ A B C, K A B → K B C → K A C) (hKo : ∀ (W : World) (l : Nat) (o o' : Obj), W.heap[l]? = some o → o.isCells = false → K W (W.putObj l o'))
    (I : List α → World → Prop) (hI : Odd w.heap.size I) (hIT : ∀ pre A B, I pre A → T A B → I pre B) (h0 : ∀ W, W.heap.size = w.heap.size + 2 → w.grownBy W none → I [] W) (a₁ : α → Act)
    (hassign : ∀ (l : Nat) (x : α) (W : World) (K : Act → World → Prop), K (a₁ x) W →
      assign.wpIn (F.inRound l) (n - 1 - 1) P (Exit.then K (fun _ _ _ => False)) { tmps := (ps.zip #[enc x]).foldl (fun t (p, v) => t.setIfInBounds p v) a.tmps, defers := [] } W)
    (hbody : ∀ (l : Nat) (pre : List α) (x : α) (W : World), I pre W → pre ++ [x] <+: xs → body.wpIn (F.inRound l) (n - 1 - 1) P (toldPost K I (pre ++ [x]) W) (a₁ x) W)
    (hdone : ∀ (D : Nat) (W : World), w.heap.size ≤ D → I xs W → W.heap[D]? = some (.deferred (some [])) → Q .normal { a with defers := { target := .collected D, args := #[] } :: a.defers } W) :
    (Code.rangeFunc g ps assign body).wpIn F n P Q a w := by
  refine wpIn_rangeFunc ?_
  intro fn hfn
  rw [hro]
  obtain ⟨rec, hrec⟩ : ∃ rec : LoopState → Option Code → Loop, rec = fun st pe => { state := st, pending := pe, fn, tmps := a.tmps, params := ps, assign, body, defers := w.heap.size } := ⟨_, rfl⟩
  obtain ⟨W1, hW1⟩ : ∃ W1, (w.alloc (.deferred (some []))).alloc (.loop (rec .ready none)) = W1 := ⟨_, rfl⟩
  have hL1 : W1.heap[w.heap.size + 1]? = some (.loop (rec .ready none)) := by
    rw [← hW1]; have := World.alloc_heap_new (w.alloc (.deferred (some []))) (.loop (rec .ready none)); rwa [World.size_alloc] at this
  have hK1 : W1.heap[w.heap.size]? = some (.deferred (some [])) := by
    rw [← hW1]; exact (Below.heap_alloc _ _ _ (by simp)).trans (World.alloc_heap_new w _)
  have hsz : W1.heap.size = w.heap.size + 2 := by rw [← hW1]; simp [World.size_alloc]
  have hb1 : Below w.heap.size w W1 := by
    rw [← hW1]; exact ((Below.refl _ w).alloc (Nat.le_refl _) _).alloc (by simp) _
  have hgr : w.grownBy W1 none := ⟨hb1.os, hb1.tape, hb1.output, hb1.size, fun k hk _ => hb1.block k hk⟩
  have hI1 : I [] W1 := h0 W1 hsz hgr
  refine ⟨w.heap.size + 1, [{ target := .collected w.heap.size, args := #[] }], W1, { target := .fn (.func gf) lb, args := #[.func (.yield (w.heap.size + 1)) #[] #[]] }, W1, gf,
    #[.func (.yield (w.heap.size + 1)) #[] #[]] ++ lb, W1, ?_, ?_, ?_, ?_, fun _ => h1, ?_⟩
  · rw [← hW1, hrec]; exact run_enterLoop_outer _ _ _ _ _
  · simp only [resolve, hg]
    simp [go_sem]
  · intro f' hf'; simp [Target.leads] at hf'; subst hf'; exact hFg
  · simp [invoke, go_sem, eg]
  · refine (hseq (w.heap.size + 1)
      (fun pre W => I pre W ∧ W.heap[w.heap.size + 1]? = some (.loop (rec .ready none)) ∧ W.heap[w.heap.size]? = some (.deferred (some [])))
      W1 hb1
      (fun s A B hs ht => ⟨hIT s A B hs.1 ht, (hT A B ht).same _ _ hs.2.1 rfl, (hT A B ht).same _ _ hs.2.2 rfl⟩)
      ?_ ⟨hI1, hL1, hK1⟩).mono ?_
    · rintro pre x W ⟨hi, hl, hk⟩ hlen
      have hlt : w.heap.size + 1 < W.heap.size := (Array.getElem?_eq_some_iff.1 hl).1
      have hy := run_yield (P := P) (args := #[enc x]) hl (by rw [hrec]; simp [hps])
      rw [hrec] at hy
      refine ⟨fn, _, assign, body, hy, roundIn_of_wpIn hfn (hassign _ x W _ ⟨_, run_beginRound hl (by rw [hrec]), ?_⟩)⟩
      have hl2 : (W.putObj (w.heap.size + 1) (.loop { rec .ready none with state := .busy })).heap[w.heap.size + 1]? = some (.loop { rec .ready none with state := .busy }) := World.putObj_heap_same hlt
      have hk2 : (W.putObj (w.heap.size + 1) (.loop { rec .ready none with state := .busy })).heap[w.heap.size]? = some (.deferred (some [])) := (World.putObj_heap_other (by omega)).trans hk
      have hw2 := hKo W _ _ (.loop { rec .ready none with state := .busy }) hl rfl
      refine wpIn_mono (hbody _ pre x _ (hI _ _ _ _ hi (grownBy_putObj' _ _ _) (by omega) ⟨_, hl, rfl⟩) hlen) ?_
      rintro e a3 W3 hp
      cases e with
      | normal =>
        obtain ⟨hk3, hkk, hi3⟩ := hp
        have hl3 := hk3.same _ _ hl2 rfl
        have hr := run_endRound (P := P) none hl3
        refine ⟨_, _, hr, rfl, ⟨hI _ _ _ _ hi3 (grownBy_putObj' _ _ _) (by omega) ⟨_, hl3, rfl⟩, ?_, ?_⟩, ?_⟩
        · rw [World.putObj_heap_same (Array.getElem?_eq_some_iff.1 hl3).1, hrec]; rfl
        · exact (World.putObj_heap_other (by omega)).trans (hk3.same _ _ hk2 rfl)
        · exact hK _ _ _ (hK _ _ _ hw2 hkk) (hKo _ _ _ _ hl3 rfl)
      | ret => exact hp.elim
      | exit id => exact hp.elim
      | goto t => exact hp.elim
      | panic ch => exact hp.elim
      | outgrown => exact hp.elim
    · rintro e W2 ⟨⟨v, rfl⟩, hi, hl, hk⟩
      refine ⟨none, _, by have := run_endLoop (P := P) hl (by rw [hrec]; simp); rw [hrec] at this; exact this, hdone _ _ (Nat.le_refl _) (hI _ _ _ _ hi (grownBy_putObj' _ _ _) (by omega) ⟨_, hl, rfl⟩) ?_⟩
      exact (World.putObj_heap_other (by omega)).trans hk
end Go.Proofs.YtepjcdjpikbbjaaGreatDoor

/-
  A text parted at a byte, in plain Lean: what strings.Split gives; joined again it is the text; the parts of two texts with that byte between.
-/
namespace Go.Proofs.YtepjcdjpikbbjaaGreatDoor

/-- the words of a text, parted at c -/
def parts (c : UInt8) : List UInt8 → List (List UInt8)
  | [] => [[]]
  | x :: l => if x = c then [] :: parts c l else
    match parts c l with
    | [] => [[x]]
    | w :: r => (x :: w) :: r

theorem parts_ne (c : UInt8) (l : List UInt8) : parts c l ≠ [] := by
  cases l with
  | nil => simp [parts]
  | cons x l =>
    unfold parts
    split
    · simp
    · split <;> simp
theorem parts_pos (c : UInt8) (l : List UInt8) : 0 < (parts c l).length := by
  have := parts_ne c l
  rcases h : parts c l with _ | ⟨a, r⟩
  · exact absurd h this
  · simp
theorem parts_sep (c : UInt8) (l : List UInt8) : parts c (c :: l) = [] :: parts c l := by simp [parts]
theorem parts_cons {c x : UInt8} (h : x ≠ c) {l w : List UInt8} {r : List (List UInt8)} (e : parts c l = w :: r) : parts c (x :: l) = (x :: w) :: r := by
  rw [parts, if_neg h, e]
theorem parts_none {c : UInt8} : ∀ {l : List UInt8}, c ∉ l → parts c l = [l]
  | [], _ => rfl
  | x :: l, h => by
    simp only [List.mem_cons, not_or] at h
    rw [parts_cons (Ne.symm h.1) (parts_none h.2)]
theorem parts_app {c : UInt8} : ∀ (a : List UInt8) (b : List UInt8), parts c (a ++ c :: b) = parts c a ++ parts c b
  | [], b => by simp [parts]
  | x :: a, b => by
    by_cases h : x = c
    · subst h
      rw [List.cons_append, parts_sep, parts_sep, parts_app a b, List.cons_append]
    · rcases e : parts c a with _ | ⟨w, r⟩
      · exact absurd e (parts_ne c a)
      · rw [parts_cons h e, List.cons_append, parts_cons h (by rw [parts_app a b, e, List.cons_append]), List.cons_append]
theorem parts_head {c : UInt8} {a : List UInt8} (h : c ∉ a) (b : List UInt8) : parts c (a ++ c :: b) = a :: parts c b := by
  rw [parts_app, parts_none h]; rfl
/-- no part has the byte -/
theorem parts_free (c : UInt8) : ∀ (l : List UInt8), ∀ w ∈ parts c l, c ∉ w
  | [], w, h => by simp [parts] at h; simp [h]
  | x :: l, w, h => by
    by_cases hx : x = c
    · subst hx
      rw [parts_sep] at h
      rcases List.mem_cons.1 h with rfl | h
      · simp
      · exact parts_free x l w h
    · rcases e : parts c l with _ | ⟨v, r⟩
      · exact absurd e (parts_ne c l)
      · rw [parts_cons hx e] at h
        rcases List.mem_cons.1 h with rfl | h
        · have := parts_free c l v (by rw [e]; exact List.mem_cons_self)
          simp [this, Ne.symm hx]
        · exact parts_free c l w (by rw [e]; exact List.mem_cons_of_mem _ h)

/-- words with one byte between -/
def glue (c : UInt8) : List (List UInt8) → List UInt8
  | [] => []
  | [w] => w
  | w :: v :: r => w ++ c :: glue c (v :: r)

theorem glue_cons (c : UInt8) (w : List UInt8) {r : List (List UInt8)} (h : r ≠ []) : glue c (w :: r) = w ++ c :: glue c r := by
  cases r with
  | nil => exact absurd rfl h
  | cons v r => rfl
theorem glue_join (c : UInt8) : ∀ ws : List (List UInt8), Lib.join ws [c] = glue c ws
  | [] => rfl
  | [w] => Lib.join_one w [c]
  | w :: v :: r => by
    have h := glue_join c (v :: r)
    rw [Lib.join_cons] at h
    rw [Lib.join_cons, glue, ← h]
    simp [Lib.joinTail]
theorem glue_parts (c : UInt8) : ∀ l : List UInt8, glue c (parts c l) = l
  | [] => rfl
  | x :: l => by
    have ih := glue_parts c l
    by_cases hx : x = c
    · subst hx
      rw [parts_sep, glue_cons x [] (parts_ne x l), ih]; rfl
    · rcases e : parts c l with _ | ⟨v, r⟩
      · exact absurd e (parts_ne c l)
      · rw [parts_cons hx e]
        rw [e] at ih
        cases r with
        | nil => simp only [glue] at ih ⊢; rw [ih]
        | cons u r => rw [glue_cons _ _ (by simp)] at ih ⊢; rw [← ih]; rfl
theorem parts_glue (c : UInt8) : ∀ ws : List (List UInt8), ws ≠ [] → (∀ w ∈ ws, c ∉ w) → parts c (glue c ws) = ws
  | [], h, _ => absurd rfl h
  | [w], _, h => parts_none (h w (by simp))
  | w :: v :: r, _, h => by
    rw [glue, parts_head (h w (by simp)), parts_glue c (v :: r) (by simp) (fun x hx => h x (List.mem_cons_of_mem _ hx))]
theorem glue_app (c : UInt8) : ∀ (a b : List (List UInt8)), a ≠ [] → b ≠ [] → glue c (a ++ b) = glue c a ++ c :: glue c b
  | [], _, h, _ => absurd rfl h
  | [w], b, _, hb => by rw [List.singleton_append, glue_cons c w hb]; rfl
  | w :: v :: r, b, _, hb => by
    rw [List.cons_append, glue_cons c w (by simp), glue_app c (v :: r) b (by simp) hb, glue_cons c w (by simp)]
    simp

/-- a byte that is no seam behind a text: the last part grows -/
theorem parts_grow {c x : UInt8} (h : x ≠ c) {a : List UInt8} {d : List (List UInt8)} {w : List UInt8} (e : parts c a = d ++ [w]) : parts c (a ++ [x]) = d ++ [w ++ [x]] := by
  have hfree := parts_free c a
  have ha : a = glue c (d ++ [w]) := by rw [← e, glue_parts]
  have e2 : a ++ [x] = glue c (d ++ [w ++ [x]]) := by
    by_cases hd : d = []
    · subst hd; rw [ha]; rfl
    · rw [ha, glue_app c d _ hd (by simp), glue_app c d _ hd (by simp)]
      simp [glue]
  rw [e2, parts_glue c _ (by simp)]
  intro v hv
  rcases List.mem_append.1 hv with hv | hv
  · exact hfree v (by rw [e]; exact List.mem_append.2 (.inl hv))
  · rw [List.mem_singleton] at hv
    subst hv
    have := hfree w (by rw [e]; simp)
    simp [this, Ne.symm h]
theorem parts_seam {c : UInt8} {a : List UInt8} : parts c (a ++ [c]) = parts c a ++ [[]] := by
  have := parts_app (c := c) a []
  simpa [parts] using this

theorem first_of {c : UInt8} : ∀ {l : List UInt8}, c ∈ l → ∃ a b, l = a ++ c :: b ∧ c ∉ a
  | [], h => by simp at h
  | x :: l, h => by
    by_cases hx : x = c
    · exact ⟨[], l, by simp [hx], by simp⟩
    · have hc' : c ∈ l := by simpa [Ne.symm hx] using h
      obtain ⟨a, b, rfl, ha⟩ := first_of hc'
      exact ⟨x :: a, b, rfl, by simp [ha, Ne.symm hx]⟩
/-- what strings.Split gives -/
theorem splitK_parts (c : UInt8) : ∀ (n : Nat) (l : List UInt8), l.length ≤ n → Lib.splitK [c] 0 (Lib.count l [c]) l = parts c l
  | 0, l, h => by
    obtain rfl : l = [] := List.eq_nil_of_length_eq_zero (by omega)
    rfl
  | n + 1, l, h => by
    by_cases hc : c ∈ l
    · obtain ⟨a, b, rfl, ha⟩ := first_of hc
      have hi : ∀ a : List UInt8, c ∉ a → Lib.index (a ++ c :: b) [c] = (a.length : Int) := by
        intro a ha
        induction a with
        | nil => simp [Lib.index, List.isPrefixOf]
        | cons x a ih =>
          simp only [List.mem_cons, not_or] at ha
          have hp : ([c] : List UInt8).isPrefixOf (x :: (a ++ c :: b)) = false := by simp [List.isPrefixOf, ha.1]
          rw [List.cons_append, Lib.index, hp, ih ha.2]
          simp
      have hi' := hi a ha
      rw [Lib.count_hit (by simp) hi']
      have e1 : (a ++ c :: b).drop (a.length + [c].length) = b := by
        rw [← List.drop_drop, List.drop_left]; rfl
      have e0 : ∀ k, Lib.splitK [c] 0 (k + 1) (a ++ c :: b) = a :: Lib.splitK [c] 0 k b := by
        intro k
        rw [Lib.splitK, hi', if_neg (by simp)]
        have : (a.length : Int).toNat = a.length := by omega
        rw [this, e1]
        simp
      rw [e1, Nat.add_comm 1, e0, parts_head ha, splitK_parts c n b (by simp at h; omega)]
    · have hz : Lib.count l [c] = 0 := by rw [Lib.count_one]; exact List.count_eq_zero.2 hc
      rw [hz, parts_none hc]
      rfl
theorem splitB_parts (c : UInt8) (s : ByteArray) : (Lib.splitB ⟨#[c]⟩ 0 (Lib.countB s ⟨#[c]⟩) s).map (·.data.toList) = parts c s.data.toList := by
  rw [Lib.splitB_data]
  exact splitK_parts c _ _ (Nat.le_refl _)
theorem countB_parts (c : UInt8) (s : ByteArray) : Lib.countB s ⟨#[c]⟩ + 1 = (parts c s.data.toList).length := by
  rw [← splitB_parts, List.length_map, Lib.splitB_all ⟨#[c]⟩ (Nat.le_refl _) 0 _ s rfl]
end Go.Proofs.YtepjcdjpikbbjaaGreatDoor

/-
  Words of memory: a block known whole; what is kept of a world. (After the guide's page on words.)
-/
namespace Go.Proofs.YtepjcdjpikbbjaaGreatDoor
open Go.RowKit

def Blk (w : World) (g : Nat) (t : TypeId) (cs : Array Value) : Prop := w.heap[g]? = some (.cells cs t (0, 0))

section
variable {w w' : World} {g : Nat} {t : TypeId} {cs : Array Value}
theorem Blk.lt (h : Blk w g t cs) : g < w.heap.size := by
  rcases Nat.lt_or_ge g w.heap.size with hlt | hge
  · exact hlt
  · unfold Blk at h; rw [Array.getElem?_eq_none hge] at h; cases h
theorem Blk.cell (h : Blk w g t cs) (i : Nat) : w.cell? ⟨g, i, none⟩ = cs[i]? := cell_of_row w g i cs t (0, 0) h
theorem Blk.frozen (h : Blk w g t cs) (i : Nat) : w.frozen? ⟨g, i, none⟩ = false := by
  unfold Blk at h
  simp [World.frozen?, h]
theorem Blk.new (w : World) (t : TypeId) (cs : Array Value) : Blk (w.alloc (.cells cs t)) w.heap.size t cs := heap_alloc_new w _
theorem Blk.drew (h : Blk w g t cs) : Blk w.drew g t cs := h
theorem Blk.drewN (h : Blk w g t cs) (n : Nat) : Blk (w.drewN n) g t cs := h
theorem Blk.alloc (h : Blk w g t cs) (o : Obj) : Blk (w.alloc o) g t cs := (Below.heap_alloc w o g h.lt).trans h
theorem Blk.set_ (h : Blk w g t cs) (i : Nat) (u : Value) : Blk (w.setCell ⟨g, i, none⟩ u) g t (cs.setIfInBounds i u) := by
  unfold Blk at h ⊢
  simp [World.setCell, Array.getElem?_modify, h]
theorem Blk.far (h : Blk w g t cs) {p : Addr} (hp : g ≠ p.block) (u : Value) : Blk (w.setCell p u) g t cs := (Below.heap_setCell w p u g hp).trans h
theorem Blk.below {B : Nat} (h : Blk w g t cs) (hb : Below B w w') (hg : g < B) : Blk w' g t cs := (hb.block g hg).trans h
theorem Blk.below' (h : Blk w g t cs) (hb : Below w.heap.size w w') : Blk w' g t cs := (hb.block g h.lt).trans h
theorem Blk.grown {row : Option Nat} (h : Blk w g t cs) (hb : w.grownBy w' row) (hg : some g ≠ row) : Blk w' g t cs := (hb.block g h.lt hg).trans h
theorem Blk.ne_ {g' : Nat} {t' : TypeId} {cs' : Array Value} (h : Blk w g t cs) (h' : Blk w g' t' cs') (hne : t ≠ t') : g ≠ g' := by
  rintro rfl
  unfold Blk at h h'
  rw [h] at h'
  injection h' with h'
  injection h' with _ ht
  exact hne ht
end

theorem below_drewN {B : Nat} {a w : World} (h : Below B a w) (n : Nat) : Below B a (w.drewN n) := ⟨h.os, h.tape, h.output, h.size, h.block⟩
theorem only_drew {a w : World} {row : Option Nat} (h : a.grownBy w row) : a.grownBy w.drew row := ⟨h.os, h.tape, h.output, h.size, h.block⟩
theorem only_setCell {a w : World} {g : Nat} (h : a.grownBy w (some g)) {p : Addr} (hp : p.block = g ∨ a.heap.size ≤ p.block) (u : Value) : a.grownBy (w.setCell p u) (some g) :=
  ⟨h.os, h.tape, h.output, by simpa [World.setCell] using h.size, fun i hi hne => (Below.heap_setCell w p u i (by
    rintro rfl
    rcases hp with hp | hp
    · exact hne (by rw [hp])
    · omega)).trans (h.block i hi hne)⟩
theorem only_of_below {a w : World} (h : Below a.heap.size a w) (row : Option Nat) : a.grownBy w row := ⟨h.os, h.tape, h.output, h.size, fun i hi _ => h.block i hi⟩
theorem only_refl (a : World) (row : Option Nat) : a.grownBy a row := World.grownBy.refl a row
theorem only_trans {a b c : World} {g : Nat} (h : a.grownBy b (some g)) (k : b.grownBy c (some g)) : a.grownBy c (some g) :=
  ⟨k.os.trans h.os, k.tape.trans h.tape, k.output.trans h.output, Nat.le_trans h.size k.size, fun i hi hn => (k.block i (Nat.lt_of_lt_of_le hi h.size) hn).trans (h.block i hi hn)⟩
theorem only_below {a b c : World} {g : Nat} (h : a.grownBy b (some g)) (k : Below b.heap.size b c) : a.grownBy c (some g) := only_trans h (only_of_below k _)
/-- only a block of the call's own has turned -/
theorem below_of_only {a b c : World} {B g : Nat} (h : Below B a b) (k : b.grownBy c (some g)) (hB : B ≤ g) (hs : B ≤ b.heap.size) : Below B a c :=
  h.grown k hs fun i e => by injection e with e; omega
theorem below_2 {W a b : World} (h1 : Below W.heap.size W a) (h2 : Below a.heap.size a b) : Below W.heap.size W b := h1.trans (h2.mono h1.size)
end Go.Proofs.YtepjcdjpikbbjaaGreatDoor

/-
  A slice of strings that the call itself made, told as a list of texts; a text's bytes as a list.
-/
namespace Go.Proofs.YtepjcdjpikbbjaaGreatDoor
open Go.RowKit Go.Sort

/-- a text by its bytes -/
def txt (l : List UInt8) : ByteArray := ⟨l.toArray⟩
theorem txt_data (s : ByteArray) : txt s.data.toList = s := by cases s; simp [txt]
theorem data_txt (l : List UInt8) : (txt l).data.toList = l := by simp [txt]
theorem txt_size (l : List UInt8) : (txt l).size = l.length := by simp [txt, ByteArray.size]
theorem size_data (s : ByteArray) : s.data.toList.length = s.size := by cases s; simp [ByteArray.size]
theorem txt_inj {a b : List UInt8} (h : txt a = txt b) : a = b := by rw [← data_txt a, h, data_txt]
theorem txt_app (a b : List UInt8) : txt a ++ txt b = txt (a ++ b) := by
  apply ByteArray.ext
  simp [txt]
/-- v is a slice (not nil) of the call's own that holds the texts L -/
def Row (w : World) (B : Nat) (v : Value) (L : List (List UInt8)) : Prop :=
  ∃ g cap, v = .slice (some ⟨g, 0, none⟩) L.length cap ∧ w.ownsRow B 9 1 v L.length (L.map encStr)

section
variable {w w' : World} {B : Nat} {v : Value} {L : List (List UInt8)}
theorem Row.kept (h : Row w B v L) {row : Option Nat} (hg : w.grownBy w' row) (hne : v.ownBlock ≠ row) : Row w' B v L := by
  obtain ⟨g, cap, e, ho⟩ := h
  exact ⟨g, cap, e, ho.kept hg (.inr hne)⟩
theorem Row.below (h : Row w B v L) (hb : Below w.heap.size w w') : Row w' B v L := by
  obtain ⟨g, cap, e, ho⟩ := h
  exact ⟨g, cap, e, ho.kept (only_of_below hb none) (.inr (by rw [e]; simp [Value.ownBlock]))⟩
theorem Row.drewN (h : Row w B v L) (n : Nat) : Row (w.drewN n) B v L := h
theorem Row.drew (h : Row w B v L) : Row w.drew B v L := h
theorem Row.alloc (h : Row w B v L) (o : Obj) : Row (w.alloc o) B v L := by
  obtain ⟨g, cap, e, ho⟩ := h
  exact ⟨g, cap, e, ho.alloc o⟩
theorem Row.cell {g cap : Nat} (h : Row w B (.slice (some ⟨g, 0, none⟩) L.length cap) L) (j : Nat) (hj : j < L.length) : w.cell? ⟨g, j, none⟩ = some (.string (txt (L.getD j []))) := by
  obtain ⟨g', cap', e, ho⟩ := h
  have := ho.cellAt j (by omega)
  rw [this]
  simp [List.getD, hj, encStr, txt]
theorem Row.parts (h : Row w B v L) : ∃ g cap, v = .slice (some ⟨g, 0, none⟩) L.length cap ∧ B ≤ g ∧ g < w.heap.size ∧ L.length ≤ cap ∧ cap ≤ maxLen ∧ Holds encStr w g 0 L.toArray := by
  obtain ⟨g, cap, rfl, ho⟩ := h
  obtain ⟨g', cap', e, h1, h2, h3, h4, _, h6⟩ := Lib.holds_of_ownsRow ho (by simp)
  injection e with e1 _ e3
  injection e1 with e1
  injection e1 with e1
  subst e1; subst e3
  exact ⟨g, cap, rfl, h1, h2, h3, h4, h6⟩
theorem Row.mono {B' : Nat} (h : Row w B v L) (hB : B' ≤ B) : Row w B' v L := by
  obtain ⟨g, cap, rfl, ho⟩ := h
  refine ⟨g, cap, rfl, ho.1, ?_⟩
  rcases ho.2 with h0 | ⟨g', cap', cur, e, h1, h2⟩
  · exact .inl h0
  · exact .inr ⟨g', cap', cur, e, by omega, h2⟩
/-- a block that holds just these texts -/
theorem Row.new (hB : B ≤ w.heap.size) (hm : L.length ≤ maxLen) : Row (w.alloc (.cells (L.map encStr).toArray 9)) B (.slice (some ⟨w.heap.size, 0, none⟩) L.length L.length) L := by
  refine ⟨_, _, rfl, by simp, .inr ⟨w.heap.size, L.length, (L.map encStr).toArray, rfl, hB, heap_alloc_new w _, Nat.le_refl _, hm, by simp, ?_⟩⟩
  rw [List.take_of_length_le (by simp)]
theorem Row.sorted {g cap n : Nat} {os : Array Obj} {T : List (List UInt8)} (h : Row w B (.slice (some ⟨g, 0, none⟩) L.length cap) L) (hl : T.length = L.length) :
    Row (grow (putRow encStr (Sort.ahead w n) g 0 T.toArray) os) B (.slice (some ⟨g, 0, none⟩) L.length cap) T := by
  obtain ⟨g', cap', e, ho⟩ := h
  injection e with e1 _ e3
  injection e1 with e1
  injection e1 with e1
  subst e1; subst e3
  rcases ho.2 with ⟨h0, _⟩ | ⟨g', cap', cur, hv, hbase, hb, h1, h2, h3, h4⟩
  · cases h0
  cases hv
  refine ⟨g, cap, by rw [hl], ?_⟩
  rw [hl]
  exact ownsRow_sorted (n := n) (os := os) hl hbase hb h1 h2 h3
theorem Row.cut {g cap q : Nat} {T : List (List UInt8)} (h : Row w B (.slice (some ⟨g, 0, none⟩) L.length cap) L) (hl : T.length ≤ L.length) :
    Row (putRow encStr (Sort.ahead w q) g 0 (T ++ List.replicate (L.length - T.length) []).toArray) B (.slice (some ⟨g, 0, none⟩) T.length cap) T := by
  obtain ⟨g', cap', e, ho⟩ := h
  injection e with e1 _ e3
  injection e1 with e1
  injection e1 with e1
  subst e1; subst e3
  have hc := Lib.ownsRow_putRow (q := q) (k := T.length) (ys := T ++ List.replicate (L.length - T.length) []) ho (by simp; omega) hl
  rw [List.take_left] at hc
  exact ⟨g, cap, rfl, hc⟩
end

theorem toList_txt (l : List UInt8) : (txt l).toList = l := by
  rw [ByteArray.toList_eq]
  simp [txt]
theorem parts_len (c : UInt8) : ∀ l : List UInt8, (parts c l).length ≤ l.length + 1
  | [] => by simp [parts]
  | x :: l => by
    have ih := parts_len c l
    by_cases hx : x = c
    · subst hx; rw [parts_sep]; simp; omega
    · rcases e : parts c l with _ | ⟨v, r⟩
      · exact absurd e (parts_ne c l)
      · rw [parts_cons hx e]; rw [e] at ih; simp at ih ⊢; omega

theorem parts_word_len (c : UInt8) : ∀ (l : List UInt8) (n : Nat), l.length ≤ n → ∀ w ∈ parts c l, w.length ≤ n
  | [], n, _, w, h => by simp [parts] at h; simp [h]
  | x :: l, n, hn, w, h => by
    simp at hn
    by_cases hx : x = c
    · subst hx
      rw [parts_sep] at h
      rcases List.mem_cons.1 h with rfl | h
      · simp
      · exact parts_word_len x l n (by omega) w h
    · rcases e : parts c l with _ | ⟨v, r⟩
      · exact absurd e (parts_ne c l)
      · rw [parts_cons hx e] at h
        rcases List.mem_cons.1 h with rfl | h
        · have := parts_word_len c l l.length (Nat.le_refl _) v (by rw [e]; exact List.mem_cons_self)
          simp; omega
        · exact parts_word_len c l n (by omega) w (by rw [e]; exact List.mem_cons_of_mem _ h)
end Go.Proofs.YtepjcdjpikbbjaaGreatDoor
