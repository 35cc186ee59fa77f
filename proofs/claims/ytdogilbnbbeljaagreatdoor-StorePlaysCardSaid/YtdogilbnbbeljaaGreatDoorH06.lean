/-
  What a store that is opened has: what was saved, and the events behind it.
-/
import Derived.Test.YtdogilbnbbeljaaGreatDoorH05
import Derived.Test.YtdogilbnbbeljaaGreatDoorH02
import Derived.StillTailTactics
import Derived.RegionTactic
import Derived.Outline
import Derived.Deep.QuietTactic
import Derived.BigQuiet
import Derived.Deep.LoopGhost
import Derived.Laws.BitsAllLaws
import Derived.Laws.BitsLemmas
namespace Go.Proofs.YtdogilbnbbeljaaGreatDoor

def upd (blk : Nat → List UInt8) (k : Nat) (x : List UInt8) : Nat → List UInt8 := fun j => if j = k then x else blk j
theorem upd_same (blk : Nat → List UInt8) (k : Nat) (x : List UInt8) : upd blk k x k = x := by simp [upd]
theorem upd_other (blk : Nat → List UInt8) {k j : Nat} (x : List UInt8) (h : j ≠ k) : upd blk k x j = blk j := by simp [upd, h]

def startS : St := ⟨0, 1, []⟩
section
variable (tg : Int → List UInt8 → List UInt8)
/-- the slot that is in force: its number, the first event that it has not, its state -/
def betterR (a : Int × Int × St) : Option (Int × Int × St) → Int × Int × St
  | some b => if b.1 > a.1 then b else a
  | none => a
theorem better_some (a b : Int × Int × St) : betterR a (some b) = if b.1 > a.1 then b else a := rfl
def pickR (blk : Nat → List UInt8) : Int × Int × St := betterR (betterR (0, 0, startS) (loadR tg blk 0)) (loadR tg blk 1)
/-- the n-th event of the log -/
def eventR (blk : Nat → List UInt8) (from_ n : Int) : Option Ev := if n - from_ ≥ 16 then none else readRec tg n (blk (n % 16).toNat)
/-- the events from n on -/
def replayR (blk : Nat → List UInt8) (from_ : Int) : Nat → Int → St → St × Int
  | 0, n, s => (s, n)
  | fuel + 1, n, s => match eventR tg blk from_ n with
    | some e => replayR blk from_ fuel (n + 1) (applyS s e)
    | none => (s, n)

/-- what lies on a disk: slot number n is in force, with state s0 and without the events from f on; those are the events of the log, up to x -/
structure SInv (blk : Nat → List UInt8) (n f x : Int) (s0 : St) (es : List Ev) : Prop where
  fit : Fit s0
  n0 : 0 ≤ n
  n1 : n ≤ 1000000
  f0 : 0 ≤ f
  x1 : x ≤ 1000000
  xe : x = f + es.length
  len : es.length ≤ 16
  evs : ∀ e ∈ es, evB e = true
  log : ∀ (i : Nat) e, es[i]? = some e → blk ((f + i) % 16).toNat = evRec tg (f + i) e
  old : ∀ j : Nat, j < 16 → blk j = [] ∨ ∃ (m : Int) (e : Ev), 0 ≤ m ∧ m < x ∧ m % 16 = (j : Int) ∧ blk j = evRec tg m e
  none_ : n = 0 → s0 = startS ∧ f = 0 ∧ blk (slotAt 0) = []
  here : 0 < n → blk (slotAt (n % 2).toNat) = headL tg n f s0 ∧ ∀ i g, s0.fams[i]? = some g → blk (slotAt (n % 2).toNat + 1 + i) = evL (putEv g)
  other : blk (slotAt ((n + 1) % 2).toNat) = [] ∨ ∃ (m g : Int) (s : St), Fit s ∧ okM m = true ∧ okM g = true ∧ m < n ∧ blk (slotAt ((n + 1) % 2).toNat) = headL tg m g s
end

theorem slot0 : slotAt 0 = 16 := rfl
theorem slot1 : slotAt 1 = 37 := rfl
theorem empty_inv (tg : Int → List UInt8 → List UInt8) : SInv tg (fun _ => []) 0 0 0 startS [] :=
  ⟨Fit.start, Int.le_refl _, by decide, Int.le_refl _, by decide, rfl, Nat.zero_le _, fun e he => by simp at he, fun i e he => by simp at he, fun _ _ => .inl rfl, fun _ => ⟨rfl, rfl, rfl⟩, fun h => absurd h (by decide), .inl rfl⟩

section
variable {tg : Int → List UInt8 → List UInt8} {blk : Nat → List UInt8} {n f x : Int} {s0 : St} {es : List Ev}
theorem SInv.okn (h : SInv tg blk n f x s0 es) : okM n = true := by have := h.n0; have := h.n1; exact okM_iff.2 (by omega)
theorem SInv.okx (h : SInv tg blk n f x s0 es) {m : Int} (h0 : 0 ≤ m) (h1 : m ≤ x) : okM m = true := by have := h.x1; exact okM_iff.2 (by omega)
theorem SInv.okf (h : SInv tg blk n f x s0 es) : okM f = true := h.okx h.f0 (by have := h.xe; omega)
/-- the slot that is picked -/
theorem SInv.pick (ht : TagOk tg) (h : SInv tg blk n f x s0 es) : pickR tg blk = (n, f, s0) := by
  have hn0 := h.n0
  rcases Int.lt_or_eq_of_le hn0 with hn | hn
  · obtain ⟨hh, hb⟩ := h.here hn
    have hm : n % 2 = 0 ∨ n % 2 = 1 := by omega
    have hother : ∀ k : Nat, k = ((n + 1) % 2).toNat → ∀ b, loadR tg blk k = some b → b.1 < n := by
      rintro k rfl ⟨m, g, st⟩ hb
      rcases h.other with e | ⟨m', g', s', hf, hm', hg', hlt, e⟩
      · rw [load_none e] at hb
        cases hb
      · have := load_number ht hf hm' hg' e hb
        show m < n
        omega
    rcases hm with hm | hm
    · rw [hm] at hh hb
      have h1 := load_saved ht h.fit h.okn h.okf (k := 0) (by omega) hh hb
      unfold pickR
      rw [h1]
      have h2 : betterR (0, 0, startS) (some (n, f, s0)) = (n, f, s0) := by rw [better_some, if_pos (by show n > 0; omega)]
      rw [h2]
      rcases e : loadR tg blk 1 with _ | b
      · rfl
      · have := hother 1 (by omega) b e
        rw [better_some, if_neg (by show ¬ b.1 > n; omega)]
    · rw [hm] at hh hb
      have h1 := load_saved ht h.fit h.okn h.okf (k := 1) (by omega) hh hb
      unfold pickR
      rw [h1]
      rcases e : loadR tg blk 0 with _ | b
      · show betterR (0, 0, startS) (some (n, f, s0)) = _
        rw [better_some, if_pos (by show n > 0; omega)]
      · have hbn := hother 0 (by omega) b e
        have h3 : (betterR (0, 0, startS) (some b)).1 < n := by
          rw [better_some]
          split
          · exact hbn
          · show (0 : Int) < n
            omega
        generalize betterR (0, 0, startS) (some b) = c at *
        show betterR c (some (n, f, s0)) = _
        rw [better_some, if_pos (by show n > c.1; omega)]
  · obtain ⟨hs, hf, h0⟩ := h.none_ hn.symm
    have h1 : blk (slotAt 1) = [] := by
      have ho := h.other
      rw [← hn] at ho
      rcases ho with e | ⟨m, g, s, _, hm, _, hlt, _⟩
      · exact e
      · have := okM_iff.1 hm
        omega
    unfold pickR
    rw [load_none h0, load_none h1, ← hn, hs, hf]
    rfl
/-- the events behind it -/
theorem SInv.event (ht : TagOk tg) (h : SInv tg blk n f x s0 es) {i : Nat} {e : Ev} (he : es[i]? = some e) : eventR tg blk f (f + i) = some e := by
  have hl := (List.getElem?_eq_some_iff.1 he).1
  have hlen := h.len
  have hf := h.f0
  have hx := h.xe
  unfold eventR
  rw [if_neg (by omega), h.log i e he]
  exact readRec_same ht (h.okx (by omega) (by omega)) (h.evs e (List.mem_of_getElem? he))
theorem SInv.stop (ht : TagOk tg) (h : SInv tg blk n f x s0 es) : eventR tg blk f x = none := by
  unfold eventR
  split
  · rfl
  · have hf := h.f0
    have hx := h.xe
    have hj : (x % 16).toNat < 16 := by omega
    rcases h.old _ hj with e | ⟨m, e, h0, h1, h2, h3⟩
    · rw [e]
      exact readRec_nil x
    · rw [h3]
      exact readRec_other ht (h.okx (by omega) (Int.le_refl _)) (h.okx h0 (by omega)) (by omega)
theorem SInv.replay (ht : TagOk tg) (h : SInv tg blk n f x s0 es) : ∀ (k fuel i : Nat) (s : St), i + k = es.length → k < fuel → replayR tg blk f fuel (f + i) s = ((es.drop i).foldl applyS s, x)
  | 0, 0, _, _, _, hk => absurd hk (Nat.not_lt_zero _)
  | 0, fuel + 1, i, s, hi, _ => by
    have e : f + (i : Int) = x := by have := h.xe; omega
    rw [e, replayR, h.stop ht, List.drop_of_length_le (by omega)]
    rfl
  | k + 1, 0, _, _, _, hk => absurd hk (Nat.not_lt_zero _)
  | k + 1, fuel + 1, i, s, hi, hk => by
    have hlt : i < es.length := by omega
    have he := List.getElem?_eq_getElem hlt
    rw [replayR, h.event ht he]
    dsimp only
    have e : f + (i : Int) + 1 = f + ((i + 1 : Nat) : Int) := by omega
    rw [e, h.replay ht k fuel (i + 1) _ (by omega) (by omega), List.drop_eq_getElem_cons hlt, List.foldl_cons]
theorem SInv.opened (ht : TagOk tg) (h : SInv tg blk n f x s0 es) : pickR tg blk = (n, f, s0) ∧ replayR tg blk f 17 f s0 = (es.foldl applyS s0, x) := by
  refine ⟨h.pick ht, ?_⟩
  have := h.replay ht es.length 17 0 s0 (by omega) (by have := h.len; omega)
  simpa using this

theorem slot_far {n : Int} (_ : 0 ≤ n) : slotAt (n % 2).toNat ≠ slotAt ((n + 1) % 2).toNat ∧ 16 ≤ slotAt (n % 2).toNat ∧ 16 ≤ slotAt ((n + 1) % 2).toNat ∧ (slotAt (n % 2).toNat + 21 ≤ slotAt ((n + 1) % 2).toNat ∨ slotAt ((n + 1) % 2).toNat + 21 ≤ slotAt (n % 2).toNat) := by
  have : n % 2 = 0 ∧ (n + 1) % 2 = 1 ∨ n % 2 = 1 ∧ (n + 1) % 2 = 0 := by omega
  rcases this with ⟨a, b⟩ | ⟨a, b⟩
  · rw [a, b]; decide
  · rw [a, b]; decide
/-- an event is added -/
theorem SInv.add (h : SInv tg blk n f x s0 es) {e : Ev} (he : evB e = true) (hl : es.length < 16) (hx : x < 1000000) : SInv tg (upd blk (x % 16).toNat (evRec tg x e)) n f (x + 1) s0 (es ++ [e]) := by
  have hf := h.f0
  have hxe := h.xe
  have hj : (x % 16).toNat < 16 := by omega
  obtain ⟨h1, h2, h3, h4⟩ := slot_far h.n0
  refine ⟨h.fit, h.n0, h.n1, hf, by omega, by rw [List.length_append, List.length_singleton]; omega, by rw [List.length_append, List.length_singleton]; omega, fun g hg => ?_, fun i g hg => ?_, fun j hj' => ?_, fun h0 => ?_, fun h0 => ?_, ?_⟩
  · rw [List.mem_append, List.mem_singleton] at hg
    rcases hg with hg | rfl
    · exact h.evs g hg
    · exact he
  · by_cases hi : i < es.length
    · rw [List.getElem?_append_left hi] at hg
      rw [upd_other _ _ (by omega)]
      exact h.log i g hg
    · have hil := (List.getElem?_eq_some_iff.1 hg).1
      rw [List.length_append, List.length_singleton] at hil
      have hie : i = es.length := by omega
      subst hie
      rw [List.getElem?_append_right (Nat.le_refl _), Nat.sub_self] at hg
      simp at hg
      subst hg
      rw [← hxe, upd_same]
  · by_cases hje : j = (x % 16).toNat
    · subst hje
      rw [upd_same]
      exact .inr ⟨x, e, by omega, by omega, by omega, rfl⟩
    · rw [upd_other _ _ hje]
      rcases h.old j hj' with e' | ⟨m, g, a, b, c, d⟩
      · exact .inl e'
      · exact .inr ⟨m, g, a, by omega, c, d⟩
  · rw [upd_other _ _ (by rw [slot0]; omega)]
    exact h.none_ h0
  · obtain ⟨a, b⟩ := h.here h0
    refine ⟨by rw [upd_other _ _ (by omega)]; exact a, fun i g hg => by rw [upd_other _ _ (by omega)]; exact b i g hg⟩
  · rw [upd_other _ _ (by omega)]
    exact h.other
/-- the other slot's families may be anything -/
theorem SInv.part (h : SInv tg blk n f x s0 es) {blk' : Nat → List UInt8} (hp : ∀ j, (j ≤ slotAt ((n + 1) % 2).toNat ∨ slotAt ((n + 1) % 2).toNat + 21 ≤ j) → blk' j = blk j) : SInv tg blk' n f x s0 es := by
  obtain ⟨h1, h2, h3, h4⟩ := slot_far h.n0
  have hlen := h.fit.len
  refine ⟨h.fit, h.n0, h.n1, h.f0, h.x1, h.xe, h.len, h.evs, fun i g hg => ?_, fun j hj => ?_, fun h0 => ?_, fun h0 => ?_, ?_⟩
  · rw [hp _ (by omega)]
    exact h.log i g hg
  · rw [hp _ (by omega)]
    exact h.old j hj
  · rw [hp _ (by subst h0; exact .inl (by decide))]
    exact h.none_ h0
  · obtain ⟨a, b⟩ := h.here h0
    refine ⟨by rw [hp _ (by omega)]; exact a, fun i g hg => ?_⟩
    have := (List.getElem?_eq_some_iff.1 hg).1
    rw [hp _ (by omega)]
    exact b i g hg
  · rw [hp _ (.inl (Nat.le_refl _))]
    exact h.other
/-- the other slot is saved whole -/
theorem SInv.saved (h : SInv tg blk n f x s0 es) (hfit : Fit (es.foldl applyS s0)) (hn : n < 1000000) {blk' : Nat → List UInt8} (hlow : ∀ j, (j < slotAt ((n + 1) % 2).toNat ∨ slotAt ((n + 1) % 2).toNat + 21 ≤ j) → blk' j = blk j)
    (hh : blk' (slotAt ((n + 1) % 2).toNat) = headL tg (n + 1) x (es.foldl applyS s0)) (hb : ∀ i g, (es.foldl applyS s0).fams[i]? = some g → blk' (slotAt ((n + 1) % 2).toNat + 1 + i) = evL (putEv g)) :
    SInv tg blk' (n + 1) x x (es.foldl applyS s0) [] := by
  obtain ⟨h1, h2, h3, h4⟩ := slot_far h.n0
  have hn0 := h.n0
  have hf := h.f0
  have hxe := h.xe
  refine ⟨hfit, by omega, by omega, by omega, h.x1, by simp, Nat.zero_le _, fun e he => by simp at he, fun i e he => by simp at he, fun j hj => ?_, fun h0 => by omega, fun _ => ⟨hh, hb⟩, ?_⟩
  · rw [hlow _ (by omega)]
    exact h.old j hj
  · have e2 : ((n + 1 + 1) % 2).toNat = (n % 2).toNat := by omega
    rw [e2, hlow _ (by omega)]
    rcases Int.lt_or_eq_of_le hn0 with hp | hp
    · exact .inr ⟨n, f, s0, h.fit, h.okn, h.okf, by omega, (h.here hp).1⟩
    · subst hp
      exact .inl (h.none_ rfl).2.2
end
end Go.Proofs.YtdogilbnbbeljaaGreatDoor

/-
  Words of 64 bits: what both texts of the sum compute, and the contracts of the rounds.
-/
namespace Go.Proofs.YtdogilbnbbeljaaGreatDoor
open Go.RowKit

/-- a region that draws: its first n operations read, or call quietly; the last ones are forced: the world said as a draw -/
theorem wp_region_drew {P : Program} {id : Nat} {Q : Exit → Act → World → Prop} {a : Act} {w : World} {l : List Oper} (n : Nat) (hm : P.follows .mixedOrders = true) (hB : Region.lexTailB .any l.toArray n = true)
    (h : wpStill P l.toArray w.drew (fun a' => wpList P l.toArray Q (l.drop n) a' w.drew) (l.take n) a) : (Code.region id l.toArray true).wp P Q a w :=
  wp_region_still_tail n hm hB h

/-- x turned left by k bits -/
def rotl (x k : Int) : Int := bits .or .u64 (IntKind.u64.wrap (x * 2 ^ k.toNat)) (x / 2 ^ (64 - k).toNat)
def bx (x y : Int) : Int := bits .xor .u64 x y
def ad (x y : Int) : Int := IntKind.u64.wrap (x + y)
def U64 (x : Int) : Prop := 0 ≤ x ∧ x < 18446744073709551616

structure S4 where
  a : Int
  b : Int
  c : Int
  d : Int
def S4.round (s : S4) : S4 :=
  let a1 := ad s.a s.b
  let b1 := bx (rotl s.b 13) a1
  let a2 := rotl a1 32
  let c1 := ad s.c s.d
  let d1 := bx (rotl s.d 16) c1
  let a3 := ad a2 d1
  let d2 := bx (rotl d1 21) a3
  let c2 := ad c1 b1
  let b2 := bx (rotl b1 17) c2
  let c3 := rotl c2 32
  ⟨a3, b2, c3, d2⟩
def S4.cells (s : S4) : Array Value := #[.int .u64 s.a, .int .u64 s.b, .int .u64 s.c, .int .u64 s.d]
def S4.ok (s : S4) : Prop := U64 s.a ∧ U64 s.b ∧ U64 s.c ∧ U64 s.d

theorem u64_wrap (x : Int) : U64 (IntKind.u64.wrap x) := by
  unfold U64; simp [IntKind.wrap, IntKind.bits, IntKind.signed]; omega
theorem u64_bits (op : BinOp) (x y : Int) (h : op = .or ∨ op = .xor ∨ op = .and) : U64 (bits op .u64 x y) := by
  rcases h with rfl | rfl | rfl <;> exact u64_wrap _
theorem u64_rotl (x k : Int) : U64 (rotl x k) := u64_bits _ _ _ (.inl rfl)
theorem u64_bx (x y : Int) : U64 (bx x y) := u64_bits _ _ _ (.inr (.inl rfl))
theorem u64_ad (x y : Int) : U64 (ad x y) := u64_wrap _
theorem S4.round_ok (s : S4) : s.round.ok := ⟨u64_ad _ _, u64_bx _ _, u64_rotl _ _, u64_bx _ _⟩

theorem and63 (k : Int) (h : k = 13 ∨ k = 16 ∨ k = 17 ∨ k = 21 ∨ k = 32) : bits .and .u64 k 63 = k := by
  rcases h with rfl | rfl | rfl | rfl | rfl <;> decide

theorem rot_k (x k : Int) (w : World) (hx : U64 x) (hk : k = 13 ∨ k = 16 ∨ k = 17 ∨ k = 21 ∨ k = 32) : Calls Tryz.prog 58 #[.int .u64 x, .int .i64 k] w fun e w' => e = .returned (.int .u64 (rotl x k)) ∧ w' = w := by
  obtain ⟨h0, h1⟩ := hx
  have ha := and63 k hk
  have hk0 : 1 ≤ k := by omega
  have hk1 : k ≤ 63 := by omega
  clear hk
  go_enter Tryz.func58, Tryz.ntmps58
  go_wp2
  go_ret
  exact ⟨rfl, rfl⟩


section
variable {w : World} {g : Nat} {t : TypeId} {p0 p1 p2 p3 : Value}
theorem Blk.s0 (h : Blk w g t #[p0, p1, p2, p3]) (x : Value) : Blk (w.setCell ⟨g, 0, none⟩ x).drew g t #[x, p1, p2, p3] := h.set_ 0 x
theorem Blk.s1 (h : Blk w g t #[p0, p1, p2, p3]) (x : Value) : Blk (w.setCell ⟨g, 1, none⟩ x).drew g t #[p0, x, p2, p3] := h.set_ 1 x
theorem Blk.s2 (h : Blk w g t #[p0, p1, p2, p3]) (x : Value) : Blk (w.setCell ⟨g, 2, none⟩ x).drew g t #[p0, p1, x, p3] := h.set_ 2 x
theorem Blk.s3 (h : Blk w g t #[p0, p1, p2, p3]) (x : Value) : Blk (w.setCell ⟨g, 3, none⟩ x).drew g t #[p0, p1, p2, x] := h.set_ 3 x
theorem Blk.c0 (h : Blk w g t #[p0, p1, p2, p3]) : w.cell? ⟨g, 0, none⟩ = some p0 := h.cell 0
theorem Blk.c1 (h : Blk w g t #[p0, p1, p2, p3]) : w.cell? ⟨g, 1, none⟩ = some p1 := h.cell 1
theorem Blk.c2 (h : Blk w g t #[p0, p1, p2, p3]) : w.cell? ⟨g, 2, none⟩ = some p2 := h.cell 2
theorem Blk.c3 (h : Blk w g t #[p0, p1, p2, p3]) : w.cell? ⟨g, 3, none⟩ = some p3 := h.cell 3
theorem only_step {a : World} (h : a.grownBy w (some g)) (i : Nat) (x : Value) : a.grownBy (w.setCell ⟨g, i, none⟩ x).drew (some g) := only_drew (only_setCell h (.inl rfl) x)
end

set_option maxRecDepth 100000 in
set_option maxHeartbeats 1000000 in
theorem mac_round (s : S4) (hs : s.ok) (w : World) (g : Nat) (h : Blk w g 152 s.cells) : Calls Tryz.prog 86 #[.pointer (some ⟨g, 0, none⟩)] w fun e w' => e = .returned (.tuple #[]) ∧ (Blk w' g 152 s.round.cells ∧ w.grownBy w' (some g)) := by
  obtain ⟨a, b, c, d⟩ := s
  obtain ⟨ha, hb, hc, hd⟩ := hs
  have HB := Lib.hid hb
  have HD := Lib.hid hd
  have b0 : Blk w g 152 #[.int .u64 a, .int .u64 b, .int .u64 c, .int .u64 d] := h
  have B0 := Lib.hid b0
  have G0 := Lib.hid (only_refl w (some g))
  clear b0 h ha hb hc hd
  go_enter Tryz.func86, Tryz.ntmps86
  have c0 := B0.out.c0
  have c1 := B0.out.c1
  have c2 := B0.out.c2
  have c3 := B0.out.c3
  have f0 := B0.out.frozen 0
  have f1 := B0.out.frozen 1
  have f2 := B0.out.frozen 2
  have f3 := B0.out.frozen 3
  go_wp2_with fail
  refine wp_region_drew 11 (by kernel_rfl) (by kernel_rfl) ?_
  simp only [List.take_succ_cons, List.take_zero, List.drop_succ_cons, List.drop_zero]
  repeat still_step
  refine wpStill_nil ?_
  go_wp2_with fail
  have B1 := Lib.hid (B0.out.s0 (.int .u64 (IntKind.u64.wrap (a + b))))
  have G1 := Lib.hid (only_step G0.out 0 (.int .u64 (IntKind.u64.wrap (a + b))))
  clear c0 c1 c2 c3 f0 f1 f2 f3 B0 G0
  generalize (w.setCell ⟨g, 0, none⟩ (.int .u64 (IntKind.u64.wrap (a + b)))).drew = w1 at B1 G1 ⊢
  have c0 := B1.out.c0
  have c1 := B1.out.c1
  have c2 := B1.out.c2
  have c3 := B1.out.c3
  have f0 := B1.out.frozen 0
  have f1 := B1.out.frozen 1
  have f2 := B1.out.frozen 2
  have f3 := B1.out.frozen 3
  go_wp2_with fail
  refine wp_region_drew 13 (by kernel_rfl) (by kernel_rfl) ?_
  simp only [List.take_succ_cons, List.take_zero, List.drop_succ_cons, List.drop_zero]
  repeat still_step
  still_call (rot_k (b) 13 _ HB.out (by omega))
  repeat still_step
  refine wpStill_nil ?_
  go_wp2_with fail
  have B2 := Lib.hid (B1.out.s1 (.int .u64 (bits .xor .u64 (rotl (b) 13) (IntKind.u64.wrap (a + b)))))
  have G2 := Lib.hid (only_step G1.out 1 (.int .u64 (bits .xor .u64 (rotl (b) 13) (IntKind.u64.wrap (a + b)))))
  clear c0 c1 c2 c3 f0 f1 f2 f3 B1 G1
  generalize (w1.setCell ⟨g, 1, none⟩ (.int .u64 (bits .xor .u64 (rotl (b) 13) (IntKind.u64.wrap (a + b))))).drew = w2 at B2 G2 ⊢
  have c0 := B2.out.c0
  have c1 := B2.out.c1
  have c2 := B2.out.c2
  have c3 := B2.out.c3
  have f0 := B2.out.frozen 0
  have f1 := B2.out.frozen 1
  have f2 := B2.out.frozen 2
  have f3 := B2.out.frozen 3
  go_wp2_with fail
  refine wp_region_drew 8 (by kernel_rfl) (by kernel_rfl) ?_
  simp only [List.take_succ_cons, List.take_zero, List.drop_succ_cons, List.drop_zero]
  repeat still_step
  still_call (rot_k (IntKind.u64.wrap (a + b)) 32 _ (u64_wrap _) (by omega))
  repeat still_step
  refine wpStill_nil ?_
  go_wp2_with fail
  have B3 := Lib.hid (B2.out.s0 (.int .u64 (rotl (IntKind.u64.wrap (a + b)) 32)))
  have G3 := Lib.hid (only_step G2.out 0 (.int .u64 (rotl (IntKind.u64.wrap (a + b)) 32)))
  clear c0 c1 c2 c3 f0 f1 f2 f3 B2 G2
  generalize (w2.setCell ⟨g, 0, none⟩ (.int .u64 (rotl (IntKind.u64.wrap (a + b)) 32))).drew = w3 at B3 G3 ⊢
  have c0 := B3.out.c0
  have c1 := B3.out.c1
  have c2 := B3.out.c2
  have c3 := B3.out.c3
  have f0 := B3.out.frozen 0
  have f1 := B3.out.frozen 1
  have f2 := B3.out.frozen 2
  have f3 := B3.out.frozen 3
  go_wp2_with fail
  refine wp_region_drew 11 (by kernel_rfl) (by kernel_rfl) ?_
  simp only [List.take_succ_cons, List.take_zero, List.drop_succ_cons, List.drop_zero]
  repeat still_step
  refine wpStill_nil ?_
  go_wp2_with fail
  have B4 := Lib.hid (B3.out.s2 (.int .u64 (IntKind.u64.wrap (c + d))))
  have G4 := Lib.hid (only_step G3.out 2 (.int .u64 (IntKind.u64.wrap (c + d))))
  clear c0 c1 c2 c3 f0 f1 f2 f3 B3 G3
  generalize (w3.setCell ⟨g, 2, none⟩ (.int .u64 (IntKind.u64.wrap (c + d)))).drew = w4 at B4 G4 ⊢
  have c0 := B4.out.c0
  have c1 := B4.out.c1
  have c2 := B4.out.c2
  have c3 := B4.out.c3
  have f0 := B4.out.frozen 0
  have f1 := B4.out.frozen 1
  have f2 := B4.out.frozen 2
  have f3 := B4.out.frozen 3
  go_wp2_with fail
  refine wp_region_drew 13 (by kernel_rfl) (by kernel_rfl) ?_
  simp only [List.take_succ_cons, List.take_zero, List.drop_succ_cons, List.drop_zero]
  repeat still_step
  still_call (rot_k (d) 16 _ HD.out (by omega))
  repeat still_step
  refine wpStill_nil ?_
  go_wp2_with fail
  have B5 := Lib.hid (B4.out.s3 (.int .u64 (bits .xor .u64 (rotl (d) 16) (IntKind.u64.wrap (c + d)))))
  have G5 := Lib.hid (only_step G4.out 3 (.int .u64 (bits .xor .u64 (rotl (d) 16) (IntKind.u64.wrap (c + d)))))
  clear c0 c1 c2 c3 f0 f1 f2 f3 B4 G4
  generalize (w4.setCell ⟨g, 3, none⟩ (.int .u64 (bits .xor .u64 (rotl (d) 16) (IntKind.u64.wrap (c + d))))).drew = w5 at B5 G5 ⊢
  have c0 := B5.out.c0
  have c1 := B5.out.c1
  have c2 := B5.out.c2
  have c3 := B5.out.c3
  have f0 := B5.out.frozen 0
  have f1 := B5.out.frozen 1
  have f2 := B5.out.frozen 2
  have f3 := B5.out.frozen 3
  go_wp2_with fail
  refine wp_region_drew 11 (by kernel_rfl) (by kernel_rfl) ?_
  simp only [List.take_succ_cons, List.take_zero, List.drop_succ_cons, List.drop_zero]
  repeat still_step
  refine wpStill_nil ?_
  go_wp2_with fail
  have B6 := Lib.hid (B5.out.s0 (.int .u64 (IntKind.u64.wrap (rotl (IntKind.u64.wrap (a + b)) 32 + bits .xor .u64 (rotl (d) 16) (IntKind.u64.wrap (c + d))))))
  have G6 := Lib.hid (only_step G5.out 0 (.int .u64 (IntKind.u64.wrap (rotl (IntKind.u64.wrap (a + b)) 32 + bits .xor .u64 (rotl (d) 16) (IntKind.u64.wrap (c + d))))))
  clear c0 c1 c2 c3 f0 f1 f2 f3 B5 G5
  generalize (w5.setCell ⟨g, 0, none⟩ (.int .u64 (IntKind.u64.wrap (rotl (IntKind.u64.wrap (a + b)) 32 + bits .xor .u64 (rotl (d) 16) (IntKind.u64.wrap (c + d)))))).drew = w6 at B6 G6 ⊢
  have c0 := B6.out.c0
  have c1 := B6.out.c1
  have c2 := B6.out.c2
  have c3 := B6.out.c3
  have f0 := B6.out.frozen 0
  have f1 := B6.out.frozen 1
  have f2 := B6.out.frozen 2
  have f3 := B6.out.frozen 3
  go_wp2_with fail
  refine wp_region_drew 13 (by kernel_rfl) (by kernel_rfl) ?_
  simp only [List.take_succ_cons, List.take_zero, List.drop_succ_cons, List.drop_zero]
  repeat still_step
  still_call (rot_k (bits .xor .u64 (rotl (d) 16) (IntKind.u64.wrap (c + d))) 21 _ (u64_bits _ _ _ (.inr (.inl rfl))) (by omega))
  repeat still_step
  refine wpStill_nil ?_
  go_wp2_with fail
  have B7 := Lib.hid (B6.out.s3 (.int .u64 (bits .xor .u64 (rotl (bits .xor .u64 (rotl (d) 16) (IntKind.u64.wrap (c + d))) 21) (IntKind.u64.wrap (rotl (IntKind.u64.wrap (a + b)) 32 + bits .xor .u64 (rotl (d) 16) (IntKind.u64.wrap (c + d)))))))
  have G7 := Lib.hid (only_step G6.out 3 (.int .u64 (bits .xor .u64 (rotl (bits .xor .u64 (rotl (d) 16) (IntKind.u64.wrap (c + d))) 21) (IntKind.u64.wrap (rotl (IntKind.u64.wrap (a + b)) 32 + bits .xor .u64 (rotl (d) 16) (IntKind.u64.wrap (c + d)))))))
  clear c0 c1 c2 c3 f0 f1 f2 f3 B6 G6
  generalize (w6.setCell ⟨g, 3, none⟩ (.int .u64 (bits .xor .u64 (rotl (bits .xor .u64 (rotl (d) 16) (IntKind.u64.wrap (c + d))) 21) (IntKind.u64.wrap (rotl (IntKind.u64.wrap (a + b)) 32 + bits .xor .u64 (rotl (d) 16) (IntKind.u64.wrap (c + d))))))).drew = w7 at B7 G7 ⊢
  have c0 := B7.out.c0
  have c1 := B7.out.c1
  have c2 := B7.out.c2
  have c3 := B7.out.c3
  have f0 := B7.out.frozen 0
  have f1 := B7.out.frozen 1
  have f2 := B7.out.frozen 2
  have f3 := B7.out.frozen 3
  go_wp2_with fail
  refine wp_region_drew 11 (by kernel_rfl) (by kernel_rfl) ?_
  simp only [List.take_succ_cons, List.take_zero, List.drop_succ_cons, List.drop_zero]
  repeat still_step
  refine wpStill_nil ?_
  go_wp2_with fail
  have B8 := Lib.hid (B7.out.s2 (.int .u64 (IntKind.u64.wrap (IntKind.u64.wrap (c + d) + bits .xor .u64 (rotl (b) 13) (IntKind.u64.wrap (a + b))))))
  have G8 := Lib.hid (only_step G7.out 2 (.int .u64 (IntKind.u64.wrap (IntKind.u64.wrap (c + d) + bits .xor .u64 (rotl (b) 13) (IntKind.u64.wrap (a + b))))))
  clear c0 c1 c2 c3 f0 f1 f2 f3 B7 G7
  generalize (w7.setCell ⟨g, 2, none⟩ (.int .u64 (IntKind.u64.wrap (IntKind.u64.wrap (c + d) + bits .xor .u64 (rotl (b) 13) (IntKind.u64.wrap (a + b)))))).drew = w8 at B8 G8 ⊢
  have c0 := B8.out.c0
  have c1 := B8.out.c1
  have c2 := B8.out.c2
  have c3 := B8.out.c3
  have f0 := B8.out.frozen 0
  have f1 := B8.out.frozen 1
  have f2 := B8.out.frozen 2
  have f3 := B8.out.frozen 3
  go_wp2_with fail
  refine wp_region_drew 13 (by kernel_rfl) (by kernel_rfl) ?_
  simp only [List.take_succ_cons, List.take_zero, List.drop_succ_cons, List.drop_zero]
  repeat still_step
  still_call (rot_k (bits .xor .u64 (rotl (b) 13) (IntKind.u64.wrap (a + b))) 17 _ (u64_bits _ _ _ (.inr (.inl rfl))) (by omega))
  repeat still_step
  refine wpStill_nil ?_
  go_wp2_with fail
  have B9 := Lib.hid (B8.out.s1 (.int .u64 (bits .xor .u64 (rotl (bits .xor .u64 (rotl (b) 13) (IntKind.u64.wrap (a + b))) 17) (IntKind.u64.wrap (IntKind.u64.wrap (c + d) + bits .xor .u64 (rotl (b) 13) (IntKind.u64.wrap (a + b)))))))
  have G9 := Lib.hid (only_step G8.out 1 (.int .u64 (bits .xor .u64 (rotl (bits .xor .u64 (rotl (b) 13) (IntKind.u64.wrap (a + b))) 17) (IntKind.u64.wrap (IntKind.u64.wrap (c + d) + bits .xor .u64 (rotl (b) 13) (IntKind.u64.wrap (a + b)))))))
  clear c0 c1 c2 c3 f0 f1 f2 f3 B8 G8
  generalize (w8.setCell ⟨g, 1, none⟩ (.int .u64 (bits .xor .u64 (rotl (bits .xor .u64 (rotl (b) 13) (IntKind.u64.wrap (a + b))) 17) (IntKind.u64.wrap (IntKind.u64.wrap (c + d) + bits .xor .u64 (rotl (b) 13) (IntKind.u64.wrap (a + b))))))).drew = w9 at B9 G9 ⊢
  have c0 := B9.out.c0
  have c1 := B9.out.c1
  have c2 := B9.out.c2
  have c3 := B9.out.c3
  have f0 := B9.out.frozen 0
  have f1 := B9.out.frozen 1
  have f2 := B9.out.frozen 2
  have f3 := B9.out.frozen 3
  go_wp2_with fail
  refine wp_region_drew 8 (by kernel_rfl) (by kernel_rfl) ?_
  simp only [List.take_succ_cons, List.take_zero, List.drop_succ_cons, List.drop_zero]
  repeat still_step
  still_call (rot_k (IntKind.u64.wrap (IntKind.u64.wrap (c + d) + bits .xor .u64 (rotl (b) 13) (IntKind.u64.wrap (a + b)))) 32 _ (u64_wrap _) (by omega))
  repeat still_step
  refine wpStill_nil ?_
  go_wp2_with fail
  have B10 := Lib.hid (B9.out.s2 (.int .u64 (rotl (IntKind.u64.wrap (IntKind.u64.wrap (c + d) + bits .xor .u64 (rotl (b) 13) (IntKind.u64.wrap (a + b)))) 32)))
  have G10 := Lib.hid (only_step G9.out 2 (.int .u64 (rotl (IntKind.u64.wrap (IntKind.u64.wrap (c + d) + bits .xor .u64 (rotl (b) 13) (IntKind.u64.wrap (a + b)))) 32)))
  go_end0
  exact ⟨rfl, B10.out, G10.out⟩
end Go.Proofs.YtdogilbnbbeljaaGreatDoor

/-
  The sum, by the program's text.
-/
namespace Go.Proofs.YtdogilbnbbeljaaGreatDoor
open Go.RowKit

def S4.eat (s : S4) (m : Int) : S4 :=
  let t := (S4.mk s.a s.b s.c (bx s.d m)).round.round
  ⟨bx t.a m, t.b, t.c, t.d⟩
theorem S4.eat_ok (s : S4) (m : Int) : (s.eat m).ok :=
  ⟨u64_bx _ _, (S4.round_ok _).2.1, (S4.round_ok _).2.2.1, (S4.round_ok _).2.2.2⟩

set_option maxRecDepth 100000 in
set_option maxHeartbeats 1000000 in
theorem mac_eat (s : S4) (hs : s.ok) (m : Int) (w : World) (g : Nat) (h : Blk w g 152 s.cells) : Calls Tryz.prog 85 #[.int .u64 m, .pointer (some ⟨g, 0, none⟩)] w fun e w' => e = .returned (.tuple #[]) ∧ (Blk w' g 152 (s.eat m).cells ∧ w.grownBy w' (some g)) := by
  obtain ⟨a, b, c, d⟩ := s
  have b0 : Blk w g 152 #[.int .u64 a, .int .u64 b, .int .u64 c, .int .u64 d] := h
  have c3 := b0.c3
  have f3 := b0.frozen 3
  have B0 := Lib.hid b0
  have HS := Lib.hid hs
  clear b0 h hs
  go_enter Tryz.func85, Tryz.ntmps85
  go_wp2_with fail
  refine (mac_round ⟨a, b, c, bx d m⟩ ⟨HS.out.1, HS.out.2.1, HS.out.2.2.1, u64_bx _ _⟩ _ g (B0.out.set_ 3 (.int .u64 (bx d m)))).mono ?_
  rintro e w1 ⟨rfl, hb1, hg1⟩
  have B1 := Lib.hid hb1
  have G1 := Lib.hid hg1
  clear hb1 hg1
  go_wp2_with fail
  refine (mac_round (S4.round ⟨a, b, c, bx d m⟩) (S4.round_ok _) _ g B1.out).mono ?_
  rintro e w2 ⟨rfl, hb2, hg2⟩
  have B2 := Lib.hid hb2
  have G2 := Lib.hid (only_trans (only_trans (only_setCell (only_refl w (some g)) (p := ⟨g, 3, none⟩) (.inl rfl) (.int .u64 (bx d m))) G1.out) hg2)
  clear hb2 hg2
  have E : ∃ s2 : S4, s2 = (S4.round (S4.round ⟨a, b, c, bx d m⟩)) := ⟨_, rfl⟩
  obtain ⟨s2, e2⟩ := E
  have E2 := Lib.hid e2
  rw [← e2] at B2
  clear e2
  have c0 := Blk.c0 B2.out
  have f0 := B2.out.frozen 0
  go_wp2_with fail
  go_end0
  refine ⟨rfl, ?_, ?_⟩
  · have h1 := B2.out.set_ 0 (.int .u64 (bx s2.a m))
    have h2 : (S4.eat ⟨a, b, c, d⟩ m).cells = #[.int .u64 (bx s2.a m), .int .u64 s2.b, .int .u64 s2.c, .int .u64 s2.d] := by rw [E2.out]; rfl
    rw [h2]
    exact h1
  · exact only_setCell G2.out (.inl rfl) _
end Go.Proofs.YtdogilbnbbeljaaGreatDoor
