/-
  A store in plain Lean: blocks with their tag, events of the log, slots; what a store that is opened reads.
-/
import Derived.Test.YtdogilbnbbeljaaGreatDoorH04
import Derived.Lib.IndexMore
import Derived.Lib.LastIndexByte
namespace Go.Proofs.YtdogilbnbbeljaaGreatDoor

/-- up to MaxNumber, and one more -/
def okM (x : Int) : Bool := decide (0 ≤ x) && decide (x ≤ 1099511627777)
theorem okM_iff {x : Int} : okM x = true ↔ 0 ≤ x ∧ x ≤ 1099511627777 := by simp [okM]
theorem okM_cases {x : Int} (h : okM x = true) : okN x = true ∨ x = 1099511627777 := by
  have := okM_iff.1 h
  by_cases hx : x ≤ 1099511627776
  · exact .inl (okN_iff.2 ⟨this.1, hx⟩)
  · exact .inr (by omega)
theorem okN_M {x : Int} (h : okN x = true) : okM x = true := by have := okN_iff.1 h; exact okM_iff.2 (by omega)
theorem top_itoa : Lib.itoa 1099511627777 = [49, 48, 57, 57, 53, 49, 49, 54, 50, 55, 55, 55, 55] := by kernel_rfl
theorem itoaM_len {x : Int} (h : okM x = true) : (Lib.itoa x).length ≤ 13 := by
  rcases okM_cases h with h | rfl
  · exact itoa_len h
  · rw [top_itoa]; decide
theorem itoaM_ne {x : Int} (h : okM x = true) : Lib.itoa x ≠ [] := by
  rcases okM_cases h with h | rfl
  · exact itoa_ne h
  · rw [top_itoa]; decide
theorem itoaM_free {x : Int} (h : okM x = true) {c : UInt8} (hc : ¬ (48 ≤ c.toNat ∧ c.toNat ≤ 57)) : c ∉ Lib.itoa x := by
  rcases okM_cases h with h | rfl
  · exact itoa_free h hc
  · rw [top_itoa]
    intro hm
    apply hc
    simp only [List.mem_cons, List.not_mem_nil, or_false] at hm
    rcases hm with rfl | rfl | rfl | rfl | rfl | rfl | rfl | rfl | rfl | rfl | rfl | rfl | rfl <;> decide
theorem atoiM {x : Int} (h : okM x = true) : atoiN (Lib.itoa x) = x ∧ atoiE (Lib.itoa x) = true := by
  rcases okM_cases h with h | rfl
  · exact ⟨atoiN_itoa h, atoiE_itoa h⟩
  · rw [top_itoa]
    have : Lib.atoiAll [49, 48, 57, 57, 53, 49, 49, 54, 50, 55, 55, 55, 55] = .ok 1099511627777 := by kernel_rfl
    unfold atoiN atoiE
    rw [this]
    exact ⟨rfl, rfl⟩
theorem itoaM_inj {x y : Int} (hx : okM x = true) (hy : okM y = true) (h : Lib.itoa x = Lib.itoa y) : x = y := by rw [← (atoiM hx).1, h, (atoiM hy).1]

/-- what stands ahead of the last blank, and behind it -/
def lastTail (s : List UInt8) : List UInt8 := (s.reverse.takeWhile fun c => c != 32).reverse
def cutLast (s : List UInt8) : Option (List UInt8 × List UInt8) := if 32 ∈ s then some (s.take (s.length - (lastTail s).length - 1), lastTail s) else none
theorem takeWhile_stop {p : UInt8 → Bool} : ∀ {a : List UInt8} {c : UInt8} {b : List UInt8}, (∀ x ∈ a, p x = true) → p c = false → (a ++ c :: b).takeWhile p = a
  | [], c, b, _, hc => by simp [hc]
  | x :: a, c, b, h, hc => by
    rw [List.cons_append, List.takeWhile_cons, if_pos (h x (List.mem_cons_self ..)), takeWhile_stop (fun y hy => h y (List.mem_cons_of_mem _ hy)) hc]
theorem lastTail_of {x t : List UInt8} (ht : 32 ∉ t) : lastTail (x ++ 32 :: t) = t := by
  unfold lastTail
  rw [List.reverse_append, List.reverse_cons, List.append_assoc, List.singleton_append, takeWhile_stop, List.reverse_reverse]
  · intro y hy
    have : y ≠ 32 := fun e => ht (by rw [← e]; exact List.mem_reverse.1 hy)
    simpa using this
  · simp
theorem cutLast_of {x t : List UInt8} (ht : 32 ∉ t) : cutLast (x ++ 32 :: t) = some (x, t) := by
  unfold cutLast
  rw [lastTail_of ht, if_pos (by simp)]
  congr 2
  rw [List.length_append, List.length_cons]
  have : x.length + (t.length + 1) - t.length - 1 = x.length := by omega
  rw [this, List.take_left]
/-- what stands ahead of the first blank, and behind it -/
def firstHead (s : List UInt8) : List UInt8 := s.takeWhile fun c => c != 32
def firstRest (s : List UInt8) : List UInt8 := (s.dropWhile fun c => c != 32).drop 1
theorem first_cut {a b : List UInt8} (h : 32 ∉ a) : firstHead (a ++ 32 :: b) = a ∧ firstRest (a ++ 32 :: b) = b := by
  have ha : ∀ x ∈ a, (x != 32) = true := fun x hx => by
    have : x ≠ 32 := fun e => h (by rw [← e]; exact hx)
    simpa using this
  have h1 : firstHead (a ++ 32 :: b) = a := takeWhile_stop ha (by simp)
  refine ⟨h1, ?_⟩
  unfold firstRest
  have h2 := List.takeWhile_append_dropWhile (p := fun c : UInt8 => c != 32) (l := a ++ 32 :: b)
  unfold firstHead at h1
  rw [h1] at h2
  have h3 := List.append_cancel_left h2
  rw [h3]
  rfl

/-- how tags are -/
structure TagOk (tg : Int → List UInt8 → List UInt8) : Prop where
  len : ∀ k l, (tg k l).length = 16
  free : ∀ k l, (32 : UInt8) ∉ tg k l

section
variable (tg : Int → List UInt8 → List UInt8)
/-- words with their tag behind; and back -/
def sealL (x : List UInt8) : List UInt8 := x ++ 32 :: tg 0 x
def openL (s : List UInt8) : Option (List UInt8) := match cutLast s with
  | some (x, t) => if t = tg 0 x then some x else none
  | none => none
/-- an event of the log, with its number -/
def evRec (n : Int) (e : Ev) : List UInt8 := sealL tg (Lib.itoa n ++ 32 :: evL e)
def readRec (n : Int) (s : List UInt8) : Option Ev := match openL tg s with
  | some x => if firstHead x = Lib.itoa n then (if readB (firstRest x) then some (readE (firstRest x)) else none) else none
  | none => none
/-- a family's line, and the event that puts it -/
def putEv (f : Fam) : Ev := ⟨1, f, 0, 0⟩
/-- a slot's head -/
def headW (n from_ : Int) (s : St) (all : List UInt8) : List (List UInt8) := [Lib.itoa n, Lib.itoa from_, Lib.itoa s.clock, Lib.itoa s.next, Lib.itoa (s.fams.length : Int), tg 1 all]
def allL (L : List Fam) : List UInt8 := L.flatMap fun f => evL (putEv f) ++ [10]
def headL (n from_ : Int) (s : St) : List UInt8 := sealL tg (glue 32 (headW tg n from_ s (allL s.fams)))

def numM (w : List UInt8) : Bool := atoiE w && okM (atoiN w)
/-- a slot's families: the state behind the first n of them, and all their lines -/
def famsR (blk : Nat → List UInt8) (at_ : Nat) (s : St) : Nat → Option (St × List UInt8)
  | 0 => some (s, [])
  | n + 1 => match famsR blk at_ s n with
    | some (st, all) => if readB (blk (at_ + 1 + n)) && decide ((readE (blk (at_ + 1 + n))).kind = 1) then some (applyS st (readE (blk (at_ + 1 + n))), all ++ blk (at_ + 1 + n) ++ [10]) else none
    | none => none
def slotAt (k : Nat) : Nat := 16 + k % 2 * 21
def loadR (blk : Nat → List UInt8) (k : Nat) : Option (Int × Int × St) := match openL tg (blk (slotAt k)) with
  | some x => match parts 32 x with
    | [a, b, c, d, e, t] => if numM a && numM b && numM c && numM d && numM e && decide (atoiN e ≤ 20) then
        (match famsR blk (slotAt k) ⟨atoiN c, atoiN d, []⟩ (atoiN e).toNat with
          | some (st, all) => if tg 1 all = t ∧ atoiN a % 2 = (k : Int) then some (atoiN a, atoiN b, st) else none
          | none => none) else none
    | _ => none
  | none => none
end

section
variable {tg : Int → List UInt8 → List UInt8} (ht : TagOk tg)
include ht
theorem open_seal (x : List UInt8) : openL tg (sealL tg x) = some x := by
  unfold openL sealL
  rw [cutLast_of (ht.free 0 x)]
  simp
/-- an event of the log is read again, by its number alone -/
theorem readRec_same {n : Int} {e : Ev} (hn : okM n = true) (he : evB e = true) : readRec tg n (evRec tg n e) = some e := by
  unfold readRec evRec
  rw [open_seal ht]
  obtain ⟨h1, h2⟩ := first_cut (a := Lib.itoa n) (b := evL e) (itoaM_free hn (by decide))
  obtain ⟨h3, h4⟩ := evL_back he
  simp only [h1, h2, h3, h4, if_true]
theorem readRec_other {n m : Int} {e : Ev} (hn : okM n = true) (hm : okM m = true) (hne : n ≠ m) : readRec tg n (evRec tg m e) = none := by
  unfold readRec evRec
  rw [open_seal ht]
  obtain ⟨h1, _⟩ := first_cut (a := Lib.itoa m) (b := evL e) (itoaM_free hm (by decide))
  simp only [h1]
  rw [if_neg fun h => hne (itoaM_inj hn hm h.symm)]
end
section
variable {tg : Int → List UInt8 → List UInt8}
theorem open_nil : openL tg [] = none := rfl
theorem readRec_nil (n : Int) : readRec tg n [] = none := rfl
/-- what a read event is -/
theorem readRec_may {n : Int} {s : List UInt8} {e : Ev} (h : readRec tg n s = some e) : evB e = true := by
  unfold readRec at h
  split at h
  · split at h
    · split at h
      · rename_i hb
        obtain rfl := Option.some.inj h
        unfold readE
        rw [if_pos hb]
        exact (readB_iff.1 hb).1
      · cases h
    · cases h
  · cases h
theorem load_none {blk : Nat → List UInt8} {k : Nat} (hh : blk (slotAt k) = []) : loadR tg blk k = none := by
  unfold loadR
  rw [hh]
  rfl
end
theorem readE_may {l : List UInt8} (h : readB l = true) : evB (readE l) = true := by
  unfold readE
  rw [if_pos h]
  exact (readB_iff.1 h).1

/-- fit to be saved -/
structure Fit (s : St) : Prop where
  asc : Asc s.fams
  fams : ∀ f ∈ s.fams, famB f = true
  clock : okN s.clock = true
  next : okM s.next = true
  above : ∀ f ∈ s.fams, f.id < s.next
  len : s.fams.length ≤ 20
theorem Fit.ok {s : St} (h : Fit s) : StOk s := ⟨h.asc, fun f hf => (famB_parts (h.fams f hf)).1, by have := h.len; omega⟩
theorem Fit.start : Fit ⟨0, 1, []⟩ := ⟨List.Pairwise.nil, fun f hf => by simp at hf, by decide, by decide, fun f hf => by simp at hf, Nat.zero_le _⟩
theorem putEv_may {f : Fam} (h : famB f = true) : evB (putEv f) = true := by unfold putEv; rw [evB_one]; exact h
theorem ahead_all {n : Int} : ∀ L : List Fam, (∀ g ∈ L, g.id < n) → ahead L n = L.length
  | [], _ => rfl
  | g :: L, h => by rw [ahead_cons, if_pos (h g (List.mem_cons_self ..)), ahead_all L fun x hx => h x (List.mem_cons_of_mem _ hx), List.length_cons]
/-- one behind all others is put at the end -/
theorem putL_end {L : List Fam} {f : Fam} (h : ∀ g ∈ L, g.id < f.id) : putL L f = L ++ [f] := by
  have ha : ahead L f.id = L.length := ahead_all L h
  unfold putL
  rw [hasB_none ha, if_neg (by decide), ha, List.take_length, List.drop_length]
/-- an event that may be leaves a state fit, if the families are not too many -/
theorem Fit.apply {s : St} {e : Ev} (h : Fit s) (he : evB e = true) (hl : (applyS s e).fams.length ≤ 20) : Fit (applyS s e) := by
  rcases evB_kind he with ⟨hk, _, _, hf⟩ | ⟨hk, _, _, _⟩ | ⟨hk, _, _, hn⟩
  · rw [applyS_1 hk] at hl ⊢
    have hid := okN_iff.1 (famB_parts hf).1
    have hnx := okM_iff.1 h.next
    refine ⟨putL_asc h.asc _, fun g hg => ?_, h.clock, ?_, fun g hg => ?_, hl⟩
    · rcases mem_putL hg with rfl | hg
      · exact hf
      · exact h.fams g hg
    · rw [okM_iff]
      show 0 ≤ max s.next (e.fam.id + 1) ∧ max s.next (e.fam.id + 1) ≤ _
      omega
    · show g.id < max s.next (e.fam.id + 1)
      rcases mem_putL hg with rfl | hg
      · omega
      · have := h.above g hg
        omega
  · rw [applyS_2 hk] at hl ⊢
    exact ⟨dropL_asc h.asc _, fun g hg => h.fams g (mem_dropL hg), h.clock, h.next, fun g hg => h.above g (mem_dropL hg), hl⟩
  · have e3 : applyS s e = ⟨e.time, s.next, s.fams⟩ := by unfold applyS; rw [if_neg (by omega), if_neg (by omega), if_pos hk]
    rw [e3]
    exact ⟨h.asc, h.fams, hn, h.next, h.above, h.len⟩
theorem allL_snoc (L : List Fam) (f : Fam) : allL (L ++ [f]) = allL L ++ evL (putEv f) ++ [10] := by
  unfold allL
  rw [List.flatMap_append]
  simp
/-- a slot that was saved is read again -/
theorem famsR_saved {blk : Nat → List UInt8} {at_ : Nat} {s : St} (h : Fit s) (hb : ∀ i f, s.fams[i]? = some f → blk (at_ + 1 + i) = evL (putEv f)) : ∀ n, n ≤ s.fams.length → famsR blk at_ ⟨s.clock, s.next, []⟩ n = some (⟨s.clock, s.next, s.fams.take n⟩, allL (s.fams.take n))
  | 0, _ => by simp [famsR, allL]
  | n + 1, hn => by
    have hlt : n < s.fams.length := by omega
    have hf := List.getElem?_eq_getElem hlt
    have hfm := List.getElem_mem hlt
    have hfB := h.fams _ hfm
    obtain ⟨h1, h2⟩ := evL_back (putEv_may hfB)
    have hkd : (putEv s.fams[n]).kind = 1 := rfl
    rw [famsR, famsR_saved h hb n (by omega), hb n _ hf]
    dsimp only
    rw [h1, h2, hkd]
    simp only [decide_true, Bool.and_self, if_true, Option.some.injEq, Prod.mk.injEq]
    have htk : s.fams.take (n + 1) = s.fams.take n ++ [s.fams[n]] := by rw [List.take_add_one, hf]; rfl
    rw [htk]
    refine ⟨?_, (allL_snoc _ _).symm⟩
    have hbelow : ∀ g ∈ s.fams.take n, g.id < s.fams[n].id := by
      intro g hg
      obtain ⟨j, hj⟩ := List.mem_iff_getElem?.1 hg
      rw [List.getElem?_take] at hj
      split at hj
      · rename_i hjn
        have hjl : j < s.fams.length := by omega
        rw [List.getElem?_eq_getElem hjl] at hj
        obtain rfl := Option.some.inj hj
        exact List.pairwise_iff_getElem.1 h.asc j n hjl hlt hjn
      · cases hj
    rw [applyS_1 (show (putEv s.fams[n]).kind = 1 from rfl)]
    dsimp only [putEv]
    rw [putL_end hbelow]
    have := h.above _ hfm
    congr 1
    omega
section
variable {tg : Int → List UInt8 → List UInt8} (ht : TagOk tg)
include ht
theorem headW_free {n f : Int} {s : St} (hn : okM n = true) (hf : okM f = true) (h : Fit s) (all : List UInt8) : ∀ w ∈ headW tg n f s all, (32 : UInt8) ∉ w := by
  intro w hw
  have hl := h.len
  simp only [headW, List.mem_cons, List.not_mem_nil, or_false] at hw
  rcases hw with rfl | rfl | rfl | rfl | rfl | rfl
  · exact itoaM_free hn (by decide)
  · exact itoaM_free hf (by decide)
  · exact itoaM_free (okN_M h.clock) (by decide)
  · exact itoaM_free h.next (by decide)
  · exact itoaM_free (okM_iff.2 (by omega)) (by decide)
  · exact ht.free 1 all
theorem load_saved {blk : Nat → List UInt8} {k : Nat} {n f : Int} {s : St} (h : Fit s) (hn : okM n = true) (hf : okM f = true) (hk : n % 2 = (k : Int)) (hh : blk (slotAt k) = headL tg n f s) (hb : ∀ i g, s.fams[i]? = some g → blk (slotAt k + 1 + i) = evL (putEv g)) :
    loadR tg blk k = some (n, f, s) := by
  have hl := h.len
  have hlen : okM (s.fams.length : Int) = true := okM_iff.2 (by omega)
  have hw := headW_free ht hn hf h (allL s.fams)
  have hp : parts 32 (glue 32 (headW tg n f s (allL s.fams))) = headW tg n f s (allL s.fams) := parts_glue 32 _ (by simp [headW]) hw
  unfold loadR
  rw [hh]
  unfold headL
  rw [open_seal ht]
  dsimp only
  rw [hp]
  unfold headW
  dsimp only
  obtain ⟨a1, a2⟩ := atoiM hn
  obtain ⟨b1, b2⟩ := atoiM hf
  obtain ⟨c1, c2⟩ := atoiM (okN_M h.clock)
  obtain ⟨d1, d2⟩ := atoiM h.next
  obtain ⟨e1, e2⟩ := atoiM hlen
  have g1 : numM (Lib.itoa n) = true := by unfold numM; rw [a1, a2, hn]; rfl
  have g2 : numM (Lib.itoa f) = true := by unfold numM; rw [b1, b2, hf]; rfl
  have g3 : numM (Lib.itoa s.clock) = true := by unfold numM; rw [c1, c2, okN_M h.clock]; rfl
  have g4 : numM (Lib.itoa s.next) = true := by unfold numM; rw [d1, d2, h.next]; rfl
  have g5 : numM (Lib.itoa (s.fams.length : Int)) = true := by unfold numM; rw [e1, e2, hlen]; rfl
  rw [g1, g2, g3, g4, g5, a1, b1, c1, d1, e1]
  have hle : decide ((s.fams.length : Int) ≤ 20) = true := by rw [decide_eq_true_eq]; omega
  rw [hle]
  simp only [Bool.and_self, if_true, Int.toNat_natCast]
  rw [famsR_saved h hb _ (Nat.le_refl _), List.take_length]
  simp [hk]
/-- whatever a slot has: its number is its head's -/
theorem load_number {blk : Nat → List UInt8} {k : Nat} {n f m g : Int} {s st : St} (h : Fit s) (hn : okM n = true) (hf : okM f = true) (hh : blk (slotAt k) = headL tg n f s) (hl : loadR tg blk k = some (m, g, st)) : m = n := by
  have hw := headW_free ht hn hf h (allL s.fams)
  have hp : parts 32 (glue 32 (headW tg n f s (allL s.fams))) = headW tg n f s (allL s.fams) := parts_glue 32 _ (by simp [headW]) hw
  unfold loadR at hl
  rw [hh] at hl
  unfold headL at hl
  rw [open_seal ht] at hl
  dsimp only at hl
  rw [hp] at hl
  unfold headW at hl
  dsimp only at hl
  split at hl
  · split at hl
    · split at hl
      · obtain ⟨h1, _⟩ := Prod.mk.inj (Option.some.inj hl)
        rw [← h1, (atoiM hn).1]
      · cases hl
    · cases hl
  · cases hl
end
end Go.Proofs.YtdogilbnbbeljaaGreatDoor

/-
  The library's cuts at a blank, as the store's plain words have them.
-/
namespace Go.Proofs.YtdogilbnbbeljaaGreatDoor

theorem all_kept {p : UInt8 → Bool} : ∀ l : List UInt8, (∀ x ∈ l, p x = true) → l.takeWhile p = l ∧ l.dropWhile p = []
  | [], _ => ⟨rfl, rfl⟩
  | x :: l, h => by
    obtain ⟨h1, h2⟩ := all_kept l fun y hy => h y (List.mem_cons_of_mem _ hy)
    rw [List.takeWhile_cons, List.dropWhile_cons, if_pos (h x (List.mem_cons_self ..)), if_pos (h x (List.mem_cons_self ..)), h1, h2]
    exact ⟨rfl, rfl⟩
theorem lib_cut (l : List UInt8) : Lib.cut l [32] = (firstHead l, firstRest l, decide (32 ∈ l)) := by
  by_cases h : (32 : UInt8) ∈ l
  · obtain ⟨a, b, rfl, ha⟩ := first_of h
    obtain ⟨h1, h2⟩ := first_cut (b := b) ha
    have hi : Lib.index (a ++ 32 :: b) [32] = (a.length : Int) := by
      refine Lib.index_first (by simp) ?_ ?_
      · rw [Lib.occAt_iff_take _ _ _ (by simp)]
        simp
      · intro j hj
        rcases ho : Lib.occAt (a ++ 32 :: b) [32] j with _ | _
        · rfl
        · exfalso
          have := Lib.occAt_head rfl ho
          rw [List.getElem?_append_left hj] at this
          exact ha (List.mem_of_getElem? this)
    unfold Lib.cut
    rw [hi, if_pos (by omega), h1, h2, decide_eq_true h]
    simp
  · have hi : Lib.index l [32] = -1 := by
      refine Lib.index_none fun j _ => ?_
      rcases ho : Lib.occAt l [32] j with _ | _
      · rfl
      · exact absurd (List.mem_of_getElem? (Lib.occAt_head rfl ho)) h
    have hall : ∀ x ∈ l, (x != 32) = true := fun x hx => by
      have : x ≠ 32 := fun e => h (by rw [← e]; exact hx)
      simpa using this
    unfold Lib.cut firstHead firstRest
    rw [hi, if_neg (by decide), decide_eq_false h, (all_kept l hall).1, (all_kept l hall).2]
    rfl
/-- the last blank of a text: none, or where it stands -/
theorem last_blank (s : ByteArray) : (Lib.lastIndexByte s 32 = -1 ∧ cutLast s.data.toList = none) ∨
    ∃ i : Nat, i < s.size ∧ Lib.lastIndexByte s 32 = i ∧ cutLast s.data.toList = some (s.data.toList.take i, s.data.toList.drop (i + 1)) := by
  have hz : s.data.toList.length = s.size := size_data s
  have hget : ∀ j, j < s.size → s.data.toList[j]? = some (s.data[j]!) := fun j hj => by
    have hj' : j < s.data.size := hj
    rw [Array.getElem?_toList, Array.getElem?_eq_getElem hj', getElem!_pos s.data j hj']
  rcases Lib.lastIndexByte_spec s 32 with ⟨h1, h2⟩ | ⟨i, hi, h1, h2, h3⟩
  · refine .inl ⟨h1, ?_⟩
    unfold cutLast
    rw [if_neg]
    intro hm
    obtain ⟨j, hj⟩ := List.mem_iff_getElem?.1 hm
    have hlt := (List.getElem?_eq_some_iff.1 hj).1
    rw [hget j (by omega)] at hj
    have := h2 j (by omega)
    rw [Option.some.inj hj] at this
    exact this rfl
  · refine .inr ⟨i, hi, h1, ?_⟩
    have hb : s.data[i]! = 32 := by
      apply UInt8.toNat_inj.1
      have : ((s.data[i]!).toNat : Int) = 32 := h2
      show (s.data[i]!).toNat = 32
      omega
    have he : s.data.toList = s.data.toList.take i ++ 32 :: s.data.toList.drop (i + 1) := by
      have h4 := List.take_append_drop i s.data.toList
      have hlt : i < s.data.toList.length := by omega
      rw [List.drop_eq_getElem_cons hlt] at h4
      have h5 := hget i hi
      rw [List.getElem?_eq_getElem hlt] at h5
      rw [Option.some.inj h5, hb] at h4
      exact h4.symm
    have hf : (32 : UInt8) ∉ s.data.toList.drop (i + 1) := by
      intro hm
      obtain ⟨j, hj⟩ := List.mem_iff_getElem?.1 hm
      rw [List.getElem?_drop] at hj
      have hlt := (List.getElem?_eq_some_iff.1 hj).1
      rw [hget _ (by omega)] at hj
      have := h3 (i + 1 + j) (by omega) (by omega)
      rw [Option.some.inj hj] at this
      exact this rfl
    have := cutLast_of (x := s.data.toList.take i) hf
    rw [← he] at this
    exact this
end Go.Proofs.YtdogilbnbbeljaaGreatDoor
