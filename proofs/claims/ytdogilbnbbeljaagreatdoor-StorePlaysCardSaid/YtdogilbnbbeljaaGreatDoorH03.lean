/-
  Events in plain Lean: which may be; an event's words and its line; the event that a line is.
-/
import Derived.Test.YtdogilbnbbeljaaGreatDoorH01
import Derived.Test.YtdogilbnbbeljaaGreatDoorH02
namespace Go.Proofs.YtdogilbnbbeljaaGreatDoor

structure Fam where
  id : Int
  client : ByteArray
  subject : ByteArray
  scope : ByteArray
  gen : Int
  made : Int
  used : Int
  request : ByteArray
  dead : Bool
structure Ev where
  kind : Int
  fam : Fam
  id : Int
  time : Int
def Fam.zero : Fam := ⟨0, ⟨#[]⟩, ⟨#[]⟩, ⟨#[]⟩, 0, 0, 0, ⟨#[]⟩, false⟩
def Ev.zero : Ev := ⟨0, Fam.zero, 0, 0⟩

def nameS : ByteArray := ⟨#[97, 98, 99, 100, 101, 102, 103, 104, 105, 106, 107, 108, 109, 110, 111, 112, 113, 114, 115, 116, 117, 118, 119, 120, 121, 122, 48, 49, 50, 51, 52, 53, 54, 55, 56, 57, 45]⟩
def nameC (c : UInt8) : Bool := nameS.data.toList.contains c
theorem nameC_iff (c : UInt8) : nameC c = (decide (97 ≤ c.toNat) && decide (c.toNat ≤ 122) || decide (48 ≤ c.toNat) && decide (c.toNat ≤ 57) || decide (c.toNat = 45)) := by
  have h : ∀ n : Fin 256, nameC (UInt8.ofFin n) = (decide (97 ≤ (UInt8.ofFin n).toNat) && decide ((UInt8.ofFin n).toNat ≤ 122) || decide (48 ≤ (UInt8.ofFin n).toNat) && decide ((UInt8.ofFin n).toNat ≤ 57) || decide ((UInt8.ofFin n).toNat = 45)) := of_decide_eq_true (by kernel_rfl)
  exact h c.toFin
/-- may a text name somebody? -/
def nameB (l : List UInt8) : Bool := decide (1 ≤ l.length) && decide (l.length ≤ 20) && l.all nameC
theorem nameB_free {l : List UInt8} (h : nameB l = true) {c : UInt8} (hc : nameC c = false) : c ∉ l := by
  intro hm
  unfold nameB at h
  rw [Bool.and_eq_true] at h
  have := List.all_eq_true.1 h.2 c hm
  rw [hc] at this
  cases this
theorem nameB_ne {l : List UInt8} (h : nameB l = true) : l ≠ [] := by
  rintro rfl
  cases h
theorem nameB_len {l : List UInt8} (h : nameB l = true) : l.length ≤ 20 := by
  unfold nameB at h
  simp only [Bool.and_eq_true, decide_eq_true_eq] at h
  exact h.1.2
/-- is a family the one that is none? -/
def Fam.isZero (f : Fam) : Bool := decide (f.id = 0) && decide (f.client.data.toList = []) && decide (f.subject.data.toList = []) && decide (f.scope.data.toList = []) && decide (f.gen = 0) && decide (f.made = 0) && decide (f.used = 0) && decide (f.request.data.toList = []) && !f.dead
theorem empty_of {s : ByteArray} (h : s.data.toList = []) : s = ⟨#[]⟩ := by rw [← txt_data s, h]; rfl
theorem Fam.isZero_iff {f : Fam} : f.isZero = true ↔ f = Fam.zero := by
  obtain ⟨a, b, c, d, e, g, h, i, j⟩ := f
  unfold Fam.isZero Fam.zero
  simp only [Bool.and_eq_true, decide_eq_true_eq, Bool.not_eq_true']
  constructor
  · rintro ⟨⟨⟨⟨⟨⟨⟨⟨rfl, h1⟩, h2⟩, h3⟩, rfl⟩, rfl⟩, rfl⟩, h4⟩, rfl⟩
    rw [empty_of h1, empty_of h2, empty_of h3, empty_of h4]
  · intro h
    simp only [Fam.mk.injEq] at h
    obtain ⟨rfl, rfl, rfl, rfl, rfl, rfl, rfl, rfl, rfl⟩ := h
    simp
def reqB (l : List UInt8) : Bool := decide (l = []) || nameB l
def scopeB (l : List UInt8) : Bool := decide (scopeN l = 0) && decide (leastL l = l)
/-- may a family be put? -/
def famB (f : Fam) : Bool := okN f.id && okN f.gen && okN f.made && okN f.used && nameB f.client.data.toList && nameB f.subject.data.toList && reqB f.request.data.toList && scopeB f.scope.data.toList
/-- may an event be? -/
def evB (e : Ev) : Bool :=
  if e.kind = 1 then decide (e.id = 0) && decide (e.time = 0) && famB e.fam
  else if e.kind = 2 then e.fam.isZero && decide (e.time = 0) && okN e.id
  else if e.kind = 3 then e.fam.isZero && decide (e.id = 0) && okN e.time
  else false
def wordL (l : List UInt8) : List UInt8 := if l = [] then [95] else l
def deadL (b : Bool) : List UInt8 := if b then [49] else [48]
def famW (f : Fam) : List (List UInt8) := [Lib.itoa f.id, f.client.data.toList, f.subject.data.toList, wordL f.scope.data.toList, Lib.itoa f.gen, Lib.itoa f.made, Lib.itoa f.used, wordL f.request.data.toList, deadL f.dead]
/-- an event's words, and its line -/
def evW (e : Ev) : List (List UInt8) := if e.kind = 2 then [[100], Lib.itoa e.id] else if e.kind = 3 then [[99], Lib.itoa e.time] else [112] :: famW e.fam
def evL (e : Ev) : List UInt8 := glue 32 (evW e)

theorem glue_free {c d : UInt8} (hcd : c ≠ d) : ∀ {ws : List (List UInt8)}, (∀ w ∈ ws, c ∉ w) → c ∉ glue d ws
  | [], _ => by simp [glue]
  | [w], h => h w (by simp)
  | w :: v :: r, h => by
    rw [glue, List.mem_append, List.mem_cons]
    have h1 := h w (by simp)
    have h2 := glue_free hcd (ws := v :: r) fun x hx => h x (List.mem_cons_of_mem _ hx)
    rintro (h3 | h3 | h3)
    · exact h1 h3
    · exact hcd h3
    · exact h2 h3
theorem okW_low {w : List UInt8} (h : okW w = true) {c : UInt8} (hc : ¬ (97 ≤ c.toNat ∧ c.toNat ≤ 122)) : c ∉ w := by
  intro hm
  simp only [okW, lowB, Bool.and_eq_true] at h
  have := List.all_eq_true.1 h.2 c hm
  simp at this
  omega
theorem scopeB_iff {l : List UInt8} : scopeB l = true ↔ scopeN l = 0 ∧ leastL l = l := by simp [scopeB]
theorem scopeB_free {l : List UInt8} (h : scopeB l = true) {c : UInt8} (h43 : c ≠ 43) (hc : ¬ (97 ≤ c.toNat ∧ c.toNat ≤ 122)) : c ∉ l := by
  rw [← (scopeB_iff.1 h).2]
  exact glue_free h43 fun w hw => okW_low (scopeL_ok hw) hc
theorem scopeB_len {l : List UInt8} (h : scopeB l = true) : l.length ≤ 45 := by
  have := leastL_len l
  rwa [(scopeB_iff.1 h).2] at this
theorem wordL_free {c : UInt8} (hc : c ≠ 95) {l : List UInt8} (h : c ∉ l) : c ∉ wordL l := by
  unfold wordL
  split
  · simpa using hc
  · exact h
theorem wordL_ne (l : List UInt8) : wordL l ≠ [] := by
  unfold wordL
  split
  · simp
  · assumption
theorem reqB_free {l : List UInt8} (h : reqB l = true) {c : UInt8} (hc : nameC c = false) : c ∉ l := by
  unfold reqB at h
  rw [Bool.or_eq_true, decide_eq_true_eq] at h
  rcases h with rfl | h
  · simp
  · exact nameB_free h hc
theorem famB_parts {f : Fam} (h : famB f = true) : okN f.id = true ∧ okN f.gen = true ∧ okN f.made = true ∧ okN f.used = true ∧ nameB f.client.data.toList = true ∧ nameB f.subject.data.toList = true ∧ reqB f.request.data.toList = true ∧ scopeB f.scope.data.toList = true := by
  unfold famB at h
  simp only [Bool.and_eq_true] at h
  obtain ⟨⟨⟨⟨⟨⟨⟨h1, h2⟩, h3⟩, h4⟩, h5⟩, h6⟩, h7⟩, h8⟩ := h
  exact ⟨h1, h2, h3, h4, h5, h6, h7, h8⟩
theorem famW_free {f : Fam} (h : famB f = true) : ∀ w ∈ famW f, (32 : UInt8) ∉ w := by
  obtain ⟨h1, h2, h3, h4, h5, h6, h7, h8⟩ := famB_parts h
  intro w hw
  simp only [famW, List.mem_cons, List.not_mem_nil, or_false] at hw
  rcases hw with rfl | rfl | rfl | rfl | rfl | rfl | rfl | rfl | rfl
  · exact itoa_free h1 (by decide)
  · exact nameB_free h5 (by decide)
  · exact nameB_free h6 (by decide)
  · exact wordL_free (by decide) (scopeB_free h8 (by decide) (by decide))
  · exact itoa_free h2 (by decide)
  · exact itoa_free h3 (by decide)
  · exact itoa_free h4 (by decide)
  · exact wordL_free (by decide) (reqB_free h7 (by decide))
  · unfold deadL; split <;> decide
theorem evW_ne (e : Ev) : evW e ≠ [] := by
  unfold evW
  split
  · simp
  · split <;> simp
theorem evB_kind {e : Ev} (h : evB e = true) : (e.kind = 1 ∧ e.id = 0 ∧ e.time = 0 ∧ famB e.fam = true) ∨ (e.kind = 2 ∧ e.fam = Fam.zero ∧ e.time = 0 ∧ okN e.id = true) ∨ (e.kind = 3 ∧ e.fam = Fam.zero ∧ e.id = 0 ∧ okN e.time = true) := by
  unfold evB at h
  split at h
  · rename_i hk
    simp only [Bool.and_eq_true, decide_eq_true_eq] at h
    exact .inl ⟨hk, h.1.1, h.1.2, h.2⟩
  · split at h
    · rename_i hk
      simp only [Bool.and_eq_true, decide_eq_true_eq, Fam.isZero_iff] at h
      exact .inr (.inl ⟨hk, h.1.1, h.1.2, h.2⟩)
    · split at h
      · rename_i hk
        simp only [Bool.and_eq_true, decide_eq_true_eq, Fam.isZero_iff] at h
        exact .inr (.inr ⟨hk, h.1.1, h.1.2, h.2⟩)
      · cases h
theorem evW_1 {e : Ev} (h : e.kind = 1) : evW e = [112] :: famW e.fam := by
  unfold evW; rw [h, if_neg (by decide), if_neg (by decide)]
theorem evW_2 {e : Ev} (h : e.kind = 2) : evW e = [[100], Lib.itoa e.id] := by
  unfold evW; rw [if_pos h]
theorem evW_3 {e : Ev} (h : e.kind = 3) : evW e = [[99], Lib.itoa e.time] := by
  unfold evW; rw [h, if_neg (by decide), if_pos rfl]
theorem evW_free {e : Ev} (h : evB e = true) : ∀ w ∈ evW e, (32 : UInt8) ∉ w := by
  intro w hw
  rcases evB_kind h with ⟨hk, _, _, hf⟩ | ⟨hk, _, _, hn⟩ | ⟨hk, _, _, hn⟩
  · rw [evW_1 hk, List.mem_cons] at hw
    rcases hw with rfl | hw
    · decide
    · exact famW_free hf w hw
  · rw [evW_2 hk] at hw
    simp only [List.mem_cons, List.not_mem_nil, or_false] at hw
    rcases hw with rfl | rfl
    · decide
    · exact itoa_free hn (by decide)
  · rw [evW_3 hk] at hw
    simp only [List.mem_cons, List.not_mem_nil, or_false] at hw
    rcases hw with rfl | rfl
    · decide
    · exact itoa_free hn (by decide)
theorem parts_evL {e : Ev} (h : evB e = true) : parts 32 (evL e) = evW e := parts_glue 32 _ (evW_ne e) (evW_free h)
theorem evL_iff {e : Ev} (h : evB e = true) {l : List UInt8} : evL e = l ↔ evW e = parts 32 l := by
  constructor
  · rintro rfl
    exact (parts_evL h).symm
  · intro he
    unfold evL
    rw [he, glue_parts]

/-- _ for none -/
def unL (l : List UInt8) : List UInt8 := if l = [95] then [] else l
/-- what the reference tries -/
def cand : List (List UInt8) → Ev
  | [_, a, b, c, d, e, f, g, h, i] => ⟨1, ⟨atoiN a, txt b, txt c, txt (unL d), atoiN e, atoiN f, atoiN g, txt (unL h), decide (i = [49])⟩, 0, 0⟩
  | [x, a] => if x = [100] then ⟨2, Fam.zero, atoiN a, 0⟩ else ⟨3, Fam.zero, 0, atoiN a⟩
  | _ => Ev.zero
/-- is a line an event's? which? -/
def readB (l : List UInt8) : Bool := evB (cand (parts 32 l)) && decide (evW (cand (parts 32 l)) = parts 32 l)
def readE (l : List UInt8) : Ev := if readB l then cand (parts 32 l) else Ev.zero
theorem readB_iff {l : List UInt8} : readB l = true ↔ evB (cand (parts 32 l)) = true ∧ evL (cand (parts 32 l)) = l := by
  unfold readB
  rw [Bool.and_eq_true, decide_eq_true_eq]
  constructor
  · rintro ⟨h1, h2⟩; exact ⟨h1, (evL_iff h1).2 h2⟩
  · rintro ⟨h1, h2⟩; exact ⟨h1, (evL_iff h1).1 h2⟩

/-- what the program's reader does: the words that are left, and whether they were not so -/
abbrev Rd := List (List UInt8) × Bool
def nextV : Rd → List UInt8
  | ([], _) => []
  | (x :: _, _) => x
def nextS : Rd → Rd
  | ([], _) => ([], true)
  | (_ :: r, b) => (r, b)
def numE (l : List UInt8) : Bool := atoiE l && decide (Lib.itoa (atoiN l) = l)
def numV (s : Rd) : Int := atoiN (nextV s)
def numS (s : Rd) : Rd := ((nextS s).1, (nextS s).2 || !numE (nextV s))
def textV (s : Rd) : List UInt8 := unL (nextV s)
def textS (s : Rd) : Rd := ((nextS s).1, (nextS s).2 || decide (nextV s = []))

/-- the family that the reader reads: what it is, and what is left -/
def famV (s : Rd) : Fam :=
  let s1 := numS s; let s2 := textS s1; let s3 := textS s2; let s4 := textS s3; let s5 := numS s4; let s6 := numS s5; let s7 := numS s6; let s8 := textS s7
  ⟨numV s, txt (textV s1), txt (textV s2), txt (textV s3), numV s4, numV s5, numV s6, txt (textV s7), decide (nextV s8 = [49])⟩
def famS (s : Rd) : Rd :=
  let s8 := textS (numS (numS (numS (textS (textS (textS (numS s)))))))
  ((nextS s8).1, (nextS s8).2 || (!decide (nextV s8 = [48]) && !decide (nextV s8 = [49])))
/-- the event that the program reads, and what is left -/
def progE (s : Rd) : Ev × Rd :=
  if nextV s = [112] then (⟨1, famV (nextS s), 0, 0⟩, famS (nextS s))
  else if nextV s = [100] then (⟨2, Fam.zero, numV (nextS s), 0⟩, numS (nextS s))
  else if nextV s = [99] then (⟨3, Fam.zero, 0, numV (nextS s)⟩, numS (nextS s))
  else (Ev.zero, ((nextS s).1, true))
/-- does the program take it? -/
def progB (s : Rd) : Bool := !(progE s).2.2 && decide ((progE s).2.1 = []) && evB (progE s).1
theorem evB_zero : evB Ev.zero = false := by decide
theorem evB_one {f : Fam} : evB ⟨1, f, 0, 0⟩ = famB f := by simp [evB]
theorem evB_two {n : Int} : evB ⟨2, Fam.zero, n, 0⟩ = okN n := by
  have := (Fam.isZero_iff (f := Fam.zero)).2 rfl
  simp [evB, this]
theorem evB_three {n : Int} : evB ⟨3, Fam.zero, 0, n⟩ = okN n := by
  have := (Fam.isZero_iff (f := Fam.zero)).2 rfl
  simp [evB, this]
theorem numE_of {l : List UInt8} (h : okN (atoiN l) = true) : numE l = decide (Lib.itoa (atoiN l) = l) := by
  unfold numE
  by_cases e : Lib.itoa (atoiN l) = l
  · have : atoiE l = true := by rw [← e]; exact atoiE_itoa h
    rw [this, Bool.true_and]
  · simp [e]
theorem okN_numE {l : List UInt8} : (okN (atoiN l) && numE l) = (okN (atoiN l) && decide (Lib.itoa (atoiN l) = l)) := by
  cases h : okN (atoiN l)
  · rfl
  · rw [numE_of h]
theorem nameB_un {l : List UInt8} : nameB (unL l) = nameB l := by
  unfold unL
  split
  · rename_i h
    subst h
    decide
  · rfl
end Go.Proofs.YtdogilbnbbeljaaGreatDoor

/-
  Families and events as values.
-/
namespace Go.Proofs.YtdogilbnbbeljaaGreatDoor
open Go.RowKit Go.Sort

def famCs (f : Fam) : Array Value := #[.int .i64 f.id, .string f.client, .string f.subject, .string f.scope, .int .i64 f.gen, .int .i64 f.made, .int .i64 f.used, .string f.request, .bool f.dead]
def evCs (e : Ev) : Array Value := #[.int .i64 e.kind, .int .i64 e.fam.id, .string e.fam.client, .string e.fam.subject, .string e.fam.scope, .int .i64 e.fam.gen, .int .i64 e.fam.made, .int .i64 e.fam.used, .string e.fam.request, .bool e.fam.dead, .int .i64 e.id, .int .i64 e.time]
def famVal (f : Fam) : Value := .agg (famCs f)
def evVal (e : Ev) : Value := .agg (evCs e)
/-- a family's texts are short -/
def Fam.short (f : Fam) (n : Nat) : Prop := f.client.size ≤ n ∧ f.subject.size ≤ n ∧ f.scope.size ≤ n ∧ f.request.size ≤ n
theorem fam_cells {w : World} {g : Nat} {T : TypeId} {i : Int} {cl su sc : ByteArray} {ge ma us : Int} {re : ByteArray} {de : Bool} (h : Blk w g T (famCs ⟨i, cl, su, sc, ge, ma, us, re, de⟩)) :
    w.cell? ⟨g, 0, none⟩ = some (.int .i64 i) ∧ w.cell? ⟨g, 1, none⟩ = some (.string cl) ∧ w.cell? ⟨g, 2, none⟩ = some (.string su) ∧ w.cell? ⟨g, 3, none⟩ = some (.string sc) ∧ w.cell? ⟨g, 4, none⟩ = some (.int .i64 ge) ∧
    w.cell? ⟨g, 5, none⟩ = some (.int .i64 ma) ∧ w.cell? ⟨g, 6, none⟩ = some (.int .i64 us) ∧ w.cell? ⟨g, 7, none⟩ = some (.string re) ∧ w.cell? ⟨g, 8, none⟩ = some (.bool de) :=
  ⟨h.cell 0, h.cell 1, h.cell 2, h.cell 3, h.cell 4, h.cell 5, h.cell 6, h.cell 7, h.cell 8⟩
theorem ev_cells {w : World} {g : Nat} {T : TypeId} {k i : Int} {cl su sc : ByteArray} {ge ma us : Int} {re : ByteArray} {de : Bool} {id ti : Int} (h : Blk w g T (evCs ⟨k, ⟨i, cl, su, sc, ge, ma, us, re, de⟩, id, ti⟩)) :
    w.cell? ⟨g, 0, none⟩ = some (.int .i64 k) ∧ w.cell? ⟨g, 1, none⟩ = some (.int .i64 i) ∧ w.cell? ⟨g, 2, none⟩ = some (.string cl) ∧ w.cell? ⟨g, 3, none⟩ = some (.string su) ∧ w.cell? ⟨g, 4, none⟩ = some (.string sc) ∧ w.cell? ⟨g, 5, none⟩ = some (.int .i64 ge) ∧
    w.cell? ⟨g, 6, none⟩ = some (.int .i64 ma) ∧ w.cell? ⟨g, 7, none⟩ = some (.int .i64 us) ∧ w.cell? ⟨g, 8, none⟩ = some (.string re) ∧ w.cell? ⟨g, 9, none⟩ = some (.bool de) ∧ w.cell? ⟨g, 10, none⟩ = some (.int .i64 id) ∧ w.cell? ⟨g, 11, none⟩ = some (.int .i64 ti) :=
  ⟨h.cell 0, h.cell 1, h.cell 2, h.cell 3, h.cell 4, h.cell 5, h.cell 6, h.cell 7, h.cell 8, h.cell 9, h.cell 10, h.cell 11⟩
/-- numbers that lie in a block from its first cell on -/
def IntsAt (w : World) (g : Nat) (L : List Int) : Prop := ∀ j, j < L.length → w.cell? ⟨g, j, none⟩ = some (.int .i64 (L.getD j 0))
theorem IntsAt.drewN {w : World} {g : Nat} {L : List Int} (h : IntsAt w g L) (q : Nat) : IntsAt (w.drewN q) g L := h

/-- what the reference's May knows while it runs: the blocks of the event and of its family -/
structure MR (T : TypeId) (W : World) (e : Ev) (w : World) : Prop where
  below : Below W.heap.size W w
  ev : Blk w W.heap.size T (evCs e)
  fam : Blk w (W.heap.size + 1) 40 (famCs e.fam)
theorem MR.keep {T : TypeId} {W w w' : World} {e : Ev} (h : MR T W e w) (hb : Below w.heap.size w w') : MR T W e w' :=
  ⟨below_2 h.below hb, h.ev.below' hb, h.fam.below' hb⟩
theorem MR.start {T : TypeId} {W : World} (e : Ev) : MR T W e ((W.alloc (.cells (evCs e) T)).alloc (.cells (famCs e.fam) 40)) := by
  have hb : Below W.heap.size W ((W.alloc (.cells (evCs e) T)).alloc (.cells (famCs e.fam) 40)) := ((Below.refl _ _).alloc (Nat.le_refl _) _).alloc (by simp) _
  refine ⟨hb, (Blk.new W _ _).alloc _, ?_⟩
  have := Blk.new (W.alloc (.cells (evCs e) T)) 40 (famCs e.fam)
  simpa using this
theorem MR.cells {T : TypeId} {W w : World} {k i : Int} {cl su sc : ByteArray} {ge ma us : Int} {re : ByteArray} {de : Bool} {id ti : Int} (h : MR T W ⟨k, ⟨i, cl, su, sc, ge, ma, us, re, de⟩, id, ti⟩ w) :
    w.cell? ⟨W.heap.size, 0, none⟩ = some (.int .i64 k) ∧ w.cell? ⟨W.heap.size, 10, none⟩ = some (.int .i64 id) ∧ w.cell? ⟨W.heap.size, 11, none⟩ = some (.int .i64 ti) ∧
    w.cell? ⟨W.heap.size + 1, 0, none⟩ = some (.int .i64 i) ∧ w.cell? ⟨W.heap.size + 1, 1, none⟩ = some (.string cl) ∧ w.cell? ⟨W.heap.size + 1, 2, none⟩ = some (.string su) ∧ w.cell? ⟨W.heap.size + 1, 3, none⟩ = some (.string sc) ∧ w.cell? ⟨W.heap.size + 1, 4, none⟩ = some (.int .i64 ge) ∧
    w.cell? ⟨W.heap.size + 1, 5, none⟩ = some (.int .i64 ma) ∧ w.cell? ⟨W.heap.size + 1, 6, none⟩ = some (.int .i64 us) ∧ w.cell? ⟨W.heap.size + 1, 7, none⟩ = some (.string re) ∧ w.cell? ⟨W.heap.size + 1, 8, none⟩ = some (.bool de) :=
  ⟨h.ev.cell 0, h.ev.cell 10, h.ev.cell 11, h.fam.cell 0, h.fam.cell 1, h.fam.cell 2, h.fam.cell 3, h.fam.cell 4, h.fam.cell 5, h.fam.cell 6, h.fam.cell 7, h.fam.cell 8⟩
theorem four_ok (a b c d : Int) : [a, b, c, d].all okN = (okN a && okN b && okN c && okN d) := by simp [Bool.and_assoc]
theorem ints_new (w : World) (T : TypeId) (L : List Int) : IntsAt (w.alloc (.cells (L.map fun x => Value.int .i64 x).toArray T)) w.heap.size L := by
  intro j hj
  have h := (Blk.new w T (L.map fun x => Value.int .i64 x).toArray).cell j
  rw [h]
  simp [hj]
theorem empty_list {s : ByteArray} : s.toList.isEmpty = decide (s.data.toList = []) := by
  rw [ByteArray.toList_eq]
  cases s.data.toList <;> simp
theorem scope_eq (x s : ByteArray) (l : List UInt8) (hx : x = txt l) : (x.toList == s.toList) = decide (l = s.data.toList) := by
  rw [hx, toList_txt, ByteArray.toList_eq, Bool.eq_iff_iff]
  simp

/-- the sizes of a family's texts -/
def Fam.len (f : Fam) : Nat := f.client.size + f.subject.size + f.scope.size + f.request.size
theorem Fam.short_of {f : Fam} {n : Nat} (h : f.len ≤ n) : f.short n := by
  unfold Fam.len at h
  exact ⟨by omega, by omega, by omega, by omega⟩

theorem one_ok (a : Int) : [a].all okN = okN a := by simp
theorem alloc2 (W : World) (o o' : Obj) : Below W.heap.size W ((W.alloc o).alloc o') := ((Below.refl _ _).alloc (Nat.le_refl _) _).alloc (by simp) _
theorem isZero_list (f : Fam) : f.isZero = (decide (f.id = 0) && decide (f.client.toList = []) && decide (f.subject.toList = []) && decide (f.scope.toList = []) && decide (f.gen = 0) && decide (f.made = 0) && decide (f.used = 0) && decide (f.request.toList = []) && !f.dead) := by
  unfold Fam.isZero
  rw [ByteArray.toList_eq, ByteArray.toList_eq, ByteArray.toList_eq, ByteArray.toList_eq]
theorem alloc3 {W w : World} (o o' o'' : Obj) (h : Below (((W.alloc o).alloc o').alloc o'').heap.size (((W.alloc o).alloc o').alloc o'') w) : Below W.heap.size W w :=
  below_2 ((alloc2 W o o').alloc (by simp; omega) o'') h
theorem zero_of {i ge ma us : Int} {cl su sc re : ByteArray} {de : Bool} (h1 : i = 0) (h2 : cl.toList = []) (h3 : su.toList = []) (h4 : sc.toList = []) (h5 : ge = 0) (h6 : ma = 0) (h7 : us = 0) (h8 : re.toList = []) (h9 : ¬ de = true)
    (h : Fam.isZero ⟨i, cl, su, sc, ge, ma, us, re, de⟩ = false) : False := by
  rw [isZero_list] at h
  have h9' : de = false := by simpa using h9
  dsimp only at h
  rw [h2, h3, h4, h8, h1, h5, h6, h7, h9'] at h
  simp at h
theorem ints_2 (W : World) (o o' : Obj) (T : TypeId) (b : Int) : IntsAt (((W.alloc o).alloc o').alloc (.cells #[.int .i64 b] T)) (W.heap.size + 1 + 1) [b] := by
  have h := ints_new ((W.alloc o).alloc o') T [b]
  simpa using h
/-- the two kinds of one number: what is to be none, and the number -/
theorem right_num (T : Int) (a b : Int) (e : Ev) (hk : e.kind = T) (h : (T = 2 ∧ a = e.time ∧ b = e.id) ∨ (T = 3 ∧ a = e.id ∧ b = e.time)) : evB e = (e.fam.isZero && decide (a = 0) && okN b) := by
  rcases h with ⟨rfl, rfl, rfl⟩ | ⟨rfl, rfl, rfl⟩
  · unfold evB; rw [hk, if_neg (by decide), if_pos rfl]
  · unfold evB; rw [hk, if_neg (by decide), if_neg (by decide), if_pos rfl]
theorem ints_at {L : List Int} {k : Nat} (hk : k < L.length) (h : okN (L.getD k 0) = false) : L.all okN = false := by
  rw [List.all_eq_false]
  refine ⟨L[k], List.getElem_mem hk, ?_⟩
  simpa [List.getD, hk] using h
theorem ints_all {L : List Int} (h : ∀ j, j < L.length → okN (L.getD j 0) = true) : L.all okN = true := by
  rw [List.all_eq_true]
  intro x hx
  obtain ⟨j, hj, rfl⟩ := List.mem_iff_getElem.1 hx
  have := h j hj
  simpa [List.getD, hj] using this
end Go.Proofs.YtdogilbnbbeljaaGreatDoor

/-
  An event that comes in, opened: its twelve cells; its texts' sizes.
-/
namespace Go.Proofs.YtdogilbnbbeljaaGreatDoor
open Go.ChangeShapes Go.WideShapes Go.ChangeAt Go.RowKit Go.Deep

theorem array12 {α : Type} {cs : Array α} (h : cs.size = 12) : ∃ c0 c1 c2 c3 c4 c5 c6 c7 c8 c9 c10 c11, cs = #[c0, c1, c2, c3, c4, c5, c6, c7, c8, c9, c10, c11] := by
  obtain ⟨l⟩ := cs
  match l, h with
  | [c0, c1, c2, c3, c4, c5, c6, c7, c8, c9, c10, c11], _ => exact ⟨c0, c1, c2, c3, c4, c5, c6, c7, c8, c9, c10, c11, rfl⟩
theorem list4 {α : Type} {l : List α} (h : l.length = 4) : ∃ a b c d, l = [a, b, c, d] := by
  match l, h with
  | [a, b, c, d], _ => exact ⟨a, b, c, d, rfl⟩
theorem list9 {α : Type} {l : List α} (h : l.length = 9) : ∃ a b c d e f g i j, l = [a, b, c, d, e, f, g, i, j] := by
  match l, h with
  | [a, b, c, d, e, f, g, i, j], _ => exact ⟨a, b, c, d, e, f, g, i, j, rfl⟩
theorem cells_int : Tryz.prog.cellsOf 3 = 1 := by kernel_rfl
theorem cells_str : Tryz.prog.cellsOf 9 = 1 := by kernel_rfl
theorem cells_bool : Tryz.prog.cellsOf 4 = 1 := by kernel_rfl
theorem cells_fam : Tryz.prog.cellsOf 40 = 9 := by kernel_rfl
theorem cells_ev : Tryz.prog.cellsOf 42 = 12 := by kernel_rfl

/-- the datum of a family, of an event -/
def famT {H : Type} (f : Fam) : DataW H := .agg [.lit (.int .i64 f.id), .lit (.string f.client.data.toList), .lit (.string f.subject.data.toList), .lit (.string f.scope.data.toList), .lit (.int .i64 f.gen), .lit (.int .i64 f.made), .lit (.int .i64 f.used), .lit (.string f.request.data.toList), .lit (.bool f.dead)]
def evD {H : Type} (e : Ev) : DataW H := .agg [.lit (.int .i64 e.kind), famT e.fam, .lit (.int .i64 e.id), .lit (.int .i64 e.time)]

section
variable {H : Type} {enc : TypeId × Value → H} {W : World} {base : Nat} {spare : Nat → Bool} {held : Bool}
set_option maxRecDepth 100000 in
theorem fam_trod {fuel : Nat} {c0 c1 c2 c3 c4 c5 c6 c7 c8 : Value} {y : DataW H × List MemPlace} (h : DataW.trod enc Tryz.prog W base spare held fuel 40 [c0, c1, c2, c3, c4, c5, c6, c7, c8] = some y) :
    ∃ f : Fam, [c0, c1, c2, c3, c4, c5, c6, c7, c8] = (famCs f).toList ∧ y = (famT f, []) := by
  obtain ⟨xs, n, _, hx, _, hlen, hf⟩ := DataW.trod_struct Tryz.underlying40 h
  obtain ⟨y0, y1, y2, y3, y4, y5, y6, y7, y8, rfl⟩ := list9 hlen
  have k0 := hf 0 _ rfl
  have k1 := hf 1 _ rfl
  have k2 := hf 2 _ rfl
  have k3 := hf 3 _ rfl
  have k4 := hf 4 _ rfl
  have k5 := hf 5 _ rfl
  have k6 := hf 6 _ rfl
  have k7 := hf 7 _ rfl
  have k8 := hf 8 _ rfl
  simp only [List.getElem_toArray, List.getElem_cons_zero, List.getElem_cons_succ] at k0 k1 k2 k3 k4 k5 k6 k7 k8
  rw [cells_int] at k0 k4 k5 k6
  rw [cells_str] at k1 k2 k3 k7
  rw [cells_bool] at k8
  obtain ⟨a0, e0, rfl, _⟩ := DataW.trod_int Tryz.underlying3 k0
  obtain ⟨a1, e1, rfl, _⟩ := DataW.trod_string Tryz.underlying9 k1
  obtain ⟨a2, e2, rfl, _⟩ := DataW.trod_string Tryz.underlying9 k2
  obtain ⟨a3, e3, rfl, _⟩ := DataW.trod_string Tryz.underlying9 k3
  obtain ⟨a4, e4, rfl, _⟩ := DataW.trod_int Tryz.underlying3 k4
  obtain ⟨a5, e5, rfl, _⟩ := DataW.trod_int Tryz.underlying3 k5
  obtain ⟨a6, e6, rfl, _⟩ := DataW.trod_int Tryz.underlying3 k6
  obtain ⟨a7, e7, rfl, _⟩ := DataW.trod_string Tryz.underlying9 k7
  obtain ⟨a8, e8, rfl⟩ := DataW.trod_bool Tryz.underlying4 k8
  simp only [List.drop, List.take, List.cons.injEq, and_true] at e0 e1 e2 e3 e4 e5 e6 e7 e8
  subst e0 e1 e2 e3 e4 e5 e6 e7 e8
  exact ⟨⟨a0, a1, a2, a3, a4, a5, a6, a7, a8⟩, rfl, by rw [hx]; rfl⟩
set_option maxRecDepth 100000 in
theorem ev_trod {fuel : Nat} {c0 c1 c2 c3 c4 c5 c6 c7 c8 c9 c10 c11 : Value} {y : DataW H × List MemPlace} (h : DataW.trod enc Tryz.prog W base spare held fuel 42 [c0, c1, c2, c3, c4, c5, c6, c7, c8, c9, c10, c11] = some y) :
    ∃ e : Ev, [c0, c1, c2, c3, c4, c5, c6, c7, c8, c9, c10, c11] = (evCs e).toList ∧ y = (evD e, []) := by
  obtain ⟨xs, n, _, hx, _, hlen, hf⟩ := DataW.trod_struct Tryz.underlying42 h
  obtain ⟨y0, y1, y2, y3, rfl⟩ := list4 hlen
  have k0 := hf 0 _ rfl
  have k1 := hf 1 _ rfl
  have k2 := hf 2 _ rfl
  have k3 := hf 3 _ rfl
  simp only [List.getElem_toArray, List.getElem_cons_zero, List.getElem_cons_succ] at k0 k1 k2 k3
  rw [cells_int] at k0 k2 k3
  rw [cells_fam] at k1
  obtain ⟨a0, e0, rfl, _⟩ := DataW.trod_int Tryz.underlying3 k0
  obtain ⟨f, e1, rfl⟩ := fam_trod k1
  obtain ⟨a2, e2, rfl, _⟩ := DataW.trod_int Tryz.underlying3 k2
  obtain ⟨a3, e3, rfl, _⟩ := DataW.trod_int Tryz.underlying3 k3
  simp only [List.drop, List.take, List.cons.injEq, and_true] at e0 e2 e3
  simp only [famCs, List.cons.injEq, and_true] at e1
  obtain ⟨g1, g2, g3, g4, g5, g6, g7, g8, g9⟩ := e1
  refine ⟨⟨a0, f, a2, a3⟩, ?_, by rw [hx]; rfl⟩
  subst e0 e2 e3 g1 g2 g3 g4 g5 g6 g7 g8 g9
  rfl
set_option maxRecDepth 100000 in
theorem ev_open {r : Reach} {b0 : Nat} {v : Value} {d : DataW H} {p : List MemPlace} (hv : Value.okWide Tryz.prog W r b0 42 v) (h : DataW.Trod enc Tryz.prog W base spare held 42 v d p) :
    ∃ e : Ev, v = evVal e ∧ d = evD e ∧ p = [] := by
  obtain ⟨cs, rfl, hsz⟩ := okWide_struct Tryz.underlying42 hv
  obtain ⟨c0, c1, c2, c3, c4, c5, c6, c7, c8, c9, c10, c11, rfl⟩ := array12 (hsz.trans cells_ev)
  obtain ⟨fuel, h⟩ := h
  obtain ⟨e, he, hy⟩ := ev_trod h
  simp only [Prod.mk.injEq] at hy
  refine ⟨e, ?_, hy.1, hy.2⟩
  unfold evVal
  congr 1
  exact Array.toList_inj.1 he
end
theorem list12 {α : Type} {l : List α} (h : l.length = 12) : ∃ a b c d e f g i j k m n, l = [a, b, c, d, e, f, g, i, j, k, m, n] := by
  match l, h with
  | [a, b, c, d, e, f, g, i, j, k, m, n], _ => exact ⟨a, b, c, d, e, f, g, i, j, k, m, n, rfl⟩
theorem ev_reach {H : Type} {e : Ev} {ts : List TypeId} {ds : List (DataW H)} {j : Nat} (hwt : (DataW.weightsEach Tryz.prog ts ds).all (· ≤ reachBytes) = true) (hts : ts[j]? = some 42) (hds : ds[j]? = some (evD e)) : e.fam.len ≤ 1000000000000000 := by
  have h := DataW.weights_mem_each (P := Tryz.prog) hts hds
  have hw : ∀ n ∈ (evD e : DataW H).weights Tryz.prog 42, n ≤ reachBytes := fun n hn => by
    have := List.all_eq_true.1 hwt n (h n hn)
    simpa using this
  have e1 : (evD e : DataW H).weights Tryz.prog 42 = [e.fam.client.data.toList.length, e.fam.subject.data.toList.length, e.fam.scope.data.toList.length, e.fam.request.data.toList.length] := by
    unfold evD famT
    simp only [DataW.weights, Tryz.underlying42, Tryz.underlying40, DataW.weightsEach, List.map_cons, List.map_nil, List.append_nil, List.nil_append, List.cons_append]
  rw [e1] at hw
  simp only [size_data] at hw
  have b1 := hw e.fam.client.size (by simp)
  have b2 := hw e.fam.subject.size (by simp)
  have b3 := hw e.fam.scope.size (by simp)
  have b4 := hw e.fam.request.size (by simp)
  have := reachBytes_lt
  unfold Fam.len
  omega
end Go.Proofs.YtdogilbnbbeljaaGreatDoor
