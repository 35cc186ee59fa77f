/-
  Events in plain Lean: which may be; an event's words and its line; the event that a line is.
-/
import Derived.Test.YtklpmoimckblcaaGreatDoorNum
import Derived.Test.YtklpmoimckblcaaGreatDoorScopePure
import Derived.Test.YtklpmoimckblcaaGreatDoorStrs
namespace Go.Proofs.YtklpmoimckblcaaGreatDoor

structure Fam where
  id : Int
  client : ByteArray
  subject : ByteArray
  scope : ByteArray
  gen : Int
  made : Int
  used : Int
  request : ByteArray
  dead : Bool
structure Ev where
  kind : Int
  fam : Fam
  id : Int
  time : Int
def Fam.zero : Fam := ⟨0, ⟨#[]⟩, ⟨#[]⟩, ⟨#[]⟩, 0, 0, 0, ⟨#[]⟩, false⟩
def Ev.zero : Ev := ⟨0, Fam.zero, 0, 0⟩

def nameS : ByteArray := ⟨#[97, 98, 99, 100, 101, 102, 103, 104, 105, 106, 107, 108, 109, 110, 111, 112, 113, 114, 115, 116, 117, 118, 119, 120, 121, 122, 48, 49, 50, 51, 52, 53, 54, 55, 56, 57, 45]⟩
def nameC (c : UInt8) : Bool := nameS.data.toList.contains c
theorem nameC_iff (c : UInt8) : nameC c = (decide (97 ≤ c.toNat) && decide (c.toNat ≤ 122) || decide (48 ≤ c.toNat) && decide (c.toNat ≤ 57) || decide (c.toNat = 45)) := by
  have h : ∀ n : Fin 256, nameC (UInt8.ofFin n) = (decide (97 ≤ (UInt8.ofFin n).toNat) && decide ((UInt8.ofFin n).toNat ≤ 122) || decide (48 ≤ (UInt8.ofFin n).toNat) && decide ((UInt8.ofFin n).toNat ≤ 57) || decide ((UInt8.ofFin n).toNat = 45)) := of_decide_eq_true (by kernel_rfl)
  exact h c.toFin
/-- may a text name somebody? -/
def nameB (l : List UInt8) : Bool := decide (1 ≤ l.length) && decide (l.length ≤ 20) && l.all nameC
theorem nameB_free {l : List UInt8} (h : nameB l = true) {c : UInt8} (hc : nameC c = false) : c ∉ l := by
  intro hm
  unfold nameB at h
  rw [Bool.and_eq_true] at h
  have := List.all_eq_true.1 h.2 c hm
  rw [hc] at this
  cases this
theorem nameB_ne {l : List UInt8} (h : nameB l = true) : l ≠ [] := by
  rintro rfl
  cases h
theorem nameB_len {l : List UInt8} (h : nameB l = true) : l.length ≤ 20 := by
  unfold nameB at h
  simp only [Bool.and_eq_true, decide_eq_true_eq] at h
  exact h.1.2
/-- is a family the one that is none? -/
def Fam.isZero (f : Fam) : Bool := decide (f.id = 0) && decide (f.client.data.toList = []) && decide (f.subject.data.toList = []) && decide (f.scope.data.toList = []) && decide (f.gen = 0) && decide (f.made = 0) && decide (f.used = 0) && decide (f.request.data.toList = []) && !f.dead
theorem empty_of {s : ByteArray} (h : s.data.toList = []) : s = ⟨#[]⟩ := by rw [← txt_data s, h]; rfl
theorem Fam.isZero_iff {f : Fam} : f.isZero = true ↔ f = Fam.zero := by
  obtain ⟨a, b, c, d, e, g, h, i, j⟩ := f
  unfold Fam.isZero Fam.zero
  simp only [Bool.and_eq_true, decide_eq_true_eq, Bool.not_eq_true']
  constructor
  · rintro ⟨⟨⟨⟨⟨⟨⟨⟨rfl, h1⟩, h2⟩, h3⟩, rfl⟩, rfl⟩, rfl⟩, h4⟩, rfl⟩
    rw [empty_of h1, empty_of h2, empty_of h3, empty_of h4]
  · intro h
    simp only [Fam.mk.injEq] at h
    obtain ⟨rfl, rfl, rfl, rfl, rfl, rfl, rfl, rfl, rfl⟩ := h
    simp
def reqB (l : List UInt8) : Bool := decide (l = []) || nameB l
def scopeB (l : List UInt8) : Bool := decide (scopeN l = 0) && decide (leastL l = l)
/-- may a family be put? -/
def famB (f : Fam) : Bool := okN f.id && okN f.gen && okN f.made && okN f.used && nameB f.client.data.toList && nameB f.subject.data.toList && reqB f.request.data.toList && scopeB f.scope.data.toList
/-- may an event be? -/
def evB (e : Ev) : Bool :=
  if e.kind = 1 then decide (e.id = 0) && decide (e.time = 0) && famB e.fam
  else if e.kind = 2 then e.fam.isZero && decide (e.time = 0) && okN e.id
  else if e.kind = 3 then e.fam.isZero && decide (e.id = 0) && okN e.time
  else false
def wordL (l : List UInt8) : List UInt8 := if l = [] then [95] else l
def deadL (b : Bool) : List UInt8 := if b then [49] else [48]
def famW (f : Fam) : List (List UInt8) := [Lib.itoa f.id, f.client.data.toList, f.subject.data.toList, wordL f.scope.data.toList, Lib.itoa f.gen, Lib.itoa f.made, Lib.itoa f.used, wordL f.request.data.toList, deadL f.dead]
/-- an event's words, and its line -/
def evW (e : Ev) : List (List UInt8) := if e.kind = 2 then [[100], Lib.itoa e.id] else if e.kind = 3 then [[99], Lib.itoa e.time] else [112] :: famW e.fam
def evL (e : Ev) : List UInt8 := glue 32 (evW e)

theorem glue_free {c d : UInt8} (hcd : c ≠ d) : ∀ {ws : List (List UInt8)}, (∀ w ∈ ws, c ∉ w) → c ∉ glue d ws
  | [], _ => by simp [glue]
  | [w], h => h w (by simp)
  | w :: v :: r, h => by
    rw [glue, List.mem_append, List.mem_cons]
    have h1 := h w (by simp)
    have h2 := glue_free hcd (ws := v :: r) fun x hx => h x (List.mem_cons_of_mem _ hx)
    rintro (h3 | h3 | h3)
    · exact h1 h3
    · exact hcd h3
    · exact h2 h3
theorem okW_low {w : List UInt8} (h : okW w = true) {c : UInt8} (hc : ¬ (97 ≤ c.toNat ∧ c.toNat ≤ 122)) : c ∉ w := by
  intro hm
  simp only [okW, lowB, Bool.and_eq_true] at h
  have := List.all_eq_true.1 h.2 c hm
  simp at this
  omega
theorem scopeB_iff {l : List UInt8} : scopeB l = true ↔ scopeN l = 0 ∧ leastL l = l := by simp [scopeB]
theorem scopeB_free {l : List UInt8} (h : scopeB l = true) {c : UInt8} (h43 : c ≠ 43) (hc : ¬ (97 ≤ c.toNat ∧ c.toNat ≤ 122)) : c ∉ l := by
  rw [← (scopeB_iff.1 h).2]
  exact glue_free h43 fun w hw => okW_low (scopeL_ok hw) hc
theorem scopeB_len {l : List UInt8} (h : scopeB l = true) : l.length ≤ 45 := by
  have := leastL_len l
  rwa [(scopeB_iff.1 h).2] at this
theorem wordL_free {c : UInt8} (hc : c ≠ 95) {l : List UInt8} (h : c ∉ l) : c ∉ wordL l := by
  unfold wordL
  split
  · simpa using hc
  · exact h
theorem wordL_ne (l : List UInt8) : wordL l ≠ [] := by
  unfold wordL
  split
  · simp
  · assumption
theorem reqB_free {l : List UInt8} (h : reqB l = true) {c : UInt8} (hc : nameC c = false) : c ∉ l := by
  unfold reqB at h
  rw [Bool.or_eq_true, decide_eq_true_eq] at h
  rcases h with rfl | h
  · simp
  · exact nameB_free h hc
theorem famB_parts {f : Fam} (h : famB f = true) : okN f.id = true ∧ okN f.gen = true ∧ okN f.made = true ∧ okN f.used = true ∧ nameB f.client.data.toList = true ∧ nameB f.subject.data.toList = true ∧ reqB f.request.data.toList = true ∧ scopeB f.scope.data.toList = true := by
  unfold famB at h
  simp only [Bool.and_eq_true] at h
  obtain ⟨⟨⟨⟨⟨⟨⟨h1, h2⟩, h3⟩, h4⟩, h5⟩, h6⟩, h7⟩, h8⟩ := h
  exact ⟨h1, h2, h3, h4, h5, h6, h7, h8⟩
theorem famW_free {f : Fam} (h : famB f = true) : ∀ w ∈ famW f, (32 : UInt8) ∉ w := by
  obtain ⟨h1, h2, h3, h4, h5, h6, h7, h8⟩ := famB_parts h
  intro w hw
  simp only [famW, List.mem_cons, List.not_mem_nil, or_false] at hw
  rcases hw with rfl | rfl | rfl | rfl | rfl | rfl | rfl | rfl | rfl
  · exact itoa_free h1 (by decide)
  · exact nameB_free h5 (by decide)
  · exact nameB_free h6 (by decide)
  · exact wordL_free (by decide) (scopeB_free h8 (by decide) (by decide))
  · exact itoa_free h2 (by decide)
  · exact itoa_free h3 (by decide)
  · exact itoa_free h4 (by decide)
  · exact wordL_free (by decide) (reqB_free h7 (by decide))
  · unfold deadL; split <;> decide
theorem evW_ne (e : Ev) : evW e ≠ [] := by
  unfold evW
  split
  · simp
  · split <;> simp
theorem evB_kind {e : Ev} (h : evB e = true) : (e.kind = 1 ∧ e.id = 0 ∧ e.time = 0 ∧ famB e.fam = true) ∨ (e.kind = 2 ∧ e.fam = Fam.zero ∧ e.time = 0 ∧ okN e.id = true) ∨ (e.kind = 3 ∧ e.fam = Fam.zero ∧ e.id = 0 ∧ okN e.time = true) := by
  unfold evB at h
  split at h
  · rename_i hk
    simp only [Bool.and_eq_true, decide_eq_true_eq] at h
    exact .inl ⟨hk, h.1.1, h.1.2, h.2⟩
  · split at h
    · rename_i hk
      simp only [Bool.and_eq_true, decide_eq_true_eq, Fam.isZero_iff] at h
      exact .inr (.inl ⟨hk, h.1.1, h.1.2, h.2⟩)
    · split at h
      · rename_i hk
        simp only [Bool.and_eq_true, decide_eq_true_eq, Fam.isZero_iff] at h
        exact .inr (.inr ⟨hk, h.1.1, h.1.2, h.2⟩)
      · cases h
theorem evW_1 {e : Ev} (h : e.kind = 1) : evW e = [112] :: famW e.fam := by
  unfold evW; rw [h, if_neg (by decide), if_neg (by decide)]
theorem evW_2 {e : Ev} (h : e.kind = 2) : evW e = [[100], Lib.itoa e.id] := by
  unfold evW; rw [if_pos h]
theorem evW_3 {e : Ev} (h : e.kind = 3) : evW e = [[99], Lib.itoa e.time] := by
  unfold evW; rw [h, if_neg (by decide), if_pos rfl]
theorem evW_free {e : Ev} (h : evB e = true) : ∀ w ∈ evW e, (32 : UInt8) ∉ w := by
  intro w hw
  rcases evB_kind h with ⟨hk, _, _, hf⟩ | ⟨hk, _, _, hn⟩ | ⟨hk, _, _, hn⟩
  · rw [evW_1 hk, List.mem_cons] at hw
    rcases hw with rfl | hw
    · decide
    · exact famW_free hf w hw
  · rw [evW_2 hk] at hw
    simp only [List.mem_cons, List.not_mem_nil, or_false] at hw
    rcases hw with rfl | rfl
    · decide
    · exact itoa_free hn (by decide)
  · rw [evW_3 hk] at hw
    simp only [List.mem_cons, List.not_mem_nil, or_false] at hw
    rcases hw with rfl | rfl
    · decide
    · exact itoa_free hn (by decide)
theorem parts_evL {e : Ev} (h : evB e = true) : parts 32 (evL e) = evW e := parts_glue 32 _ (evW_ne e) (evW_free h)
theorem evL_iff {e : Ev} (h : evB e = true) {l : List UInt8} : evL e = l ↔ evW e = parts 32 l := by
  constructor
  · rintro rfl
    exact (parts_evL h).symm
  · intro he
    unfold evL
    rw [he, glue_parts]

/-- _ for none -/
def unL (l : List UInt8) : List UInt8 := if l = [95] then [] else l
/-- what the reference tries -/
def cand : List (List UInt8) → Ev
  | [_, a, b, c, d, e, f, g, h, i] => ⟨1, ⟨atoiN a, txt b, txt c, txt (unL d), atoiN e, atoiN f, atoiN g, txt (unL h), decide (i = [49])⟩, 0, 0⟩
  | [x, a] => if x = [100] then ⟨2, Fam.zero, atoiN a, 0⟩ else ⟨3, Fam.zero, 0, atoiN a⟩
  | _ => Ev.zero
/-- is a line an event's? which? -/
def readB (l : List UInt8) : Bool := evB (cand (parts 32 l)) && decide (evW (cand (parts 32 l)) = parts 32 l)
def readE (l : List UInt8) : Ev := if readB l then cand (parts 32 l) else Ev.zero
theorem readB_iff {l : List UInt8} : readB l = true ↔ evB (cand (parts 32 l)) = true ∧ evL (cand (parts 32 l)) = l := by
  unfold readB
  rw [Bool.and_eq_true, decide_eq_true_eq]
  constructor
  · rintro ⟨h1, h2⟩; exact ⟨h1, (evL_iff h1).2 h2⟩
  · rintro ⟨h1, h2⟩; exact ⟨h1, (evL_iff h1).1 h2⟩

/-- what the program's reader does: the words that are left, and whether they were not so -/
abbrev Rd := List (List UInt8) × Bool
def nextV : Rd → List UInt8
  | ([], _) => []
  | (x :: _, _) => x
def nextS : Rd → Rd
  | ([], _) => ([], true)
  | (_ :: r, b) => (r, b)
def numE (l : List UInt8) : Bool := atoiE l && decide (Lib.itoa (atoiN l) = l)
def numV (s : Rd) : Int := atoiN (nextV s)
def numS (s : Rd) : Rd := ((nextS s).1, (nextS s).2 || !numE (nextV s))
def textV (s : Rd) : List UInt8 := unL (nextV s)
def textS (s : Rd) : Rd := ((nextS s).1, (nextS s).2 || decide (nextV s = []))

/-- the family that the reader reads: what it is, and what is left -/
def famV (s : Rd) : Fam :=
  let s1 := numS s; let s2 := textS s1; let s3 := textS s2; let s4 := textS s3; let s5 := numS s4; let s6 := numS s5; let s7 := numS s6; let s8 := textS s7
  ⟨numV s, txt (textV s1), txt (textV s2), txt (textV s3), numV s4, numV s5, numV s6, txt (textV s7), decide (nextV s8 = [49])⟩
def famS (s : Rd) : Rd :=
  let s8 := textS (numS (numS (numS (textS (textS (textS (numS s)))))))
  ((nextS s8).1, (nextS s8).2 || (!decide (nextV s8 = [48]) && !decide (nextV s8 = [49])))
/-- the event that the program reads, and what is left -/
def progE (s : Rd) : Ev × Rd :=
  if nextV s = [112] then (⟨1, famV (nextS s), 0, 0⟩, famS (nextS s))
  else if nextV s = [100] then (⟨2, Fam.zero, numV (nextS s), 0⟩, numS (nextS s))
  else if nextV s = [99] then (⟨3, Fam.zero, 0, numV (nextS s)⟩, numS (nextS s))
  else (Ev.zero, ((nextS s).1, true))
/-- does the program take it? -/
def progB (s : Rd) : Bool := !(progE s).2.2 && decide ((progE s).2.1 = []) && evB (progE s).1
theorem evB_zero : evB Ev.zero = false := by decide
theorem evB_one {f : Fam} : evB ⟨1, f, 0, 0⟩ = famB f := by simp [evB]
theorem evB_two {n : Int} : evB ⟨2, Fam.zero, n, 0⟩ = okN n := by
  have := (Fam.isZero_iff (f := Fam.zero)).2 rfl
  simp [evB, this]
theorem evB_three {n : Int} : evB ⟨3, Fam.zero, 0, n⟩ = okN n := by
  have := (Fam.isZero_iff (f := Fam.zero)).2 rfl
  simp [evB, this]
theorem numE_of {l : List UInt8} (h : okN (atoiN l) = true) : numE l = decide (Lib.itoa (atoiN l) = l) := by
  unfold numE
  by_cases e : Lib.itoa (atoiN l) = l
  · have : atoiE l = true := by rw [← e]; exact atoiE_itoa h
    rw [this, Bool.true_and]
  · simp [e]
theorem okN_numE {l : List UInt8} : (okN (atoiN l) && numE l) = (okN (atoiN l) && decide (Lib.itoa (atoiN l) = l)) := by
  cases h : okN (atoiN l)
  · rfl
  · rw [numE_of h]
theorem nameB_un {l : List UInt8} : nameB (unL l) = nameB l := by
  unfold unL
  split
  · rename_i h
    subst h
    decide
  · rfl
end Go.Proofs.YtklpmoimckblcaaGreatDoor
