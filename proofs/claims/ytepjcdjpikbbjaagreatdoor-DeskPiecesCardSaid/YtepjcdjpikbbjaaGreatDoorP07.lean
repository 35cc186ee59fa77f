/-
  Families in a row, in plain Lean: their order by number; one put among them; one dropped; a state behind an event.
-/
import Derived.Test.YtepjcdjpikbbjaaGreatDoorP03
import Derived.Test.YtepjcdjpikbbjaaGreatDoorP06
namespace Go.Proofs.YtepjcdjpikbbjaaGreatDoor

/-- by their numbers, each once -/
def Asc (L : List Fam) : Prop := L.Pairwise fun a b => a.id < b.id
/-- how many stand ahead of a number -/
def ahead (L : List Fam) (n : Int) : Nat := (L.takeWhile fun f => decide (f.id < n)).length
/-- is the number there? -/
def hasB (L : List Fam) (n : Int) : Bool := match L[ahead L n]? with
  | some f => decide (f.id = n)
  | none => false
def putL (L : List Fam) (f : Fam) : List Fam := if hasB L f.id then L.set (ahead L f.id) f else L.take (ahead L f.id) ++ f :: L.drop (ahead L f.id)
def dropL (L : List Fam) (n : Int) : List Fam := if hasB L n then L.take (ahead L n) ++ L.drop (ahead L n + 1) else L

structure St where
  clock : Int
  next : Int
  fams : List Fam
def applyS (s : St) (e : Ev) : St :=
  if e.kind = 1 then ⟨s.clock, max s.next (e.fam.id + 1), putL s.fams e.fam⟩
  else if e.kind = 2 then ⟨s.clock, s.next, dropL s.fams e.id⟩
  else if e.kind = 3 then ⟨e.time, s.next, s.fams⟩
  else s

theorem ahead_le (L : List Fam) (n : Int) : ahead L n ≤ L.length := (List.takeWhile_sublist _).length_le
theorem ahead_nil (n : Int) : ahead [] n = 0 := rfl
theorem ahead_cons (f : Fam) (L : List Fam) (n : Int) : ahead (f :: L) n = if f.id < n then ahead L n + 1 else 0 := by
  unfold ahead
  rw [List.takeWhile_cons]
  by_cases h : f.id < n
  · simp [h]
  · simp [h]
/-- ahead of that place all are below the number -/
theorem ahead_lt : ∀ {L : List Fam} {n : Int} {j : Nat}, j < ahead L n → ∃ f, L[j]? = some f ∧ f.id < n
  | [], n, j, h => by simp [ahead_nil] at h
  | f :: L, n, j, h => by
    rw [ahead_cons] at h
    split at h
    · rename_i hf
      cases j with
      | zero => exact ⟨f, rfl, hf⟩
      | succ j => exact ahead_lt (L := L) (by omega)
    · omega
/-- from there on none is -/
theorem ahead_ge : ∀ {L : List Fam} {n : Int}, Asc L → ∀ {j : Nat} {f : Fam}, ahead L n ≤ j → L[j]? = some f → n ≤ f.id
  | [], n, _, j, f, _, h => by simp at h
  | g :: L, n, ha, j, f, hj, h => by
    rw [ahead_cons] at hj
    obtain ⟨h1, h2⟩ := List.pairwise_cons.1 ha
    split at hj
    · cases j with
      | zero => omega
      | succ j => exact ahead_ge h2 (j := j) (by omega) (by simpa using h)
    · rename_i hg
      cases j with
      | zero =>
        simp at h
        subst h
        omega
      | succ j =>
        have hm : f ∈ L := List.mem_of_getElem? (by simpa using h)
        have := h1 f hm
        omega
/-- the one place of a search -/
theorem ahead_eq {L : List Fam} {n : Int} (ha : Asc L) {k : Nat} (hk : k ≤ L.length) (h1 : ∀ j f, j < k → L[j]? = some f → f.id < n) (h2 : ∀ j f, k ≤ j → L[j]? = some f → n ≤ f.id) : ahead L n = k := by
  rcases Nat.lt_trichotomy (ahead L n) k with h | h | h
  · obtain ⟨f, hf⟩ : ∃ f, L[ahead L n]? = some f := ⟨_, List.getElem?_eq_getElem (by omega)⟩
    have a := h1 _ f h hf
    have b := ahead_ge ha (Nat.le_refl _) hf
    omega
  · exact h
  · obtain ⟨f, hf, hlt⟩ := ahead_lt h
    have := h2 k f (Nat.le_refl _) hf
    omega
theorem hasB_some {L : List Fam} {n : Int} {f : Fam} (h : L[ahead L n]? = some f) : hasB L n = decide (f.id = n) := by unfold hasB; rw [h]
theorem hasB_none {L : List Fam} {n : Int} (h : ahead L n = L.length) : hasB L n = false := by
  unfold hasB
  rw [List.getElem?_eq_none (by omega)]
theorem hasB_lt {L : List Fam} {n : Int} (h : hasB L n = true) : ahead L n < L.length := by
  rcases Nat.lt_or_ge (ahead L n) L.length with h' | h'
  · exact h'
  · have := ahead_le L n
    rw [hasB_none (by omega)] at h
    cases h
theorem putL_len (L : List Fam) (f : Fam) : (putL L f).length ≤ L.length + 1 := by
  unfold putL
  split
  · simp
  · have := ahead_le L f.id
    simp
    omega
theorem dropL_len (L : List Fam) (n : Int) : (dropL L n).length ≤ L.length := by
  unfold dropL
  split
  · have := ahead_le L n
    simp
    omega
  · exact Nat.le_refl _
theorem mem_putL {L : List Fam} {f g : Fam} (h : g ∈ putL L f) : g = f ∨ g ∈ L := by
  unfold putL at h
  split at h
  · rcases List.mem_or_eq_of_mem_set h with h | h
    · exact .inr h
    · exact .inl h
  · rw [List.mem_append, List.mem_cons] at h
    rcases h with h | h | h
    · exact .inr (List.mem_of_mem_take h)
    · exact .inl h
    · exact .inr (List.mem_of_mem_drop h)
theorem mem_dropL {L : List Fam} {n : Int} {g : Fam} (h : g ∈ dropL L n) : g ∈ L := by
  unfold dropL at h
  split at h
  · rcases List.mem_append.1 h with h | h
    · exact List.mem_of_mem_take h
    · exact List.mem_of_mem_drop h
  · exact h
/-- those ahead are below the number, those behind above it, or it -/
theorem take_below {L : List Fam} {n : Int} {g : Fam} (h : g ∈ L.take (ahead L n)) : g.id < n := by
  obtain ⟨j, hj⟩ := List.mem_iff_getElem?.1 h
  rw [List.getElem?_take] at hj
  split at hj
  · rename_i hlt
    obtain ⟨f, hf, hid⟩ := ahead_lt hlt
    rw [hf] at hj
    cases hj
    exact hid
  · cases hj
theorem drop_above {L : List Fam} {n : Int} (ha : Asc L) {g : Fam} (h : g ∈ L.drop (ahead L n)) : n ≤ g.id := by
  obtain ⟨j, hj⟩ := List.mem_iff_getElem?.1 h
  rw [List.getElem?_drop] at hj
  exact ahead_ge ha (Nat.le_add_right _ _) hj
theorem drop_over {L : List Fam} {n : Int} (ha : Asc L) (hb : hasB L n = true) {g : Fam} (h : g ∈ L.drop (ahead L n + 1)) : n < g.id := by
  have hlt := hasB_lt hb
  have hd := List.drop_eq_getElem_cons hlt
  have hp : (L.drop (ahead L n)).Pairwise fun a b => a.id < b.id := ha.sublist (List.drop_sublist _ _)
  rw [hd] at hp
  have h1 := (List.pairwise_cons.1 hp).1 g h
  rw [hasB_some (List.getElem?_eq_getElem hlt), decide_eq_true_eq] at hb
  omega
theorem drop_over' {L : List Fam} {n : Int} (ha : Asc L) (hb : hasB L n = false) {g : Fam} (h : g ∈ L.drop (ahead L n)) : n < g.id := by
  have h1 := drop_above ha h
  rcases Int.lt_or_eq_of_le h1 with h2 | h2
  · exact h2
  · exfalso
    rcases Nat.lt_or_ge (ahead L n) L.length with hlt | hge
    · have hd := List.drop_eq_getElem_cons hlt
      have hp : (L.drop (ahead L n)).Pairwise fun a b => a.id < b.id := ha.sublist (List.drop_sublist _ _)
      rw [hd] at hp h
      have h3 : n ≤ L[ahead L n].id := ahead_ge ha (Nat.le_refl _) (List.getElem?_eq_getElem hlt)
      rw [hasB_some (List.getElem?_eq_getElem hlt), decide_eq_false_iff_not] at hb
      rcases List.mem_cons.1 h with rfl | h
      · omega
      · have := (List.pairwise_cons.1 hp).1 g h
        omega
    · rw [List.drop_eq_nil_of_le hge] at h
      simp at h
theorem set_parts {L : List Fam} {k : Nat} (h : k < L.length) (f : Fam) : L.set k f = L.take k ++ f :: L.drop (k + 1) := by
  rw [List.set_eq_take_append_cons_drop, if_pos h]
theorem asc_parts {a b : List Fam} {f : Fam} (ha : Asc a) (hb : Asc b) (h1 : ∀ g ∈ a, g.id < f.id) (h2 : ∀ g ∈ b, f.id < g.id) : Asc (a ++ f :: b) := by
  refine List.pairwise_append.2 ⟨ha, List.pairwise_cons.2 ⟨h2, hb⟩, ?_⟩
  intro x hx y hy
  have hx' := h1 x hx
  rcases List.mem_cons.1 hy with rfl | hy
  · exact hx'
  · have := h2 y hy
    omega
theorem putL_parts (L : List Fam) (f : Fam) : ∃ b, putL L f = L.take (ahead L f.id) ++ f :: b ∧ (Asc L → Asc b ∧ ∀ g ∈ b, f.id < g.id) := by
  unfold putL
  by_cases hb : hasB L f.id = true
  · rw [if_pos hb, set_parts (hasB_lt hb)]
    exact ⟨_, rfl, fun ha => ⟨ha.sublist (List.drop_sublist _ _), fun g hg => drop_over ha hb hg⟩⟩
  · rw [if_neg hb]
    exact ⟨_, rfl, fun ha => ⟨ha.sublist (List.drop_sublist _ _), fun g hg => drop_over' ha (by simpa using hb) hg⟩⟩
theorem putL_asc {L : List Fam} (ha : Asc L) (f : Fam) : Asc (putL L f) := by
  obtain ⟨b, e, h⟩ := putL_parts L f
  rw [e]
  exact asc_parts (ha.sublist (List.take_sublist _ _)) (h ha).1 (fun g hg => take_below hg) (h ha).2
theorem dropL_asc {L : List Fam} (ha : Asc L) (n : Int) : Asc (dropL L n) := by
  unfold dropL
  split
  · rename_i hb
    refine List.pairwise_append.2 ⟨ha.sublist (List.take_sublist _ _), ha.sublist (List.drop_sublist _ _), fun x hx y hy => ?_⟩
    have := take_below hx
    have := drop_over ha hb hy
    omega
  · exact ha
/-- fit to be told: in order, numbers in bounds -/
structure StOk (s : St) : Prop where
  asc : Asc s.fams
  ids : ∀ f ∈ s.fams, okN f.id = true
  len : s.fams.length ≤ 1000000
end Go.Proofs.YtepjcdjpikbbjaaGreatDoor

/-
  EventBack in plain Lean: an event's line is at most 180 bytes, and is that event again; two events of two families make the same in whichever order.
-/
namespace Go.Proofs.YtepjcdjpikbbjaaGreatDoor

theorem glue_sum (c : UInt8) : ∀ ws : List (List UInt8), (glue c ws).length ≤ (ws.map fun w => w.length + 1).sum
  | [] => by simp [glue]
  | [w] => by simp [glue]
  | w :: v :: r => by
    have := glue_sum c (v :: r)
    rw [glue, List.length_append, List.length_cons, List.map_cons, List.sum_cons]
    omega
theorem reqB_20 {l : List UInt8} (h : reqB l = true) : l.length ≤ 20 := by
  unfold reqB at h
  rw [Bool.or_eq_true, decide_eq_true_eq] at h
  rcases h with rfl | h
  · simp
  · exact nameB_len h
theorem wordL_le {l : List UInt8} {n : Nat} (h : l.length ≤ n) (hn : 1 ≤ n) : (wordL l).length ≤ n := by
  unfold wordL
  split
  · simpa using hn
  · exact h
/-- an event's line fits a block with its number -/
theorem evL_len {e : Ev} (h : evB e = true) : (evL e).length ≤ 180 := by
  unfold evL
  refine Nat.le_trans (glue_sum 32 _) ?_
  rcases evB_kind h with ⟨hk, _, _, hf⟩ | ⟨hk, _, _, hn⟩ | ⟨hk, _, _, hn⟩
  · obtain ⟨h1, h2, h3, h4, h5, h6, h7, h8⟩ := famB_parts hf
    have k1 := itoa_len h1
    have k2 := itoa_len h2
    have k3 := itoa_len h3
    have k4 := itoa_len h4
    have k5 := nameB_len h5
    have k6 := nameB_len h6
    have k7 := wordL_le (reqB_20 h7) (by decide)
    have k8 := wordL_le (scopeB_len h8) (by decide)
    have k9 : (deadL e.fam.dead).length = 1 := by unfold deadL; split <;> rfl
    rw [evW_1 hk]
    simp only [famW, List.map_cons, List.map_nil, List.sum_cons, List.sum_nil, List.length_cons, List.length_nil]
    omega
  · have := itoa_len hn
    rw [evW_2 hk]
    simp only [List.map_cons, List.map_nil, List.sum_cons, List.sum_nil, List.length_cons, List.length_nil]
    omega
  · have := itoa_len hn
    rw [evW_3 hk]
    simp only [List.map_cons, List.map_nil, List.sum_cons, List.sum_nil, List.length_cons, List.length_nil]
    omega

theorem unL_wordL {l : List UInt8} (h : (95 : UInt8) ∉ l) : unL (wordL l) = l := by
  unfold wordL
  split
  · rename_i e
    rw [e]
    rfl
  · unfold unL
    rw [if_neg]
    rintro rfl
    simp at h
theorem deadL_back (b : Bool) : decide (deadL b = [49]) = b := by cases b <;> decide
theorem cand_evW {e : Ev} (h : evB e = true) : cand (evW e) = e := by
  rcases evB_kind h with ⟨hk, hi, ht, hf⟩ | ⟨hk, hz, ht, hn⟩ | ⟨hk, hz, hi, hn⟩
  · obtain ⟨h1, h2, h3, h4, h5, h6, h7, h8⟩ := famB_parts hf
    have n7 : unL (wordL e.fam.request.data.toList) = e.fam.request.data.toList := unL_wordL (reqB_free h7 (by decide))
    have n8 : unL (wordL e.fam.scope.data.toList) = e.fam.scope.data.toList := unL_wordL (scopeB_free h8 (by decide) (by decide))
    rw [evW_1 hk]
    unfold famW cand
    obtain ⟨k, ⟨a, b, c, d, g, m, u, r, de⟩, id, ti⟩ := e
    dsimp only at *
    subst hk hi ht
    rw [n7, n8, atoiN_itoa h1, atoiN_itoa h2, atoiN_itoa h3, atoiN_itoa h4, txt_data, txt_data, txt_data, txt_data, deadL_back]
  · rw [evW_2 hk]
    obtain ⟨k, fam, id, ti⟩ := e
    dsimp only at *
    subst hk hz ht
    simp only [cand]
    rw [if_pos trivial, atoiN_itoa hn]
  · rw [evW_3 hk]
    obtain ⟨k, fam, id, ti⟩ := e
    dsimp only at *
    subst hk hz hi
    simp only [cand]
    rw [if_neg (by decide), atoiN_itoa hn]
/-- an event's line is that event again -/
theorem evL_back {e : Ev} (h : evB e = true) : readB (evL e) = true ∧ readE (evL e) = e := by
  have hc : cand (parts 32 (evL e)) = e := by rw [parts_evL h, cand_evW h]
  have hr : readB (evL e) = true := readB_iff.2 (by rw [hc]; exact ⟨h, rfl⟩)
  refine ⟨hr, ?_⟩
  unfold readE
  rw [if_pos hr, hc]

theorem applyS_1 {e : Ev} (h : e.kind = 1) (s : St) : applyS s e = ⟨s.clock, max s.next (e.fam.id + 1), putL s.fams e.fam⟩ := by unfold applyS; rw [if_pos h]
theorem applyS_2 {e : Ev} (h : e.kind = 2) (s : St) : applyS s e = ⟨s.clock, s.next, dropL s.fams e.id⟩ := by unfold applyS; rw [if_neg (by omega), if_pos h]
/-- what event.Apply keeps of a state -/
theorem applyS_asc {s : St} (ha : Asc s.fams) (e : Ev) : Asc (applyS s e).fams := by
  unfold applyS
  split
  · exact putL_asc ha _
  · split
    · exact dropL_asc ha _
    · split <;> exact ha
theorem applyS_ids {s : St} {e : Ev} (hs : ∀ f ∈ s.fams, okN f.id = true) (h1 : e.kind = 1 → okN e.fam.id = true) : ∀ f ∈ (applyS s e).fams, okN f.id = true := by
  intro f
  unfold applyS
  split
  · rename_i hk
    intro hf
    rcases mem_putL hf with rfl | hf
    · exact h1 hk
    · exact hs f hf
  · split
    · intro hf
      exact hs f (mem_dropL hf)
    · split <;> exact hs f
theorem applyS_len (s : St) (e : Ev) : (applyS s e).fams.length ≤ s.fams.length + 1 := by
  unfold applyS
  split
  · exact putL_len _ _
  · split
    · have := dropL_len s.fams e.id
      show (dropL s.fams e.id).length ≤ _
      omega
    · split <;> simp
end Go.Proofs.YtepjcdjpikbbjaaGreatDoor

/-
  A store in plain Lean: blocks with their tag, events of the log, slots; what a store that is opened reads.
-/
namespace Go.Proofs.YtepjcdjpikbbjaaGreatDoor

/-- up to MaxNumber, and one more -/
def okM (x : Int) : Bool := decide (0 ≤ x) && decide (x ≤ 1099511627777)
theorem okM_iff {x : Int} : okM x = true ↔ 0 ≤ x ∧ x ≤ 1099511627777 := by simp [okM]
theorem okM_cases {x : Int} (h : okM x = true) : okN x = true ∨ x = 1099511627777 := by
  have := okM_iff.1 h
  by_cases hx : x ≤ 1099511627776
  · exact .inl (okN_iff.2 ⟨this.1, hx⟩)
  · exact .inr (by omega)
theorem okN_M {x : Int} (h : okN x = true) : okM x = true := by have := okN_iff.1 h; exact okM_iff.2 (by omega)
theorem top_itoa : Lib.itoa 1099511627777 = [49, 48, 57, 57, 53, 49, 49, 54, 50, 55, 55, 55, 55] := by kernel_rfl
theorem itoaM_len {x : Int} (h : okM x = true) : (Lib.itoa x).length ≤ 13 := by
  rcases okM_cases h with h | rfl
  · exact itoa_len h
  · rw [top_itoa]; decide
theorem itoaM_free {x : Int} (h : okM x = true) {c : UInt8} (hc : ¬ (48 ≤ c.toNat ∧ c.toNat ≤ 57)) : c ∉ Lib.itoa x := by
  rcases okM_cases h with h | rfl
  · exact itoa_free h hc
  · rw [top_itoa]
    intro hm
    apply hc
    simp only [List.mem_cons, List.not_mem_nil, or_false] at hm
    rcases hm with rfl | rfl | rfl | rfl | rfl | rfl | rfl | rfl | rfl | rfl | rfl | rfl | rfl <;> decide
theorem atoiM {x : Int} (h : okM x = true) : atoiN (Lib.itoa x) = x ∧ atoiE (Lib.itoa x) = true := by
  rcases okM_cases h with h | rfl
  · exact ⟨atoiN_itoa h, atoiE_itoa h⟩
  · rw [top_itoa]
    have : Lib.atoiAll [49, 48, 57, 57, 53, 49, 49, 54, 50, 55, 55, 55, 55] = .ok 1099511627777 := by kernel_rfl
    unfold atoiN atoiE
    rw [this]
    exact ⟨rfl, rfl⟩
theorem itoaM_inj {x y : Int} (hx : okM x = true) (hy : okM y = true) (h : Lib.itoa x = Lib.itoa y) : x = y := by rw [← (atoiM hx).1, h, (atoiM hy).1]

/-- what stands ahead of the last blank, and behind it -/
def lastTail (s : List UInt8) : List UInt8 := (s.reverse.takeWhile fun c => c != 32).reverse
def cutLast (s : List UInt8) : Option (List UInt8 × List UInt8) := if 32 ∈ s then some (s.take (s.length - (lastTail s).length - 1), lastTail s) else none
theorem takeWhile_stop {p : UInt8 → Bool} : ∀ {a : List UInt8} {c : UInt8} {b : List UInt8}, (∀ x ∈ a, p x = true) → p c = false → (a ++ c :: b).takeWhile p = a
  | [], c, b, _, hc => by simp [hc]
  | x :: a, c, b, h, hc => by
    rw [List.cons_append, List.takeWhile_cons, if_pos (h x (List.mem_cons_self ..)), takeWhile_stop (fun y hy => h y (List.mem_cons_of_mem _ hy)) hc]
theorem lastTail_of {x t : List UInt8} (ht : 32 ∉ t) : lastTail (x ++ 32 :: t) = t := by
  unfold lastTail
  rw [List.reverse_append, List.reverse_cons, List.append_assoc, List.singleton_append, takeWhile_stop, List.reverse_reverse]
  · intro y hy
    have : y ≠ 32 := fun e => ht (by rw [← e]; exact List.mem_reverse.1 hy)
    simpa using this
  · simp
theorem cutLast_of {x t : List UInt8} (ht : 32 ∉ t) : cutLast (x ++ 32 :: t) = some (x, t) := by
  unfold cutLast
  rw [lastTail_of ht, if_pos (by simp)]
  congr 2
  rw [List.length_append, List.length_cons]
  have : x.length + (t.length + 1) - t.length - 1 = x.length := by omega
  rw [this, List.take_left]
/-- what stands ahead of the first blank, and behind it -/
def firstHead (s : List UInt8) : List UInt8 := s.takeWhile fun c => c != 32
def firstRest (s : List UInt8) : List UInt8 := (s.dropWhile fun c => c != 32).drop 1
theorem first_cut {a b : List UInt8} (h : 32 ∉ a) : firstHead (a ++ 32 :: b) = a ∧ firstRest (a ++ 32 :: b) = b := by
  have ha : ∀ x ∈ a, (x != 32) = true := fun x hx => by
    have : x ≠ 32 := fun e => h (by rw [← e]; exact hx)
    simpa using this
  have h1 : firstHead (a ++ 32 :: b) = a := takeWhile_stop ha (by simp)
  refine ⟨h1, ?_⟩
  unfold firstRest
  have h2 := List.takeWhile_append_dropWhile (p := fun c : UInt8 => c != 32) (l := a ++ 32 :: b)
  unfold firstHead at h1
  rw [h1] at h2
  have h3 := List.append_cancel_left h2
  rw [h3]
  rfl

/-- how tags are -/
structure TagOk (tg : Int → List UInt8 → List UInt8) : Prop where
  len : ∀ k l, (tg k l).length = 16
  free : ∀ k l, (32 : UInt8) ∉ tg k l

section
variable (tg : Int → List UInt8 → List UInt8)
/-- words with their tag behind; and back -/
def sealL (x : List UInt8) : List UInt8 := x ++ 32 :: tg 0 x
def openL (s : List UInt8) : Option (List UInt8) := match cutLast s with
  | some (x, t) => if t = tg 0 x then some x else none
  | none => none
/-- an event of the log, with its number -/
def evRec (n : Int) (e : Ev) : List UInt8 := sealL tg (Lib.itoa n ++ 32 :: evL e)
def readRec (n : Int) (s : List UInt8) : Option Ev := match openL tg s with
  | some x => if firstHead x = Lib.itoa n then (if readB (firstRest x) then some (readE (firstRest x)) else none) else none
  | none => none
/-- a family's line, and the event that puts it -/
def putEv (f : Fam) : Ev := ⟨1, f, 0, 0⟩
/-- a slot's head -/
def headW (n from_ : Int) (s : St) (all : List UInt8) : List (List UInt8) := [Lib.itoa n, Lib.itoa from_, Lib.itoa s.clock, Lib.itoa s.next, Lib.itoa (s.fams.length : Int), tg 1 all]
def allL (L : List Fam) : List UInt8 := L.flatMap fun f => evL (putEv f) ++ [10]
def headL (n from_ : Int) (s : St) : List UInt8 := sealL tg (glue 32 (headW tg n from_ s (allL s.fams)))

def numM (w : List UInt8) : Bool := atoiE w && okM (atoiN w)
/-- a slot's families: the state behind the first n of them, and all their lines -/
def famsR (blk : Nat → List UInt8) (at_ : Nat) (s : St) : Nat → Option (St × List UInt8)
  | 0 => some (s, [])
  | n + 1 => match famsR blk at_ s n with
    | some (st, all) => if readB (blk (at_ + 1 + n)) && decide ((readE (blk (at_ + 1 + n))).kind = 1) then some (applyS st (readE (blk (at_ + 1 + n))), all ++ blk (at_ + 1 + n) ++ [10]) else none
    | none => none
def slotAt (k : Nat) : Nat := 16 + k % 2 * 21
def loadR (blk : Nat → List UInt8) (k : Nat) : Option (Int × Int × St) := match openL tg (blk (slotAt k)) with
  | some x => match parts 32 x with
    | [a, b, c, d, e, t] => if numM a && numM b && numM c && numM d && numM e && decide (atoiN e ≤ 20) then
        (match famsR blk (slotAt k) ⟨atoiN c, atoiN d, []⟩ (atoiN e).toNat with
          | some (st, all) => if tg 1 all = t ∧ atoiN a % 2 = (k : Int) then some (atoiN a, atoiN b, st) else none
          | none => none) else none
    | _ => none
  | none => none
end

section
variable {tg : Int → List UInt8 → List UInt8} (ht : TagOk tg)
include ht
theorem open_seal (x : List UInt8) : openL tg (sealL tg x) = some x := by
  unfold openL sealL
  rw [cutLast_of (ht.free 0 x)]
  simp
/-- an event of the log is read again, by its number alone -/
theorem readRec_same {n : Int} {e : Ev} (hn : okM n = true) (he : evB e = true) : readRec tg n (evRec tg n e) = some e := by
  unfold readRec evRec
  rw [open_seal ht]
  obtain ⟨h1, h2⟩ := first_cut (a := Lib.itoa n) (b := evL e) (itoaM_free hn (by decide))
  obtain ⟨h3, h4⟩ := evL_back he
  simp only [h1, h2, h3, h4, if_true]
theorem readRec_other {n m : Int} {e : Ev} (hn : okM n = true) (hm : okM m = true) (hne : n ≠ m) : readRec tg n (evRec tg m e) = none := by
  unfold readRec evRec
  rw [open_seal ht]
  obtain ⟨h1, _⟩ := first_cut (a := Lib.itoa m) (b := evL e) (itoaM_free hm (by decide))
  simp only [h1]
  rw [if_neg fun h => hne (itoaM_inj hn hm h.symm)]
end
section
variable {tg : Int → List UInt8 → List UInt8}
theorem readRec_nil (n : Int) : readRec tg n [] = none := rfl
theorem load_none {blk : Nat → List UInt8} {k : Nat} (hh : blk (slotAt k) = []) : loadR tg blk k = none := by
  unfold loadR
  rw [hh]
  rfl
end
theorem readE_may {l : List UInt8} (h : readB l = true) : evB (readE l) = true := by
  unfold readE
  rw [if_pos h]
  exact (readB_iff.1 h).1

/-- fit to be saved -/
structure Fit (s : St) : Prop where
  asc : Asc s.fams
  fams : ∀ f ∈ s.fams, famB f = true
  clock : okN s.clock = true
  next : okM s.next = true
  above : ∀ f ∈ s.fams, f.id < s.next
  len : s.fams.length ≤ 20
theorem Fit.ok {s : St} (h : Fit s) : StOk s := ⟨h.asc, fun f hf => (famB_parts (h.fams f hf)).1, by have := h.len; omega⟩
theorem Fit.start : Fit ⟨0, 1, []⟩ := ⟨List.Pairwise.nil, fun f hf => by simp at hf, by decide, by decide, fun f hf => by simp at hf, Nat.zero_le _⟩
theorem putEv_may {f : Fam} (h : famB f = true) : evB (putEv f) = true := by unfold putEv; rw [evB_one]; exact h
theorem ahead_all {n : Int} : ∀ L : List Fam, (∀ g ∈ L, g.id < n) → ahead L n = L.length
  | [], _ => rfl
  | g :: L, h => by rw [ahead_cons, if_pos (h g (List.mem_cons_self ..)), ahead_all L fun x hx => h x (List.mem_cons_of_mem _ hx), List.length_cons]
/-- one behind all others is put at the end -/
theorem putL_end {L : List Fam} {f : Fam} (h : ∀ g ∈ L, g.id < f.id) : putL L f = L ++ [f] := by
  have ha : ahead L f.id = L.length := ahead_all L h
  unfold putL
  rw [hasB_none ha, if_neg (by decide), ha, List.take_length, List.drop_length]
/-- an event that may be leaves a state fit, if the families are not too many -/
theorem Fit.apply {s : St} {e : Ev} (h : Fit s) (he : evB e = true) (hl : (applyS s e).fams.length ≤ 20) : Fit (applyS s e) := by
  rcases evB_kind he with ⟨hk, _, _, hf⟩ | ⟨hk, _, _, _⟩ | ⟨hk, _, _, hn⟩
  · rw [applyS_1 hk] at hl ⊢
    have hid := okN_iff.1 (famB_parts hf).1
    have hnx := okM_iff.1 h.next
    refine ⟨putL_asc h.asc _, fun g hg => ?_, h.clock, ?_, fun g hg => ?_, hl⟩
    · rcases mem_putL hg with rfl | hg
      · exact hf
      · exact h.fams g hg
    · rw [okM_iff]
      show 0 ≤ max s.next (e.fam.id + 1) ∧ max s.next (e.fam.id + 1) ≤ _
      omega
    · show g.id < max s.next (e.fam.id + 1)
      rcases mem_putL hg with rfl | hg
      · omega
      · have := h.above g hg
        omega
  · rw [applyS_2 hk] at hl ⊢
    exact ⟨dropL_asc h.asc _, fun g hg => h.fams g (mem_dropL hg), h.clock, h.next, fun g hg => h.above g (mem_dropL hg), hl⟩
  · have e3 : applyS s e = ⟨e.time, s.next, s.fams⟩ := by unfold applyS; rw [if_neg (by omega), if_neg (by omega), if_pos hk]
    rw [e3]
    exact ⟨h.asc, h.fams, hn, h.next, h.above, h.len⟩
theorem allL_snoc (L : List Fam) (f : Fam) : allL (L ++ [f]) = allL L ++ evL (putEv f) ++ [10] := by
  unfold allL
  rw [List.flatMap_append]
  simp
/-- a slot that was saved is read again -/
theorem famsR_saved {blk : Nat → List UInt8} {at_ : Nat} {s : St} (h : Fit s) (hb : ∀ i f, s.fams[i]? = some f → blk (at_ + 1 + i) = evL (putEv f)) : ∀ n, n ≤ s.fams.length → famsR blk at_ ⟨s.clock, s.next, []⟩ n = some (⟨s.clock, s.next, s.fams.take n⟩, allL (s.fams.take n))
  | 0, _ => by simp [famsR, allL]
  | n + 1, hn => by
    have hlt : n < s.fams.length := by omega
    have hf := List.getElem?_eq_getElem hlt
    have hfm := List.getElem_mem hlt
    have hfB := h.fams _ hfm
    obtain ⟨h1, h2⟩ := evL_back (putEv_may hfB)
    have hkd : (putEv s.fams[n]).kind = 1 := rfl
    rw [famsR, famsR_saved h hb n (by omega), hb n _ hf]
    dsimp only
    rw [h1, h2, hkd]
    simp only [decide_true, Bool.and_self, if_true, Option.some.injEq, Prod.mk.injEq]
    have htk : s.fams.take (n + 1) = s.fams.take n ++ [s.fams[n]] := by rw [List.take_add_one, hf]; rfl
    rw [htk]
    refine ⟨?_, (allL_snoc _ _).symm⟩
    have hbelow : ∀ g ∈ s.fams.take n, g.id < s.fams[n].id := by
      intro g hg
      obtain ⟨j, hj⟩ := List.mem_iff_getElem?.1 hg
      rw [List.getElem?_take] at hj
      split at hj
      · rename_i hjn
        have hjl : j < s.fams.length := by omega
        rw [List.getElem?_eq_getElem hjl] at hj
        obtain rfl := Option.some.inj hj
        exact List.pairwise_iff_getElem.1 h.asc j n hjl hlt hjn
      · cases hj
    rw [applyS_1 (show (putEv s.fams[n]).kind = 1 from rfl)]
    dsimp only [putEv]
    rw [putL_end hbelow]
    have := h.above _ hfm
    congr 1
    omega
section
variable {tg : Int → List UInt8 → List UInt8} (ht : TagOk tg)
include ht
theorem headW_free {n f : Int} {s : St} (hn : okM n = true) (hf : okM f = true) (h : Fit s) (all : List UInt8) : ∀ w ∈ headW tg n f s all, (32 : UInt8) ∉ w := by
  intro w hw
  have hl := h.len
  simp only [headW, List.mem_cons, List.not_mem_nil, or_false] at hw
  rcases hw with rfl | rfl | rfl | rfl | rfl | rfl
  · exact itoaM_free hn (by decide)
  · exact itoaM_free hf (by decide)
  · exact itoaM_free (okN_M h.clock) (by decide)
  · exact itoaM_free h.next (by decide)
  · exact itoaM_free (okM_iff.2 (by omega)) (by decide)
  · exact ht.free 1 all
theorem load_saved {blk : Nat → List UInt8} {k : Nat} {n f : Int} {s : St} (h : Fit s) (hn : okM n = true) (hf : okM f = true) (hk : n % 2 = (k : Int)) (hh : blk (slotAt k) = headL tg n f s) (hb : ∀ i g, s.fams[i]? = some g → blk (slotAt k + 1 + i) = evL (putEv g)) :
    loadR tg blk k = some (n, f, s) := by
  have hl := h.len
  have hlen : okM (s.fams.length : Int) = true := okM_iff.2 (by omega)
  have hw := headW_free ht hn hf h (allL s.fams)
  have hp : parts 32 (glue 32 (headW tg n f s (allL s.fams))) = headW tg n f s (allL s.fams) := parts_glue 32 _ (by simp [headW]) hw
  unfold loadR
  rw [hh]
  unfold headL
  rw [open_seal ht]
  dsimp only
  rw [hp]
  unfold headW
  dsimp only
  obtain ⟨a1, a2⟩ := atoiM hn
  obtain ⟨b1, b2⟩ := atoiM hf
  obtain ⟨c1, c2⟩ := atoiM (okN_M h.clock)
  obtain ⟨d1, d2⟩ := atoiM h.next
  obtain ⟨e1, e2⟩ := atoiM hlen
  have g1 : numM (Lib.itoa n) = true := by unfold numM; rw [a1, a2, hn]; rfl
  have g2 : numM (Lib.itoa f) = true := by unfold numM; rw [b1, b2, hf]; rfl
  have g3 : numM (Lib.itoa s.clock) = true := by unfold numM; rw [c1, c2, okN_M h.clock]; rfl
  have g4 : numM (Lib.itoa s.next) = true := by unfold numM; rw [d1, d2, h.next]; rfl
  have g5 : numM (Lib.itoa (s.fams.length : Int)) = true := by unfold numM; rw [e1, e2, hlen]; rfl
  rw [g1, g2, g3, g4, g5, a1, b1, c1, d1, e1]
  have hle : decide ((s.fams.length : Int) ≤ 20) = true := by rw [decide_eq_true_eq]; omega
  rw [hle]
  simp only [Bool.and_self, if_true, Int.toNat_natCast]
  rw [famsR_saved h hb _ (Nat.le_refl _), List.take_length]
  simp [hk]
/-- whatever a slot has: its number is its head's -/
theorem load_number {blk : Nat → List UInt8} {k : Nat} {n f m g : Int} {s st : St} (h : Fit s) (hn : okM n = true) (hf : okM f = true) (hh : blk (slotAt k) = headL tg n f s) (hl : loadR tg blk k = some (m, g, st)) : m = n := by
  have hw := headW_free ht hn hf h (allL s.fams)
  have hp : parts 32 (glue 32 (headW tg n f s (allL s.fams))) = headW tg n f s (allL s.fams) := parts_glue 32 _ (by simp [headW]) hw
  unfold loadR at hl
  rw [hh] at hl
  unfold headL at hl
  rw [open_seal ht] at hl
  dsimp only at hl
  rw [hp] at hl
  unfold headW at hl
  dsimp only at hl
  split at hl
  · split at hl
    · split at hl
      · obtain ⟨h1, _⟩ := Prod.mk.inj (Option.some.inj hl)
        rw [← h1, (atoiM hn).1]
      · cases hl
    · cases hl
  · cases hl
end
end Go.Proofs.YtepjcdjpikbbjaaGreatDoor

/-
  What a store that is opened has: what was saved, and the events behind it.
-/
namespace Go.Proofs.YtepjcdjpikbbjaaGreatDoor

def upd (blk : Nat → List UInt8) (k : Nat) (x : List UInt8) : Nat → List UInt8 := fun j => if j = k then x else blk j
theorem upd_same (blk : Nat → List UInt8) (k : Nat) (x : List UInt8) : upd blk k x k = x := by simp [upd]
theorem upd_other (blk : Nat → List UInt8) {k j : Nat} (x : List UInt8) (h : j ≠ k) : upd blk k x j = blk j := by simp [upd, h]

def startS : St := ⟨0, 1, []⟩
section
variable (tg : Int → List UInt8 → List UInt8)
/-- the slot that is in force: its number, the first event that it has not, its state -/
def betterR (a : Int × Int × St) : Option (Int × Int × St) → Int × Int × St
  | some b => if b.1 > a.1 then b else a
  | none => a
theorem better_some (a b : Int × Int × St) : betterR a (some b) = if b.1 > a.1 then b else a := rfl
def pickR (blk : Nat → List UInt8) : Int × Int × St := betterR (betterR (0, 0, startS) (loadR tg blk 0)) (loadR tg blk 1)
/-- the n-th event of the log -/
def eventR (blk : Nat → List UInt8) (from_ n : Int) : Option Ev := if n - from_ ≥ 16 then none else readRec tg n (blk (n % 16).toNat)
/-- the events from n on -/
def replayR (blk : Nat → List UInt8) (from_ : Int) : Nat → Int → St → St × Int
  | 0, n, s => (s, n)
  | fuel + 1, n, s => match eventR tg blk from_ n with
    | some e => replayR blk from_ fuel (n + 1) (applyS s e)
    | none => (s, n)

/-- what lies on a disk: slot number n is in force, with state s0 and without the events from f on; those are the events of the log, up to x -/
structure SInv (blk : Nat → List UInt8) (n f x : Int) (s0 : St) (es : List Ev) : Prop where
  fit : Fit s0
  n0 : 0 ≤ n
  n1 : n ≤ 1000000
  f0 : 0 ≤ f
  x1 : x ≤ 1000000
  xe : x = f + es.length
  len : es.length ≤ 16
  evs : ∀ e ∈ es, evB e = true
  log : ∀ (i : Nat) e, es[i]? = some e → blk ((f + i) % 16).toNat = evRec tg (f + i) e
  old : ∀ j : Nat, j < 16 → blk j = [] ∨ ∃ (m : Int) (e : Ev), 0 ≤ m ∧ m < x ∧ m % 16 = (j : Int) ∧ blk j = evRec tg m e
  none_ : n = 0 → s0 = startS ∧ f = 0 ∧ blk (slotAt 0) = []
  here : 0 < n → blk (slotAt (n % 2).toNat) = headL tg n f s0 ∧ ∀ i g, s0.fams[i]? = some g → blk (slotAt (n % 2).toNat + 1 + i) = evL (putEv g)
  other : blk (slotAt ((n + 1) % 2).toNat) = [] ∨ ∃ (m g : Int) (s : St), Fit s ∧ okM m = true ∧ okM g = true ∧ m < n ∧ blk (slotAt ((n + 1) % 2).toNat) = headL tg m g s
end

theorem slot0 : slotAt 0 = 16 := rfl
theorem empty_inv (tg : Int → List UInt8 → List UInt8) : SInv tg (fun _ => []) 0 0 0 startS [] :=
  ⟨Fit.start, Int.le_refl _, by decide, Int.le_refl _, by decide, rfl, Nat.zero_le _, fun e he => by simp at he, fun i e he => by simp at he, fun _ _ => .inl rfl, fun _ => ⟨rfl, rfl, rfl⟩, fun h => absurd h (by decide), .inl rfl⟩

section
variable {tg : Int → List UInt8 → List UInt8} {blk : Nat → List UInt8} {n f x : Int} {s0 : St} {es : List Ev}
theorem SInv.okn (h : SInv tg blk n f x s0 es) : okM n = true := by have := h.n0; have := h.n1; exact okM_iff.2 (by omega)
theorem SInv.okx (h : SInv tg blk n f x s0 es) {m : Int} (h0 : 0 ≤ m) (h1 : m ≤ x) : okM m = true := by have := h.x1; exact okM_iff.2 (by omega)
theorem SInv.okf (h : SInv tg blk n f x s0 es) : okM f = true := h.okx h.f0 (by have := h.xe; omega)
/-- the slot that is picked -/
theorem SInv.pick (ht : TagOk tg) (h : SInv tg blk n f x s0 es) : pickR tg blk = (n, f, s0) := by
  have hn0 := h.n0
  rcases Int.lt_or_eq_of_le hn0 with hn | hn
  · obtain ⟨hh, hb⟩ := h.here hn
    have hm : n % 2 = 0 ∨ n % 2 = 1 := by omega
    have hother : ∀ k : Nat, k = ((n + 1) % 2).toNat → ∀ b, loadR tg blk k = some b → b.1 < n := by
      rintro k rfl ⟨m, g, st⟩ hb
      rcases h.other with e | ⟨m', g', s', hf, hm', hg', hlt, e⟩
      · rw [load_none e] at hb
        cases hb
      · have := load_number ht hf hm' hg' e hb
        show m < n
        omega
    rcases hm with hm | hm
    · rw [hm] at hh hb
      have h1 := load_saved ht h.fit h.okn h.okf (k := 0) (by omega) hh hb
      unfold pickR
      rw [h1]
      have h2 : betterR (0, 0, startS) (some (n, f, s0)) = (n, f, s0) := by rw [better_some, if_pos (by show n > 0; omega)]
      rw [h2]
      rcases e : loadR tg blk 1 with _ | b
      · rfl
      · have := hother 1 (by omega) b e
        rw [better_some, if_neg (by show ¬ b.1 > n; omega)]
    · rw [hm] at hh hb
      have h1 := load_saved ht h.fit h.okn h.okf (k := 1) (by omega) hh hb
      unfold pickR
      rw [h1]
      rcases e : loadR tg blk 0 with _ | b
      · show betterR (0, 0, startS) (some (n, f, s0)) = _
        rw [better_some, if_pos (by show n > 0; omega)]
      · have hbn := hother 0 (by omega) b e
        have h3 : (betterR (0, 0, startS) (some b)).1 < n := by
          rw [better_some]
          split
          · exact hbn
          · show (0 : Int) < n
            omega
        generalize betterR (0, 0, startS) (some b) = c at *
        show betterR c (some (n, f, s0)) = _
        rw [better_some, if_pos (by show n > c.1; omega)]
  · obtain ⟨hs, hf, h0⟩ := h.none_ hn.symm
    have h1 : blk (slotAt 1) = [] := by
      have ho := h.other
      rw [← hn] at ho
      rcases ho with e | ⟨m, g, s, _, hm, _, hlt, _⟩
      · exact e
      · have := okM_iff.1 hm
        omega
    unfold pickR
    rw [load_none h0, load_none h1, ← hn, hs, hf]
    rfl
/-- the events behind it -/
theorem SInv.event (ht : TagOk tg) (h : SInv tg blk n f x s0 es) {i : Nat} {e : Ev} (he : es[i]? = some e) : eventR tg blk f (f + i) = some e := by
  have hl := (List.getElem?_eq_some_iff.1 he).1
  have hlen := h.len
  have hf := h.f0
  have hx := h.xe
  unfold eventR
  rw [if_neg (by omega), h.log i e he]
  exact readRec_same ht (h.okx (by omega) (by omega)) (h.evs e (List.mem_of_getElem? he))
theorem SInv.stop (ht : TagOk tg) (h : SInv tg blk n f x s0 es) : eventR tg blk f x = none := by
  unfold eventR
  split
  · rfl
  · have hf := h.f0
    have hx := h.xe
    have hj : (x % 16).toNat < 16 := by omega
    rcases h.old _ hj with e | ⟨m, e, h0, h1, h2, h3⟩
    · rw [e]
      exact readRec_nil x
    · rw [h3]
      exact readRec_other ht (h.okx (by omega) (Int.le_refl _)) (h.okx h0 (by omega)) (by omega)
theorem SInv.replay (ht : TagOk tg) (h : SInv tg blk n f x s0 es) : ∀ (k fuel i : Nat) (s : St), i + k = es.length → k < fuel → replayR tg blk f fuel (f + i) s = ((es.drop i).foldl applyS s, x)
  | 0, 0, _, _, _, hk => absurd hk (Nat.not_lt_zero _)
  | 0, fuel + 1, i, s, hi, _ => by
    have e : f + (i : Int) = x := by have := h.xe; omega
    rw [e, replayR, h.stop ht, List.drop_of_length_le (by omega)]
    rfl
  | k + 1, 0, _, _, _, hk => absurd hk (Nat.not_lt_zero _)
  | k + 1, fuel + 1, i, s, hi, hk => by
    have hlt : i < es.length := by omega
    have he := List.getElem?_eq_getElem hlt
    rw [replayR, h.event ht he]
    dsimp only
    have e : f + (i : Int) + 1 = f + ((i + 1 : Nat) : Int) := by omega
    rw [e, h.replay ht k fuel (i + 1) _ (by omega) (by omega), List.drop_eq_getElem_cons hlt, List.foldl_cons]
theorem SInv.opened (ht : TagOk tg) (h : SInv tg blk n f x s0 es) : pickR tg blk = (n, f, s0) ∧ replayR tg blk f 17 f s0 = (es.foldl applyS s0, x) := by
  refine ⟨h.pick ht, ?_⟩
  have := h.replay ht es.length 17 0 s0 (by omega) (by have := h.len; omega)
  simpa using this

theorem slot_far {n : Int} (_ : 0 ≤ n) : slotAt (n % 2).toNat ≠ slotAt ((n + 1) % 2).toNat ∧ 16 ≤ slotAt (n % 2).toNat ∧ 16 ≤ slotAt ((n + 1) % 2).toNat ∧ (slotAt (n % 2).toNat + 21 ≤ slotAt ((n + 1) % 2).toNat ∨ slotAt ((n + 1) % 2).toNat + 21 ≤ slotAt (n % 2).toNat) := by
  have : n % 2 = 0 ∧ (n + 1) % 2 = 1 ∨ n % 2 = 1 ∧ (n + 1) % 2 = 0 := by omega
  rcases this with ⟨a, b⟩ | ⟨a, b⟩
  · rw [a, b]; decide
  · rw [a, b]; decide
/-- an event is added -/
theorem SInv.add (h : SInv tg blk n f x s0 es) {e : Ev} (he : evB e = true) (hl : es.length < 16) (hx : x < 1000000) : SInv tg (upd blk (x % 16).toNat (evRec tg x e)) n f (x + 1) s0 (es ++ [e]) := by
  have hf := h.f0
  have hxe := h.xe
  have hj : (x % 16).toNat < 16 := by omega
  obtain ⟨h1, h2, h3, h4⟩ := slot_far h.n0
  refine ⟨h.fit, h.n0, h.n1, hf, by omega, by rw [List.length_append, List.length_singleton]; omega, by rw [List.length_append, List.length_singleton]; omega, fun g hg => ?_, fun i g hg => ?_, fun j hj' => ?_, fun h0 => ?_, fun h0 => ?_, ?_⟩
  · rw [List.mem_append, List.mem_singleton] at hg
    rcases hg with hg | rfl
    · exact h.evs g hg
    · exact he
  · by_cases hi : i < es.length
    · rw [List.getElem?_append_left hi] at hg
      rw [upd_other _ _ (by omega)]
      exact h.log i g hg
    · have hil := (List.getElem?_eq_some_iff.1 hg).1
      rw [List.length_append, List.length_singleton] at hil
      have hie : i = es.length := by omega
      subst hie
      rw [List.getElem?_append_right (Nat.le_refl _), Nat.sub_self] at hg
      simp at hg
      subst hg
      rw [← hxe, upd_same]
  · by_cases hje : j = (x % 16).toNat
    · subst hje
      rw [upd_same]
      exact .inr ⟨x, e, by omega, by omega, by omega, rfl⟩
    · rw [upd_other _ _ hje]
      rcases h.old j hj' with e' | ⟨m, g, a, b, c, d⟩
      · exact .inl e'
      · exact .inr ⟨m, g, a, by omega, c, d⟩
  · rw [upd_other _ _ (by rw [slot0]; omega)]
    exact h.none_ h0
  · obtain ⟨a, b⟩ := h.here h0
    refine ⟨by rw [upd_other _ _ (by omega)]; exact a, fun i g hg => by rw [upd_other _ _ (by omega)]; exact b i g hg⟩
  · rw [upd_other _ _ (by omega)]
    exact h.other
/-- the other slot's families may be anything -/
theorem SInv.part (h : SInv tg blk n f x s0 es) {blk' : Nat → List UInt8} (hp : ∀ j, (j ≤ slotAt ((n + 1) % 2).toNat ∨ slotAt ((n + 1) % 2).toNat + 21 ≤ j) → blk' j = blk j) : SInv tg blk' n f x s0 es := by
  obtain ⟨h1, h2, h3, h4⟩ := slot_far h.n0
  have hlen := h.fit.len
  refine ⟨h.fit, h.n0, h.n1, h.f0, h.x1, h.xe, h.len, h.evs, fun i g hg => ?_, fun j hj => ?_, fun h0 => ?_, fun h0 => ?_, ?_⟩
  · rw [hp _ (by omega)]
    exact h.log i g hg
  · rw [hp _ (by omega)]
    exact h.old j hj
  · rw [hp _ (by subst h0; exact .inl (by decide))]
    exact h.none_ h0
  · obtain ⟨a, b⟩ := h.here h0
    refine ⟨by rw [hp _ (by omega)]; exact a, fun i g hg => ?_⟩
    have := (List.getElem?_eq_some_iff.1 hg).1
    rw [hp _ (by omega)]
    exact b i g hg
  · rw [hp _ (.inl (Nat.le_refl _))]
    exact h.other
/-- the other slot is saved whole -/
theorem SInv.saved (h : SInv tg blk n f x s0 es) (hfit : Fit (es.foldl applyS s0)) (hn : n < 1000000) {blk' : Nat → List UInt8} (hlow : ∀ j, (j < slotAt ((n + 1) % 2).toNat ∨ slotAt ((n + 1) % 2).toNat + 21 ≤ j) → blk' j = blk j)
    (hh : blk' (slotAt ((n + 1) % 2).toNat) = headL tg (n + 1) x (es.foldl applyS s0)) (hb : ∀ i g, (es.foldl applyS s0).fams[i]? = some g → blk' (slotAt ((n + 1) % 2).toNat + 1 + i) = evL (putEv g)) :
    SInv tg blk' (n + 1) x x (es.foldl applyS s0) [] := by
  obtain ⟨h1, h2, h3, h4⟩ := slot_far h.n0
  have hn0 := h.n0
  have hf := h.f0
  have hxe := h.xe
  refine ⟨hfit, by omega, by omega, by omega, h.x1, by simp, Nat.zero_le _, fun e he => by simp at he, fun i e he => by simp at he, fun j hj => ?_, fun h0 => by omega, fun _ => ⟨hh, hb⟩, ?_⟩
  · rw [hlow _ (by omega)]
    exact h.old j hj
  · have e2 : ((n + 1 + 1) % 2).toNat = (n % 2).toNat := by omega
    rw [e2, hlow _ (by omega)]
    rcases Int.lt_or_eq_of_le hn0 with hp | hp
    · exact .inr ⟨n, f, s0, h.fit, h.okn, h.okf, by omega, (h.here hp).1⟩
    · subst hp
      exact .inl (h.none_ rfl).2.2
end
end Go.Proofs.YtepjcdjpikbbjaaGreatDoor

/-
  A slot's writes, one behind the other: what lies on the disk behind some of them, and behind all.
-/
namespace Go.Proofs.YtepjcdjpikbbjaaGreatDoor

/-- the writes of a slot's families, from the i-th on -/
def famU (at_ : Nat) : Nat → List Fam → List (Nat × List UInt8)
  | _, [] => []
  | i, f :: r => (at_ + 1 + i, evL (putEv f)) :: famU at_ (i + 1) r
def updAll (blk : Nat → List UInt8) (ws : List (Nat × List UInt8)) : Nat → List UInt8 := ws.foldl (fun b w => upd b w.1 w.2) blk
theorem updAll_cons (blk : Nat → List UInt8) (w : Nat × List UInt8) (ws : List (Nat × List UInt8)) : updAll blk (w :: ws) = updAll (upd blk w.1 w.2) ws := rfl
theorem updAll_snoc (blk : Nat → List UInt8) (ws : List (Nat × List UInt8)) (w : Nat × List UInt8) : updAll blk (ws ++ [w]) = upd (updAll blk ws) w.1 w.2 := by
  unfold updAll
  rw [List.foldl_append]
  rfl
/-- elsewhere nothing turns -/
theorem updAll_out (at_ j : Nat) : ∀ (L : List Fam) (i : Nat) (blk : Nat → List UInt8), (j < at_ + 1 + i ∨ at_ + 1 + i + L.length ≤ j) → updAll blk (famU at_ i L) j = blk j
  | [], _, _, _ => rfl
  | f :: r, i, blk, h => by
    rw [List.length_cons] at h
    rw [famU, updAll_cons, updAll_out at_ j r (i + 1) _ (by omega)]
    exact upd_other _ _ (by omega)
/-- each family lies at its place -/
theorem updAll_in (at_ : Nat) : ∀ (L : List Fam) (i k : Nat) (f : Fam) (blk : Nat → List UInt8), L[k]? = some f → updAll blk (famU at_ i L) (at_ + 1 + (i + k)) = evL (putEv f)
  | [], _, _, _, _, h => by simp at h
  | g :: r, i, 0, f, blk, h => by
    simp at h
    subst h
    rw [famU, updAll_cons, updAll_out at_ _ r (i + 1) _ (by omega), Nat.add_zero]
    exact upd_same _ _ _
  | g :: r, i, k + 1, f, blk, h => by
    rw [famU, updAll_cons]
    have := updAll_in at_ r (i + 1) k f (upd blk (at_ + 1 + i) (evL (putEv g))) (by simpa using h)
    rw [show i + 1 + k = i + (k + 1) by omega] at this
    exact this
theorem famU_take (at_ : Nat) : ∀ (m i : Nat) (L : List Fam), (famU at_ i L).take m = famU at_ i (L.take m)
  | 0, _, _ => by simp [famU]
  | m + 1, _, [] => by simp [famU]
  | m + 1, i, f :: r => by rw [famU, List.take_succ_cons, famU_take at_ m (i + 1) r, List.take_succ_cons, famU]
theorem famU_get (at_ : Nat) : ∀ (L : List Fam) (i k : Nat) (f : Fam), L[k]? = some f → (famU at_ i L)[k]? = some (at_ + 1 + (i + k), evL (putEv f))
  | [], _, _, _, h => by simp at h
  | g :: r, i, 0, f, h => by
    simp at h
    subst h
    simp [famU]
  | g :: r, i, k + 1, f, h => by
    have := famU_get at_ r (i + 1) k f (by simpa using h)
    rw [famU, List.getElem?_cons_succ, this, show i + 1 + k = i + (k + 1) by omega]
/-- one more is written -/
theorem famU_next (at_ : Nat) (L : List Fam) (m : Nat) (f : Fam) (h : L[m]? = some f) (blk : Nat → List UInt8) : updAll blk (famU at_ 0 (L.take (m + 1))) = upd (updAll blk (famU at_ 0 (L.take m))) (at_ + 1 + m) (evL (putEv f)) := by
  have h1 : famU at_ 0 (L.take (m + 1)) = famU at_ 0 (L.take m) ++ [(at_ + 1 + m, evL (putEv f))] := by
    rw [← famU_take, ← famU_take, List.take_add_one, famU_get at_ L 0 m f h, Nat.zero_add]
    rfl
  rw [h1, updAll_snoc]

section
variable {tg : Int → List UInt8 → List UInt8} {blk : Nat → List UInt8} {n f x : Int} {s0 : St} {es : List Ev}
/-- the power goes off among a slot's families: what lay there lies there -/
theorem SInv.cut (h : SInv tg blk n f x s0 es) (L : List Fam) (hl : L.length ≤ 20) : SInv tg (updAll blk (famU (slotAt ((n + 1) % 2).toNat) 0 L)) n f x s0 es :=
  h.part fun j hj => updAll_out _ j L 0 blk (by omega)
/-- the slot's head is written last: all is saved -/
theorem SInv.whole (h : SInv tg blk n f x s0 es) (hfit : Fit (es.foldl applyS s0)) (hn : n < 1000000) :
    SInv tg (upd (updAll blk (famU (slotAt ((n + 1) % 2).toNat) 0 (es.foldl applyS s0).fams)) (slotAt ((n + 1) % 2).toNat) (headL tg (n + 1) x (es.foldl applyS s0))) (n + 1) x x (es.foldl applyS s0) [] := by
  have hl := hfit.len
  refine h.saved hfit hn (fun j hj => ?_) (upd_same _ _ _) (fun i g hg => ?_)
  · rw [upd_other _ _ (by omega)]
    exact updAll_out _ j _ 0 blk (by omega)
  · have := updAll_in (slotAt ((n + 1) % 2).toNat) (es.foldl applyS s0).fams 0 i g blk hg
    rw [Nat.zero_add] at this
    rw [upd_other _ _ (by omega)]
    exact this
end
end Go.Proofs.YtepjcdjpikbbjaaGreatDoor

/-
  A disk's blocks as texts; a slot's writes to it, as long as the power is on.
-/
namespace Go.Proofs.YtepjcdjpikbbjaaGreatDoor
open Go.RowKit

/-- a disk's blocks, as texts -/
def blkOf (D : Dk) (k : Nat) : List UInt8 := (D.blk.getD k ByteArray.empty).data.toList
/-- no block is too long -/
def Dk.fits (D : Dk) : Prop := ∀ k, (D.blk.getD k ByteArray.empty).size ≤ 240
/-- is the power off? -/
def offB (D : Dk) : Bool := D.cut && D.left == 0
theorem blkOf_size {D : Dk} (h : D.fits) (k : Nat) : (blkOf D k).length ≤ 240 := by
  unfold blkOf
  rw [size_data]
  exact h k
theorem blkOf_put {D : Dk} {k : Nat} {s : ByteArray} (hl : D.blk.length = 90) (hk : k < 90) : blkOf (D.put k s) = upd (blkOf D) k s.data.toList := by
  funext j
  unfold blkOf Dk.put upd
  dsimp only
  by_cases h : j = k
  · subst h
    rw [if_pos rfl, List.getD_eq_getElem?_getD, List.getElem?_set_self (by omega)]
    rfl
  · rw [if_neg h, List.getD_eq_getElem?_getD, List.getElem?_set_ne (Ne.symm h), ← List.getD_eq_getElem?_getD]
theorem put_len (D : Dk) (k : Nat) (s : ByteArray) : (D.put k s).blk.length = D.blk.length := by
  unfold Dk.put
  simp
theorem fits_put {D : Dk} (h : D.fits) {s : ByteArray} (hs : s.size ≤ 240) (k : Nat) : (D.put k s).fits := by
  intro j
  unfold Dk.put
  dsimp only
  by_cases hj : j = k
  · subst hj
    by_cases hlt : j < D.blk.length
    · rw [List.getD_eq_getElem?_getD, List.getElem?_set_self hlt]
      exact hs
    · rw [List.getD_eq_getElem?_getD, List.getElem?_eq_none (by simp; omega)]
      exact Nat.zero_le _
  · rw [List.getD_eq_getElem?_getD, List.getElem?_set_ne (Ne.symm hj), ← List.getD_eq_getElem?_getD]
    exact h j
theorem txt_size_ (l : List UInt8) : (txt l).size = l.length := by rw [← size_data, data_txt]

/-- the disk behind the first m families of a slot -/
def famD (D : Dk) (at_ : Nat) (L : List Fam) : Nat → Dk
  | 0 => D
  | m + 1 => (famD D at_ L m).put (at_ + 1 + m) (txt (evL (putEv (L.getD m Fam.zero))))
theorem famD_len (D : Dk) (at_ : Nat) (L : List Fam) : ∀ m, (famD D at_ L m).blk.length = D.blk.length
  | 0 => rfl
  | m + 1 => by rw [famD, put_len, famD_len D at_ L m]
theorem famD_blk {D : Dk} {at_ : Nat} {L : List Fam} (hl : D.blk.length = 90) (hat : at_ + 21 ≤ 90) (hL : L.length ≤ 20) : ∀ m, m ≤ L.length → blkOf (famD D at_ L m) = updAll (blkOf D) (famU at_ 0 (L.take m))
  | 0, _ => by simp [famD, famU, updAll]
  | m + 1, hm => by
    have hlt : m < L.length := by omega
    have hf := List.getElem?_eq_getElem hlt
    rw [famD, blkOf_put (by rw [famD_len]; exact hl) (by omega), famD_blk hl hat hL m (by omega), famU_next at_ L m _ hf, data_txt]
    congr 3
    rw [List.getD_eq_getElem?_getD, hf]
    rfl
theorem famD_fits {D : Dk} {at_ : Nat} {L : List Fam} (h : D.fits) (hL : ∀ f ∈ L, famB f = true) : ∀ m, m ≤ L.length → (famD D at_ L m).fits
  | 0, _ => h
  | m + 1, hm => by
    have hlt : m < L.length := by omega
    have hf := List.getElem?_eq_getElem hlt
    rw [famD]
    refine fits_put (famD_fits h hL m (by omega)) ?_ _
    rw [List.getD_eq_getElem?_getD, hf, txt_size_]
    have := evL_len (putEv_may (hL _ (List.getElem_mem hlt)))
    show (evL (putEv L[m])).length ≤ 240
    omega
/-- a slot is saved: whole, or the power went off -/
def SaveOut (D : Dk) (at_ : Nat) (L : List Fam) (head : ByteArray) (D' : Dk) (ok : Bool) : Prop :=
  (ok = true ∧ (∀ m, m ≤ L.length → offB (famD D at_ L m) = false) ∧ D' = (famD D at_ L L.length).put at_ head) ∨
  (ok = false ∧ ∃ m, m ≤ L.length ∧ (∀ j, j < m → offB (famD D at_ L j) = false) ∧ offB (famD D at_ L m) = true ∧ D' = famD D at_ L m)
section
variable {tg : Int → List UInt8 → List UInt8} {D D' : Dk} {n f x : Int} {s0 : St} {es : List Ev}
theorem slot_top (n : Int) : slotAt (n % 2).toNat + 21 ≤ 90 := by
  have : n % 2 = 0 ∨ n % 2 = 1 := by omega
  rcases this with h | h <;> rw [h] <;> decide
/-- what lies on the disk behind a slot that was saved, or was not -/
theorem SInv.saveOut (h : SInv tg (blkOf D) n f x s0 es) (hfit : Fit (es.foldl applyS s0)) (hn : n < 1000000) (hl : D.blk.length = 90) {ok : Bool} (ho : SaveOut D (slotAt ((n + 1) % 2).toNat) (es.foldl applyS s0).fams (txt (headL tg (n + 1) x (es.foldl applyS s0))) D' ok) :
    (ok = true → SInv tg (blkOf D') (n + 1) x x (es.foldl applyS s0) []) ∧ (ok = false → SInv tg (blkOf D') n f x s0 es) ∧ D'.blk.length = 90 := by
  have hL := hfit.len
  have htop := slot_top (n + 1)
  rcases ho with ⟨rfl, _, rfl⟩ | ⟨rfl, m, hm, _, _, rfl⟩
  · refine ⟨fun _ => ?_, fun h => (by cases h), by rw [put_len, famD_len, hl]⟩
    rw [blkOf_put (by rw [famD_len]; exact hl) (by omega), famD_blk hl htop hL _ (Nat.le_refl _), List.take_length, data_txt]
    exact h.whole hfit hn
  · refine ⟨fun h => (by cases h), fun _ => ?_, by rw [famD_len, hl]⟩
    rw [famD_blk hl htop hL m hm]
    exact h.cut _ (by rw [List.length_take]; omega)
end
end Go.Proofs.YtepjcdjpikbbjaaGreatDoor

/-
  A store as the document tells it, in plain Lean: its state, the log's events, the writes, the power; what Add, Save, Cut and Open make of it; and a disk's writes counted so.
-/
namespace Go.Proofs.YtepjcdjpikbbjaaGreatDoor
open Go.RowKit

structure SS where
  s : St
  log : Int
  writes : Int
  off : Bool
  left : Int
  down : Bool
def offS (z : SS) : Bool := z.off && z.left == 0
def oneS (z : SS) : SS := ⟨z.s, z.log, wrap64 (z.writes + 1), z.off, wrap64 (z.left - 1), z.down⟩
def downS (z : SS) : SS := ⟨z.s, z.log, z.writes, z.off, z.left, true⟩
/-- so many writes -/
def runS : Nat → SS → SS × Bool
  | 0, z => (z, true)
  | n + 1, z => if offS z then (downS z, false) else runS n (oneS z)
def logS (z : SS) (n : Int) : SS := ⟨z.s, n, z.writes, z.off, z.left, z.down⟩
def saveS (z : SS) : SS × Int := if z.down then (z, 6) else if (runS (z.s.fams.length + 1) z).2 then (logS (runS (z.s.fams.length + 1) z).1 0, 0) else ((runS (z.s.fams.length + 1) z).1, 14)
def nowS (z : SS) (s : St) : SS := ⟨s, z.log + 1, z.writes, z.off, z.left, z.down⟩
/-- the event's own write -/
def lastS (z : SS) (s : St) : SS × Int := if offS z then (downS z, 14) else (nowS (oneS z) s, 0)
def addS (z : SS) (e : Ev) : SS × Int :=
  if z.down then (z, 6)
  else if evB e = false then (z, 1)
  else if 20 < (applyS z.s e).fams.length then (z, 12)
  else if z.log = 16 then (if (saveS z).2 = 0 then lastS (saveS z).1 (applyS z.s e) else saveS z)
  else lastS z (applyS z.s e)
def cutS (z : SS) (n : Int) : SS := ⟨z.s, z.log, z.writes, decide (0 ≤ n), n, z.down⟩
def openS (z : SS) : SS := ⟨z.s, z.log, z.writes, false, z.left, false⟩
def newS : SS := ⟨⟨0, 1, []⟩, 0, 0, false, 0, false⟩

theorem runS_yes {z : SS} (n : Nat) (h : offS z = false) : runS (n + 1) z = runS n (oneS z) := by rw [runS, h]; rfl
theorem runS_no {z : SS} (n : Nat) (h : offS z = true) : runS (n + 1) z = (downS z, false) := by rw [runS, h]; rfl
/-- behind so many writes -/
def manyS : Nat → SS → SS
  | 0, z => z
  | n + 1, z => oneS (manyS n z)
theorem manyS_in : ∀ (n : Nat) (z : SS), manyS n (oneS z) = oneS (manyS n z)
  | 0, _ => rfl
  | n + 1, z => by rw [manyS, manyS_in n z, manyS]
theorem runS_many : ∀ (m k : Nat) (z : SS), (∀ j, j < m → offS (manyS j z) = false) → runS (m + k) z = runS k (manyS m z)
  | 0, k, z, _ => by rw [Nat.zero_add]; rfl
  | m + 1, k, z, h => by
    have h0 : offS z = false := h 0 (Nat.succ_pos m)
    rw [show m + 1 + k = m + k + 1 by omega, runS_yes _ h0, runS_many m k (oneS z) fun j hj => by rw [manyS_in]; exact h (j + 1) (Nat.succ_lt_succ hj), manyS_in]
    rfl
theorem manyS_keeps : ∀ (n : Nat) (z : SS), (manyS n z).s = z.s ∧ (manyS n z).log = z.log ∧ (manyS n z).off = z.off ∧ (manyS n z).down = z.down
  | 0, _ => ⟨rfl, rfl, rfl, rfl⟩
  | n + 1, z => manyS_keeps n z

/-- the disk's writes, counted -/
structure DR (z : SS) (D : Dk) : Prop where
  writes : z.writes = D.writes
  off : z.off = D.cut
  left : D.cut = true → z.left = D.left
section
variable {z : SS} {D : Dk}
theorem DR.isOff (h : DR z D) : offS z = offB D := by
  unfold offS offB
  rw [h.off]
  rcases hc : D.cut with _ | _
  · rfl
  · rw [h.left hc]
theorem DR.put (h : DR z D) (k : Nat) (s : ByteArray) : DR (oneS z) (D.put k s) := ⟨by show wrap64 _ = wrap64 _; rw [h.writes], h.off, fun hc => by show wrap64 _ = wrap64 _; rw [h.left hc]⟩
theorem DR.famD (h : DR z D) (at_ : Nat) (L : List Fam) : ∀ m, DR (manyS m z) (famD D at_ L m)
  | 0 => h
  | m + 1 => (h.famD at_ L m).put _ _
theorem DR.cutAt (h : DR z D) (n : Int) : DR (cutS z n) (D.cutAt n) := by
  refine ⟨h.writes, rfl, fun hc => ?_⟩
  have hn : 0 ≤ n := of_decide_eq_true hc
  show n = if n < 0 then 0 else n
  rw [if_neg (by omega)]
theorem DR.same {z' : SS} (h : DR z D) (h1 : z'.writes = z.writes) (h2 : z'.off = z.off) (h3 : z'.left = z.left) : DR z' D := ⟨h1.trans h.writes, h2.trans h.off, fun hc => h3.trans (h.left hc)⟩
theorem DR.down (h : DR z D) : DR (downS z) D := h.same rfl rfl rfl
/-- a slot's writes -/
theorem DR.save (h : DR z D) {at_ : Nat} {L : List Fam} {head : ByteArray} {D' : Dk} {ok : Bool} (ho : SaveOut D at_ L head D' ok) :
    (ok = true → runS (L.length + 1) z = (manyS (L.length + 1) z, true) ∧ DR (manyS (L.length + 1) z) D') ∧
    (ok = false → ∃ m, runS (L.length + 1) z = (downS (manyS m z), false) ∧ DR (downS (manyS m z)) D') := by
  rcases ho with ⟨rfl, h1, rfl⟩ | ⟨rfl, m, hm, h1, h2, rfl⟩
  · refine ⟨fun _ => ⟨?_, (h.famD at_ L L.length).put _ _⟩, fun e => (by cases e)⟩
    rw [runS_many L.length 1 z fun j hj => by rw [(h.famD at_ L j).isOff]; exact h1 j (Nat.le_of_lt hj)]
    rw [runS_yes 0 (by rw [(h.famD at_ L L.length).isOff]; exact h1 _ (Nat.le_refl _))]
    rfl
  · refine ⟨fun e => (by cases e), fun _ => ⟨m, ?_, (h.famD at_ L m).down⟩⟩
    obtain ⟨k, hk⟩ : ∃ k, L.length + 1 = m + (k + 1) := ⟨L.length - m, by omega⟩
    rw [hk, runS_many m (k + 1) z fun j hj => by rw [(h.famD at_ L j).isOff]; exact h1 j hj]
    exact runS_no k (by rw [(h.famD at_ L m).isOff]; exact h2)
end
/-- what Save tells, by what came of the writes -/
theorem saveS_yes {z : SS} (hd : z.down = false) (h : runS (z.s.fams.length + 1) z = (manyS (z.s.fams.length + 1) z, true)) : saveS z = (logS (manyS (z.s.fams.length + 1) z) 0, 0) := by
  unfold saveS
  rw [hd, h]
  rfl
theorem saveS_no {z : SS} {m : Nat} (hd : z.down = false) (h : runS (z.s.fams.length + 1) z = (downS (manyS m z), false)) : saveS z = (downS (manyS m z), 14) := by
  unfold saveS
  rw [hd, h]
  rfl
theorem saveS_down {z : SS} (hd : z.down = true) : saveS z = (z, 6) := by unfold saveS; rw [hd]; rfl
theorem addS_down {z : SS} {e : Ev} (hd : z.down = true) : addS z e = (z, 6) := by unfold addS; rw [hd]; rfl
theorem addS_bad {z : SS} {e : Ev} (hd : z.down = false) (he : evB e = false) : addS z e = (z, 1) := by unfold addS; rw [hd, if_neg (by decide), if_pos he]
theorem addS_full {z : SS} {e : Ev} (hd : z.down = false) (he : evB e = true) (hl : 20 < (applyS z.s e).fams.length) : addS z e = (z, 12) := by
  unfold addS; rw [hd, if_neg (by decide), if_neg (by rw [he]; decide), if_pos hl]
theorem addS_one {z : SS} {e : Ev} (hd : z.down = false) (he : evB e = true) (hl : (applyS z.s e).fams.length ≤ 20) (h16 : z.log ≠ 16) : addS z e = lastS z (applyS z.s e) := by
  unfold addS; rw [hd, if_neg (by decide), if_neg (by rw [he]; decide), if_neg (by omega), if_neg h16]
theorem addS_save {z : SS} {e : Ev} (hd : z.down = false) (he : evB e = true) (hl : (applyS z.s e).fams.length ≤ 20) (h16 : z.log = 16) : addS z e = if (saveS z).2 = 0 then lastS (saveS z).1 (applyS z.s e) else saveS z := by
  unfold addS; rw [hd, if_neg (by decide), if_neg (by rw [he]; decide), if_neg (by omega), if_pos h16]
theorem lastS_off {z : SS} {s : St} (h : offS z = true) : lastS z s = (downS z, 14) := if_pos h
theorem lastS_on {z : SS} {s : St} (h : offS z = false) : lastS z s = (nowS (oneS z) s, 0) := if_neg (by rw [h]; decide)
end Go.Proofs.YtepjcdjpikbbjaaGreatDoor
