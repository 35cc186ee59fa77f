/-
  Families in a row, in plain Lean: their order by number; one put among them; one dropped; a state behind an event.
-/
import Derived.Test.YtdogilbnbbeljaaGreatDoorH03
namespace Go.Proofs.YtdogilbnbbeljaaGreatDoor

/-- by their numbers, each once -/
def Asc (L : List Fam) : Prop := L.Pairwise fun a b => a.id < b.id
/-- how many stand ahead of a number -/
def ahead (L : List Fam) (n : Int) : Nat := (L.takeWhile fun f => decide (f.id < n)).length
/-- is the number there? -/
def hasB (L : List Fam) (n : Int) : Bool := match L[ahead L n]? with
  | some f => decide (f.id = n)
  | none => false
def putL (L : List Fam) (f : Fam) : List Fam := if hasB L f.id then L.set (ahead L f.id) f else L.take (ahead L f.id) ++ f :: L.drop (ahead L f.id)
def dropL (L : List Fam) (n : Int) : List Fam := if hasB L n then L.take (ahead L n) ++ L.drop (ahead L n + 1) else L

structure St where
  clock : Int
  next : Int
  fams : List Fam
def applyS (s : St) (e : Ev) : St :=
  if e.kind = 1 then ⟨s.clock, max s.next (e.fam.id + 1), putL s.fams e.fam⟩
  else if e.kind = 2 then ⟨s.clock, s.next, dropL s.fams e.id⟩
  else if e.kind = 3 then ⟨e.time, s.next, s.fams⟩
  else s

theorem ahead_le (L : List Fam) (n : Int) : ahead L n ≤ L.length := (List.takeWhile_sublist _).length_le
theorem ahead_nil (n : Int) : ahead [] n = 0 := rfl
theorem ahead_cons (f : Fam) (L : List Fam) (n : Int) : ahead (f :: L) n = if f.id < n then ahead L n + 1 else 0 := by
  unfold ahead
  rw [List.takeWhile_cons]
  by_cases h : f.id < n
  · simp [h]
  · simp [h]
/-- ahead of that place all are below the number -/
theorem ahead_lt : ∀ {L : List Fam} {n : Int} {j : Nat}, j < ahead L n → ∃ f, L[j]? = some f ∧ f.id < n
  | [], n, j, h => by simp [ahead_nil] at h
  | f :: L, n, j, h => by
    rw [ahead_cons] at h
    split at h
    · rename_i hf
      cases j with
      | zero => exact ⟨f, rfl, hf⟩
      | succ j => exact ahead_lt (L := L) (by omega)
    · omega
/-- from there on none is -/
theorem ahead_ge : ∀ {L : List Fam} {n : Int}, Asc L → ∀ {j : Nat} {f : Fam}, ahead L n ≤ j → L[j]? = some f → n ≤ f.id
  | [], n, _, j, f, _, h => by simp at h
  | g :: L, n, ha, j, f, hj, h => by
    rw [ahead_cons] at hj
    obtain ⟨h1, h2⟩ := List.pairwise_cons.1 ha
    split at hj
    · cases j with
      | zero => omega
      | succ j => exact ahead_ge h2 (j := j) (by omega) (by simpa using h)
    · rename_i hg
      cases j with
      | zero =>
        simp at h
        subst h
        omega
      | succ j =>
        have hm : f ∈ L := List.mem_of_getElem? (by simpa using h)
        have := h1 f hm
        omega
/-- the one place of a search -/
theorem ahead_eq {L : List Fam} {n : Int} (ha : Asc L) {k : Nat} (hk : k ≤ L.length) (h1 : ∀ j f, j < k → L[j]? = some f → f.id < n) (h2 : ∀ j f, k ≤ j → L[j]? = some f → n ≤ f.id) : ahead L n = k := by
  rcases Nat.lt_trichotomy (ahead L n) k with h | h | h
  · obtain ⟨f, hf⟩ : ∃ f, L[ahead L n]? = some f := ⟨_, List.getElem?_eq_getElem (by omega)⟩
    have a := h1 _ f h hf
    have b := ahead_ge ha (Nat.le_refl _) hf
    omega
  · exact h
  · obtain ⟨f, hf, hlt⟩ := ahead_lt h
    have := h2 k f (Nat.le_refl _) hf
    omega
theorem hasB_some {L : List Fam} {n : Int} {f : Fam} (h : L[ahead L n]? = some f) : hasB L n = decide (f.id = n) := by unfold hasB; rw [h]
theorem hasB_none {L : List Fam} {n : Int} (h : ahead L n = L.length) : hasB L n = false := by
  unfold hasB
  rw [List.getElem?_eq_none (by omega)]
theorem hasB_lt {L : List Fam} {n : Int} (h : hasB L n = true) : ahead L n < L.length := by
  rcases Nat.lt_or_ge (ahead L n) L.length with h' | h'
  · exact h'
  · have := ahead_le L n
    rw [hasB_none (by omega)] at h
    cases h
theorem putL_len (L : List Fam) (f : Fam) : (putL L f).length ≤ L.length + 1 := by
  unfold putL
  split
  · simp
  · have := ahead_le L f.id
    simp
    omega
theorem dropL_len (L : List Fam) (n : Int) : (dropL L n).length ≤ L.length := by
  unfold dropL
  split
  · have := ahead_le L n
    simp
    omega
  · exact Nat.le_refl _
theorem mem_putL {L : List Fam} {f g : Fam} (h : g ∈ putL L f) : g = f ∨ g ∈ L := by
  unfold putL at h
  split at h
  · rcases List.mem_or_eq_of_mem_set h with h | h
    · exact .inr h
    · exact .inl h
  · rw [List.mem_append, List.mem_cons] at h
    rcases h with h | h | h
    · exact .inr (List.mem_of_mem_take h)
    · exact .inl h
    · exact .inr (List.mem_of_mem_drop h)
theorem mem_dropL {L : List Fam} {n : Int} {g : Fam} (h : g ∈ dropL L n) : g ∈ L := by
  unfold dropL at h
  split at h
  · rcases List.mem_append.1 h with h | h
    · exact List.mem_of_mem_take h
    · exact List.mem_of_mem_drop h
  · exact h
/-- those ahead are below the number, those behind above it, or it -/
theorem take_below {L : List Fam} {n : Int} {g : Fam} (h : g ∈ L.take (ahead L n)) : g.id < n := by
  obtain ⟨j, hj⟩ := List.mem_iff_getElem?.1 h
  rw [List.getElem?_take] at hj
  split at hj
  · rename_i hlt
    obtain ⟨f, hf, hid⟩ := ahead_lt hlt
    rw [hf] at hj
    cases hj
    exact hid
  · cases hj
theorem drop_above {L : List Fam} {n : Int} (ha : Asc L) {g : Fam} (h : g ∈ L.drop (ahead L n)) : n ≤ g.id := by
  obtain ⟨j, hj⟩ := List.mem_iff_getElem?.1 h
  rw [List.getElem?_drop] at hj
  exact ahead_ge ha (Nat.le_add_right _ _) hj
theorem drop_over {L : List Fam} {n : Int} (ha : Asc L) (hb : hasB L n = true) {g : Fam} (h : g ∈ L.drop (ahead L n + 1)) : n < g.id := by
  have hlt := hasB_lt hb
  have hd := List.drop_eq_getElem_cons hlt
  have hp : (L.drop (ahead L n)).Pairwise fun a b => a.id < b.id := ha.sublist (List.drop_sublist _ _)
  rw [hd] at hp
  have h1 := (List.pairwise_cons.1 hp).1 g h
  rw [hasB_some (List.getElem?_eq_getElem hlt), decide_eq_true_eq] at hb
  omega
theorem drop_over' {L : List Fam} {n : Int} (ha : Asc L) (hb : hasB L n = false) {g : Fam} (h : g ∈ L.drop (ahead L n)) : n < g.id := by
  have h1 := drop_above ha h
  rcases Int.lt_or_eq_of_le h1 with h2 | h2
  · exact h2
  · exfalso
    rcases Nat.lt_or_ge (ahead L n) L.length with hlt | hge
    · have hd := List.drop_eq_getElem_cons hlt
      have hp : (L.drop (ahead L n)).Pairwise fun a b => a.id < b.id := ha.sublist (List.drop_sublist _ _)
      rw [hd] at hp h
      have h3 : n ≤ L[ahead L n].id := ahead_ge ha (Nat.le_refl _) (List.getElem?_eq_getElem hlt)
      rw [hasB_some (List.getElem?_eq_getElem hlt), decide_eq_false_iff_not] at hb
      rcases List.mem_cons.1 h with rfl | h
      · omega
      · have := (List.pairwise_cons.1 hp).1 g h
        omega
    · rw [List.drop_eq_nil_of_le hge] at h
      simp at h
theorem set_parts {L : List Fam} {k : Nat} (h : k < L.length) (f : Fam) : L.set k f = L.take k ++ f :: L.drop (k + 1) := by
  rw [List.set_eq_take_append_cons_drop, if_pos h]
theorem asc_parts {a b : List Fam} {f : Fam} (ha : Asc a) (hb : Asc b) (h1 : ∀ g ∈ a, g.id < f.id) (h2 : ∀ g ∈ b, f.id < g.id) : Asc (a ++ f :: b) := by
  refine List.pairwise_append.2 ⟨ha, List.pairwise_cons.2 ⟨h2, hb⟩, ?_⟩
  intro x hx y hy
  have hx' := h1 x hx
  rcases List.mem_cons.1 hy with rfl | hy
  · exact hx'
  · have := h2 y hy
    omega
theorem putL_parts (L : List Fam) (f : Fam) : ∃ b, putL L f = L.take (ahead L f.id) ++ f :: b ∧ (Asc L → Asc b ∧ ∀ g ∈ b, f.id < g.id) := by
  unfold putL
  by_cases hb : hasB L f.id = true
  · rw [if_pos hb, set_parts (hasB_lt hb)]
    exact ⟨_, rfl, fun ha => ⟨ha.sublist (List.drop_sublist _ _), fun g hg => drop_over ha hb hg⟩⟩
  · rw [if_neg hb]
    exact ⟨_, rfl, fun ha => ⟨ha.sublist (List.drop_sublist _ _), fun g hg => drop_over' ha (by simpa using hb) hg⟩⟩
theorem putL_asc {L : List Fam} (ha : Asc L) (f : Fam) : Asc (putL L f) := by
  obtain ⟨b, e, h⟩ := putL_parts L f
  rw [e]
  exact asc_parts (ha.sublist (List.take_sublist _ _)) (h ha).1 (fun g hg => take_below hg) (h ha).2
theorem dropL_asc {L : List Fam} (ha : Asc L) (n : Int) : Asc (dropL L n) := by
  unfold dropL
  split
  · rename_i hb
    refine List.pairwise_append.2 ⟨ha.sublist (List.take_sublist _ _), ha.sublist (List.drop_sublist _ _), fun x hx y hy => ?_⟩
    have := take_below hx
    have := drop_over ha hb hy
    omega
  · exact ha
/-- fit to be told: in order, numbers in bounds -/
structure StOk (s : St) : Prop where
  asc : Asc s.fams
  ids : ∀ f ∈ s.fams, okN f.id = true
  len : s.fams.length ≤ 1000000
end Go.Proofs.YtdogilbnbbeljaaGreatDoor

/-
  EventBack in plain Lean: an event's line is at most 180 bytes, and is that event again; two events of two families make the same in whichever order.
-/
namespace Go.Proofs.YtdogilbnbbeljaaGreatDoor

theorem glue_sum (c : UInt8) : ∀ ws : List (List UInt8), (glue c ws).length ≤ (ws.map fun w => w.length + 1).sum
  | [] => by simp [glue]
  | [w] => by simp [glue]
  | w :: v :: r => by
    have := glue_sum c (v :: r)
    rw [glue, List.length_append, List.length_cons, List.map_cons, List.sum_cons]
    omega
theorem reqB_20 {l : List UInt8} (h : reqB l = true) : l.length ≤ 20 := by
  unfold reqB at h
  rw [Bool.or_eq_true, decide_eq_true_eq] at h
  rcases h with rfl | h
  · simp
  · exact nameB_len h
theorem wordL_le {l : List UInt8} {n : Nat} (h : l.length ≤ n) (hn : 1 ≤ n) : (wordL l).length ≤ n := by
  unfold wordL
  split
  · simpa using hn
  · exact h
/-- an event's line fits a block with its number -/
theorem evL_len {e : Ev} (h : evB e = true) : (evL e).length ≤ 180 := by
  unfold evL
  refine Nat.le_trans (glue_sum 32 _) ?_
  rcases evB_kind h with ⟨hk, _, _, hf⟩ | ⟨hk, _, _, hn⟩ | ⟨hk, _, _, hn⟩
  · obtain ⟨h1, h2, h3, h4, h5, h6, h7, h8⟩ := famB_parts hf
    have k1 := itoa_len h1
    have k2 := itoa_len h2
    have k3 := itoa_len h3
    have k4 := itoa_len h4
    have k5 := nameB_len h5
    have k6 := nameB_len h6
    have k7 := wordL_le (reqB_20 h7) (by decide)
    have k8 := wordL_le (scopeB_len h8) (by decide)
    have k9 : (deadL e.fam.dead).length = 1 := by unfold deadL; split <;> rfl
    rw [evW_1 hk]
    simp only [famW, List.map_cons, List.map_nil, List.sum_cons, List.sum_nil, List.length_cons, List.length_nil]
    omega
  · have := itoa_len hn
    rw [evW_2 hk]
    simp only [List.map_cons, List.map_nil, List.sum_cons, List.sum_nil, List.length_cons, List.length_nil]
    omega
  · have := itoa_len hn
    rw [evW_3 hk]
    simp only [List.map_cons, List.map_nil, List.sum_cons, List.sum_nil, List.length_cons, List.length_nil]
    omega

theorem unL_wordL {l : List UInt8} (h : (95 : UInt8) ∉ l) : unL (wordL l) = l := by
  unfold wordL
  split
  · rename_i e
    rw [e]
    rfl
  · unfold unL
    rw [if_neg]
    rintro rfl
    simp at h
theorem deadL_back (b : Bool) : decide (deadL b = [49]) = b := by cases b <;> decide
theorem cand_evW {e : Ev} (h : evB e = true) : cand (evW e) = e := by
  rcases evB_kind h with ⟨hk, hi, ht, hf⟩ | ⟨hk, hz, ht, hn⟩ | ⟨hk, hz, hi, hn⟩
  · obtain ⟨h1, h2, h3, h4, h5, h6, h7, h8⟩ := famB_parts hf
    have n7 : unL (wordL e.fam.request.data.toList) = e.fam.request.data.toList := unL_wordL (reqB_free h7 (by decide))
    have n8 : unL (wordL e.fam.scope.data.toList) = e.fam.scope.data.toList := unL_wordL (scopeB_free h8 (by decide) (by decide))
    rw [evW_1 hk]
    unfold famW cand
    obtain ⟨k, ⟨a, b, c, d, g, m, u, r, de⟩, id, ti⟩ := e
    dsimp only at *
    subst hk hi ht
    rw [n7, n8, atoiN_itoa h1, atoiN_itoa h2, atoiN_itoa h3, atoiN_itoa h4, txt_data, txt_data, txt_data, txt_data, deadL_back]
  · rw [evW_2 hk]
    obtain ⟨k, fam, id, ti⟩ := e
    dsimp only at *
    subst hk hz ht
    simp only [cand]
    rw [if_pos trivial, atoiN_itoa hn]
  · rw [evW_3 hk]
    obtain ⟨k, fam, id, ti⟩ := e
    dsimp only at *
    subst hk hz hi
    simp only [cand]
    rw [if_neg (by decide), atoiN_itoa hn]
/-- an event's line is that event again -/
theorem evL_back {e : Ev} (h : evB e = true) : readB (evL e) = true ∧ readE (evL e) = e := by
  have hc : cand (parts 32 (evL e)) = e := by rw [parts_evL h, cand_evW h]
  have hr : readB (evL e) = true := readB_iff.2 (by rw [hc]; exact ⟨h, rfl⟩)
  refine ⟨hr, ?_⟩
  unfold readE
  rw [if_pos hr, hc]

/-- the number that an event is about -/
theorem hasB_nil (n : Int) : hasB [] n = false := rfl
theorem putL_nil (f : Fam) : putL [] f = [f] := rfl
theorem dropL_nil (n : Int) : dropL [] n = [] := rfl
theorem hasB_one {f : Fam} {n : Int} (h : f.id ≠ n) : hasB [f] n = false := by
  unfold hasB
  rw [ahead_cons, ahead_nil]
  split
  · rename_i g hg
    split at hg
    · simp at hg
    · simp at hg
      subst hg
      simpa using h
  · rfl
theorem dropL_one {f : Fam} {n : Int} (h : f.id ≠ n) : dropL [f] n = [f] := by
  unfold dropL
  rw [hasB_one h]
  rfl
theorem putL_one {f g : Fam} (h : f.id ≠ g.id) : putL [f] g = if f.id < g.id then [f, g] else [g, f] := by
  unfold putL
  rw [hasB_one h, ahead_cons, ahead_nil, if_neg (by decide)]
  by_cases hl : f.id < g.id
  · rw [if_pos hl, if_pos hl]
    rfl
  · rw [if_neg hl, if_neg hl]
    rfl
theorem applyS_1 {e : Ev} (h : e.kind = 1) (s : St) : applyS s e = ⟨s.clock, max s.next (e.fam.id + 1), putL s.fams e.fam⟩ := by unfold applyS; rw [if_pos h]
theorem applyS_2 {e : Ev} (h : e.kind = 2) (s : St) : applyS s e = ⟨s.clock, s.next, dropL s.fams e.id⟩ := by unfold applyS; rw [if_neg (by omega), if_pos h]
/-- two events, one behind the other, of two families -/
theorem apply_swap {e f : Ev} (he : evB e = true) (hf : evB f = true) (h3 : e.kind ≠ 3) (h3' : f.kind ≠ 3) (hne : e.fam.id + e.id ≠ f.fam.id + f.id) :
    applyS (applyS ⟨0, 1, []⟩ e) f = applyS (applyS ⟨0, 1, []⟩ f) e := by
  rcases evB_kind he with ⟨hk, hi, _, _⟩ | ⟨hk, hz, _, _⟩ | ⟨hk, _⟩
  · rcases evB_kind hf with ⟨gk, gi, _, _⟩ | ⟨gk, gz, _, _⟩ | ⟨gk, _⟩
    · have hn : e.fam.id ≠ f.fam.id := by omega
      simp only [applyS_1 hk, applyS_1 gk]
      rw [putL_nil, putL_nil, putL_one hn, putL_one (Ne.symm hn)]
      congr 1
      · omega
      · by_cases h : e.fam.id < f.fam.id
        · rw [if_pos h, if_neg (by omega)]
        · rw [if_neg h, if_pos (by omega)]
    · have hg : f.fam.id = 0 := by rw [gz]; rfl
      have hn : e.fam.id ≠ f.id := by omega
      simp only [applyS_1 hk, applyS_2 gk]
      rw [putL_nil, dropL_nil, putL_nil, dropL_one hn]
    · exact absurd gk h3'
  · have hz0 : e.fam.id = 0 := by rw [hz]; rfl
    rcases evB_kind hf with ⟨gk, gi, _, _⟩ | ⟨gk, gz, _, _⟩ | ⟨gk, _⟩
    · have hn : f.fam.id ≠ e.id := by omega
      simp only [applyS_2 hk, applyS_1 gk]
      rw [putL_nil, dropL_nil, putL_nil, dropL_one hn]
    · simp only [applyS_2 hk, applyS_2 gk, dropL_nil]
    · exact absurd gk h3'
  · exact absurd hk h3
/-- what event.Apply keeps of a state -/
theorem applyS_asc {s : St} (ha : Asc s.fams) (e : Ev) : Asc (applyS s e).fams := by
  unfold applyS
  split
  · exact putL_asc ha _
  · split
    · exact dropL_asc ha _
    · split <;> exact ha
theorem applyS_ids {s : St} {e : Ev} (hs : ∀ f ∈ s.fams, okN f.id = true) (h1 : e.kind = 1 → okN e.fam.id = true) : ∀ f ∈ (applyS s e).fams, okN f.id = true := by
  intro f
  unfold applyS
  split
  · rename_i hk
    intro hf
    rcases mem_putL hf with rfl | hf
    · exact h1 hk
    · exact hs f hf
  · split
    · intro hf
      exact hs f (mem_dropL hf)
    · split <;> exact hs f
theorem applyS_len (s : St) (e : Ev) : (applyS s e).fams.length ≤ s.fams.length + 1 := by
  unfold applyS
  split
  · exact putL_len _ _
  · split
    · have := dropL_len s.fams e.id
      show (dropL s.fams e.id).length ≤ _
      omega
    · split <;> simp
end Go.Proofs.YtdogilbnbbeljaaGreatDoor
