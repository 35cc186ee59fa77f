/-
  EventBack in plain Lean: an event's line is at most 180 bytes, and is that event again; two events of two families make the same in whichever order.
-/
import Derived.Test.YtklpmoimckblcaaGreatDoorEvPure
import Derived.Test.YtklpmoimckblcaaGreatDoorFamPure
namespace Go.Proofs.YtklpmoimckblcaaGreatDoor

theorem glue_sum (c : UInt8) : ∀ ws : List (List UInt8), (glue c ws).length ≤ (ws.map fun w => w.length + 1).sum
  | [] => by simp [glue]
  | [w] => by simp [glue]
  | w :: v :: r => by
    have := glue_sum c (v :: r)
    rw [glue, List.length_append, List.length_cons, List.map_cons, List.sum_cons]
    omega
theorem reqB_20 {l : List UInt8} (h : reqB l = true) : l.length ≤ 20 := by
  unfold reqB at h
  rw [Bool.or_eq_true, decide_eq_true_eq] at h
  rcases h with rfl | h
  · simp
  · exact nameB_len h
theorem wordL_le {l : List UInt8} {n : Nat} (h : l.length ≤ n) (hn : 1 ≤ n) : (wordL l).length ≤ n := by
  unfold wordL
  split
  · simpa using hn
  · exact h
/-- an event's line fits a block with its number -/
theorem evL_len {e : Ev} (h : evB e = true) : (evL e).length ≤ 180 := by
  unfold evL
  refine Nat.le_trans (glue_sum 32 _) ?_
  rcases evB_kind h with ⟨hk, _, _, hf⟩ | ⟨hk, _, _, hn⟩ | ⟨hk, _, _, hn⟩
  · obtain ⟨h1, h2, h3, h4, h5, h6, h7, h8⟩ := famB_parts hf
    have k1 := itoa_len h1
    have k2 := itoa_len h2
    have k3 := itoa_len h3
    have k4 := itoa_len h4
    have k5 := nameB_len h5
    have k6 := nameB_len h6
    have k7 := wordL_le (reqB_20 h7) (by decide)
    have k8 := wordL_le (scopeB_len h8) (by decide)
    have k9 : (deadL e.fam.dead).length = 1 := by unfold deadL; split <;> rfl
    rw [evW_1 hk]
    simp only [famW, List.map_cons, List.map_nil, List.sum_cons, List.sum_nil, List.length_cons, List.length_nil]
    omega
  · have := itoa_len hn
    rw [evW_2 hk]
    simp only [List.map_cons, List.map_nil, List.sum_cons, List.sum_nil, List.length_cons, List.length_nil]
    omega
  · have := itoa_len hn
    rw [evW_3 hk]
    simp only [List.map_cons, List.map_nil, List.sum_cons, List.sum_nil, List.length_cons, List.length_nil]
    omega

theorem unL_wordL {l : List UInt8} (h : (95 : UInt8) ∉ l) : unL (wordL l) = l := by
  unfold wordL
  split
  · rename_i e
    rw [e]
    rfl
  · unfold unL
    rw [if_neg]
    rintro rfl
    simp at h
theorem deadL_back (b : Bool) : decide (deadL b = [49]) = b := by cases b <;> decide
theorem cand_evW {e : Ev} (h : evB e = true) : cand (evW e) = e := by
  rcases evB_kind h with ⟨hk, hi, ht, hf⟩ | ⟨hk, hz, ht, hn⟩ | ⟨hk, hz, hi, hn⟩
  · obtain ⟨h1, h2, h3, h4, h5, h6, h7, h8⟩ := famB_parts hf
    have n7 : unL (wordL e.fam.request.data.toList) = e.fam.request.data.toList := unL_wordL (reqB_free h7 (by decide))
    have n8 : unL (wordL e.fam.scope.data.toList) = e.fam.scope.data.toList := unL_wordL (scopeB_free h8 (by decide) (by decide))
    rw [evW_1 hk]
    unfold famW cand
    obtain ⟨k, ⟨a, b, c, d, g, m, u, r, de⟩, id, ti⟩ := e
    dsimp only at *
    subst hk hi ht
    rw [n7, n8, atoiN_itoa h1, atoiN_itoa h2, atoiN_itoa h3, atoiN_itoa h4, txt_data, txt_data, txt_data, txt_data, deadL_back]
  · rw [evW_2 hk]
    obtain ⟨k, fam, id, ti⟩ := e
    dsimp only at *
    subst hk hz ht
    simp only [cand]
    rw [if_pos trivial, atoiN_itoa hn]
  · rw [evW_3 hk]
    obtain ⟨k, fam, id, ti⟩ := e
    dsimp only at *
    subst hk hz hi
    simp only [cand]
    rw [if_neg (by decide), atoiN_itoa hn]
/-- an event's line is that event again -/
theorem evL_back {e : Ev} (h : evB e = true) : readB (evL e) = true ∧ readE (evL e) = e := by
  have hc : cand (parts 32 (evL e)) = e := by rw [parts_evL h, cand_evW h]
  have hr : readB (evL e) = true := readB_iff.2 (by rw [hc]; exact ⟨h, rfl⟩)
  refine ⟨hr, ?_⟩
  unfold readE
  rw [if_pos hr, hc]

/-- the number that an event is about -/
theorem hasB_nil (n : Int) : hasB [] n = false := rfl
theorem putL_nil (f : Fam) : putL [] f = [f] := rfl
theorem dropL_nil (n : Int) : dropL [] n = [] := rfl
theorem hasB_one {f : Fam} {n : Int} (h : f.id ≠ n) : hasB [f] n = false := by
  unfold hasB
  rw [ahead_cons, ahead_nil]
  split
  · rename_i g hg
    split at hg
    · simp at hg
    · simp at hg
      subst hg
      simpa using h
  · rfl
theorem dropL_one {f : Fam} {n : Int} (h : f.id ≠ n) : dropL [f] n = [f] := by
  unfold dropL
  rw [hasB_one h]
  rfl
theorem putL_one {f g : Fam} (h : f.id ≠ g.id) : putL [f] g = if f.id < g.id then [f, g] else [g, f] := by
  unfold putL
  rw [hasB_one h, ahead_cons, ahead_nil, if_neg (by decide)]
  by_cases hl : f.id < g.id
  · rw [if_pos hl, if_pos hl]
    rfl
  · rw [if_neg hl, if_neg hl]
    rfl
theorem applyS_1 {e : Ev} (h : e.kind = 1) (s : St) : applyS s e = ⟨s.clock, max s.next (e.fam.id + 1), putL s.fams e.fam⟩ := by unfold applyS; rw [if_pos h]
theorem applyS_2 {e : Ev} (h : e.kind = 2) (s : St) : applyS s e = ⟨s.clock, s.next, dropL s.fams e.id⟩ := by unfold applyS; rw [if_neg (by omega), if_pos h]
/-- two events, one behind the other, of two families -/
theorem apply_swap {e f : Ev} (he : evB e = true) (hf : evB f = true) (h3 : e.kind ≠ 3) (h3' : f.kind ≠ 3) (hne : e.fam.id + e.id ≠ f.fam.id + f.id) :
    applyS (applyS ⟨0, 1, []⟩ e) f = applyS (applyS ⟨0, 1, []⟩ f) e := by
  rcases evB_kind he with ⟨hk, hi, _, _⟩ | ⟨hk, hz, _, _⟩ | ⟨hk, _⟩
  · rcases evB_kind hf with ⟨gk, gi, _, _⟩ | ⟨gk, gz, _, _⟩ | ⟨gk, _⟩
    · have hn : e.fam.id ≠ f.fam.id := by omega
      simp only [applyS_1 hk, applyS_1 gk]
      rw [putL_nil, putL_nil, putL_one hn, putL_one (Ne.symm hn)]
      congr 1
      · omega
      · by_cases h : e.fam.id < f.fam.id
        · rw [if_pos h, if_neg (by omega)]
        · rw [if_neg h, if_pos (by omega)]
    · have hg : f.fam.id = 0 := by rw [gz]; rfl
      have hn : e.fam.id ≠ f.id := by omega
      simp only [applyS_1 hk, applyS_2 gk]
      rw [putL_nil, dropL_nil, putL_nil, dropL_one hn]
    · exact absurd gk h3'
  · have hz0 : e.fam.id = 0 := by rw [hz]; rfl
    rcases evB_kind hf with ⟨gk, gi, _, _⟩ | ⟨gk, gz, _, _⟩ | ⟨gk, _⟩
    · have hn : f.fam.id ≠ e.id := by omega
      simp only [applyS_2 hk, applyS_1 gk]
      rw [putL_nil, dropL_nil, putL_nil, dropL_one hn]
    · simp only [applyS_2 hk, applyS_2 gk, dropL_nil]
    · exact absurd gk h3'
  · exact absurd hk h3
/-- what event.Apply keeps of a state -/
theorem applyS_asc {s : St} (ha : Asc s.fams) (e : Ev) : Asc (applyS s e).fams := by
  unfold applyS
  split
  · exact putL_asc ha _
  · split
    · exact dropL_asc ha _
    · split <;> exact ha
theorem applyS_ids {s : St} {e : Ev} (hs : ∀ f ∈ s.fams, okN f.id = true) (h1 : e.kind = 1 → okN e.fam.id = true) : ∀ f ∈ (applyS s e).fams, okN f.id = true := by
  intro f
  unfold applyS
  split
  · rename_i hk
    intro hf
    rcases mem_putL hf with rfl | hf
    · exact h1 hk
    · exact hs f hf
  · split
    · intro hf
      exact hs f (mem_dropL hf)
    · split <;> exact hs f
theorem applyS_len (s : St) (e : Ev) : (applyS s e).fams.length ≤ s.fams.length + 1 := by
  unfold applyS
  split
  · exact putL_len _ _
  · split
    · have := dropL_len s.fams e.id
      show (dropL s.fams e.id).length ≤ _
      omega
    · split <;> simp
end Go.Proofs.YtklpmoimckblcaaGreatDoor
