/-
  STOLEN TOKENS DIE, in plain Lean: what is known of a service from outside, and that it holds behind whatever is asked.
-/
import Derived.Test.YtckohmhhcknmaaaGreatDoorP28
import Derived.Test.YtckohmhhcknmaaaGreatDoorP24
import Derived.Test.YtckohmhhcknmaaaGreatDoorP01
import Derived.Maps.OwnOps
import Derived.Maps.OwnSet
import Derived.Maps.Views
import Derived.Maps.StringElems
import Derived.Test.YtckohmhhcknmaaaGreatDoorP12
import Derived.Test.YtckohmhhcknmaaaGreatDoorP09
import Derived.Test.YtckohmhhcknmaaaGreatDoorP11
namespace Go.Proofs.YtckohmhhcknmaaaGreatDoor
open Go.RowKit

theorem runS_s : ∀ (n : Nat) (z : SS), (runS n z).1.s = z.s
  | 0, _ => rfl
  | n + 1, z => by
    unfold runS
    split
    · rfl
    · exact runS_s n (oneS z)
theorem lastS_two (z : SS) (s : St) : ((lastS z s).2 = 0 ∧ (lastS z s).1.s = s) ∨ ((lastS z s).2 = 14 ∧ (lastS z s).1.s = z.s) := by
  unfold lastS
  split
  · exact .inr ⟨rfl, rfl⟩
  · exact .inl ⟨rfl, rfl⟩
theorem saveS_two (z : SS) : ((saveS z).2 = 0 ∨ (saveS z).2 = 6 ∨ (saveS z).2 = 14) ∧ (saveS z).1.s = z.s := by
  unfold saveS
  split
  · exact ⟨.inr (.inl rfl), rfl⟩
  · split
    · exact ⟨.inl rfl, runS_s _ _⟩
    · exact ⟨.inr (.inr rfl), runS_s _ _⟩
/-- an event is added, or nothing is -/
theorem addS_two (z : SS) (e : Ev) : ((addS z e).2 = 0 ∧ (addS z e).1.s = applyS z.s e) ∨ (((addS z e).2 = 1 ∨ (addS z e).2 = 6 ∨ (addS z e).2 = 12 ∨ (addS z e).2 = 14) ∧ (addS z e).1.s = z.s) := by
  unfold addS
  split
  · exact .inr ⟨.inr (.inl rfl), rfl⟩
  · split
    · exact .inr ⟨.inl rfl, rfl⟩
    · split
      · exact .inr ⟨.inr (.inr (.inl rfl)), rfl⟩
      · split
        · obtain ⟨h1, h2⟩ := saveS_two z
          split
          · rcases lastS_two (saveS z).1 (applyS z.s e) with ⟨a, b⟩ | ⟨a, b⟩
            · exact .inl ⟨a, b⟩
            · exact .inr ⟨.inr (.inr (.inr a)), b.trans h2⟩
          · rename_i hne
            refine .inr ⟨?_, h2⟩
            rcases h1 with h | h | h
            · exact absurd h hne
            · exact .inr (.inl h)
            · exact .inr (.inr (.inr h))
        · rcases lastS_two z (applyS z.s e) with ⟨a, b⟩ | ⟨a, b⟩
          · exact .inl ⟨a, b⟩
          · exact .inr ⟨.inr (.inr (.inr a)), b⟩
/-- what a plan comes to -/
theorem doPlan_put {α : Type} (d : α) (z : SS) (ev : Ev) (a : α) (e : Int) : (doPlan d z (.put ev a e) = ((addS z ev).1, a, e) ∧ (addS z ev).1.s = applyS z.s ev) ∨ (∃ c, (c = 1 ∨ c = 6 ∨ c = 12 ∨ c = 14) ∧ doPlan d z (.put ev a e) = ((addS z ev).1, d, c) ∧ (addS z ev).1.s = z.s) := by
  rcases addS_two z ev with ⟨h1, h2⟩ | ⟨h1, h2⟩
  · refine .inl ⟨?_, h2⟩
    exact if_pos h1
  · refine .inr ⟨_, h1, ?_, h2⟩
    exact if_neg (by omega)

theorem asc_one {L : List Fam} (h : Asc L) {f g : Fam} (hf : f ∈ L) (hg : g ∈ L) (e : f.id = g.id) : f = g := by
  induction L with
  | nil => simp at hf
  | cons x L ih =>
    obtain ⟨h1, h2⟩ := List.pairwise_cons.1 h
    rcases List.mem_cons.1 hf with hf1 | hf1
    · rcases List.mem_cons.1 hg with hg1 | hg1
      · rw [hf1, hg1]
      · have := h1 g hg1
        rw [← hf1] at this
        omega
    · rcases List.mem_cons.1 hg with hg1 | hg1
      · have := h1 f hf1
        rw [← hg1] at this
        omega
      · exact ih h2 hf1 hg1
theorem mem_putL_self (L : List Fam) (f : Fam) : f ∈ putL L f := by
  obtain ⟨b, e, _⟩ := putL_parts L f
  rw [e]
  simp
theorem withB_refl {f : Fam} (h : famB f = true) : withB f.scope.data.toList f.scope.data.toList = true := by
  have hs := (scopeB_iff.1 (famB_parts h).2.2.2.2.2.2.2).1
  unfold withB withN
  rw [hs]
  simp [withinB]
theorem withB_trans {a b c : List UInt8} (h1 : withB a b = true) (h2 : withB b c = true) : withB a c = true := by
  unfold withB withN at *
  rw [Bool.and_eq_true, decide_eq_true_eq] at *
  obtain ⟨n1, w1⟩ := h1
  obtain ⟨n2, w2⟩ := h2
  have ha : scopeN a = 0 := by
    by_cases h : scopeN a = 0
    · exact h
    · rw [if_neg h] at n1
      exact absurd n1 h
  rw [if_pos ha] at n1 ⊢
  rw [if_pos n1] at n2
  exact ⟨n2, (order_law a b c).2.2.1 w1 w2⟩
/-- one family and what became of it -/
def Was (f f' : Fam) : Prop := f.id = f'.id ∧ (f.dead = true → f'.dead = true) ∧ withB f'.scope.data.toList f.scope.data.toList = true ∧ ((f'.gen = f.gen ∧ f'.request = f.request) ∨ f'.gen = f.gen + 1)
/-- one state and one behind it -/
def Step (s s' : St) : Prop := s.next ≤ s'.next ∧ ∀ f' ∈ s'.fams, s.next ≤ f'.id ∨ ∃ f ∈ s.fams, Was f f'
theorem Was.refl {f : Fam} (h : famB f = true) : Was f f := ⟨rfl, id, withB_refl h, .inl ⟨rfl, rfl⟩⟩
theorem Step.refl {s : St} (h : Fit s) : Step s s := ⟨Int.le_refl _, fun f hf => .inr ⟨f, hf, Was.refl (h.fams f hf)⟩⟩
theorem Step.put {s : St} (h : Fit s) {f f' : Fam} (hf : f ∈ s.fams) (hw : Was f f') : Step s (applyS s (putEv f')) := by
  rw [applyS_1 rfl]
  refine ⟨Int.le_max_left _ _, fun g hg => .inr ?_⟩
  rcases mem_putL hg with rfl | hg
  · exact ⟨f, hf, hw⟩
  · exact ⟨g, hg, Was.refl (h.fams g hg)⟩
theorem Step.new {s : St} (h : Fit s) {f' : Fam} (hf : s.next ≤ f'.id) : Step s (applyS s (putEv f')) := by
  rw [applyS_1 rfl]
  refine ⟨Int.le_max_left _ _, fun g hg => ?_⟩
  rcases mem_putL hg with rfl | hg
  · exact .inl hf
  · exact .inr ⟨g, hg, Was.refl (h.fams g hg)⟩
theorem Step.drop {s : St} (h : Fit s) (id : Int) : Step s (applyS s (dropEv id)) := by
  rw [applyS_2 rfl]
  exact ⟨Int.le_refl _, fun g hg => .inr ⟨g, mem_dropL hg, Was.refl (h.fams g (mem_dropL hg))⟩⟩
/-- what is known from outside -/
structure Kn where
  stolen : Int → Bool
  scopes : Int → Option ByteArray
  taken : ByteArray → Option ByteArray
def tokId (r : Ru) (t : ByteArray) : Int := (tokOf r t).2.2.1
def tokGen (r : Ru) (t : ByteArray) : Int := (tokOf r t).2.2.2.1
structure KnOk (r : Ru) (s : St) (K : Kn) : Prop where
  stolen : ∀ id, K.stolen id = true → id < s.next ∧ ∀ f ∈ s.fams, f.id = id → f.dead = true
  scopes : ∀ id q, K.scopes id = some q → id < s.next ∧ q.size ≤ 1000 ∧ ∀ f ∈ s.fams, f.id = id → withB f.scope.data.toList q.data.toList = true
  taken : ∀ t q, K.taken t = some q → tokId r t < s.next ∧ ∀ f ∈ s.fams, f.id = tokId r t → tokGen r t < f.gen ∧ (f.gen = tokGen r t + 1 → f.request = q)
theorem KnOk.start (r : Ru) : KnOk r newS.s ⟨fun _ => false, fun _ => none, fun _ => none⟩ := ⟨fun _ h => (by cases h), fun _ _ h => (by cases h), fun _ _ h => (by cases h)⟩
theorem KnOk.step {r : Ru} {s s' : St} {K : Kn} (h : KnOk r s K) (hs : Step s s') : KnOk r s' K := by
  obtain ⟨hn, hf⟩ := hs
  refine ⟨fun id hid => ?_, fun id q hid => ?_, fun t q ht => ?_⟩
  · obtain ⟨h1, h2⟩ := h.stolen id hid
    refine ⟨by omega, fun f' hf' e => ?_⟩
    rcases hf f' hf' with h3 | ⟨f, hm, w1, w2, _⟩
    · omega
    · exact w2 (h2 f hm (w1.trans e))
  · obtain ⟨h1, h0, h2⟩ := h.scopes id q hid
    refine ⟨by omega, h0, fun f' hf' e => ?_⟩
    rcases hf f' hf' with h3 | ⟨f, hm, w1, _, w3, _⟩
    · omega
    · exact withB_trans w3 (h2 f hm (w1.trans e))
  · obtain ⟨h1, h2⟩ := h.taken t q ht
    refine ⟨by omega, fun f' hf' e => ?_⟩
    rcases hf f' hf' with h3 | ⟨f, hm, w1, _, _, w4⟩
    · omega
    · obtain ⟨a, b⟩ := h2 f hm (w1.trans e)
      rcases w4 with ⟨c, d⟩ | c
      · rw [c, d]
        exact ⟨a, b⟩
      · exact ⟨by omega, fun hx => by omega⟩
def Kn.take (K : Kn) (t q : ByteArray) : Kn := ⟨K.stolen, K.scopes, fun x => if x = t then some q else K.taken x⟩
theorem KnOk.take {r : Ru} {s : St} {K : Kn} (h : KnOk r s K) {t q : ByteArray} (h1 : tokId r t < s.next) (h2 : ∀ f ∈ s.fams, f.id = tokId r t → tokGen r t < f.gen ∧ (f.gen = tokGen r t + 1 → f.request = q)) : KnOk r s (K.take t q) := by
  refine ⟨h.stolen, h.scopes, fun x p hx => ?_⟩
  by_cases e : x = t
  · subst e
    simp [Kn.take] at hx
    subst hx
    exact ⟨h1, h2⟩
  · exact h.taken x p (by simpa [Kn.take, e] using hx)
/-- a token that lives: its family is not stolen -/
theorem live_not_stolen {r : Ru} {s : St} {K : Kn} (h : KnOk r s K) {t : ByteArray} {kind : Int} (hl : liveE r s (tokOf r t) kind = 0) : K.stolen (tokId r t) = false := by
  rcases hs : K.stolen (tokId r t) with _ | _
  · rfl
  · exfalso
    have hd := (h.stolen _ hs).2
    obtain ⟨_, _, _, hm, hf⟩ := liveR_yes hl
    have hid := List.find?_some hf
    rw [decide_eq_true_eq] at hid
    have hdead := hd _ hm hid
    unfold liveE at hl
    split at hl
    · omega
    · split at hl
      · omega
      · rw [hf] at hl
        simp [hdead] at hl
end Go.Proofs.YtckohmhhcknmaaaGreatDoor

/-
  STOLEN TOKENS DIE, in plain Lean: each of a service's calls keeps what is known.
-/
namespace Go.Proofs.YtckohmhhcknmaaaGreatDoor
open Go.RowKit

theorem tokR_codes (T : List UInt8 → List UInt8) (ps : List (List UInt8)) : (tokR T ps).1 = 0 ∨ (tokR T ps).1 = 3 ∨ (tokR T ps).1 = 5 := by
  unfold tokR
  split
  · exact .inr (.inl rfl)
  · split
    · split
      · exact .inl rfl
      · exact .inr (.inr rfl)
    · exact .inr (.inl rfl)
theorem liveE_codes (r : Ru) (s : St) (t : ByteArray) (kind : Int) : liveE r s (tokOf r t) kind ≠ 15 := by
  have hc := tokR_codes (fun B => tagL r.key B) (parts 46 t.data.toList)
  change (tokOf r t).1 = 0 ∨ (tokOf r t).1 = 3 ∨ (tokOf r t).1 = 5 at hc
  unfold liveE
  split
  · omega
  · split
    · decide
    · split
      · decide
      · split
        · decide
        · split <;> decide
/-- a token that lives: its family -/
theorem live_of {r : Ru} {s : St} {t : ByteArray} {kind : Int} (hl : liveE r s (tokOf r t) kind = 0) : liveF s (tokOf r t) ∈ s.fams ∧ (liveF s (tokOf r t)).id = tokId r t := by
  obtain ⟨_, _, _, hm, hf⟩ := liveR_yes hl
  have hid := List.find?_some hf
  rw [decide_eq_true_eq] at hid
  exact ⟨hm, hid⟩
/-- what Rotate comes to -/
structure Turned (r : Ru) (z : SS) (K : Kn) (t q : ByteArray) (R : SS × ByteArray × Int) : Prop where
  step : Step z.s R.1.s
  size : R.2.1.size ≤ 100
  spoilt : R.2.2 = 15 → tokId r t < R.1.s.next ∧ ∀ f ∈ R.1.s.fams, f.id = tokId r t → f.dead = true
  live : R.2.2 = 0 → K.stolen (tokId r t) = false
  next : R.2.2 = 0 → tokId r t < R.1.s.next
  mine : R.2.2 = 0 → ∀ f ∈ R.1.s.fams, f.id = tokId r t → tokGen r t < f.gen ∧ (f.gen = tokGen r t + 1 → f.request = q)
  alone : R.2.2 = 0 → ∀ p, K.taken t = some p → p = q
theorem Turned.say {r : Ru} {z : SS} {K : Kn} {t q : ByteArray} {e : Int} (hf : Fit z.s) (h1 : e ≠ 0) (h2 : e ≠ 15) : Turned r z K t q (z, noneS, e) :=
  ⟨Step.refl hf, by show 0 ≤ 100; decide, fun h => absurd h h2, fun h => absurd h h1, fun h => absurd h h1, fun h => absurd h h1, fun h => absurd h h1⟩
theorem Turned.bad {r : Ru} {z z' : SS} {K : Kn} {t q : ByteArray} {e : Int} (hf : Fit z.s) (hs : z'.s = z.s) (h : e = 1 ∨ e = 6 ∨ e = 12 ∨ e = 14) : Turned r z K t q (z', noneS, e) :=
  ⟨by show Step z.s z'.s; rw [hs]; exact Step.refl hf, by show 0 ≤ 100; decide, fun h' => by change e = 15 at h'; omega, fun h' => by change e = 0 at h'; omega, fun h' => by change e = 0 at h'; omega, fun h' => by change e = 0 at h'; omega, fun h' => by change e = 0 at h'; omega⟩
theorem text_of_list {a b : ByteArray} (h : a.data.toList = b.data.toList) : a = b := by
  rw [← txt_data a, ← txt_data b, h]
theorem scope_code (s : List UInt8) : scopeN s ≠ 15 := by
  rcases scopeN_cases s with h | h | h <;> omega
theorem rotate_law {r : Ru} {z : SS} {K : Kn} (h : KnOk r z.s K) (hf : Fit z.s) (t q sc : ByteArray) : Turned r z K t q (doPlan noneS z (rotateP r z.s t q sc)) := by
  rw [rotateP_eq]
  by_cases hn : nameB q.data.toList = false
  · rw [if_pos hn]
    exact Turned.say hf (by decide) (by decide)
  · rw [if_neg hn]
    by_cases hl : liveE r z.s (tokOf r t) 1 = 0
    · obtain ⟨hm, hid⟩ := live_of hl
      have hst := live_not_stolen h hl
      rw [hl, rotateL_0]
      have hfb := hf.fams _ hm
      have hab := hf.above _ hm
      have hpt := famB_parts hfb
      generalize liveF z.s (tokOf r t) = f at *
      have hg : (tokOf r t).2.2.2.1 = tokGen r t := rfl
      rw [hg]
      have halone : ∀ p, K.taken t = some p → tokGen r t < f.gen ∧ (f.gen = tokGen r t + 1 → f.request = p) := fun p hp => (h.taken t p hp).2 f hm hid
      rcases turn_ways f.gen (tokGen r t) q.data.toList f.request.data.toList with h1 | ⟨h1, h2, h3⟩ | ⟨h1, h2, h3⟩ | ⟨h1, h2, h3⟩ | h1
      · rw [if_pos h1]
        exact Turned.say hf (by decide) (by decide)
      · rw [if_neg h1, if_pos ⟨h2, h3⟩]
        have hq := text_of_list h3
        refine ⟨Step.refl hf, tokS_len (tok_one hpt.1 hpt.2.1), fun h' => (by cases h'), fun _ => hst, fun _ => (by show tokId r t < z.s.next; omega), fun _ g hg he => ?_, fun _ p hp => ?_⟩
        · obtain rfl := asc_one hf.asc hg hm (he.trans hid.symm)
          exact ⟨by omega, fun _ => hq.symm⟩
        · rw [hq]
          exact ((halone p hp).2 (by omega)).symm
      · rw [if_neg h1, if_neg (fun hh => h3 hh.2), if_pos (by omega)]
        rcases doPlan_put noneS z (putEv (deadF f)) noneS 15 with ⟨e, hs⟩ | ⟨c, hc, e, hs⟩
        · rw [e]
          exact ⟨by show Step z.s (addS z (putEv (deadF f))).1.s; rw [hs]; exact Step.put hf hm ⟨rfl, fun _ => rfl, withB_refl hfb, .inl ⟨rfl, rfl⟩⟩, by show 0 ≤ 100; decide, fun _ => by
            show tokId r t < (addS z (putEv (deadF f))).1.s.next ∧ ∀ g ∈ (addS z (putEv (deadF f))).1.s.fams, _
            rw [hs, applyS_1 rfl]
            refine ⟨Int.lt_of_lt_of_le (by omega) (Int.le_max_left _ _), fun g hg he => ?_⟩
            obtain rfl := asc_one (putL_asc hf.asc (deadF f)) hg (mem_putL_self z.s.fams (deadF f)) (he.trans hid.symm)
            rfl, fun h' => (by cases h'), fun h' => (by cases h'), fun h' => (by cases h'), fun h' => (by cases h')⟩
        · rw [e]
          exact Turned.bad hf hs hc
      · rw [if_neg h1, if_neg (fun hh => h2 hh.1), if_pos (by omega)]
        rcases doPlan_put noneS z (putEv (deadF f)) noneS 15 with ⟨e, hs⟩ | ⟨c, hc, e, hs⟩
        · rw [e]
          exact ⟨by show Step z.s (addS z (putEv (deadF f))).1.s; rw [hs]; exact Step.put hf hm ⟨rfl, fun _ => rfl, withB_refl hfb, .inl ⟨rfl, rfl⟩⟩, by show 0 ≤ 100; decide, fun _ => by
            show tokId r t < (addS z (putEv (deadF f))).1.s.next ∧ ∀ g ∈ (addS z (putEv (deadF f))).1.s.fams, _
            rw [hs, applyS_1 rfl]
            refine ⟨Int.lt_of_lt_of_le (by omega) (Int.le_max_left _ _), fun g hg he => ?_⟩
            obtain rfl := asc_one (putL_asc hf.asc (deadF f)) hg (mem_putL_self z.s.fams (deadF f)) (he.trans hid.symm)
            rfl, fun h' => (by cases h'), fun h' => (by cases h'), fun h' => (by cases h'), fun h' => (by cases h')⟩
        · rw [e]
          exact Turned.bad hf hs hc
      · rw [if_neg (by omega), if_neg (by omega), if_neg (by omega)]
        by_cases hs : scopeN sc.data.toList ≠ 0
        · rw [if_pos hs]
          exact Turned.say hf hs (scope_code _)
        · rw [if_neg hs]
          by_cases hw : withB (leastL sc.data.toList) f.scope.data.toList = false
          · rw [if_pos hw]
            exact Turned.say hf (by decide) (by decide)
          · rw [if_neg hw]
            by_cases hx : f.gen = 1099511627776
            · rw [if_pos hx]
              exact Turned.say hf (by decide) (by decide)
            · rw [if_neg hx]
              have hgb := okN_iff.1 hpt.2.1
              have hok : okN (turnF z.s f q sc).gen = true := okN_iff.2 ⟨by show 0 ≤ f.gen + 1; omega, by show f.gen + 1 ≤ _; omega⟩
              rcases doPlan_put noneS z (putEv (turnF z.s f q sc)) (refreshS r (turnF z.s f q sc)) 0 with ⟨e, hs'⟩ | ⟨c, hc, e, hs'⟩
              · rw [e]
                have hnx : (addS z (putEv (turnF z.s f q sc))).1.s.next = max z.s.next (f.id + 1) := by rw [hs', applyS_1 rfl]; rfl
                refine ⟨by show Step z.s (addS z (putEv (turnF z.s f q sc))).1.s; rw [hs']; exact Step.put hf hm ⟨rfl, id, by show withB (txt (leastL sc.data.toList)).data.toList _ = true; rw [data_txt]; simpa using hw, .inr rfl⟩, tokS_len (tok_one hpt.1 hok), fun h' => (by cases h'), fun _ => hst, fun _ => ?_, fun _ => ?_, fun _ p hp => ?_⟩
                · show tokId r t < (addS z (putEv (turnF z.s f q sc))).1.s.next
                  rw [hnx]
                  exact Int.lt_of_lt_of_le (by omega) (Int.le_max_left _ _)
                · show ∀ g ∈ (addS z (putEv (turnF z.s f q sc))).1.s.fams, _
                  rw [hs', applyS_1 rfl]
                  intro g hg he
                  obtain rfl := asc_one (putL_asc hf.asc (turnF z.s f q sc)) hg (mem_putL_self z.s.fams (turnF z.s f q sc)) (he.trans hid.symm)
                  exact ⟨by show _ < f.gen + 1; omega, fun _ => rfl⟩
                · have := (halone p hp).1
                  omega
              · rw [e]
                exact Turned.bad hf hs' hc
    · rw [rotateL_e hl]
      exact Turned.say hf hl (liveE_codes r z.s t 1)
/-- Grant -/
theorem grant_law {r : Ru} {z : SS} (hf : Fit z.s) (cl su sc : ByteArray) : Step z.s (doPlan noneS z (grantP r z.s cl su sc)).1.s ∧ (doPlan noneS z (grantP r z.s cl su sc)).2.1.size ≤ 100 := by
  have hsay : ∀ e : Int, Step z.s (doPlan noneS z (.say noneS e)).1.s ∧ (doPlan noneS z (.say noneS e)).2.1.size ≤ 100 := fun e => ⟨Step.refl hf, by show 0 ≤ 100; decide⟩
  unfold grantP
  split
  · exact hsay _
  · split
    · exact hsay _
    · split
      · exact hsay _
      · split
        · exact hsay _
        · rename_i h3 _
          have hnx := okM_iff.1 hf.next
          have hok : okN (grantF z.s cl su sc).id = true := okN_iff.2 ⟨by show 0 ≤ z.s.next; omega, by show z.s.next ≤ _; omega⟩
          rcases doPlan_put noneS z (putEv (grantF z.s cl su sc)) (refreshS r (grantF z.s cl su sc)) 0 with ⟨e, hs⟩ | ⟨c, hc, e, hs⟩
          · rw [e]
            exact ⟨by show Step z.s (addS z (putEv (grantF z.s cl su sc))).1.s; rw [hs]; exact Step.new hf (Int.le_refl _), tokS_len (tok_one hok (by show okN 0 = true; decide))⟩
          · rw [e]
            exact ⟨by show Step z.s (addS z (putEv (grantF z.s cl su sc))).1.s; rw [hs]; exact Step.refl hf, by show 0 ≤ 100; decide⟩
/-- Mint and Show -/
theorem mint_law {r : Ru} {s : St} {K : Kn} (h : KnOk r s K) (hf : Fit s) (hru : ruB r = true) (t : ByteArray) : (mintP r s t).1.size ≤ 100 ∧ ((mintP r s t).2 = 0 → K.stolen (tokId r t) = false) := by
  rw [mintP_eq]
  by_cases hl : liveE r s (tokOf r t) 1 = 0
  · have hst := live_not_stolen h hl
    obtain ⟨hm, _⟩ := live_of hl
    have hpt := famB_parts (hf.fams _ hm)
    refine ⟨?_, fun _ => hst⟩
    unfold mintV
    split
    · show 0 ≤ 100; decide
    · split
      · show 0 ≤ 100; decide
      · split
        · show 0 ≤ 100; decide
        · exact tokS_len ⟨.inr ⟨rfl, capN_ok hf.clock (ruB_parts hru).2.2.2⟩, hpt.1, hpt.2.1⟩
  · unfold mintV
    rw [if_pos hl]
    exact ⟨by show 0 ≤ 100; decide, fun h' => absurd h' hl⟩
theorem show_law {r : Ru} {s : St} {K : Kn} (h : KnOk r s K) (t : ByteArray) (h0 : (showP r s t).2 = 0) : K.stolen (tokId r t) = false := by
  rw [showP_eq] at h0
  by_cases hl : liveE r s (tokOf r t) 2 = 0
  · exact live_not_stolen h hl
  · unfold showV at h0
    rw [if_pos hl] at h0
    exact absurd h0 hl
end Go.Proofs.YtckohmhhcknmaaaGreatDoor

/-
  A map that the call itself made, of integers to strings, told by a plain function.
-/
namespace Go.Proofs.YtckohmhhcknmaaaGreatDoor
open Go.RowKit Go.Maps

theorem bytes_ext {s t : ByteArray} (h : s.data.toList = t.data.toList) : s = t := by
  cases s; cases t; simp at h; simp [h]

/-- block b is a map of at most n entries, integers (key type K) to strings (element type E), that tells f k at k -/
def MapIS (P : Program) (K E : TypeId) (w : World) (b n : Nat) (f : Int → ByteArray) : Prop :=
  ∃ D : DataW Unit, w.ownsMap P K (plainElem P E) b n D ∧ IsMap D ∧ ∀ k : Int, (Lit.int .i64 k).wf = true → D.atKey (.int .i64 k) (.lit (.string [])) = .lit (.string (f k).data.toList)

section
variable {P : Program} {K E T : TypeId} {w w' : World} {b n : Nat} {f : Int → ByteArray}
theorem MapIS.made (w : World) : MapIS P K E (w.alloc (.map #[] 0)) w.heap.size 0 (fun _ => ByteArray.empty) :=
  ⟨.map [], World.ownsMap_made w P K _, ⟨[], rfl⟩, fun k _ => by simp [DataW.atKey]⟩
theorem MapIS.kept (h : MapIS P K E w b n f) {row : Option Nat} (hg : w.grownBy w' row) (hne : some b ≠ row) : MapIS P K E w' b n f := by
  obtain ⟨D, h1, h2, h3⟩ := h
  exact ⟨D, h1.kept hg hne, h2, h3⟩
theorem MapIS.below (h : MapIS P K E w b n f) (hb : Below w.heap.size w w') : MapIS P K E w' b n f := h.kept (only_of_below hb none) (by simp)
theorem MapIS.alloc (h : MapIS P K E w b n f) (o : Obj) : MapIS P K E (w.alloc o) b n f := h.kept (World.grownBy_alloc w o none) (by simp)
theorem MapIS.drewN (h : MapIS P K E w b n f) (m : Nat) : MapIS P K E (w.drewN m) b n f := h
theorem MapIS.lt (h : MapIS P K E w b n f) : b < w.heap.size := by
  obtain ⟨D, h1, _⟩ := h
  exact h1.lt
theorem MapIS.mono (h : MapIS P K E w b n f) {m : Nat} (hm : n ≤ m) : MapIS P K E w b m f := by
  obtain ⟨D, h1, h2, h3⟩ := h
  exact ⟨D, h1.mono hm, h2, h3⟩
theorem MapIS.look (h : MapIS P K E w b n f) (ht : P.underlying T = some (.map K E)) (hk : P.underlying K = some (.int .i64)) (he : P.underlying E = some .string)
    (hz : (zeroValue E).run P w = .ok (.string ByteArray.empty) w) (k : Int) (hw : (Lit.int .i64 k).wf = true) :
    (Instr.lookup T (.map (some b)) (.int .i64 k) false).run P w = .ok (.string (f k)) w := by
  obtain ⟨D, h1, h2, h3⟩ := h
  obtain ⟨v, ps, hrun, hv⟩ := h1.lookup (int_keyed hk) ht hz (plainElem_string he (by decide)) (keyOf_int_mk hk hw)
  obtain ⟨s, rfl, hs, _⟩ := plainElem_string_inv he hv
  have h4 := h3 k hw
  simp only [Prod.mk.injEq] at hs
  have h5 : D.atKey (.int .i64 k) (.lit (.string [])) = .lit (.string s.data.toList) := by
    rw [← hs.1]; rfl
  rw [h5] at h4
  have h6 : s.data.toList = (f k).data.toList := by injection h4 with h4; injection h4
  rw [hrun, bytes_ext h6]
theorem MapIS.put (h : MapIS P K E w b n f) (ht : P.underlying T = some (.map K E)) (hk : P.underlying K = some (.int .i64)) (he : P.underlying E = some .string)
    (hn : n < maxLen) (k : Int) (hw : (Lit.int .i64 k).wf = true) (s : ByteArray) (hs : s.size ≤ maxLen) :
    ∃ w', (Instr.mapUpdate T (.map (some b)) (.int .i64 k) (.string s)).run P w = .ok () w' ∧ MapIS P K E w' b (n + 1) (fun j => if j = k then s else f j) ∧ w.grownBy w' (some b) := by
  obtain ⟨D, h1, h2, h3⟩ := h
  obtain ⟨w', hrun, r1, r2⟩ := h1.update (int_keyed hk) ht hn (keyOf_int_mk hk hw) (plainElem_string he hs)
  refine ⟨w', hrun, ⟨_, r1, ?_, ?_⟩, r2⟩
  · obtain ⟨l, rfl⟩ := h2
    exact ⟨_, rfl⟩
  · intro j hj
    dsimp only
    by_cases e : j = k
    · subst e
      rw [if_pos rfl, atKey_put_same h2 (by simp [WideAt.IsKeyLit])]
    · rw [if_neg e, atKey_put_other (by simpa using e)]
      exact h3 j hj
end
end Go.Proofs.YtckohmhhcknmaaaGreatDoor

/-
  Maps that the call itself made, told by plain functions: of integers to bools; of integers, or texts, to texts (with what is there).
-/
namespace Go.Proofs.YtckohmhhcknmaaaGreatDoor
open Go.RowKit Go.Maps Go.WideMaps

/-- a key that is none of the others; which values may be keys -/
structure KeyOf (P : Program) (K : TypeId) (α : Type) where
  keyed : Keyed P K
  lit : α → Lit
  val : α → Value
  ok : α → Prop
  key : ∀ x, ok x → keyOf P K (val x) = some (lit x)
  isKey : ∀ x, WideAt.IsKeyLit (lit x)
  inj : ∀ x y, lit x = lit y → x = y
/-- block b is a map of at most n entries that tells f -/
def MapO (P : Program) {α : Type} {K : TypeId} (Q : KeyOf P K α) (E : TypeId) (w : World) (b n : Nat) (f : α → Option ByteArray) : Prop :=
  ∃ D : DataW Unit, w.ownsMap P K (plainElem P E) b n D ∧ IsMap D ∧ ∀ x, D.atKey (Q.lit x) (.lit (.string [])) = .lit (.string ((f x).getD ByteArray.empty).data.toList) ∧ Maps.has D (Q.lit x) = (f x).isSome
section
variable {P : Program} {α : Type} {K E T : TypeId} {Q : KeyOf P K α} {w w' : World} {b n : Nat} {f : α → Option ByteArray}
theorem MapO.made (w : World) : MapO P Q E (w.alloc (.map #[] 0)) w.heap.size 0 (fun _ => none) :=
  ⟨.map [], World.ownsMap_made w P K _, ⟨[], rfl⟩, fun x => ⟨by simp [DataW.atKey], rfl⟩⟩
theorem MapO.kept (h : MapO P Q E w b n f) {row : Option Nat} (hg : w.grownBy w' row) (hne : some b ≠ row) : MapO P Q E w' b n f := by
  obtain ⟨D, h1, h2, h3⟩ := h
  exact ⟨D, h1.kept hg hne, h2, h3⟩
theorem MapO.lt (h : MapO P Q E w b n f) : b < w.heap.size := by
  obtain ⟨D, h1, _⟩ := h
  exact h1.lt
theorem MapO.mono (h : MapO P Q E w b n f) {m : Nat} (hm : n ≤ m) : MapO P Q E w b m f := by
  obtain ⟨D, h1, h2, h3⟩ := h
  exact ⟨D, h1.mono hm, h2, h3⟩
theorem MapO.look (h : MapO P Q E w b n f) (ht : P.underlying T = some (.map K E)) (he : P.underlying E = some .string) (hz : (zeroValue E).run P w = .ok (.string ByteArray.empty) w) (x : α) (hx : Q.ok x) :
    (Instr.lookup T (.map (some b)) (Q.val x) true).run P w = .ok (.tuple #[.string ((f x).getD ByteArray.empty), .bool (f x).isSome]) w := by
  obtain ⟨D, h1, h2, h3⟩ := h
  obtain ⟨v, ps, hrun, hv⟩ := h1.look_ok Q.keyed ht hz (plainElem_string he (by decide)) (Q.key x hx)
  obtain ⟨s, rfl, hs, _⟩ := plainElem_string_inv he hv
  obtain ⟨h4, h5⟩ := h3 x
  simp only [Prod.mk.injEq] at hs
  have h6 : D.atKey (Q.lit x) (.lit (.string [])) = .lit (.string s.data.toList) := by
    rw [← hs.1]; rfl
  rw [h6] at h4
  have h7 : s.data.toList = ((f x).getD ByteArray.empty).data.toList := by injection h4 with h4; injection h4
  rw [hrun, bytes_ext h7, h5]
theorem MapO.put (h : MapO P Q E w b n f) (ht : P.underlying T = some (.map K E)) (he : P.underlying E = some .string) (hn : n < maxLen) (x : α) (hx : Q.ok x) (s : ByteArray) (hs : s.size ≤ maxLen) (g : α → Option ByteArray) (hg1 : g x = some s) (hg2 : ∀ y, y ≠ x → g y = f y) :
    ∃ w', (Instr.mapUpdate T (.map (some b)) (Q.val x) (.string s)).run P w = .ok () w' ∧ MapO P Q E w' b (n + 1) g ∧ w.grownBy w' (some b) := by
  obtain ⟨D, h1, h2, h3⟩ := h
  obtain ⟨w', hrun, r1, r2⟩ := h1.update Q.keyed ht hn (Q.key x hx) (plainElem_string he hs)
  refine ⟨w', hrun, ⟨_, r1, ?_, ?_⟩, r2⟩
  · obtain ⟨l, rfl⟩ := h2
    exact ⟨_, rfl⟩
  · intro y
    by_cases e : y = x
    · subst e
      rw [hg1, atKey_put_same h2 (Q.isKey y), has_put_same h2 (Q.isKey y)]
      exact ⟨rfl, rfl⟩
    · have hne : Q.lit y ≠ Q.lit x := fun hh => e (Q.inj y x hh)
      rw [hg2 y e, atKey_put_other hne, has_put_other hne]
      exact h3 y
end
/-- integers as keys -/
def intKey {P : Program} {K : TypeId} (hk : P.underlying K = some (.int .i64)) : KeyOf P K Int where
  keyed := int_keyed hk
  lit k := .int .i64 k
  val k := .int .i64 k
  ok k := (Lit.int .i64 k).wf = true
  key _ h := keyOf_int_mk hk h
  isKey _ := by simp [WideAt.IsKeyLit]
  inj _ _ h := by simpa using h
/-- texts as keys -/
def textKey {P : Program} {K : TypeId} (hk : P.underlying K = some .string) : KeyOf P K ByteArray where
  keyed := string_keyed hk
  lit x := .string x.data.toList
  val x := .string x
  ok x := x.size ≤ maxLen
  key _ h := keyOf_string_mk hk h
  isKey _ := by simp [WideAt.IsKeyLit]
  inj _ _ h := bytes_ext (by simpa using h)
/-- block b is a map of integers to bools that tells f -/
def MapIB (P : Program) (K E : TypeId) (w : World) (b n : Nat) (f : Int → Bool) : Prop :=
  ∃ D : DataW Unit, w.ownsMap P K (plainElem P E) b n D ∧ IsMap D ∧ ∀ k : Int, D.atKey (.int .i64 k) (.lit (.bool false)) = .lit (.bool (f k))
section
variable {P : Program} {K E T : TypeId} {w w' : World} {b n : Nat} {f : Int → Bool}
theorem MapIB.made (w : World) : MapIB P K E (w.alloc (.map #[] 0)) w.heap.size 0 (fun _ => false) :=
  ⟨.map [], World.ownsMap_made w P K _, ⟨[], rfl⟩, fun x => by simp [DataW.atKey]⟩
theorem MapIB.kept (h : MapIB P K E w b n f) {row : Option Nat} (hg : w.grownBy w' row) (hne : some b ≠ row) : MapIB P K E w' b n f := by
  obtain ⟨D, h1, h2, h3⟩ := h
  exact ⟨D, h1.kept hg hne, h2, h3⟩
theorem MapIB.lt (h : MapIB P K E w b n f) : b < w.heap.size := by
  obtain ⟨D, h1, _⟩ := h
  exact h1.lt
theorem MapIB.mono (h : MapIB P K E w b n f) {m : Nat} (hm : n ≤ m) : MapIB P K E w b m f := by
  obtain ⟨D, h1, h2, h3⟩ := h
  exact ⟨D, h1.mono hm, h2, h3⟩
theorem MapIB.look (h : MapIB P K E w b n f) (ht : P.underlying T = some (.map K E)) (hk : P.underlying K = some (.int .i64)) (he : P.underlying E = some .bool)
    (hz : (zeroValue E).run P w = .ok (.bool false) w) (x : Int) (hx : (Lit.int .i64 x).wf = true) :
    (Instr.lookup T (.map (some b)) (.int .i64 x) false).run P w = .ok (.bool (f x)) w := by
  obtain ⟨D, h1, h2, h3⟩ := h
  obtain ⟨v, ps, hrun, hv⟩ := h1.lookup (int_keyed hk) ht hz (plainElem_bool he false) (keyOf_int_mk hk hx)
  obtain ⟨y, rfl, hy⟩ := plainElem_bool_inv he hv
  simp only [Prod.mk.injEq] at hy
  have h4 := h3 x
  rw [hy.1] at h4
  have h6 : y = f x := by injection h4 with h4; injection h4
  rw [hrun, h6]
theorem MapIB.put (h : MapIB P K E w b n f) (ht : P.underlying T = some (.map K E)) (hk : P.underlying K = some (.int .i64)) (he : P.underlying E = some .bool)
    (hn : n < maxLen) (x : Int) (hx : (Lit.int .i64 x).wf = true) (v : Bool) :
    ∃ w', (Instr.mapUpdate T (.map (some b)) (.int .i64 x) (.bool v)).run P w = .ok () w' ∧ MapIB P K E w' b (n + 1) (fun y => if y = x then v else f y) ∧ w.grownBy w' (some b) := by
  obtain ⟨D, h1, h2, h3⟩ := h
  obtain ⟨w', hrun, r1, r2⟩ := h1.update (int_keyed hk) ht hn (keyOf_int_mk hk hx) (plainElem_bool he v)
  refine ⟨w', hrun, ⟨_, r1, ?_, ?_⟩, r2⟩
  · obtain ⟨l, rfl⟩ := h2
    exact ⟨_, rfl⟩
  · intro y
    dsimp only
    by_cases e : y = x
    · subst e
      rw [if_pos rfl, atKey_put_same h2 (by simp [WideAt.IsKeyLit])]
    · rw [if_neg e, atKey_put_other (by simpa using e)]
      exact h3 y
end
end Go.Proofs.YtckohmhhcknmaaaGreatDoor

/-
  A slice of texts that the call itself made, nil or not; maps and such slices while two other blocks turn.
-/
namespace Go.Proofs.YtckohmhhcknmaaaGreatDoor
open Go.RowKit Go.Sort Go.Maps

def TRow (w : World) (B : Nat) (v : Value) (T : List ByteArray) : Prop := w.ownsRow B 9 1 v T.length (T.map Value.string)
theorem TRow.nil (w : World) (B : Nat) : TRow w B (.slice none 0 0) [] := World.ownsRow_nil _ _ _ _
section
variable {w w' : World} {B : Nat} {v : Value} {T : List ByteArray}
theorem TRow.kept (h : TRow w B v T) {row : Option Nat} (hg : w.grownBy w' row) (hne : v.ownBlock ≠ row) : TRow w' B v T := World.ownsRow.kept h hg (.inr hne)
theorem TRow.below (h : TRow w B v T) (hb : Below w.heap.size w w') : TRow w' B v T := h.kept (only_of_below hb (some w.heap.size)) (fun he => by have := (h.lt _ he).2; omega)
theorem TRow.block (h : TRow w B v T) : (v = .slice none 0 0 ∧ T = []) ∨ ∃ g cap cur, v = .slice (some ⟨g, 0, none⟩) T.length cap ∧ B ≤ g ∧ Blk w g 9 cur ∧ T.length ≤ cap ∧ cap ≤ maxLen ∧ cur.toList.take (T.length * 1) = T.map Value.string := by
  rcases h.2 with ⟨rfl, h0⟩ | ⟨g, cap, cur, rfl, hB, hb, hn, hm, _, ht⟩
  · exact .inl ⟨rfl, List.eq_nil_of_length_eq_zero h0⟩
  · exact .inr ⟨g, cap, cur, rfl, hB, hb, hn, hm, ht⟩
theorem TRow.slice (h : TRow w B v T) : ∃ a c, v = .slice a T.length c := by
  rcases h.block with ⟨rfl, rfl⟩ | ⟨g, cap, _, rfl, _⟩
  · exact ⟨_, _, rfl⟩
  · exact ⟨_, _, rfl⟩
theorem TRow.lit {n c : Nat} {a : Option Addr} (h : TRow w B (.slice a n c) T) {k : Nat} {x : ByteArray} (hk : T[k]? = some x) : ∃ g, a = some ⟨g, 0, none⟩ ∧ w.cell? ⟨g, k, none⟩ = some (.string x) := by
  have hlt := (List.getElem?_eq_some_iff.1 hk).1
  rcases h.block with ⟨e, rfl⟩ | ⟨g, cap, cur, e, _, hb, _, _, ht⟩
  · simp at hlt
  · simp only [Value.slice.injEq] at e
    obtain ⟨rfl, rfl, rfl⟩ := e
    refine ⟨g, rfl, ?_⟩
    have h1 : (cur.toList.take (T.length * 1))[k]? = some (.string x) := by rw [ht]; simp [hk]
    rw [List.getElem?_take, if_pos (by omega), Array.getElem?_toList] at h1
    rw [hb.cell k, h1]
theorem TRow.two {a b : Nat} (h : TRow w B v T) (k : Two a b w w') (h1 : v.ownBlock ≠ some a) (h2 : v.ownBlock ≠ some b) : TRow w' B v T := by
  refine ⟨h.1, ?_⟩
  rcases h.2 with hn | ⟨g, cap, cur, rfl, hb, hgg, rest⟩
  · exact .inl hn
  · refine .inr ⟨g, cap, cur, rfl, hb, ?_, rest⟩
    have hg := (Array.getElem?_eq_some_iff.1 hgg).1
    rw [k.block g hg (by simpa [Value.ownBlock] using h1) (by simpa [Value.ownBlock] using h2)]
    exact hgg
theorem TRow.apart {g : Nat} {t : TypeId} {cs : Array Value} (h : TRow w B v T) (hb : Blk w g t cs) (hT : 9 ≠ t) : v.ownBlock ≠ some g := by
  rcases h.block with ⟨rfl, rfl⟩ | ⟨g', cap, cur, rfl, _, hb', _⟩
  · simp [Value.ownBlock]
  · have := hb'.ne_ hb hT
    simpa [Value.ownBlock] using this
theorem TRow.app {x : ByteArray} (h : w.ownsRow B 9 1 v (T.length + 1) (T.map Value.string ++ [.string x])) : TRow w B v (T ++ [x]) := by
  unfold TRow
  rw [List.length_append, List.map_append]
  exact h
theorem TRow.map_ne {P : Program} {K : TypeId} {H : Type} {R : Value → Option (DataW H × List MemPlace)} {m n : Nat} {D : DataW H} (h : TRow w B v T) (hm : w.ownsMap P K R m n D) : v.ownBlock ≠ some m := by
  obtain ⟨es, clock, hb, _⟩ := hm
  rcases h.block with ⟨rfl, rfl⟩ | ⟨g', cap, cur, rfl, _, hb', _⟩
  · simp [Value.ownBlock]
  · simp only [Value.ownBlock]
    rintro ⟨rfl⟩
    unfold Blk at hb'
    rw [hb] at hb'
    cases hb'
end
theorem ownsMap_same {P : Program} {K : TypeId} {H : Type} {R : Value → Option (DataW H × List MemPlace)} {w w' : World} {b n : Nat} {D : DataW H} (h : w.ownsMap P K R b n D) (hb : w'.heap[b]? = w.heap[b]?) : w'.ownsMap P K R b n D := by
  obtain ⟨es, clock, hb', F, hs, hD⟩ := h
  exact ⟨es, clock, hb.trans hb', F, hs, hD⟩
theorem ownsMap_ne {P : Program} {K : TypeId} {H : Type} {R : Value → Option (DataW H × List MemPlace)} {w : World} {b n g : Nat} {D : DataW H} {t : TypeId} {cs : Array Value} (h : w.ownsMap P K R b n D) (hg : Blk w g t cs) : b ≠ g := by
  obtain ⟨es, clock, hb, _⟩ := h
  rintro rfl
  unfold Blk at hg
  rw [hb] at hg
  cases hg
section
variable {P : Program} {α : Type} {K E : TypeId} {Q : KeyOf P K α} {w w' : World} {b n : Nat} {f : α → Option ByteArray}
theorem MapO.same (h : MapO P Q E w b n f) (hb : w'.heap[b]? = w.heap[b]?) : MapO P Q E w' b n f := by
  obtain ⟨D, h1, h2, h3⟩ := h
  exact ⟨D, ownsMap_same h1 hb, h2, h3⟩
theorem MapO.ne {g : Nat} {t : TypeId} {cs : Array Value} (h : MapO P Q E w b n f) (hg : Blk w g t cs) : b ≠ g := by
  obtain ⟨D, h1, _⟩ := h
  exact ownsMap_ne h1 hg
theorem MapO.below (h : MapO P Q E w b n f) (hb : Below w.heap.size w w') : MapO P Q E w' b n f := h.same (hb.block b h.lt)
theorem MapO.two {x y : Nat} (h : MapO P Q E w b n f) (k : Two x y w w') (h1 : b ≠ x) (h2 : b ≠ y) : MapO P Q E w' b n f := h.same (k.block b h.lt h1 h2)
theorem MapO.row_ne {B : Nat} {v : Value} {T : List ByteArray} (h : MapO P Q E w b n f) (hr : TRow w B v T) : v.ownBlock ≠ some b := by
  obtain ⟨D, h1, _⟩ := h
  exact hr.map_ne h1
end
section
variable {P : Program} {K E : TypeId} {w w' : World} {b n : Nat} {f : Int → Bool}
theorem MapIB.same (h : MapIB P K E w b n f) (hb : w'.heap[b]? = w.heap[b]?) : MapIB P K E w' b n f := by
  obtain ⟨D, h1, h2, h3⟩ := h
  exact ⟨D, ownsMap_same h1 hb, h2, h3⟩
theorem MapIB.ne {g : Nat} {t : TypeId} {cs : Array Value} (h : MapIB P K E w b n f) (hg : Blk w g t cs) : b ≠ g := by
  obtain ⟨D, h1, _⟩ := h
  exact ownsMap_ne h1 hg
theorem MapIB.below (h : MapIB P K E w b n f) (hb : Below w.heap.size w w') : MapIB P K E w' b n f := h.same (hb.block b h.lt)
theorem MapIB.two {x y : Nat} (h : MapIB P K E w b n f) (k : Two x y w w') (h1 : b ≠ x) (h2 : b ≠ y) : MapIB P K E w' b n f := h.same (k.block b h.lt h1 h2)
theorem MapIB.row_ne {B : Nat} {v : Value} {T : List ByteArray} (h : MapIB P K E w b n f) (hr : TRow w B v T) : v.ownBlock ≠ some b := by
  obtain ⟨D, h1, _⟩ := h
  exact hr.map_ne h1
end
end Go.Proofs.YtckohmhhcknmaaaGreatDoor

/-
  ServiceStolen: what is known of a service from outside, as it lies in memory.
-/
namespace Go.Proofs.YtckohmhhcknmaaaGreatDoor
open Go.RowKit Go.Sort Go.Maps

noncomputable def ikey : KeyOf Tryz.prog 3 Int := intKey Tryz.underlying3
noncomputable def tkey : KeyOf Tryz.prog 9 ByteArray := textKey Tryz.underlying9
theorem FRow.map_ne {w : World} {B : Nat} {v : Value} {L : List Fam} {P : Program} {K : TypeId} {H : Type} {R : Value → Option (DataW H × List MemPlace)} {m n : Nat} {D : DataW H} (h : FRow w B v L) (hm : w.ownsMap P K R m n D) : v.ownBlock ≠ some m := by
  obtain ⟨es, clock, hb, _⟩ := hm
  rcases h.block with ⟨rfl, rfl⟩ | ⟨g', cap, cur, rfl, _, hb', _⟩
  · simp [Value.ownBlock]
  · simp only [Value.ownBlock]
    rintro ⟨rfl⟩
    unfold Blk at hb'
    rw [hb] at hb'
    cases hb'
/-- a block that is none of a service's -/
structure Far (vb sb db : Nat) (v : Value) (m : Nat) : Prop where
  hv : vb ≠ m
  hs : sb ≠ m
  hd : db ≠ m
  hr : v.ownBlock ≠ some m
section
variable {W w w' : World} {B vb sb db k : Nat} {r : Ru} {z : SS} {v : Value} {m : Nat}
theorem SX.away (h : SX B sb db k z v w) (hg : w.grownBy w' (some m)) (hB : B ≤ m) (h1 : sb ≠ m) (h2 : db ≠ m) (h3 : v.ownBlock ≠ some m) : SX B sb db k z v w' := by
  obtain ⟨D, n, f, x, a1, a2, a3⟩ := h
  have hbl : Below B w w' := (Below.refl _ _).grown hg a1.big (fun i hi => by cases hi; exact hB)
  have env := a1.env.keep hbl
  have dk := a1.disk.grown hg (by simpa using h2)
  exact ⟨D, n, f, x, ⟨env, Blk.grown a1.st hg (by simpa using h1), dk, a1.row.kept hg h3, a1.bs, a1.bd⟩, ⟨env, dk, a1.bd, Nat.le_trans a1.big hbl.size, a2.fits, a2.fit, a2.inv⟩, a3⟩
theorem SW.away (h : SW B vb sb db k r z v w) (hg : w.grownBy w' (some m)) (hB : B ≤ m) (f : Far vb sb db v m) : SW B vb sb db k r z v w' := ⟨h.at_.grown hg (by simpa using f.hv), h.sx.away hg hB f.hs f.hd f.hr, h.right, h.bv⟩
theorem AW.away (h : AW W B vb sb db k r z v w) (hg : w.grownBy w' (some m)) (hB : B ≤ m) (hW : W.heap.size ≤ m) (f : Far vb sb db v m) : AW W B vb sb db k r z v w' :=
  ⟨h.sw.away hg hB f, h.below.grown hg h.below.size (fun i hi => by cases hi; exact hW), h.hv, h.hs, h.hd, h.err, h.eg⟩
theorem SW.far_blk {T : TypeId} {cs : Array Value} (h : SW B vb sb db k r z v w) (hb : Blk w m T cs) (h1 : 97 ≠ T) (h2 : 117 ≠ T) (h3 : 59 ≠ T) (h4 : 79 ≠ T) : Far vb sb db v m := by
  obtain ⟨⟨ca, ha⟩, cb, hc⟩ := h.sx.blocks
  exact ⟨h.at_.ne_ hb h1, ha.ne_ hb h2, hc.ne_ hb h3, h.sx.row.apart hb h4⟩
end
/-- what is known, in memory -/
structure HL (W : World) (hb vb sb db k m1 m2 m3 c : Nat) (r : Ru) (z : SS) (v tv : Value) (T : List ByteArray) (K : Kn) (w : World) : Prop where
  aw : AW W W.heap.size vb sb db k r z v w
  blk : Blk w hb 50 #[.pointer (some ⟨vb, 0, none⟩), tv, .map (some m1), .map (some m2), .map (some m3)]
  toks : TRow w W.heap.size tv T
  small : ∀ t ∈ T, t.size ≤ 100
  map1 : MapIB Tryz.prog 3 4 w m1 c K.stolen
  map2 : MapO Tryz.prog ikey 9 w m2 c K.scopes
  map3 : MapO Tryz.prog tkey 9 w m3 c K.taken
  d12 : m1 ≠ m2
  d13 : m1 ≠ m3
  d23 : m2 ≠ m3
  h0 : W.heap.size ≤ hb
  h1 : W.heap.size ≤ m1
  h2 : W.heap.size ≤ m2
  h3 : W.heap.size ≤ m3
  known : KnOk r z.s K
section
variable {W w w' : World} {hb vb sb db k m1 m2 m3 c : Nat} {r : Ru} {z : SS} {v tv : Value} {T : List ByteArray} {K : Kn}
theorem HL.keep (h : HL W hb vb sb db k m1 m2 m3 c r z v tv T K w) (b : Below w.heap.size w w') : HL W hb vb sb db k m1 m2 m3 c r z v tv T K w' :=
  ⟨h.aw.keep b, h.blk.below' b, h.toks.below b, h.small, h.map1.below b, h.map2.below b, h.map3.below b, h.d12, h.d13, h.d23, h.h0, h.h1, h.h2, h.h3, h.known⟩
theorem HL.drew (h : HL W hb vb sb db k m1 m2 m3 c r z v tv T K w) : HL W hb vb sb db k m1 m2 m3 c r z v tv T K w.drew := h.keep (below_dr (Below.refl _ _))
theorem HL.five (h : HL W hb vb sb db k m1 m2 m3 c r z v tv T K w) : w.cell? ⟨hb, 0, none⟩ = some (.pointer (some ⟨vb, 0, none⟩)) ∧ w.cell? ⟨hb, 1, none⟩ = some tv ∧ w.cell? ⟨hb, 2, none⟩ = some (.map (some m1)) ∧ w.cell? ⟨hb, 3, none⟩ = some (.map (some m2)) ∧ w.cell? ⟨hb, 4, none⟩ = some (.map (some m3)) :=
  ⟨h.blk.cell 0, h.blk.cell 1, h.blk.cell 2, h.blk.cell 3, h.blk.cell 4⟩
/-- the service has turned -/
theorem HL.two {k' : Nat} {z' : SS} {v' : Value} (h : HL W hb vb sb db k m1 m2 m3 c r z v tv T K w) (ht : Two sb db w w') (hs : SW W.heap.size vb sb db k' r z' v' w') (hk : KnOk r z'.s K) : HL W hb vb sb db k' m1 m2 m3 c r z' v' tv T K w' := by
  obtain ⟨⟨ca, ha⟩, cb, hc⟩ := h.aw.sw.sx.blocks
  exact ⟨h.aw.two ht hs, h.blk.two ht (h.blk.ne_ ha (by decide)) (h.blk.ne_ hc (by decide)), h.toks.two ht (h.toks.apart ha (by decide)) (h.toks.apart hc (by decide)), h.small,
    h.map1.two ht (h.map1.ne ha) (h.map1.ne hc), h.map2.two ht (h.map2.ne ha) (h.map2.ne hc), h.map3.two ht (h.map3.ne ha) (h.map3.ne hc), h.d12, h.d13, h.d23, h.h0, h.h1, h.h2, h.h3, hk⟩
/-- a text is given -/
theorem HL.given {tv' : Value} {x : ByteArray} (h : HL W hb vb sb db k m1 m2 m3 c r z v tv T K w) (hg : w.grownBy w' tv.ownBlock) (ho : w'.ownsRow W.heap.size 9 1 tv' (T.length + 1) (T.map Value.string ++ [.string x])) (hx : x.size ≤ 100) :
    HL W hb vb sb db k m1 m2 m3 c r z v tv' (T ++ [x]) K (w'.setCell ⟨hb, 1, none⟩ tv') := by
  have hro : TRow w' W.heap.size tv' (T ++ [x]) := TRow.app ho
  have hne : some hb ≠ tv.ownBlock := (h.toks.apart h.blk (by decide)).symm
  have hblk := h.blk.grown hg hne
  have aw1 : AW W W.heap.size vb sb db k r z v w' ∧ MapIB Tryz.prog 3 4 w' m1 c K.stolen ∧ MapO Tryz.prog ikey 9 w' m2 c K.scopes ∧ MapO Tryz.prog tkey 9 w' m3 c K.taken := by
    rcases hv : tv.ownBlock with _ | g
    · rw [hv] at hg
      have hbl : Below w.heap.size w w' := (Below.refl w.heap.size w).grown hg (Nat.le_refl _) (fun i hi => by cases hi)
      exact ⟨h.aw.keep hbl, h.map1.below hbl, h.map2.below hbl, h.map3.below hbl⟩
    · rcases h.toks.block with ⟨rfl, _⟩ | ⟨g', cap, cur, rfl, hgB, hgb, _⟩
      · simp [Value.ownBlock] at hv
      · have hm1 := h.map1.row_ne h.toks
        have hm2 := h.map2.row_ne h.toks
        have hm3 := h.map3.row_ne h.toks
        rw [hv] at hg hm1 hm2 hm3
        have hgg : g' = g := by simpa [Value.ownBlock] using hv
        subst hgg
        exact ⟨h.aw.away hg hgB hgB (h.aw.sw.far_blk hgb (by decide) (by decide) (by decide) (by decide)), h.map1.kept hg hm1.symm, h.map2.kept hg hm2.symm, h.map3.kept hg hm3.symm⟩
  obtain ⟨aw1, p1, p2, p3⟩ := aw1
  have hs : w'.grownBy (w'.setCell ⟨hb, 1, none⟩ tv') (some hb) := only_set1 w' hb ⟨hb, 1, none⟩ rfl tv'
  exact ⟨aw1.away hs h.h0 h.h0 (aw1.sw.far_blk hblk (by decide) (by decide) (by decide) (by decide)), hblk.put_ 1 tv' rfl, hro.kept hs (hro.apart hblk (by decide)), fun t ht => by
      rcases List.mem_append.1 ht with ht | ht
      · exact h.small t ht
      · rw [List.mem_singleton] at ht
        rw [ht]
        exact hx,
    p1.kept hs (by simpa using p1.ne hblk), p2.kept hs (by simpa using p2.ne hblk), p3.kept hs (by simpa using p3.ne hblk), h.d12, h.d13, h.d23, h.h0, h.h1, h.h2, h.h3, h.known⟩
theorem HL.grant (h : HL W hb vb sb db k m1 m2 m3 c r z v tv T K w) (hk : k < 1000000) (cl su sc : ByteArray) (h1 : cl.size ≤ 1000) (h2 : su.size ≤ 1000) (h3 : sc.size ≤ 1000) :
    Calls Tryz.prog 9 #[.pointer (some ⟨vb, 0, none⟩), .string cl, .string su, .string sc] w fun e w' => ∃ (z' : SS) (got : ByteArray) (code : Int), got.size ≤ 100 ∧ e = .returned (.tuple #[.string got, errV code]) ∧ (∃ v', HL W hb vb sb db (k + 1) m1 m2 m3 c r z' v' tv T K w') ∧ Rest w w' :=
  (svc_grant h.aw.sw hk cl su sc h1 h2 h3).mono fun _ _ ⟨he, ht, v', hs⟩ => ⟨_, _, _, (grant_law h.aw.sw.sx.fit cl su sc).2, he, ⟨v', h.two ht hs (h.known.step (grant_law h.aw.sw.sx.fit cl su sc).1)⟩, h.aw.sw.rest ht⟩
theorem Rest.below (hb : Below w.heap.size w w') : Rest w w' := ⟨fun _ _ _ h => h.below hb, fun _ _ _ h _ _ => h.below' hb⟩
theorem HL.show (h : HL W hb vb sb db k m1 m2 m3 c r z v tv T K w) (t : ByteArray) (h1 : t.size ≤ 1000) :
    Calls Tryz.prog 27 #[.pointer (some ⟨vb, 0, none⟩), .string t] w fun e w' => ∃ (f : Fam) (code : Int), (code = 0 → K.stolen (tokId r t) = false) ∧ e = .returned (.tuple #[famVal f, errV code]) ∧ HL W hb vb sb db k m1 m2 m3 c r z v tv T K w' ∧ Rest w w' :=
  (svc_show h.aw.sw t h1).mono fun _ _ ⟨he, b⟩ => ⟨_, _, show_law h.known t, he, h.keep b, Rest.below b⟩
theorem HL.state (h : HL W hb vb sb db k m1 m2 m3 c r z v tv T K w) : Calls Tryz.prog 14 #[.pointer (some ⟨vb, 0, none⟩)] w (GotAs w z.s.clock z.s.next z.s.fams) := h.aw.state
end
end Go.Proofs.YtckohmhhcknmaaaGreatDoor
