/-
  scope.Within: whether all words of a scope are in another one.
-/
import Derived.Test.YtckohmhhcknmaaaGreatDoorG08
import Derived.Sort.Walk0
import Derived.Test.YtckohmhhcknmaaaGreatDoorG04
import Derived.Test.YtckohmhhcknmaaaGreatDoorG05
import Derived.Test.YtckohmhhcknmaaaGreatDoorG03
import Derived.Test.YtckohmhhcknmaaaGreatDoorG07
import Derived.Lib.AtoiErrMem
import Derived.RegionTactic
import Derived.ChangeAlike
import Derived.Laws.ResultCell
namespace Go.Proofs.YtckohmhhcknmaaaGreatDoor
open Go.RowKit Go.Sort

/-- is the t-th word below x? -/
def lessAt (L : List (List UInt8)) (x : List UInt8) (t : Nat) : Bool := Op.bytesLess (txt (L.getD t [])).toList (txt x).toList
theorem lessAt_eq (L : List (List UInt8)) (x : List UInt8) (t : Nat) : lessAt L x t = decide (L.getD t [] < x) := by
  unfold lessAt
  rw [toList_txt, toList_txt, Go.Proofs.bytesLess_eq]
theorem up_at {L : List (List UInt8)} (h : Up L) {i j : Nat} (hij : i ≤ j) (hj : j < L.length) : L.getD i [] ≤ L.getD j [] := by
  rcases Nat.eq_or_lt_of_le hij with rfl | hlt
  · exact List.le_refl _
  · have h1 := List.pairwise_iff_getElem.1 h i j (by omega) hj hlt
    have h2 : leW L[i] L[j] = true := h1.1
    simp only [leW, decide_eq_true_eq] at h2
    simpa [List.getD, hj, show i < L.length by omega] using h2
/-- what the halving finds in words that are sorted -/
theorem search_up {L : List (List UInt8)} (h : Up L) (x : List UInt8) :
    decide (Lib.bsGo (lessAt L x) L.length 0 L.length < L.length ∧ txt (L.getD (Lib.bsGo (lessAt L x) L.length 0 L.length) []) = txt x) = L.contains x := by
  obtain ⟨k, hk, h1, h2⟩ : ∃ k, k ≤ L.length ∧ (∀ t, t < k → lessAt L x t = true) ∧ (∀ t, k ≤ t → t < L.length → lessAt L x t = false) := by
    have key : ∀ n, n ≤ L.length → ∃ k, k ≤ n ∧ (∀ t, t < k → lessAt L x t = true) ∧ (∀ t, k ≤ t → t < n → lessAt L x t = false) := by
      intro n
      induction n with
      | zero => exact fun _ => ⟨0, Nat.le_refl _, fun t ht => absurd ht (Nat.not_lt_zero _), fun t _ ht => absurd ht (Nat.not_lt_zero _)⟩
      | succ n ih =>
        intro hn
        obtain ⟨k, hk, a, b⟩ := ih (by omega)
        by_cases hl : lessAt L x n = true
        · refine ⟨n + 1, Nat.le_refl _, fun t ht => ?_, fun t h3 h4 => by omega⟩
          rw [lessAt_eq, decide_eq_true_eq] at hl ⊢
          exact List.lt_of_le_of_lt (up_at h (by omega) (by omega)) hl
        · refine ⟨k, by omega, a, fun t h3 h4 => ?_⟩
          by_cases e : t = n
          · subst e; simpa using hl
          · exact b t h3 (by omega)
    exact key _ (Nat.le_refl _)
  have hs : Lib.bsGo (lessAt L x) L.length 0 L.length = k := by
    have hg : ∀ (f lo hi : Nat), hi - lo ≤ f → lo ≤ k → k ≤ hi → hi ≤ L.length → Lib.bsGo (lessAt L x) f lo hi = k := by
      intro f
      induction f with
      | zero => intro lo hi hf a b c; simp [Lib.bsGo]; omega
      | succ f ih =>
        intro lo hi hf a b c
        unfold Lib.bsGo
        by_cases hlt : lo < hi
        · rw [if_pos hlt]
          by_cases hm : (lo + hi) / 2 < k
          · rw [h1 _ hm, if_pos rfl]; exact ih _ _ (by omega) (by omega) b c
          · rw [h2 _ (by omega) (by omega)]; exact ih _ _ (by omega) a (by omega) (by omega)
        · rw [if_neg hlt]; omega
    exact hg _ _ _ (by omega) (Nat.zero_le _) hk (Nat.le_refl _)
  rw [hs, Bool.eq_iff_iff, decide_eq_true_eq, List.contains_iff_mem]
  constructor
  · rintro ⟨hlt, e⟩
    have := txt_inj e
    rw [← this]
    simp [List.getD, hlt]
  · intro hm
    obtain ⟨t, ht, rfl⟩ := List.mem_iff_getElem.1 hm
    have hkt : k ≤ t := by
      rcases Nat.lt_or_ge t k with h3 | h3
      · have := h1 t h3
        rw [lessAt_eq, decide_eq_true_eq] at this
        simp [List.getD, ht] at this
        exact absurd this (List.lt_irrefl _)
      · exact h3
    have hklt : k < L.length := by omega
    refine ⟨hklt, ?_⟩
    have a := up_at h hkt ht
    have b := h2 k (Nat.le_refl _) hklt
    rw [lessAt_eq, decide_eq_false_iff_not] at b
    have e1 : L.getD t [] = L[t] := by simp [List.getD, ht]
    rw [e1] at a
    rw [List.le_antisymm a (List.not_lt.1 b)]

theorem search_row {B : Nat} {v : Value} {L : List (List UInt8)} {w : World} (h : RowOrNil w B v L) (hu : Up L) (hL : L.length ≤ 1000000) (x : List UInt8) :
    Calls Tryz.prog 81 #[v, .string (txt x)] w fun e w' => (∃ i : Nat, e = .returned (.tuple #[.int .i64 i, .bool (L.contains x)])) ∧ ∃ q, w' = w.drewN q := by
  rcases h with ⟨rfl, rfl⟩ | h
  · refine (Any2.slices_BinarySearch_string_empty Tryz.bs26 none 0 (txt x) w).mono ?_
    rintro e w' ⟨rfl, rfl⟩
    exact ⟨⟨0, rfl⟩, 0, rfl⟩
  · obtain ⟨g, cap, rfl, hg, hlt, hn, hm, hH⟩ := h.parts
    refine (Any2.slices_BinarySearch_string Tryz.bs26 g 0 L.length cap (fun t => txt (L.getD t [])) (txt x) w (by omega) (fun j hj => by rw [Nat.zero_add]; exact h.cell j hj)).mono ?_
    rintro e w' ⟨rfl, q, rfl⟩
    refine ⟨⟨Lib.bsGo (lessAt L x) L.length 0 L.length, ?_⟩, q, rfl⟩
    rw [← search_up hu x]
    rfl

def WithRel (a b : List UInt8) (B1 B2 B : Nat) (W : World) (v u : Value) (i : Value) (wr : World) : Prop :=
  ∃ k : Nat, k ≤ (scopeL a).length ∧ i = .int .i64 k ∧ RowOrNil wr B1 v (scopeL a) ∧ RowOrNil wr B2 u (scopeL b) ∧ Below B W wr ∧ ∀ j, j < k → (scopeL b).contains ((scopeL a).getD j []) = true
theorem RowOrNil.below {w w' : World} {B : Nat} {v : Value} {L : List (List UInt8)} (h : RowOrNil w B v L) (hb : Below w.heap.size w w') : RowOrNil w' B v L := h.imp id fun h => h.below hb
theorem RowOrNil.drewN {w : World} {B : Nat} {v : Value} {L : List (List UInt8)} (h : RowOrNil w B v L) (n : Nat) : RowOrNil (w.drewN n) B v L := h
theorem RowOrNil.slice {w : World} {B : Nat} {v : Value} {L : List (List UInt8)} (h : RowOrNil w B v L) : ∃ A cap, v = .slice A L.length cap ∧ ∀ j, j < L.length → ∃ g, A = some ⟨g, 0, none⟩ ∧ w.cell? ⟨g, j, none⟩ = some (.string (txt (L.getD j []))) := by
  rcases h with ⟨rfl, rfl⟩ | h
  · exact ⟨none, 0, rfl, fun j hj => absurd hj (Nat.not_lt_zero _)⟩
  · obtain ⟨g, cap, rfl, _⟩ := id h
    exact ⟨_, cap, rfl, fun j hj => ⟨g, rfl, h.cell j hj⟩⟩
def withN (a b : List UInt8) : Int := if scopeN a = 0 then scopeN b else scopeN a
def withB (a b : List UInt8) : Bool := decide (withN a b = 0) && withinB a b
theorem withB_bad {a b : List UInt8} (h : withN a b ≠ 0) : withB a b = false := by simp [withB, h]
theorem withN_1 {a b : List UInt8} (h : scopeN a ≠ 0) : withN a b = scopeN a := by simp [withN, h]
theorem withN_2 {a b : List UInt8} (h : scopeN a = 0) : withN a b = scopeN b := by simp [withN, h]
theorem withB_no {a b : List UInt8} {k : Nat} (hk : k < (scopeL a).length) (h : (scopeL b).contains ((scopeL a).getD k []) = false) : withB a b = false := by
  have : withinB a b = false := by
    unfold withinB
    rw [List.all_eq_false]
    exact ⟨(scopeL a)[k], List.getElem_mem hk, by simpa [List.getD, hk] using h⟩
  simp [withB, this]
theorem withB_yes {a b : List UInt8} (h0 : withN a b = 0) (h : ∀ j, j < (scopeL a).length → (scopeL b).contains ((scopeL a).getD j []) = true) : withB a b = true := by
  have : withinB a b = true := by
    unfold withinB
    rw [List.all_eq_true]
    intro x hx
    obtain ⟨j, hj, rfl⟩ := List.mem_iff_getElem.1 hx
    have := h j hj
    simpa [List.getD, hj] using this
  simp [withB, this, h0]

set_option maxHeartbeats 4000000 in
theorem scope_within (a b : ByteArray) (W : World) (ha : a.size ≤ 1000) (hb : b.size ≤ 1000) (hm : MaxL W) :
    Calls Tryz.prog 45 #[.string a, .string b] W fun e w' => e = .returned (.tuple #[.bool (withB a.data.toList b.data.toList), errV (withN a.data.toList b.data.toList)]) ∧ Below W.heap.size W w' := by
  have H1 := Lib.hid (scope_read a W ha hm)
  have HM := Lib.hid hm
  have HB := Lib.hid (fun w (h : MaxL w) => scope_read b w hb h)
  clear hm
  by_cases h0 : scopeN a.data.toList = 0
  · have E := Lib.hid (show errV (scopeN a.data.toList) = .nilIface by rw [h0]; rfl)
    have W2 := Lib.hid (withN_2 (b := b.data.toList) h0)
    clear h0
    by_cases h1 : scopeN b.data.toList = 0
    · have E2 := Lib.hid (show errV (scopeN b.data.toList) = .nilIface by rw [h1]; rfl)
      have W3 := Lib.hid (show withN a.data.toList b.data.toList = 0 by rw [W2.out, h1])
      clear h1
      go_enter Tryz.func45, Tryz.ntmps45
      go_wp2_with fail
      go_at_call 77
      refine H1.out.mono ?_
      rintro e w1 ⟨v, rfl, hr1, hb1⟩
      rw [E.out]
      have HR1 := Lib.hid hr1
      have HB1 := Lib.hid hb1
      clear hr1 hb1
      go_wp2_with fail
      go_at_call 77
      refine (HB.out _ (HM.out.below' HB1.out)).mono ?_
      rintro e w2 ⟨u, rfl, hr2, hb2⟩
      rw [E2.out]
      have HR2 := Lib.hid (RowOrNil.below HR1.out hb2)
      have HR3 := Lib.hid hr2
      have HB2 := Lib.hid (HB1.out.trans (hb2.mono HB1.out.size))
      have hl1 := (scopeL_small a.data.toList).1
      have hl2 := (scopeL_small b.data.toList).1
      obtain ⟨A, cap, ev, _⟩ := HR2.out.slice
      subst ev
      clear hr2 hb2
      go_wp2_with fail
      go_loopw [31] (fun i wr => WithRel a.data.toList b.data.toList W.heap.size w1.heap.size W.heap.size W (.slice A (scopeL a.data.toList).length cap) u i wr) (fun i _ => (scopeL a.data.toList).length - (intOf i).toNat)
      case atStart => exact ⟨0, Nat.zero_le _, rfl, HR2.out, HR3.out, HB2.out, fun j hj => absurd hj (Nat.not_lt_zero _)⟩
      case round =>
        clear HR1 HB1 HR2 HR3 HB2
        obtain ⟨k, hk, rfl, hr1, hr2, hb, hno⟩ := hrel
        have HR1 := Lib.hid hr1
        have HS := Lib.hid (fun x => search_row hr2 (scopeL_up _) (by omega) x)
        have HR2 := Lib.hid hr2
        have HB := Lib.hid hb
        have HNO := Lib.hid hno
        clear hr2 hb hno
        by_cases hlt : k < (scopeL a.data.toList).length
        · obtain ⟨A', cap', ev, hcell⟩ := hr1.slice
          injection ev with ea _ ec
          subst ea; subst ec
          obtain ⟨g, rfl, hc⟩ := hcell k hlt
          clear hcell hr1
          generalize hx : (scopeL a.data.toList).getD k [] = x at *
          by_cases hin : (scopeL b.data.toList).contains x = true
          · have HX := Lib.hid hx
            have HIN := Lib.hid hin
            clear hx hin
            go_wp2_with
              (go_at_call 81; refine (HS.out x).mono ?_; rintro e w3 ⟨⟨i, rfl⟩, q, rfl⟩
               rw [HIN.out])
            go_roundw
            case rel =>
              refine ⟨k + 1, by omega, by go_num, RowOrNil.drewN HR1.out q, RowOrNil.drewN HR2.out q, below_drewN HB.out q, fun j hj => ?_⟩
              by_cases e : j = k
              · subst e
                rw [HX.out]
                exact HIN.out
              · exact HNO.out j (by omega)
            case measure => simp [intOf]; omega
          · have hin' : (scopeL b.data.toList).contains x = false := by simpa using hin
            have HW := Lib.hid (withB_no hlt (by rw [hx]; exact hin'))
            have HIN := Lib.hid hin'
            clear hx hin hin'
            go_wp2_with
              (go_at_call 81; refine (HS.out x).mono ?_; rintro e w3 ⟨⟨i, rfl⟩, q, rfl⟩
               rw [HIN.out])
            go_ret2
            exact ⟨by rw [HW.out, W3.out]; rfl, below_drewN HB.out q⟩
        · have HW := Lib.hid (withB_yes W3.out fun j hj => HNO.out j (by omega))
          clear hr1
          go_wp2_with fail
          go_ret2
          exact ⟨by rw [HW.out, W3.out]; rfl, HB.out⟩
    · have E2 := Lib.hid (errV_not h1)
      have W3 := Lib.hid (withB_bad (a := a.data.toList) (b := b.data.toList) (by rw [W2.out]; exact h1))
      clear h1
      go_enter Tryz.func45, Tryz.ntmps45
      go_wp2_with fail
      go_at_call 77
      refine H1.out.mono ?_
      rintro e w1 ⟨v, rfl, hr1, hb1⟩
      rw [E.out]
      have HB1 := Lib.hid hb1
      clear hr1 hb1
      go_wp2_with fail
      go_at_call 77
      refine (HB.out _ (HM.out.below' HB1.out)).mono ?_
      rintro e w2 ⟨u, rfl, hr2, hb2⟩
      rw [E2.out]
      have HB2 := Lib.hid (HB1.out.trans (hb2.mono HB1.out.size))
      clear hr2 hb2
      go_wp2_with fail
      go_ret2
      exact ⟨by rw [W3.out, W2.out, E2.out]; rfl, HB2.out⟩
  · have E := Lib.hid (errV_not h0)
    have W2 := Lib.hid (withN_1 (b := b.data.toList) h0)
    have W3 := Lib.hid (withB_bad (a := a.data.toList) (b := b.data.toList) (by rw [W2.out]; exact h0))
    clear h0
    go_enter Tryz.func45, Tryz.ntmps45
    go_wp2_with fail
    go_at_call 77
    refine H1.out.mono ?_
    rintro e w1 ⟨v, rfl, hr1, hb1⟩
    rw [E.out]
    have HB1 := Lib.hid hb1
    clear hr1 hb1
    go_wp2_with fail
    go_ret2
    exact ⟨by rw [W3.out, W2.out, E.out]; rfl, HB1.out⟩
end Go.Proofs.YtckohmhhcknmaaaGreatDoor

/-
  A service in plain Lean: what it says at once, and which event it lets be.
-/
namespace Go.Proofs.YtckohmhhcknmaaaGreatDoor
open Go.RowKit

structure Ru where
  key : Int
  idle : Int
  life : Int
  access : Int
def ruB (r : Ru) : Bool := okN r.key && okN r.idle && okN r.life && okN r.access
def capN (a b : Int) : Int := if a + b > 1099511627776 then 1099511627776 else a + b
def findF (L : List Fam) (id : Int) : Option Fam := L.find? fun f => decide (f.id = id)
def oldB (r : Ru) (now : Int) (f : Fam) : Bool := decide (capN f.used r.idle < now) || decide (capN f.made r.life < now)
/-- what is told at once, or an event that is to be and what is told then -/
inductive Plan (α : Type) where
  | say (a : α) (e : Int)
  | put (ev : Ev) (a : α) (e : Int)
def doPlan {α : Type} (dflt : α) (z : SS) : Plan α → SS × α × Int
  | .say a e => (z, a, e)
  | .put ev a e => if (addS z ev).2 = 0 then ((addS z ev).1, a, e) else ((addS z ev).1, dflt, (addS z ev).2)
def noneS : ByteArray := ⟨#[]⟩
def dropEv (id : Int) : Ev := ⟨2, Fam.zero, id, 0⟩
def tickEv (n : Int) : Ev := ⟨3, Fam.zero, 0, n⟩
def refreshS (r : Ru) (f : Fam) : ByteArray := tokS r.key 1 f.id f.gen 0
def tokOf (r : Ru) (t : ByteArray) : Int × Int × Int × Int × Int := tokR (fun B => tagL r.key B) (parts 46 t.data.toList)
/-- a token's family, if it lives: what is wrong, the token's generation and end, the family -/
structure Lv where
  e : Int
  gen : Int
  ends : Int
  f : Fam
def liveR (r : Ru) (s : St) (t : ByteArray) (kind : Int) : Lv :=
  if (tokOf r t).1 ≠ 0 then ⟨(tokOf r t).1, 0, 0, Fam.zero⟩
  else if (tokOf r t).2.1 ≠ kind then ⟨1, 0, 0, Fam.zero⟩
  else match findF s.fams (tokOf r t).2.2.1 with
    | none => ⟨7, 0, 0, Fam.zero⟩
    | some f => if f.dead then ⟨6, 0, 0, Fam.zero⟩ else if oldB r s.clock f then ⟨10, 0, 0, Fam.zero⟩ else ⟨0, (tokOf r t).2.2.2.1, (tokOf r t).2.2.2.2, f⟩
def grantF (s : St) (client subject sc : ByteArray) : Fam := ⟨s.next, client, subject, txt (leastL sc.data.toList), 0, s.clock, s.clock, noneS, false⟩
def grantP (r : Ru) (s : St) (client subject sc : ByteArray) : Plan ByteArray :=
  if (nameB client.data.toList && nameB subject.data.toList) = false then .say noneS 1
  else if scopeN sc.data.toList ≠ 0 then .say noneS (scopeN sc.data.toList)
  else if 1099511627776 < s.next then .say noneS 4
  else if 20 ≤ s.fams.length then .say noneS 12
  else .put (putEv (grantF s client subject sc)) (refreshS r (grantF s client subject sc)) 0
def deadF (f : Fam) : Fam := ⟨f.id, f.client, f.subject, f.scope, f.gen, f.made, f.used, f.request, true⟩
def turnF (s : St) (f : Fam) (request sc : ByteArray) : Fam := ⟨f.id, f.client, f.subject, txt (leastL sc.data.toList), f.gen + 1, f.made, s.clock, request, f.dead⟩
def rotateL (r : Ru) (s : St) (l : Lv) (request sc : ByteArray) : Plan ByteArray :=
  if l.e ≠ 0 then .say noneS l.e
  else if l.f.gen < l.gen then .say noneS 2
  else if l.gen = l.f.gen - 1 ∧ request.data.toList = l.f.request.data.toList then .say (refreshS r l.f) 0
  else if l.gen < l.f.gen then .put (putEv (deadF l.f)) noneS 15
  else if scopeN sc.data.toList ≠ 0 then .say noneS (scopeN sc.data.toList)
  else if withB (leastL sc.data.toList) l.f.scope.data.toList = false then .say noneS 13
  else if l.f.gen = 1099511627776 then .say noneS 4
  else .put (putEv (turnF s l.f request sc)) (refreshS r (turnF s l.f request sc)) 0
def rotateP (r : Ru) (s : St) (t request sc : ByteArray) : Plan ByteArray :=
  if nameB request.data.toList = false then .say noneS 1 else rotateL r s (liveR r s t 1) request sc
def mintL (r : Ru) (s : St) (l : Lv) : ByteArray × Int :=
  if l.e ≠ 0 then (noneS, l.e)
  else if l.f.gen < l.gen then (noneS, 2)
  else if l.gen < l.f.gen then (noneS, 8)
  else (tokS r.key 2 l.f.id l.f.gen (capN s.clock r.access), 0)
def mintP (r : Ru) (s : St) (t : ByteArray) : ByteArray × Int := mintL r s (liveR r s t 1)
def showL (s : St) (l : Lv) : Fam × Int :=
  if l.e ≠ 0 then (Fam.zero, l.e)
  else if l.f.gen < l.gen then (Fam.zero, 2)
  else if l.ends < s.clock then (Fam.zero, 10)
  else (l.f, 0)
def showP (r : Ru) (s : St) (t : ByteArray) : Fam × Int := showL s (liveR r s t 2)
def killP (s : St) (id : Int) : Plan Unit := match findF s.fams id with
  | none => .say () 7
  | some f => if f.dead then .say () 6 else .put (putEv (deadF f)) () 0
def tickP (s : St) (n : Int) : Plan Unit := if okN n = false then .say () 2 else .put (tickEv (capN s.clock n)) () 0
def sweepF (r : Ru) (s : St) : Option Fam := s.fams.find? fun f => f.dead || oldB r s.clock f
def sweepP (r : Ru) (s : St) : Plan Int := match sweepF r s with
  | none => .say 0 8
  | some f => .put (dropEv f.id) f.id 0
end Go.Proofs.YtckohmhhcknmaaaGreatDoor

/-
  The facts that the statement ScopeOrder begins with, in plain Lean.
-/
namespace Go.Proofs.YtckohmhhcknmaaaGreatDoor

theorem compact_short : ∀ (n : Nat) (l : List (List UInt8)), l.length = n → (Lib.compact l).length ≤ n
  | 0, l, h => by obtain rfl := List.eq_nil_of_length_eq_zero h; exact Nat.le_refl _
  | n + 1, l, h => by
    rcases List.eq_nil_or_concat l with rfl | ⟨r, y, rfl⟩
    · simp at h
    · rw [List.concat_eq_append] at h ⊢
      have ih := compact_short n r (by simpa using h)
      rw [compact_snoc, List.length_append]
      split
      · simp; omega
      · simp; omega
theorem uniq_short (ws : List (List UInt8)) : (uniq ws).length ≤ ws.length := by
  have := compact_short _ (ws.mergeSort leW) rfl
  rwa [List.length_mergeSort] at this
theorem scope_of {s : List UInt8} {ws : List (List UInt8)} (h : parts 43 s = ws) (h0 : s ≠ []) (hok : ws.all okW = true) (hl : ws.length ≤ 5) (h8 : ws.all (fun w => decide (w.length ≤ 8)) = true) : scopeN s = 0 ∧ scopeL s = uniq ws := by
  have h1 : scopeN s = 0 := by
    unfold scopeN
    rw [if_neg h0, h, if_pos hok, if_pos]
    refine ⟨Nat.le_trans (uniq_short ws) hl, ?_⟩
    rw [List.all_eq_true] at h8 ⊢
    exact fun w hw => h8 w (mem_uniq.1 hw)
  exact ⟨h1, by unfold scopeL; rw [if_neg h0, if_pos h1, h]⟩
theorem s_read : scopeN [114, 101, 97, 100] = 0 ∧ scopeL [114, 101, 97, 100] = uniq [[114, 101, 97, 100]] := scope_of rfl (by decide) (by decide) (by decide) (by decide)
theorem s_both : scopeN [119, 114, 105, 116, 101, 43, 114, 101, 97, 100] = 0 ∧ scopeL [119, 114, 105, 116, 101, 43, 114, 101, 97, 100] = uniq [[119, 114, 105, 116, 101], [114, 101, 97, 100]] := scope_of rfl (by decide) (by decide) (by decide) (by decide)
theorem s_bab : scopeN [98, 43, 97, 43, 98] = 0 ∧ scopeL [98, 43, 97, 43, 98] = uniq [[98], [97], [98]] := scope_of rfl (by decide) (by decide) (by decide) (by decide)
theorem bab_least : leastL [98, 43, 97, 43, 98] = [97, 43, 98] := by
  unfold leastL
  rw [s_bab.2]
  have : uniq [[98], [97], [98]] = [[97], [98]] := by
    refine (uniq_up _).ext (r := [[97], [98]]) ?_ fun w => ?_
    · unfold Up; simp [leW]; decide
    · rw [mem_uniq]; simp; exact .inr
  rw [this]
  rfl
theorem read_both : withinB [114, 101, 97, 100] [119, 114, 105, 116, 101, 43, 114, 101, 97, 100] = true := by
  rw [within_iff, s_read.2, s_both.2]
  intro w hw
  rw [mem_uniq] at hw ⊢
  simp at hw ⊢
  exact .inr hw
end Go.Proofs.YtckohmhhcknmaaaGreatDoor

/-
  strconv.Atoi: its number, and whether it gives an error.
-/
namespace Go.Proofs.YtckohmhhcknmaaaGreatDoor
open Go.RowKit Go.Sort

/-- the library's two errors are there -/
def ErrVars (w : World) : Prop := (∃ tp p, w.cell? ⟨4, 0, none⟩ = some (.iface tp p)) ∧ (∃ tp p, w.cell? ⟨5, 0, none⟩ = some (.iface tp p))
theorem ErrVars.lt {w : World} (h : ErrVars w) : 4 < w.heap.size ∧ 5 < w.heap.size := by
  obtain ⟨⟨_, _, h1⟩, _, _, h2⟩ := h
  exact ⟨World.block_lt_of_cell? w _ h1, World.block_lt_of_cell? w _ h2⟩
theorem ErrVars.below {B : Nat} {w w' : World} (h : ErrVars w) (hb : Below B w w') (h1 : 4 < B) (h2 : 5 < B) : ErrVars w' := by
  obtain ⟨⟨a, b, e1⟩, c, d, e2⟩ := h
  exact ⟨⟨a, b, (hb.cell (p := ⟨4, 0, none⟩) h1).trans e1⟩, c, d, (hb.cell (p := ⟨5, 0, none⟩) h2).trans e2⟩
theorem ErrVars.below' {w w' : World} (h : ErrVars w) (hb : Below w.heap.size w w') : ErrVars w' := h.below hb h.lt.1 h.lt.2

theorem atoi_yes (s : ByteArray) (w : World) (hs : s.size ≤ 1000000) (h : atoiE s.data.toList = true) :
    Calls Tryz.prog 99 #[.string s] w fun e w' => e = .returned (.tuple #[.int .i64 (atoiN s.data.toList), .nilIface]) ∧ Below w.heap.size w w' := by
  unfold atoiE at h
  unfold atoiN
  rcases ha : Lib.atoiAll s.data.toList with v | _ | _
  · refine (Tryz.strconv_Atoi_ok s (by omega) v ha w).mono ?_
    rintro e w' ⟨rfl, hw⟩
    refine ⟨rfl, ?_⟩
    rcases hw with rfl | ⟨t, rfl⟩
    · exact Below.refl _ _
    · exact Lib.bytesWorld_below w _ t
  · rw [ha] at h; cases h
  · rw [ha] at h; cases h
def Failed (n : Int) (e : Ending) : Prop := ∃ te pe, e = .returned (.tuple #[.int .i64 n, .iface te pe])
theorem atoi_no (s : ByteArray) (w : World) (hs : s.size ≤ 1000000) (hv : ErrVars w) (h : atoiE s.data.toList = false) :
    Calls Tryz.prog 99 #[.string s] w fun e w' => Failed (atoiN s.data.toList) e ∧ Below w.heap.size w w' := by
  unfold atoiE at h
  unfold atoiN
  obtain ⟨⟨t1, p1, h1⟩, t2, p2, h2⟩ := hv
  rcases ha : Lib.atoiAll s.data.toList with v | _ | _
  · rw [ha] at h; cases h
  · refine (Tryz.strconv_Atoi_syntax s (by omega) ha _ w h1 (.inr ⟨_, _, rfl⟩)).mono ?_
    rintro e w' ⟨N, rfl, _, _, hb⟩
    exact ⟨⟨_, _, rfl⟩, hb⟩
  · refine (Tryz.strconv_Atoi_range s (by omega) ha _ w h2 (.inr ⟨_, _, rfl⟩)).mono ?_
    rintro e w' ⟨N, rfl, _, _, hb⟩
    exact ⟨⟨_, _, rfl⟩, hb⟩
/-- strconv.Itoa at any int -/
theorem itoa_any (x : Int) (h0 : -9223372036854775808 ≤ x) (h1 : x ≤ 9223372036854775807) (w : World) (hT : Tens w) :
    Calls Tryz.prog 74 #[.int .i64 x] w fun e w' => e = .returned (.string (itoS x)) ∧ Below w.heap.size w w' := by
  refine (Tryz.strconv_Itoa x h0 h1 w hT).mono ?_
  rintro e w' ⟨rfl, k, os, rfl⟩
  exact ⟨rfl, below_grown w k os⟩
theorem itoS_data (x : Int) : (itoS x).data.toList = Lib.itoa x := by simp [itoS]
theorem itoS_list (x : Int) : (itoS x).toList = Lib.itoa x := by rw [ByteArray.toList_eq]; exact itoS_data x
end Go.Proofs.YtckohmhhcknmaaaGreatDoor

/-
  token.number: a number that is written just so.
-/
namespace Go.Proofs.YtckohmhhcknmaaaGreatDoor
open Go.RowKit Go.Sort

set_option maxHeartbeats 1000000 in
theorem number_c (s : ByteArray) (W : World) (hs : s.size ≤ 1000000) (hT : Tens W) (hv : ErrVars W) :
    Calls Tryz.prog 94 #[.string s] W fun e w' => e = .returned (.tuple #[.int .i64 (atoiN s.data.toList), .bool (numB s.data.toList)]) ∧ Below W.heap.size W w' := by
  have hb := atoiN_bounds s.data.toList
  have hsl : s.toList = s.data.toList := by rw [ByteArray.toList_eq]
  cases hE : atoiE s.data.toList
  · have HA := Lib.hid (atoi_no s W hs hv hE)
    have HN := Lib.hid (show numB s.data.toList = false by unfold numB; rw [hE]; rfl)
    clear hE hT hv hsl
    generalize atoiN s.data.toList = n at *
    go_enter Tryz.func94, Tryz.ntmps94
    go_wp2_with
      (go_at_call 99; refine HA.out.mono ?_; rintro e w1 ⟨⟨te, pe, rfl⟩, hb1⟩
       have HB := Lib.hid hb1
       clear hb1)
    go_ret2
    exact ⟨by rw [HN.out]; rfl, HB.out⟩
  · have HA := Lib.hid (atoi_yes s W hs hE)
    have HI := Lib.hid (fun w => itoa_any (atoiN s.data.toList) hb.1 hb.2 w)
    have HT := Lib.hid hT
    have lt := hT.lt
    have hN : numB s.data.toList = (((itoS (atoiN s.data.toList)).toList == s.toList) && decide (0 ≤ atoiN s.data.toList) && decide (atoiN s.data.toList ≤ 1099511627776)) := by
      unfold numB okN
      rw [hE, itoS_list, hsl, Bool.true_and, ← Bool.and_assoc]
      congr 2
      rw [Bool.eq_iff_iff]
      simp
    have HN := Lib.hid hN
    clear hE hT hv hsl hN
    generalize atoiN s.data.toList = n at *
    generalize itoS n = y at *
    cases hq : (y.toList == s.toList)
    · have HQ := Lib.hid hq
      go_enter Tryz.func94, Tryz.ntmps94
      go_wp2_with
        (first
        | (go_at_call 99; refine HA.out.mono ?_; rintro e w1 ⟨rfl, hb1⟩
           have HB := Lib.hid hb1
           clear hb1)
        | (go_at_call 74; refine (HI.out _ (HT.out.below HB.out lt)).mono ?_; rintro e w2 ⟨rfl, hb2⟩
           have HB2 := Lib.hid (below_2 HB.out hb2)
           clear hb2))
      go_ret2
      exact ⟨by rw [HN.out, HQ.out]; rfl, HB2.out⟩
    · have HQ := Lib.hid hq
      by_cases h0 : 0 ≤ n
      all_goals
        go_enter Tryz.func94, Tryz.ntmps94
        go_wp2_with
          (first
          | (go_at_call 99; refine HA.out.mono ?_; rintro e w1 ⟨rfl, hb1⟩
             have HB := Lib.hid hb1
             clear hb1)
          | (go_at_call 74; refine (HI.out _ (HT.out.below HB.out lt)).mono ?_; rintro e w2 ⟨rfl, hb2⟩
             have HB2 := Lib.hid (below_2 HB.out hb2)
             clear hb2))
        go_ret2
        refine ⟨?_, HB2.out⟩
        rw [HN.out, HQ.out]
        first
          | (rw [show decide (0 ≤ n) = true by simp; omega]; rfl)
          | (rw [show decide (0 ≤ n) = false by simp; omega]; rfl)
end Go.Proofs.YtckohmhhcknmaaaGreatDoor

/-
  token.Write where the token is right.
-/
namespace Go.Proofs.YtckohmhhcknmaaaGreatDoor
open Go.RowKit

theorem mac_tagS (key : Int) (s : ByteArray) (W : World) (hs : s.size ≤ 9223372036854775807) :
    Calls Tryz.prog 76 #[.int .i64 key, .string s] W fun e w' => e = .returned (.string (tagS key s)) ∧ Below W.heap.size W w' := mac_tag key s W hs

theorem four_cells {W w : World} {x0 x1 x2 x3 : Value} {t : TypeId} (h : Below (W.alloc (.cells #[x0, x1, x2, x3] t)).heap.size (W.alloc (.cells #[x0, x1, x2, x3] t)) w) :
    w.cell? ⟨W.heap.size, 0, none⟩ = some x0 ∧ w.cell? ⟨W.heap.size, 1, none⟩ = some x1 ∧ w.cell? ⟨W.heap.size, 2, none⟩ = some x2 ∧ w.cell? ⟨W.heap.size, 3, none⟩ = some x3 := by
  refine ⟨?_, ?_, ?_, ?_⟩
  · rw [h.cell (p := ⟨W.heap.size, 0, none⟩) (by simp)]; simp
  · rw [h.cell (p := ⟨W.heap.size, 1, none⟩) (by simp)]; simp
  · rw [h.cell (p := ⟨W.heap.size, 2, none⟩) (by simp)]; simp
  · rw [h.cell (p := ⟨W.heap.size, 3, none⟩) (by simp)]; simp
set_option maxHeartbeats 1000000 in
theorem token_write_yes (key a b c d : Int) (W : World) (hT : Tens W) (h : rightN a b c d = true) :
    Calls Tryz.prog 65 #[.int .i64 key, v4 a b c d] W fun e w' => e = .returned (.tuple #[.string (tokS key a b c d), .nilIface]) ∧ Below W.heap.size W w' := by
  have HR := fun w => token_right a b c d w
  rw [h] at HR
  have HH := Lib.hid HR
  clear HR
  have hsz := bodyS_size a b c d h
  have hts := tagS_size key (bodyS a b c d)
  have e1 := add_run (bodyS a b c d) (⟨#[46]⟩ : ByteArray) 70 1 hsz (by decide) (by omega)
  have z1 := app_size (bodyS a b c d) (⟨#[46]⟩ : ByteArray) 70 1 hsz (by decide)
  have e2 := add_run _ (tagS key (bodyS a b c d)) _ 16 z1 (by omega) (by omega)
  have HRT := Lib.hid h
  have HT := Lib.hid hT
  have hTlt := hT.lt
  have HB := fun (w : World) (hw : Tens w) => token_body a b c d w hw h
  have HBB := Lib.hid HB
  have htk : tokS key a b c d = bodyS a b c d ++ ⟨#[46]⟩ ++ tagS key (bodyS a b c d) := rfl
  have HTK := Lib.hid htk
  clear hT h z1 HB htk
  generalize bodyS a b c d = bs at *
  unfold v4 at *
  go_enter Tryz.func65, Tryz.ntmps65
  go_wp2_with (first
    | (go_at_call 111; refine (HH.out _).mono ?_; rintro e w1 ⟨rfl, hb1⟩
       have hB1 := ((Below.refl W.heap.size W).alloc (Nat.le_refl _) (.cells #[.int .i64 a, .int .i64 b, .int .i64 c, .int .i64 d] 104)).trans (hb1.mono (by simp))
       obtain ⟨hc0, hc1, hc2, hc3⟩ := four_cells hb1
       have HB1 := Lib.hid hB1
       clear hb1 hB1)
    | (go_at_call 96; refine (HBB.out _ (HT.out.below HB1.out hTlt)).mono ?_; rintro e w2 ⟨rfl, hb2⟩
       have HB2 := Lib.hid (below_2 HB1.out hb2)
       clear hb2)
    | (go_at_call 76; refine (mac_tagS _ _ _ (by omega)).mono ?_; rintro e w3 ⟨rfl, hb3⟩
       have HB3 := Lib.hid (below_2 HB2.out hb3)
       clear hb3))
  go_ret2
  exact ⟨by rw [HTK.out]; rfl, HB3.out⟩
end Go.Proofs.YtckohmhhcknmaaaGreatDoor

/-
  token.Read: the token that a text is, or what is wrong with it.
-/
namespace Go.Proofs.YtckohmhhcknmaaaGreatDoor
open Go.RowKit Go.Sort

theorem tok_row_tmp {P : Program} {fn : Func} {p u : Tmp} {ty : TypeId} (h : fn.results = #[.cell p ty, .tmp u]) (tmps : Array Value) (w : World) (g : Nat) (t : TypeId) (cs : Array Value) (d : TypeDesc) (x : Value)
    (hp : tmps.getD p undef = .pointer (some ⟨g, 0, none⟩)) (hx : tmps.getD u undef = x) (hg : Blk w g t cs)
    (hu : P.underlying ty = some d) (hd : (match d with | .struct _ | .array _ _ => true | _ => false) = true) (hi : (P.info? ty).map (·.size) = some cs.size) :
    (results fn tmps).run P w = .ok (.tuple #[.agg cs, x]) w := by
  rw [results_cell_tmp h, hp, hx]
  simp only [asAddr, Sem.run_pure, Result.andThen]
  rw [run_loadVar_row w g t ty cs (0, 0) d hg hu hd hi]
/-- what is known while token.Read is under way: its result's block, its row of words -/
structure TR (W : World) (L : List (List UInt8)) (v : Value) (w : World) : Prop where
  below : Below W.heap.size W w
  res : Blk w W.heap.size 104 #[.int .i64 0, .int .i64 0, .int .i64 0, .int .i64 0]
  row : Row w (W.heap.size + 1) v L
  tens : Tens w
  errs : ErrVars w
theorem TR.keep {W w w' : World} {L : List (List UInt8)} {v : Value} (h : TR W L v w) (hb : Below w.heap.size w w') : TR W L v w' :=
  ⟨h.below.trans (hb.mono h.below.size), h.res.below' hb, h.row.below hb, h.tens.below hb h.tens.lt, h.errs.below' hb⟩

theorem TR.facts {W w : World} {L : List (List UInt8)} {v : Value} (h : TR W L v w) : ∃ g cap, v = .slice (some ⟨g, 0, none⟩) L.length cap ∧ L.length ≤ cap ∧ cap ≤ 9223372036854775807 ∧ W.heap.size + 1 ≤ g ∧ g < w.heap.size ∧ W.heap.size < w.heap.size ∧
    (∀ j, j < L.length → w.cell? ⟨g, j, none⟩ = some (.string (txt (L.getD j [])))) ∧ (w.cell? ⟨W.heap.size, 0, none⟩ = some (.int .i64 0) ∧ w.cell? ⟨W.heap.size, 1, none⟩ = some (.int .i64 0) ∧ w.cell? ⟨W.heap.size, 2, none⟩ = some (.int .i64 0) ∧ w.cell? ⟨W.heap.size, 3, none⟩ = some (.int .i64 0)) ∧
    (w.frozen? ⟨W.heap.size, 0, none⟩ = false ∧ w.frozen? ⟨W.heap.size, 1, none⟩ = false ∧ w.frozen? ⟨W.heap.size, 2, none⟩ = false ∧ w.frozen? ⟨W.heap.size, 3, none⟩ = false) := by
  obtain ⟨g, cap, rfl, h1, h2, h3, h4, _⟩ := h.row.parts
  exact ⟨g, cap, rfl, h3, h4, h1, h2, h.res.lt, fun j hj => h.row.cell j hj, ⟨h.res.cell 0, h.res.cell 1, h.res.cell 2, h.res.cell 3⟩, h.res.frozen 0, h.res.frozen 1, h.res.frozen 2, h.res.frozen 3⟩

def TokGot (W : World) (R : Int × Int × Int × Int × Int) (e : Ending) (w' : World) : Prop := e = .returned (.tuple #[v4 R.2.1 R.2.2.1 R.2.2.2.1 R.2.2.2.2, errV R.1]) ∧ Below W.heap.size W w'

theorem tokRead_start (_key : Int) (s : ByteArray) (W : World) (hs : s.size ≤ 1000) (hm : MaxL W) (hT : Tens W) (hv : ErrVars W) :
    Calls Tryz.prog 93 #[.string s, .string ⟨#[46]⟩] (W.alloc (.cells #[.int .i64 0, .int .i64 0, .int .i64 0, .int .i64 0] 104)) fun e w' => ∃ v, e = .returned v ∧ TR W (parts 46 s.data.toList) v w' := by
  have hb0 : Below W.heap.size W (W.alloc (.cells #[.int .i64 0, .int .i64 0, .int .i64 0, .int .i64 0] 104)) := (Below.refl _ _).alloc (Nat.le_refl _) _
  refine (split_row 46 s (W.heap.size + 1) _ (by omega) (hm.below hb0 hm.lt) (by simp)).mono ?_
  rintro e w' ⟨v, rfl, hr, hb⟩
  exact ⟨v, rfl, hb0.trans (hb.mono hb0.size), (Blk.new W _ _).below' hb, hr, (hT.below hb0 hT.lt).below hb (by simp; have := hT.lt; omega), (hv.below hb0 hv.lt.1 hv.lt.2).below hb (by simp; have := hv.lt.1; omega) (by simp; have := hv.lt.2; omega)⟩

/-- the result's block behind four stores -/
theorem four_sets {w : World} {rb : Nat} {T : TypeId} {y0 y1 y2 y3 : Value} (h : Blk w rb T #[y0, y1, y2, y3]) (x0 x1 x2 x3 : Value) :
    Blk ((((w.setCell ⟨rb, 0, none⟩ x0).setCell ⟨rb, 1, none⟩ x1).setCell ⟨rb, 2, none⟩ x2).setCell ⟨rb, 3, none⟩ x3) rb T #[x0, x1, x2, x3] :=
  (((h.set_ 0 x0).set_ 1 x1).set_ 2 x2).set_ 3 x3
theorem four_below {W w : World} (h : Below W.heap.size W w) (x0 x1 x2 x3 : Value) :
    Below W.heap.size W ((((w.setCell ⟨W.heap.size, 0, none⟩ x0).setCell ⟨W.heap.size, 1, none⟩ x1).setCell ⟨W.heap.size, 2, none⟩ x2).setCell ⟨W.heap.size, 3, none⟩ x3) :=
  (((h.setCell (Nat.le_refl _) x0).setCell (Nat.le_refl _) x1).setCell (Nat.le_refl _) x2).setCell (Nat.le_refl _) x3
theorem tok_end {W w : World} {A : Act} {a b c d n : Int} (hb : Below W.heap.size W w) (hr : Blk w W.heap.size 104 #[.int .i64 a, .int .i64 b, .int .i64 c, .int .i64 d])
    (hp : A.tmps.getD 4 undef = .pointer (some ⟨W.heap.size, 0, none⟩)) (hx : A.tmps.getD 5 undef = errV n) (hd : A.defers = []) :
    bodyPost Tryz.prog Tryz.f48 (TokGot W (n, a, b, c, d)) Exit.ret A w :=
  bodyPost_ret (tok_row_tmp rfl A.tmps w _ _ _ _ _ hp hx hr Tryz.underlying104 rfl (by kernel_rfl)) hd ⟨rfl, hb⟩

set_option maxHeartbeats 4000000 in
set_option maxRecDepth 100000 in
/-- no kind, or another number of words -/
theorem tokRead_form (key : Int) (s : ByteArray) (W : World) (hs : s.size ≤ 1000) (hm : MaxL W) (hT : Tens W) (hv : ErrVars W)
    (hf : ((parts 46 s.data.toList).getD 0 [] ≠ [97] ∧ (parts 46 s.data.toList).getD 0 [] ≠ [114]) ∨ ((parts 46 s.data.toList).getD 0 [] = [97] ∧ (parts 46 s.data.toList).length ≠ 5) ∨ ((parts 46 s.data.toList).getD 0 [] = [114] ∧ (parts 46 s.data.toList).length ≠ 4)) :
    Calls Tryz.prog 48 #[.int .i64 key, .string s] W (TokGot W (3, 0, 0, 0, 0)) := by
  have H := Lib.hid (tokRead_start key s W hs hm hT hv)
  have hpos := parts_pos 46 s.data.toList
  clear hm hT hv
  generalize parts 46 s.data.toList = L at *
  generalize hx : L.getD 0 [] = x at *
  have HX := Lib.hid hx
  clear hx
  have hkey : ((txt x).toList == [97]) = false ∧ ((txt x).toList == [114]) = false ∨ ((txt x).toList == [97]) = true ∧ ((L.length : Int) != 5) = true ∨ ((txt x).toList == [97]) = false ∧ ((txt x).toList == [114]) = true ∧ ((L.length : Int) != 4) = true := by
    rw [toList_txt]
    rcases hf with ⟨h1, h2⟩ | ⟨h1, h2⟩ | ⟨h1, h2⟩
    · exact .inl ⟨by simpa using h1, by simpa using h2⟩
    · exact .inr (.inl ⟨by simp [h1], by simp; omega⟩)
    · exact .inr (.inr ⟨by simp [h1], by simp [h1], by simp; omega⟩)
  clear hf
  rcases hkey with ⟨e1, e2⟩ | ⟨e1, e2⟩ | ⟨e1, e2, e3⟩
  all_goals
    go_enter Tryz.func48, Tryz.ntmps48
    go_wp2_with fail
    go_at_call 93
    refine H.out.mono ?_
    rintro e w1 ⟨v, rfl, h⟩
    have HB := Lib.hid h.below
    have HBL := Lib.hid h.res
    obtain ⟨g, cap, rfl, hcap, hmax, hg1, hg2, hrl, hcells, ⟨r0, r1, r2, r3⟩, f0, f1, f2, f3⟩ := h.facts
    have hc := hcells 0 hpos
    rw [HX.out] at hc
    clear h hcells
    go_wp2_with fail
    exact tok_end ((four_below HB.out (.int .i64 0) (.int .i64 0) (.int .i64 0) (.int .i64 0)).alloc (four_below HB.out (.int .i64 0) (.int .i64 0) (.int .i64 0) (.int .i64 0)).size _) ((four_sets HBL.out (.int .i64 0) (.int .i64 0) (.int .i64 0) (.int .i64 0)).alloc _) rfl rfl rfl
end Go.Proofs.YtckohmhhcknmaaaGreatDoor

/-
  token.Read where the words are as many as they should be: what is known on the way.
-/
namespace Go.Proofs.YtckohmhhcknmaaaGreatDoor
open Go.RowKit Go.Sort

theorem Row.at_ {w w' : World} {B0 B : Nat} {v : Value} {L : List (List UInt8)} (h : Row w B0 v L) (hb : Below B w w') (hv : ∀ g, v.ownBlock = some g → g < B) : Row w' B0 v L := by
  obtain ⟨g, cap, rfl, ho⟩ := h
  refine ⟨g, cap, rfl, ho.1, ?_⟩
  rcases ho.2 with h0 | ⟨g', cap', cur, e, h1, h2, h3⟩
  · exact .inl h0
  · refine .inr ⟨g', cap', cur, e, h1, ?_, h3⟩
    rw [hb.block g' (hv g' (by rw [e]; rfl))]
    exact h2
structure TK (W : World) (L : List (List UInt8)) (g cap tb B : Nat) (k : Int) (w : World) : Prop where
  tr : TR W L (.slice (some ⟨g, 0, none⟩) L.length cap) w
  tk : Blk w tb 104 #[.int .i64 k, .int .i64 0, .int .i64 0, .int .i64 0]
  hB : B ≤ w.heap.size
  tbB : tb < B
  gB : g < B
  WB : W.heap.size < B
  ne1 : W.heap.size ≠ tb
  ne2 : g ≠ tb
  ne3 : W.heap.size ≠ g
  gl : 4 < B ∧ 5 < B ∧ 6 < B
theorem TK.keep {W w w' : World} {L : List (List UInt8)} {g cap tb B : Nat} {k : Int} (h : TK W L g cap tb B k w) (hb : Below B w w') : TK W L g cap tb B k w' :=
  ⟨⟨h.tr.below.trans (hb.mono (Nat.le_of_lt h.WB)), h.tr.res.below hb h.WB, h.tr.row.at_ hb (fun x hx => by simp [Value.ownBlock] at hx; subst hx; exact h.gB), h.tr.tens.below hb h.gl.2.2, h.tr.errs.below hb h.gl.1 h.gl.2.1⟩,
    h.tk.below hb h.tbB, Nat.le_trans h.hB hb.size, h.tbB, h.gB, h.WB, h.ne1, h.ne2, h.ne3, h.gl⟩
theorem TK.keep' {W w w' : World} {L : List (List UInt8)} {g cap tb B : Nat} {k : Int} (h : TK W L g cap tb B k w) (hb : Below w.heap.size w w') : TK W L g cap tb B k w' := h.keep (hb.mono h.hB)
theorem TK.grown {W w w' : World} {L : List (List UInt8)} {g cap tb B : Nat} {k : Int} {row : Option Nat} (h : TK W L g cap tb B k w) (hg : w.grownBy w' row) (hr : ∀ i, row = some i → B ≤ i) : TK W L g cap tb B k w' :=
  h.keep ((Below.refl B w).grown hg h.hB hr)
theorem TK.start {W w1 : World} {L : List (List UInt8)} {g cap : Nat} (h : TR W L (.slice (some ⟨g, 0, none⟩) L.length cap) w1) (hg1 : W.heap.size + 1 ≤ g) (hg2 : g < w1.heap.size) (k : Int) :
    TK W L g cap w1.heap.size (w1.heap.size + 1) k (w1.alloc (.cells #[.int .i64 k, .int .i64 0, .int .i64 0, .int .i64 0] 104)) := by
  have hrl := h.res.lt
  have h3 := h.errs.lt
  have h4 := h.tens.lt
  exact ⟨h.keep ((Below.refl _ _).alloc (Nat.le_refl _) _), Blk.new w1 _ _, by simp, by omega, by omega, by omega, by omega, by omega, by omega, by omega, by omega, by omega⟩
theorem TK.facts {W w : World} {L : List (List UInt8)} {g cap tb B : Nat} {k : Int} (h : TK W L g cap tb B k w) :
    (∀ j, j < L.length → w.cell? ⟨g, j, none⟩ = some (.string (txt (L.getD j [])))) ∧ (w.cell? ⟨W.heap.size, 0, none⟩ = some (.int .i64 0) ∧ w.cell? ⟨W.heap.size, 1, none⟩ = some (.int .i64 0) ∧ w.cell? ⟨W.heap.size, 2, none⟩ = some (.int .i64 0) ∧ w.cell? ⟨W.heap.size, 3, none⟩ = some (.int .i64 0)) ∧
    (w.frozen? ⟨W.heap.size, 0, none⟩ = false ∧ w.frozen? ⟨W.heap.size, 1, none⟩ = false ∧ w.frozen? ⟨W.heap.size, 2, none⟩ = false ∧ w.frozen? ⟨W.heap.size, 3, none⟩ = false) ∧
    (w.cell? ⟨tb, 0, none⟩ = some (.int .i64 k) ∧ w.cell? ⟨tb, 1, none⟩ = some (.int .i64 0) ∧ w.cell? ⟨tb, 2, none⟩ = some (.int .i64 0) ∧ w.cell? ⟨tb, 3, none⟩ = some (.int .i64 0)) ∧
    (w.frozen? ⟨tb, 0, none⟩ = false ∧ w.frozen? ⟨tb, 1, none⟩ = false ∧ w.frozen? ⟨tb, 2, none⟩ = false ∧ w.frozen? ⟨tb, 3, none⟩ = false) ∧ g < w.heap.size ∧ tb < w.heap.size ∧ W.heap.size < w.heap.size := by
  have hr := h.tr.res
  have hk := h.tk
  exact ⟨fun j hj => h.tr.row.cell j hj, ⟨hr.cell 0, hr.cell 1, hr.cell 2, hr.cell 3⟩, ⟨hr.frozen 0, hr.frozen 1, hr.frozen 2, hr.frozen 3⟩, ⟨hk.cell 0, hk.cell 1, hk.cell 2, hk.cell 3⟩, ⟨hk.frozen 0, hk.frozen 1, hk.frozen 2, hk.frozen 3⟩,
    Nat.lt_of_lt_of_le h.gB h.hB, Nat.lt_of_lt_of_le h.tbB h.hB, Nat.lt_of_lt_of_le h.WB h.hB⟩
structure TE (W : World) (tb : Nat) (cs : Array Value) (w : World) : Prop where
  below : Below W.heap.size W w
  res : Blk w W.heap.size 104 #[.int .i64 0, .int .i64 0, .int .i64 0, .int .i64 0]
  tk : Blk w tb 104 cs
  tens : Tens w
  lt : W.heap.size < tb
  WT : 6 < W.heap.size
theorem TE.of_tk {W w : World} {L : List (List UInt8)} {g cap tb B : Nat} {k : Int} (h : TK W L g cap tb B k w) (ht : W.heap.size < tb) (hg : 6 < W.heap.size) : TE W tb #[.int .i64 k, .int .i64 0, .int .i64 0, .int .i64 0] w := ⟨h.tr.below, h.tr.res, h.tk, h.tr.tens, ht, hg⟩
theorem tens_set {w : World} (h : Tens w) {p : Addr} (hp : 6 ≠ p.block) (u : Value) : Tens (w.setCell p u) := by
  unfold Tens Lib.TabIs at *
  unfold World.var? at *
  simp only [tens_g, Option.bind_some] at h ⊢
  rw [Below.heap_setCell w p u _ hp]
  exact h
theorem TE.set {W w : World} {tb : Nat} {cs : Array Value} (h : TE W tb cs w) (i : Nat) (u : Value) : TE W tb (cs.setIfInBounds i u) (w.setCell ⟨tb, i, none⟩ u) :=
  ⟨h.below.setCell (Nat.le_of_lt h.lt) u, h.res.far (Nat.ne_of_lt h.lt) u, h.tk.set_ i u, tens_set h.tens (by have := h.lt; have := h.WT; simp; omega) u, h.lt, h.WT⟩
theorem TE.drew {W w : World} {tb : Nat} {cs : Array Value} (h : TE W tb cs w) : TE W tb cs w.drew := ⟨below_drewN h.below 1, h.res, h.tk, h.tens, h.lt, h.WT⟩
theorem TE.keep {W w w' : World} {tb : Nat} {cs : Array Value} (h : TE W tb cs w) (hb : Below w.heap.size w w') : TE W tb cs w' :=
  ⟨h.below.trans (hb.mono h.below.size), h.res.below' hb, h.tk.below' hb, h.tens.below hb h.tens.lt, h.lt, h.WT⟩
theorem TE.facts {W w : World} {tb : Nat} {x0 x1 x2 x3 : Value} (h : TE W tb #[x0, x1, x2, x3] w) :
    (w.cell? ⟨W.heap.size, 0, none⟩ = some (.int .i64 0) ∧ w.cell? ⟨W.heap.size, 1, none⟩ = some (.int .i64 0) ∧ w.cell? ⟨W.heap.size, 2, none⟩ = some (.int .i64 0) ∧ w.cell? ⟨W.heap.size, 3, none⟩ = some (.int .i64 0)) ∧
    (w.frozen? ⟨W.heap.size, 0, none⟩ = false ∧ w.frozen? ⟨W.heap.size, 1, none⟩ = false ∧ w.frozen? ⟨W.heap.size, 2, none⟩ = false ∧ w.frozen? ⟨W.heap.size, 3, none⟩ = false) ∧
    (w.cell? ⟨tb, 0, none⟩ = some x0 ∧ w.cell? ⟨tb, 1, none⟩ = some x1 ∧ w.cell? ⟨tb, 2, none⟩ = some x2 ∧ w.cell? ⟨tb, 3, none⟩ = some x3) ∧ W.heap.size < w.heap.size ∧ tb < w.heap.size := by
  have hr := h.res
  have hk := h.tk
  exact ⟨⟨hr.cell 0, hr.cell 1, hr.cell 2, hr.cell 3⟩, ⟨hr.frozen 0, hr.frozen 1, hr.frozen 2, hr.frozen 3⟩, ⟨hk.cell 0, hk.cell 1, hk.cell 2, hk.cell 3⟩, hr.lt, hk.lt⟩
theorem right_1 {x y : List UInt8} (hx : numB x = true) (hy : numB y = true) : rightN 1 (atoiN x) (atoiN y) 0 = true := by simp [rightN, (numB_iff.1 hx).1, (numB_iff.1 hy).1]
theorem right_2 {x y z : List UInt8} (hx : numB x = true) (hy : numB y = true) (hz : numB z = true) : rightN 2 (atoiN x) (atoiN y) (atoiN z) = true := by simp [rightN, (numB_iff.1 hx).1, (numB_iff.1 hy).1, (numB_iff.1 hz).1]
theorem itoS_num {x : List UInt8} (hx : numB x = true) : itoS (atoiN x) = txt x := by
  unfold itoS txt
  rw [(numB_iff.1 hx).2]
theorem bodyS_1 {x y : List UInt8} (hx : numB x = true) (hy : numB y = true) : bodyS 1 (atoiN x) (atoiN y) 0 = txt (glue 46 [[114], x, y]) := by
  rw [bodyS, if_pos rfl, itoS_num hx, itoS_num hy, show (⟨#[114, 46]⟩ : ByteArray) = txt [114, 46] from rfl, show (⟨#[46]⟩ : ByteArray) = txt [46] from rfl]
  simp only [txt_app]
  simp [glue]
theorem bodyS_2 {x y z : List UInt8} (hx : numB x = true) (hy : numB y = true) (hz : numB z = true) : bodyS 2 (atoiN x) (atoiN y) (atoiN z) = txt (glue 46 [[97], x, y, z]) := by
  rw [bodyS, if_neg (by decide), itoS_num hx, itoS_num hy, itoS_num hz, show (⟨#[97, 46]⟩ : ByteArray) = txt [97, 46] from rfl, show (⟨#[46]⟩ : ByteArray) = txt [46] from rfl]
  simp only [txt_app]
  simp [glue]
theorem tag_eq (key : Int) {TT BS : ByteArray} {t B : List UInt8} (h1 : TT.data.toList = t) (h2 : BS = txt B) : decide (TT = tagS key BS) = decide (t = tagL key B) := by
  rw [decide_eq_decide]
  subst h2
  unfold tagS
  rw [data_txt, ← h1]
  exact ⟨fun h => by rw [h], fun h => by rw [← h]⟩
theorem same_below {w w' : World} (h : ∃ n, w' = w.drewN n) : Below w.heap.size w w' := by
  obtain ⟨n, rfl⟩ := h
  exact below_drewN (Below.refl _ _) n
theorem owns_keep {w w' : World} {base : Nat} {e : TypeId} {v : Value} {n : Nat} {xs : List Value} (h : w.ownsRow base e 1 v n xs) (hb : Below w.heap.size w w') : w'.ownsRow base e 1 v n xs := by
  refine h.kept (only_of_below hb none) ?_
  cases hv : v.ownBlock with
  | none => exact .inl rfl
  | some b => exact .inr (by simp)
theorem intInfo : (Tryz.prog.info? 3).map (fun i => (i.zero, i.size, i.bytes)) = some (some (.int .i64 0), 1, 8) := by kernel_rfl

set_option maxHeartbeats 8000000 in
set_option maxRecDepth 100000 in
theorem tokRead_1 (key : Int) (s : ByteArray) (W : World) (hs : s.size ≤ 1000) (hm : MaxL W) (hT : Tens W) (hv : ErrVars W) (x y t : List UInt8) (hL : parts 46 s.data.toList = [[114], x, y, t]) :
    Calls Tryz.prog 48 #[.int .i64 key, .string s] W (TokGot W (tokR (fun B => tagL key B) [[114], x, y, t])) := by
  have H := Lib.hid (tokRead_start key s W hs hm hT hv)
  have hlen : ∀ w ∈ [[114], x, y, t], w.length ≤ 1000 := by rw [← hL]; exact parts_word_len 46 _ _ (by rw [size_data]; exact hs)
  rw [hL] at H
  have hx : (txt x).size ≤ 1000000 := by rw [txt_size]; have := hlen x (by simp); omega
  have hy : (txt y).size ≤ 1000000 := by rw [txt_size]; have := hlen y (by simp); omega
  have ht : t.length ≤ 1000 := hlen t (by simp)
  obtain ⟨i0, hi, hz0, hz1, hz2⟩ := info_parts intInfo
  have e1 : ((txt [114]).toList == [97]) = false := by rw [toList_txt]; decide
  have e2 : ((txt [114]).toList == [114]) = true := by rw [toList_txt]; decide
  have lten := hT.lt
  clear hm hT hv hL hlen
  go_enter Tryz.func48, Tryz.ntmps48
  go_wp2_with fail
  go_at_call 93
  refine H.out.mono ?_
  rintro e w1 ⟨v, rfl, h⟩
  obtain ⟨g, cap, rfl, hcap, hmax, hg1, hg2, hrl, hcells, _, _, _, _, _⟩ := h.facts
  have HTK := Lib.hid (TK.start h hg1 hg2 1)
  have hc0 := hcells 0 (by simp)
  clear h hcells
  simp only [List.length_cons, List.length_nil, Nat.zero_add, Nat.reduceAdd, List.getD_cons_zero] at hc0 hcap
  generalize txt [114] = rr at *
  go_wp2_with fail
  have hB0 : w1.heap.size + 1 = (w1.alloc (.cells #[.int .i64 1, .int .i64 0, .int .i64 0, .int .i64 0] 104)).heap.size := by simp
  generalize w1.alloc (.cells #[.int .i64 1, .int .i64 0, .int .i64 0, .int .i64 0] 104) = w2 at *
  have n1 := HTK.out.ne1
  have n2 := HTK.out.ne2
  have n3 := HTK.out.ne3
  clear hc0 hg1 hg2
  generalize w1.heap.size = tb at *
  obtain ⟨hcs, ⟨r0, r1, r2, r3⟩, ⟨f0, f1, f2, f3⟩, ⟨k0, k1, k2, k3⟩, ⟨q0, q1, q2, q3⟩, lg, lt, lW⟩ := HTK.out.facts
  refine wp_loop_rounds 3 ?_
  have hc := hcs 1 (by simp)
  simp at hc
  clear hcs
  rw [rounds_succ]
  go_wp2_with fail
  go_at_call 94
  refine (number_c (txt x) _ hx HTK.out.tr.tens HTK.out.tr.errs).mono ?_
  rintro e wa0 ⟨rfl, hb⟩
  rw [data_txt]
  have HA0 := Lib.hid (HTK.out.keep' hb)
  clear r0 r1 r2 r3 f0 f1 f2 f3 k0 k1 k2 k3 q0 q1 q2 q3 lg lt lW
  clear hc hb
  obtain ⟨hcs, ⟨r0, r1, r2, r3⟩, ⟨f0, f1, f2, f3⟩, ⟨k0, k1, k2, k3⟩, ⟨q0, q1, q2, q3⟩, lg, lt, lW⟩ := HA0.out.facts
  cases hnx : numB x
  · clear hcs
    go_wp2_with fail
    rw [show tokR (fun B => tagL key B) [[114], x, y, t] = (3, 0, 0, 0, 0) from tokR_none (by simp [tokP, hnx])]
    exact tok_end (four_below HA0.out.tr.below (.int .i64 0) (.int .i64 0) (.int .i64 0) (.int .i64 0)) (four_sets HA0.out.tr.res (.int .i64 0) (.int .i64 0) (.int .i64 0) (.int .i64 0)) rfl rfl rfl
  · have HNx := Lib.hid hnx
    clear hnx
    have HCS := Lib.hid hcs
    clear hcs
    go_wp2_with
      (at_builtin; refine wpList_append_own _ rfl _ _ 22 rfl (tb + 1) 3 i0 (.int .i64 0) 1 8 Tryz.underlying22 hi hz0 hz1 hz2 rfl (by decide) _ 0 [] rfl (World.ownsRow_nil _ _ _ _) ⟨wa0.heap.size, 0, none⟩ 1 1 [.int .i64 (atoiN x)] rfl rfl (cell_one_new _ _ _) (fun u hu => by simp at hu; subst hu; rfl) (by unfold maxLen; omega) (by omega) (by have := HA0.out.hB; simp; omega) ?_; intro v0 wb0 hown' hgrow hnil
       have HO0 := Lib.hid hown'
       have HB0 := Lib.hid ((HA0.out.keep' ((Below.refl _ _).alloc (Nat.le_refl _) _)).grown hgrow (fun i hi => by cases hi))
       clear hown' hgrow hnil)
    clear HCS
    clear r0 r1 r2 r3 f0 f1 f2 f3 k0 k1 k2 k3 q0 q1 q2 q3 lg lt lW
    obtain ⟨hcs, ⟨r0, r1, r2, r3⟩, ⟨f0, f1, f2, f3⟩, ⟨k0, k1, k2, k3⟩, ⟨q0, q1, q2, q3⟩, lg, lt, lW⟩ := HB0.out.facts
    have hc := hcs 2 (by simp)
    simp at hc
    clear hcs
    rw [rounds_succ]
    go_wp2_with fail
    go_at_call 94
    refine (number_c (txt y) _ hy HB0.out.tr.tens HB0.out.tr.errs).mono ?_
    rintro e wa1 ⟨rfl, hb⟩
    rw [data_txt]
    have HA1 := Lib.hid (HB0.out.keep' hb)
    have hown := owns_keep HO0.out hb
    clear r0 r1 r2 r3 f0 f1 f2 f3 k0 k1 k2 k3 q0 q1 q2 q3 lg lt lW
    clear hc hb
    obtain ⟨hcs, ⟨r0, r1, r2, r3⟩, ⟨f0, f1, f2, f3⟩, ⟨k0, k1, k2, k3⟩, ⟨q0, q1, q2, q3⟩, lg, lt, lW⟩ := HA1.out.facts
    cases hny : numB y
    · clear hcs
      go_wp2_with fail
      rw [show tokR (fun B => tagL key B) [[114], x, y, t] = (3, 0, 0, 0, 0) from tokR_none (by simp [tokP, HNx.out, hny])]
      exact tok_end (four_below HA1.out.tr.below (.int .i64 0) (.int .i64 0) (.int .i64 0) (.int .i64 0)) (four_sets HA1.out.tr.res (.int .i64 0) (.int .i64 0) (.int .i64 0) (.int .i64 0)) rfl rfl rfl
    · have HNy := Lib.hid hny
      have hownB := hown.lt
      clear hny
      have HCS := Lib.hid hcs
      clear hcs
      go_wp2_with
        (at_builtin; refine wpList_append_own _ rfl _ _ 22 rfl (tb + 1) 3 i0 (.int .i64 0) 1 8 Tryz.underlying22 hi hz0 hz1 hz2 rfl (by decide) _ 1 [.int .i64 (atoiN x)] rfl (hown.alloc _) ⟨wa1.heap.size, 0, none⟩ 1 1 [.int .i64 (atoiN y)] rfl rfl (cell_one_new _ _ _) (fun u hu => by simp at hu; subst hu; rfl) (by unfold maxLen; omega) (by omega) (by have := HA1.out.hB; simp; omega) ?_; intro v1 wb1 hown' hgrow hnil
         have HO1 := Lib.hid hown'
         have HB1 := Lib.hid ((HA1.out.keep' ((Below.refl _ _).alloc (Nat.le_refl _) _)).grown hgrow (fun i hi => (hownB i hi).1))
         clear hown' hgrow hnil)
      clear HCS
      clear r0 r1 r2 r3 f0 f1 f2 f3 k0 k1 k2 k3 q0 q1 q2 q3 lg lt lW
      obtain ⟨hcs, ⟨r0, r1, r2, r3⟩, ⟨f0, f1, f2, f3⟩, ⟨k0, k1, k2, k3⟩, ⟨q0, q1, q2, q3⟩, lg, lt, lW⟩ := HB1.out.facts
      clear hownB
      rw [rounds_succ]
      have hc := hcs 3 (by simp)
      simp at hc
      clear hcs
      have hts := txt_size t
      have HTT := Lib.hid (data_txt t)
      have HTR1 := Lib.hid (fun (w : World) (hh : t.all (hexD.contains ·) = true) => (trim_set ⟨#[48, 49, 50, 51, 52, 53, 54, 55, 56, 57, 97, 98, 99, 100, 101, 102]⟩ (txt t) w (by omega) (by decide) (ascii_of_all (by decide))).1 (by rw [data_txt]; exact hh))
      have HTR2 := Lib.hid (fun (w : World) (hh : t.all (hexD.contains ·) = false) => (trim_set ⟨#[48, 49, 50, 51, 52, 53, 54, 55, 56, 57, 97, 98, 99, 100, 101, 102]⟩ (txt t) w (by omega) (by decide) (ascii_of_all (by decide))).2 (by rw [data_txt]; exact hh))
      generalize txt t = TT at *
      by_cases h16 : t.length = 16
      · have e16 : ((TT.size : Int) != 16) = false := by simp; omega
        have H16 := Lib.hid h16
        clear hts
        cases hhex : t.all (hexD.contains ·)
        · have HT := Lib.hid (fun w => HTR2.out w hhex)
          have HX := Lib.hid hhex
          clear hhex HTR1 HTR2
          go_wp2_with
            (go_at_call 46; refine (HT.out _).mono ?_; rintro e wc ⟨⟨z, rfl, hz⟩, hb⟩
             have HC := Lib.hid (HB1.out.keep' hb)
             clear r0 r1 r2 r3 f0 f1 f2 f3 k0 k1 k2 k3 q0 q1 q2 q3 lg lt lW
             clear hb
             obtain ⟨_, ⟨r0, r1, r2, r3⟩, ⟨f0, f1, f2, f3⟩, _, _, _, _, lW⟩ := HC.out.facts)
          rw [tokR_1 HNx.out HNy.out, if_neg (tagB_no2 HX.out)]
          exact tok_end (four_below HC.out.tr.below (.int .i64 0) (.int .i64 0) (.int .i64 0) (.int .i64 0)) (four_sets HC.out.tr.res (.int .i64 0) (.int .i64 0) (.int .i64 0) (.int .i64 0)) rfl rfl rfl
        · have HT := Lib.hid (fun w => HTR1.out w hhex)
          have HX := Lib.hid hhex
          clear hhex HTR1 HTR2
          have hown := HO1.out
          have HOO := HO1
          go_wp2_with
            (go_at_call 46; refine (HT.out _).mono ?_; rintro e wc ⟨rfl, hb⟩
             have HC := Lib.hid (HB1.out.keep' hb)
             have HO := Lib.hid (owns_keep HOO.out hb)
             clear r0 r1 r2 r3 f0 f1 f2 f3 k0 k1 k2 k3 q0 q1 q2 q3 lg lt lW
             clear hb
             obtain ⟨hcs, ⟨r0, r1, r2, r3⟩, ⟨f0, f1, f2, f3⟩, ⟨k0, k1, k2, k3⟩, ⟨q0, q1, q2, q3⟩, lg, lt, lW⟩ := HC.out.facts
             clear hcs)
          rcases HO.out.2 with ⟨_, e0⟩ | ⟨gn, capn, cur, rfl, hgn, hbn, hn1, hn2, hn3, hn4⟩
          · cases e0
          have c0 := HO.out.cellAt 0 (by omega)
          have c1 := HO.out.cellAt 1 (by omega)
          simp at c0 c1
          have lgn : gn < wc.heap.size := Blk.lt (t := 3) (cs := cur) hbn
          have gnt : tb ≠ gn := by omega
          have gnt' : gn ≠ tb := by omega
          clear hbn hn4
          have HTE := Lib.hid (TE.of_tk HC.out (by omega) lten)
          go_region
          go_wp2_with fail
          have HT4 : Hid (TE W tb #[.int .i64 1, .int .i64 (atoiN x), .int .i64 (atoiN y), .int .i64 0] (((wc.setCell ⟨tb, 1, none⟩ (.int .i64 (atoiN x))).setCell ⟨tb, 2, none⟩ (.int .i64 (atoiN y))).drew)) := Lib.hid (TE.drew ((HTE.out.set 1 (.int .i64 (atoiN x))).set 2 (.int .i64 (atoiN y))))
          generalize (((wc.setCell ⟨tb, 1, none⟩ (.int .i64 (atoiN x))).setCell ⟨tb, 2, none⟩ (.int .i64 (atoiN y))).drew) = w4 at *
          clear r0 r1 r2 r3 f0 f1 f2 f3 k0 k1 k2 k3 q0 q1 q2 q3 lg lt lW HTE HC HO
          clear c0 c1 lgn gnt gnt'
          have hrt := right_1 HNx.out HNy.out
          have HBD := Lib.hid (token_body 1 (atoiN x) (atoiN y) 0 w4 HT4.out.tens hrt)
          unfold v4 at HBD
          have hbs := bodyS_size _ _ _ _ hrt
          clear hrt
          have HBE := Lib.hid (bodyS_1 HNx.out HNy.out)
          have HTG := Lib.hid (fun w => mac_tagS key (bodyS 1 (atoiN x) (atoiN y) 0) w (by omega))
          have hsz := tagS_size key (bodyS 1 (atoiN x) (atoiN y) 0)
          have hts2 : TT.size ≤ 1000000 := by have := congrArg List.length HTT.out; rw [size_data] at this; omega
          have HSM := Lib.hid (fun w => mac_same TT (tagS key (bodyS 1 (atoiN x) (atoiN y) 0)) w hts2 (by omega))
          have HEQ := Lib.hid (tag_eq key HTT.out HBE.out)
          clear hbs hsz hts2
          generalize bodyS 1 (atoiN x) (atoiN y) 0 = BS at *
          generalize tagS key BS = TG at *
          go_at_call 96
          refine HBD.out.mono ?_
          rintro e w5 ⟨rfl, hb5⟩
          have HT5 := Lib.hid (HT4.out.keep hb5)
          clear hb5
          go_wp2_with fail
          go_at_call 76
          refine (HTG.out _).mono ?_
          rintro e w6 ⟨rfl, hb6⟩
          have HT6 := Lib.hid (HT5.out.keep hb6)
          clear hb6
          go_wp2_with fail
          go_at_call 95
          refine (HSM.out _).mono ?_
          rintro e w7 ⟨rfl, hb7⟩
          have HT7 := Lib.hid (HT6.out.keep (same_below hb7))
          clear hb7
          obtain ⟨⟨r0, r1, r2, r3⟩, ⟨f0, f1, f2, f3⟩, ⟨k0, k1, k2, k3⟩, lW, lt⟩ := HT7.out.facts
          cases hq : decide (TT = TG)
          · have HQ := Lib.hid hq
            have hne := HEQ.out
            rw [hq] at hne
            clear hq
            have HNE := Lib.hid hne
            clear hne
            go_wp2_with fail
            rw [tokR_1 HNx.out HNy.out, if_pos (tagB_yes H16.out HX.out), if_neg (by simpa using HNE.out)]
            exact tok_end (four_below HT7.out.below (.int .i64 0) (.int .i64 0) (.int .i64 0) (.int .i64 0)) (four_sets HT7.out.res (.int .i64 0) (.int .i64 0) (.int .i64 0) (.int .i64 0)) rfl rfl rfl
          · have HQ := Lib.hid hq
            have hne := HEQ.out
            rw [hq] at hne
            clear hq
            have HNE := Lib.hid hne
            clear hne
            go_wp2_with fail
            rw [tokR_1 HNx.out HNy.out, if_pos (tagB_yes H16.out HX.out), if_pos (by simpa using HNE.out)]
            exact tok_end (four_below HT7.out.below _ _ _ _) (four_sets HT7.out.res _ _ _ _) rfl rfl rfl
      · have e16 : ((TT.size : Int) != 16) = true := by simp; omega
        clear hts
        have H16 := Lib.hid h16
        clear h16
        go_wp2_with fail
        rw [show tokR (fun B => tagL key B) [[114], x, y, t] = (3, 0, 0, 0, 0) from by rw [tokR_1 HNx.out HNy.out, if_neg (tagB_no1 H16.out)]]
        exact tok_end (four_below HB1.out.tr.below (.int .i64 0) (.int .i64 0) (.int .i64 0) (.int .i64 0)) (four_sets HB1.out.tr.res (.int .i64 0) (.int .i64 0) (.int .i64 0) (.int .i64 0)) rfl rfl rfl
end Go.Proofs.YtckohmhhcknmaaaGreatDoor
