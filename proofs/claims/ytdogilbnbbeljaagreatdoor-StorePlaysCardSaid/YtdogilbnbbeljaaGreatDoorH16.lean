/-
  plain.Same: are two states the same? It says so of the same ones.
-/
import Derived.Test.YtdogilbnbbeljaaGreatDoorH15
import Derived.Laws.StructEq
import Derived.Test.YtdogilbnbbeljaaGreatDoorProg
import Derived.WalkKit
namespace Go.Proofs.YtdogilbnbbeljaaGreatDoor
open Go.RowKit Go.Sort

/-- two families held against each other -/
theorem fam_neq (f g : Fam) : ∃ q : Bool, (∀ w : World, (binOp .neq 40 (famVal f) (famVal g)).run Tryz.prog w = .ok (.bool q) w) ∧ (f = g → q = false) := by
  obtain ⟨i, cl, su, sc, ge, ma, us, re, de⟩ := f
  obtain ⟨i', cl', su', sc', ge', ma', us', re', de'⟩ := g
  refine ⟨!((i == i') && (cl.toList == cl'.toList) && (su.toList == su'.toList) && (sc.toList == sc'.toList) && (ge == ge') && (ma == ma') && (us == us') && (re.toList == re'.toList) && (de == de')), fun w => ?_, ?_⟩
  · unfold famVal famCs
    go_simp
    repeat' split
    all_goals simp [*]
  · intro h
    simp only [Fam.mk.injEq] at h
    obtain ⟨rfl, rfl, rfl, rfl, rfl, rfl, rfl, rfl, rfl⟩ := h
    simp
theorem FRow.lit {w : World} {B n c : Nat} {a : Option Addr} {L : List Fam} (h : FRow w B (.slice a n c) L) {k : Nat} (hk : k < L.length) : ∃ g, a = some ⟨g, 0, none⟩ ∧ n = L.length ∧ FRow w B (.slice (some ⟨g, 0, none⟩) L.length c) L := by
  rcases h.parts with ⟨e, rfl⟩ | ⟨g, cap, e, _⟩
  · simp at hk
  · simp only [Value.slice.injEq] at e
    obtain ⟨rfl, rfl, rfl⟩ := e
    exact ⟨g, rfl, rfl, h⟩

/-- true, where it must be -/
def SameGot (W : World) (p : Prop) (e : Ending) (w' : World) : Prop := ∃ q : Bool, e = .returned (.bool q) ∧ (p → q = true) ∧ Below W.heap.size W w'

set_option maxHeartbeats 4000000 in
set_option maxRecDepth 100000 in
theorem plain_same_ (S : Prop) (B B' : Nat) (va vb : Value) (sa sb : St) (W : World) (hS : S → sa = sb) (ha : FRow W B va sa.fams) (hb : FRow W B' vb sb.fams) (hl : sa.fams.length ≤ 1000000) :
    Calls Tryz.prog 15 #[stVal sa va, stVal sb vb] W (SameGot W S) := by
  have HS := Lib.hid hS
  clear hS
  obtain ⟨aa, ca, rfl⟩ := ha.slice
  obtain ⟨ab, cb, rfl⟩ := hb.slice
  obtain ⟨k1, n1, La⟩ := sa
  obtain ⟨k2, n2, Lb⟩ := sb
  dsimp only at *
  have hbe : Below W.heap.size W ((W.alloc (.cells #[.int .i64 k1, .int .i64 n1, .slice aa La.length ca] 36)).alloc (.cells #[.int .i64 k2, .int .i64 n2, .slice ab Lb.length cb] 36)) := ((Below.refl _ _).alloc (Nat.le_refl _) _).alloc (by simp) _
  have HA := Lib.hid (ha.below hbe)
  have HB := Lib.hid (hb.below hbe)
  have HE := Lib.hid hbe
  clear ha hb hbe
  unfold stVal stCs
  dsimp only
  by_cases h1 : k1 = k2
  · by_cases h2 : n1 = n2
    · by_cases h3 : La.length = Lb.length
      · subst h1 h2
        have HL := Lib.hid h3
        have h3' : ((La.length : Int) != (Lb.length : Int)) = false := by rw [h3]; simp
        clear h3
        go_enter Tryz.func15, Tryz.ntmps15
        go_wp2_with fail
        go_loopw [30] (fun i wr => ∃ k q : Nat, k ≤ La.length ∧ i = .int .i64 k ∧ wr = ((W.alloc (.cells #[.int .i64 k1, .int .i64 n1, .slice aa La.length ca] 36)).alloc (.cells #[.int .i64 k1, .int .i64 n1, .slice ab Lb.length cb] 36)).drewN q) (fun i _ => La.length - (intOf i).toNat)
        case atStart => exact ⟨0, 0, Nat.zero_le _, rfl, rfl⟩
        case round =>
          obtain ⟨k, q, hk, rfl, rfl⟩ := hrel
          by_cases hlt : k < La.length
          · have hlt' : k < Lb.length := by rw [← HL.out]; exact hlt
            obtain ⟨ga, rfl, _, ra⟩ := HA.out.lit hlt
            obtain ⟨gb, rfl, _, rb⟩ := HB.out.lit hlt'
            obtain ⟨f, hf⟩ : ∃ f, La[k]? = some f := ⟨_, List.getElem?_eq_getElem hlt⟩
            obtain ⟨g, hg⟩ : ∃ g, Lb[k]? = some g := ⟨_, List.getElem?_eq_getElem hlt'⟩
            obtain ⟨p, hp, hpe⟩ := fam_neq f g
            have hpp : p = true → ¬ S := by
              intro h e
              have e := HS.out e
              simp only [St.mk.injEq, true_and] at e
              rw [e, hg] at hf
              have := hpe (Option.some.inj hf).symm
              rw [h] at this
              cases this
            have HPP := Lib.hid hpp
            obtain ⟨i, cl, su, sc, ge, ma, us, re, de⟩ := f
            obtain ⟨i', cl', su', sc', ge', ma', us', re', de'⟩ := g
            obtain ⟨c0, c1, c2, c3, c4, c5, c6, c7, c8⟩ := ra.nine hf
            obtain ⟨d0, d1, d2, d3, d4, d5, d6, d7, d8⟩ := rb.nine hg
            unfold famVal famCs at hp
            dsimp only at hp
            have h0 : (0 : Int) ≤ (k : Int) := by omega
            have h1 : (k : Int) < (La.length : Int) := by omega
            have h1' : (k : Int) < (Lb.length : Int) := by omega
            clear hf hg hpe hpp ra rb
            go_wp2_with fail
            go_quiet (fail)
            cases p
            · go_wp2_with fail
              go_roundw
              case rel => exact ⟨k + 1, _, by omega, by go_num, rfl⟩
              case measure => simp [intOf]; omega
            · go_wp2_with fail
              go_ret
              exact ⟨_, rfl, fun e => absurd e (HPP.out (by first | rfl | trivial)), below_drewN HE.out _⟩
          · go_wp2_with fail
            go_ret
            exact ⟨_, rfl, fun _ => rfl, below_drewN HE.out _⟩
      · have h3' : ((La.length : Int) != (Lb.length : Int)) = true := by simp; omega
        have HX := Lib.hid (show ¬ S from fun e => h3 (congrArg (fun s : St => s.fams.length) (HS.out e)))
        subst h1 h2
        clear h3
        go_enter Tryz.func15, Tryz.ntmps15
        go_wp2_with fail
        go_ret
        exact ⟨_, rfl, fun e => absurd e HX.out, HE.out⟩
    · have HX := Lib.hid (show ¬ S from fun e => h2 (congrArg (fun s : St => s.next) (HS.out e)))
      subst h1
      go_enter Tryz.func15, Tryz.ntmps15
      go_wp2_with fail
      go_ret
      exact ⟨_, rfl, fun e => absurd e HX.out, HE.out⟩
  · have HX := Lib.hid (show ¬ S from fun e => h1 (congrArg (fun s : St => s.clock) (HS.out e)))
    go_enter Tryz.func15, Tryz.ntmps15
    go_wp2_with fail
    go_ret
    exact ⟨_, rfl, fun e => absurd e HX.out, HE.out⟩
theorem plain_same (B B' : Nat) (va vb : Value) (sa sb : St) (W : World) (ha : FRow W B va sa.fams) (hb : FRow W B' vb sb.fams) (hl : sa.fams.length ≤ 1000000) :
    Calls Tryz.prog 15 #[stVal sa va, stVal sb vb] W (SameGot W (sa = sb)) := plain_same_ _ B B' va vb sa sb W id ha hb hl
end Go.Proofs.YtdogilbnbbeljaaGreatDoor

/-
  An error as the program gives it: nil, or an api.Errno.
-/
namespace Go.Proofs.YtdogilbnbbeljaaGreatDoor

/-- an error that is nil (0), or an api.Errno -/
def errV (n : Int) : Value := if n = 0 then .nilIface else .iface 47 (.int .i64 n)

end Go.Proofs.YtdogilbnbbeljaaGreatDoor
