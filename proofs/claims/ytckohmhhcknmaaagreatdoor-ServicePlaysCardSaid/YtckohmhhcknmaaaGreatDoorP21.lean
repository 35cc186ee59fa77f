/-
  rotorref's service: its block; add, old, put, refresh.
-/
import Derived.Test.YtckohmhhcknmaaaGreatDoorP09
import Derived.Test.YtckohmhhcknmaaaGreatDoorP18
import Derived.Test.YtckohmhhcknmaaaGreatDoorP20
import Derived.Test.YtckohmhhcknmaaaGreatDoorP13
import Derived.Test.YtckohmhhcknmaaaGreatDoorP14
import Derived.Test.YtckohmhhcknmaaaGreatDoorP04
import Derived.Test.YtckohmhhcknmaaaGreatDoorP08
import Derived.RegionTactic
import Derived.ChangeAlike
import Derived.Laws.ResultCell
namespace Go.Proofs.YtckohmhhcknmaaaGreatDoor
open Go.RowKit Go.Sort

/-- rotorref's Add, whatever the event -/
theorem ref_adds (B rb : Nat) (z : SS) (v : Value) (ev : Ev) (W : World) (h : RAt W rb z v) (hr : FRow W B v z.s.fams) (hB : B ≤ W.heap.size) (hfit : Fit z.s) (hs : ev.fam.short 1000) (hlg : 0 ≤ z.log ∧ z.log ≤ 1000000) :
    Calls Tryz.prog 67 #[.pointer (some ⟨rb, 0, none⟩), evVal ev] W (RefAdd W B rb (addS z ev)) := by
  rcases hd : z.down with _ | _
  · rcases he : evB ev with _ | _
    · exact ref_add_bad B rb z v ev W h hr hB hd hs he
    · exact ref_add_yes B rb z v ev W h hr hB hfit.ok hd hs he (by have := hfit.len; omega) hlg
  · exact ref_add_down B rb z v ev W h hr hB hd
/-- rotorref's service over its store -/
structure RV (B qb rb : Nat) (r : Ru) (z : SS) (v : Value) (w : World) : Prop where
  at_ : Blk w qb 71 (svCs rb r)
  ra : RAt w rb z v
  rr : FRow w B v z.s.fams
  big : B ≤ w.heap.size
  env : Env B w
  tab : Tab15 w
  g15 : 8 < B
  rb_ : B ≤ rb
section
variable {B qb rb : Nat} {r : Ru} {z : SS} {v : Value} {w w' : World}
theorem RV.keep (h : RV B qb rb r z v w) (hb : Below w.heap.size w w') : RV B qb rb r z v w' := ⟨h.at_.below' hb, h.ra.below' hb, h.rr.below hb, Nat.le_trans h.big hb.size, h.env.new h.big hb, h.tab.below hb h.tab.lt, h.g15, h.rb_⟩
theorem RV.drew (h : RV B qb rb r z v w) : RV B qb rb r z v w.drew := h.keep (below_dr (Below.refl _ _))
theorem RV.five (h : RV B qb rb r z v w) : w.cell? ⟨qb, 0, none⟩ = some (.pointer (some ⟨rb, 0, none⟩)) ∧ w.cell? ⟨qb, 1, none⟩ = some (.int .i64 r.key) ∧ w.cell? ⟨qb, 2, none⟩ = some (.int .i64 r.idle) ∧ w.cell? ⟨qb, 3, none⟩ = some (.int .i64 r.life) ∧ w.cell? ⟨qb, 4, none⟩ = some (.int .i64 r.access) ∧ qb < w.heap.size :=
  ⟨h.at_.cell 0, h.at_.cell 1, h.at_.cell 2, h.at_.cell 3, h.at_.cell 4, h.at_.lt⟩
theorem RV.three (h : RV B qb rb r z v w) : w.cell? ⟨rb, 0, none⟩ = some (.int .i64 z.s.clock) ∧ w.cell? ⟨rb, 1, none⟩ = some (.int .i64 z.s.next) ∧ w.cell? ⟨rb, 2, none⟩ = some v ∧ rb < w.heap.size := ⟨Blk.cell h.ra 0, Blk.cell h.ra 1, Blk.cell h.ra 2, Blk.lt h.ra⟩
theorem RV.turn {z' : SS} {v' : Value} (h : RV B qb rb r z v w) (hg : w.grownBy w' (some rb)) (ha : RAt w' rb z' v') (hr : FRow w' B v' z'.s.fams) : RV B qb rb r z' v' w' := by
  have hb : Below B w w' := (Below.refl _ _).grown hg h.big (fun i hi => by cases hi; exact h.rb_)
  exact ⟨h.at_.grown hg (by simpa using Blk.ne_ h.at_ h.ra (by decide)), ha, hr, Nat.le_trans h.big hg.size, h.env.keep hb, h.tab.below hb h.g15, h.g15, h.rb_⟩
end
/-- what a call of the reference that may add an event comes to -/
def RPut (W : World) (B qb rb : Nat) (r : Ru) (q : SS × Int) (e : Ending) (w' : World) : Prop :=
  e = .returned (.int .i64 q.2) ∧ W.grownBy w' (some rb) ∧ ∃ v', RV B qb rb r q.1 v' w'
theorem rsv_add (a b : Int) (w : World) (ha : 0 ≤ a ∧ a ≤ 1099511627776) (hb : 0 ≤ b ∧ b ≤ 1099511627776) : Calls Tryz.prog 64 #[.int .i64 a, .int .i64 b] w fun e w' => e = .returned (.int .i64 (capN a b)) ∧ w = w' := by
  obtain ⟨a0, a1⟩ := ha
  obtain ⟨b0, b1⟩ := hb
  unfold capN
  by_cases h : a + b > 1099511627776
  · rw [if_pos h]
    go_enter Tryz.func64, Tryz.ntmps64
    go_wp2_with fail
    go_ret
    exact ⟨rfl, rfl⟩
  · rw [if_neg h]
    go_enter Tryz.func64, Tryz.ntmps64
    go_wp2_with fail
    go_ret
    exact ⟨rfl, rfl⟩
set_option maxHeartbeats 1000000 in
set_option maxRecDepth 100000 in
theorem rsv_put {B qb rb : Nat} {r : Ru} {z : SS} {v : Value} {W : World} (h : RV B qb rb r z v W) (hfit : Fit z.s) (hlg : 0 ≤ z.log ∧ z.log ≤ 1000000) (f : Fam) (hf : f.short 1000) :
    Calls Tryz.prog 59 #[.pointer (some ⟨qb, 0, none⟩), famVal f] W (RPut W B qb rb r (addS z (putEv f))) := by
  have HA : Hid (∀ w, RV B qb rb r z v w → Calls Tryz.prog 67 #[.pointer (some ⟨rb, 0, none⟩), evVal (putEv f)] w (RefAdd w B rb (addS z (putEv f)))) := Lib.hid fun w h => ref_adds B rb z v (putEv f) w h.ra h.rr h.big hfit hf hlg
  have H := Lib.hid h
  generalize addS z (putEv f) = q at *
  obtain ⟨i, cl, su, sc, ge, ma, us, re, de⟩ := f
  unfold evVal evCs putEv at HA
  unfold famVal famCs
  dsimp only at *
  clear h hf hfit hlg
  have hal : Below W.heap.size W (W.alloc (.cells #[.int .i64 i, .string cl, .string su, .string sc, .int .i64 ge, .int .i64 ma, .int .i64 us, .string re, .bool de] 79)) := (Below.refl _ _).alloc (Nat.le_refl _) _
  have HAL := Lib.hid hal
  have H1 := Lib.hid (H.out.keep hal)
  obtain ⟨c0, c1, c2, c3, c4, hlt⟩ := H1.out.five
  clear hal
  go_enter Tryz.func59, Tryz.ntmps59
  go_wp2_with fail
  have hfb : Blk (W.alloc (.cells #[.int .i64 i, .string cl, .string su, .string sc, .int .i64 ge, .int .i64 ma, .int .i64 us, .string re, .bool de] 79)).drew W.heap.size 79 #[.int .i64 i, .string cl, .string su, .string sc, .int .i64 ge, .int .i64 ma, .int .i64 us, .string re, .bool de] := Blk.new W _ _
  have HSD := Lib.hid H1.out.drew
  have HFB := Lib.hid hfb
  have HBD := Lib.hid (only_of_below (below_dr HAL.out) (some rb))
  have HD : (W.alloc (.cells #[.int .i64 i, .string cl, .string su, .string sc, .int .i64 ge, .int .i64 ma, .int .i64 us, .string re, .bool de] 79)).drew.cell? ⟨qb, 0, none⟩ = some (.pointer (some ⟨rb, 0, none⟩)) ∧ (W.alloc (.cells #[.int .i64 i, .string cl, .string su, .string sc, .int .i64 ge, .int .i64 ma, .int .i64 us, .string re, .bool de] 79)).drew.cell? ⟨W.heap.size, 0, none⟩ = some (.int .i64 i) ∧ (W.alloc (.cells #[.int .i64 i, .string cl, .string su, .string sc, .int .i64 ge, .int .i64 ma, .int .i64 us, .string re, .bool de] 79)).drew.cell? ⟨W.heap.size, 1, none⟩ = some (.string cl) ∧ (W.alloc (.cells #[.int .i64 i, .string cl, .string su, .string sc, .int .i64 ge, .int .i64 ma, .int .i64 us, .string re, .bool de] 79)).drew.cell? ⟨W.heap.size, 2, none⟩ = some (.string su) ∧ (W.alloc (.cells #[.int .i64 i, .string cl, .string su, .string sc, .int .i64 ge, .int .i64 ma, .int .i64 us, .string re, .bool de] 79)).drew.cell? ⟨W.heap.size, 3, none⟩ = some (.string sc) ∧ (W.alloc (.cells #[.int .i64 i, .string cl, .string su, .string sc, .int .i64 ge, .int .i64 ma, .int .i64 us, .string re, .bool de] 79)).drew.cell? ⟨W.heap.size, 4, none⟩ = some (.int .i64 ge) ∧ (W.alloc (.cells #[.int .i64 i, .string cl, .string su, .string sc, .int .i64 ge, .int .i64 ma, .int .i64 us, .string re, .bool de] 79)).drew.cell? ⟨W.heap.size, 5, none⟩ = some (.int .i64 ma) ∧ (W.alloc (.cells #[.int .i64 i, .string cl, .string su, .string sc, .int .i64 ge, .int .i64 ma, .int .i64 us, .string re, .bool de] 79)).drew.cell? ⟨W.heap.size, 6, none⟩ = some (.int .i64 us) ∧ (W.alloc (.cells #[.int .i64 i, .string cl, .string su, .string sc, .int .i64 ge, .int .i64 ma, .int .i64 us, .string re, .bool de] 79)).drew.cell? ⟨W.heap.size, 7, none⟩ = some (.string re) ∧ (W.alloc (.cells #[.int .i64 i, .string cl, .string su, .string sc, .int .i64 ge, .int .i64 ma, .int .i64 us, .string re, .bool de] 79)).drew.cell? ⟨W.heap.size, 8, none⟩ = some (.bool de) := ⟨c0, hfb.cell 0, hfb.cell 1, hfb.cell 2, hfb.cell 3, hfb.cell 4, hfb.cell 5, hfb.cell 6, hfb.cell 7, hfb.cell 8⟩
  clear hfb c0 c1 c2 c3 c4 hlt
  go_region_held3 (fun w' => w'.cell? ⟨qb, 0, none⟩ = some (.pointer (some ⟨rb, 0, none⟩)) ∧ w'.cell? ⟨W.heap.size, 0, none⟩ = some (.int .i64 i) ∧ w'.cell? ⟨W.heap.size, 1, none⟩ = some (.string cl) ∧ w'.cell? ⟨W.heap.size, 2, none⟩ = some (.string su) ∧ w'.cell? ⟨W.heap.size, 3, none⟩ = some (.string sc) ∧ w'.cell? ⟨W.heap.size, 4, none⟩ = some (.int .i64 ge) ∧ w'.cell? ⟨W.heap.size, 5, none⟩ = some (.int .i64 ma) ∧ w'.cell? ⟨W.heap.size, 6, none⟩ = some (.int .i64 us) ∧ w'.cell? ⟨W.heap.size, 7, none⟩ = some (.string re) ∧ w'.cell? ⟨W.heap.size, 8, none⟩ = some (.bool de))
    (first
      | with_reducible assumption
      | with_reducible exact HD)
    (first
      | (go_at_call 67; (with_reducible refine (HA.out _ HSD.out).mono ?_); rintro x' w2 ⟨rfl, hg, v2, ha, hr⟩
         have hs2 := HSD.out.turn hg ha hr
         have hend : RPut W B qb rb r q (.returned (.int .i64 q.2)) w2 := ⟨rfl, only_trans HBD.out hg, v2, hs2⟩
         have hk := HFB.out.grown hg (by simpa using HFB.out.ne_ HSD.out.ra (by decide))
         have hx2 : w2.cell? ⟨qb, 0, none⟩ = some (.pointer (some ⟨rb, 0, none⟩)) ∧ w2.cell? ⟨W.heap.size, 0, none⟩ = some (.int .i64 i) ∧ w2.cell? ⟨W.heap.size, 1, none⟩ = some (.string cl) ∧ w2.cell? ⟨W.heap.size, 2, none⟩ = some (.string su) ∧ w2.cell? ⟨W.heap.size, 3, none⟩ = some (.string sc) ∧ w2.cell? ⟨W.heap.size, 4, none⟩ = some (.int .i64 ge) ∧ w2.cell? ⟨W.heap.size, 5, none⟩ = some (.int .i64 ma) ∧ w2.cell? ⟨W.heap.size, 6, none⟩ = some (.int .i64 us) ∧ w2.cell? ⟨W.heap.size, 7, none⟩ = some (.string re) ∧ w2.cell? ⟨W.heap.size, 8, none⟩ = some (.bool de) := ⟨hs2.five.1, hk.cell 0, hk.cell 1, hk.cell 2, hk.cell 3, hk.cell 4, hk.cell 5, hk.cell 6, hk.cell 7, hk.cell 8⟩))
  go_wp2_with fail
  go_ret
  exact hend
end Go.Proofs.YtckohmhhcknmaaaGreatDoor

/-
  A service: refresh, find.
-/
namespace Go.Proofs.YtckohmhhcknmaaaGreatDoor
open Go.RowKit Go.Sort

theorem right_one {a b : Int} (ha : okN a = true) (hb : okN b = true) : rightN 1 a b 0 = true := by unfold rightN; rw [ha, hb]; decide
set_option maxHeartbeats 1000000 in
set_option maxRecDepth 100000 in
theorem svc_refresh {B vb sb db k : Nat} {r : Ru} {z : SS} {v : Value} {W : World} (h : SW B vb sb db k r z v W) (f : Fam) (h1 : okN f.id = true) (h2 : okN f.gen = true) :
    Calls Tryz.prog 41 #[.pointer (some ⟨vb, 0, none⟩), famVal f] W fun e w' => e = .returned (.string (refreshS r f)) ∧ Below W.heap.size W w' := by
  have HA : Hid (∀ w, Tens w → Calls Tryz.prog 65 #[.int .i64 r.key, v4 1 f.id f.gen 0] w fun e w' => e = .returned (.tuple #[.string (refreshS r f), .nilIface]) ∧ Below w.heap.size w w') := Lib.hid fun w hT => token_write_yes r.key 1 f.id f.gen 0 w hT (right_one h1 h2)
  have H := Lib.hid h
  generalize refreshS r f = x at *
  obtain ⟨i, cl, su, sc, ge, ma, us, re, de⟩ := f
  unfold v4 at HA
  unfold famVal famCs
  dsimp only at *
  clear h h1 h2
  have hal : Below W.heap.size W (W.alloc (.cells #[.int .i64 i, .string cl, .string su, .string sc, .int .i64 ge, .int .i64 ma, .int .i64 us, .string re, .bool de] 79)) := (Below.refl _ _).alloc (Nat.le_refl _) _
  have HAL := Lib.hid hal
  have H1 := Lib.hid (H.out.keep hal)
  obtain ⟨c0, c1, c2, c3, c4, hlt⟩ := H1.out.five
  have hfb : Blk (W.alloc (.cells #[.int .i64 i, .string cl, .string su, .string sc, .int .i64 ge, .int .i64 ma, .int .i64 us, .string re, .bool de] 79)).drew W.heap.size 79 #[.int .i64 i, .string cl, .string su, .string sc, .int .i64 ge, .int .i64 ma, .int .i64 us, .string re, .bool de] := Blk.new W _ _
  have HT := Lib.hid H1.out.drew.sx.env.tens
  have HBD := Lib.hid (below_dr HAL.out)
  have HD : (W.alloc (.cells #[.int .i64 i, .string cl, .string su, .string sc, .int .i64 ge, .int .i64 ma, .int .i64 us, .string re, .bool de] 79)).drew.cell? ⟨vb, 1, none⟩ = some (.int .i64 r.key) ∧ (W.alloc (.cells #[.int .i64 i, .string cl, .string su, .string sc, .int .i64 ge, .int .i64 ma, .int .i64 us, .string re, .bool de] 79)).drew.cell? ⟨W.heap.size, 0, none⟩ = some (.int .i64 i) ∧
      (W.alloc (.cells #[.int .i64 i, .string cl, .string su, .string sc, .int .i64 ge, .int .i64 ma, .int .i64 us, .string re, .bool de] 79)).drew.cell? ⟨W.heap.size, 4, none⟩ = some (.int .i64 ge) := ⟨c1, hfb.cell 0, hfb.cell 4⟩
  clear hal c0 c1 c2 c3 c4 hlt
  go_enter Tryz.func41, Tryz.ntmps41
  go_wp2_with fail
  go_region_held3 (fun w' => w'.cell? ⟨vb, 1, none⟩ = some (.int .i64 r.key) ∧ w'.cell? ⟨W.heap.size, 0, none⟩ = some (.int .i64 i) ∧ w'.cell? ⟨W.heap.size, 4, none⟩ = some (.int .i64 ge))
    (first
      | with_reducible assumption
      | with_reducible exact HD)
    (first
      | (go_at_call 65; (with_reducible refine (HA.out _ HT.out).mono ?_); rintro x' w2 ⟨rfl, hb⟩
         have hend := below_2 HBD.out hb
         have hx2 : w2.cell? ⟨vb, 1, none⟩ = some (.int .i64 r.key) ∧ w2.cell? ⟨W.heap.size, 0, none⟩ = some (.int .i64 i) ∧ w2.cell? ⟨W.heap.size, 4, none⟩ = some (.int .i64 ge) := ⟨(H1.out.drew.keep hb).five.2.1, (hfb.below' hb).cell 0, (hfb.below' hb).cell 4⟩))
  go_wp2_with fail
  go_ret
  exact ⟨rfl, hend⟩
theorem st_clock (ck nx : Int) (a : Option Addr) (n c : Nat) (w : World) : (Instr.field 39 (.agg #[.int .i64 ck, .int .i64 nx, .slice a n c]) 0).run Tryz.prog w = .ok (.int .i64 ck) w := by kernel_rfl
theorem st_fams (ck nx : Int) (a : Option Addr) (n c : Nat) (w : World) : (Instr.field 39 (.agg #[.int .i64 ck, .int .i64 nx, .slice a n c]) 2).run Tryz.prog w = .ok (.slice a n c) w := by kernel_rfl
/-- what is asked of each family -/
theorem find_one (id : Int) (bx : Nat) (f : Fam) (w : World) (hc : w.cell? ⟨bx, 0, none⟩ = some (.int .i64 id)) :
    Calls Tryz.prog 113 #[famVal f, .pointer (some ⟨bx, 0, none⟩)] w fun e w' => e = .returned (.bool (decide (f.id = id))) ∧ Below w.heap.size w w' := by
  obtain ⟨i, cl, su, sc, ge, ma, us, re, de⟩ := f
  unfold famVal famCs
  dsimp only
  have hal : Below w.heap.size w (w.alloc (.cells #[.int .i64 i, .string cl, .string su, .string sc, .int .i64 ge, .int .i64 ma, .int .i64 us, .string re, .bool de] 79)) := (Below.refl _ _).alloc (Nat.le_refl _) _
  have HAL := Lib.hid hal
  have hlt : bx < w.heap.size := World.block_lt_of_cell? w _ hc
  clear hal
  go_enter Tryz.func113, Tryz.ntmps113
  go_wp2_with fail
  go_ret
  refine ⟨?_, HAL.out⟩
  show Ending.returned (Value.bool _) = _
  congr 2
theorem find_cons (f : Fam) (L : List Fam) (id : Int) : findF (f :: L) id = if f.id = id then some f else findF L id := by
  unfold findF
  rw [List.find?_cons]
  by_cases h : f.id = id
  · simp [h]
  · simp [h]
/-- where the first family of a number stands -/
def FindGot (L : List Fam) (id : Int) (W : World) (e : Ending) (w' : World) : Prop :=
  Below W.heap.size W w' ∧ ((∃ (j : Nat) (f : Fam), L[j]? = some f ∧ findF L id = some f ∧ e = .returned (.int .i64 j)) ∨ (findF L id = none ∧ e = .returned (.int .i64 (-1))))
theorem find_take {L : List Fam} {id : Int} {k : Nat} (h : ∀ j f, j < k → L[j]? = some f → f.id ≠ id) : findF L id = findF (L.drop k) id := by
  induction k generalizing L with
  | zero => rfl
  | succ k ih =>
    cases L with
    | nil => rfl
    | cons g L =>
      rw [find_cons, if_neg (h 0 g (Nat.succ_pos _) rfl), List.drop_succ_cons]
      exact ih fun j f hj hf => h (j + 1) f (Nat.succ_lt_succ hj) (by simpa using hf)
def FdRel (W : World) (bx B : Nat) (v : Value) (L : List Fam) (id : Int) (i : Value) (w : World) : Prop := ∃ k : Nat, k ≤ L.length ∧ i = .int .i64 k ∧ Below W.heap.size W w ∧ FRow w B v L ∧ w.cell? ⟨bx, 0, none⟩ = some (.int .i64 id) ∧ ∀ j f, j < k → L[j]? = some f → f.id ≠ id
set_option maxHeartbeats 1000000 in
theorem find_index (B bx : Nat) (v : Value) (L : List Fam) (id : Int) (W : World) (hr : FRow W B v L) (hl : L.length ≤ 1000000) (hc : W.cell? ⟨bx, 0, none⟩ = some (.int .i64 id)) :
    Calls Tryz.prog 112 #[v, .func (.func 113) #[] #[.pointer (some ⟨bx, 0, none⟩)]] W (FindGot L id W) := by
  obtain ⟨sa, sc, rfl⟩ := hr.slice
  have HR := Lib.hid hr
  have HC := Lib.hid hc
  clear hr hc
  go_enter Tryz.func112, Tryz.ntmps112
  go_wp2_with fail
  go_loopw [8] (fun i wr => FdRel W bx B (.slice sa L.length sc) L id i wr) (fun i _ => L.length - (intOf i).toNat)
  case atStart => exact ⟨0, Nat.zero_le _, rfl, Below.refl _ _, HR.out, HC.out, fun j f hj => absurd hj (Nat.not_lt_zero _)⟩
  case round =>
    obtain ⟨k, hk, rfl, hb, hr, hc, hno⟩ := hrel
    have HB := Lib.hid hb
    have HR1 := Lib.hid hr
    have HC1 := Lib.hid hc
    have HNO := Lib.hid hno
    clear hb hr hc hno HR HC
    by_cases hlt : k < L.length
    · obtain ⟨g, rfl, _, ra⟩ := HR1.out.lit hlt
      obtain ⟨f, hf⟩ : ∃ f, L[k]? = some f := ⟨_, List.getElem?_eq_getElem hlt⟩
      have HF := Lib.hid hf
      have HO := Lib.hid (fun w h => find_one id bx f w h)
      by_cases hid : f.id = id
      · have HID := Lib.hid hid
        rw [decide_eq_true hid] at HO
        obtain ⟨i, cl, su, scp, ge, ma, us, re, de⟩ := f
        obtain ⟨c0, c1, c2, c3, c4, c5, c6, c7, c8⟩ := ra.nine hf
        unfold famVal famCs at HO
        dsimp only at HO
        have h0 : (0 : Int) ≤ (k : Int) := by omega
        have h1 : (k : Int) < (L.length : Int) := by omega
        clear hf ra hid
        go_wp2_with fail
        go_at_call 113
        refine (HO.out _ HC1.out).mono ?_
        rintro e w2 ⟨rfl, hb⟩
        have HB2 := Lib.hid (below_2 HB.out hb)
        clear hb
        go_wp2_with fail
        go_ret
        refine ⟨HB2.out, .inl ⟨k, _, HF.out, ?_, rfl⟩⟩
        have hlt' := (List.getElem?_eq_some_iff.1 HF.out).1
        rw [find_take HNO.out, List.drop_eq_getElem_cons hlt', find_cons]
        have he := (List.getElem?_eq_some_iff.1 HF.out).2
        rw [he, if_pos HID.out]
      · have HID := Lib.hid hid
        rw [decide_eq_false hid] at HO
        obtain ⟨i, cl, su, scp, ge, ma, us, re, de⟩ := f
        obtain ⟨c0, c1, c2, c3, c4, c5, c6, c7, c8⟩ := ra.nine hf
        unfold famVal famCs at HO
        dsimp only at HO
        have h0 : (0 : Int) ≤ (k : Int) := by omega
        have h1 : (k : Int) < (L.length : Int) := by omega
        clear hf ra hid
        go_wp2_with fail
        go_at_call 113
        refine (HO.out _ HC1.out).mono ?_
        rintro e w2 ⟨rfl, hb⟩
        have HB2 := Lib.hid (below_2 HB.out hb)
        have HR2 := Lib.hid (HR1.out.below hb)
        have HC2 := Lib.hid ((hb.cell (p := ⟨bx, 0, none⟩) (World.block_lt_of_cell? wr _ HC1.out)).trans HC1.out)
        clear hb
        go_wp2_with fail
        go_roundw
        case rel => exact ⟨k + 1, by omega, by go_num, HB2.out, HR2.out, HC2.out, fun j f hj hf => by
          by_cases e : j = k
          · subst e
            rw [HF.out] at hf
            cases hf
            exact HID.out
          · exact HNO.out j f (by omega) hf⟩
        case measure => simp [intOf]; omega
    · have hkn : k = L.length := by omega
      go_wp2_with fail
      go_ret
      refine ⟨HB.out, .inr ⟨?_, rfl⟩⟩
      rw [find_take HNO.out, hkn, List.drop_length]
      rfl
/-- what find gives -/
def FindEnd (L : List Fam) (id : Int) (W : World) (e : Ending) (w' : World) : Prop :=
  Below W.heap.size W w' ∧ ((∃ f, findF L id = some f ∧ f ∈ L ∧ e = .returned (.tuple #[famVal f, .bool true])) ∨ (findF L id = none ∧ e = .returned (.tuple #[famVal Fam.zero, .bool false])))
/-- nine stores -/
theorem nine_sets {w : World} {g : Nat} {T : TypeId} {f0 : Fam} (h : Blk w g T (famCs f0)) (i : Int) (cl su sc : ByteArray) (ge ma us : Int) (re : ByteArray) (de : Bool) :
    Blk (((((((((w.setCell ⟨g, 0, none⟩ (.int .i64 i)).setCell ⟨g, 1, none⟩ (.string cl)).setCell ⟨g, 2, none⟩ (.string su)).setCell ⟨g, 3, none⟩ (.string sc)).setCell ⟨g, 4, none⟩ (.int .i64 ge)).setCell ⟨g, 5, none⟩ (.int .i64 ma)).setCell ⟨g, 6, none⟩ (.int .i64 us)).setCell ⟨g, 7, none⟩ (.string re)).setCell ⟨g, 8, none⟩ (.bool de)) g T (famCs ⟨i, cl, su, sc, ge, ma, us, re, de⟩) ∧
      w.grownBy (((((((((w.setCell ⟨g, 0, none⟩ (.int .i64 i)).setCell ⟨g, 1, none⟩ (.string cl)).setCell ⟨g, 2, none⟩ (.string su)).setCell ⟨g, 3, none⟩ (.string sc)).setCell ⟨g, 4, none⟩ (.int .i64 ge)).setCell ⟨g, 5, none⟩ (.int .i64 ma)).setCell ⟨g, 6, none⟩ (.int .i64 us)).setCell ⟨g, 7, none⟩ (.string re)).setCell ⟨g, 8, none⟩ (.bool de)) (some g) := by
  obtain ⟨i0, cl0, su0, sc0, ge0, ma0, us0, re0, de0⟩ := f0
  have e0 := h.put_ 0 (.int .i64 i) (cs' := famCs ⟨i, cl0, su0, sc0, ge0, ma0, us0, re0, de0⟩) rfl
  have e1 := e0.put_ 1 (.string cl) (cs' := famCs ⟨i, cl, su0, sc0, ge0, ma0, us0, re0, de0⟩) rfl
  have e2 := e1.put_ 2 (.string su) (cs' := famCs ⟨i, cl, su, sc0, ge0, ma0, us0, re0, de0⟩) rfl
  have e3 := e2.put_ 3 (.string sc) (cs' := famCs ⟨i, cl, su, sc, ge0, ma0, us0, re0, de0⟩) rfl
  have e4 := e3.put_ 4 (.int .i64 ge) (cs' := famCs ⟨i, cl, su, sc, ge, ma0, us0, re0, de0⟩) rfl
  have e5 := e4.put_ 5 (.int .i64 ma) (cs' := famCs ⟨i, cl, su, sc, ge, ma, us0, re0, de0⟩) rfl
  have e6 := e5.put_ 6 (.int .i64 us) (cs' := famCs ⟨i, cl, su, sc, ge, ma, us, re0, de0⟩) rfl
  have e7 := e6.put_ 7 (.string re) (cs' := famCs ⟨i, cl, su, sc, ge, ma, us, re, de0⟩) rfl
  have e8 := e7.put_ 8 (.bool de) (cs' := famCs ⟨i, cl, su, sc, ge, ma, us, re, de⟩) rfl
  refine ⟨e8, ?_⟩
  refine only_setCell ?_ (.inl rfl) _
  refine only_setCell ?_ (.inl rfl) _
  refine only_setCell ?_ (.inl rfl) _
  refine only_setCell ?_ (.inl rfl) _
  refine only_setCell ?_ (.inl rfl) _
  refine only_setCell ?_ (.inl rfl) _
  refine only_setCell ?_ (.inl rfl) _
  refine only_setCell ?_ (.inl rfl) _
  exact only_set1 w g ⟨g, 0, none⟩ rfl _
theorem find_end {W w : World} {A : Act} {L : List Fam} {id : Int} {f : Fam} {b : Bool} (hb : Below W.heap.size W w) (hr : Blk w (W.heap.size + 1) 79 (famCs f)) (hp : A.tmps.getD 4 undef = .pointer (some ⟨W.heap.size + 1, 0, none⟩)) (hx : A.tmps.getD 5 undef = .bool b) (hd : A.defers = [])
    (h : (b = true ∧ findF L id = some f ∧ f ∈ L) ∨ (b = false ∧ f = Fam.zero ∧ findF L id = none)) :
    bodyPost Tryz.prog Tryz.f66 (FindEnd L id W) Exit.ret A w := by
  refine bodyPost_ret (results_row_tmp rfl A.tmps w _ _ _ _ _ hp hx hr Tryz.underlying79 rfl (by kernel_rfl)) hd ⟨hb, ?_⟩
  rcases h with ⟨rfl, h1, h2⟩ | ⟨rfl, rfl, h1⟩
  · exact .inl ⟨f, h1, h2, rfl⟩
  · exact .inr ⟨h1, rfl⟩
set_option maxHeartbeats 1000000 in
set_option maxRecDepth 100000 in
theorem svc_find {B vb sb db k : Nat} {r : Ru} {z : SS} {v : Value} {W : World} (h : SW B vb sb db k r z v W) (id : Int) :
    Calls Tryz.prog 66 #[.pointer (some ⟨vb, 0, none⟩), .int .i64 id] W (FindEnd z.s.fams id W) := by
  have HST := Lib.hid (fun w (h : SW B vb sb db k r z v w) => (sx_state h.sx).mono fun _ _ h => got_as h)
  have hlen := h.sx.fit.len
  have H := Lib.hid h
  clear h
  generalize z.s.fams = L at *
  generalize z.s.clock = ck at *
  generalize z.s.next = nx at *
  unfold GotAs at HST
  have HFI := Lib.hid (fun B bx v w hr hc => find_index B bx v L id w hr (by omega) hc)
  clear hlen
  have hal := alloc2 W (.cells #[.int .i64 id] 3) (.cells (famCs Fam.zero) 79)
  have HAL := Lib.hid hal
  have H1 := Lib.hid (H.out.keep hal)
  have HI1 := Lib.hid ((Blk.new W 3 #[.int .i64 id]).alloc (.cells (famCs Fam.zero) 79))
  have hf1 : Blk ((W.alloc (.cells #[.int .i64 id] 3)).alloc (.cells (famCs Fam.zero) 79)) (W.heap.size + 1) 79 (famCs Fam.zero) := by
    have := Blk.new (W.alloc (.cells #[.int .i64 id] 3)) 79 (famCs Fam.zero)
    rw [show (W.alloc (.cells #[.int .i64 id] 3)).heap.size = W.heap.size + 1 by simp] at this
    exact this
  have HF1 := Lib.hid hf1
  clear hal hf1 H
  unfold famCs Fam.zero at HAL H1 HI1 HF1
  dsimp only at HAL H1 HI1 HF1
  obtain ⟨c0, c1, c2, c3, c4, hlt⟩ := H1.out.five
  go_enter Tryz.func66, Tryz.ntmps66
  go_wp2_with fail
  go_at_call 39
  refine (HST.out _ H1.out).mono ?_
  rintro e w1 ⟨a1, ac, rfl, hr, hb⟩
  have HB1 := Lib.hid (below_2 HAL.out hb)
  have HR1 := Lib.hid hr
  have HI2 := Lib.hid (HI1.out.below' hb)
  have HF2 := Lib.hid (HF1.out.below' hb)
  have hsf := st_fams ck nx a1 L.length ac
  clear hr hb H1 HI1 HF1 HAL c0 c1 c2 c3 c4 hlt HST
  go_wp2_with fail
  go_at_call 112
  refine (HFI.out _ _ _ _ HR1.out (HI2.out.cell 0)).mono ?_
  rintro e w2 ⟨hb, ⟨j, f, hj, hfd, rfl⟩ | ⟨hfd, rfl⟩⟩
  · have hjl := (List.getElem?_eq_some_iff.1 hj).1
    have hmem := List.mem_of_getElem? hj
    have hr2 := HR1.out.below hb
    obtain ⟨g, hga, _, ra⟩ := hr2.lit hjl
    subst hga
    have HB2 := Lib.hid (below_2 HB1.out hb)
    have HF3 := Lib.hid (HF2.out.below' hb)
    have HFD := Lib.hid hfd
    have HM := Lib.hid hmem
    obtain ⟨i, cl, su, scp, ge, ma, us, re, de⟩ := f
    obtain ⟨c0, c1, c2, c3, c4, c5, c6, c7, c8⟩ := ra.nine hj
    have h0 : (0 : Int) ≤ (j : Int) := by omega
    have h1 : (j : Int) < (L.length : Int) := by omega
    have hz := HF3.out.frozen
    obtain ⟨z0, z1, z2, z3, z4, z5, z6, z7, z8⟩ := fam_cells HF3.out
    clear hfd hmem hj ra hr2 hb HR1 HB1 HF2 HI2 HFI
    go_wp2_with fail
    obtain ⟨n1, n2⟩ := nine_sets (f0 := Fam.zero) HF3.out i cl su scp ge ma us re de
    exact find_end (HB2.out.grown n2 HB2.out.size (fun i hi => by cases hi; exact Nat.le_succ _)) n1 rfl rfl rfl (.inl ⟨rfl, HFD.out, HM.out⟩)
  · have HB2 := Lib.hid (below_2 HB1.out hb)
    have HF3 := Lib.hid (HF2.out.below' hb)
    have HFD := Lib.hid hfd
    have hz := HF3.out.frozen
    obtain ⟨z0, z1, z2, z3, z4, z5, z6, z7, z8⟩ := fam_cells HF3.out
    clear hfd hb HR1 HB1 HF2 HI2 HFI
    go_wp2_with fail
    obtain ⟨n1, n2⟩ := nine_sets (f0 := Fam.zero) HF3.out 0 ⟨#[]⟩ ⟨#[]⟩ ⟨#[]⟩ 0 0 0 ⟨#[]⟩ false
    exact find_end (HB2.out.grown n2 HB2.out.size (fun i hi => by cases hi; exact Nat.le_succ _)) n1 rfl rfl rfl (.inr ⟨rfl, rfl, HFD.out⟩)
end Go.Proofs.YtckohmhhcknmaaaGreatDoor

/-
  rotorref's service: refresh.
-/
namespace Go.Proofs.YtckohmhhcknmaaaGreatDoor
open Go.RowKit Go.Sort

set_option maxHeartbeats 1000000 in
set_option maxRecDepth 100000 in
theorem rsv_refresh {B qb rb : Nat} {r : Ru} {z : SS} {v : Value} {W : World} (h : RV B qb rb r z v W) (f : Fam) (h1 : okN f.id = true) (h2 : okN f.gen = true) :
    Calls Tryz.prog 60 #[.pointer (some ⟨qb, 0, none⟩), famVal f] W fun e w' => e = .returned (.string (refreshS r f)) ∧ Below W.heap.size W w' := by
  have HA : Hid (∀ w, RV B qb rb r z v w → Calls Tryz.prog 63 #[.int .i64 r.key, v4 1 f.id f.gen 0] w fun e w' => e = .returned (.tuple #[.string (refreshS r f), .int .i64 0]) ∧ Below w.heap.size w w') := Lib.hid fun w h => ref_write_yes r.key 1 f.id f.gen 0 w h.env.tens h.tab (right_one h1 h2) (.inl ⟨rfl, rfl⟩)
  have H := Lib.hid h
  generalize refreshS r f = x at *
  obtain ⟨i, cl, su, sc, ge, ma, us, re, de⟩ := f
  unfold v4 at HA
  unfold famVal famCs
  dsimp only at *
  clear h h1 h2
  have hal : Below W.heap.size W (W.alloc (.cells #[.int .i64 i, .string cl, .string su, .string sc, .int .i64 ge, .int .i64 ma, .int .i64 us, .string re, .bool de] 79)) := (Below.refl _ _).alloc (Nat.le_refl _) _
  have HAL := Lib.hid hal
  have H1 := Lib.hid (H.out.keep hal)
  obtain ⟨c0, c1, c2, c3, c4, hlt⟩ := H1.out.five
  have hfb : Blk (W.alloc (.cells #[.int .i64 i, .string cl, .string su, .string sc, .int .i64 ge, .int .i64 ma, .int .i64 us, .string re, .bool de] 79)).drew W.heap.size 79 #[.int .i64 i, .string cl, .string su, .string sc, .int .i64 ge, .int .i64 ma, .int .i64 us, .string re, .bool de] := Blk.new W _ _
  have HSD := Lib.hid H1.out.drew
  have HBD := Lib.hid (below_dr HAL.out)
  have HD : (W.alloc (.cells #[.int .i64 i, .string cl, .string su, .string sc, .int .i64 ge, .int .i64 ma, .int .i64 us, .string re, .bool de] 79)).drew.cell? ⟨qb, 1, none⟩ = some (.int .i64 r.key) ∧ (W.alloc (.cells #[.int .i64 i, .string cl, .string su, .string sc, .int .i64 ge, .int .i64 ma, .int .i64 us, .string re, .bool de] 79)).drew.cell? ⟨W.heap.size, 0, none⟩ = some (.int .i64 i) ∧
      (W.alloc (.cells #[.int .i64 i, .string cl, .string su, .string sc, .int .i64 ge, .int .i64 ma, .int .i64 us, .string re, .bool de] 79)).drew.cell? ⟨W.heap.size, 4, none⟩ = some (.int .i64 ge) := ⟨c1, hfb.cell 0, hfb.cell 4⟩
  clear hal c0 c1 c2 c3 c4 hlt
  go_enter Tryz.func60, Tryz.ntmps60
  go_wp2_with fail
  go_region_held3 (fun w' => w'.cell? ⟨qb, 1, none⟩ = some (.int .i64 r.key) ∧ w'.cell? ⟨W.heap.size, 0, none⟩ = some (.int .i64 i) ∧ w'.cell? ⟨W.heap.size, 4, none⟩ = some (.int .i64 ge))
    (first
      | with_reducible assumption
      | with_reducible exact HD)
    (first
      | (go_at_call 63; (with_reducible refine (HA.out _ HSD.out).mono ?_); rintro x' w2 ⟨rfl, hb⟩
         have hend := below_2 HBD.out hb
         have hx2 : w2.cell? ⟨qb, 1, none⟩ = some (.int .i64 r.key) ∧ w2.cell? ⟨W.heap.size, 0, none⟩ = some (.int .i64 i) ∧ w2.cell? ⟨W.heap.size, 4, none⟩ = some (.int .i64 ge) := ⟨(HSD.out.keep hb).five.2.1, (hfb.below' hb).cell 0, (hfb.below' hb).cell 4⟩))
  go_wp2_with fail
  go_ret
  exact ⟨rfl, hend⟩
end Go.Proofs.YtckohmhhcknmaaaGreatDoor

/-
  rotorref's service: old.
-/
namespace Go.Proofs.YtckohmhhcknmaaaGreatDoor
open Go.RowKit Go.Sort

set_option maxHeartbeats 4000000 in
set_option maxRecDepth 100000 in
/-- is a family too old? -/
theorem rsv_old {B qb rb : Nat} {r : Ru} {z : SS} {v : Value} {W : World} (h : RV B qb rb r z v W) (hru : ruB r = true) (f : Fam) (hf : famB f = true) :
    Calls Tryz.prog 68 #[.pointer (some ⟨qb, 0, none⟩), famVal f] W fun e w' => e = .returned (.bool (oldB r z.s.clock f)) ∧ Below W.heap.size W w' := by
  have hr := ruB_parts hru
  obtain ⟨_, _, gm, gu, _⟩ := famB_parts hf
  have HAD := Lib.hid rsv_add
  have ru1 := okN_iff.1 gu
  have ru2 := okN_iff.1 hr.2.1
  have ru3 := okN_iff.1 gm
  have ru4 := okN_iff.1 hr.2.2.1
  have hold : oldB r z.s.clock f = (decide (capN f.used r.idle < z.s.clock) || decide (capN f.made r.life < z.s.clock)) := rfl
  rw [hold]
  obtain ⟨i, cl, su, sc, ge, ma, us, re, de⟩ := f
  unfold famVal famCs
  dsimp only at *
  have hal : Below W.heap.size W (W.alloc (.cells #[.int .i64 i, .string cl, .string su, .string sc, .int .i64 ge, .int .i64 ma, .int .i64 us, .string re, .bool de] 79)) := (Below.refl _ _).alloc (Nat.le_refl _) _
  have HAL := Lib.hid hal
  have h1 := h.keep hal
  obtain ⟨c0, c1, c2, c3, c4, hlt⟩ := h1.five
  obtain ⟨d0, _, _, hlt2⟩ := h1.three
  have HG := Lib.hid (Blk.new W 79 #[.int .i64 i, .string cl, .string su, .string sc, .int .i64 ge, .int .i64 ma, .int .i64 us, .string re, .bool de])
  generalize z.s.clock = ck at *
  clear h h1 hr gm gu hf hold hru hal
  go_enter Tryz.func68, Tryz.ntmps68
  go_wp2_with fail
  generalize W.alloc (.cells #[.int .i64 i, .string cl, .string su, .string sc, .int .i64 ge, .int .i64 ma, .int .i64 us, .string re, .bool de] 79) = w1 at *
  obtain ⟨g0, g1, g2, g3, g4, g5, g6, g7, g8⟩ := fam_cells HG.out
  by_cases hu : capN us r.idle < ck
  · have hu' : decide (capN us r.idle < ck) = true := decide_eq_true hu
    go_quiet ((go_at_call 64; refine Calls.quiet_of_same ((HAD.out _ _ _ ?_ ?_).mono fun _ _ h => ⟨h.1, h.2.symm⟩) <;> assumption))
    go_wp2_with fail
    go_ret
    exact ⟨by show Ending.returned (Value.bool _) = Ending.returned (Value.bool _); simp [hu], below_drewN HAL.out nq⟩
  · have hu' : decide (capN us r.idle < ck) = false := decide_eq_false hu
    go_quiet ((go_at_call 64; refine Calls.quiet_of_same ((HAD.out _ _ _ ?_ ?_).mono fun _ _ h => ⟨h.1, h.2.symm⟩) <;> assumption))
    go_wp2_with fail
    go_ret
    exact ⟨by show Ending.returned (Value.bool _) = Ending.returned (Value.bool _); simp, below_drewN HAL.out nq⟩
end Go.Proofs.YtckohmhhcknmaaaGreatDoor

/-
  rotorref's service: the plans of calls that tell only what is wrong.
-/
namespace Go.Proofs.YtckohmhhcknmaaaGreatDoor
open Go.RowKit Go.Sort

/-- what a call of the reference that has a plan comes to: what is wrong -/
def RPlanU (W : World) (B qb rb : Nat) (r : Ru) (z : SS) (p : Plan Unit) (e : Ending) (w' : World) : Prop :=
  e = .returned (.int .i64 (doPlan () z p).2.2) ∧ W.grownBy w' (some rb) ∧ ∃ v', RV B qb rb r (doPlan () z p).1 v' w'
theorem RPlanU.say {W w : World} {B qb rb : Nat} {r : Ru} {z : SS} {v : Value} {c : Int} (h : RV B qb rb r z v w) (hb : Below W.heap.size W w) : RPlanU W B qb rb r z (.say () c) (.returned (.int .i64 c)) w := ⟨rfl, only_of_below hb _, v, h⟩
theorem RPlanU.put {W w : World} {B qb rb : Nat} {r : Ru} {z : SS} {v' : Value} {ev : Ev} (ht : W.grownBy w (some rb)) (h : RV B qb rb r (addS z ev).1 v' w) : RPlanU W B qb rb r z (.put ev () 0) (.returned (.int .i64 (addS z ev).2)) w := by
  by_cases hc : (addS z ev).2 = 0
  · have e : doPlan () z (.put ev () 0) = ((addS z ev).1, (), 0) := if_pos hc
    unfold RPlanU
    rw [e, hc]
    exact ⟨rfl, ht, v', h⟩
  · have e : doPlan () z (.put ev () 0) = ((addS z ev).1, (), (addS z ev).2) := if_neg hc
    unfold RPlanU
    rw [e]
    exact ⟨rfl, ht, v', h⟩
end Go.Proofs.YtckohmhhcknmaaaGreatDoor

/-
  rotorref's service: Tick; the plans of the others.
-/
namespace Go.Proofs.YtckohmhhcknmaaaGreatDoor
open Go.RowKit Go.Sort

/-- what is known of a service's state -/
structure RZ (r : Ru) (z : SS) : Prop where
  fit : Fit z.s
  lg : 0 ≤ z.log ∧ z.log ≤ 1000000
  ru : ruB r = true
/-- what a call of the reference that has a plan comes to: a text, and what is wrong -/
def RPlanS (W : World) (B qb rb : Nat) (r : Ru) (z : SS) (p : Plan ByteArray) (e : Ending) (w' : World) : Prop :=
  e = .returned (.tuple #[.string (doPlan noneS z p).2.1, .int .i64 (doPlan noneS z p).2.2]) ∧ W.grownBy w' (some rb) ∧ ∃ v', RV B qb rb r (doPlan noneS z p).1 v' w'
section
variable {W w : World} {B qb rb : Nat} {r : Ru} {z : SS} {v v' : Value} {ev : Ev} {t : ByteArray} {c i : Int}
theorem RPlanS.say (h : RV B qb rb r z v w) (hb : Below W.heap.size W w) : RPlanS W B qb rb r z (.say t c) (.returned (.tuple #[.string t, .int .i64 c])) w := ⟨rfl, only_of_below hb _, v, h⟩
theorem RPlanS.bad (hc : (addS z ev).2 ≠ 0) (ht : W.grownBy w (some rb)) (h : RV B qb rb r (addS z ev).1 v' w) : RPlanS W B qb rb r z (.put ev t c) (.returned (.tuple #[.string noneS, .int .i64 (addS z ev).2])) w := by
  have e : doPlan noneS z (.put ev t c) = ((addS z ev).1, noneS, (addS z ev).2) := if_neg hc
  unfold RPlanS
  rw [e]
  exact ⟨rfl, ht, v', h⟩
theorem RPlanS.good (hc : (addS z ev).2 = 0) (ht : W.grownBy w (some rb)) (h : RV B qb rb r (addS z ev).1 v' w) : RPlanS W B qb rb r z (.put ev t c) (.returned (.tuple #[.string t, .int .i64 c])) w := by
  have e : doPlan noneS z (.put ev t c) = ((addS z ev).1, t, c) := if_pos hc
  unfold RPlanS
  rw [e]
  exact ⟨rfl, ht, v', h⟩
end
def RPlanI (W : World) (B qb rb : Nat) (r : Ru) (z : SS) (p : Plan Int) (e : Ending) (w' : World) : Prop :=
  e = .returned (.tuple #[.int .i64 (doPlan 0 z p).2.1, .int .i64 (doPlan 0 z p).2.2]) ∧ W.grownBy w' (some rb) ∧ ∃ v', RV B qb rb r (doPlan 0 z p).1 v' w'
section
variable {W w : World} {B qb rb : Nat} {r : Ru} {z : SS} {v v' : Value} {ev : Ev} {c i : Int}
theorem RPlanI.say (h : RV B qb rb r z v w) (hb : Below W.heap.size W w) : RPlanI W B qb rb r z (.say i c) (.returned (.tuple #[.int .i64 i, .int .i64 c])) w := ⟨rfl, only_of_below hb _, v, h⟩
theorem RPlanI.bad (hc : (addS z ev).2 ≠ 0) (ht : W.grownBy w (some rb)) (h : RV B qb rb r (addS z ev).1 v' w) : RPlanI W B qb rb r z (.put ev i c) (.returned (.tuple #[.int .i64 0, .int .i64 (addS z ev).2])) w := by
  have e : doPlan 0 z (.put ev i c) = ((addS z ev).1, 0, (addS z ev).2) := if_neg hc
  unfold RPlanI
  rw [e]
  exact ⟨rfl, ht, v', h⟩
theorem RPlanI.good (hc : (addS z ev).2 = 0) (ht : W.grownBy w (some rb)) (h : RV B qb rb r (addS z ev).1 v' w) : RPlanI W B qb rb r z (.put ev i c) (.returned (.tuple #[.int .i64 i, .int .i64 c])) w := by
  have e : doPlan 0 z (.put ev i c) = ((addS z ev).1, i, c) := if_pos hc
  unfold RPlanI
  rw [e]
  exact ⟨rfl, ht, v', h⟩
end
theorem okN_eq (n : Int) : (decide ((0 : Int) ≤ n) && decide (n ≤ 1099511627776)) = okN n := rfl
section
variable {W : World} {B qb rb : Nat} {r : Ru} {z : SS} {v : Value}
set_option maxHeartbeats 20000000 in
set_option maxRecDepth 100000 in
theorem rsv_tick (h : RV B qb rb r z v W) (hz : RZ r z) (n : Int) :
    Calls Tryz.prog 30 #[.pointer (some ⟨qb, 0, none⟩), .int .i64 n] W (RPlanU W B qb rb r z (tickP z.s n)) := by
  have hfit := hz.fit
  have HIN := Lib.hid (fun w => ref_in3 n 0 1099511627776 w)
  have H := Lib.hid h
  clear h
  rw [okN_eq] at HIN
  by_cases hn : okN n = true
  · obtain ⟨hn0, hn1⟩ := okN_iff.1 hn
    have hp : tickP z.s n = .put (tickEv (capN z.s.clock n)) () 0 := by unfold tickP; rw [hn]; rfl
    have HP := Lib.hid hp
    have HAD := Lib.hid (fun w => rsv_add z.s.clock n w (okN_iff.1 hfit.clock) ⟨hn0, hn1⟩)
    have HA : Hid (∀ w, RV B qb rb r z v w → Calls Tryz.prog 67 #[.pointer (some ⟨rb, 0, none⟩), evVal (tickEv (capN z.s.clock n))] w (RefAdd w B rb (addS z (tickEv (capN z.s.clock n))))) := Lib.hid fun w h => ref_adds B rb z v _ w h.ra h.rr h.big hfit (by show Fam.zero.short 1000; unfold Fam.short Fam.zero; dsimp only; refine ⟨by decide, by decide, by decide, by decide⟩) hz.lg
    generalize hQ : addS z (tickEv (capN z.s.clock n)) = q at *
    have HQ := Lib.hid hQ
    generalize capN z.s.clock n = cn at *
    unfold evVal evCs tickEv at HA
    unfold Fam.zero at HA
    dsimp only at HA
    rw [hn] at HIN
    obtain ⟨c0, c1, c2, c3, c4, hlt⟩ := H.out.five
    obtain ⟨d0, d1, d2, hlt2⟩ := H.out.three
    clear hp hn hfit hQ c1 c2 c3 c4 d1 d2 hz
    go_enter Tryz.func30, Tryz.ntmps30
    go_wp2_with fail
    go_at_call 56
    refine (HIN.out _).mono ?_
    rintro e w1 ⟨rfl, rfl⟩
    go_wp2_with fail
    have HSD := H.out.drew
    have HBD := Lib.hid (below_dr (Below.refl W.heap.size W))
    clear c0 hlt d0 hlt2
    refine wp_region_tail (RV B qb rb r z v) [15, 16] (by kernel_rfl) ?_
    refine wpAnyT_take 16 (i := 0) (v := ?v0) rfl (by kernel_rfl) (by kernel_rfl) (by kernel_rfl) (by kernel_rfl) (by kernel_rfl) (fun _ _ _ h => h) (by rfl) ?hy0 HSD ?rest0
    case hy0 => (intro w hSw; obtain ⟨c0, c1, c2, c3, c4, _⟩ := RV.five hSw; obtain ⟨d0, d1, d2, _⟩ := RV.three hSw; go_simp; (try with_reducible rfl))
    simp only [Act.put]
    refine wpAnyT_take 16 (i := 1) (v := ?v1) rfl (by kernel_rfl) (by kernel_rfl) (by kernel_rfl) (by kernel_rfl) (by kernel_rfl) (fun _ _ _ h => h) (by rfl) ?hy1 HSD ?rest1
    case hy1 => (intro w hSw; obtain ⟨c0, c1, c2, c3, c4, _⟩ := RV.five hSw; obtain ⟨d0, d1, d2, _⟩ := RV.three hSw; go_simp; (try with_reducible rfl))
    simp only [Act.put]
    refine wpAnyT_take 16 (i := 2) (v := ?v2) rfl (by kernel_rfl) (by kernel_rfl) (by kernel_rfl) (by kernel_rfl) (by kernel_rfl) (fun _ _ _ h => h) (by rfl) ?hy2 HSD ?rest2
    case hy2 => (intro w hSw; obtain ⟨c0, c1, c2, c3, c4, _⟩ := RV.five hSw; obtain ⟨d0, d1, d2, _⟩ := RV.three hSw; go_simp; (try with_reducible rfl))
    simp only [Act.put]
    refine wpAnyT_take 16 (i := 3) (v := ?v3) rfl (by kernel_rfl) (by kernel_rfl) (by kernel_rfl) (by kernel_rfl) (by kernel_rfl) (fun _ _ _ h => h) (by rfl) ?hy3 HSD ?rest3
    case hy3 => (intro w hSw; obtain ⟨c0, c1, c2, c3, c4, _⟩ := RV.five hSw; obtain ⟨d0, d1, d2, _⟩ := RV.three hSw; go_simp; (try with_reducible rfl))
    simp only [Act.put]
    refine wpAnyT_take 16 (i := 4) (v := ?v4) rfl (by kernel_rfl) (by kernel_rfl) (by kernel_rfl) (by kernel_rfl) (by kernel_rfl) (fun _ _ _ h => h) (by rfl) ?hy4 HSD ?rest4
    case hy4 => (intro w hSw; obtain ⟨c0, c1, c2, c3, c4, _⟩ := RV.five hSw; obtain ⟨d0, d1, d2, _⟩ := RV.three hSw; go_simp; (try with_reducible rfl))
    simp only [Act.put]
    refine wpAnyT_take 16 (i := 5) (v := ?v5) rfl (by kernel_rfl) (by kernel_rfl) (by kernel_rfl) (by kernel_rfl) (by kernel_rfl) (fun _ _ _ h => h) (by rfl) ?hy5 HSD ?rest5
    case hy5 => (intro w hSw; obtain ⟨c0, c1, c2, c3, c4, _⟩ := RV.five hSw; obtain ⟨d0, d1, d2, _⟩ := RV.three hSw; go_simp; (try with_reducible rfl))
    simp only [Act.put]
    refine wpAnyT_take 16 (i := 6) (v := ?v6) rfl (by kernel_rfl) (by kernel_rfl) (by kernel_rfl) (by kernel_rfl) (by kernel_rfl) (fun _ _ _ h => h) (by rfl) ?hy6 HSD ?rest6
    case hy6 => (intro w hSw; obtain ⟨c0, c1, c2, c3, c4, _⟩ := RV.five hSw; obtain ⟨d0, d1, d2, _⟩ := RV.three hSw; go_simp; (try with_reducible rfl))
    simp only [Act.put]
    refine wpAnyT_take 16 (i := 7) (v := ?v7) rfl (by kernel_rfl) (by kernel_rfl) (by kernel_rfl) (by kernel_rfl) (by kernel_rfl) (fun _ _ _ h => h) (by rfl) ?hy7 HSD ?rest7
    case hy7 => (intro w hSw; obtain ⟨c0, c1, c2, c3, c4, _⟩ := RV.five hSw; obtain ⟨d0, d1, d2, _⟩ := RV.three hSw; go_simp; (try with_reducible rfl))
    simp only [Act.put]
    refine wpAnyT_take 16 (i := 8) (v := ?v8) rfl (by kernel_rfl) (by kernel_rfl) (by kernel_rfl) (by kernel_rfl) (by kernel_rfl) (fun _ _ _ h => h) (by rfl) ?hy8 HSD ?rest8
    case hy8 => (intro w hSw; obtain ⟨c0, c1, c2, c3, c4, _⟩ := RV.five hSw; obtain ⟨d0, d1, d2, _⟩ := RV.three hSw; go_simp; (try with_reducible rfl))
    simp only [Act.put]
    refine wpAnyT_take 16 (i := 9) (v := ?v9) rfl (by kernel_rfl) (by kernel_rfl) (by kernel_rfl) (by kernel_rfl) (by kernel_rfl) (fun _ _ _ h => h) (by rfl) ?hy9 HSD ?rest9
    case hy9 => (intro w hSw; obtain ⟨c0, c1, c2, c3, c4, _⟩ := RV.five hSw; obtain ⟨d0, d1, d2, _⟩ := RV.three hSw; go_simp; (try with_reducible rfl))
    simp only [Act.put]
    refine wpAnyT_take 16 (i := 10) (v := ?v10) rfl (by kernel_rfl) (by kernel_rfl) (by kernel_rfl) (by kernel_rfl) (by kernel_rfl) (fun _ _ _ h => h) (by rfl) ?hy10 HSD ?rest10
    case hy10 => (intro w hSw; obtain ⟨c0, c1, c2, c3, c4, _⟩ := RV.five hSw; obtain ⟨d0, d1, d2, _⟩ := RV.three hSw; go_simp; (try with_reducible rfl))
    simp only [Act.put]
    refine wpAnyT_take 16 (i := 11) (v := ?v11) rfl (by kernel_rfl) (by kernel_rfl) (by kernel_rfl) (by kernel_rfl) (by kernel_rfl) (fun _ _ _ h => h) (by rfl) ?hy11 HSD ?rest11
    case hy11 => (intro w hSw; obtain ⟨c0, c1, c2, c3, c4, _⟩ := RV.five hSw; obtain ⟨d0, d1, d2, _⟩ := RV.three hSw; go_simp; (try with_reducible rfl))
    simp only [Act.put]
    refine wpAnyT_take 16 (i := 12) (v := ?v12) rfl (by kernel_rfl) (by kernel_rfl) (by kernel_rfl) (by kernel_rfl) (by kernel_rfl) (fun _ _ _ h => h) (by rfl) ?hy12 HSD ?rest12
    case hy12 => (intro w hSw; obtain ⟨c0, c1, c2, c3, c4, _⟩ := RV.five hSw; obtain ⟨d0, d1, d2, _⟩ := RV.three hSw; go_simp; (try with_reducible rfl))
    simp only [Act.put]
    refine wpAnyT_one (i := 13) (by kernel_rfl) rfl ?_
    intro K13 hK13
    go_simp
    go_at_call 64
    refine (HAD.out _).mono ?_
    rintro x' w2 ⟨rfl, rfl⟩
    try dsimp only
    refine hK13.out _ _ (fun _ => HSD) ?_
    try simp only [Act.put]
    refine wpAnyT_take 16 (i := 14) (v := ?v14) rfl (by kernel_rfl) (by kernel_rfl) (by kernel_rfl) (by kernel_rfl) (by kernel_rfl) (fun _ _ _ h => h) (by rfl) ?hy14 HSD ?rest14
    case hy14 => (intro w hSw; obtain ⟨c0, c1, c2, c3, c4, _⟩ := RV.five hSw; obtain ⟨d0, d1, d2, _⟩ := RV.three hSw; go_simp; (try with_reducible rfl))
    simp only [Act.put]
    refine wpAnyT_one (i := 15) (by kernel_rfl) rfl ?_
    intro K15 hK15
    go_simp
    go_at_call 67
    refine (HA.out _ HSD).mono ?_
    rintro x' w2 ⟨rfl, hg, v2, ha, hr⟩
    have hs2 := HSD.turn hg ha hr
    have hend : RPut W B qb rb r q (.returned (.int .i64 q.2)) w2 := ⟨rfl, only_trans (only_of_below HBD.out _) hg, v2, hs2⟩
    try dsimp only
    refine hK15.out _ _ (fun h => absurd h (by decide)) ?_
    try simp only [Act.put]
    refine wpAnyT_one (i := 16) (by kernel_rfl) rfl ?_
    intro K16 hK16
    go_simp
    try dsimp only
    refine hK16.out _ _ (fun h => absurd h (by decide)) ?_
    refine wpAnyT_done (by kernel_rfl) ?_ _
    clear HSD hs2 hg ha hr
    go_wp2_with fail
    go_ret
    obtain ⟨-, htw, v3, h3⟩ := hend
    rw [HP.out, ← HQ.out]
    rw [← HQ.out] at h3
    exact RPlanU.put htw h3
  · have hn' : okN n = false := by simpa using hn
    have hp : tickP z.s n = .say () 2 := by unfold tickP; rw [if_pos hn']
    have HP := Lib.hid hp
    rw [hn'] at HIN
    clear hp hn hn'
    go_enter Tryz.func30, Tryz.ntmps30
    go_wp2_with fail
    go_at_call 56
    refine (HIN.out _).mono ?_
    rintro e w1 ⟨rfl, rfl⟩
    go_wp2_with fail
    go_ret
    rw [HP.out]
    exact RPlanU.say H.out (Below.refl _ _)
end
/-- a loop over the families: none ahead is such a one -/
def FmRel (W : World) (B qb rb : Nat) (r : Ru) (z : SS) (v : Value) (p : Fam → Bool) (i : Value) (w : World) : Prop := ∃ j : Nat, j ≤ z.s.fams.length ∧ i = .int .i64 j ∧ Below W.heap.size W w ∧ RV B qb rb r z v w ∧ ∀ m f, m < j → z.s.fams[m]? = some f → p f = false
end Go.Proofs.YtckohmhhcknmaaaGreatDoor

/-
  token.number: a number that is written just so.
-/
namespace Go.Proofs.YtckohmhhcknmaaaGreatDoor
open Go.RowKit Go.Sort

set_option maxHeartbeats 1000000 in
theorem number_c (s : ByteArray) (W : World) (hs : s.size ≤ 1000000) (hT : Tens W) (hv : ErrVars W) :
    Calls Tryz.prog 94 #[.string s] W fun e w' => e = .returned (.tuple #[.int .i64 (atoiN s.data.toList), .bool (numB s.data.toList)]) ∧ Below W.heap.size W w' := by
  have hb := atoiN_bounds s.data.toList
  have hsl : s.toList = s.data.toList := by rw [ByteArray.toList_eq]
  cases hE : atoiE s.data.toList
  · have HA := Lib.hid (atoi_no s W hs hv hE)
    have HN := Lib.hid (show numB s.data.toList = false by unfold numB; rw [hE]; rfl)
    clear hE hT hv hsl
    generalize atoiN s.data.toList = n at *
    go_enter Tryz.func94, Tryz.ntmps94
    go_wp2_with
      (go_at_call 99; refine HA.out.mono ?_; rintro e w1 ⟨⟨te, pe, rfl⟩, hb1⟩
       have HB := Lib.hid hb1
       clear hb1)
    go_ret2
    exact ⟨by rw [HN.out]; rfl, HB.out⟩
  · have HA := Lib.hid (atoi_yes s W hs hE)
    have HI := Lib.hid (fun w => itoa_any (atoiN s.data.toList) hb.1 hb.2 w)
    have HT := Lib.hid hT
    have lt := hT.lt
    have hN : numB s.data.toList = (((itoS (atoiN s.data.toList)).toList == s.toList) && decide (0 ≤ atoiN s.data.toList) && decide (atoiN s.data.toList ≤ 1099511627776)) := by
      unfold numB okN
      rw [hE, itoS_list, hsl, Bool.true_and, ← Bool.and_assoc]
      congr 2
      rw [Bool.eq_iff_iff]
      simp
    have HN := Lib.hid hN
    clear hE hT hv hsl hN
    generalize atoiN s.data.toList = n at *
    generalize itoS n = y at *
    cases hq : (y.toList == s.toList)
    · have HQ := Lib.hid hq
      go_enter Tryz.func94, Tryz.ntmps94
      go_wp2_with
        (first
        | (go_at_call 99; refine HA.out.mono ?_; rintro e w1 ⟨rfl, hb1⟩
           have HB := Lib.hid hb1
           clear hb1)
        | (go_at_call 74; refine (HI.out _ (HT.out.below HB.out lt)).mono ?_; rintro e w2 ⟨rfl, hb2⟩
           have HB2 := Lib.hid (below_2 HB.out hb2)
           clear hb2))
      go_ret2
      exact ⟨by rw [HN.out, HQ.out]; rfl, HB2.out⟩
    · have HQ := Lib.hid hq
      by_cases h0 : 0 ≤ n
      all_goals
        go_enter Tryz.func94, Tryz.ntmps94
        go_wp2_with
          (first
          | (go_at_call 99; refine HA.out.mono ?_; rintro e w1 ⟨rfl, hb1⟩
             have HB := Lib.hid hb1
             clear hb1)
          | (go_at_call 74; refine (HI.out _ (HT.out.below HB.out lt)).mono ?_; rintro e w2 ⟨rfl, hb2⟩
             have HB2 := Lib.hid (below_2 HB.out hb2)
             clear hb2))
        go_ret2
        refine ⟨?_, HB2.out⟩
        rw [HN.out, HQ.out]
        first
          | (rw [show decide (0 ≤ n) = true by simp; omega]; rfl)
          | (rw [show decide (0 ≤ n) = false by simp; omega]; rfl)
end Go.Proofs.YtckohmhhcknmaaaGreatDoor

/-
  token.Read: the token that a text is, or what is wrong with it.
-/
namespace Go.Proofs.YtckohmhhcknmaaaGreatDoor
open Go.RowKit Go.Sort

theorem tok_row_tmp {P : Program} {fn : Func} {p u : Tmp} {ty : TypeId} (h : fn.results = #[.cell p ty, .tmp u]) (tmps : Array Value) (w : World) (g : Nat) (t : TypeId) (cs : Array Value) (d : TypeDesc) (x : Value)
    (hp : tmps.getD p undef = .pointer (some ⟨g, 0, none⟩)) (hx : tmps.getD u undef = x) (hg : Blk w g t cs)
    (hu : P.underlying ty = some d) (hd : (match d with | .struct _ | .array _ _ => true | _ => false) = true) (hi : (P.info? ty).map (·.size) = some cs.size) :
    (results fn tmps).run P w = .ok (.tuple #[.agg cs, x]) w := by
  rw [results_cell_tmp h, hp, hx]
  simp only [asAddr, Sem.run_pure, Result.andThen]
  rw [run_loadVar_row w g t ty cs (0, 0) d hg hu hd hi]
/-- what is known while token.Read is under way: its result's block, its row of words -/
structure TR (W : World) (L : List (List UInt8)) (v : Value) (w : World) : Prop where
  below : Below W.heap.size W w
  res : Blk w W.heap.size 104 #[.int .i64 0, .int .i64 0, .int .i64 0, .int .i64 0]
  row : Row w (W.heap.size + 1) v L
  tens : Tens w
  errs : ErrVars w
theorem TR.keep {W w w' : World} {L : List (List UInt8)} {v : Value} (h : TR W L v w) (hb : Below w.heap.size w w') : TR W L v w' :=
  ⟨h.below.trans (hb.mono h.below.size), h.res.below' hb, h.row.below hb, h.tens.below hb h.tens.lt, h.errs.below' hb⟩

theorem TR.facts {W w : World} {L : List (List UInt8)} {v : Value} (h : TR W L v w) : ∃ g cap, v = .slice (some ⟨g, 0, none⟩) L.length cap ∧ L.length ≤ cap ∧ cap ≤ 9223372036854775807 ∧ W.heap.size + 1 ≤ g ∧ g < w.heap.size ∧ W.heap.size < w.heap.size ∧
    (∀ j, j < L.length → w.cell? ⟨g, j, none⟩ = some (.string (txt (L.getD j [])))) ∧ (w.cell? ⟨W.heap.size, 0, none⟩ = some (.int .i64 0) ∧ w.cell? ⟨W.heap.size, 1, none⟩ = some (.int .i64 0) ∧ w.cell? ⟨W.heap.size, 2, none⟩ = some (.int .i64 0) ∧ w.cell? ⟨W.heap.size, 3, none⟩ = some (.int .i64 0)) ∧
    (w.frozen? ⟨W.heap.size, 0, none⟩ = false ∧ w.frozen? ⟨W.heap.size, 1, none⟩ = false ∧ w.frozen? ⟨W.heap.size, 2, none⟩ = false ∧ w.frozen? ⟨W.heap.size, 3, none⟩ = false) := by
  obtain ⟨g, cap, rfl, h1, h2, h3, h4, _⟩ := h.row.parts
  exact ⟨g, cap, rfl, h3, h4, h1, h2, h.res.lt, fun j hj => h.row.cell j hj, ⟨h.res.cell 0, h.res.cell 1, h.res.cell 2, h.res.cell 3⟩, h.res.frozen 0, h.res.frozen 1, h.res.frozen 2, h.res.frozen 3⟩

def TokGot (W : World) (R : Int × Int × Int × Int × Int) (e : Ending) (w' : World) : Prop := e = .returned (.tuple #[v4 R.2.1 R.2.2.1 R.2.2.2.1 R.2.2.2.2, errV R.1]) ∧ Below W.heap.size W w'

theorem tokRead_start (_key : Int) (s : ByteArray) (W : World) (hs : s.size ≤ 1000) (hm : MaxL W) (hT : Tens W) (hv : ErrVars W) :
    Calls Tryz.prog 93 #[.string s, .string ⟨#[46]⟩] (W.alloc (.cells #[.int .i64 0, .int .i64 0, .int .i64 0, .int .i64 0] 104)) fun e w' => ∃ v, e = .returned v ∧ TR W (parts 46 s.data.toList) v w' := by
  have hb0 : Below W.heap.size W (W.alloc (.cells #[.int .i64 0, .int .i64 0, .int .i64 0, .int .i64 0] 104)) := (Below.refl _ _).alloc (Nat.le_refl _) _
  refine (split_row 46 s (W.heap.size + 1) _ (by omega) (hm.below hb0 hm.lt) (by simp)).mono ?_
  rintro e w' ⟨v, rfl, hr, hb⟩
  exact ⟨v, rfl, hb0.trans (hb.mono hb0.size), (Blk.new W _ _).below' hb, hr, (hT.below hb0 hT.lt).below hb (by simp; have := hT.lt; omega), (hv.below hb0 hv.lt.1 hv.lt.2).below hb (by simp; have := hv.lt.1; omega) (by simp; have := hv.lt.2; omega)⟩

/-- the result's block behind four stores -/
theorem four_sets {w : World} {rb : Nat} {T : TypeId} {y0 y1 y2 y3 : Value} (h : Blk w rb T #[y0, y1, y2, y3]) (x0 x1 x2 x3 : Value) :
    Blk ((((w.setCell ⟨rb, 0, none⟩ x0).setCell ⟨rb, 1, none⟩ x1).setCell ⟨rb, 2, none⟩ x2).setCell ⟨rb, 3, none⟩ x3) rb T #[x0, x1, x2, x3] :=
  (((h.set_ 0 x0).set_ 1 x1).set_ 2 x2).set_ 3 x3
theorem four_below {W w : World} (h : Below W.heap.size W w) (x0 x1 x2 x3 : Value) :
    Below W.heap.size W ((((w.setCell ⟨W.heap.size, 0, none⟩ x0).setCell ⟨W.heap.size, 1, none⟩ x1).setCell ⟨W.heap.size, 2, none⟩ x2).setCell ⟨W.heap.size, 3, none⟩ x3) :=
  (((h.setCell (Nat.le_refl _) x0).setCell (Nat.le_refl _) x1).setCell (Nat.le_refl _) x2).setCell (Nat.le_refl _) x3
theorem tok_end {W w : World} {A : Act} {a b c d n : Int} (hb : Below W.heap.size W w) (hr : Blk w W.heap.size 104 #[.int .i64 a, .int .i64 b, .int .i64 c, .int .i64 d])
    (hp : A.tmps.getD 4 undef = .pointer (some ⟨W.heap.size, 0, none⟩)) (hx : A.tmps.getD 5 undef = errV n) (hd : A.defers = []) :
    bodyPost Tryz.prog Tryz.f48 (TokGot W (n, a, b, c, d)) Exit.ret A w :=
  bodyPost_ret (tok_row_tmp rfl A.tmps w _ _ _ _ _ hp hx hr Tryz.underlying104 rfl (by kernel_rfl)) hd ⟨rfl, hb⟩

set_option maxHeartbeats 4000000 in
set_option maxRecDepth 100000 in
/-- no kind, or another number of words -/
theorem tokRead_form (key : Int) (s : ByteArray) (W : World) (hs : s.size ≤ 1000) (hm : MaxL W) (hT : Tens W) (hv : ErrVars W)
    (hf : ((parts 46 s.data.toList).getD 0 [] ≠ [97] ∧ (parts 46 s.data.toList).getD 0 [] ≠ [114]) ∨ ((parts 46 s.data.toList).getD 0 [] = [97] ∧ (parts 46 s.data.toList).length ≠ 5) ∨ ((parts 46 s.data.toList).getD 0 [] = [114] ∧ (parts 46 s.data.toList).length ≠ 4)) :
    Calls Tryz.prog 48 #[.int .i64 key, .string s] W (TokGot W (3, 0, 0, 0, 0)) := by
  have H := Lib.hid (tokRead_start key s W hs hm hT hv)
  have hpos := parts_pos 46 s.data.toList
  clear hm hT hv
  generalize parts 46 s.data.toList = L at *
  generalize hx : L.getD 0 [] = x at *
  have HX := Lib.hid hx
  clear hx
  have hkey : ((txt x).toList == [97]) = false ∧ ((txt x).toList == [114]) = false ∨ ((txt x).toList == [97]) = true ∧ ((L.length : Int) != 5) = true ∨ ((txt x).toList == [97]) = false ∧ ((txt x).toList == [114]) = true ∧ ((L.length : Int) != 4) = true := by
    rw [toList_txt]
    rcases hf with ⟨h1, h2⟩ | ⟨h1, h2⟩ | ⟨h1, h2⟩
    · exact .inl ⟨by simpa using h1, by simpa using h2⟩
    · exact .inr (.inl ⟨by simp [h1], by simp; omega⟩)
    · exact .inr (.inr ⟨by simp [h1], by simp [h1], by simp; omega⟩)
  clear hf
  rcases hkey with ⟨e1, e2⟩ | ⟨e1, e2⟩ | ⟨e1, e2, e3⟩
  all_goals
    go_enter Tryz.func48, Tryz.ntmps48
    go_wp2_with fail
    go_at_call 93
    refine H.out.mono ?_
    rintro e w1 ⟨v, rfl, h⟩
    have HB := Lib.hid h.below
    have HBL := Lib.hid h.res
    obtain ⟨g, cap, rfl, hcap, hmax, hg1, hg2, hrl, hcells, ⟨r0, r1, r2, r3⟩, f0, f1, f2, f3⟩ := h.facts
    have hc := hcells 0 hpos
    rw [HX.out] at hc
    clear h hcells
    go_wp2_with fail
    exact tok_end ((four_below HB.out (.int .i64 0) (.int .i64 0) (.int .i64 0) (.int .i64 0)).alloc (four_below HB.out (.int .i64 0) (.int .i64 0) (.int .i64 0) (.int .i64 0)).size _) ((four_sets HBL.out (.int .i64 0) (.int .i64 0) (.int .i64 0) (.int .i64 0)).alloc _) rfl rfl rfl
end Go.Proofs.YtckohmhhcknmaaaGreatDoor
