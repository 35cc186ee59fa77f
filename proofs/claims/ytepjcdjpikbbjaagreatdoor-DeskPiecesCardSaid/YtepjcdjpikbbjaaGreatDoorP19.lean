/-
  A service in memory; its small parts: add, put, refresh.
-/
import Derived.Test.YtepjcdjpikbbjaaGreatDoorP10
import Derived.Test.YtepjcdjpikbbjaaGreatDoorP18
import Derived.BigQuiet
import Derived.Deep.QuietTactic
import Derived.Deep.RegionHeld3
import Derived.Test.YtepjcdjpikbbjaaGreatDoorP08
import Derived.Test.YtepjcdjpikbbjaaGreatDoorP03
import Derived.RegionTactic
import Derived.ChangeAlike
import Derived.Laws.ResultCell
namespace Go.Proofs.YtepjcdjpikbbjaaGreatDoor
open Go.RowKit Go.Sort

def svCs (sb : Nat) (r : Ru) : Array Value := #[.pointer (some ⟨sb, 0, none⟩), .int .i64 r.key, .int .i64 r.idle, .int .i64 r.life, .int .i64 r.access]
/-- a service over its store -/
structure SW (B vb sb db k : Nat) (r : Ru) (z : SS) (v : Value) (w : World) : Prop where
  at_ : Blk w vb 122 (svCs sb r)
  sx : SX B sb db k z v w
  right : ruB r = true
  bv : B ≤ vb
theorem ruB_parts {r : Ru} (h : ruB r = true) : okN r.key = true ∧ okN r.idle = true ∧ okN r.life = true ∧ okN r.access = true := by
  unfold ruB at h
  simp only [Bool.and_eq_true] at h
  exact ⟨h.1.1.1, h.1.1.2, h.1.2, h.2⟩
section
variable {B vb sb db k : Nat} {r : Ru} {z : SS} {v : Value} {w w' : World}
theorem SW.keep (h : SW B vb sb db k r z v w) (hb : Below w.heap.size w w') : SW B vb sb db k r z v w' := ⟨h.at_.below' hb, h.sx.keep hb, h.right, h.bv⟩
theorem SW.drew (h : SW B vb sb db k r z v w) : SW B vb sb db k r z v w.drew := ⟨h.at_, h.sx.drew, h.right, h.bv⟩
theorem SW.later (h : SW B vb sb db k r z v w) : SW B vb sb db (k + 1) r z v w := ⟨h.at_, h.sx.later, h.right, h.bv⟩
theorem SW.two {k' : Nat} {z' : SS} {v' : Value} (h : SW B vb sb db k r z v w) (t : Two sb db w w') (hs : SX B sb db k' z' v' w') : SW B vb sb db k' r z' v' w' := by
  obtain ⟨⟨ca, ha⟩, cb, hb⟩ := h.sx.blocks
  exact ⟨h.at_.two t (h.at_.ne_ ha (by decide)) (h.at_.ne_ hb (by decide)), hs, h.right, h.bv⟩
theorem SW.five (h : SW B vb sb db k r z v w) : w.cell? ⟨vb, 0, none⟩ = some (.pointer (some ⟨sb, 0, none⟩)) ∧ w.cell? ⟨vb, 1, none⟩ = some (.int .i64 r.key) ∧ w.cell? ⟨vb, 2, none⟩ = some (.int .i64 r.idle) ∧ w.cell? ⟨vb, 3, none⟩ = some (.int .i64 r.life) ∧ w.cell? ⟨vb, 4, none⟩ = some (.int .i64 r.access) ∧ vb < w.heap.size :=
  ⟨h.at_.cell 0, h.at_.cell 1, h.at_.cell 2, h.at_.cell 3, h.at_.cell 4, h.at_.lt⟩
end
/-- a call that may add an event came to its end -/
def PutX (W : World) (B vb sb db k : Nat) (r : Ru) (q : SS × Int) (e : Ending) (w' : World) : Prop :=
  e = .returned (errV q.2) ∧ Two sb db W w' ∧ ∃ v', SW B vb sb db (k + 1) r q.1 v' w'
theorem svc_add (a b : Int) (w : World) (ha : 0 ≤ a ∧ a ≤ 1099511627776) (hb : 0 ≤ b ∧ b ≤ 1099511627776) : Calls Tryz.prog 184 #[.int .i64 a, .int .i64 b] w fun e w' => e = .returned (.int .i64 (capN a b)) ∧ w = w' := by
  obtain ⟨a0, a1⟩ := ha
  obtain ⟨b0, b1⟩ := hb
  unfold capN
  by_cases h : a + b > 1099511627776
  · rw [if_pos h]
    go_enter Tryz.func184, Tryz.ntmps184
    go_wp2_with fail
    go_ret
    refine ⟨?_, rfl⟩
    show Ending.returned (Value.int _ _) = _
    congr 2
    omega
  · rw [if_neg h]
    go_enter Tryz.func184, Tryz.ntmps184
    go_wp2_with fail
    go_ret
    refine ⟨?_, rfl⟩
    show Ending.returned (Value.int _ _) = _
    congr 2
    omega
/-- a service's store, and a family's nine cells -/
def FB (vb sb fb : Nat) (i : Int) (cl su sc : ByteArray) (ge ma us : Int) (re : ByteArray) (de : Bool) (w : World) : Prop :=
  w.cell? ⟨vb, 0, none⟩ = some (.pointer (some ⟨sb, 0, none⟩)) ∧ w.cell? ⟨fb, 0, none⟩ = some (.int .i64 i) ∧ w.cell? ⟨fb, 1, none⟩ = some (.string cl) ∧ w.cell? ⟨fb, 2, none⟩ = some (.string su) ∧ w.cell? ⟨fb, 3, none⟩ = some (.string sc) ∧ w.cell? ⟨fb, 4, none⟩ = some (.int .i64 ge) ∧
    w.cell? ⟨fb, 5, none⟩ = some (.int .i64 ma) ∧ w.cell? ⟨fb, 6, none⟩ = some (.int .i64 us) ∧ w.cell? ⟨fb, 7, none⟩ = some (.string re) ∧ w.cell? ⟨fb, 8, none⟩ = some (.bool de)
theorem FB.of {vb sb fb : Nat} {i : Int} {cl su sc : ByteArray} {ge ma us : Int} {re : ByteArray} {de : Bool} {w : World} {T : TypeId} (h : w.cell? ⟨vb, 0, none⟩ = some (.pointer (some ⟨sb, 0, none⟩))) (hb : Blk w fb T (famCs ⟨i, cl, su, sc, ge, ma, us, re, de⟩)) : FB vb sb fb i cl su sc ge ma us re de w :=
  ⟨h, hb.cell 0, hb.cell 1, hb.cell 2, hb.cell 3, hb.cell 4, hb.cell 5, hb.cell 6, hb.cell 7, hb.cell 8⟩
theorem SX.apart {B sb db k : Nat} {z : SS} {v : Value} {w : World} (h : SX B sb db k z v w) {g : Nat} {T : TypeId} {cs : Array Value} (hb : Blk w g T cs) (h1 : T ≠ 112) (h2 : T ≠ 65) : g ≠ sb ∧ g ≠ db := by
  obtain ⟨⟨ca, ha⟩, cb, hc⟩ := h.blocks
  exact ⟨hb.ne_ ha h1, hb.ne_ hc h2⟩
set_option maxHeartbeats 1000000 in
set_option maxRecDepth 100000 in
theorem svc_put {B vb sb db k : Nat} {r : Ru} {z : SS} {v : Value} {W : World} (h : SW B vb sb db k r z v W) (hk : k < 1000000) (f : Fam) (hf : f.short 5000) :
    Calls Tryz.prog 179 #[.pointer (some ⟨vb, 0, none⟩), famVal f] W (PutX W B vb sb db k r (addS z (putEv f))) := by
  have HA : Hid (∀ w, SX B sb db k z v w → Calls Tryz.prog 190 #[.pointer (some ⟨sb, 0, none⟩), evVal (putEv f)] w (DoneX w B sb db k (addS z (putEv f)))) := Lib.hid fun w h => sx_add h hk (putEv f) hf
  have H := Lib.hid h
  generalize addS z (putEv f) = q at *
  obtain ⟨i, cl, su, sc, ge, ma, us, re, de⟩ := f
  unfold evVal evCs putEv at HA
  unfold famVal famCs
  dsimp only at *
  clear h hf
  have hal : Below W.heap.size W (W.alloc (.cells #[.int .i64 i, .string cl, .string su, .string sc, .int .i64 ge, .int .i64 ma, .int .i64 us, .string re, .bool de] 95)) := (Below.refl _ _).alloc (Nat.le_refl _) _
  have HAL := Lib.hid hal
  have H1 := Lib.hid (H.out.keep hal)
  obtain ⟨c0, c1, c2, c3, c4, hlt⟩ := H1.out.five
  clear hal
  go_enter Tryz.func179, Tryz.ntmps179
  go_wp2_with fail
  have hfb : Blk (W.alloc (.cells #[.int .i64 i, .string cl, .string su, .string sc, .int .i64 ge, .int .i64 ma, .int .i64 us, .string re, .bool de] 95)).drew W.heap.size 95 #[.int .i64 i, .string cl, .string su, .string sc, .int .i64 ge, .int .i64 ma, .int .i64 us, .string re, .bool de] := Blk.new W _ _
  have HD : FB vb sb W.heap.size i cl su sc ge ma us re de (W.alloc (.cells #[.int .i64 i, .string cl, .string su, .string sc, .int .i64 ge, .int .i64 ma, .int .i64 us, .string re, .bool de] 95)).drew := FB.of c0 hfb
  have HSD := Lib.hid H1.out.drew
  have HFB := Lib.hid hfb
  have HBD := Lib.hid (Two.of_below (a := sb) (b := db) (below_dr HAL.out))
  unfold FB at HD
  clear hfb c0 c1 c2 c3 c4 hlt
  go_region_held3 (fun w' => w'.cell? ⟨vb, 0, none⟩ = some (.pointer (some ⟨sb, 0, none⟩)) ∧ w'.cell? ⟨W.heap.size, 0, none⟩ = some (.int .i64 i) ∧ w'.cell? ⟨W.heap.size, 1, none⟩ = some (.string cl) ∧ w'.cell? ⟨W.heap.size, 2, none⟩ = some (.string su) ∧ w'.cell? ⟨W.heap.size, 3, none⟩ = some (.string sc) ∧ w'.cell? ⟨W.heap.size, 4, none⟩ = some (.int .i64 ge) ∧
      w'.cell? ⟨W.heap.size, 5, none⟩ = some (.int .i64 ma) ∧ w'.cell? ⟨W.heap.size, 6, none⟩ = some (.int .i64 us) ∧ w'.cell? ⟨W.heap.size, 7, none⟩ = some (.string re) ∧ w'.cell? ⟨W.heap.size, 8, none⟩ = some (.bool de))
    (first
      | with_reducible assumption
      | with_reducible exact HD)
    (first
      | (go_at_call 190; (with_reducible refine (HA.out _ HSD.out.sx).mono ?_); rintro x' w2 ⟨rfl, htw, v2, hsx⟩
         have hend : PutX W B vb sb db k r q (.returned (errV q.2)) w2 := ⟨rfl, HBD.out.trans htw, v2, HSD.out.two htw hsx⟩
         have hx2 := FB.of (i := i) (cl := cl) (su := su) (sc := sc) (ge := ge) (ma := ma) (us := us) (re := re) (de := de) ((HSD.out.two htw hsx).five.1) (HFB.out.two htw (HSD.out.sx.apart HFB.out (by decide) (by decide)).1 (HSD.out.sx.apart HFB.out (by decide) (by decide)).2)
         unfold FB at hx2))
  go_wp2_with fail
  go_ret
  exact hend
end Go.Proofs.YtepjcdjpikbbjaaGreatDoor

/-
  A service: refresh, find.
-/
namespace Go.Proofs.YtepjcdjpikbbjaaGreatDoor
open Go.RowKit Go.Sort

theorem right_one {a b : Int} (ha : okN a = true) (hb : okN b = true) : rightN 1 a b 0 = true := by unfold rightN; rw [ha, hb]; decide
set_option maxHeartbeats 1000000 in
set_option maxRecDepth 100000 in
theorem svc_refresh {B vb sb db k : Nat} {r : Ru} {z : SS} {v : Value} {W : World} (h : SW B vb sb db k r z v W) (f : Fam) (h1 : okN f.id = true) (h2 : okN f.gen = true) :
    Calls Tryz.prog 180 #[.pointer (some ⟨vb, 0, none⟩), famVal f] W fun e w' => e = .returned (.string (refreshS r f)) ∧ Below W.heap.size W w' := by
  have HA : Hid (∀ w, Tens w → Calls Tryz.prog 136 #[.int .i64 r.key, v4 1 f.id f.gen 0] w fun e w' => e = .returned (.tuple #[.string (refreshS r f), .nilIface]) ∧ Below w.heap.size w w') := Lib.hid fun w hT => token_write_yes r.key 1 f.id f.gen 0 w hT (right_one h1 h2)
  have H := Lib.hid h
  generalize refreshS r f = x at *
  obtain ⟨i, cl, su, sc, ge, ma, us, re, de⟩ := f
  unfold v4 at HA
  unfold famVal famCs
  dsimp only at *
  clear h h1 h2
  have hal : Below W.heap.size W (W.alloc (.cells #[.int .i64 i, .string cl, .string su, .string sc, .int .i64 ge, .int .i64 ma, .int .i64 us, .string re, .bool de] 95)) := (Below.refl _ _).alloc (Nat.le_refl _) _
  have HAL := Lib.hid hal
  have H1 := Lib.hid (H.out.keep hal)
  obtain ⟨c0, c1, c2, c3, c4, hlt⟩ := H1.out.five
  have hfb : Blk (W.alloc (.cells #[.int .i64 i, .string cl, .string su, .string sc, .int .i64 ge, .int .i64 ma, .int .i64 us, .string re, .bool de] 95)).drew W.heap.size 95 #[.int .i64 i, .string cl, .string su, .string sc, .int .i64 ge, .int .i64 ma, .int .i64 us, .string re, .bool de] := Blk.new W _ _
  have HT := Lib.hid H1.out.drew.sx.env.tens
  have HBD := Lib.hid (below_dr HAL.out)
  have HD : (W.alloc (.cells #[.int .i64 i, .string cl, .string su, .string sc, .int .i64 ge, .int .i64 ma, .int .i64 us, .string re, .bool de] 95)).drew.cell? ⟨vb, 1, none⟩ = some (.int .i64 r.key) ∧ (W.alloc (.cells #[.int .i64 i, .string cl, .string su, .string sc, .int .i64 ge, .int .i64 ma, .int .i64 us, .string re, .bool de] 95)).drew.cell? ⟨W.heap.size, 0, none⟩ = some (.int .i64 i) ∧
      (W.alloc (.cells #[.int .i64 i, .string cl, .string su, .string sc, .int .i64 ge, .int .i64 ma, .int .i64 us, .string re, .bool de] 95)).drew.cell? ⟨W.heap.size, 4, none⟩ = some (.int .i64 ge) := ⟨c1, hfb.cell 0, hfb.cell 4⟩
  clear hal c0 c1 c2 c3 c4 hlt
  go_enter Tryz.func180, Tryz.ntmps180
  go_wp2_with fail
  go_region_held3 (fun w' => w'.cell? ⟨vb, 1, none⟩ = some (.int .i64 r.key) ∧ w'.cell? ⟨W.heap.size, 0, none⟩ = some (.int .i64 i) ∧ w'.cell? ⟨W.heap.size, 4, none⟩ = some (.int .i64 ge))
    (first
      | with_reducible assumption
      | with_reducible exact HD)
    (first
      | (go_at_call 136; (with_reducible refine (HA.out _ HT.out).mono ?_); rintro x' w2 ⟨rfl, hb⟩
         have hend := below_2 HBD.out hb
         have hx2 : w2.cell? ⟨vb, 1, none⟩ = some (.int .i64 r.key) ∧ w2.cell? ⟨W.heap.size, 0, none⟩ = some (.int .i64 i) ∧ w2.cell? ⟨W.heap.size, 4, none⟩ = some (.int .i64 ge) := ⟨(H1.out.drew.keep hb).five.2.1, (hfb.below' hb).cell 0, (hfb.below' hb).cell 4⟩))
  go_wp2_with fail
  go_ret
  exact ⟨rfl, hend⟩
theorem st_clock (ck nx : Int) (a : Option Addr) (n c : Nat) (w : World) : (Instr.field 83 (.agg #[.int .i64 ck, .int .i64 nx, .slice a n c]) 0).run Tryz.prog w = .ok (.int .i64 ck) w := by kernel_rfl
theorem st_fams (ck nx : Int) (a : Option Addr) (n c : Nat) (w : World) : (Instr.field 83 (.agg #[.int .i64 ck, .int .i64 nx, .slice a n c]) 2).run Tryz.prog w = .ok (.slice a n c) w := by kernel_rfl
/-- what is asked of each family -/
theorem find_one (id : Int) (bx : Nat) (f : Fam) (w : World) (hc : w.cell? ⟨bx, 0, none⟩ = some (.int .i64 id)) :
    Calls Tryz.prog 221 #[famVal f, .pointer (some ⟨bx, 0, none⟩)] w fun e w' => e = .returned (.bool (decide (f.id = id))) ∧ Below w.heap.size w w' := by
  obtain ⟨i, cl, su, sc, ge, ma, us, re, de⟩ := f
  unfold famVal famCs
  dsimp only
  have hal : Below w.heap.size w (w.alloc (.cells #[.int .i64 i, .string cl, .string su, .string sc, .int .i64 ge, .int .i64 ma, .int .i64 us, .string re, .bool de] 95)) := (Below.refl _ _).alloc (Nat.le_refl _) _
  have HAL := Lib.hid hal
  have hlt : bx < w.heap.size := World.block_lt_of_cell? w _ hc
  clear hal
  go_enter Tryz.func221, Tryz.ntmps221
  go_wp2_with fail
  go_ret
  refine ⟨?_, HAL.out⟩
  show Ending.returned (Value.bool _) = _
  congr 2
theorem find_cons (f : Fam) (L : List Fam) (id : Int) : findF (f :: L) id = if f.id = id then some f else findF L id := by
  unfold findF
  rw [List.find?_cons]
  by_cases h : f.id = id
  · simp [h]
  · simp [h]
/-- where the first family of a number stands -/
def FindGot (L : List Fam) (id : Int) (W : World) (e : Ending) (w' : World) : Prop :=
  Below W.heap.size W w' ∧ ((∃ (j : Nat) (f : Fam), L[j]? = some f ∧ findF L id = some f ∧ e = .returned (.int .i64 j)) ∨ (findF L id = none ∧ e = .returned (.int .i64 (-1))))
theorem find_take {L : List Fam} {id : Int} {k : Nat} (h : ∀ j f, j < k → L[j]? = some f → f.id ≠ id) : findF L id = findF (L.drop k) id := by
  induction k generalizing L with
  | zero => rfl
  | succ k ih =>
    cases L with
    | nil => rfl
    | cons g L =>
      rw [find_cons, if_neg (h 0 g (Nat.succ_pos _) rfl), List.drop_succ_cons]
      exact ih fun j f hj hf => h (j + 1) f (Nat.succ_lt_succ hj) (by simpa using hf)
def FdRel (W : World) (bx B : Nat) (v : Value) (L : List Fam) (id : Int) (i : Value) (w : World) : Prop := ∃ k : Nat, k ≤ L.length ∧ i = .int .i64 k ∧ Below W.heap.size W w ∧ FRow w B v L ∧ w.cell? ⟨bx, 0, none⟩ = some (.int .i64 id) ∧ ∀ j f, j < k → L[j]? = some f → f.id ≠ id
set_option maxHeartbeats 1000000 in
theorem find_index (B bx : Nat) (v : Value) (L : List Fam) (id : Int) (W : World) (hr : FRow W B v L) (hl : L.length ≤ 1000000) (hc : W.cell? ⟨bx, 0, none⟩ = some (.int .i64 id)) :
    Calls Tryz.prog 220 #[v, .func (.func 221) #[] #[.pointer (some ⟨bx, 0, none⟩)]] W (FindGot L id W) := by
  obtain ⟨sa, sc, rfl⟩ := hr.slice
  have HR := Lib.hid hr
  have HC := Lib.hid hc
  clear hr hc
  go_enter Tryz.func220, Tryz.ntmps220
  go_wp2_with fail
  go_loopw [8] (fun i wr => FdRel W bx B (.slice sa L.length sc) L id i wr) (fun i _ => L.length - (intOf i).toNat)
  case atStart => exact ⟨0, Nat.zero_le _, rfl, Below.refl _ _, HR.out, HC.out, fun j f hj => absurd hj (Nat.not_lt_zero _)⟩
  case round =>
    obtain ⟨k, hk, rfl, hb, hr, hc, hno⟩ := hrel
    have HB := Lib.hid hb
    have HR1 := Lib.hid hr
    have HC1 := Lib.hid hc
    have HNO := Lib.hid hno
    clear hb hr hc hno HR HC
    by_cases hlt : k < L.length
    · obtain ⟨g, rfl, _, ra⟩ := HR1.out.lit hlt
      obtain ⟨f, hf⟩ : ∃ f, L[k]? = some f := ⟨_, List.getElem?_eq_getElem hlt⟩
      have HF := Lib.hid hf
      have HO := Lib.hid (fun w h => find_one id bx f w h)
      by_cases hid : f.id = id
      · have HID := Lib.hid hid
        rw [decide_eq_true hid] at HO
        obtain ⟨i, cl, su, scp, ge, ma, us, re, de⟩ := f
        obtain ⟨c0, c1, c2, c3, c4, c5, c6, c7, c8⟩ := ra.nine hf
        unfold famVal famCs at HO
        dsimp only at HO
        have h0 : (0 : Int) ≤ (k : Int) := by omega
        have h1 : (k : Int) < (L.length : Int) := by omega
        clear hf ra hid
        go_wp2_with fail
        go_at_call 221
        refine (HO.out _ HC1.out).mono ?_
        rintro e w2 ⟨rfl, hb⟩
        have HB2 := Lib.hid (below_2 HB.out hb)
        clear hb
        go_wp2_with fail
        go_ret
        refine ⟨HB2.out, .inl ⟨k, _, HF.out, ?_, rfl⟩⟩
        have hlt' := (List.getElem?_eq_some_iff.1 HF.out).1
        rw [find_take HNO.out, List.drop_eq_getElem_cons hlt', find_cons]
        have he := (List.getElem?_eq_some_iff.1 HF.out).2
        rw [he, if_pos HID.out]
      · have HID := Lib.hid hid
        rw [decide_eq_false hid] at HO
        obtain ⟨i, cl, su, scp, ge, ma, us, re, de⟩ := f
        obtain ⟨c0, c1, c2, c3, c4, c5, c6, c7, c8⟩ := ra.nine hf
        unfold famVal famCs at HO
        dsimp only at HO
        have h0 : (0 : Int) ≤ (k : Int) := by omega
        have h1 : (k : Int) < (L.length : Int) := by omega
        clear hf ra hid
        go_wp2_with fail
        go_at_call 221
        refine (HO.out _ HC1.out).mono ?_
        rintro e w2 ⟨rfl, hb⟩
        have HB2 := Lib.hid (below_2 HB.out hb)
        have HR2 := Lib.hid (HR1.out.below hb)
        have HC2 := Lib.hid ((hb.cell (p := ⟨bx, 0, none⟩) (World.block_lt_of_cell? wr _ HC1.out)).trans HC1.out)
        clear hb
        go_wp2_with fail
        go_roundw
        case rel => exact ⟨k + 1, by omega, by go_num, HB2.out, HR2.out, HC2.out, fun j f hj hf => by
          by_cases e : j = k
          · subst e
            rw [HF.out] at hf
            cases hf
            exact HID.out
          · exact HNO.out j f (by omega) hf⟩
        case measure => simp [intOf]; omega
    · have hkn : k = L.length := by omega
      go_wp2_with fail
      go_ret
      refine ⟨HB.out, .inr ⟨?_, rfl⟩⟩
      rw [find_take HNO.out, hkn, List.drop_length]
      rfl
/-- what find gives -/
def FindEnd (L : List Fam) (id : Int) (W : World) (e : Ending) (w' : World) : Prop :=
  Below W.heap.size W w' ∧ ((∃ f, findF L id = some f ∧ f ∈ L ∧ e = .returned (.tuple #[famVal f, .bool true])) ∨ (findF L id = none ∧ e = .returned (.tuple #[famVal Fam.zero, .bool false])))
/-- nine stores -/
theorem nine_sets {w : World} {g : Nat} {T : TypeId} {f0 : Fam} (h : Blk w g T (famCs f0)) (i : Int) (cl su sc : ByteArray) (ge ma us : Int) (re : ByteArray) (de : Bool) :
    Blk (((((((((w.setCell ⟨g, 0, none⟩ (.int .i64 i)).setCell ⟨g, 1, none⟩ (.string cl)).setCell ⟨g, 2, none⟩ (.string su)).setCell ⟨g, 3, none⟩ (.string sc)).setCell ⟨g, 4, none⟩ (.int .i64 ge)).setCell ⟨g, 5, none⟩ (.int .i64 ma)).setCell ⟨g, 6, none⟩ (.int .i64 us)).setCell ⟨g, 7, none⟩ (.string re)).setCell ⟨g, 8, none⟩ (.bool de)) g T (famCs ⟨i, cl, su, sc, ge, ma, us, re, de⟩) ∧
      w.grownBy (((((((((w.setCell ⟨g, 0, none⟩ (.int .i64 i)).setCell ⟨g, 1, none⟩ (.string cl)).setCell ⟨g, 2, none⟩ (.string su)).setCell ⟨g, 3, none⟩ (.string sc)).setCell ⟨g, 4, none⟩ (.int .i64 ge)).setCell ⟨g, 5, none⟩ (.int .i64 ma)).setCell ⟨g, 6, none⟩ (.int .i64 us)).setCell ⟨g, 7, none⟩ (.string re)).setCell ⟨g, 8, none⟩ (.bool de)) (some g) := by
  obtain ⟨i0, cl0, su0, sc0, ge0, ma0, us0, re0, de0⟩ := f0
  have e0 := h.put_ 0 (.int .i64 i) (cs' := famCs ⟨i, cl0, su0, sc0, ge0, ma0, us0, re0, de0⟩) rfl
  have e1 := e0.put_ 1 (.string cl) (cs' := famCs ⟨i, cl, su0, sc0, ge0, ma0, us0, re0, de0⟩) rfl
  have e2 := e1.put_ 2 (.string su) (cs' := famCs ⟨i, cl, su, sc0, ge0, ma0, us0, re0, de0⟩) rfl
  have e3 := e2.put_ 3 (.string sc) (cs' := famCs ⟨i, cl, su, sc, ge0, ma0, us0, re0, de0⟩) rfl
  have e4 := e3.put_ 4 (.int .i64 ge) (cs' := famCs ⟨i, cl, su, sc, ge, ma0, us0, re0, de0⟩) rfl
  have e5 := e4.put_ 5 (.int .i64 ma) (cs' := famCs ⟨i, cl, su, sc, ge, ma, us0, re0, de0⟩) rfl
  have e6 := e5.put_ 6 (.int .i64 us) (cs' := famCs ⟨i, cl, su, sc, ge, ma, us, re0, de0⟩) rfl
  have e7 := e6.put_ 7 (.string re) (cs' := famCs ⟨i, cl, su, sc, ge, ma, us, re, de0⟩) rfl
  have e8 := e7.put_ 8 (.bool de) (cs' := famCs ⟨i, cl, su, sc, ge, ma, us, re, de⟩) rfl
  refine ⟨e8, ?_⟩
  refine only_setCell ?_ (.inl rfl) _
  refine only_setCell ?_ (.inl rfl) _
  refine only_setCell ?_ (.inl rfl) _
  refine only_setCell ?_ (.inl rfl) _
  refine only_setCell ?_ (.inl rfl) _
  refine only_setCell ?_ (.inl rfl) _
  refine only_setCell ?_ (.inl rfl) _
  refine only_setCell ?_ (.inl rfl) _
  exact only_set1 w g ⟨g, 0, none⟩ rfl _
theorem find_end {W w : World} {A : Act} {L : List Fam} {id : Int} {f : Fam} {b : Bool} (hb : Below W.heap.size W w) (hr : Blk w (W.heap.size + 1) 95 (famCs f)) (hp : A.tmps.getD 4 undef = .pointer (some ⟨W.heap.size + 1, 0, none⟩)) (hx : A.tmps.getD 5 undef = .bool b) (hd : A.defers = [])
    (h : (b = true ∧ findF L id = some f ∧ f ∈ L) ∨ (b = false ∧ f = Fam.zero ∧ findF L id = none)) :
    bodyPost Tryz.prog Tryz.f181 (FindEnd L id W) Exit.ret A w := by
  refine bodyPost_ret (results_row_tmp rfl A.tmps w _ _ _ _ _ hp hx hr Tryz.underlying95 rfl (by kernel_rfl)) hd ⟨hb, ?_⟩
  rcases h with ⟨rfl, h1, h2⟩ | ⟨rfl, rfl, h1⟩
  · exact .inl ⟨f, h1, h2, rfl⟩
  · exact .inr ⟨h1, rfl⟩
set_option maxHeartbeats 1000000 in
set_option maxRecDepth 100000 in
theorem svc_find {B vb sb db k : Nat} {r : Ru} {z : SS} {v : Value} {W : World} (h : SW B vb sb db k r z v W) (id : Int) :
    Calls Tryz.prog 181 #[.pointer (some ⟨vb, 0, none⟩), .int .i64 id] W (FindEnd z.s.fams id W) := by
  have HST := Lib.hid (fun w (h : SW B vb sb db k r z v w) => (sx_state h.sx).mono fun _ _ h => got_as h)
  have hlen := h.sx.fit.len
  have H := Lib.hid h
  clear h
  generalize z.s.fams = L at *
  generalize z.s.clock = ck at *
  generalize z.s.next = nx at *
  unfold GotAs at HST
  have HFI := Lib.hid (fun B bx v w hr hc => find_index B bx v L id w hr (by omega) hc)
  clear hlen
  have hal := alloc2 W (.cells #[.int .i64 id] 3) (.cells (famCs Fam.zero) 95)
  have HAL := Lib.hid hal
  have H1 := Lib.hid (H.out.keep hal)
  have HI1 := Lib.hid ((Blk.new W 3 #[.int .i64 id]).alloc (.cells (famCs Fam.zero) 95))
  have hf1 : Blk ((W.alloc (.cells #[.int .i64 id] 3)).alloc (.cells (famCs Fam.zero) 95)) (W.heap.size + 1) 95 (famCs Fam.zero) := by
    have := Blk.new (W.alloc (.cells #[.int .i64 id] 3)) 95 (famCs Fam.zero)
    rw [show (W.alloc (.cells #[.int .i64 id] 3)).heap.size = W.heap.size + 1 by simp] at this
    exact this
  have HF1 := Lib.hid hf1
  clear hal hf1 H
  unfold famCs Fam.zero at HAL H1 HI1 HF1
  dsimp only at HAL H1 HI1 HF1
  obtain ⟨c0, c1, c2, c3, c4, hlt⟩ := H1.out.five
  go_enter Tryz.func181, Tryz.ntmps181
  go_wp2_with fail
  go_at_call 177
  refine (HST.out _ H1.out).mono ?_
  rintro e w1 ⟨a1, ac, rfl, hr, hb⟩
  have HB1 := Lib.hid (below_2 HAL.out hb)
  have HR1 := Lib.hid hr
  have HI2 := Lib.hid (HI1.out.below' hb)
  have HF2 := Lib.hid (HF1.out.below' hb)
  have hsf := st_fams ck nx a1 L.length ac
  clear hr hb H1 HI1 HF1 HAL c0 c1 c2 c3 c4 hlt HST
  go_wp2_with fail
  go_at_call 220
  refine (HFI.out _ _ _ _ HR1.out (HI2.out.cell 0)).mono ?_
  rintro e w2 ⟨hb, ⟨j, f, hj, hfd, rfl⟩ | ⟨hfd, rfl⟩⟩
  · have hjl := (List.getElem?_eq_some_iff.1 hj).1
    have hmem := List.mem_of_getElem? hj
    have hr2 := HR1.out.below hb
    obtain ⟨g, hga, _, ra⟩ := hr2.lit hjl
    subst hga
    have HB2 := Lib.hid (below_2 HB1.out hb)
    have HF3 := Lib.hid (HF2.out.below' hb)
    have HFD := Lib.hid hfd
    have HM := Lib.hid hmem
    obtain ⟨i, cl, su, scp, ge, ma, us, re, de⟩ := f
    obtain ⟨c0, c1, c2, c3, c4, c5, c6, c7, c8⟩ := ra.nine hj
    have h0 : (0 : Int) ≤ (j : Int) := by omega
    have h1 : (j : Int) < (L.length : Int) := by omega
    have hz := HF3.out.frozen
    obtain ⟨z0, z1, z2, z3, z4, z5, z6, z7, z8⟩ := fam_cells HF3.out
    clear hfd hmem hj ra hr2 hb HR1 HB1 HF2 HI2 HFI
    go_wp2_with fail
    obtain ⟨n1, n2⟩ := nine_sets (f0 := Fam.zero) HF3.out i cl su scp ge ma us re de
    exact find_end (HB2.out.grown n2 HB2.out.size (fun i hi => by cases hi; exact Nat.le_succ _)) n1 rfl rfl rfl (.inl ⟨rfl, HFD.out, HM.out⟩)
  · have HB2 := Lib.hid (below_2 HB1.out hb)
    have HF3 := Lib.hid (HF2.out.below' hb)
    have HFD := Lib.hid hfd
    have hz := HF3.out.frozen
    obtain ⟨z0, z1, z2, z3, z4, z5, z6, z7, z8⟩ := fam_cells HF3.out
    clear hfd hb HR1 HB1 HF2 HI2 HFI
    go_wp2_with fail
    obtain ⟨n1, n2⟩ := nine_sets (f0 := Fam.zero) HF3.out 0 ⟨#[]⟩ ⟨#[]⟩ ⟨#[]⟩ 0 0 0 ⟨#[]⟩ false
    exact find_end (HB2.out.grown n2 HB2.out.size (fun i hi => by cases hi; exact Nat.le_succ _)) n1 rfl rfl rfl (.inr ⟨rfl, rfl, HFD.out⟩)
end Go.Proofs.YtepjcdjpikbbjaaGreatDoor

/-
  token.Read: the token that a text is, or what is wrong with it.
-/
namespace Go.Proofs.YtepjcdjpikbbjaaGreatDoor
open Go.RowKit Go.Sort

theorem tok_row_tmp {P : Program} {fn : Func} {p u : Tmp} {ty : TypeId} (h : fn.results = #[.cell p ty, .tmp u]) (tmps : Array Value) (w : World) (g : Nat) (t : TypeId) (cs : Array Value) (d : TypeDesc) (x : Value)
    (hp : tmps.getD p undef = .pointer (some ⟨g, 0, none⟩)) (hx : tmps.getD u undef = x) (hg : Blk w g t cs)
    (hu : P.underlying ty = some d) (hd : (match d with | .struct _ | .array _ _ => true | _ => false) = true) (hi : (P.info? ty).map (·.size) = some cs.size) :
    (results fn tmps).run P w = .ok (.tuple #[.agg cs, x]) w := by
  rw [results_cell_tmp h, hp, hx]
  simp only [asAddr, Sem.run_pure, Result.andThen]
  rw [run_loadVar_row w g t ty cs (0, 0) d hg hu hd hi]
/-- what is known while token.Read is under way: its result's block, its row of words -/
structure TR (W : World) (L : List (List UInt8)) (v : Value) (w : World) : Prop where
  below : Below W.heap.size W w
  res : Blk w W.heap.size 182 #[.int .i64 0, .int .i64 0, .int .i64 0, .int .i64 0]
  row : Row w (W.heap.size + 1) v L
  tens : Tens w
  errs : ErrVars w
theorem TR.keep {W w w' : World} {L : List (List UInt8)} {v : Value} (h : TR W L v w) (hb : Below w.heap.size w w') : TR W L v w' :=
  ⟨h.below.trans (hb.mono h.below.size), h.res.below' hb, h.row.below hb, h.tens.below hb h.tens.lt, h.errs.below' hb⟩

theorem TR.facts {W w : World} {L : List (List UInt8)} {v : Value} (h : TR W L v w) : ∃ g cap, v = .slice (some ⟨g, 0, none⟩) L.length cap ∧ L.length ≤ cap ∧ cap ≤ 9223372036854775807 ∧ W.heap.size + 1 ≤ g ∧ g < w.heap.size ∧ W.heap.size < w.heap.size ∧
    (∀ j, j < L.length → w.cell? ⟨g, j, none⟩ = some (.string (txt (L.getD j [])))) ∧ (w.cell? ⟨W.heap.size, 0, none⟩ = some (.int .i64 0) ∧ w.cell? ⟨W.heap.size, 1, none⟩ = some (.int .i64 0) ∧ w.cell? ⟨W.heap.size, 2, none⟩ = some (.int .i64 0) ∧ w.cell? ⟨W.heap.size, 3, none⟩ = some (.int .i64 0)) ∧
    (w.frozen? ⟨W.heap.size, 0, none⟩ = false ∧ w.frozen? ⟨W.heap.size, 1, none⟩ = false ∧ w.frozen? ⟨W.heap.size, 2, none⟩ = false ∧ w.frozen? ⟨W.heap.size, 3, none⟩ = false) := by
  obtain ⟨g, cap, rfl, h1, h2, h3, h4, _⟩ := h.row.parts
  exact ⟨g, cap, rfl, h3, h4, h1, h2, h.res.lt, fun j hj => h.row.cell j hj, ⟨h.res.cell 0, h.res.cell 1, h.res.cell 2, h.res.cell 3⟩, h.res.frozen 0, h.res.frozen 1, h.res.frozen 2, h.res.frozen 3⟩

def TokGot (W : World) (R : Int × Int × Int × Int × Int) (e : Ending) (w' : World) : Prop := e = .returned (.tuple #[v4 R.2.1 R.2.2.1 R.2.2.2.1 R.2.2.2.2, errV R.1]) ∧ Below W.heap.size W w'

theorem tokRead_start (_key : Int) (s : ByteArray) (W : World) (hs : s.size ≤ 5000) (hm : MaxL W) (hT : Tens W) (hv : ErrVars W) :
    Calls Tryz.prog 13 #[.string s, .string ⟨#[46]⟩] (W.alloc (.cells #[.int .i64 0, .int .i64 0, .int .i64 0, .int .i64 0] 182)) fun e w' => ∃ v, e = .returned v ∧ TR W (parts 46 s.data.toList) v w' := by
  have hb0 : Below W.heap.size W (W.alloc (.cells #[.int .i64 0, .int .i64 0, .int .i64 0, .int .i64 0] 182)) := (Below.refl _ _).alloc (Nat.le_refl _) _
  refine (split_row 46 s (W.heap.size + 1) _ (by omega) (hm.below hb0 hm.lt) (by simp)).mono ?_
  rintro e w' ⟨v, rfl, hr, hb⟩
  exact ⟨v, rfl, hb0.trans (hb.mono hb0.size), (Blk.new W _ _).below' hb, hr, (hT.below hb0 hT.lt).below hb (by simp; have := hT.lt; omega), (hv.below hb0 hv.lt.1 hv.lt.2).below hb (by simp; have := hv.lt.1; omega) (by simp; have := hv.lt.2; omega)⟩

/-- the result's block behind four stores -/
theorem four_sets {w : World} {rb : Nat} {T : TypeId} {y0 y1 y2 y3 : Value} (h : Blk w rb T #[y0, y1, y2, y3]) (x0 x1 x2 x3 : Value) :
    Blk ((((w.setCell ⟨rb, 0, none⟩ x0).setCell ⟨rb, 1, none⟩ x1).setCell ⟨rb, 2, none⟩ x2).setCell ⟨rb, 3, none⟩ x3) rb T #[x0, x1, x2, x3] :=
  (((h.set_ 0 x0).set_ 1 x1).set_ 2 x2).set_ 3 x3
theorem four_below {W w : World} (h : Below W.heap.size W w) (x0 x1 x2 x3 : Value) :
    Below W.heap.size W ((((w.setCell ⟨W.heap.size, 0, none⟩ x0).setCell ⟨W.heap.size, 1, none⟩ x1).setCell ⟨W.heap.size, 2, none⟩ x2).setCell ⟨W.heap.size, 3, none⟩ x3) :=
  (((h.setCell (Nat.le_refl _) x0).setCell (Nat.le_refl _) x1).setCell (Nat.le_refl _) x2).setCell (Nat.le_refl _) x3
theorem tok_end {W w : World} {A : Act} {a b c d n : Int} (hb : Below W.heap.size W w) (hr : Blk w W.heap.size 182 #[.int .i64 a, .int .i64 b, .int .i64 c, .int .i64 d])
    (hp : A.tmps.getD 4 undef = .pointer (some ⟨W.heap.size, 0, none⟩)) (hx : A.tmps.getD 5 undef = errV n) (hd : A.defers = []) :
    bodyPost Tryz.prog Tryz.f225 (TokGot W (n, a, b, c, d)) Exit.ret A w :=
  bodyPost_ret (tok_row_tmp rfl A.tmps w _ _ _ _ _ hp hx hr Tryz.underlying182 rfl (by kernel_rfl)) hd ⟨rfl, hb⟩

set_option maxHeartbeats 4000000 in
set_option maxRecDepth 100000 in
/-- no kind, or another number of words -/
theorem tokRead_form (key : Int) (s : ByteArray) (W : World) (hs : s.size ≤ 5000) (hm : MaxL W) (hT : Tens W) (hv : ErrVars W)
    (hf : ((parts 46 s.data.toList).getD 0 [] ≠ [97] ∧ (parts 46 s.data.toList).getD 0 [] ≠ [114]) ∨ ((parts 46 s.data.toList).getD 0 [] = [97] ∧ (parts 46 s.data.toList).length ≠ 5) ∨ ((parts 46 s.data.toList).getD 0 [] = [114] ∧ (parts 46 s.data.toList).length ≠ 4)) :
    Calls Tryz.prog 225 #[.int .i64 key, .string s] W (TokGot W (3, 0, 0, 0, 0)) := by
  have H := Lib.hid (tokRead_start key s W hs hm hT hv)
  have hpos := parts_pos 46 s.data.toList
  clear hm hT hv
  generalize parts 46 s.data.toList = L at *
  generalize hx : L.getD 0 [] = x at *
  have HX := Lib.hid hx
  clear hx
  have hkey : ((txt x).toList == [97]) = false ∧ ((txt x).toList == [114]) = false ∨ ((txt x).toList == [97]) = true ∧ ((L.length : Int) != 5) = true ∨ ((txt x).toList == [97]) = false ∧ ((txt x).toList == [114]) = true ∧ ((L.length : Int) != 4) = true := by
    rw [toList_txt]
    rcases hf with ⟨h1, h2⟩ | ⟨h1, h2⟩ | ⟨h1, h2⟩
    · exact .inl ⟨by simpa using h1, by simpa using h2⟩
    · exact .inr (.inl ⟨by simp [h1], by simp; omega⟩)
    · exact .inr (.inr ⟨by simp [h1], by simp [h1], by simp; omega⟩)
  clear hf
  rcases hkey with ⟨e1, e2⟩ | ⟨e1, e2⟩ | ⟨e1, e2, e3⟩
  all_goals
    go_enter Tryz.func225, Tryz.ntmps225
    go_wp2_with fail
    go_at_call 13
    refine H.out.mono ?_
    rintro e w1 ⟨v, rfl, h⟩
    have HB := Lib.hid h.below
    have HBL := Lib.hid h.res
    obtain ⟨g, cap, rfl, hcap, hmax, hg1, hg2, hrl, hcells, ⟨r0, r1, r2, r3⟩, f0, f1, f2, f3⟩ := h.facts
    have hc := hcells 0 hpos
    rw [HX.out] at hc
    clear h hcells
    go_wp2_with fail
    exact tok_end ((four_below HB.out (.int .i64 0) (.int .i64 0) (.int .i64 0) (.int .i64 0)).alloc (four_below HB.out (.int .i64 0) (.int .i64 0) (.int .i64 0) (.int .i64 0)).size _) ((four_sets HBL.out (.int .i64 0) (.int .i64 0) (.int .i64 0) (.int .i64 0)).alloc _) rfl rfl rfl
end Go.Proofs.YtepjcdjpikbbjaaGreatDoor

/-
  token.Read where the words are as many as they should be: what is known on the way.
-/
namespace Go.Proofs.YtepjcdjpikbbjaaGreatDoor
open Go.RowKit Go.Sort

theorem Row.at_ {w w' : World} {B0 B : Nat} {v : Value} {L : List (List UInt8)} (h : Row w B0 v L) (hb : Below B w w') (hv : ∀ g, v.ownBlock = some g → g < B) : Row w' B0 v L := by
  obtain ⟨g, cap, rfl, ho⟩ := h
  refine ⟨g, cap, rfl, ho.1, ?_⟩
  rcases ho.2 with h0 | ⟨g', cap', cur, e, h1, h2, h3⟩
  · exact .inl h0
  · refine .inr ⟨g', cap', cur, e, h1, ?_, h3⟩
    rw [hb.block g' (hv g' (by rw [e]; rfl))]
    exact h2
structure TK (W : World) (L : List (List UInt8)) (g cap tb B : Nat) (k : Int) (w : World) : Prop where
  tr : TR W L (.slice (some ⟨g, 0, none⟩) L.length cap) w
  tk : Blk w tb 182 #[.int .i64 k, .int .i64 0, .int .i64 0, .int .i64 0]
  hB : B ≤ w.heap.size
  tbB : tb < B
  gB : g < B
  WB : W.heap.size < B
  ne1 : W.heap.size ≠ tb
  ne2 : g ≠ tb
  ne3 : W.heap.size ≠ g
  gl : 5 < B ∧ 6 < B ∧ 7 < B
theorem TK.keep {W w w' : World} {L : List (List UInt8)} {g cap tb B : Nat} {k : Int} (h : TK W L g cap tb B k w) (hb : Below B w w') : TK W L g cap tb B k w' :=
  ⟨⟨h.tr.below.trans (hb.mono (Nat.le_of_lt h.WB)), h.tr.res.below hb h.WB, h.tr.row.at_ hb (fun x hx => by simp [Value.ownBlock] at hx; subst hx; exact h.gB), h.tr.tens.below hb h.gl.2.2, h.tr.errs.below hb h.gl.1 h.gl.2.1⟩,
    h.tk.below hb h.tbB, Nat.le_trans h.hB hb.size, h.tbB, h.gB, h.WB, h.ne1, h.ne2, h.ne3, h.gl⟩
theorem TK.keep' {W w w' : World} {L : List (List UInt8)} {g cap tb B : Nat} {k : Int} (h : TK W L g cap tb B k w) (hb : Below w.heap.size w w') : TK W L g cap tb B k w' := h.keep (hb.mono h.hB)
theorem TK.grown {W w w' : World} {L : List (List UInt8)} {g cap tb B : Nat} {k : Int} {row : Option Nat} (h : TK W L g cap tb B k w) (hg : w.grownBy w' row) (hr : ∀ i, row = some i → B ≤ i) : TK W L g cap tb B k w' :=
  h.keep ((Below.refl B w).grown hg h.hB hr)
theorem TK.start {W w1 : World} {L : List (List UInt8)} {g cap : Nat} (h : TR W L (.slice (some ⟨g, 0, none⟩) L.length cap) w1) (hg1 : W.heap.size + 1 ≤ g) (hg2 : g < w1.heap.size) (k : Int) :
    TK W L g cap w1.heap.size (w1.heap.size + 1) k (w1.alloc (.cells #[.int .i64 k, .int .i64 0, .int .i64 0, .int .i64 0] 182)) := by
  have hrl := h.res.lt
  have h3 := h.errs.lt
  have h4 := h.tens.lt
  exact ⟨h.keep ((Below.refl _ _).alloc (Nat.le_refl _) _), Blk.new w1 _ _, by simp, by omega, by omega, by omega, by omega, by omega, by omega, by omega, by omega, by omega⟩
theorem TK.facts {W w : World} {L : List (List UInt8)} {g cap tb B : Nat} {k : Int} (h : TK W L g cap tb B k w) :
    (∀ j, j < L.length → w.cell? ⟨g, j, none⟩ = some (.string (txt (L.getD j [])))) ∧ (w.cell? ⟨W.heap.size, 0, none⟩ = some (.int .i64 0) ∧ w.cell? ⟨W.heap.size, 1, none⟩ = some (.int .i64 0) ∧ w.cell? ⟨W.heap.size, 2, none⟩ = some (.int .i64 0) ∧ w.cell? ⟨W.heap.size, 3, none⟩ = some (.int .i64 0)) ∧
    (w.frozen? ⟨W.heap.size, 0, none⟩ = false ∧ w.frozen? ⟨W.heap.size, 1, none⟩ = false ∧ w.frozen? ⟨W.heap.size, 2, none⟩ = false ∧ w.frozen? ⟨W.heap.size, 3, none⟩ = false) ∧
    (w.cell? ⟨tb, 0, none⟩ = some (.int .i64 k) ∧ w.cell? ⟨tb, 1, none⟩ = some (.int .i64 0) ∧ w.cell? ⟨tb, 2, none⟩ = some (.int .i64 0) ∧ w.cell? ⟨tb, 3, none⟩ = some (.int .i64 0)) ∧
    (w.frozen? ⟨tb, 0, none⟩ = false ∧ w.frozen? ⟨tb, 1, none⟩ = false ∧ w.frozen? ⟨tb, 2, none⟩ = false ∧ w.frozen? ⟨tb, 3, none⟩ = false) ∧ g < w.heap.size ∧ tb < w.heap.size ∧ W.heap.size < w.heap.size := by
  have hr := h.tr.res
  have hk := h.tk
  exact ⟨fun j hj => h.tr.row.cell j hj, ⟨hr.cell 0, hr.cell 1, hr.cell 2, hr.cell 3⟩, ⟨hr.frozen 0, hr.frozen 1, hr.frozen 2, hr.frozen 3⟩, ⟨hk.cell 0, hk.cell 1, hk.cell 2, hk.cell 3⟩, ⟨hk.frozen 0, hk.frozen 1, hk.frozen 2, hk.frozen 3⟩,
    Nat.lt_of_lt_of_le h.gB h.hB, Nat.lt_of_lt_of_le h.tbB h.hB, Nat.lt_of_lt_of_le h.WB h.hB⟩
structure TE (W : World) (tb : Nat) (cs : Array Value) (w : World) : Prop where
  below : Below W.heap.size W w
  res : Blk w W.heap.size 182 #[.int .i64 0, .int .i64 0, .int .i64 0, .int .i64 0]
  tk : Blk w tb 182 cs
  tens : Tens w
  lt : W.heap.size < tb
  WT : 7 < W.heap.size
theorem TE.of_tk {W w : World} {L : List (List UInt8)} {g cap tb B : Nat} {k : Int} (h : TK W L g cap tb B k w) (ht : W.heap.size < tb) (hg : 7 < W.heap.size) : TE W tb #[.int .i64 k, .int .i64 0, .int .i64 0, .int .i64 0] w := ⟨h.tr.below, h.tr.res, h.tk, h.tr.tens, ht, hg⟩
theorem tens_set {w : World} (h : Tens w) {p : Addr} (hp : 7 ≠ p.block) (u : Value) : Tens (w.setCell p u) := by
  unfold Tens Lib.TabIs at *
  unfold World.var? at *
  simp only [tens_g, Option.bind_some] at h ⊢
  rw [Below.heap_setCell w p u _ hp]
  exact h
theorem TE.set {W w : World} {tb : Nat} {cs : Array Value} (h : TE W tb cs w) (i : Nat) (u : Value) : TE W tb (cs.setIfInBounds i u) (w.setCell ⟨tb, i, none⟩ u) :=
  ⟨h.below.setCell (Nat.le_of_lt h.lt) u, h.res.far (Nat.ne_of_lt h.lt) u, h.tk.set_ i u, tens_set h.tens (by have := h.lt; have := h.WT; simp; omega) u, h.lt, h.WT⟩
theorem TE.drew {W w : World} {tb : Nat} {cs : Array Value} (h : TE W tb cs w) : TE W tb cs w.drew := ⟨below_drewN h.below 1, h.res, h.tk, h.tens, h.lt, h.WT⟩
theorem TE.keep {W w w' : World} {tb : Nat} {cs : Array Value} (h : TE W tb cs w) (hb : Below w.heap.size w w') : TE W tb cs w' :=
  ⟨h.below.trans (hb.mono h.below.size), h.res.below' hb, h.tk.below' hb, h.tens.below hb h.tens.lt, h.lt, h.WT⟩
theorem TE.facts {W w : World} {tb : Nat} {x0 x1 x2 x3 : Value} (h : TE W tb #[x0, x1, x2, x3] w) :
    (w.cell? ⟨W.heap.size, 0, none⟩ = some (.int .i64 0) ∧ w.cell? ⟨W.heap.size, 1, none⟩ = some (.int .i64 0) ∧ w.cell? ⟨W.heap.size, 2, none⟩ = some (.int .i64 0) ∧ w.cell? ⟨W.heap.size, 3, none⟩ = some (.int .i64 0)) ∧
    (w.frozen? ⟨W.heap.size, 0, none⟩ = false ∧ w.frozen? ⟨W.heap.size, 1, none⟩ = false ∧ w.frozen? ⟨W.heap.size, 2, none⟩ = false ∧ w.frozen? ⟨W.heap.size, 3, none⟩ = false) ∧
    (w.cell? ⟨tb, 0, none⟩ = some x0 ∧ w.cell? ⟨tb, 1, none⟩ = some x1 ∧ w.cell? ⟨tb, 2, none⟩ = some x2 ∧ w.cell? ⟨tb, 3, none⟩ = some x3) ∧ W.heap.size < w.heap.size ∧ tb < w.heap.size := by
  have hr := h.res
  have hk := h.tk
  exact ⟨⟨hr.cell 0, hr.cell 1, hr.cell 2, hr.cell 3⟩, ⟨hr.frozen 0, hr.frozen 1, hr.frozen 2, hr.frozen 3⟩, ⟨hk.cell 0, hk.cell 1, hk.cell 2, hk.cell 3⟩, hr.lt, hk.lt⟩
theorem right_1 {x y : List UInt8} (hx : numB x = true) (hy : numB y = true) : rightN 1 (atoiN x) (atoiN y) 0 = true := by simp [rightN, (numB_iff.1 hx).1, (numB_iff.1 hy).1]
theorem right_2 {x y z : List UInt8} (hx : numB x = true) (hy : numB y = true) (hz : numB z = true) : rightN 2 (atoiN x) (atoiN y) (atoiN z) = true := by simp [rightN, (numB_iff.1 hx).1, (numB_iff.1 hy).1, (numB_iff.1 hz).1]
theorem itoS_num {x : List UInt8} (hx : numB x = true) : itoS (atoiN x) = txt x := by
  unfold itoS txt
  rw [(numB_iff.1 hx).2]
theorem bodyS_1 {x y : List UInt8} (hx : numB x = true) (hy : numB y = true) : bodyS 1 (atoiN x) (atoiN y) 0 = txt (glue 46 [[114], x, y]) := by
  rw [bodyS, if_pos rfl, itoS_num hx, itoS_num hy, show (⟨#[114, 46]⟩ : ByteArray) = txt [114, 46] from rfl, show (⟨#[46]⟩ : ByteArray) = txt [46] from rfl]
  simp only [txt_app]
  simp [glue]
theorem bodyS_2 {x y z : List UInt8} (hx : numB x = true) (hy : numB y = true) (hz : numB z = true) : bodyS 2 (atoiN x) (atoiN y) (atoiN z) = txt (glue 46 [[97], x, y, z]) := by
  rw [bodyS, if_neg (by decide), itoS_num hx, itoS_num hy, itoS_num hz, show (⟨#[97, 46]⟩ : ByteArray) = txt [97, 46] from rfl, show (⟨#[46]⟩ : ByteArray) = txt [46] from rfl]
  simp only [txt_app]
  simp [glue]
theorem tag_eq (key : Int) {TT BS : ByteArray} {t B : List UInt8} (h1 : TT.data.toList = t) (h2 : BS = txt B) : decide (TT = tagS key BS) = decide (t = tagL key B) := by
  rw [decide_eq_decide]
  subst h2
  unfold tagS
  rw [data_txt, ← h1]
  exact ⟨fun h => by rw [h], fun h => by rw [← h]⟩
theorem same_below {w w' : World} (h : ∃ n, w' = w.drewN n) : Below w.heap.size w w' := by
  obtain ⟨n, rfl⟩ := h
  exact below_drewN (Below.refl _ _) n
theorem owns_keep {w w' : World} {base : Nat} {e : TypeId} {v : Value} {n : Nat} {xs : List Value} (h : w.ownsRow base e 1 v n xs) (hb : Below w.heap.size w w') : w'.ownsRow base e 1 v n xs := by
  refine h.kept (only_of_below hb none) ?_
  cases hv : v.ownBlock with
  | none => exact .inl rfl
  | some b => exact .inr (by simp)
theorem intInfo : (Tryz.prog.info? 3).map (fun i => (i.zero, i.size, i.bytes)) = some (some (.int .i64 0), 1, 8) := by kernel_rfl

set_option maxHeartbeats 8000000 in
set_option maxRecDepth 100000 in
theorem tokRead_1 (key : Int) (s : ByteArray) (W : World) (hs : s.size ≤ 5000) (hm : MaxL W) (hT : Tens W) (hv : ErrVars W) (x y t : List UInt8) (hL : parts 46 s.data.toList = [[114], x, y, t]) :
    Calls Tryz.prog 225 #[.int .i64 key, .string s] W (TokGot W (tokR (fun B => tagL key B) [[114], x, y, t])) := by
  have H := Lib.hid (tokRead_start key s W hs hm hT hv)
  have hlen : ∀ w ∈ [[114], x, y, t], w.length ≤ 5000 := by rw [← hL]; exact parts_word_len 46 _ _ (by rw [size_data]; exact hs)
  rw [hL] at H
  have hx : (txt x).size ≤ 1000000 := by rw [txt_size]; have := hlen x (by simp); omega
  have hy : (txt y).size ≤ 1000000 := by rw [txt_size]; have := hlen y (by simp); omega
  have ht : t.length ≤ 5000 := hlen t (by simp)
  obtain ⟨i0, hi, hz0, hz1, hz2⟩ := info_parts intInfo
  have e1 : ((txt [114]).toList == [97]) = false := by rw [toList_txt]; decide
  have e2 : ((txt [114]).toList == [114]) = true := by rw [toList_txt]; decide
  have lten := hT.lt
  clear hm hT hv hL hlen
  go_enter Tryz.func225, Tryz.ntmps225
  go_wp2_with fail
  go_at_call 13
  refine H.out.mono ?_
  rintro e w1 ⟨v, rfl, h⟩
  obtain ⟨g, cap, rfl, hcap, hmax, hg1, hg2, hrl, hcells, _, _, _, _, _⟩ := h.facts
  have HTK := Lib.hid (TK.start h hg1 hg2 1)
  have hc0 := hcells 0 (by simp)
  clear h hcells
  simp only [List.length_cons, List.length_nil, Nat.zero_add, Nat.reduceAdd, List.getD_cons_zero] at hc0 hcap
  generalize txt [114] = rr at *
  go_wp2_with fail
  have hB0 : w1.heap.size + 1 = (w1.alloc (.cells #[.int .i64 1, .int .i64 0, .int .i64 0, .int .i64 0] 182)).heap.size := by simp
  generalize w1.alloc (.cells #[.int .i64 1, .int .i64 0, .int .i64 0, .int .i64 0] 182) = w2 at *
  have n1 := HTK.out.ne1
  have n2 := HTK.out.ne2
  have n3 := HTK.out.ne3
  clear hc0 hg1 hg2
  generalize w1.heap.size = tb at *
  obtain ⟨hcs, ⟨r0, r1, r2, r3⟩, ⟨f0, f1, f2, f3⟩, ⟨k0, k1, k2, k3⟩, ⟨q0, q1, q2, q3⟩, lg, lt, lW⟩ := HTK.out.facts
  refine wp_loop_rounds 3 ?_
  have hc := hcs 1 (by simp)
  simp at hc
  clear hcs
  rw [rounds_succ]
  go_wp2_with fail
  go_at_call 249
  refine (number_c (txt x) _ hx HTK.out.tr.tens HTK.out.tr.errs).mono ?_
  rintro e wa0 ⟨rfl, hb⟩
  rw [data_txt]
  have HA0 := Lib.hid (HTK.out.keep' hb)
  clear r0 r1 r2 r3 f0 f1 f2 f3 k0 k1 k2 k3 q0 q1 q2 q3 lg lt lW
  clear hc hb
  obtain ⟨hcs, ⟨r0, r1, r2, r3⟩, ⟨f0, f1, f2, f3⟩, ⟨k0, k1, k2, k3⟩, ⟨q0, q1, q2, q3⟩, lg, lt, lW⟩ := HA0.out.facts
  cases hnx : numB x
  · clear hcs
    go_wp2_with fail
    rw [show tokR (fun B => tagL key B) [[114], x, y, t] = (3, 0, 0, 0, 0) from tokR_none (by simp [tokP, hnx])]
    exact tok_end (four_below HA0.out.tr.below (.int .i64 0) (.int .i64 0) (.int .i64 0) (.int .i64 0)) (four_sets HA0.out.tr.res (.int .i64 0) (.int .i64 0) (.int .i64 0) (.int .i64 0)) rfl rfl rfl
  · have HNx := Lib.hid hnx
    clear hnx
    have HCS := Lib.hid hcs
    clear hcs
    go_wp2_with
      (at_builtin; refine wpList_append_own _ rfl _ _ 88 rfl (tb + 1) 3 i0 (.int .i64 0) 1 8 Tryz.underlying88 hi hz0 hz1 hz2 rfl (by decide) _ 0 [] rfl (World.ownsRow_nil _ _ _ _) ⟨wa0.heap.size, 0, none⟩ 1 1 [.int .i64 (atoiN x)] rfl rfl (cell_one_new _ _ _) (fun u hu => by simp at hu; subst hu; rfl) (by unfold maxLen; omega) (by omega) (by have := HA0.out.hB; simp; omega) ?_; intro v0 wb0 hown' hgrow hnil
       have HO0 := Lib.hid hown'
       have HB0 := Lib.hid ((HA0.out.keep' ((Below.refl _ _).alloc (Nat.le_refl _) _)).grown hgrow (fun i hi => by cases hi))
       clear hown' hgrow hnil)
    clear HCS
    clear r0 r1 r2 r3 f0 f1 f2 f3 k0 k1 k2 k3 q0 q1 q2 q3 lg lt lW
    obtain ⟨hcs, ⟨r0, r1, r2, r3⟩, ⟨f0, f1, f2, f3⟩, ⟨k0, k1, k2, k3⟩, ⟨q0, q1, q2, q3⟩, lg, lt, lW⟩ := HB0.out.facts
    have hc := hcs 2 (by simp)
    simp at hc
    clear hcs
    rw [rounds_succ]
    go_wp2_with fail
    go_at_call 249
    refine (number_c (txt y) _ hy HB0.out.tr.tens HB0.out.tr.errs).mono ?_
    rintro e wa1 ⟨rfl, hb⟩
    rw [data_txt]
    have HA1 := Lib.hid (HB0.out.keep' hb)
    have hown := owns_keep HO0.out hb
    clear r0 r1 r2 r3 f0 f1 f2 f3 k0 k1 k2 k3 q0 q1 q2 q3 lg lt lW
    clear hc hb
    obtain ⟨hcs, ⟨r0, r1, r2, r3⟩, ⟨f0, f1, f2, f3⟩, ⟨k0, k1, k2, k3⟩, ⟨q0, q1, q2, q3⟩, lg, lt, lW⟩ := HA1.out.facts
    cases hny : numB y
    · clear hcs
      go_wp2_with fail
      rw [show tokR (fun B => tagL key B) [[114], x, y, t] = (3, 0, 0, 0, 0) from tokR_none (by simp [tokP, HNx.out, hny])]
      exact tok_end (four_below HA1.out.tr.below (.int .i64 0) (.int .i64 0) (.int .i64 0) (.int .i64 0)) (four_sets HA1.out.tr.res (.int .i64 0) (.int .i64 0) (.int .i64 0) (.int .i64 0)) rfl rfl rfl
    · have HNy := Lib.hid hny
      have hownB := hown.lt
      clear hny
      have HCS := Lib.hid hcs
      clear hcs
      go_wp2_with
        (at_builtin; refine wpList_append_own _ rfl _ _ 88 rfl (tb + 1) 3 i0 (.int .i64 0) 1 8 Tryz.underlying88 hi hz0 hz1 hz2 rfl (by decide) _ 1 [.int .i64 (atoiN x)] rfl (hown.alloc _) ⟨wa1.heap.size, 0, none⟩ 1 1 [.int .i64 (atoiN y)] rfl rfl (cell_one_new _ _ _) (fun u hu => by simp at hu; subst hu; rfl) (by unfold maxLen; omega) (by omega) (by have := HA1.out.hB; simp; omega) ?_; intro v1 wb1 hown' hgrow hnil
         have HO1 := Lib.hid hown'
         have HB1 := Lib.hid ((HA1.out.keep' ((Below.refl _ _).alloc (Nat.le_refl _) _)).grown hgrow (fun i hi => (hownB i hi).1))
         clear hown' hgrow hnil)
      clear HCS
      clear r0 r1 r2 r3 f0 f1 f2 f3 k0 k1 k2 k3 q0 q1 q2 q3 lg lt lW
      obtain ⟨hcs, ⟨r0, r1, r2, r3⟩, ⟨f0, f1, f2, f3⟩, ⟨k0, k1, k2, k3⟩, ⟨q0, q1, q2, q3⟩, lg, lt, lW⟩ := HB1.out.facts
      clear hownB
      rw [rounds_succ]
      have hc := hcs 3 (by simp)
      simp at hc
      clear hcs
      have hts := txt_size t
      have HTT := Lib.hid (data_txt t)
      have HTR1 := Lib.hid (fun (w : World) (hh : t.all (hexD.contains ·) = true) => (trim_set ⟨#[48, 49, 50, 51, 52, 53, 54, 55, 56, 57, 97, 98, 99, 100, 101, 102]⟩ (txt t) w (by omega) (by decide) (ascii_of_all (by decide))).1 (by rw [data_txt]; exact hh))
      have HTR2 := Lib.hid (fun (w : World) (hh : t.all (hexD.contains ·) = false) => (trim_set ⟨#[48, 49, 50, 51, 52, 53, 54, 55, 56, 57, 97, 98, 99, 100, 101, 102]⟩ (txt t) w (by omega) (by decide) (ascii_of_all (by decide))).2 (by rw [data_txt]; exact hh))
      generalize txt t = TT at *
      by_cases h16 : t.length = 16
      · have e16 : ((TT.size : Int) != 16) = false := by simp; omega
        have H16 := Lib.hid h16
        clear hts
        cases hhex : t.all (hexD.contains ·)
        · have HT := Lib.hid (fun w => HTR2.out w hhex)
          have HX := Lib.hid hhex
          clear hhex HTR1 HTR2
          go_wp2_with
            (go_at_call 219; refine (HT.out _).mono ?_; rintro e wc ⟨⟨z, rfl, hz⟩, hb⟩
             have HC := Lib.hid (HB1.out.keep' hb)
             clear r0 r1 r2 r3 f0 f1 f2 f3 k0 k1 k2 k3 q0 q1 q2 q3 lg lt lW
             clear hb
             obtain ⟨_, ⟨r0, r1, r2, r3⟩, ⟨f0, f1, f2, f3⟩, _, _, _, _, lW⟩ := HC.out.facts)
          rw [tokR_1 HNx.out HNy.out, if_neg (tagB_no2 HX.out)]
          exact tok_end (four_below HC.out.tr.below (.int .i64 0) (.int .i64 0) (.int .i64 0) (.int .i64 0)) (four_sets HC.out.tr.res (.int .i64 0) (.int .i64 0) (.int .i64 0) (.int .i64 0)) rfl rfl rfl
        · have HT := Lib.hid (fun w => HTR1.out w hhex)
          have HX := Lib.hid hhex
          clear hhex HTR1 HTR2
          have hown := HO1.out
          have HOO := HO1
          go_wp2_with
            (go_at_call 219; refine (HT.out _).mono ?_; rintro e wc ⟨rfl, hb⟩
             have HC := Lib.hid (HB1.out.keep' hb)
             have HO := Lib.hid (owns_keep HOO.out hb)
             clear r0 r1 r2 r3 f0 f1 f2 f3 k0 k1 k2 k3 q0 q1 q2 q3 lg lt lW
             clear hb
             obtain ⟨hcs, ⟨r0, r1, r2, r3⟩, ⟨f0, f1, f2, f3⟩, ⟨k0, k1, k2, k3⟩, ⟨q0, q1, q2, q3⟩, lg, lt, lW⟩ := HC.out.facts
             clear hcs)
          rcases HO.out.2 with ⟨_, e0⟩ | ⟨gn, capn, cur, rfl, hgn, hbn, hn1, hn2, hn3, hn4⟩
          · cases e0
          have c0 := HO.out.cellAt 0 (by omega)
          have c1 := HO.out.cellAt 1 (by omega)
          simp at c0 c1
          have lgn : gn < wc.heap.size := Blk.lt (t := 3) (cs := cur) hbn
          have gnt : tb ≠ gn := by omega
          have gnt' : gn ≠ tb := by omega
          clear hbn hn4
          have HTE := Lib.hid (TE.of_tk HC.out (by omega) lten)
          go_region
          go_wp2_with fail
          have HT4 : Hid (TE W tb #[.int .i64 1, .int .i64 (atoiN x), .int .i64 (atoiN y), .int .i64 0] (((wc.setCell ⟨tb, 1, none⟩ (.int .i64 (atoiN x))).setCell ⟨tb, 2, none⟩ (.int .i64 (atoiN y))).drew)) := Lib.hid (TE.drew ((HTE.out.set 1 (.int .i64 (atoiN x))).set 2 (.int .i64 (atoiN y))))
          generalize (((wc.setCell ⟨tb, 1, none⟩ (.int .i64 (atoiN x))).setCell ⟨tb, 2, none⟩ (.int .i64 (atoiN y))).drew) = w4 at *
          clear r0 r1 r2 r3 f0 f1 f2 f3 k0 k1 k2 k3 q0 q1 q2 q3 lg lt lW HTE HC HO
          clear c0 c1 lgn gnt gnt'
          have hrt := right_1 HNx.out HNy.out
          have HBD := Lib.hid (token_body 1 (atoiN x) (atoiN y) 0 w4 HT4.out.tens hrt)
          unfold v4 at HBD
          have hbs := bodyS_size _ _ _ _ hrt
          clear hrt
          have HBE := Lib.hid (bodyS_1 HNx.out HNy.out)
          have HTG := Lib.hid (fun w => mac_tagS key (bodyS 1 (atoiN x) (atoiN y) 0) w (by omega))
          have hsz := tagS_size key (bodyS 1 (atoiN x) (atoiN y) 0)
          have hts2 : TT.size ≤ 1000000 := by have := congrArg List.length HTT.out; rw [size_data] at this; omega
          have HSM := Lib.hid (fun w => mac_same TT (tagS key (bodyS 1 (atoiN x) (atoiN y) 0)) w hts2 (by omega))
          have HEQ := Lib.hid (tag_eq key HTT.out HBE.out)
          clear hbs hsz hts2
          generalize bodyS 1 (atoiN x) (atoiN y) 0 = BS at *
          generalize tagS key BS = TG at *
          go_at_call 192
          refine HBD.out.mono ?_
          rintro e w5 ⟨rfl, hb5⟩
          have HT5 := Lib.hid (HT4.out.keep hb5)
          clear hb5
          go_wp2_with fail
          go_at_call 107
          refine (HTG.out _).mono ?_
          rintro e w6 ⟨rfl, hb6⟩
          have HT6 := Lib.hid (HT5.out.keep hb6)
          clear hb6
          go_wp2_with fail
          go_at_call 250
          refine (HSM.out _).mono ?_
          rintro e w7 ⟨rfl, hb7⟩
          have HT7 := Lib.hid (HT6.out.keep (same_below hb7))
          clear hb7
          obtain ⟨⟨r0, r1, r2, r3⟩, ⟨f0, f1, f2, f3⟩, ⟨k0, k1, k2, k3⟩, lW, lt⟩ := HT7.out.facts
          cases hq : decide (TT = TG)
          · have HQ := Lib.hid hq
            have hne := HEQ.out
            rw [hq] at hne
            clear hq
            have HNE := Lib.hid hne
            clear hne
            go_wp2_with fail
            rw [tokR_1 HNx.out HNy.out, if_pos (tagB_yes H16.out HX.out), if_neg (by simpa using HNE.out)]
            exact tok_end (four_below HT7.out.below (.int .i64 0) (.int .i64 0) (.int .i64 0) (.int .i64 0)) (four_sets HT7.out.res (.int .i64 0) (.int .i64 0) (.int .i64 0) (.int .i64 0)) rfl rfl rfl
          · have HQ := Lib.hid hq
            have hne := HEQ.out
            rw [hq] at hne
            clear hq
            have HNE := Lib.hid hne
            clear hne
            go_wp2_with fail
            rw [tokR_1 HNx.out HNy.out, if_pos (tagB_yes H16.out HX.out), if_pos (by simpa using HNE.out)]
            exact tok_end (four_below HT7.out.below _ _ _ _) (four_sets HT7.out.res _ _ _ _) rfl rfl rfl
      · have e16 : ((TT.size : Int) != 16) = true := by simp; omega
        clear hts
        have H16 := Lib.hid h16
        clear h16
        go_wp2_with fail
        rw [show tokR (fun B => tagL key B) [[114], x, y, t] = (3, 0, 0, 0, 0) from by rw [tokR_1 HNx.out HNy.out, if_neg (tagB_no1 H16.out)]]
        exact tok_end (four_below HB1.out.tr.below (.int .i64 0) (.int .i64 0) (.int .i64 0) (.int .i64 0)) (four_sets HB1.out.tr.res (.int .i64 0) (.int .i64 0) (.int .i64 0) (.int .i64 0)) rfl rfl rfl
end Go.Proofs.YtepjcdjpikbbjaaGreatDoor
