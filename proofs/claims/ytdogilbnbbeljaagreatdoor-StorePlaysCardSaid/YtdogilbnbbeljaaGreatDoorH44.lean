/-
  StorePlays: what lies in memory while it goes.
-/
import Derived.Test.YtdogilbnbbeljaaGreatDoorH38
import Derived.Test.YtdogilbnbbeljaaGreatDoorH41
import Derived.Test.YtdogilbnbbeljaaGreatDoorH42
import Derived.Test.YtdogilbnbbeljaaGreatDoorH43
import Derived.Test.YtdogilbnbbeljaaGreatDoorH16
import Derived.Deep.RegionHeld3
import Derived.Test.YtdogilbnbbeljaaGreatDoorH03
namespace Go.Proofs.YtdogilbnbbeljaaGreatDoor
open Go.RowKit Go.Sort

theorem store_open_nil (w : World) : Calls Tryz.prog 6 #[.pointer none] w fun e w' => e = .returned (.tuple #[.pointer none, .iface 47 (.int .i64 7)]) ∧ w = w' := by
  go_enter Tryz.func6, Tryz.ntmps6
  go_wp2_with fail
  go_ret2
  exact ⟨rfl, rfl⟩
theorem bare_same (n : Int) (w : World) (hg : ErrType w) : Calls Tryz.prog 17 #[errV n, .int .i64 n] w fun e w' => e = .returned (.bool true) ∧ Below w.heap.size w w' :=
  (bare_any n n w hg).mono fun _ _ ⟨h1, h2⟩ => ⟨by rw [h1]; simp, h2⟩
/-- rotorref's Add, whatever the event -/
theorem ref_add (B rb : Nat) (z : SS) (v : Value) (ev : Ev) (W : World) (h : RAt W rb z v) (hr : FRow W B v z.s.fams) (hB : B ≤ W.heap.size) (hfit : Fit z.s) (hs : ev.fam.short 1000) (hlg : 0 ≤ z.log ∧ z.log ≤ 1000000) :
    Calls Tryz.prog 19 #[.pointer (some ⟨rb, 0, none⟩), evVal ev] W (RefAdd W B rb (addS z ev)) := by
  rcases hd : z.down with _ | _
  · rcases he : evB ev with _ | _
    · exact ref_add_bad B rb z v ev W h hr hB hd hs he
    · exact ref_add_yes B rb z v ev W h hr hB hfit.ok hd hs he (by have := hfit.len; omega) hlg
  · exact ref_add_down B rb z v ev W h hr hB hd
/-- what was done, one of a list -/
structure DoP where
  what : Int
  k : Int
  ev : Ev
def dpCs (d : DoP) : Array Value := #[.int .i64 d.what, .int .i64 d.k, .int .i64 d.ev.kind, .int .i64 d.ev.fam.id, .string d.ev.fam.client, .string d.ev.fam.subject, .string d.ev.fam.scope, .int .i64 d.ev.fam.gen, .int .i64 d.ev.fam.made, .int .i64 d.ev.fam.used, .string d.ev.fam.request, .bool d.ev.fam.dead, .int .i64 d.ev.id, .int .i64 d.ev.time]
def DpsAt (w : World) (g off : Nat) (E : List DoP) : Prop := ∀ i d, E[i]? = some d → ∀ j, j < 14 → w.cell? ⟨g, off + i * 14 + j, none⟩ = (dpCs d)[j]?
theorem upS_cut {B sb db k : Nat} {z : SS} {v : Value} {w : World} (h : SX B sb db k (upS (cutS z (-1))) v w) : SX B sb db k (openS z) v w := h.free rfl z.left
theorem SX.far {B sb db k rb : Nat} {z : SS} {v : Value} {w w' : World} {cs : Array Value} (h : SX B sb db k z v w) (hg : w.grownBy w' (some rb)) (hb : Blk w rb 65 cs) (hB : B ≤ rb) : SX B sb db k z v w' := by
  obtain ⟨D, n, f, x, h1, h2, h3⟩ := h
  have hbl : Below B w w' := (Below.refl _ _).grown hg h1.big (fun i hi => by cases hi; exact hB)
  have env := h1.env.keep hbl
  have dk := h1.disk.grown hg (by simpa using Blk.ne_ h1.disk.at_ hb (by decide))
  exact ⟨D, n, f, x, ⟨env, Blk.grown h1.st hg (by simpa using Blk.ne_ h1.st hb (by decide)), dk, h1.row.kept hg (h1.row.apart hb (by decide)), h1.bs, h1.bd⟩, ⟨env, dk, h1.bd, Nat.le_trans h1.big hbl.size, h2.fits, h2.fit, h2.inv⟩, h3⟩
/-- the reference's store under another's doing -/
theorem RAt.two {a b rb : Nat} {z : SS} {v : Value} {w w' : World} {ca cb : Array Value} (h : RAt w rb z v) (k : Two a b w w') (ha : Blk w a 69 ca) (hb : Blk w b 28 cb) : RAt w' rb z v := Blk.two h k (Blk.ne_ h ha (by decide)) (Blk.ne_ h hb (by decide))
/-- the two stores, and all that came in -/
structure PL (W : World) (g off : Nat) (E : List DoP) (db rb k sb : Nat) (z : SS) (v vr : Value) (w : World) : Prop where
  sx : SX W.heap.size sb db k z v w
  ra : RAt w rb z vr
  rr : FRow w W.heap.size vr z.s.fams
  rb_ : W.heap.size ≤ rb
  below : Below W.heap.size W w
  err : ErrType W
  eg : 0 < W.heap.size
  dos : E ≠ [] → DpsAt W g off E ∧ g < W.heap.size
section
variable {W w w' : World} {g off : Nat} {E : List DoP} {db rb k sb : Nat} {z : SS} {v vr : Value}
theorem PL.keep (h : PL W g off E db rb k sb z v vr w) (hb : Below w.heap.size w w') : PL W g off E db rb k sb z v vr w' := ⟨h.sx.keep hb, h.ra.below' hb, h.rr.below hb, h.rb_, below_2 h.below hb, h.err, h.eg, h.dos⟩
theorem PL.drew (h : PL W g off E db rb k sb z v vr w) : PL W g off E db rb k sb z v vr w.drew := ⟨h.sx.drew, h.ra, h.rr, h.rb_, below_dr h.below, h.err, h.eg, h.dos⟩
theorem PL.later (h : PL W g off E db rb k sb z v vr w) : PL W g off E db rb (k + 1) sb z v vr w := ⟨h.sx.later, h.ra, h.rr, h.rb_, h.below, h.err, h.eg, h.dos⟩
theorem PL.et (h : PL W g off E db rb k sb z v vr w) : ErrType w := h.err.below h.below h.eg
/-- the store has turned -/
theorem PL.turn {sb' k' : Nat} {z' : SS} {v' : Value} (h : PL W g off E db rb k sb z v vr w) (ht : Two sb db w w') (hs : SX W.heap.size sb' db k' z' v' w') : RAt w' rb z vr ∧ FRow w' W.heap.size vr z.s.fams ∧ Below W.heap.size W w' ∧ SX W.heap.size sb' db k' z' v' w' := by
  obtain ⟨⟨ca, ha⟩, cb, hb⟩ := h.sx.blocks
  obtain ⟨p1, p2, p3⟩ := h.sx.places
  exact ⟨h.ra.two ht ha hb, h.rr.two ht (h.rr.apart ha (by decide)) (h.rr.apart hb (by decide)), ht.below h.below h.below.size p1 p2, hs⟩
theorem PL.cell (h : PL W g off E db rb k sb z v vr w) {i : Nat} {d : DoP} (hd : E[i]? = some d) (q : Nat) (hq : q < 14) : w.cell? ⟨g, off + i * 14 + q, none⟩ = (dpCs d)[q]? := by
  have hne : E ≠ [] := by rintro rfl; simp at hd
  obtain ⟨h1, h2⟩ := h.dos hne
  rw [h.below.cell (p := ⟨g, off + i * 14 + q, none⟩) h2]
  exact h1 i d hd q hq
theorem PL.fourteen (h : PL W g off E db rb k sb z v vr w) {n : Nat} {wh q kd i : Int} {cl su sc : ByteArray} {ge ma us : Int} {re : ByteArray} {de : Bool} {id ti : Int} (he : E[n]? = some ⟨wh, q, ⟨kd, ⟨i, cl, su, sc, ge, ma, us, re, de⟩, id, ti⟩⟩) :
    w.cell? ⟨g, off + n * 14, none⟩ = some (.int .i64 wh) ∧ w.cell? ⟨g, off + n * 14 + 1, none⟩ = some (.int .i64 q) ∧ w.cell? ⟨g, off + n * 14 + 2, none⟩ = some (.int .i64 kd) ∧ w.cell? ⟨g, off + n * 14 + 3, none⟩ = some (.int .i64 i) ∧ w.cell? ⟨g, off + n * 14 + 4, none⟩ = some (.string cl) ∧ w.cell? ⟨g, off + n * 14 + 5, none⟩ = some (.string su) ∧ w.cell? ⟨g, off + n * 14 + 6, none⟩ = some (.string sc) ∧
    w.cell? ⟨g, off + n * 14 + 7, none⟩ = some (.int .i64 ge) ∧ w.cell? ⟨g, off + n * 14 + 8, none⟩ = some (.int .i64 ma) ∧ w.cell? ⟨g, off + n * 14 + 9, none⟩ = some (.int .i64 us) ∧ w.cell? ⟨g, off + n * 14 + 10, none⟩ = some (.string re) ∧ w.cell? ⟨g, off + n * 14 + 11, none⟩ = some (.bool de) ∧ w.cell? ⟨g, off + n * 14 + 12, none⟩ = some (.int .i64 id) ∧ w.cell? ⟨g, off + n * 14 + 13, none⟩ = some (.int .i64 ti) :=
  ⟨h.cell he 0 (by decide), h.cell he 1 (by decide), h.cell he 2 (by decide), h.cell he 3 (by decide), h.cell he 4 (by decide), h.cell he 5 (by decide), h.cell he 6 (by decide), h.cell he 7 (by decide), h.cell he 8 (by decide), h.cell he 9 (by decide), h.cell he 10 (by decide), h.cell he 11 (by decide), h.cell he 12 (by decide), h.cell he 13 (by decide)⟩
theorem PL.state (h : PL W g off E db rb k sb z v vr w) : Calls Tryz.prog 14 #[.pointer (some ⟨sb, 0, none⟩)] w (GotAs w z.s.clock z.s.next z.s.fams) := (sx_state h.sx).mono fun _ _ h => got_as h
theorem PL.logged (h : PL W g off E db rb k sb z v vr w) : Calls Tryz.prog 24 #[.pointer (some ⟨sb, 0, none⟩)] w fun e w' => e = .returned (.int .i64 z.log) ∧ Below w.heap.size w w' := sx_log h.sx
theorem PL.downed (h : PL W g off E db rb k sb z v vr w) : Calls Tryz.prog 25 #[.pointer (some ⟨sb, 0, none⟩)] w fun e w' => e = .returned (.bool z.down) ∧ Below w.heap.size w w' := sx_down h.sx
theorem PL.written (h : PL W g off E db rb k sb z v vr w) : Calls Tryz.prog 26 #[.pointer (some ⟨db, 0, none⟩)] w fun e w' => e = .returned (.int .i64 z.writes) ∧ w = w' := sx_writes h.sx
theorem PL.same {a : Option Addr} {c : Nat} (h : PL W g off E db rb k sb z v (.slice a z.s.fams.length c) w) {B' : Nat} {a1 : Option Addr} {c1 : Nat} (hr : FRow w B' (.slice a1 z.s.fams.length c1) z.s.fams) : Calls Tryz.prog 15 #[.agg #[.int .i64 z.s.clock, .int .i64 z.s.next, .slice a1 z.s.fams.length c1], .agg #[.int .i64 z.s.clock, .int .i64 z.s.next, .slice a z.s.fams.length c]] w (SameGot w True) :=
  plain_same_ True B' W.heap.size (.slice a1 z.s.fams.length c1) (.slice a z.s.fams.length c) z.s z.s w (fun _ => rfl) hr h.rr (by have := h.sx.fit.len; omega)
theorem PL.tail (h : PL W g off E db rb k sb z v vr w) : PL W g off E db rb k sb z v vr w ∧ w.cell? ⟨rb, 0, none⟩ = some (.int .i64 z.s.clock) ∧ w.cell? ⟨rb, 1, none⟩ = some (.int .i64 z.s.next) ∧ w.cell? ⟨rb, 2, none⟩ = some vr ∧ w.cell? ⟨rb, 3, none⟩ = some (.int .i64 z.log) ∧ w.cell? ⟨rb, 4, none⟩ = some (.int .i64 z.writes) ∧ w.cell? ⟨rb, 7, none⟩ = some (.bool z.down) :=
  ⟨h, Blk.cell h.ra 0, Blk.cell h.ra 1, Blk.cell h.ra 2, Blk.cell h.ra 3, Blk.cell h.ra 4, Blk.cell h.ra 7⟩
/-- both have turned -/
theorem PL.join {w0 : World} {z0 z' : SS} {v0 v' vr' : Value} {k0 sb0 k' sb' : Nat} (h : PL W g off E db rb k0 sb0 z0 v0 vr w0) (ha : RAt w rb z vr) (hb : Below W.heap.size W w) (hs : SX W.heap.size sb' db k' z' v' w) (ha' : RAt w' rb z' vr') (hr' : FRow w' W.heap.size vr' z'.s.fams) (hg : w.grownBy w' (some rb)) : PL W g off E db rb k' sb' z' v' vr' w' :=
  ⟨hs.far hg ha h.rb_, ha', hr', h.rb_, hb.grown hg hb.size (fun i hi => by cases hi; exact h.rb_), h.err, h.eg, h.dos⟩
end
/-- and one that was opened beside it -/
structure PT (W : World) (g off : Nat) (E : List DoP) (db rb k sb sb2 : Nat) (z : SS) (v v2 vr : Value) (w : World) : Prop where
  pl : PL W g off E db rb k sb z v vr w
  st : SX W.heap.size sb2 db k (upS z) v2 w
section
variable {W w w' : World} {g off : Nat} {E : List DoP} {db rb k sb sb2 : Nat} {z : SS} {v v2 vr : Value}
theorem PT.keep (h : PT W g off E db rb k sb sb2 z v v2 vr w) (hb : Below w.heap.size w w') : PT W g off E db rb k sb sb2 z v v2 vr w' := ⟨h.pl.keep hb, h.st.keep hb⟩
theorem PT.drew (h : PT W g off E db rb k sb sb2 z v v2 vr w) : PT W g off E db rb k sb sb2 z v v2 vr w.drew := ⟨h.pl.drew, h.st.drew⟩
theorem PT.tail (h : PT W g off E db rb k sb sb2 z v v2 vr w) : PT W g off E db rb k sb sb2 z v v2 vr w ∧ w.cell? ⟨rb, 0, none⟩ = some (.int .i64 z.s.clock) ∧ w.cell? ⟨rb, 1, none⟩ = some (.int .i64 z.s.next) ∧ w.cell? ⟨rb, 2, none⟩ = some vr ∧ w.cell? ⟨rb, 3, none⟩ = some (.int .i64 z.log) :=
  ⟨h, Blk.cell h.pl.ra 0, Blk.cell h.pl.ra 1, Blk.cell h.pl.ra 2, Blk.cell h.pl.ra 3⟩
theorem PT.state (h : PT W g off E db rb k sb sb2 z v v2 vr w) : Calls Tryz.prog 14 #[.pointer (some ⟨sb2, 0, none⟩)] w (GotAs w z.s.clock z.s.next z.s.fams) := (sx_state (z := upS z) h.st).mono fun _ _ h => got_as h
theorem PT.logged (h : PT W g off E db rb k sb sb2 z v v2 vr w) : Calls Tryz.prog 24 #[.pointer (some ⟨sb2, 0, none⟩)] w fun e w' => e = .returned (.int .i64 z.log) ∧ Below w.heap.size w w' := sx_log (z := upS z) h.st
theorem PT.downed (h : PT W g off E db rb k sb sb2 z v v2 vr w) : Calls Tryz.prog 25 #[.pointer (some ⟨sb2, 0, none⟩)] w fun e w' => e = .returned (.bool false) ∧ Below w.heap.size w w' := sx_down (z := upS z) h.st
end
/-- the cells of what is done -/
def XB (b : Nat) (d : DoP) (w : World) : Prop := Blk w b 58 (dpCs d)
section
variable {b : Nat} {w w' : World} {wh q kd i : Int} {cl su sc : ByteArray} {ge ma us : Int} {re : ByteArray} {de : Bool} {id ti : Int}
theorem XB.all (h : XB b ⟨wh, q, ⟨kd, ⟨i, cl, su, sc, ge, ma, us, re, de⟩, id, ti⟩⟩ w) : XB b ⟨wh, q, ⟨kd, ⟨i, cl, su, sc, ge, ma, us, re, de⟩, id, ti⟩⟩ w ∧
    w.cell? ⟨b, 0, none⟩ = some (.int .i64 wh) ∧ w.cell? ⟨b, 1, none⟩ = some (.int .i64 q) ∧ w.cell? ⟨b, 2, none⟩ = some (.int .i64 kd) ∧ w.cell? ⟨b, 3, none⟩ = some (.int .i64 i) ∧ w.cell? ⟨b, 4, none⟩ = some (.string cl) ∧ w.cell? ⟨b, 5, none⟩ = some (.string su) ∧ w.cell? ⟨b, 6, none⟩ = some (.string sc) ∧
    w.cell? ⟨b, 7, none⟩ = some (.int .i64 ge) ∧ w.cell? ⟨b, 8, none⟩ = some (.int .i64 ma) ∧ w.cell? ⟨b, 9, none⟩ = some (.int .i64 us) ∧ w.cell? ⟨b, 10, none⟩ = some (.string re) ∧ w.cell? ⟨b, 11, none⟩ = some (.bool de) ∧ w.cell? ⟨b, 12, none⟩ = some (.int .i64 id) ∧ w.cell? ⟨b, 13, none⟩ = some (.int .i64 ti) :=
  ⟨h, Blk.cell h 0, Blk.cell h 1, Blk.cell h 2, Blk.cell h 3, Blk.cell h 4, Blk.cell h 5, Blk.cell h 6, Blk.cell h 7, Blk.cell h 8, Blk.cell h 9, Blk.cell h 10, Blk.cell h 11, Blk.cell h 12, Blk.cell h 13⟩
end
theorem XB.keep {b : Nat} {d : DoP} {w w' : World} (h : XB b d w) (hb : Below w.heap.size w w') : XB b d w' := Blk.below' h hb
theorem XB.two {b x y : Nat} {d : DoP} {w w' : World} {cx cy : Array Value} (h : XB b d w) (k : Two x y w w') (hx : Blk w x 69 cx) (hy : Blk w y 28 cy) : XB b d w' := Blk.two h k (Blk.ne_ h hx (by decide)) (Blk.ne_ h hy (by decide))
theorem XB.far {b rb : Nat} {d : DoP} {w w' : World} {z : SS} {v : Value} (h : XB b d w) (hg : w.grownBy w' (some rb)) (hr : RAt w rb z v) : XB b d w' := Blk.grown h hg (by simpa using Blk.ne_ h hr (by decide))
theorem XB.disk {b db : Nat} {d : DoP} {w w' : World} {cs : Array Value} (h : XB b d w) (hg : w.grownBy w' (some db)) (hr : Blk w db 28 cs) : XB b d w' := Blk.grown h hg (by simpa using Blk.ne_ h hr (by decide))
def PlRel (W : World) (g off : Nat) (E : List DoP) (db rb : Nat) (sv i : Value) (w : World) : Prop := ∃ (k sb : Nat) (z : SS) (v vr : Value), k ≤ E.length ∧ i = .int .i64 k ∧ sv = .pointer (some ⟨sb, 0, none⟩) ∧ PL W g off E db rb k sb z v vr w
end Go.Proofs.YtdogilbnbbeljaaGreatDoor

/-
  What is done at a store, in a slice that came in (rotorlaw's).
-/
namespace Go.Proofs.YtdogilbnbbeljaaGreatDoor
open Go.ChangeShapes Go.WideShapes Go.ChangeAt Go.RowKit Go.Deep

theorem weights_in {H : Type} {P : Program} {e : TypeId} {n : Nat} {d : DataW H} : ∀ {l : List (DataW H)}, d ∈ l → n ∈ d.weights P e → n ∈ DataW.weightsAll P e l
  | [], h, _ => by cases h
  | x :: r, h, hn => by
    unfold DataW.weightsAll
    rw [List.mem_append]
    rcases List.mem_cons.1 h with rfl | h
    · exact .inl hn
    · exact .inr (weights_in h hn)
def dpD {H : Type} (d : DoP) : DataW H := .agg [.lit (.int .i64 d.what), .lit (.int .i64 d.k), evD d.ev]
theorem cells_dp : Tryz.prog.cellsOf 58 = 14 := by kernel_rfl
theorem list14 {α : Type} {l : List α} (h : l.length = 14) : ∃ x y a b c d e f g i j k m n, l = [x, y, a, b, c, d, e, f, g, i, j, k, m, n] := by
  match l, h with
  | [x, y, a, b, c, d, e, f, g, i, j, k, m, n], _ => exact ⟨x, y, a, b, c, d, e, f, g, i, j, k, m, n, rfl⟩
theorem list3 {α : Type} {l : List α} (h : l.length = 3) : ∃ a b c, l = [a, b, c] := by
  match l, h with
  | [a, b, c], _ => exact ⟨a, b, c, rfl⟩
section
variable {H : Type} {enc : TypeId × Value → H} {W : World} {base : Nat} {spare : Nat → Bool} {held : Bool}
set_option maxRecDepth 100000 in
theorem dp_trod {fuel : Nat} {cx cy c0 c1 c2 c3 c4 c5 c6 c7 c8 c9 c10 c11 : Value} {y : DataW H × List MemPlace} (h : DataW.trod enc Tryz.prog W base spare held fuel 58 [cx, cy, c0, c1, c2, c3, c4, c5, c6, c7, c8, c9, c10, c11] = some y) :
    ∃ d : DoP, [cx, cy, c0, c1, c2, c3, c4, c5, c6, c7, c8, c9, c10, c11] = (dpCs d).toList ∧ y = (dpD d, []) := by
  obtain ⟨xs, n, _, hx, _, hlen, hf⟩ := DataW.trod_struct Tryz.underlying58 h
  obtain ⟨y0, y1, y2, rfl⟩ := list3 hlen
  have k0 := hf 0 _ rfl
  have k1 := hf 1 _ rfl
  have k2 := hf 2 _ rfl
  simp only [List.getElem_toArray, List.getElem_cons_zero, List.getElem_cons_succ] at k0 k1 k2
  rw [cells_int] at k0 k1
  rw [cells_ev] at k2
  obtain ⟨a0, e0, rfl, _⟩ := DataW.trod_int Tryz.underlying3 k0
  obtain ⟨a1, e2, rfl, _⟩ := DataW.trod_int Tryz.underlying3 k1
  obtain ⟨e, e1, rfl⟩ := ev_trod k2
  simp only [List.drop, List.take, List.cons.injEq, and_true] at e0 e2
  simp only [evCs, List.cons.injEq, and_true] at e1
  obtain ⟨g1, g2, g3, g4, g5, g6, g7, g8, g9, g10, g11, g12⟩ := e1
  refine ⟨⟨a0, a1, e⟩, ?_, by rw [hx]; rfl⟩
  subst e0 e2 g1 g2 g3 g4 g5 g6 g7 g8 g9 g10 g11 g12
  rfl
end
theorem dp_len {H : Type} {d : DoP} (hw : ∀ n ∈ (dpD d : DataW H).weights Tryz.prog 58, n ≤ reachBytes) : d.ev.fam.len ≤ 1000000000000000 := by
  have e1 : (dpD d : DataW H).weights Tryz.prog 58 = [d.ev.fam.client.data.toList.length, d.ev.fam.subject.data.toList.length, d.ev.fam.scope.data.toList.length, d.ev.fam.request.data.toList.length] := by
    unfold dpD evD famT
    simp only [DataW.weights, Tryz.underlying58, Tryz.underlying42, Tryz.underlying40, DataW.weightsEach, List.map_cons, List.map_nil, List.append_nil, List.nil_append, List.cons_append]
  rw [e1] at hw
  simp only [size_data] at hw
  have b1 := hw d.ev.fam.client.size (by simp)
  have b2 := hw d.ev.fam.subject.size (by simp)
  have b3 := hw d.ev.fam.scope.size (by simp)
  have b4 := hw d.ev.fam.request.size (by simp)
  have := reachBytes_lt
  unfold Fam.len
  omega
def DoP.zero : DoP := ⟨0, 0, Ev.zero⟩
section
variable {H : Type} {enc : TypeId × Value → H} {W : World}
/-- nil or empty, or what is done in a row of cells -/
theorem dps_open {a0 : Option Addr} {len cap : Nat} {d : DataW H} {p : List MemPlace} (h : DataW.Trod enc Tryz.prog W 0 (fun _ => true) true 53 (.slice a0 len cap) d p) (hd : ∀ n ∈ d.weights Tryz.prog 53, n ≤ reachBytes) :
    len ≤ 9223372036854775807 ∧ ∃ (g off : Nat) (E : List DoP), E.length = len ∧ (E ≠ [] → a0 = some ⟨g, off, none⟩) ∧ (E ≠ [] → DpsAt W g off E ∧ g < W.heap.size) ∧ ∀ e ∈ E, e.ev.fam.len ≤ 1000000000000000 := by
  by_cases h0 : len = 0
  · subst h0
    exact ⟨by omega, 0, 0, [], rfl, fun h => absurd rfl h, fun h => absurd rfl h, fun e he => by simp at he⟩
  obtain ⟨fuel, hf⟩ := h
  rcases open_slice Tryz.underlying53 hf with ⟨hcs, _⟩ | ⟨a, len', cap', m, n, D, Pl, hcs, _, hl, hmx, hmm, hx, hi⟩
  · simp only [Value.cells, List.cons.injEq, Value.slice.injEq, and_true] at hcs
    exact absurd hcs.2.1 h0
  · simp only [Value.cells, List.cons.injEq, Value.slice.injEq, and_true] at hcs
    obtain ⟨rfl, rfl, rfl⟩ := hcs
    simp only [Prod.mk.injEq] at hx
    unfold maxLen at hmx
    have key : ∀ i, i < len → ∃ e : DoP, D i = dpD e ∧ ∀ j, j < 14 → W.cell? (a.add (i * 14 + j)) = (dpCs e)[j]? := by
      intro i hil
      obtain ⟨cs', hc, ht⟩ := hi i (by rw [hmm]; simp; omega)
      rw [cells_dp] at hc
      obtain ⟨_, hcl, hat⟩ := World.cells?_some hc
      obtain ⟨cx, cy, c0, c1, c2, c3, c4, c5, c6, c7, c8, c9, c10, c11, rfl⟩ := list14 hcl
      obtain ⟨e, he, hy⟩ := dp_trod ht
      simp only [Prod.mk.injEq] at hy
      refine ⟨e, hy.1, fun j hj => ?_⟩
      have h1 := hat j hj
      rw [Go.Deep.add_add] at h1
      rw [h1, he, Array.getElem?_toList]
    obtain ⟨ev, hev⟩ : ∃ ev : Nat → DoP, ∀ i, i < len → D i = dpD (ev i) ∧ ∀ j, j < 14 → W.cell? (a.add (i * 14 + j)) = (dpCs (ev i))[j]? := by
      refine ⟨fun i => if hil : i < len then Classical.choose (key i hil) else DoP.zero, fun i hil => ?_⟩
      dsimp only
      rw [dif_pos hil]
      exact Classical.choose_spec (key i hil)
    have hc0 := (hev 0 (by omega)).2 0 (by decide)
    have hsome : W.cell? (a.add 0) = some (.int .i64 (ev 0).what) := hc0
    have hsp := (cell_add hsome).2.2 rfl
    have hlt := (cell_add hsome).2.1
    refine ⟨by omega, a.block, a.off, (List.range len).map ev, by simp, fun _ => by cases a; simp_all, fun _ => ⟨?_, hlt⟩, ?_⟩
    · intro i e hie j hj
      have hil : i < len := by
        have := (List.getElem?_eq_some_iff.1 hie).1
        simpa using this
      rw [List.getElem?_map, List.getElem?_range hil] at hie
      obtain rfl := Option.some.inj hie
      have h1 := (hev i hil).2 j hj
      rw [← h1]
      unfold Addr.add
      split
      · rename_i hz
        have h2 : a.off + i * 14 + j = a.off := by omega
        rw [h2]
        congr 1
        cases a
        simp_all
      · rw [Nat.add_assoc]
    · intro e he
      obtain ⟨i, hi', rfl⟩ := List.mem_map.1 he
      have hil : i < len := List.mem_range.1 hi'
      refine dp_len (H := H) fun n hn => hd n ?_
      rw [hx.1]
      simp only [DataW.weights, Tryz.underlying53]
      refine List.mem_cons_of_mem _ (List.mem_append_left _ (weights_in (d := dpD (ev i)) ?_ hn))
      rw [List.mem_map]
      exact ⟨i, hi', (hev i hil).1⟩
end
end Go.Proofs.YtdogilbnbbeljaaGreatDoor
