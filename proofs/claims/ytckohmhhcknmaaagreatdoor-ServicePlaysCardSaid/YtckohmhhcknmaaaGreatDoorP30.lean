/-
  ServicePlays: both services, as they lie in memory.
-/
import Derived.Test.YtckohmhhcknmaaaGreatDoorP28
import Derived.Test.YtckohmhhcknmaaaGreatDoorP29
import Derived.Test.YtckohmhhcknmaaaGreatDoorP01
import Derived.Laws.Tables
namespace Go.Proofs.YtckohmhhcknmaaaGreatDoor
open Go.RowKit Go.Sort

theorem bare_like (n : Int) (w : World) (hg : ErrType w) : Calls Tryz.prog 19 #[errV n, .int .i64 n] w fun e w' => e = .returned (.bool true) ∧ Below w.heap.size w w' :=
  (bare_any n n w hg).mono fun _ _ ⟨h1, h2⟩ => ⟨by rw [h1]; simp, h2⟩
theorem KnOk.none_ (r : Ru) (s : St) : KnOk r s ⟨fun _ => false, fun _ => none, fun _ => none⟩ := ⟨fun _ h => (by cases h), fun _ _ h => (by cases h), fun _ _ h => (by cases h)⟩
/-- the reference's block is none of the service's -/
theorem RV.two {B qb rb a b : Nat} {r : Ru} {z : SS} {v : Value} {w w' : World} {ca cb : Array Value} (h : RV B qb rb r z v w) (k : Two a b w w') (ha : Blk w a 117 ca) (hb : Blk w b 59 cb) (h1 : B ≤ a) (h2 : B ≤ b) : RV B qb rb r z v w' := by
  have hB : Below B w w' := k.below (Below.refl B w) h.big h1 h2
  exact ⟨h.at_.two k (h.at_.ne_ ha (by decide)) (h.at_.ne_ hb (by decide)), Blk.two h.ra k (Blk.ne_ h.ra ha (by decide)) (Blk.ne_ h.ra hb (by decide)), h.rr.two k (h.rr.apart ha (by decide)) (h.rr.apart hb (by decide)), Nat.le_trans h.big k.size, h.env.keep hB, h.tab.below hB h.g15, h.g15, h.rb_⟩
theorem RV.away {B qb rb m : Nat} {r : Ru} {z : SS} {v : Value} {w w' : World} {t : TypeId} {cs : Array Value} (h : RV B qb rb r z v w) (hg : w.grownBy w' (some m)) (hm : Blk w m t cs) (hB : B ≤ m) (e1 : 71 ≠ t) (e2 : 93 ≠ t) (e3 : 79 ≠ t) : RV B qb rb r z v w' := by
  have hb : Below B w w' := (Below.refl B w).grown hg h.big (fun i hi => by cases hi; exact hB)
  exact ⟨h.at_.grown hg (by simpa using h.at_.ne_ hm e1), Blk.grown h.ra hg (by simpa using Blk.ne_ h.ra hm e2), h.rr.kept hg (h.rr.apart hm e3), Nat.le_trans h.big hg.size, h.env.keep hb, h.tab.below hb h.g15, h.g15, h.rb_⟩
structure SP (W : World) (vb sb db rb qb k : Nat) (r : Ru) (z zr : SS) (v vr gv : Value) (T : List ByteArray) (w : World) : Prop where
  sw : SW W.heap.size vb sb db k r z v w
  rv : RV W.heap.size qb rb r zr vr w
  toks : TRow w W.heap.size gv T
  small : ∀ t ∈ T, t.size ≤ 100
  below : Below W.heap.size W w
  err : ErrType W
  eg : 0 < W.heap.size
/-- the other blocks are kept -/
def Stay (w w' : World) : Prop := ∀ g t cs, Blk w g t cs → t ≠ 117 → t ≠ 59 → t ≠ 93 → Blk w' g t cs
theorem Stay.below {w w' : World} (hb : Below w.heap.size w w') : Stay w w' := fun _ _ _ h _ _ _ => h.below' hb
section
variable {W w w' : World} {vb sb db rb qb k : Nat} {r : Ru} {z zr : SS} {v vr gv : Value} {T : List ByteArray}
theorem SP.keep (h : SP W vb sb db rb qb k r z zr v vr gv T w) (hb : Below w.heap.size w w') : SP W vb sb db rb qb k r z zr v vr gv T w' := ⟨h.sw.keep hb, h.rv.keep hb, h.toks.below hb, h.small, below_2 h.below hb, h.err, h.eg⟩
theorem SP.drew (h : SP W vb sb db rb qb k r z zr v vr gv T w) : SP W vb sb db rb qb k r z zr v vr gv T w.drew := h.keep (below_dr (Below.refl _ _))
theorem SP.et (h : SP W vb sb db rb qb k r z zr v vr gv T w) : ErrType w := h.err.below h.below h.eg
theorem SP.rz (h : SP W vb sb db rb qb k r z zr v vr gv T w) (hk : k ≤ 1000000) : RZ r z := ⟨h.sw.sx.fit, by have := h.sw.sx.log_; omega, h.sw.right⟩
theorem SP.two {k' sb' : Nat} {z' : SS} {v' : Value} (h : SP W vb sb db rb qb k r z zr v vr gv T w) (ht : Two sb db w w') (hs : SW W.heap.size vb sb' db k' r z' v' w') : SP W vb sb' db rb qb k' r z' zr v' vr gv T w' ∧ Stay w w' := by
  obtain ⟨⟨ca, ha⟩, cb, hc⟩ := h.sw.sx.blocks
  obtain ⟨p1, p2, p3⟩ := h.sw.sx.places
  exact ⟨⟨hs, h.rv.two ht ha hc p1 p2, h.toks.two ht (h.toks.apart ha (by decide)) (h.toks.apart hc (by decide)), h.small, ht.below h.below h.below.size p1 p2, h.err, h.eg⟩, fun g t cs hb h1 h2 _ => hb.two ht (hb.ne_ ha h1) (hb.ne_ hc h2)⟩
theorem SP.far {zr' : SS} {vr' : Value} (h : SP W vb sb db rb qb k r z zr v vr gv T w) (hg : w.grownBy w' (some rb)) (hr : RV W.heap.size qb rb r zr' vr' w') : SP W vb sb db rb qb k r z zr' v vr' gv T w' ∧ Stay w w' := by
  have f : Far vb sb db v rb := h.sw.far_blk h.rv.ra (by decide) (by decide) (by decide) (by decide)
  exact ⟨⟨h.sw.away hg h.rv.rb_ f, hr, h.toks.kept hg (h.toks.apart h.rv.ra (by decide)), h.small, h.below.grown hg h.below.size (fun i hi => by cases hi; exact h.rv.rb_), h.err, h.eg⟩, fun g t cs hb _ _ h3 => hb.grown hg (by simpa using hb.ne_ h.rv.ra h3)⟩
/-- the reference's call, then the program's -/
def RTold (W : World) (vb sb db rb qb k : Nat) (r : Ru) (z : SS) (v gv : Value) (T : List ByteArray) (R : SS × ByteArray × Int) (w : World) (e : Ending) (w' : World) : Prop :=
  e = .returned (.tuple #[.string R.2.1, .int .i64 R.2.2]) ∧ (∃ vr', SP W vb sb db rb qb k r z R.1 v vr' gv T w') ∧ Stay w w'
theorem SP.rtold {p : Plan ByteArray} {e : Ending} (h : SP W vb sb db rb qb k r z zr v vr gv T w) (hp : RPlanS w W.heap.size qb rb r zr p e w') : RTold W vb sb db rb qb k r z v gv T (doPlan noneS zr p) w e w' := by
  obtain ⟨he, hg, v', hs⟩ := hp
  exact ⟨he, ⟨v', (h.far hg hs).1⟩, (h.far hg hs).2⟩
def STold (W : World) (vb sb db rb qb k : Nat) (r : Ru) (zr : SS) (vr gv : Value) (T : List ByteArray) (R : SS × ByteArray × Int) (w : World) (e : Ending) (w' : World) : Prop :=
  e = .returned (.tuple #[.string R.2.1, errV R.2.2]) ∧ (∃ v', SP W vb sb db rb qb (k + 1) r R.1 zr v' vr gv T w') ∧ Stay w w'
theorem SP.stold {p : Plan ByteArray} {e : Ending} (h : SP W vb sb db rb qb k r z zr v vr gv T w) (hp : PlanS w W.heap.size vb sb db k r z p e w') : STold W vb sb db rb qb k r zr vr gv T (doPlan noneS z p) w e w' := by
  obtain ⟨he, ht, v', hs⟩ := hp
  exact ⟨he, ⟨v', (h.two ht hs).1⟩, (h.two ht hs).2⟩
theorem SP.rgrant (h : SP W vb sb db rb qb k r z zr v vr gv T w) (hz : RZ r zr) {cl su sc : ByteArray} (h1 : cl.size ≤ 1000) (h2 : su.size ≤ 1000) (h3 : sc.size ≤ 1000) :
    Calls Tryz.prog 22 #[.pointer (some ⟨qb, 0, none⟩), .string cl, .string su, .string sc] w (RTold W vb sb db rb qb k r z v gv T (doPlan noneS zr (grantP r zr.s cl su sc)) w) := (rsv_grant h.rv hz cl su sc h1 h2 h3).mono fun _ _ hp => h.rtold hp
theorem SP.sgrant (h : SP W vb sb db rb qb k r z zr v vr gv T w) (hk : k < 1000000) {cl su sc : ByteArray} (h1 : cl.size ≤ 1000) (h2 : su.size ≤ 1000) (h3 : sc.size ≤ 1000) :
    Calls Tryz.prog 9 #[.pointer (some ⟨vb, 0, none⟩), .string cl, .string su, .string sc] w (STold W vb sb db rb qb k r zr vr gv T (doPlan noneS z (grantP r z.s cl su sc)) w) := (svc_grant h.sw hk cl su sc h1 h2 h3).mono fun _ _ hp => h.stold hp
theorem SP.rrotate (h : SP W vb sb db rb qb k r z zr v vr gv T w) (hz : RZ r zr) {t q sc : ByteArray} (h1 : t.size ≤ 1000) (h2 : q.size ≤ 1000) (h3 : sc.size ≤ 1000) :
    Calls Tryz.prog 23 #[.pointer (some ⟨qb, 0, none⟩), .string t, .string q, .string sc] w (RTold W vb sb db rb qb k r z v gv T (doPlan noneS zr (rotateP r zr.s t q sc)) w) := (rsv_rotate h.rv hz t q sc h1 h2 h3).mono fun _ _ hp => h.rtold hp
theorem SP.srotate (h : SP W vb sb db rb qb k r z zr v vr gv T w) (hk : k < 1000000) {t q sc : ByteArray} (h1 : t.size ≤ 1000) (h2 : q.size ≤ 1000) (h3 : sc.size ≤ 1000) :
    Calls Tryz.prog 11 #[.pointer (some ⟨vb, 0, none⟩), .string t, .string q, .string sc] w (STold W vb sb db rb qb k r zr vr gv T (doPlan noneS z (rotateP r z.s t q sc)) w) := (svc_rotate h.sw hk t q sc h1 h2 h3).mono fun _ _ hp => h.stold hp
theorem SP.rmint (h : SP W vb sb db rb qb k r z zr v vr gv T w) (hz : RZ r zr) {t : ByteArray} (h1 : t.size ≤ 1000) :
    Calls Tryz.prog 24 #[.pointer (some ⟨qb, 0, none⟩), .string t] w fun e w' => e = .returned (.tuple #[.string (mintP r zr.s t).1, .int .i64 (mintP r zr.s t).2]) ∧ Below w.heap.size w w' := rsv_mint h.rv hz t h1
theorem SP.smint (h : SP W vb sb db rb qb k r z zr v vr gv T w) {t : ByteArray} (h1 : t.size ≤ 1000) :
    Calls Tryz.prog 25 #[.pointer (some ⟨vb, 0, none⟩), .string t] w fun e w' => e = .returned (.tuple #[.string (mintP r z.s t).1, errV (mintP r z.s t).2]) ∧ Below w.heap.size w w' := svc_mint h.sw t h1
theorem SP.rshow (h : SP W vb sb db rb qb k r z zr v vr gv T w) (hz : RZ r zr) {t : ByteArray} (h1 : t.size ≤ 1000) :
    Calls Tryz.prog 26 #[.pointer (some ⟨qb, 0, none⟩), .string t] w fun e w' => e = .returned (.tuple #[famVal (showP r zr.s t).1, .int .i64 (showP r zr.s t).2]) ∧ Below w.heap.size w w' := rsv_show h.rv hz t h1
theorem SP.sshow (h : SP W vb sb db rb qb k r z zr v vr gv T w) {t : ByteArray} (h1 : t.size ≤ 1000) :
    Calls Tryz.prog 27 #[.pointer (some ⟨vb, 0, none⟩), .string t] w fun e w' => e = .returned (.tuple #[famVal (showP r z.s t).1, errV (showP r z.s t).2]) ∧ Below w.heap.size w w' := svc_show h.sw t h1
def RToldU (W : World) (vb sb db rb qb k : Nat) (r : Ru) (z : SS) (v gv : Value) (T : List ByteArray) (R : SS × Unit × Int) (w : World) (e : Ending) (w' : World) : Prop :=
  e = .returned (.int .i64 R.2.2) ∧ (∃ vr', SP W vb sb db rb qb k r z R.1 v vr' gv T w') ∧ Stay w w'
def SToldU (W : World) (vb sb db rb qb k : Nat) (r : Ru) (zr : SS) (vr gv : Value) (T : List ByteArray) (R : SS × Unit × Int) (w : World) (e : Ending) (w' : World) : Prop :=
  e = .returned (errV R.2.2) ∧ (∃ v', SP W vb sb db rb qb (k + 1) r R.1 zr v' vr gv T w') ∧ Stay w w'
theorem SP.rkill (h : SP W vb sb db rb qb k r z zr v vr gv T w) (hz : RZ r zr) (id : Int) :
    Calls Tryz.prog 28 #[.pointer (some ⟨qb, 0, none⟩), .int .i64 id] w (RToldU W vb sb db rb qb k r z v gv T (doPlan () zr (killP zr.s id)) w) := (rsv_kill h.rv hz id).mono fun _ _ ⟨he, hg, v', hs⟩ => ⟨he, ⟨v', (h.far hg hs).1⟩, (h.far hg hs).2⟩
theorem SP.skill (h : SP W vb sb db rb qb k r z zr v vr gv T w) (hk : k < 1000000) (id : Int) :
    Calls Tryz.prog 29 #[.pointer (some ⟨vb, 0, none⟩), .int .i64 id] w (SToldU W vb sb db rb qb k r zr vr gv T (doPlan () z (killP z.s id)) w) := (svc_kill h.sw hk id).mono fun _ _ ⟨he, ht, v', hs⟩ => ⟨he, ⟨v', (h.two ht hs).1⟩, (h.two ht hs).2⟩
theorem SP.rtick (h : SP W vb sb db rb qb k r z zr v vr gv T w) (hz : RZ r zr) (n : Int) :
    Calls Tryz.prog 30 #[.pointer (some ⟨qb, 0, none⟩), .int .i64 n] w (RToldU W vb sb db rb qb k r z v gv T (doPlan () zr (tickP zr.s n)) w) := (rsv_tick h.rv hz n).mono fun _ _ ⟨he, hg, v', hs⟩ => ⟨he, ⟨v', (h.far hg hs).1⟩, (h.far hg hs).2⟩
theorem SP.stick (h : SP W vb sb db rb qb k r z zr v vr gv T w) (hk : k < 1000000) (n : Int) :
    Calls Tryz.prog 10 #[.pointer (some ⟨vb, 0, none⟩), .int .i64 n] w (SToldU W vb sb db rb qb k r zr vr gv T (doPlan () z (tickP z.s n)) w) := (svc_tick h.sw hk n).mono fun _ _ ⟨he, ht, v', hs⟩ => ⟨he, ⟨v', (h.two ht hs).1⟩, (h.two ht hs).2⟩
def RToldI (W : World) (vb sb db rb qb k : Nat) (r : Ru) (z : SS) (v gv : Value) (T : List ByteArray) (R : SS × Int × Int) (w : World) (e : Ending) (w' : World) : Prop :=
  e = .returned (.tuple #[.int .i64 R.2.1, .int .i64 R.2.2]) ∧ (∃ vr', SP W vb sb db rb qb k r z R.1 v vr' gv T w') ∧ Stay w w'
def SToldI (W : World) (vb sb db rb qb k : Nat) (r : Ru) (zr : SS) (vr gv : Value) (T : List ByteArray) (R : SS × Int × Int) (w : World) (e : Ending) (w' : World) : Prop :=
  e = .returned (.tuple #[.int .i64 R.2.1, errV R.2.2]) ∧ (∃ v', SP W vb sb db rb qb (k + 1) r R.1 zr v' vr gv T w') ∧ Stay w w'
theorem SP.rsweep (h : SP W vb sb db rb qb k r z zr v vr gv T w) (hz : RZ r zr) :
    Calls Tryz.prog 31 #[.pointer (some ⟨qb, 0, none⟩)] w (RToldI W vb sb db rb qb k r z v gv T (doPlan 0 zr (sweepP r zr.s)) w) := (rsv_sweep h.rv hz).mono fun _ _ ⟨he, hg, v', hs⟩ => ⟨he, ⟨v', (h.far hg hs).1⟩, (h.far hg hs).2⟩
theorem SP.ssweep (h : SP W vb sb db rb qb k r z zr v vr gv T w) (hk : k < 1000000) :
    Calls Tryz.prog 32 #[.pointer (some ⟨vb, 0, none⟩)] w (SToldI W vb sb db rb qb k r zr vr gv T (doPlan 0 z (sweepP r z.s)) w) := (svc_sweep h.sw hk).mono fun _ _ ⟨he, ht, v', hs⟩ => ⟨he, ⟨v', (h.two ht hs).1⟩, (h.two ht hs).2⟩
theorem SP.state (h : SP W vb sb db rb qb k r z zr v vr gv T w) : Calls Tryz.prog 14 #[.pointer (some ⟨vb, 0, none⟩)] w (GotAs w z.s.clock z.s.next z.s.fams) := (svc_state h.sw).mono fun _ _ h => got_as h
theorem SP.same {a : Option Addr} {c : Nat} (h : SP W vb sb db rb qb k r z z v (.slice a z.s.fams.length c) gv T w) {B' : Nat} {a1 : Option Addr} {c1 : Nat} (hr : FRow w B' (.slice a1 z.s.fams.length c1) z.s.fams) : Calls Tryz.prog 15 #[.agg #[.int .i64 z.s.clock, .int .i64 z.s.next, .slice a1 z.s.fams.length c1], .agg #[.int .i64 z.s.clock, .int .i64 z.s.next, .slice a z.s.fams.length c]] w (SameGot w True) :=
  plain_same_ True B' W.heap.size (.slice a1 z.s.fams.length c1) (.slice a z.s.fams.length c) z.s z.s w (fun _ => rfl) hr h.rv.rr (by have := h.sw.sx.fit.len; omega)
theorem SP.tail (h : SP W vb sb db rb qb k r z zr v vr gv T w) : SP W vb sb db rb qb k r z zr v vr gv T w ∧ w.cell? ⟨qb, 0, none⟩ = some (.pointer (some ⟨rb, 0, none⟩)) ∧ w.cell? ⟨rb, 0, none⟩ = some (.int .i64 zr.s.clock) ∧ w.cell? ⟨rb, 1, none⟩ = some (.int .i64 zr.s.next) ∧ w.cell? ⟨rb, 2, none⟩ = some vr := ⟨h, h.rv.five.1, h.rv.three.1, h.rv.three.2.1, h.rv.three.2.2.1⟩
/-- a text is given -/
theorem SP.given {gv' : Value} {x : ByteArray} (h : SP W vb sb db rb qb k r z zr v vr gv T w) (hg : w.grownBy w' gv.ownBlock) (ho : w'.ownsRow W.heap.size 9 1 gv' (T.length + 1) (T.map Value.string ++ [.string x])) (hx : x.size ≤ 100) :
    SP W vb sb db rb qb k r z zr v vr gv' (T ++ [x]) w' := by
  have hro : TRow w' W.heap.size gv' (T ++ [x]) := TRow.app ho
  have hsm : ∀ t ∈ T ++ [x], t.size ≤ 100 := fun t ht => by
    rcases List.mem_append.1 ht with ht | ht
    · exact h.small t ht
    · rw [List.mem_singleton] at ht
      rw [ht]
      exact hx
  rcases hv : gv.ownBlock with _ | g
  · rw [hv] at hg
    have hbl : Below w.heap.size w w' := (Below.refl w.heap.size w).grown hg (Nat.le_refl _) (fun i hi => by cases hi)
    exact ⟨h.sw.keep hbl, h.rv.keep hbl, hro, hsm, below_2 h.below hbl, h.err, h.eg⟩
  · rcases h.toks.block with ⟨rfl, _⟩ | ⟨g', cap, cur, rfl, hgB, hgb, _⟩
    · simp [Value.ownBlock] at hv
    · rw [hv] at hg
      have hgg : g' = g := by simpa [Value.ownBlock] using hv
      subst hgg
      exact ⟨h.sw.away hg hgB (h.sw.far_blk hgb (by decide) (by decide) (by decide) (by decide)), h.rv.away hg hgb hgB (by decide) (by decide) (by decide), hro, hsm, h.below.grown hg h.below.size (fun i hi => by cases hi; exact hgB), h.err, h.eg⟩
end
end Go.Proofs.YtckohmhhcknmaaaGreatDoor

/-
  ServicePlays: both services, as they lie in memory: a save, a cut, an opening anew.
-/
namespace Go.Proofs.YtckohmhhcknmaaaGreatDoor
open Go.RowKit Go.Sort

section
variable {W w w' : World} {vb sb db rb qb k : Nat} {r : Ru} {z zr : SS} {v vr gv : Value} {T : List ByteArray}
theorem SP.fit_ (h : SP W vb sb db rb qb k r z zr v vr gv T w) : z.s.fams.length ≤ 1000000 := by have := h.sw.sx.fit.len; omega
theorem SP.ssave (h : SP W vb sb db rb qb k r z zr v vr gv T w) (hk : k < 1000000) :
    Calls Tryz.prog 34 #[.pointer (some ⟨sb, 0, none⟩)] w (SToldU W vb sb db rb qb k r zr vr gv T ((saveS z).1, (), (saveS z).2) w) := (sx_save h.sw.sx hk).mono fun _ _ ⟨he, ht, v', hs⟩ => ⟨he, ⟨v', (h.two ht (h.sw.two ht hs)).1⟩, (h.two ht (h.sw.two ht hs)).2⟩
theorem SP.rsave (h : SP W vb sb db rb qb k r z zr v vr gv T w) (hl : zr.s.fams.length ≤ 1000000) :
    Calls Tryz.prog 33 #[.pointer (some ⟨rb, 0, none⟩)] w (RToldU W vb sb db rb qb k r z v gv T ((saveS zr).1, (), (saveS zr).2) w) := (ref_save rb zr vr W.heap.size w h.rv.ra h.rv.rr hl).mono fun _ _ ⟨he, ha, hg⟩ => by
  have hr := h.rv.turn hg ha (by rw [(saveS_s zr).1]; exact h.rv.rr.kept hg (h.rv.rr.apart h.rv.ra (by decide)))
  exact ⟨he, ⟨vr, (h.far hg hr).1⟩, (h.far hg hr).2⟩
def CutTold (P : World → Prop) (w : World) (e : Ending) (w' : World) : Prop := e = .returned (.tuple #[]) ∧ P w' ∧ Stay w w'
theorem SP.scut (h : SP W vb sb db rb qb k r z zr v vr gv T w) (c : Int) :
    Calls Tryz.prog 35 #[.pointer (some ⟨db, 0, none⟩), .int .i64 c] w (CutTold (SP W vb sb db rb qb k r (cutS z c) zr v vr gv T) w) := (sx_cut h.sw.sx c).mono fun _ _ ⟨he, hs, hg⟩ =>
  ⟨he, (h.two (Two.of_two hg) (h.sw.two (Two.of_two hg) hs)).1, (h.two (Two.of_two hg) (h.sw.two (Two.of_two hg) hs)).2⟩
theorem SP.rcut (h : SP W vb sb db rb qb k r z zr v vr gv T w) (c : Int) :
    Calls Tryz.prog 36 #[.pointer (some ⟨rb, 0, none⟩), .int .i64 c] w (CutTold (SP W vb sb db rb qb k r z (cutS zr c) v vr gv T) w) := (ref_cut rb zr vr c w h.rv.ra).mono fun _ _ ⟨he, ha, hg⟩ => by
  have hr := h.rv.turn hg ha (h.rv.rr.kept hg (h.rv.rr.apart h.rv.ra (by decide)))
  exact ⟨he, (h.far hg hr).1, (h.far hg hr).2⟩
theorem SP.ropen (h : SP W vb sb db rb qb k r z zr v vr gv T w) :
    Calls Tryz.prog 37 #[.pointer (some ⟨rb, 0, none⟩)] w (CutTold (SP W vb sb db rb qb k r z (openS zr) v vr gv T) w) := (ref_open rb zr vr w h.rv.ra).mono fun _ _ ⟨he, ha, hg⟩ => by
  have hr := h.rv.turn hg ha (h.rv.rr.kept hg (h.rv.rr.apart h.rv.ra (by decide)))
  exact ⟨he, (h.far hg hr).1, (h.far hg hr).2⟩
def AnewS (W : World) (vb sb db rb qb k : Nat) (r : Ru) (z zr : SS) (v vr gv : Value) (T : List ByteArray) (w : World) (e : Ending) (w' : World) : Prop :=
  ∃ sb' v', e = .returned (.tuple #[.pointer (some ⟨sb', 0, none⟩), .nilIface]) ∧ SX W.heap.size sb' db k (openS z) v' w' ∧ SP W vb sb db rb qb k r (cutS z (-1)) zr v vr gv T w' ∧ Below w.heap.size w w'
theorem SP.sopen (h : SP W vb sb db rb qb k r (cutS z (-1)) zr v vr gv T w) :
    Calls Tryz.prog 17 #[.pointer (some ⟨db, 0, none⟩)] w (AnewS W vb sb db rb qb k r z zr v vr gv T w) := (sx_open h.sw.sx).mono fun _ _ ⟨sb', v', he, hs, _, _, hb⟩ => ⟨sb', v', he, hs.free rfl z.left, h.keep hb, hb⟩
def AnewV (W : World) (db rb qb k : Nat) (r : Ru) (z zr : SS) (vr gv : Value) (T : List ByteArray) (w : World) (sb' : Nat) (v' : Value) (e : Ending) (w' : World) : Prop :=
  ∃ vb', e = .returned (.tuple #[.pointer (some ⟨vb', 0, none⟩), .nilIface]) ∧ SP W vb' sb' db rb qb k r z zr v' vr gv T w' ∧ Below w.heap.size w w'
theorem SP.snew {z' : SS} {sb' : Nat} {v' : Value} (h : SP W vb sb db rb qb k r z zr v vr gv T w) (hs : SX W.heap.size sb' db k z' v' w) :
    Calls Tryz.prog 18 #[.pointer (some ⟨sb', 0, none⟩), .agg #[.int .i64 r.key, .int .i64 r.idle, .int .i64 r.life, .int .i64 r.access]] w (AnewV W db rb qb k r z' zr vr gv T w sb' v') := (svc_new_yes hs h.sw.right).mono fun _ _ ⟨vb', he, hw, _, hb⟩ =>
  ⟨vb', he, ⟨hw, (h.keep hb).rv, (h.keep hb).toks, h.small, (h.keep hb).below, h.err, h.eg⟩, hb⟩
end
end Go.Proofs.YtckohmhhcknmaaaGreatDoor

/-
  A whole row stored into a block of its own.
-/
namespace Go.Proofs.YtckohmhhcknmaaaGreatDoor
open Go.RowKit

theorem row_stored {P : Program} {w : World} {g : Nat} {T ty : TypeId} {old cells : Array Value} (h : Blk w g T old) (hi : (P.info? ty).map (·.size) = some cells.size) (ho : old.size = cells.size) (h1 : cells.all (·.oneCell') = true) :
    ∃ w', (storeVar ty ⟨g, 0, none⟩ (.agg cells)).run P w = .ok () w' ∧ w' = w.setRow g cells ∧ Blk w' g T cells ∧ w.grownBy w' (some g) :=
  ⟨w.setRow g cells, run_storeVar_row w g T ty old cells h hi ho h1, rfl, setRow_heap w g old cells T (0, 0) h, ⟨rfl, rfl, rfl, by simp [World.setRow], fun k _ hk => setRow_other w g k _ (fun e => hk (by simp [e]))⟩⟩
end Go.Proofs.YtckohmhhcknmaaaGreatDoor
