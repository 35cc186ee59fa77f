/-
  A store over its disk, counted as the document counts: what Add, Save, Cut and Open come to.
-/
import Derived.Test.YtdogilbnbbeljaaGreatDoorH37
import Derived.Test.YtdogilbnbbeljaaGreatDoorH17
import Derived.BigQuiet
import Derived.Deep.QuietTactic
import Derived.Test.YtdogilbnbbeljaaGreatDoorH04
namespace Go.Proofs.YtdogilbnbbeljaaGreatDoor
open Go.RowKit Go.Sort

/-- a store, its disk, and what the document tells of it -/
def SX (B sb db : Nat) (k : Nat) (z : SS) (v : Value) (w : World) : Prop :=
  ∃ (D : Dk) (n f x : Int), SD B sb db D z.s v n f x z.down w ∧ DI B db D n f x z.s w ∧ DR z D ∧ z.log = x - f ∧ n ≤ k ∧ x ≤ k
section
variable {B sb db k : Nat} {z : SS} {v : Value} {w w' : World}
theorem SX.keep (h : SX B sb db k z v w) (hb : Below w.heap.size w w') : SX B sb db k z v w' := by
  obtain ⟨D, n, f, x, h1, h2, h3⟩ := h
  exact ⟨D, n, f, x, h1.keep hb, h2.keep hb, h3⟩
theorem SX.drew (h : SX B sb db k z v w) : SX B sb db k z v w.drew := by
  obtain ⟨D, n, f, x, h1, h2, h3⟩ := h
  exact ⟨D, n, f, x, h1.drew, h2.drew, h3⟩
theorem SX.later (h : SX B sb db k z v w) : SX B sb db (k + 1) z v w := by
  obtain ⟨D, n, f, x, h1, h2, h3, h4, h5, h6⟩ := h
  exact ⟨D, n, f, x, h1, h2, h3, h4, by omega, by omega⟩
theorem SX.fit (h : SX B sb db k z v w) : Fit z.s := by
  obtain ⟨D, n, f, x, h1, h2, h3⟩ := h
  exact h2.fit
theorem SX.row (h : SX B sb db k z v w) : FRow w B v z.s.fams := by
  obtain ⟨D, n, f, x, h1, h2, h3⟩ := h
  exact h1.row
theorem SX.env (h : SX B sb db k z v w) : Env B w := by
  obtain ⟨D, n, f, x, h1, h2, h3⟩ := h
  exact h1.env
theorem SX.places (h : SX B sb db k z v w) : B ≤ sb ∧ B ≤ db ∧ B ≤ w.heap.size := by
  obtain ⟨D, n, f, x, h1, h2, h3⟩ := h
  exact ⟨h1.bs, h1.bd, h1.big⟩
theorem SX.blocks (h : SX B sb db k z v w) : (∃ cs, Blk w sb 69 cs) ∧ ∃ cs, Blk w db 28 cs := by
  obtain ⟨D, n, f, x, h1, h2, h3⟩ := h
  exact ⟨⟨_, h1.st⟩, ⟨_, h1.disk.at_⟩⟩
theorem SX.log_ (h : SX B sb db k z v w) : 0 ≤ z.log ∧ z.log ≤ k := by
  obtain ⟨D, n, f, x, h1, h2, h3, h4, h5, h6⟩ := h
  have := h2.nums
  omega
/-- the power is on: how much is left is no matter -/
theorem SX.free (h : SX B sb db k z v w) (ho : z.off = false) (l : Int) : SX B sb db k ⟨z.s, z.log, z.writes, z.off, l, z.down⟩ v w := by
  obtain ⟨D, n, f, x, h1, h2, h3, h4⟩ := h
  exact ⟨D, n, f, x, h1, h2, ⟨h3.writes, h3.off, fun hc => by rw [← h3.off, ho] at hc; cases hc⟩, h4⟩
end
/-- behind one more write -/
theorem put_any {D : Dk} {n f x : Int} {s : St} (hlen : D.blk.length = 90) (hfits : D.fits) (hfit : Fit s) (hinv : ∃ s0 es, SInv tagL (blkOf D) n f x s0 es ∧ es.foldl applyS s0 = s) {e : Ev} (he : evB e = true) (hl : (applyS s e).fams.length ≤ 20) (hx : x - f ≠ 16) (hx1 : x < 1000000) :
    (D.put (x % 16).toNat (txt (evRec tagL x e))).fits ∧ Fit (applyS s e) ∧ ∃ s0 es, SInv tagL (blkOf (D.put (x % 16).toNat (txt (evRec tagL x e)))) n f (x + 1) s0 es ∧ es.foldl applyS s0 = applyS s e := by
  obtain ⟨s0, es, hi, rfl⟩ := hinv
  have hxe := hi.xe
  have hle := hi.len
  have hf0 := hi.f0
  refine ⟨fits_put hfits ?_ _, hfit.apply he hl, s0, es ++ [e], ?_, ?_⟩
  · have h1 := evL_len he
    have h2 := itoaM_len (x := x) (okM_iff.2 (by omega))
    rw [txt_size_]
    unfold evRec
    rw [sealL_len, List.length_append, List.length_cons]
    omega
  · rw [blkOf_put hlen (by omega), data_txt]
    exact hi.add he (by omega) hx1
  · rw [List.foldl_append]
    rfl
theorem errV_0 : errV 0 = .nilIface := if_pos rfl
theorem errV_n {n : Int} (h : n ≠ 0) : errV n = .iface 47 (.int .i64 n) := if_neg h

set_option maxRecDepth 100000 in
theorem add_downed (B sb db : Nat) (D : Dk) (s : St) (v : Value) (n f x : Int) (e : Ev) (W : World) (h : SD B sb db D s v n f x true W) :
    Calls Tryz.prog 11 #[.pointer (some ⟨sb, 0, none⟩), evVal e] W fun r w' => r = .returned (.iface 47 (.int .i64 6)) ∧ Below W.heap.size W w' := by
  obtain ⟨ck, nx, L⟩ := s
  obtain ⟨kd, ⟨i, cl, su, sc, ge, ma, us, re, de⟩, id, ti⟩ := e
  have hb : Below W.heap.size W (W.alloc (.cells (evCs ⟨kd, ⟨i, cl, su, sc, ge, ma, us, re, de⟩, id, ti⟩) 42)) := (Below.refl _ _).alloc (Nat.le_refl _) _
  obtain ⟨c0, c1, c2, c3, c4, c5, c6, c7, hz, hlt⟩ := (h.keep hb).cells
  have HB := Lib.hid hb
  clear h hb
  unfold evCs at *
  unfold evVal evCs
  dsimp only at *
  go_enter Tryz.func11, Tryz.ntmps11
  go_wp2_with fail
  go_ret
  exact ⟨rfl, HB.out⟩
set_option maxRecDepth 100000 in
theorem save_downed (B sb db : Nat) (D : Dk) (s : St) (v : Value) (n f x : Int) (W : World) (h : SD B sb db D s v n f x true W) :
    Calls Tryz.prog 10 #[.pointer (some ⟨sb, 0, none⟩)] W fun r w' => r = .returned (.iface 47 (.int .i64 6)) ∧ W = w' := by
  obtain ⟨ck, nx, L⟩ := s
  obtain ⟨c0, c1, c2, c3, c4, c5, c6, c7, hz, hlt⟩ := h.cells
  clear h
  go_enter Tryz.func10, Tryz.ntmps10
  go_wp2_with fail
  go_ret
  exact ⟨rfl, rfl⟩

/-- what a call at a store comes to -/
def DoneX (W : World) (B sb db k : Nat) (r : SS × Int) (e : Ending) (w' : World) : Prop :=
  e = .returned (errV r.2) ∧ Two sb db W w' ∧ ∃ v', SX B sb db (k + 1) r.1 v' w'
theorem sx_save {B sb db k : Nat} {z : SS} {v : Value} {W : World} (h : SX B sb db k z v W) (hk : k < 1000000) :
    Calls Tryz.prog 10 #[.pointer (some ⟨sb, 0, none⟩)] W (DoneX W B sb db k (saveS z)) := by
  obtain ⟨D, n, f, x, h1, h2, h3, h4, h5, h6⟩ := h
  obtain ⟨hn0, _, hf0, hfx, hx1⟩ := h2.nums
  rcases hd : z.down with _ | _
  · rw [hd] at h1
    refine (store_save B sb db D z.s v n f x W h1 h2.fits h2.fit hn0 (by omega) (by omega) hx1).mono ?_
    rintro e w' ⟨ok, D1, hso, htw, ⟨rfl, rfl, hsd⟩ | ⟨rfl, rfl, hsd⟩⟩
    · obtain ⟨a, b, _, _⟩ := h2.saved (by omega) hso
      obtain ⟨hr, hdr⟩ := (h3.save hso).1 rfl
      obtain ⟨ks, kl, ko, kd⟩ := manyS_keeps (z.s.fams.length + 1) z
      rw [saveS_yes hd hr]
      refine ⟨rfl, htw, v, D1, n + 1, x, x, ?_, ?_, hdr.same rfl rfl rfl, by show (0 : Int) = x - x; omega, by omega, by omega⟩
      · show SD B sb db D1 (manyS _ z).s v (n + 1) x x (manyS _ z).down w'
        rw [ks, kd, hd]
        exact hsd
      · show DI B db D1 (n + 1) x x (manyS _ z).s w'
        rw [ks]
        exact hsd.di a h2.fit (b rfl)
    · obtain ⟨a, _, c, _⟩ := h2.saved (by omega) hso
      obtain ⟨m, hr, hdr⟩ := (h3.save hso).2 rfl
      obtain ⟨ks, kl, ko, kd⟩ := manyS_keeps m z
      rw [saveS_no hd hr]
      refine ⟨rfl, htw, v, D1, n, f, x, ?_, ?_, hdr, ?_, by omega, by omega⟩
      · show SD B sb db D1 (manyS _ z).s v n f x true w'
        rw [ks]
        exact hsd
      · show DI B db D1 n f x (manyS _ z).s w'
        rw [ks]
        exact hsd.di a h2.fit (c rfl)
      · show (manyS m z).log = x - f
        rw [kl, h4]
  · have h1' := h1
    rw [hd] at h1'
    refine (save_downed B sb db D z.s v n f x W h1').mono ?_
    rintro e w' ⟨rfl, rfl⟩
    rw [saveS_down hd]
    exact ⟨rfl, Two.refl _ _ _, v, D, n, f, x, h1, h2, h3, h4, by omega, by omega⟩
theorem sx_add {B sb db k : Nat} {z : SS} {v : Value} {W : World} (h : SX B sb db k z v W) (hk : k < 1000000) (ev : Ev) (hs : ev.fam.short 1000) :
    Calls Tryz.prog 11 #[.pointer (some ⟨sb, 0, none⟩), evVal ev] W (DoneX W B sb db k (addS z ev)) := by
  obtain ⟨D, n, f, x, h1, h2, h3, h4, h5, h6⟩ := h
  obtain ⟨hn0, _, hf0, hfx, hx1⟩ := h2.nums
  rcases hd : z.down with _ | _
  · have h1' := h1
    rw [hd] at h1'
    refine (store_add B sb db D z.s v n f x ev W h1' hs h2.fits h2.fit hn0 (by omega) hf0 hfx (by omega)).mono ?_
    rintro e w' ⟨htw, ⟨he, rfl, hsd⟩ | ⟨he, hl, rfl, hsd⟩ | ⟨he, hl, hxf, hr⟩ | ⟨he, hl, hxf, D1, hso, hr⟩ | ⟨he, hl, hxf, D1, hso, rfl, hsd⟩⟩
    · rw [addS_bad hd he]
      refine ⟨rfl, htw, v, D, n, f, x, ?_, hsd.di h2.fits h2.fit h2.inv, h3, h4, by omega, by omega⟩
      rw [hd]; exact hsd
    · rw [addS_full hd he hl]
      refine ⟨rfl, htw, v, D, n, f, x, ?_, hsd.di h2.fits h2.fit h2.inv, h3, h4, by omega, by omega⟩
      rw [hd]; exact hsd
    · rw [addS_one hd he hl (by rw [h4]; exact hxf)]
      rcases hr with ⟨ho, rfl, hsd⟩ | ⟨ho, rfl, v', hsd⟩
      · rw [lastS_off (by rw [h3.isOff]; exact ho)]
        exact ⟨rfl, htw, v, D, n, f, x, hsd, hsd.di h2.fits h2.fit h2.inv, h3.down, h4, by omega, by omega⟩
      · rw [lastS_on (by rw [h3.isOff]; exact ho)]
        obtain ⟨a, b, c⟩ := h2.put he hl hxf (by omega)
        refine ⟨rfl, htw, v', _, n, f, x + 1, ?_, hsd.di a b c, (h3.put _ _).same rfl rfl rfl, ?_, by omega, by omega⟩
        · show SD B sb db _ (applyS z.s ev) v' n f (x + 1) z.down w'
          rw [hd]; exact hsd
        · show z.log + 1 = x + 1 - f
          omega
    · obtain ⟨a, b, _, hlen⟩ := h2.saved (by omega) hso
      obtain ⟨hrun, hdr⟩ := (h3.save hso).1 rfl
      obtain ⟨ks, kl, ko, kd⟩ := manyS_keeps (z.s.fams.length + 1) z
      have hdr' : DR (logS (manyS (z.s.fams.length + 1) z) 0) D1 := hdr.same rfl rfl rfl
      rw [addS_save hd he hl (by rw [h4]; exact hxf), saveS_yes hd hrun, if_pos rfl]
      rcases hr with ⟨ho, rfl, hsd⟩ | ⟨ho, rfl, v', hsd⟩
      · rw [lastS_off (by rw [hdr'.isOff]; exact ho)]
        refine ⟨rfl, htw, v, D1, n + 1, x, x, ?_, ?_, hdr'.down, by show (0 : Int) = x - x; omega, by omega, by omega⟩
        · show SD B sb db D1 (manyS _ z).s v (n + 1) x x true w'
          rw [ks]; exact hsd
        · show DI B db D1 (n + 1) x x (manyS _ z).s w'
          rw [ks]; exact hsd.di a h2.fit (b rfl)
      · rw [lastS_on (by rw [hdr'.isOff]; exact ho)]
        obtain ⟨a', b', c'⟩ := put_any hlen a h2.fit (b rfl) he hl (by omega) (by omega)
        refine ⟨rfl, htw, v', _, n + 1, x, x + 1, ?_, hsd.di a' b' c', (hdr'.put _ _).same rfl rfl rfl, by show (0 : Int) + 1 = x + 1 - x; omega, by omega, by omega⟩
        show SD B sb db _ (applyS z.s ev) v' (n + 1) x (x + 1) (manyS _ z).down w'
        rw [kd, hd]; exact hsd
    · obtain ⟨a, _, c, _⟩ := h2.saved (by omega) hso
      obtain ⟨m, hrun, hdr⟩ := (h3.save hso).2 rfl
      obtain ⟨ks, kl, ko, kd⟩ := manyS_keeps m z
      rw [addS_save hd he hl (by rw [h4]; exact hxf), saveS_no hd hrun, if_neg (show ¬ (14 : Int) = 0 by decide)]
      refine ⟨rfl, htw, v, D1, n, f, x, ?_, ?_, hdr, ?_, by omega, by omega⟩
      · show SD B sb db D1 (manyS _ z).s v n f x true w'
        rw [ks]; exact hsd
      · show DI B db D1 n f x (manyS _ z).s w'
        rw [ks]; exact hsd.di a h2.fit (c rfl)
      · show (manyS m z).log = x - f
        rw [kl, h4]
  · have h1' := h1
    rw [hd] at h1'
    refine (add_downed B sb db D z.s v n f x ev W h1').mono ?_
    rintro e w' ⟨rfl, hb⟩
    rw [addS_down hd]
    exact ⟨rfl, Two.of_below hb, v, D, n, f, x, h1.keep hb, h2.keep hb, h3, h4, by omega, by omega⟩
theorem sx_cut {B sb db k : Nat} {z : SS} {v : Value} {W : World} (h : SX B sb db k z v W) (c : Int) :
    Calls Tryz.prog 9 #[.pointer (some ⟨db, 0, none⟩), .int .i64 c] W fun e w' => e = .returned (.tuple #[]) ∧ SX B sb db k (cutS z c) v w' ∧ W.grownBy w' (some db) := by
  obtain ⟨D, n, f, x, h1, h2, h3, h4, h5, h6⟩ := h
  refine (disk_cut db D c W h1.disk).mono ?_
  rintro e w' ⟨rfl, hd, hg⟩
  exact ⟨rfl, ⟨_, n, f, x, h1.wrote hd hg, h2.cut hd hg, h3.cutAt c, h4, h5, h6⟩, hg⟩
def upS (z : SS) : SS := ⟨z.s, z.log, z.writes, z.off, z.left, false⟩
/-- a store that is opened anew -/
def OpenX (W : World) (B sb db k : Nat) (z : SS) (v : Value) (e : Ending) (w' : World) : Prop :=
  ∃ sb' v', e = .returned (.tuple #[.pointer (some ⟨sb', 0, none⟩), .nilIface]) ∧ SX B sb' db k (upS z) v' w' ∧ SX B sb db k z v w' ∧ W.heap.size ≤ sb' ∧ Below W.heap.size W w'
theorem sx_open {B sb db k : Nat} {z : SS} {v : Value} {W : World} (h : SX B sb db k z v W) :
    Calls Tryz.prog 6 #[.pointer (some ⟨db, 0, none⟩)] W (OpenX W B sb db k z v) := by
  have h0 := h
  obtain ⟨D, n, f, x, h1, h2, h3, h4, h5, h6⟩ := h
  refine (di_open h2).mono ?_
  rintro e w' ⟨sb', v', rfl, hso, hsb, hb⟩
  exact ⟨sb', v', rfl, ⟨D, n, f, x, hso.sd, hso.di, h3.same rfl rfl rfl, h4, h5, h6⟩, h0.keep hb, hsb, hb⟩
/-- of a new disk -/
theorem sx_first {B db : Nat} {W : World} (h : DI B db Dk.none_ 0 0 0 startS W) :
    Calls Tryz.prog 6 #[.pointer (some ⟨db, 0, none⟩)] W fun e w' => ∃ sb v, e = .returned (.tuple #[.pointer (some ⟨sb, 0, none⟩), .nilIface]) ∧ SX B sb db 0 newS v w' ∧ W.heap.size ≤ sb ∧ Below W.heap.size W w' := by
  refine (di_open h).mono ?_
  rintro e w' ⟨sb, v, rfl, hso, hsb, hb⟩
  exact ⟨sb, v, rfl, ⟨Dk.none_, 0, 0, 0, hso.sd, hso.di, ⟨rfl, rfl, fun h => by cases h⟩, rfl, Int.le_refl _, Int.le_refl _⟩, hsb, hb⟩
theorem sx_state {B sb db k : Nat} {z : SS} {v : Value} {W : World} (h : SX B sb db k z v W) :
    Calls Tryz.prog 14 #[.pointer (some ⟨sb, 0, none⟩)] W (ApplyGot W z.s) := by
  obtain ⟨D, n, f, x, h1, h2, h3⟩ := h
  exact store_state B sb db z.s v n f x z.down W h1.st h1.row (by have := h2.fit.len; omega)
theorem sx_log {B sb db k : Nat} {z : SS} {v : Value} {W : World} (h : SX B sb db k z v W) :
    Calls Tryz.prog 24 #[.pointer (some ⟨sb, 0, none⟩)] W fun e w' => e = .returned (.int .i64 z.log) ∧ Below W.heap.size W w' := by
  obtain ⟨D, n, f, x, h1, h2, h3, h4, _⟩ := h
  obtain ⟨hn0, _, hf0, hfx, hx1⟩ := h2.nums
  rw [h4]
  exact store_log sb db z.s v n f x z.down W h1.st hf0 hfx hx1
theorem sx_down {B sb db k : Nat} {z : SS} {v : Value} {W : World} (h : SX B sb db k z v W) :
    Calls Tryz.prog 25 #[.pointer (some ⟨sb, 0, none⟩)] W fun e w' => e = .returned (.bool z.down) ∧ Below W.heap.size W w' := by
  obtain ⟨D, n, f, x, h1, h2, h3⟩ := h
  exact store_down sb db z.s v n f x z.down W h1.st
theorem sx_writes {B sb db k : Nat} {z : SS} {v : Value} {W : World} (h : SX B sb db k z v W) :
    Calls Tryz.prog 26 #[.pointer (some ⟨db, 0, none⟩)] W fun e w' => e = .returned (.int .i64 z.writes) ∧ W = w' := by
  obtain ⟨D, n, f, x, h1, h2, h3, h4, _⟩ := h
  rw [h3.writes]
  exact disk_writes db D W h1.disk
end Go.Proofs.YtdogilbnbbeljaaGreatDoor

/-
  rotorref's store: its block; write, Cut, Open, Save.
-/
namespace Go.Proofs.YtdogilbnbbeljaaGreatDoor
open Go.RowKit Go.Sort

def refCs (z : SS) (v : Value) : Array Value := #[.int .i64 z.s.clock, .int .i64 z.s.next, v, .int .i64 z.log, .int .i64 z.writes, .bool z.off, .int .i64 z.left, .bool z.down]
def RAt (w : World) (rb : Nat) (z : SS) (v : Value) : Prop := Blk w rb 65 (refCs z v)
theorem RAt.cells {w : World} {rb : Nat} {ck nx : Int} {L : List Fam} {lg wr : Int} {off : Bool} {lf : Int} {dn : Bool} {v : Value} (h : RAt w rb ⟨⟨ck, nx, L⟩, lg, wr, off, lf, dn⟩ v) :
    w.cell? ⟨rb, 0, none⟩ = some (.int .i64 ck) ∧ w.cell? ⟨rb, 1, none⟩ = some (.int .i64 nx) ∧ w.cell? ⟨rb, 2, none⟩ = some v ∧ w.cell? ⟨rb, 3, none⟩ = some (.int .i64 lg) ∧ w.cell? ⟨rb, 4, none⟩ = some (.int .i64 wr) ∧
    w.cell? ⟨rb, 5, none⟩ = some (.bool off) ∧ w.cell? ⟨rb, 6, none⟩ = some (.int .i64 lf) ∧ w.cell? ⟨rb, 7, none⟩ = some (.bool dn) ∧ (∀ j, w.frozen? ⟨rb, j, none⟩ = false) ∧ rb < w.heap.size :=
  ⟨Blk.cell h 0, Blk.cell h 1, Blk.cell h 2, Blk.cell h 3, Blk.cell h 4, Blk.cell h 5, Blk.cell h 6, Blk.cell h 7, Blk.frozen h, Blk.lt h⟩
section
variable {w : World} {rb : Nat} {z : SS} {v : Value}
theorem RAt.drew (h : RAt w rb z v) : RAt w.drew rb z v := h
theorem RAt.down (h : RAt w rb z v) : RAt (w.setCell ⟨rb, 7, none⟩ (.bool true)) rb (downS z) v ∧ w.grownBy (w.setCell ⟨rb, 7, none⟩ (.bool true)) (some rb) :=
  ⟨Blk.put_ h 7 (.bool true) rfl, only_set1 w rb ⟨rb, 7, none⟩ rfl _⟩
theorem RAt.one (h : RAt w rb z v) : RAt ((w.setCell ⟨rb, 6, none⟩ (.int .i64 (wrap64 (z.left - 1)))).setCell ⟨rb, 4, none⟩ (.int .i64 (wrap64 (z.writes + 1)))) rb (oneS z) v ∧
    w.grownBy ((w.setCell ⟨rb, 6, none⟩ (.int .i64 (wrap64 (z.left - 1)))).setCell ⟨rb, 4, none⟩ (.int .i64 (wrap64 (z.writes + 1)))) (some rb) := by
  have e1 := Blk.put_ h 6 (.int .i64 (wrap64 (z.left - 1))) (cs' := refCs ⟨z.s, z.log, z.writes, z.off, wrap64 (z.left - 1), z.down⟩ v) rfl
  have g1 := only_set1 w rb ⟨rb, 6, none⟩ rfl (.int .i64 (wrap64 (z.left - 1)))
  exact ⟨Blk.put_ e1 4 (.int .i64 (wrap64 (z.writes + 1))) rfl, only_setCell g1 (p := ⟨rb, 4, none⟩) (.inl rfl) _⟩
theorem RAt.cut (h : RAt w rb z v) (n : Int) (b : Bool) (hb : b = decide (0 ≤ n)) : RAt ((w.setCell ⟨rb, 5, none⟩ (.bool b)).setCell ⟨rb, 6, none⟩ (.int .i64 n)) rb (cutS z n) v ∧ w.grownBy ((w.setCell ⟨rb, 5, none⟩ (.bool b)).setCell ⟨rb, 6, none⟩ (.int .i64 n)) (some rb) := by
  subst hb
  have e1 := Blk.put_ h 5 (.bool (decide (0 ≤ n))) (cs' := refCs ⟨z.s, z.log, z.writes, decide (0 ≤ n), z.left, z.down⟩ v) rfl
  have g1 := only_set1 w rb ⟨rb, 5, none⟩ rfl (.bool (decide (0 ≤ n)))
  exact ⟨Blk.put_ e1 6 (.int .i64 n) rfl, only_setCell g1 (p := ⟨rb, 6, none⟩) (.inl rfl) _⟩
theorem RAt.open_ (h : RAt w rb z v) : RAt ((w.setCell ⟨rb, 5, none⟩ (.bool false)).setCell ⟨rb, 7, none⟩ (.bool false)) rb (openS z) v ∧ w.grownBy ((w.setCell ⟨rb, 5, none⟩ (.bool false)).setCell ⟨rb, 7, none⟩ (.bool false)) (some rb) := by
  have e1 := Blk.put_ h 5 (.bool false) (cs' := refCs ⟨z.s, z.log, z.writes, false, z.left, z.down⟩ v) rfl
  have g1 := only_set1 w rb ⟨rb, 5, none⟩ rfl (.bool false)
  exact ⟨Blk.put_ e1 7 (.bool false) rfl, only_setCell g1 (p := ⟨rb, 7, none⟩) (.inl rfl) _⟩
theorem RAt.logged (h : RAt w rb z v) (n : Int) : RAt (w.setCell ⟨rb, 3, none⟩ (.int .i64 n)) rb (logS z n) v ∧ w.grownBy (w.setCell ⟨rb, 3, none⟩ (.int .i64 n)) (some rb) :=
  ⟨Blk.put_ h 3 (.int .i64 n) rfl, only_set1 w rb ⟨rb, 3, none⟩ rfl _⟩
end
/-- one write -/
theorem ref_write_on (rb : Nat) (z : SS) (v : Value) (W : World) (h : RAt W rb z v) (ho : offS z = false) :
    Calls Tryz.prog 46 #[.pointer (some ⟨rb, 0, none⟩)] W fun e w' => e = .returned (.bool true) ∧ RAt w' rb (oneS z) v ∧ W.grownBy w' (some rb) := by
  have HO := Lib.hid h.one
  obtain ⟨⟨ck, nx, L⟩, lg, wr, off, lf, dn⟩ := z
  obtain ⟨c0, c1, c2, c3, c4, c5, c6, c7, z, hlt⟩ := h.cells
  dsimp only at HO
  clear h
  cases off
  · clear ho
    go_enter Tryz.func46, Tryz.ntmps46
    go_wp2_with fail
    go_ret
    exact ⟨rfl, HO.out.1, HO.out.2⟩
  · have hl : (lf == 0) = false := by simpa [offS] using ho
    clear ho
    go_enter Tryz.func46, Tryz.ntmps46
    go_wp2_with fail
    go_ret
    exact ⟨rfl, HO.out.1, HO.out.2⟩
theorem ref_write_off (rb : Nat) (z : SS) (v : Value) (W : World) (h : RAt W rb z v) (ho : offS z = true) :
    Calls Tryz.prog 46 #[.pointer (some ⟨rb, 0, none⟩)] W fun e w' => e = .returned (.bool false) ∧ RAt w' rb (downS z) v ∧ W.grownBy w' (some rb) := by
  have HO := Lib.hid h.down
  obtain ⟨⟨ck, nx, L⟩, lg, wr, off, lf, dn⟩ := z
  obtain ⟨c0, c1, c2, c3, c4, c5, c6, c7, z, hlt⟩ := h.cells
  clear h
  cases off
  · cases ho
  · have hl : lf = 0 := by simpa [offS] using ho
    subst hl
    clear ho
    go_enter Tryz.func46, Tryz.ntmps46
    go_wp2_with fail
    go_ret
    exact ⟨rfl, HO.out.1, HO.out.2⟩
theorem ref_cut (rb : Nat) (z : SS) (v : Value) (n : Int) (W : World) (h : RAt W rb z v) :
    Calls Tryz.prog 22 #[.pointer (some ⟨rb, 0, none⟩), .int .i64 n] W fun e w' => e = .returned (.tuple #[]) ∧ RAt w' rb (cutS z n) v ∧ W.grownBy w' (some rb) := by
  have HO := Lib.hid (fun (w : World) (hw : RAt w rb z v) b hb => hw.cut n b hb)
  have H := Lib.hid h
  obtain ⟨⟨ck, nx, L⟩, lg, wr, off, lf, dn⟩ := z
  obtain ⟨c0, c1, c2, c3, c4, c5, c6, c7, z, hlt⟩ := h.cells
  clear h
  go_enter Tryz.func22, Tryz.ntmps22
  go_wp2_with fail
  go_end0
  exact ⟨rfl, (HO.out _ H.out _ (by simp)).1, (HO.out _ H.out _ (by simp)).2⟩
theorem ref_open (rb : Nat) (z : SS) (v : Value) (W : World) (h : RAt W rb z v) :
    Calls Tryz.prog 23 #[.pointer (some ⟨rb, 0, none⟩)] W fun e w' => e = .returned (.tuple #[]) ∧ RAt w' rb (openS z) v ∧ W.grownBy w' (some rb) := by
  have HO := Lib.hid (fun (w : World) (hw : RAt w rb z v) => hw.open_)
  have H := Lib.hid h
  obtain ⟨⟨ck, nx, L⟩, lg, wr, off, lf, dn⟩ := z
  obtain ⟨c0, c1, c2, c3, c4, c5, c6, c7, z, hlt⟩ := h.cells
  clear h
  go_enter Tryz.func23, Tryz.ntmps23
  go_wp2_with fail
  go_end0
  exact ⟨rfl, (HO.out _ H.out).1, (HO.out _ H.out).2⟩
/-- Save: so many writes -/
def RunRel (W : World) (rb : Nat) (z : SS) (v : Value) (n : Nat) (i : Value) (w : World) : Prop := ∃ k : Nat, k ≤ n ∧ i = .int .i64 k ∧ RAt w rb (manyS k z) v ∧ W.grownBy w (some rb) ∧ ∀ j, j < k → offS (manyS j z) = false
def RefDone (W : World) (rb : Nat) (r : SS × Int) (v : Value) (e : Ending) (w' : World) : Prop := e = .returned (.int .i64 r.2) ∧ RAt w' rb r.1 v ∧ W.grownBy w' (some rb)
set_option maxHeartbeats 4000000 in
theorem ref_save (rb : Nat) (z : SS) (v : Value) (B : Nat) (W : World) (h : RAt W rb z v) (hr : FRow W B v z.s.fams) (hl : z.s.fams.length ≤ 1000000) :
    Calls Tryz.prog 21 #[.pointer (some ⟨rb, 0, none⟩)] W (RefDone W rb (saveS z) v) := by
  obtain ⟨sa, sc, rfl⟩ := hr.slice
  clear hr
  rcases hd : z.down with _ | _
  · have HW := Lib.hid (fun j w h ho => ref_write_on rb (manyS j z) (.slice sa z.s.fams.length sc) w h ho)
    have HF := Lib.hid (fun j w h ho => ref_write_off rb (manyS j z) (.slice sa z.s.fams.length sc) w h ho)
    have HK := Lib.hid (fun j => manyS_keeps j z)
    have HY := Lib.hid (saveS_yes hd)
    have HN := Lib.hid (fun m => saveS_no (m := m) hd)
    have H := Lib.hid h
    obtain ⟨c0, c1, c2, c3, c4, c5, c6, c7, hz, hlt⟩ := h.cells
    rw [hd] at c7
    clear h hd
    generalize hn : z.s.fams.length = n at *
    clear hn
    go_enter Tryz.func21, Tryz.ntmps21
    go_wp2_with fail
    go_loopw [14] (fun i wr => RunRel W rb z (.slice sa n sc) (n + 1) i wr) (fun i _ => n + 1 - (intOf i).toNat)
    case atStart => exact ⟨0, Nat.zero_le _, rfl, H.out, only_refl _ _, fun j hj => absurd hj (Nat.not_lt_zero _)⟩
    case round =>
      obtain ⟨k, hk, rfl, hra, hg, hj⟩ := hrel
      have HR := Lib.hid hra
      have HG := Lib.hid hg
      have HJ := Lib.hid hj
      clear hra hg hj
      by_cases hlt2 : k < n + 1
      · rcases ho : offS (manyS k z) with _ | _
        · have HO := Lib.hid ho
          clear ho
          go_wp2_with fail
          go_at_call 46
          refine (HW.out k _ HR.out HO.out).mono ?_
          rintro e w1 ⟨rfl, hra, hg⟩
          have HR1 := Lib.hid (show RAt w1 rb (manyS (k + 1) z) (.slice sa n sc) from hra)
          have HG1 := Lib.hid (only_trans HG.out hg)
          clear hra hg
          go_wp2_with fail
          go_roundw
          case rel => exact ⟨k + 1, by omega, by go_num, HR1.out, HG1.out, fun j hj => by
            by_cases e : j = k
            · subst e; exact HO.out
            · exact HJ.out j (by omega)⟩
          case measure => simp [intOf]; omega
        · have HO := Lib.hid ho
          clear ho
          go_wp2_with fail
          go_at_call 46
          refine (HF.out k _ HR.out HO.out).mono ?_
          rintro e w1 ⟨rfl, hra, hg⟩
          have hsave := HN.out k (by
            obtain ⟨q, hq⟩ : ∃ q, n + 1 = k + (q + 1) := ⟨n - k, by omega⟩
            rw [hq, runS_many k (q + 1) z HJ.out]
            exact runS_no q HO.out)
          have HS := Lib.hid hsave
          have HR1 := Lib.hid hra
          have HG1 := Lib.hid (only_trans HG.out hg)
          clear hra hg hsave
          go_wp2_with fail
          go_ret
          rw [HS.out]
          exact ⟨rfl, HR1.out, HG1.out⟩
      · obtain rfl : k = n + 1 := by omega
        have hsave := HY.out (by
          have := runS_many (n + 1) 0 z HJ.out
          rw [Nat.add_zero] at this
          rw [this]
          rfl)
        have HS := Lib.hid hsave
        have hrl := (HR.out.logged 0)
        have HL := Lib.hid hrl
        have hfz := Blk.frozen HR.out
        have hc3 : wr.cell? ⟨rb, 3, none⟩ = some (.int .i64 (manyS (n + 1) z).log) := Blk.cell HR.out 3
        clear hsave hrl
        go_wp2_with fail
        go_ret
        rw [HS.out]
        exact ⟨rfl, HL.out.1, only_trans HG.out HL.out.2⟩
  · rw [saveS_down hd]
    have H := Lib.hid h
    obtain ⟨c0, c1, c2, c3, c4, c5, c6, c7, hz, hlt⟩ := h.cells
    rw [hd] at c7
    clear h hd
    go_enter Tryz.func21, Tryz.ntmps21
    go_wp2_with fail
    go_ret
    exact ⟨rfl, H.out, only_refl _ _⟩
end Go.Proofs.YtdogilbnbbeljaaGreatDoor

/-
  What the reference makes of families is what the program makes: in order, the same ones.
-/
namespace Go.Proofs.YtdogilbnbbeljaaGreatDoor

theorem Asc.ext : ∀ {a b : List Fam}, Asc a → Asc b → (∀ f, f ∈ a ↔ f ∈ b) → a = b
  | [], [], _, _, _ => rfl
  | [], g :: b, _, _, h => absurd ((h g).2 (List.mem_cons_self ..)) (by simp)
  | f :: a, [], _, _, h => absurd ((h f).1 (List.mem_cons_self ..)) (by simp)
  | f :: a, g :: b, ha, hb, h => by
    obtain ⟨a1, a2⟩ := List.pairwise_cons.1 ha
    obtain ⟨b1, b2⟩ := List.pairwise_cons.1 hb
    have e : f = g := by
      rcases List.mem_cons.1 ((h f).1 (List.mem_cons_self ..)) with e | h1
      · exact e
      rcases List.mem_cons.1 ((h g).2 (List.mem_cons_self ..)) with e | h2
      · exact e.symm
      have := a1 _ h2
      have := b1 _ h1
      omega
    subst e
    rw [Asc.ext a2 b2]
    intro x
    constructor
    · intro hx
      rcases List.mem_cons.1 ((h x).1 (List.mem_cons_of_mem _ hx)) with rfl | h1
      · have := a1 _ hx
        omega
      · exact h1
    · intro hx
      rcases List.mem_cons.1 ((h x).2 (List.mem_cons_of_mem _ hx)) with rfl | h1
      · have := b1 _ hx
        omega
      · exact h1
/-- the other families than that one -/
def others (L : List Fam) (n : Int) : List Fam := L.filter fun f => decide (f.id ≠ n)
theorem mem_others {L : List Fam} {n : Int} {f : Fam} : f ∈ others L n ↔ f ∈ L ∧ f.id ≠ n := by
  unfold others
  rw [List.mem_filter, decide_eq_true_eq]
theorem others_asc {L : List Fam} (h : Asc L) (n : Int) : Asc (others L n) := h.sublist List.filter_sublist
theorem others_len (L : List Fam) (n : Int) : (others L n).length ≤ L.length := List.length_filter_le _ _
theorem mem_L {L : List Fam} (k : Nat) {f : Fam} : f ∈ L ↔ f ∈ L.take k ∨ f ∈ L.drop k := by
  rw [← List.mem_append, List.take_append_drop]
theorem mem_drop_one {L : List Fam} {n : Int} (hb : hasB L n = true) {f : Fam} (hne : f.id ≠ n) (h : f ∈ L.drop (ahead L n)) : f ∈ L.drop (ahead L n + 1) := by
  have hlt := hasB_lt hb
  rw [List.drop_eq_getElem_cons hlt] at h
  rw [hasB_some (List.getElem?_eq_getElem hlt), decide_eq_true_eq] at hb
  rcases List.mem_cons.1 h with rfl | h
  · exact absurd hb hne
  · exact h
theorem drop_mem {L : List Fam} {k : Nat} {f : Fam} (h : f ∈ L.drop (k + 1)) : f ∈ L.drop k := by
  rw [← List.drop_drop] at h
  exact List.mem_of_mem_drop h
theorem mem_dropL_iff {L : List Fam} (ha : Asc L) {n : Int} {f : Fam} : f ∈ dropL L n ↔ f ∈ L ∧ f.id ≠ n := by
  unfold dropL
  by_cases hb : hasB L n = true
  · rw [if_pos hb, List.mem_append]
    constructor
    · rintro (h | h)
      · have := take_below h
        exact ⟨List.mem_of_mem_take h, by omega⟩
      · have := drop_over ha hb h
        exact ⟨List.mem_of_mem_drop h, by omega⟩
    · rintro ⟨h, hne⟩
      rcases (mem_L (ahead L n)).1 h with h | h
      · exact .inl h
      · exact .inr (mem_drop_one hb hne h)
  · rw [if_neg hb]
    refine ⟨fun h => ⟨h, ?_⟩, fun h => h.1⟩
    rcases (mem_L (ahead L n)).1 h with h | h
    · have := take_below h
      omega
    · have := drop_over' ha (by simpa using hb) h
      omega
theorem dropL_others {L : List Fam} (ha : Asc L) (n : Int) : dropL L n = others L n :=
  (dropL_asc ha n).ext (others_asc ha n) fun f => by rw [mem_dropL_iff ha, mem_others]
theorem mem_putL_iff {L : List Fam} (ha : Asc L) {f g : Fam} : g ∈ putL L f ↔ g = f ∨ g ∈ L ∧ g.id ≠ f.id := by
  unfold putL
  by_cases hb : hasB L f.id = true
  · rw [if_pos hb, set_parts (hasB_lt hb), List.mem_append, List.mem_cons]
    constructor
    · rintro (h | rfl | h)
      · have := take_below h
        exact .inr ⟨List.mem_of_mem_take h, by omega⟩
      · exact .inl rfl
      · have := drop_over ha hb h
        exact .inr ⟨List.mem_of_mem_drop h, by omega⟩
    · rintro (rfl | ⟨h, hne⟩)
      · exact .inr (.inl rfl)
      · rcases (mem_L (ahead L f.id)).1 h with h | h
        · exact .inl h
        · exact .inr (.inr (mem_drop_one hb hne h))
  · rw [if_neg hb, List.mem_append, List.mem_cons]
    constructor
    · rintro (h | rfl | h)
      · have := take_below h
        exact .inr ⟨List.mem_of_mem_take h, by omega⟩
      · exact .inl rfl
      · have := drop_over' ha (by simpa using hb) h
        exact .inr ⟨List.mem_of_mem_drop h, by omega⟩
    · rintro (rfl | ⟨h, hne⟩)
      · exact .inr (.inl rfl)
      · rcases (mem_L (ahead L f.id)).1 h with h | h
        · exact .inl h
        · exact .inr (.inr h)
/-- no two of one number -/
theorem others_apart {L : List Fam} (ha : Asc L) (f : Fam) : (others L f.id ++ [f]).Pairwise fun a b => a.id ≠ b.id := by
  refine List.pairwise_append.2 ⟨(others_asc ha f.id).imp fun h => by omega, List.pairwise_singleton .., ?_⟩
  intro a h b hb
  rw [List.mem_singleton] at hb
  subst hb
  exact (mem_others.1 h).2
/-- the others and that one, put in order by number, are the row with that one put -/
theorem sorted_putL {L R : List Fam} (ha : Asc L) {f : Fam} (hp : R.Perm (others L f.id ++ [f])) (hs : R.Pairwise fun a b => a.id ≤ b.id) : R = putL L f := by
  have hne : R.Pairwise fun a b => a.id ≠ b.id := (hp.symm.pairwise_iff fun h => Ne.symm h).1 (others_apart ha f)
  have hR : Asc R := by
    refine (hs.and hne).imp ?_
    rintro a b ⟨h1, h2⟩
    omega
  refine hR.ext (putL_asc ha f) fun g => ?_
  rw [hp.mem_iff, List.mem_append, List.mem_singleton, mem_others, mem_putL_iff ha]
  exact Or.comm
end Go.Proofs.YtdogilbnbbeljaaGreatDoor
