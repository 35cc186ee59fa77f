/-
  A store over its disk, as it is between two calls; what Open, Add, Save, Cut and State come to.
-/
import Derived.Test.YtdogilbnbbeljaaGreatDoorH34
import Derived.Test.YtdogilbnbbeljaaGreatDoorH36
import Derived.Test.YtdogilbnbbeljaaGreatDoorH12
namespace Go.Proofs.YtdogilbnbbeljaaGreatDoor
open Go.RowKit Go.Sort

/-- a disk that holds what makes the state s -/
structure DI (B db : Nat) (D : Dk) (n f x : Int) (s : St) (w : World) : Prop where
  env : Env B w
  disk : DiskAt w db D
  bd : B ≤ db
  big : B ≤ w.heap.size
  fits : D.fits
  fit : Fit s
  inv : ∃ s0 es, SInv tagL (blkOf D) n f x s0 es ∧ es.foldl applyS s0 = s
/-- a store, and its disk -/
structure SO (B sb db : Nat) (D : Dk) (n f x : Int) (s : St) (v : Value) (w : World) : Prop where
  sd : SD B sb db D s v n f x false w
  di : DI B db D n f x s w
section
variable {B sb db : Nat} {D : Dk} {n f x : Int} {s : St} {v : Value} {w w' : World}
theorem DI.nums (h : DI B db D n f x s w) : 0 ≤ n ∧ n ≤ 1000000 ∧ 0 ≤ f ∧ f ≤ x ∧ x ≤ 1000000 := by
  obtain ⟨s0, es, hi, _⟩ := h.inv
  have h1 := hi.n0
  have h2 := hi.n1
  have h3 := hi.f0
  have h4 := hi.x1
  have h5 := hi.xe
  omega
theorem DI.keep (h : DI B db D n f x s w) (hb : Below w.heap.size w w') : DI B db D n f x s w' := ⟨h.env.new h.big hb, h.disk.below hb, h.bd, Nat.le_trans h.big hb.size, h.fits, h.fit, h.inv⟩
theorem DI.drew (h : DI B db D n f x s w) : DI B db D n f x s w.drew := ⟨⟨h.env.tens, h.env.maxl, h.env.errs, h.env.gt, h.env.gm, h.env.g1, h.env.g2⟩, ⟨h.disk.at_, h.disk.len⟩, h.bd, h.big, h.fits, h.fit, h.inv⟩
theorem SO.keep (h : SO B sb db D n f x s v w) (hb : Below w.heap.size w w') : SO B sb db D n f x s v w' := ⟨h.sd.keep hb, h.di.keep hb⟩
theorem SO.drew (h : SO B sb db D n f x s v w) : SO B sb db D n f x s v w.drew := ⟨h.sd.drew, h.di.drew⟩
theorem SD.di {down : Bool} (h : SD B sb db D s v n f x down w) (h1 : D.fits) (h2 : Fit s) (h3 : ∃ s0 es, SInv tagL (blkOf D) n f x s0 es ∧ es.foldl applyS s0 = s) : DI B db D n f x s w := ⟨h.env, h.disk, h.bd, h.big, h1, h2, h3⟩
end
/-- what Open comes to -/
theorem di_open {B db : Nat} {D : Dk} {n f x : Int} {s : St} {W : World} (h : DI B db D n f x s W) :
    Calls Tryz.prog 6 #[.pointer (some ⟨db, 0, none⟩)] W fun e w' => ∃ sb v, e = .returned (.tuple #[.pointer (some ⟨sb, 0, none⟩), .nilIface]) ∧ SO B sb db D n f x s v w' ∧ W.heap.size ≤ sb ∧ Below W.heap.size W w' := by
  obtain ⟨s0, es, hi, rfl⟩ := h.inv
  refine (store_open B db D W h.env h.disk h.bd h.big h.fits n f x s0 es hi).mono ?_
  rintro e w' ⟨sb, v, rfl, hsd, hsb, hb⟩
  exact ⟨sb, v, rfl, ⟨hsd, hsd.di h.fits h.fit ⟨s0, es, hi, rfl⟩⟩, hsb, hb⟩
/-- what Cut comes to -/
theorem cut_blk (D : Dk) (k : Int) : blkOf (D.cutAt k) = blkOf D ∧ (D.cutAt k).blk = D.blk := ⟨rfl, rfl⟩
theorem DI.cut {B db : Nat} {D : Dk} {n f x : Int} {s : St} {w w' : World} (h : DI B db D n f x s w) {k : Int} (hd : DiskAt w' db (D.cutAt k)) (hg : w.grownBy w' (some db)) : DI B db (D.cutAt k) n f x s w' := by
  have hb : Below B w w' := (Below.refl B w).grown hg h.big (fun j hj => by cases hj; exact h.bd)
  exact ⟨h.env.keep hb, hd, h.bd, Nat.le_trans h.big hb.size, h.fits, h.fit, h.inv⟩
theorem SO.cut {B sb db : Nat} {D : Dk} {n f x : Int} {s : St} {v : Value} {w w' : World} (h : SO B sb db D n f x s v w) {k : Int} (hd : DiskAt w' db (D.cutAt k)) (hg : w.grownBy w' (some db)) : SO B sb db (D.cutAt k) n f x s v w' := ⟨h.sd.wrote hd hg, h.di.cut hd hg⟩
/-- behind one more write -/
theorem DI.put {B db : Nat} {D : Dk} {n f x : Int} {s : St} {w : World} (h : DI B db D n f x s w) {e : Ev} (he : evB e = true) (hl : (applyS s e).fams.length ≤ 20) (hx : x - f ≠ 16) (hx1 : x < 1000000) :
    (D.put (x % 16).toNat (txt (evRec tagL x e))).fits ∧ Fit (applyS s e) ∧ ∃ s0 es, SInv tagL (blkOf (D.put (x % 16).toNat (txt (evRec tagL x e)))) n f (x + 1) s0 es ∧ es.foldl applyS s0 = applyS s e := by
  obtain ⟨s0, es, hi, rfl⟩ := h.inv
  have hxe := hi.xe
  have hle := hi.len
  have hf0 := hi.f0
  refine ⟨fits_put h.fits ?_ _, h.fit.apply he hl, s0, es ++ [e], ?_, ?_⟩
  · have h1 := evL_len he
    have h2 := itoaM_len (x := x) (okM_iff.2 (by omega))
    rw [txt_size_]
    unfold evRec
    rw [sealL_len, List.length_append, List.length_cons]
    omega
  · rw [blkOf_put h.disk.len (by omega), data_txt]
    exact hi.add he (by omega) hx1
  · rw [List.foldl_append]
    rfl
theorem DI.saved {B db : Nat} {D D1 : Dk} {n f x : Int} {s : St} {w : World} (h : DI B db D n f x s w) (hn : n < 1000000) {ok : Bool} (ho : SaveOut D (slotAt ((n + 1) % 2).toNat) s.fams (txt (headL tagL (n + 1) x s)) D1 ok) :
    D1.fits ∧ (ok = true → ∃ s0 es, SInv tagL (blkOf D1) (n + 1) x x s0 es ∧ es.foldl applyS s0 = s) ∧ (ok = false → ∃ s0 es, SInv tagL (blkOf D1) n f x s0 es ∧ es.foldl applyS s0 = s) ∧ D1.blk.length = 90 := by
  obtain ⟨hn0, _, hf0, hfx, hx1⟩ := h.nums
  obtain ⟨s0, es, hi, rfl⟩ := h.inv
  obtain ⟨k1, k2, k3⟩ := hi.saveOut h.fit hn h.disk.len ho
  refine ⟨?_, fun e => ⟨es.foldl applyS s0, [], k1 e, rfl⟩, fun e => ⟨s0, es, k2 e, rfl⟩, k3⟩
  rcases ho with ⟨_, _, rfl⟩ | ⟨_, m, hm, _, _, rfl⟩
  · refine fits_put (famD_fits h.fits h.fit.fams _ (Nat.le_refl _)) ?_ _
    rw [txt_size_]
    exact (head_len h.fit (okM_iff.2 (by omega)) (okM_iff.2 (by omega))).2
  · exact famD_fits h.fits h.fit.fams m hm
/-- what Save comes to -/
def SavesTo (W : World) (B sb db : Nat) (n f x : Int) (s : St) (v : Value) (e : Ending) (w' : World) : Prop :=
  Two sb db W w' ∧ ((e = .returned .nilIface ∧ ∃ D', SO B sb db D' (n + 1) x x s v w') ∨ (e = .returned (.iface 47 (.int .i64 14)) ∧ ∃ D', DI B db D' n f x s w'))
theorem so_save {B sb db : Nat} {D : Dk} {n f x : Int} {s : St} {v : Value} {W : World} (h : SO B sb db D n f x s v W) (hn : n < 1000000) :
    Calls Tryz.prog 10 #[.pointer (some ⟨sb, 0, none⟩)] W (SavesTo W B sb db n f x s v) := by
  obtain ⟨hn0, _, hf0, hfx, hx1⟩ := h.di.nums
  refine (store_save B sb db D s v n f x W h.sd h.di.fits h.di.fit hn0 hn (by omega) hx1).mono ?_
  rintro e w' ⟨ok, D1, hso, htw, ⟨rfl, rfl, hsd⟩ | ⟨rfl, rfl, hsd⟩⟩
  · obtain ⟨a, b, _, _⟩ := h.di.saved hn hso
    exact ⟨htw, .inl ⟨rfl, D1, hsd, hsd.di a h.di.fit (b rfl)⟩⟩
  · obtain ⟨a, _, c, _⟩ := h.di.saved hn hso
    exact ⟨htw, .inr ⟨rfl, D1, hsd.di a h.di.fit (c rfl)⟩⟩
/-- what Add comes to -/
def AddsTo (W : World) (B sb db : Nat) (n f x : Int) (s : St) (v : Value) (ev : Ev) (e : Ending) (w' : World) : Prop :=
  Two sb db W w' ∧ (
    (e = .returned .nilIface ∧ evB ev = true ∧ (applyS s ev).fams.length ≤ 20 ∧ ∃ D' n' f' v', SO B sb db D' n' f' (x + 1) (applyS s ev) v' w' ∧ n' ≤ n + 1) ∨
    (∃ c : Int, (c = 1 ∨ c = 12) ∧ e = .returned (.iface 47 (.int .i64 c)) ∧ ∃ D', SO B sb db D' n f x s v w') ∨
    (e = .returned (.iface 47 (.int .i64 14)) ∧ evB ev = true ∧ ∃ D' n' f', DI B db D' n' f' x s w' ∧ n' ≤ n + 1))
theorem so_add {B sb db : Nat} {D : Dk} {n f x : Int} {s : St} {v : Value} {W : World} (h : SO B sb db D n f x s v W) (hn : n < 1000000) (hx : x < 1000000) (ev : Ev) (hs : ev.fam.short 1000) :
    Calls Tryz.prog 11 #[.pointer (some ⟨sb, 0, none⟩), evVal ev] W (AddsTo W B sb db n f x s v ev) := by
  obtain ⟨hn0, _, hf0, hfx, hx1⟩ := h.di.nums
  refine (store_add B sb db D s v n f x ev W h.sd hs h.di.fits h.di.fit hn0 hn hf0 hfx hx).mono ?_
  rintro e w' ⟨htw, ⟨_, rfl, hsd⟩ | ⟨_, _, rfl, hsd⟩ | ⟨he, hl, hxf, hr⟩ | ⟨he, hl, hxf, D1, hso, hr⟩ | ⟨he, hl, hxf, D1, hso, rfl, hsd⟩⟩
  · exact ⟨htw, .inr (.inl ⟨1, .inl rfl, rfl, D, hsd, hsd.di h.di.fits h.di.fit h.di.inv⟩)⟩
  · exact ⟨htw, .inr (.inl ⟨12, .inr rfl, rfl, D, hsd, hsd.di h.di.fits h.di.fit h.di.inv⟩)⟩
  · rcases hr with ⟨_, rfl, hsd⟩ | ⟨_, rfl, v', hsd⟩
    · exact ⟨htw, .inr (.inr ⟨rfl, he, D, n, f, hsd.di h.di.fits h.di.fit h.di.inv, by omega⟩)⟩
    · obtain ⟨a, b, c⟩ := h.di.put he hl hxf hx
      exact ⟨htw, .inl ⟨rfl, he, hl, _, n, f, v', ⟨hsd, hsd.di a b c⟩, by omega⟩⟩
  · obtain ⟨a, b, _, _⟩ := h.di.saved hn hso
    rcases hr with ⟨_, rfl, hsd⟩ | ⟨_, rfl, v', hsd⟩
    · exact ⟨htw, .inr (.inr ⟨rfl, he, D1, n + 1, x, hsd.di a h.di.fit (b rfl), Int.le_refl _⟩)⟩
    · have hD : D1.blk.length = 90 := (h.di.saved hn hso).2.2.2
      obtain ⟨s0, es, hi, hes⟩ := b rfl
      have hxe := hi.xe
      have hle : es.length = 0 := by omega
      have key : (D1.put (x % 16).toNat (txt (evRec tagL x ev))).fits ∧ Fit (applyS s ev) ∧ ∃ s0 es, SInv tagL (blkOf (D1.put (x % 16).toNat (txt (evRec tagL x ev)))) (n + 1) x (x + 1) s0 es ∧ es.foldl applyS s0 = applyS s ev := by
        refine ⟨fits_put a ?_ _, h.di.fit.apply he hl, s0, es ++ [ev], ?_, ?_⟩
        · have h1 := evL_len he
          have h2 := itoaM_len (x := x) (okM_iff.2 (by omega))
          rw [txt_size_]
          unfold evRec
          rw [sealL_len, List.length_append, List.length_cons]
          omega
        · rw [blkOf_put hD (by omega), data_txt]
          exact hi.add he (by omega) hx
        · rw [List.foldl_append, hes]
          rfl
      obtain ⟨k1, k2, k3⟩ := key
      exact ⟨htw, .inl ⟨rfl, he, hl, _, n + 1, x, v', ⟨hsd, hsd.di k1 k2 k3⟩, Int.le_refl _⟩⟩
  · obtain ⟨a, _, c, _⟩ := h.di.saved hn hso
    exact ⟨htw, .inr (.inr ⟨rfl, he, D1, n, f, hsd.di a h.di.fit (c rfl), by omega⟩)⟩
/-- an empty disk -/
def Dk.none_ : Dk := ⟨List.replicate 90 ByteArray.empty, false, 0, 0⟩
theorem new_disk : Tryz.zeroCells28 = Dk.none_.cells := by kernel_rfl
theorem DI.new {B : Nat} {W : World} (hE : Env B W) (hB : B ≤ W.heap.size) : DI B W.heap.size Dk.none_ 0 0 0 startS (W.alloc (.cells Tryz.zeroCells28 28)) := by
  have hb : Below W.heap.size W (W.alloc (.cells Tryz.zeroCells28 28)) := (Below.refl _ _).alloc (Nat.le_refl _) _
  have hz : ∀ k, Dk.none_.blk.getD k ByteArray.empty = ByteArray.empty := fun k => by
    unfold Dk.none_
    rw [List.getD_eq_getElem?_getD, List.getElem?_replicate]
    split <;> rfl
  refine ⟨hE.new hB hb, ⟨?_, by simp [Dk.none_]⟩, hB, Nat.le_trans hB hb.size, fun k => by rw [hz]; exact Nat.zero_le _, Fit.start, startS, [], ?_, rfl⟩
  · rw [new_disk]
    exact Blk.new W _ _
  · have : blkOf Dk.none_ = fun _ => [] := by
      funext k
      unfold blkOf
      rw [hz]
      rfl
    rw [this]
    exact empty_inv tagL
end Go.Proofs.YtdogilbnbbeljaaGreatDoor

/-
  A store as the document tells it, in plain Lean: its state, the log's events, the writes, the power; what Add, Save, Cut and Open make of it; and a disk's writes counted so.
-/
namespace Go.Proofs.YtdogilbnbbeljaaGreatDoor
open Go.RowKit

structure SS where
  s : St
  log : Int
  writes : Int
  off : Bool
  left : Int
  down : Bool
def offS (z : SS) : Bool := z.off && z.left == 0
def oneS (z : SS) : SS := ⟨z.s, z.log, wrap64 (z.writes + 1), z.off, wrap64 (z.left - 1), z.down⟩
def downS (z : SS) : SS := ⟨z.s, z.log, z.writes, z.off, z.left, true⟩
/-- so many writes -/
def runS : Nat → SS → SS × Bool
  | 0, z => (z, true)
  | n + 1, z => if offS z then (downS z, false) else runS n (oneS z)
def logS (z : SS) (n : Int) : SS := ⟨z.s, n, z.writes, z.off, z.left, z.down⟩
def saveS (z : SS) : SS × Int := if z.down then (z, 6) else if (runS (z.s.fams.length + 1) z).2 then (logS (runS (z.s.fams.length + 1) z).1 0, 0) else ((runS (z.s.fams.length + 1) z).1, 14)
def nowS (z : SS) (s : St) : SS := ⟨s, z.log + 1, z.writes, z.off, z.left, z.down⟩
/-- the event's own write -/
def lastS (z : SS) (s : St) : SS × Int := if offS z then (downS z, 14) else (nowS (oneS z) s, 0)
def addS (z : SS) (e : Ev) : SS × Int :=
  if z.down then (z, 6)
  else if evB e = false then (z, 1)
  else if 20 < (applyS z.s e).fams.length then (z, 12)
  else if z.log = 16 then (if (saveS z).2 = 0 then lastS (saveS z).1 (applyS z.s e) else saveS z)
  else lastS z (applyS z.s e)
def cutS (z : SS) (n : Int) : SS := ⟨z.s, z.log, z.writes, decide (0 ≤ n), n, z.down⟩
def openS (z : SS) : SS := ⟨z.s, z.log, z.writes, false, z.left, false⟩
def newS : SS := ⟨⟨0, 1, []⟩, 0, 0, false, 0, false⟩

theorem runS_yes {z : SS} (n : Nat) (h : offS z = false) : runS (n + 1) z = runS n (oneS z) := by rw [runS, h]; rfl
theorem runS_no {z : SS} (n : Nat) (h : offS z = true) : runS (n + 1) z = (downS z, false) := by rw [runS, h]; rfl
/-- behind so many writes -/
def manyS : Nat → SS → SS
  | 0, z => z
  | n + 1, z => oneS (manyS n z)
theorem manyS_in : ∀ (n : Nat) (z : SS), manyS n (oneS z) = oneS (manyS n z)
  | 0, _ => rfl
  | n + 1, z => by rw [manyS, manyS_in n z, manyS]
theorem runS_many : ∀ (m k : Nat) (z : SS), (∀ j, j < m → offS (manyS j z) = false) → runS (m + k) z = runS k (manyS m z)
  | 0, k, z, _ => by rw [Nat.zero_add]; rfl
  | m + 1, k, z, h => by
    have h0 : offS z = false := h 0 (Nat.succ_pos m)
    rw [show m + 1 + k = m + k + 1 by omega, runS_yes _ h0, runS_many m k (oneS z) fun j hj => by rw [manyS_in]; exact h (j + 1) (Nat.succ_lt_succ hj), manyS_in]
    rfl
theorem manyS_keeps : ∀ (n : Nat) (z : SS), (manyS n z).s = z.s ∧ (manyS n z).log = z.log ∧ (manyS n z).off = z.off ∧ (manyS n z).down = z.down
  | 0, _ => ⟨rfl, rfl, rfl, rfl⟩
  | n + 1, z => manyS_keeps n z

/-- the disk's writes, counted -/
structure DR (z : SS) (D : Dk) : Prop where
  writes : z.writes = D.writes
  off : z.off = D.cut
  left : D.cut = true → z.left = D.left
section
variable {z : SS} {D : Dk}
theorem DR.isOff (h : DR z D) : offS z = offB D := by
  unfold offS offB
  rw [h.off]
  rcases hc : D.cut with _ | _
  · rfl
  · rw [h.left hc]
theorem DR.put (h : DR z D) (k : Nat) (s : ByteArray) : DR (oneS z) (D.put k s) := ⟨by show wrap64 _ = wrap64 _; rw [h.writes], h.off, fun hc => by show wrap64 _ = wrap64 _; rw [h.left hc]⟩
theorem DR.famD (h : DR z D) (at_ : Nat) (L : List Fam) : ∀ m, DR (manyS m z) (famD D at_ L m)
  | 0 => h
  | m + 1 => (h.famD at_ L m).put _ _
theorem DR.cutAt (h : DR z D) (n : Int) : DR (cutS z n) (D.cutAt n) := by
  refine ⟨h.writes, rfl, fun hc => ?_⟩
  have hn : 0 ≤ n := of_decide_eq_true hc
  show n = if n < 0 then 0 else n
  rw [if_neg (by omega)]
theorem DR.open_ (h : DR z D) : DR (openS z) (D.cutAt (-1)) := ⟨h.writes, rfl, fun hc => by cases hc⟩
theorem DR.same {z' : SS} (h : DR z D) (h1 : z'.writes = z.writes) (h2 : z'.off = z.off) (h3 : z'.left = z.left) : DR z' D := ⟨h1.trans h.writes, h2.trans h.off, fun hc => h3.trans (h.left hc)⟩
theorem DR.down (h : DR z D) : DR (downS z) D := h.same rfl rfl rfl
/-- a slot's writes -/
theorem DR.save (h : DR z D) {at_ : Nat} {L : List Fam} {head : ByteArray} {D' : Dk} {ok : Bool} (ho : SaveOut D at_ L head D' ok) :
    (ok = true → runS (L.length + 1) z = (manyS (L.length + 1) z, true) ∧ DR (manyS (L.length + 1) z) D') ∧
    (ok = false → ∃ m, runS (L.length + 1) z = (downS (manyS m z), false) ∧ DR (downS (manyS m z)) D') := by
  rcases ho with ⟨rfl, h1, rfl⟩ | ⟨rfl, m, hm, h1, h2, rfl⟩
  · refine ⟨fun _ => ⟨?_, (h.famD at_ L L.length).put _ _⟩, fun e => (by cases e)⟩
    rw [runS_many L.length 1 z fun j hj => by rw [(h.famD at_ L j).isOff]; exact h1 j (Nat.le_of_lt hj)]
    rw [runS_yes 0 (by rw [(h.famD at_ L L.length).isOff]; exact h1 _ (Nat.le_refl _))]
    rfl
  · refine ⟨fun e => (by cases e), fun _ => ⟨m, ?_, (h.famD at_ L m).down⟩⟩
    obtain ⟨k, hk⟩ : ∃ k, L.length + 1 = m + (k + 1) := ⟨L.length - m, by omega⟩
    rw [hk, runS_many m (k + 1) z fun j hj => by rw [(h.famD at_ L j).isOff]; exact h1 j hj]
    exact runS_no k (by rw [(h.famD at_ L m).isOff]; exact h2)
end
/-- what Save tells, by what came of the writes -/
theorem saveS_yes {z : SS} (hd : z.down = false) (h : runS (z.s.fams.length + 1) z = (manyS (z.s.fams.length + 1) z, true)) : saveS z = (logS (manyS (z.s.fams.length + 1) z) 0, 0) := by
  unfold saveS
  rw [hd, h]
  rfl
theorem saveS_no {z : SS} {m : Nat} (hd : z.down = false) (h : runS (z.s.fams.length + 1) z = (downS (manyS m z), false)) : saveS z = (downS (manyS m z), 14) := by
  unfold saveS
  rw [hd, h]
  rfl
theorem saveS_down {z : SS} (hd : z.down = true) : saveS z = (z, 6) := by unfold saveS; rw [hd]; rfl
theorem addS_down {z : SS} {e : Ev} (hd : z.down = true) : addS z e = (z, 6) := by unfold addS; rw [hd]; rfl
theorem addS_bad {z : SS} {e : Ev} (hd : z.down = false) (he : evB e = false) : addS z e = (z, 1) := by unfold addS; rw [hd, if_neg (by decide), if_pos he]
theorem addS_full {z : SS} {e : Ev} (hd : z.down = false) (he : evB e = true) (hl : 20 < (applyS z.s e).fams.length) : addS z e = (z, 12) := by
  unfold addS; rw [hd, if_neg (by decide), if_neg (by rw [he]; decide), if_pos hl]
theorem addS_one {z : SS} {e : Ev} (hd : z.down = false) (he : evB e = true) (hl : (applyS z.s e).fams.length ≤ 20) (h16 : z.log ≠ 16) : addS z e = lastS z (applyS z.s e) := by
  unfold addS; rw [hd, if_neg (by decide), if_neg (by rw [he]; decide), if_neg (by omega), if_neg h16]
theorem addS_save {z : SS} {e : Ev} (hd : z.down = false) (he : evB e = true) (hl : (applyS z.s e).fams.length ≤ 20) (h16 : z.log = 16) : addS z e = if (saveS z).2 = 0 then lastS (saveS z).1 (applyS z.s e) else saveS z := by
  unfold addS; rw [hd, if_neg (by decide), if_neg (by rw [he]; decide), if_neg (by omega), if_pos h16]
theorem lastS_off {z : SS} {s : St} (h : offS z = true) : lastS z s = (downS z, 14) := if_pos h
theorem lastS_on {z : SS} {s : St} (h : offS z = false) : lastS z s = (nowS (oneS z) s, 0) := if_neg (by rw [h]; decide)
end Go.Proofs.YtdogilbnbbeljaaGreatDoor
