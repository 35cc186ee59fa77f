/-
  A store over its disk, as it is between two calls; what Open, Add, Save, Cut and State come to.
-/
import Derived.Test.YtdogilbnbbeljaaGreatDoorG34
import Derived.Test.YtdogilbnbbeljaaGreatDoorG36
namespace Go.Proofs.YtdogilbnbbeljaaGreatDoor
open Go.RowKit Go.Sort

/-- a disk that holds what makes the state s -/
structure DI (B db : Nat) (D : Dk) (n f x : Int) (s : St) (w : World) : Prop where
  env : Env B w
  disk : DiskAt w db D
  bd : B ≤ db
  big : B ≤ w.heap.size
  fits : D.fits
  fit : Fit s
  inv : ∃ s0 es, SInv tagL (blkOf D) n f x s0 es ∧ es.foldl applyS s0 = s
/-- a store, and its disk -/
structure SO (B sb db : Nat) (D : Dk) (n f x : Int) (s : St) (v : Value) (w : World) : Prop where
  sd : SD B sb db D s v n f x false w
  di : DI B db D n f x s w
section
variable {B sb db : Nat} {D : Dk} {n f x : Int} {s : St} {v : Value} {w w' : World}
theorem DI.nums (h : DI B db D n f x s w) : 0 ≤ n ∧ n ≤ 1000000 ∧ 0 ≤ f ∧ f ≤ x ∧ x ≤ 1000000 := by
  obtain ⟨s0, es, hi, _⟩ := h.inv
  have h1 := hi.n0
  have h2 := hi.n1
  have h3 := hi.f0
  have h4 := hi.x1
  have h5 := hi.xe
  omega
theorem DI.keep (h : DI B db D n f x s w) (hb : Below w.heap.size w w') : DI B db D n f x s w' := ⟨h.env.new h.big hb, h.disk.below hb, h.bd, Nat.le_trans h.big hb.size, h.fits, h.fit, h.inv⟩
theorem DI.drew (h : DI B db D n f x s w) : DI B db D n f x s w.drew := ⟨⟨h.env.tens, h.env.maxl, h.env.errs, h.env.gt, h.env.gm, h.env.g1, h.env.g2⟩, ⟨h.disk.at_, h.disk.len⟩, h.bd, h.big, h.fits, h.fit, h.inv⟩
theorem SO.keep (h : SO B sb db D n f x s v w) (hb : Below w.heap.size w w') : SO B sb db D n f x s v w' := ⟨h.sd.keep hb, h.di.keep hb⟩
theorem SO.drew (h : SO B sb db D n f x s v w) : SO B sb db D n f x s v w.drew := ⟨h.sd.drew, h.di.drew⟩
theorem SD.di {down : Bool} (h : SD B sb db D s v n f x down w) (h1 : D.fits) (h2 : Fit s) (h3 : ∃ s0 es, SInv tagL (blkOf D) n f x s0 es ∧ es.foldl applyS s0 = s) : DI B db D n f x s w := ⟨h.env, h.disk, h.bd, h.big, h1, h2, h3⟩
end
/-- what Open comes to -/
theorem di_open {B db : Nat} {D : Dk} {n f x : Int} {s : St} {W : World} (h : DI B db D n f x s W) :
    Calls Tryz.prog 6 #[.pointer (some ⟨db, 0, none⟩)] W fun e w' => ∃ sb v, e = .returned (.tuple #[.pointer (some ⟨sb, 0, none⟩), .nilIface]) ∧ SO B sb db D n f x s v w' ∧ W.heap.size ≤ sb ∧ Below W.heap.size W w' := by
  obtain ⟨s0, es, hi, rfl⟩ := h.inv
  refine (store_open B db D W h.env h.disk h.bd h.big h.fits n f x s0 es hi).mono ?_
  rintro e w' ⟨sb, v, rfl, hsd, hsb, hb⟩
  exact ⟨sb, v, rfl, ⟨hsd, hsd.di h.fits h.fit ⟨s0, es, hi, rfl⟩⟩, hsb, hb⟩
/-- what Cut comes to -/
theorem cut_blk (D : Dk) (k : Int) : blkOf (D.cutAt k) = blkOf D ∧ (D.cutAt k).blk = D.blk := ⟨rfl, rfl⟩
theorem DI.cut {B db : Nat} {D : Dk} {n f x : Int} {s : St} {w w' : World} (h : DI B db D n f x s w) {k : Int} (hd : DiskAt w' db (D.cutAt k)) (hg : w.grownBy w' (some db)) : DI B db (D.cutAt k) n f x s w' := by
  have hb : Below B w w' := (Below.refl B w).grown hg h.big (fun j hj => by cases hj; exact h.bd)
  exact ⟨h.env.keep hb, hd, h.bd, Nat.le_trans h.big hb.size, h.fits, h.fit, h.inv⟩
theorem SO.cut {B sb db : Nat} {D : Dk} {n f x : Int} {s : St} {v : Value} {w w' : World} (h : SO B sb db D n f x s v w) {k : Int} (hd : DiskAt w' db (D.cutAt k)) (hg : w.grownBy w' (some db)) : SO B sb db (D.cutAt k) n f x s v w' := ⟨h.sd.wrote hd hg, h.di.cut hd hg⟩
/-- behind one more write -/
theorem DI.put {B db : Nat} {D : Dk} {n f x : Int} {s : St} {w : World} (h : DI B db D n f x s w) {e : Ev} (he : evB e = true) (hl : (applyS s e).fams.length ≤ 20) (hx : x - f ≠ 16) (hx1 : x < 1000000) :
    (D.put (x % 16).toNat (txt (evRec tagL x e))).fits ∧ Fit (applyS s e) ∧ ∃ s0 es, SInv tagL (blkOf (D.put (x % 16).toNat (txt (evRec tagL x e)))) n f (x + 1) s0 es ∧ es.foldl applyS s0 = applyS s e := by
  obtain ⟨s0, es, hi, rfl⟩ := h.inv
  have hxe := hi.xe
  have hle := hi.len
  have hf0 := hi.f0
  refine ⟨fits_put h.fits ?_ _, h.fit.apply he hl, s0, es ++ [e], ?_, ?_⟩
  · have h1 := evL_len he
    have h2 := itoaM_len (x := x) (okM_iff.2 (by omega))
    rw [txt_size_]
    unfold evRec
    rw [sealL_len, List.length_append, List.length_cons]
    omega
  · rw [blkOf_put h.disk.len (by omega), data_txt]
    exact hi.add he (by omega) hx1
  · rw [List.foldl_append]
    rfl
theorem DI.saved {B db : Nat} {D D1 : Dk} {n f x : Int} {s : St} {w : World} (h : DI B db D n f x s w) (hn : n < 1000000) {ok : Bool} (ho : SaveOut D (slotAt ((n + 1) % 2).toNat) s.fams (txt (headL tagL (n + 1) x s)) D1 ok) :
    D1.fits ∧ (ok = true → ∃ s0 es, SInv tagL (blkOf D1) (n + 1) x x s0 es ∧ es.foldl applyS s0 = s) ∧ (ok = false → ∃ s0 es, SInv tagL (blkOf D1) n f x s0 es ∧ es.foldl applyS s0 = s) ∧ D1.blk.length = 90 := by
  obtain ⟨hn0, _, hf0, hfx, hx1⟩ := h.nums
  obtain ⟨s0, es, hi, rfl⟩ := h.inv
  obtain ⟨k1, k2, k3⟩ := hi.saveOut h.fit hn h.disk.len ho
  refine ⟨?_, fun e => ⟨es.foldl applyS s0, [], k1 e, rfl⟩, fun e => ⟨s0, es, k2 e, rfl⟩, k3⟩
  rcases ho with ⟨_, _, rfl⟩ | ⟨_, m, hm, _, _, rfl⟩
  · refine fits_put (famD_fits h.fits h.fit.fams _ (Nat.le_refl _)) ?_ _
    rw [txt_size_]
    exact (head_len h.fit (okM_iff.2 (by omega)) (okM_iff.2 (by omega))).2
  · exact famD_fits h.fits h.fit.fams m hm
/-- what Save comes to -/
def SavesTo (W : World) (B sb db : Nat) (n f x : Int) (s : St) (v : Value) (e : Ending) (w' : World) : Prop :=
  Two sb db W w' ∧ ((e = .returned .nilIface ∧ ∃ D', SO B sb db D' (n + 1) x x s v w') ∨ (e = .returned (.iface 47 (.int .i64 14)) ∧ ∃ D', DI B db D' n f x s w'))
theorem so_save {B sb db : Nat} {D : Dk} {n f x : Int} {s : St} {v : Value} {W : World} (h : SO B sb db D n f x s v W) (hn : n < 1000000) :
    Calls Tryz.prog 10 #[.pointer (some ⟨sb, 0, none⟩)] W (SavesTo W B sb db n f x s v) := by
  obtain ⟨hn0, _, hf0, hfx, hx1⟩ := h.di.nums
  refine (store_save B sb db D s v n f x W h.sd h.di.fits h.di.fit hn0 hn (by omega) hx1).mono ?_
  rintro e w' ⟨ok, D1, hso, htw, ⟨rfl, rfl, hsd⟩ | ⟨rfl, rfl, hsd⟩⟩
  · obtain ⟨a, b, _, _⟩ := h.di.saved hn hso
    exact ⟨htw, .inl ⟨rfl, D1, hsd, hsd.di a h.di.fit (b rfl)⟩⟩
  · obtain ⟨a, _, c, _⟩ := h.di.saved hn hso
    exact ⟨htw, .inr ⟨rfl, D1, hsd.di a h.di.fit (c rfl)⟩⟩
/-- what Add comes to -/
def AddsTo (W : World) (B sb db : Nat) (n f x : Int) (s : St) (v : Value) (ev : Ev) (e : Ending) (w' : World) : Prop :=
  Two sb db W w' ∧ (
    (e = .returned .nilIface ∧ evB ev = true ∧ (applyS s ev).fams.length ≤ 20 ∧ ∃ D' n' f' v', SO B sb db D' n' f' (x + 1) (applyS s ev) v' w' ∧ n' ≤ n + 1) ∨
    (∃ c : Int, (c = 1 ∨ c = 12) ∧ e = .returned (.iface 47 (.int .i64 c)) ∧ ∃ D', SO B sb db D' n f x s v w') ∨
    (e = .returned (.iface 47 (.int .i64 14)) ∧ evB ev = true ∧ ∃ D' n' f', DI B db D' n' f' x s w' ∧ n' ≤ n + 1))
theorem so_add {B sb db : Nat} {D : Dk} {n f x : Int} {s : St} {v : Value} {W : World} (h : SO B sb db D n f x s v W) (hn : n < 1000000) (hx : x < 1000000) (ev : Ev) (hs : ev.fam.short 1000) :
    Calls Tryz.prog 11 #[.pointer (some ⟨sb, 0, none⟩), evVal ev] W (AddsTo W B sb db n f x s v ev) := by
  obtain ⟨hn0, _, hf0, hfx, hx1⟩ := h.di.nums
  refine (store_add B sb db D s v n f x ev W h.sd hs h.di.fits h.di.fit hn0 hn hf0 hfx hx).mono ?_
  rintro e w' ⟨htw, ⟨_, rfl, hsd⟩ | ⟨_, _, rfl, hsd⟩ | ⟨he, hl, hxf, hr⟩ | ⟨he, hl, hxf, D1, hso, hr⟩ | ⟨he, hl, hxf, D1, hso, rfl, hsd⟩⟩
  · exact ⟨htw, .inr (.inl ⟨1, .inl rfl, rfl, D, hsd, hsd.di h.di.fits h.di.fit h.di.inv⟩)⟩
  · exact ⟨htw, .inr (.inl ⟨12, .inr rfl, rfl, D, hsd, hsd.di h.di.fits h.di.fit h.di.inv⟩)⟩
  · rcases hr with ⟨_, rfl, hsd⟩ | ⟨_, rfl, v', hsd⟩
    · exact ⟨htw, .inr (.inr ⟨rfl, he, D, n, f, hsd.di h.di.fits h.di.fit h.di.inv, by omega⟩)⟩
    · obtain ⟨a, b, c⟩ := h.di.put he hl hxf hx
      exact ⟨htw, .inl ⟨rfl, he, hl, _, n, f, v', ⟨hsd, hsd.di a b c⟩, by omega⟩⟩
  · obtain ⟨a, b, _, _⟩ := h.di.saved hn hso
    rcases hr with ⟨_, rfl, hsd⟩ | ⟨_, rfl, v', hsd⟩
    · exact ⟨htw, .inr (.inr ⟨rfl, he, D1, n + 1, x, hsd.di a h.di.fit (b rfl), Int.le_refl _⟩)⟩
    · have hD : D1.blk.length = 90 := (h.di.saved hn hso).2.2.2
      obtain ⟨s0, es, hi, hes⟩ := b rfl
      have hxe := hi.xe
      have hle : es.length = 0 := by omega
      have key : (D1.put (x % 16).toNat (txt (evRec tagL x ev))).fits ∧ Fit (applyS s ev) ∧ ∃ s0 es, SInv tagL (blkOf (D1.put (x % 16).toNat (txt (evRec tagL x ev)))) (n + 1) x (x + 1) s0 es ∧ es.foldl applyS s0 = applyS s ev := by
        refine ⟨fits_put a ?_ _, h.di.fit.apply he hl, s0, es ++ [ev], ?_, ?_⟩
        · have h1 := evL_len he
          have h2 := itoaM_len (x := x) (okM_iff.2 (by omega))
          rw [txt_size_]
          unfold evRec
          rw [sealL_len, List.length_append, List.length_cons]
          omega
        · rw [blkOf_put hD (by omega), data_txt]
          exact hi.add he (by omega) hx
        · rw [List.foldl_append, hes]
          rfl
      obtain ⟨k1, k2, k3⟩ := key
      exact ⟨htw, .inl ⟨rfl, he, hl, _, n + 1, x, v', ⟨hsd, hsd.di k1 k2 k3⟩, Int.le_refl _⟩⟩
  · obtain ⟨a, _, c, _⟩ := h.di.saved hn hso
    exact ⟨htw, .inr (.inr ⟨rfl, he, D1, n, f, hsd.di a h.di.fit (c rfl), by omega⟩)⟩
/-- an empty disk -/
def Dk.none_ : Dk := ⟨List.replicate 90 ByteArray.empty, false, 0, 0⟩
theorem new_disk : Tryz.zeroCells28 = Dk.none_.cells := by kernel_rfl
theorem DI.new {B : Nat} {W : World} (hE : Env B W) (hB : B ≤ W.heap.size) : DI B W.heap.size Dk.none_ 0 0 0 startS (W.alloc (.cells Tryz.zeroCells28 28)) := by
  have hb : Below W.heap.size W (W.alloc (.cells Tryz.zeroCells28 28)) := (Below.refl _ _).alloc (Nat.le_refl _) _
  have hz : ∀ k, Dk.none_.blk.getD k ByteArray.empty = ByteArray.empty := fun k => by
    unfold Dk.none_
    rw [List.getD_eq_getElem?_getD, List.getElem?_replicate]
    split <;> rfl
  refine ⟨hE.new hB hb, ⟨?_, by simp [Dk.none_]⟩, hB, Nat.le_trans hB hb.size, fun k => by rw [hz]; exact Nat.zero_le _, Fit.start, startS, [], ?_, rfl⟩
  · rw [new_disk]
    exact Blk.new W _ _
  · have : blkOf Dk.none_ = fun _ => [] := by
      funext k
      unfold blkOf
      rw [hz]
      rfl
    rw [this]
    exact empty_inv tagL
end Go.Proofs.YtdogilbnbbeljaaGreatDoor

/-
  rotorkeep.kept: a store that is opened anew.
-/
namespace Go.Proofs.YtdogilbnbbeljaaGreatDoor
open Go.RowKit Go.Sort

def tick7 : Ev := ⟨3, Fam.zero, 0, 7⟩
theorem tick7_may : evB tick7 = true := by decide
theorem tick7_apply : applyS startS tick7 = ⟨7, 1, []⟩ := rfl
/-- the first event of an empty disk -/
theorem kept_add {B sb db : Nat} {v : Value} {w : World} (h : SO B sb db Dk.none_ 0 0 0 startS v w) :
    Calls Tryz.prog 11 #[.pointer (some ⟨sb, 0, none⟩), .agg #[.int .i64 3, .int .i64 0, .string ⟨#[]⟩, .string ⟨#[]⟩, .string ⟨#[]⟩, .int .i64 0, .int .i64 0, .int .i64 0, .string ⟨#[]⟩, .bool false, .int .i64 0, .int .i64 7]] w
      fun e w' => e = .returned .nilIface ∧ Two sb db w w' ∧ ∃ v' D', SO B sb db D' 0 0 1 ⟨7, 1, []⟩ v' w' := by
  refine (store_add B sb db Dk.none_ startS v 0 0 0 tick7 w h.sd (by unfold tick7 Fam.zero Fam.short; decide) h.di.fits Fit.start (Int.le_refl _) (by decide) (Int.le_refl _) (Int.le_refl _) (by decide)).mono ?_
  rintro e w' ⟨htw, ⟨h1, _⟩ | ⟨_, h1, _⟩ | ⟨_, _, _, hr⟩ | ⟨_, _, h1, _⟩ | ⟨_, _, h1, _⟩⟩
  · rw [tick7_may] at h1
    cases h1
  · rw [tick7_apply] at h1
    exact absurd h1 (by decide)
  · rcases hr with ⟨h1, _⟩ | ⟨_, rfl, v', hsd⟩
    · cases h1
    · obtain ⟨a, b, c⟩ := h.di.put tick7_may (by rw [tick7_apply]; decide) (by decide) (by decide)
      exact ⟨rfl, htw, v', _, hsd, hsd.di a b c⟩
  · exact absurd h1 (by decide)
  · exact absurd h1 (by decide)
set_option maxHeartbeats 8000000 in
set_option maxRecDepth 100000 in
theorem kept_yes (B : Nat) (W : World) (hE : Env B W) (hB : B ≤ W.heap.size) :
    Calls Tryz.prog 5 #[] W fun e w' => e = .returned (.bool true) ∧ Below W.heap.size W w' := by
  have H0 := Lib.hid (DI.new hE hB)
  have HB0 := Lib.hid (show Below W.heap.size W (W.alloc (.cells Tryz.zeroCells28 28)) from (Below.refl _ _).alloc (Nat.le_refl _) _)
  go_enter Tryz.func5, Tryz.ntmps5
  go_wp2_with fail
  go_at_call 6
  refine (di_open H0.out).mono ?_
  rintro e w1 ⟨sb, v, rfl, hso, hsb, hb⟩
  have HS := Lib.hid hso
  have HB1 := Lib.hid (below_2 HB0.out hb)
  have hsbl : W.heap.size ≤ sb := Nat.le_trans HB0.out.size hsb
  clear hso hb hsb
  have HADD := Lib.hid (fun w (h : SO B sb W.heap.size Dk.none_ 0 0 0 startS v w) => kept_add h)
  go_wp2_with fail
  go_at_call 11
  refine (HADD.out _ HS.out).mono ?_
  rintro e w2 ⟨rfl, htw, v', D', hso⟩
  have HS2 := Lib.hid hso
  have HB2 := Lib.hid (Two.below htw HB1.out HB1.out.size hsbl (Nat.le_refl _))
  clear hso htw HADD
  go_wp2_with fail
  go_at_call 6
  refine (di_open HS2.out.di).mono ?_
  rintro e w3 ⟨sb2, v2, rfl, hso, hsb, hb⟩
  have HS3 := Lib.hid hso
  have HB3 := Lib.hid (below_2 HB2.out hb)
  clear hso hb
  have HST := Lib.hid (fun w h => store_state B sb2 W.heap.size ⟨7, 1, []⟩ v2 0 0 1 false w (SO.sd h).st (SO.sd h).row (by decide) : ∀ w, SO B sb2 W.heap.size D' 0 0 1 ⟨7, 1, []⟩ v2 w → _)
  have HLG := Lib.hid (fun w h => store_log sb2 W.heap.size ⟨7, 1, []⟩ v2 0 0 1 false w (SO.sd h).st (Int.le_refl _) (by decide) (by decide) : ∀ w, SO B sb2 W.heap.size D' 0 0 1 ⟨7, 1, []⟩ v2 w → _)
  go_wp2_with fail
  refine (HST.out _ HS3.out).mono ?_
  rintro e w4 ⟨v4, rfl, hr, hb⟩
  obtain ⟨xa, xc, rfl⟩ := hr.slice
  clear hr
  have HS4 := Lib.hid (HS3.out.keep hb)
  have HB4 := Lib.hid (below_2 HB3.out hb)
  clear hb
  unfold stVal stCs
  dsimp only
  have hfd : ∀ w : World, (Instr.field 36 (.agg #[.int .i64 7, .int .i64 1, .slice xa 0 xc]) 0).run Tryz.prog w = .ok (.int .i64 7) w := fun _ => by kernel_rfl
  go_wp2_with fail
  refine (HLG.out _ HS4.out).mono ?_
  rintro e w5 ⟨rfl, hb⟩
  have HB5 := Lib.hid (below_2 HB4.out hb)
  go_wp2_with fail
  go_ret
  exact ⟨rfl, HB5.out⟩
end Go.Proofs.YtdogilbnbbeljaaGreatDoor
