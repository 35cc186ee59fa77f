/-
  A store's block; its small methods: Log, Down, fail, State; slot.
-/
import Derived.Test.YtepjcdjpikbbjaaGreatDoorP11
import Derived.Test.YtepjcdjpikbbjaaGreatDoorP07
import Derived.Test.YtepjcdjpikbbjaaGreatDoorP12
import Derived.Test.YtepjcdjpikbbjaaGreatDoorP04
import Derived.Test.YtepjcdjpikbbjaaGreatDoorP05
import Derived.Test.YtepjcdjpikbbjaaGreatDoorP01
import Derived.OrdersHeld
import Derived.Deep.RegionHeld3
import Derived.Test.YtepjcdjpikbbjaaGreatDoorP03
namespace Go.Proofs.YtepjcdjpikbbjaaGreatDoor
open Go.RowKit Go.Sort

def storeCs (db : Nat) (s : St) (v : Value) (n f x : Int) (down : Bool) : Array Value := #[.pointer (some ⟨db, 0, none⟩), .int .i64 s.clock, .int .i64 s.next, v, .int .i64 n, .int .i64 f, .int .i64 x, .bool down]
/-- a store at a block -/
def StAt (w : World) (sb db : Nat) (s : St) (v : Value) (n f x : Int) (down : Bool) : Prop := Blk w sb 112 (storeCs db s v n f x down)
theorem StAt.cells {w : World} {sb db : Nat} {ck nx : Int} {L : List Fam} {v : Value} {n f x : Int} {down : Bool} (h : StAt w sb db ⟨ck, nx, L⟩ v n f x down) :
    w.cell? ⟨sb, 0, none⟩ = some (.pointer (some ⟨db, 0, none⟩)) ∧ w.cell? ⟨sb, 1, none⟩ = some (.int .i64 ck) ∧ w.cell? ⟨sb, 2, none⟩ = some (.int .i64 nx) ∧ w.cell? ⟨sb, 3, none⟩ = some v ∧ w.cell? ⟨sb, 4, none⟩ = some (.int .i64 n) ∧
    w.cell? ⟨sb, 5, none⟩ = some (.int .i64 f) ∧ w.cell? ⟨sb, 6, none⟩ = some (.int .i64 x) ∧ w.cell? ⟨sb, 7, none⟩ = some (.bool down) ∧ (∀ j, w.frozen? ⟨sb, j, none⟩ = false) ∧ sb < w.heap.size :=
  ⟨Blk.cell h 0, Blk.cell h 1, Blk.cell h 2, Blk.cell h 3, Blk.cell h 4, Blk.cell h 5, Blk.cell h 6, Blk.cell h 7, Blk.frozen h, Blk.lt h⟩

theorem two_cells {w : World} {g : Nat} {T : TypeId} {k0 k1 k2 : Value} (h : Blk w g T #[k0, k1, k2]) : w.cell? ⟨g, 0, none⟩ = some k0 ∧ w.cell? ⟨g, 1, none⟩ = some k1 ∧ w.cell? ⟨g, 2, none⟩ = some k2 := ⟨h.cell 0, h.cell 1, h.cell 2⟩
theorem store_log (sb db : Nat) (s : St) (v : Value) (n f x : Int) (down : Bool) (W : World) (h : StAt W sb db s v n f x down) (h0 : 0 ≤ f) (h1 : f ≤ x) (h2 : x ≤ 1000000) :
    Calls Tryz.prog 128 #[.pointer (some ⟨sb, 0, none⟩)] W fun e w' => e = .returned (.int .i64 (x - f)) ∧ Below W.heap.size W w' := by
  obtain ⟨ck, nx, L⟩ := s
  obtain ⟨c0, c1, c2, c3, c4, c5, c6, c7, z, hlt⟩ := h.cells
  clear h
  go_enter Tryz.func128, Tryz.ntmps128
  go_wp2_with fail
  go_quiet (fail)
  go_wp2_with fail
  go_ret
  exact ⟨rfl, below_drewN (Below.refl _ _) _⟩
theorem store_down (sb db : Nat) (s : St) (v : Value) (n f x : Int) (down : Bool) (W : World) (h : StAt W sb db s v n f x down) :
    Calls Tryz.prog 129 #[.pointer (some ⟨sb, 0, none⟩)] W fun e w' => e = .returned (.bool down) ∧ Below W.heap.size W w' := by
  obtain ⟨ck, nx, L⟩ := s
  obtain ⟨c0, c1, c2, c3, c4, c5, c6, c7, z, hlt⟩ := h.cells
  clear h
  go_enter Tryz.func129, Tryz.ntmps129
  go_wp2_with fail
  go_ret
  exact ⟨rfl, Below.refl _ _⟩
theorem store_slot (n : Int) (W : World) (h0 : 0 ≤ n) (_ : n ≤ 1000001) : Calls Tryz.prog 103 #[.int .i64 n] W fun e w' => e = .returned (.int .i64 (slotAt (n % 2).toNat : Nat)) ∧ W = w' := by
  have h3 : n % 2 = 0 ∨ n % 2 = 1 := by omega
  have hr : n.tmod 2 = n % 2 := by exact Int.tmod_eq_emod_of_nonneg h0
  have hs : (slotAt (n % 2).toNat : Int) = 16 + n % 2 * 21 := by
    rcases h3 with h | h <;> rw [h] <;> decide
  rw [hs]
  have HR := Lib.hid hr
  go_enter Tryz.func103, Tryz.ntmps103
  go_wp2_with fail
  go_ret
  refine ⟨?_, rfl⟩
  show Ending.returned (Value.int _ _) = _
  congr 2
/-- fail: the power went off -/
theorem store_fail (sb db : Nat) (s : St) (v : Value) (n f x : Int) (down : Bool) (W : World) (h : StAt W sb db s v n f x down) :
    Calls Tryz.prog 188 #[.pointer (some ⟨sb, 0, none⟩), .iface 57 (.int .i64 14)] W fun e w' => e = .returned (.iface 57 (.int .i64 14)) ∧ StAt w' sb db s v n f x true ∧ W.grownBy w' (some sb) := by
  obtain ⟨ck, nx, L⟩ := s
  obtain ⟨c0, c1, c2, c3, c4, c5, c6, c7, z, hlt⟩ := h.cells
  have HS := Lib.hid (show StAt (W.setCell ⟨sb, 7, none⟩ (.bool true)) sb db ⟨ck, nx, L⟩ v n f x true from Blk.put_ h 7 (.bool true) rfl)
  have HG := Lib.hid (only_set1 W sb ⟨sb, 7, none⟩ rfl (.bool true))
  clear h
  cases down
  all_goals
    go_enter Tryz.func188, Tryz.ntmps188
    go_wp2_with fail
    go_ret
    exact ⟨rfl, HS.out, HG.out⟩
/-- State: a copy of what it has -/
theorem state_end {W w : World} {A : Act} {s : St} {v : Value} (hr : FRow w W.heap.size v s.fams) (h1 : v.ownBlock ≠ some W.heap.size) (h2 : v.ownBlock ≠ some (W.heap.size + 1)) (hb : Below W.heap.size W w)
    (h3 : Blk w W.heap.size 83 #[.int .i64 0, .int .i64 0, .slice none 0 0]) 
    (hp : A.tmps.getD 2 undef = .pointer (some ⟨W.heap.size, 0, none⟩)) (hd : A.defers = []) :
    bodyPost Tryz.prog Tryz.f177 (ApplyGot W s) Exit.ret A ((((w.setCell ⟨W.heap.size + 1, 2, none⟩ v).setCell ⟨W.heap.size, 0, none⟩ (.int .i64 s.clock)).setCell ⟨W.heap.size, 1, none⟩ (.int .i64 s.next)).setCell ⟨W.heap.size, 2, none⟩ v) := by
  have g0 := only_set1 w (W.heap.size + 1) ⟨W.heap.size + 1, 2, none⟩ rfl v
  have k3 := h3.grown g0 (by simp)
  have kr := hr.kept g0 h2
  have kb := hb.setCell (p := ⟨W.heap.size + 1, 2, none⟩) (Nat.le_succ _) v
  generalize w.setCell ⟨W.heap.size + 1, 2, none⟩ v = w1 at *
  have e1 := k3.put_ 0 (.int .i64 s.clock) (cs' := #[.int .i64 s.clock, .int .i64 0, .slice none 0 0]) rfl
  have e2 := e1.put_ 1 (.int .i64 s.next) (cs' := #[.int .i64 s.clock, .int .i64 s.next, .slice none 0 0]) rfl
  have e3 := e2.put_ 2 v (cs' := stCs s v) rfl
  have g1 := only_set1 w1 W.heap.size ⟨W.heap.size, 0, none⟩ rfl (.int .i64 s.clock)
  have g2 := only_setCell g1 (p := ⟨W.heap.size, 1, none⟩) (.inl rfl) (.int .i64 s.next)
  have g3 := only_setCell g2 (p := ⟨W.heap.size, 2, none⟩) (.inl rfl) v
  have kb3 := kb.grown g3 kb.size (fun j hj => by cases hj; exact Nat.le_refl _)
  have kr3 := kr.kept g3 h1
  generalize ((w1.setCell ⟨W.heap.size, 0, none⟩ (.int .i64 s.clock)).setCell ⟨W.heap.size, 1, none⟩ (.int .i64 s.next)).setCell ⟨W.heap.size, 2, none⟩ v = w2 at *
  exact bodyPost_ret (results_cell_row rfl A.tmps w2 _ _ _ (0, 0) _ hp e3 Tryz.underlying83 rfl (by kernel_rfl)) hd ⟨v, rfl, kr3, kb3⟩
set_option maxHeartbeats 1000000 in
theorem store_state (B sb db : Nat) (s : St) (v : Value) (n f x : Int) (down : Bool) (W : World) (h : StAt W sb db s v n f x down) (hr : FRow W B v s.fams) (hl : s.fams.length ≤ 1000000) :
    Calls Tryz.prog 177 #[.pointer (some ⟨sb, 0, none⟩)] W (ApplyGot W s) := by
  obtain ⟨sa, sc, rfl⟩ := hr.slice
  have hb0 := alloc2 W (.cells #[.int .i64 0, .int .i64 0, .slice none 0 0] 83) (.cells #[.int .i64 s.clock, .int .i64 s.next, .slice sa s.fams.length sc] 83)
  have HC := Lib.hid (fam_clone B _ s.fams _ (hr.below hb0) hl)
  have HB0 := Lib.hid hb0
  have a3 : Blk ((W.alloc (.cells #[.int .i64 0, .int .i64 0, .slice none 0 0] 83)).alloc (.cells #[.int .i64 s.clock, .int .i64 s.next, .slice sa s.fams.length sc] 83)) W.heap.size 83 #[.int .i64 0, .int .i64 0, .slice none 0 0] := (Blk.new W _ _).alloc _
  have a4 : Blk ((W.alloc (.cells #[.int .i64 0, .int .i64 0, .slice none 0 0] 83)).alloc (.cells #[.int .i64 s.clock, .int .i64 s.next, .slice sa s.fams.length sc] 83)) (W.heap.size + 1) 83 (stCs s (.slice sa s.fams.length sc)) := by
    have := Blk.new (W.alloc (.cells #[.int .i64 0, .int .i64 0, .slice none 0 0] 83)) 83 (stCs s (.slice sa s.fams.length sc))
    rw [show (W.alloc (.cells #[.int .i64 0, .int .i64 0, .slice none 0 0] 83)).heap.size = W.heap.size + 1 by simp] at this
    exact this
  have hsz : W.heap.size + 1 + 1 ≤ ((W.alloc (.cells #[.int .i64 0, .int .i64 0, .slice none 0 0] 83)).alloc (.cells #[.int .i64 s.clock, .int .i64 s.next, .slice sa s.fams.length sc] 83)).heap.size := by simp
  have A3 := Lib.hid a3
  have A4 := Lib.hid a4
  have HSZ := Lib.hid hsz
  obtain ⟨ck, nx, L⟩ := s
  dsimp only at *
  obtain ⟨c0, c1, c2, c3, c4, c5, c6, c7, z, hlt⟩ := h.cells
  clear h hr hb0 a3 a4 hsz
  go_enter Tryz.func177, Tryz.ntmps177
  go_wp2_with fail
  go_at_call 109
  refine HC.out.mono ?_
  rintro e w1 ⟨v1, rfl, hr1, hb1⟩
  have h3 := A3.out.below' hb1
  have h4 := A4.out.below' hb1
  obtain ⟨xa, xc, rfl⟩ := hr1.slice
  have HR := Lib.hid hr1
  have H3 := Lib.hid h3
  have H4 := Lib.hid h4
  have HB := Lib.hid (below_2 HB0.out hb1)
  obtain ⟨m0, m1, m2⟩ := two_cells h4
  have z3 := h3.frozen
  have z4 := h4.frozen
  have l3 := h3.cell 0
  have l4 := h3.cell 1
  have l5 := h3.cell 2
  clear hr1 hb1 h3 h4 HC A3 A4 HB0
  go_wp2_with fail
  have hz := HSZ.out
  exact state_end (s := ⟨ck, nx, L⟩) (HR.out.mono (by omega)) (fun he => by have := (HR.out.lt _ he).1; omega) (fun he => by have := (HR.out.lt _ he).1; omega) HB.out H3.out rfl rfl
end Go.Proofs.YtepjcdjpikbbjaaGreatDoor

/-
  The packages' variables, below all that a law makes; a store with its disk.
-/
namespace Go.Proofs.YtepjcdjpikbbjaaGreatDoor
open Go.RowKit Go.Sort

/-- the packages' variables lie below B -/
structure Env (B : Nat) (w : World) : Prop where
  tens : Tens w
  maxl : MaxL w
  errs : ErrVars w
  gt : 7 < B
  gm : 4 < B
  g1 : 5 < B
  g2 : 6 < B
section
variable {B : Nat} {w w' : World}
theorem Env.start {W : World} (h : WB W W) (he : ErrVars W) : Env W.heap.size W := ⟨h.tens, h.maxl, he, h.tens.lt, h.maxl.lt, he.lt.1, he.lt.2⟩
theorem Env.keep (h : Env B w) (hb : Below B w w') : Env B w' := ⟨h.tens.below hb h.gt, h.maxl.below hb h.gm, h.errs.below hb h.g1 h.g2, h.gt, h.gm, h.g1, h.g2⟩
theorem Env.wb (h : Env B w) : WB w w := ⟨Below.refl _ _, h.tens, h.maxl⟩
theorem Env.new (h : Env B w) (hB : B ≤ w.heap.size) (hb : Below w.heap.size w w') : Env B w' := h.keep (hb.mono hB)
end

/-- a store at its block, over its disk -/
structure SD (B sb db : Nat) (D : Dk) (s : St) (v : Value) (n f x : Int) (down : Bool) (w : World) : Prop where
  env : Env B w
  st : StAt w sb db s v n f x down
  disk : DiskAt w db D
  row : FRow w B v s.fams
  bs : B ≤ sb
  bd : B ≤ db
section
variable {B sb db : Nat} {D D' : Dk} {s : St} {v : Value} {n f x : Int} {down : Bool} {w w' : World}
theorem SD.big (h : SD B sb db D s v n f x down w) : B ≤ w.heap.size := Nat.le_of_lt (Nat.lt_of_le_of_lt h.bs (Blk.lt h.st))
theorem SD.keep (h : SD B sb db D s v n f x down w) (hb : Below w.heap.size w w') : SD B sb db D s v n f x down w' := ⟨h.env.new h.big hb, Blk.below' h.st hb, h.disk.below hb, h.row.below hb, h.bs, h.bd⟩
theorem SD.apart (h : SD B sb db D s v n f x down w) : v.ownBlock ≠ some sb ∧ v.ownBlock ≠ some db ∧ sb ≠ db := ⟨h.row.apart h.st (by decide), h.row.apart h.disk.at_ (by decide), Blk.ne_ h.st h.disk.at_ (by decide)⟩
/-- the disk was written -/
theorem SD.wrote (h : SD B sb db D s v n f x down w) (hd : DiskAt w' db D') (hg : w.grownBy w' (some db)) : SD B sb db D' s v n f x down w' := by
  obtain ⟨h1, h2, h3⟩ := h.apart
  have hb : Below B w w' := (Below.refl B w).grown hg h.big (fun k hk => by cases hk; exact h.bd)
  exact ⟨h.env.keep hb, Blk.grown h.st hg (by simpa using h3), hd, h.row.kept hg h2, h.bs, h.bd⟩
/-- the store's block was written -/
theorem SD.noted (h : SD B sb db D s v n f x down w) {n' f' x' : Int} {down' : Bool} (hs : StAt w' sb db s v n' f' x' down') (hg : w.grownBy w' (some sb)) : SD B sb db D s v n' f' x' down' w' := by
  obtain ⟨h1, h2, h3⟩ := h.apart
  have hb : Below B w w' := (Below.refl B w).grown hg h.big (fun k hk => by cases hk; exact h.bs)
  exact ⟨h.env.keep hb, hs, h.disk.grown hg (by simpa using Ne.symm h3), h.row.kept hg h1, h.bs, h.bd⟩
theorem SD.cells {ck nx : Int} {L : List Fam} (h : SD B sb db D ⟨ck, nx, L⟩ v n f x down w) :
    w.cell? ⟨sb, 0, none⟩ = some (.pointer (some ⟨db, 0, none⟩)) ∧ w.cell? ⟨sb, 1, none⟩ = some (.int .i64 ck) ∧ w.cell? ⟨sb, 2, none⟩ = some (.int .i64 nx) ∧ w.cell? ⟨sb, 3, none⟩ = some v ∧ w.cell? ⟨sb, 4, none⟩ = some (.int .i64 n) ∧
    w.cell? ⟨sb, 5, none⟩ = some (.int .i64 f) ∧ w.cell? ⟨sb, 6, none⟩ = some (.int .i64 x) ∧ w.cell? ⟨sb, 7, none⟩ = some (.bool down) ∧ (∀ j, w.frozen? ⟨sb, j, none⟩ = false) ∧ sb < w.heap.size := h.st.cells
end
theorem SD.drew {B sb db : Nat} {D : Dk} {s : St} {v : Value} {n f x : Int} {down : Bool} {w : World} (h : SD B sb db D s v n f x down w) : SD B sb db D s v n f x down w.drew := ⟨⟨h.env.tens, h.env.maxl, h.env.errs, h.env.gt, h.env.gm, h.env.g1, h.env.g2⟩, h.st, ⟨h.disk.at_, h.disk.len⟩, h.row, h.bs, h.bd⟩
theorem SD.four {B sb db : Nat} {D : Dk} {ck nx : Int} {L : List Fam} {v : Value} {n f x : Int} {down : Bool} {w : World} (h : SD B sb db D ⟨ck, nx, L⟩ v n f x down w) :
    w.cell? ⟨sb, 1, none⟩ = some (.int .i64 ck) ∧ w.cell? ⟨sb, 2, none⟩ = some (.int .i64 nx) ∧ w.cell? ⟨sb, 3, none⟩ = some v ∧ w.cell? ⟨sb, 6, none⟩ = some (.int .i64 x) := ⟨Blk.cell h.st 1, Blk.cell h.st 2, Blk.cell h.st 3, Blk.cell h.st 6⟩
theorem SD.one {B sb db : Nat} {D : Dk} {s : St} {v : Value} {n f x : Int} {down : Bool} {w : World} (h : SD B sb db D s v n f x down w) : w.cell? ⟨sb, 0, none⟩ = some (.pointer (some ⟨db, 0, none⟩)) := Blk.cell h.st 0
/-- a saved slot is noted -/
theorem SD.number {B sb db : Nat} {D : Dk} {s : St} {v : Value} {n f x : Int} {w : World} (h : SD B sb db D s v n f x false w) (n' f' : Int) : SD B sb db D s v n' f' x false ((w.setCell ⟨sb, 4, none⟩ (.int .i64 n')).setCell ⟨sb, 5, none⟩ (.int .i64 f')) ∧ w.grownBy ((w.setCell ⟨sb, 4, none⟩ (.int .i64 n')).setCell ⟨sb, 5, none⟩ (.int .i64 f')) (some sb) := by
  have k1 := Blk.put_ h.st 4 (.int .i64 n') (cs' := storeCs db s v n' f x false) rfl
  have k2 := Blk.put_ k1 5 (.int .i64 f') (cs' := storeCs db s v n' f' x false) rfl
  have g1 := only_set1 w sb ⟨sb, 4, none⟩ rfl (.int .i64 n')
  have g2 := only_setCell g1 (p := ⟨sb, 5, none⟩) (.inl rfl) (.int .i64 f')
  exact ⟨h.noted k2 g2, g2⟩
theorem fam_short {f : Fam} (h : famB f = true) : f.short 5000 := by
  obtain ⟨_, _, _, _, h5, h6, h7, h8⟩ := famB_parts h
  have a := nameB_len h5
  have b := nameB_len h6
  have c := reqB_20 h7
  have d := scopeB_len h8
  rw [size_data] at a b c d
  exact ⟨by omega, by omega, by omega, by omega⟩
theorem itoaM_c (x : Int) (hx : okM x = true) (w : World) (hT : Tens w) : Calls Tryz.prog 26 #[.int .i64 x] w fun e w' => e = .returned (.string (itoS x)) ∧ Below w.heap.size w w' := by
  have h := okM_iff.1 hx
  refine (Tryz.strconv_Itoa x (by omega) (by omega) w hT).mono ?_
  rintro e w' ⟨rfl, k, os, rfl⟩
  exact ⟨rfl, below_grown w k os⟩
theorem nums_below {w w' : World} {B n : Nat} {e : TypeId} {v : Value} {xs : List Value} (h : w.ownsRow B e 1 v n xs) (hb : Below w.heap.size w w') : w'.ownsRow B e 1 v n xs :=
  h.kept (only_of_below hb (some w.heap.size)) (.inr (fun he => by have := (h.lt _ he).2; omega))
theorem ints_below {w w' : World} {g : Nat} {L : List Int} (h : IntsAt w g L) (hb : Below w.heap.size w w') : IntsAt w' g L := by
  intro j hj
  have h1 := h j hj
  have hlt : g < w.heap.size := World.block_lt_of_cell? w _ h1
  rw [hb.cell (p := ⟨g, j, none⟩) hlt]
  exact h1
/-- numbers turned into texts, one behind the other -/
structure TN (W : World) (g : Nat) (L : List Int) (k : Nat) (out : Value) (w : World) : Prop where
  below : Below W.heap.size W w
  ints : IntsAt w g L
  row : w.ownsRow W.heap.size 9 1 out k ((L.take k).map fun x => encStr (Lib.itoa x))
theorem TN.start {W : World} {g : Nat} {L : List Int} (hi : IntsAt W g L) : TN W g L 0 (.slice none 0 0) W := ⟨Below.refl _ _, hi, World.ownsRow_nil _ _ _ _⟩
theorem TN.call {W w w1 : World} {g k : Nat} {L : List Int} {out : Value} (h : TN W g L k out w) (hb : Below w.heap.size w w1) : TN W g L k out w1 := ⟨below_2 h.below hb, ints_below h.ints hb, nums_below h.row hb⟩
theorem TN.next {W w1 w3 : World} {g k : Nat} {L : List Int} {out v' : Value} {o : Obj} (hi : IntsAt W g L) (h : TN W g L k out w1) (hk : k < L.length) {y : Value} (hy : y = encStr (Lib.itoa (L.getD k 0)))
    (ho : w3.ownsRow W.heap.size 9 1 v' (k + 1) ((L.take k).map (fun x => encStr (Lib.itoa x)) ++ [y])) (hg : (w1.alloc o).grownBy w3 out.ownBlock) : TN W g L (k + 1) v' w3 := by
  have b1 : Below W.heap.size W (w1.alloc o) := h.below.alloc h.below.size o
  have b2 : Below W.heap.size W w3 := b1.grown hg b1.size fun i e => (h.row.lt i e).1
  refine ⟨b2, ints_below hi b2, ?_⟩
  have e : (L.take (k + 1)).map (fun x => encStr (Lib.itoa x)) = (L.take k).map (fun x => encStr (Lib.itoa x)) ++ [y] := by
    rw [List.take_add_one, List.getElem?_eq_getElem hk, List.map_append, hy]
    simp [List.getD, hk]
  rw [e]
  exact ho
end Go.Proofs.YtepjcdjpikbbjaaGreatDoor

/-
  A slot that is read, in plain Lean: its words, its families one behind the other.
-/
namespace Go.Proofs.YtepjcdjpikbbjaaGreatDoor

theorem st_apply_ok {s : St} {e : Ev} (h : StOk s) (hn : s.fams.length ≤ 60) (he : evB e = true) : StOk (applyS s e) := by
  refine ⟨applyS_asc h.asc e, applyS_ids h.ids ?_, ?_⟩
  · intro hk
    rcases evB_kind he with ⟨_, _, _, hf⟩ | ⟨h1, _⟩ | ⟨h1, _⟩
    · exact (famB_parts hf).1
    · omega
    · omega
  · have := applyS_len s e
    omega
theorem st_none (c d : Int) : StOk ⟨c, d, []⟩ := ⟨List.Pairwise.nil, fun f hf => by simp at hf, Nat.zero_le _⟩
section
variable {blk : Nat → List UInt8} {at_ : Nat} {s : St}
theorem famsR_zero : famsR blk at_ s 0 = some (s, []) := rfl
theorem famsR_some {n : Nat} {st : St} {all : List UInt8} (h : famsR blk at_ s n = some (st, all)) :
    famsR blk at_ s (n + 1) = if readB (blk (at_ + 1 + n)) && decide ((readE (blk (at_ + 1 + n))).kind = 1) then some (applyS st (readE (blk (at_ + 1 + n))), all ++ blk (at_ + 1 + n) ++ [10]) else none := by
  rw [famsR, h]
theorem famsR_stop {n m : Nat} (h : famsR blk at_ s n = none) (hm : n ≤ m) : famsR blk at_ s m = none := by
  induction m with
  | zero =>
    obtain rfl : n = 0 := by omega
    exact h
  | succ m ih =>
    rcases Nat.lt_or_ge m n with hlt | hge
    · obtain rfl : n = m + 1 := by omega
      exact h
    · rw [famsR, ih hge]
/-- the state behind some families, and their lines -/
theorem famsR_ok (hs : StOk s) (h0 : s.fams = []) (hb : ∀ k, (blk k).length ≤ 240) : ∀ (n : Nat), n ≤ 20 → ∀ (st : St) (all : List UInt8), famsR blk at_ s n = some (st, all) → StOk st ∧ st.fams.length ≤ n ∧ all.length ≤ 241 * n
  | 0, _, st, all, h => by
    rw [famsR_zero] at h
    obtain ⟨rfl, rfl⟩ := Prod.mk.inj (Option.some.inj h)
    exact ⟨hs, by rw [h0]; exact Nat.le_refl _, Nat.zero_le _⟩
  | n + 1, hn, st, all, h => by
    rcases e : famsR blk at_ s n with _ | ⟨st', all'⟩
    · rw [famsR_stop e (Nat.le_succ n)] at h
      cases h
    · obtain ⟨h1, h2, h3⟩ := famsR_ok hs h0 hb n (by omega) st' all' e
      rw [famsR_some e] at h
      split at h
      · rename_i hr
        rw [Bool.and_eq_true] at hr
        obtain ⟨rfl, rfl⟩ := Prod.mk.inj (Option.some.inj h)
        have h4 := applyS_len st' (readE (blk (at_ + 1 + n)))
        have h5 := hb (at_ + 1 + n)
        refine ⟨st_apply_ok h1 (by omega) (readE_may hr.1), by omega, ?_⟩
        rw [List.length_append, List.length_append, List.length_singleton]
        omega
      · cases h
end
section
variable (tg : Int → List UInt8 → List UInt8)
/-- a slot's words -/
def loadL (blk : Nat → List UInt8) (k : Nat) (L : List (List UInt8)) : Option (Int × Int × St) :=
  if (L.take 5).all numM && decide (atoiN (L.getD 4 []) ≤ 20) then
    match famsR blk (slotAt k) ⟨atoiN (L.getD 2 []), atoiN (L.getD 3 []), []⟩ (atoiN (L.getD 4 [])).toNat with
    | some (st, all) => if tg 1 all = L.getD 5 [] ∧ atoiN (L.getD 0 []) % 2 = (k : Int) then some (atoiN (L.getD 0 []), atoiN (L.getD 1 []), st) else none
    | none => none
  else none
theorem loadR_none {blk : Nat → List UInt8} {k : Nat} (h : openL tg (blk (slotAt k)) = none) : loadR tg blk k = none := by
  unfold loadR
  rw [h]
theorem loadR_len {blk : Nat → List UInt8} {k : Nat} {x : List UInt8} (h : openL tg (blk (slotAt k)) = some x) (hl : (parts 32 x).length ≠ 6) : loadR tg blk k = none := by
  unfold loadR
  rw [h]
  dsimp only
  split
  · rename_i e
    rw [e] at hl
    exact absurd rfl hl
  · rfl
theorem loadR_words {blk : Nat → List UInt8} {k : Nat} {x : List UInt8} (h : openL tg (blk (slotAt k)) = some x) (hl : (parts 32 x).length = 6) : loadR tg blk k = loadL tg blk k (parts 32 x) := by
  unfold loadR
  rw [h]
  dsimp only
  rcases hp : parts 32 x with _ | ⟨a, _ | ⟨b, _ | ⟨c, _ | ⟨d, _ | ⟨e, _ | ⟨t, _ | ⟨u, r⟩⟩⟩⟩⟩⟩⟩
  all_goals (rw [hp] at hl; try (exfalso; simp at hl; done))
  unfold loadL
  simp only [List.take_succ_cons, List.take_zero, List.all_cons, List.all_nil, Bool.and_true, Bool.and_assoc]
  rfl
end
end Go.Proofs.YtepjcdjpikbbjaaGreatDoor

/-
  store.Store's load: what is known while a slot is read, and what load gives.
-/
namespace Go.Proofs.YtepjcdjpikbbjaaGreatDoor
open Go.RowKit Go.Sort

/-- what load gives -/
def LoadGot (W : World) (o : Option (Int × Int × St)) (x : Ending) (w' : World) : Prop :=
  ∃ (a b : Int) (st : St) (v : Value) (ok : Bool), x = .returned (.tuple #[.int .i64 a, .int .i64 b, stVal st v, .bool ok]) ∧ FRow w' W.heap.size v st.fams ∧ Below W.heap.size W w' ∧ (match o with | some t => ok = true ∧ t = (a, b, st) | none => ok = false)
theorem results_load {P : Program} {fn : Func} {i j p u : Tmp} {ty : TypeId} (h : fn.results = #[.tmp i, .tmp j, .cell p ty, .tmp u]) (tmps : Array Value) (w : World) (g : Nat) (t : TypeId) (cs : Array Value) (d : TypeDesc) (x y z : Value)
    (h1 : tmps.getD i undef = x) (h2 : tmps.getD j undef = y) (hp : tmps.getD p undef = .pointer (some ⟨g, 0, none⟩)) (hz : tmps.getD u undef = z) (hg : Blk w g t cs)
    (hu : P.underlying ty = some d) (hd : (match d with | .struct _ | .array _ _ => true | _ => false) = true) (hi : (P.info? ty).map (·.size) = some cs.size) :
    (results fn tmps).run P w = .ok (.tuple #[x, y, .agg cs, z]) w := by
  have hl := run_loadVar_row w g t ty cs (0, 0) d hg hu hd hi
  rw [Array.getD_eq_getD_getElem?] at h1 h2 hp hz
  simp only [results, h]
  simp [Result.andThen, h1, h2, hp, hz, asAddr, hl]
/-- the result's state at its block -/
structure LD (W : World) (st : St) (u : Value) (w : World) : Prop where
  res : Blk w W.heap.size 83 (stCs st u)
  row : FRow w (W.heap.size + 1) u st.fams
  below : Below W.heap.size W w
section
variable {W w w' : World} {st st' : St} {u u' : Value}
theorem LD.start : LD W ⟨0, 0, []⟩ (.slice none 0 0) (W.alloc (.cells (stCs ⟨0, 0, []⟩ (.slice none 0 0)) 83)) := ⟨Blk.new W _ _, FRow.nil _ _, (Below.refl _ _).alloc (Nat.le_refl _) _⟩
theorem LD.keep (h : LD W st u w) (hb : Below w.heap.size w w') : LD W st u w' := ⟨h.res.below' hb, h.row.below hb, below_2 h.below hb⟩
theorem LD.drew (h : LD W st u w) : LD W st u w.drew := ⟨h.res, h.row, ⟨h.below.os, h.below.tape, h.below.output, h.below.size, h.below.block⟩⟩
theorem LD.cells {ck nx : Int} {L : List Fam} (h : LD W ⟨ck, nx, L⟩ u w) : w.cell? ⟨W.heap.size, 0, none⟩ = some (.int .i64 ck) ∧ w.cell? ⟨W.heap.size, 1, none⟩ = some (.int .i64 nx) ∧ w.cell? ⟨W.heap.size, 2, none⟩ = some u ∧ (∀ j, w.frozen? ⟨W.heap.size, j, none⟩ = false) ∧ W.heap.size < w.heap.size :=
  ⟨h.res.cell 0, h.res.cell 1, h.res.cell 2, h.res.frozen, h.res.lt⟩
/-- a state is stored -/
theorem LD.put (h : LD W st u w) (st' : St) {u' : Value} (hr : FRow w (W.heap.size + 1) u' st'.fams) :
    LD W st' u' (((w.setCell ⟨W.heap.size, 0, none⟩ (.int .i64 st'.clock)).setCell ⟨W.heap.size, 1, none⟩ (.int .i64 st'.next)).setCell ⟨W.heap.size, 2, none⟩ u') ∧ w.grownBy (((w.setCell ⟨W.heap.size, 0, none⟩ (.int .i64 st'.clock)).setCell ⟨W.heap.size, 1, none⟩ (.int .i64 st'.next)).setCell ⟨W.heap.size, 2, none⟩ u') (some W.heap.size) := by
  have e1 := h.res.put_ 0 (.int .i64 st'.clock) (cs' := #[.int .i64 st'.clock, .int .i64 st.next, u]) rfl
  have e2 := e1.put_ 1 (.int .i64 st'.next) (cs' := #[.int .i64 st'.clock, .int .i64 st'.next, u]) rfl
  have e3 := e2.put_ 2 u' (cs' := stCs st' u') rfl
  have g1 := only_set1 w W.heap.size ⟨W.heap.size, 0, none⟩ rfl (.int .i64 st'.clock)
  have g2 := only_setCell g1 (p := ⟨W.heap.size, 1, none⟩) (.inl rfl) (.int .i64 st'.next)
  have g3 := only_setCell g2 (p := ⟨W.heap.size, 2, none⟩) (.inl rfl) u'
  refine ⟨⟨e3, hr.kept g3 (fun he => ?_), h.below.grown g3 h.below.size (fun _ hj => by cases hj; exact Nat.le_refl _)⟩, g3⟩
  have := (hr.lt _ he).1
  omega
theorem LD.same (h : LD W st u w) : LD W st u (((w.setCell ⟨W.heap.size, 0, none⟩ (.int .i64 st.clock)).setCell ⟨W.heap.size, 1, none⟩ (.int .i64 st.next)).setCell ⟨W.heap.size, 2, none⟩ u) := (h.put st h.row).1
end
theorem load_end {W w : World} {A : Act} {st : St} {u : Value} {a b : Int} {ok : Bool} {o : Option (Int × Int × St)} (h : LD W st u w) (ho : match o with | some t => ok = true ∧ t = (a, b, st) | none => ok = false)
    (h4 : A.tmps.getD 4 undef = .int .i64 a) (h5 : A.tmps.getD 5 undef = .int .i64 b) (h6 : A.tmps.getD 6 undef = .pointer (some ⟨W.heap.size, 0, none⟩)) (h7 : A.tmps.getD 7 undef = .bool ok) (hd : A.defers = []) :
    bodyPost Tryz.prog Tryz.f52 (LoadGot W o) Exit.ret A w :=
  bodyPost_ret (results_load rfl A.tmps w _ _ _ _ _ _ _ h4 h5 h6 h7 h.res Tryz.underlying83 rfl (by kernel_rfl)) hd ⟨a, b, st, u, ok, rfl, h.row.mono (Nat.le_succ _), h.below, ho⟩
/-- numbers read from words, one behind the other -/
structure LN (W0 : World) (L : List (List UInt8)) (k : Nat) (out : Value) (w : World) : Prop where
  below : Below W0.heap.size W0 w
  row : w.ownsRow W0.heap.size 3 1 out k ((L.take k).map fun x => .int .i64 (atoiN x))
  nums : ∀ j, j < k → numM (L.getD j []) = true
theorem LN.start (W0 : World) (L : List (List UInt8)) : LN W0 L 0 (.slice none 0 0) W0 := ⟨Below.refl _ _, World.ownsRow_nil _ _ _ _, fun _ hj => absurd hj (Nat.not_lt_zero _)⟩
theorem LN.call {W0 w w1 : World} {L : List (List UInt8)} {k : Nat} {out : Value} (h : LN W0 L k out w) (hb : Below w.heap.size w w1) : LN W0 L k out w1 := ⟨below_2 h.below hb, nums_below h.row hb, h.nums⟩
theorem LN.next {W0 w1 w3 : World} {L : List (List UInt8)} {k : Nat} {out v' : Value} {o : Obj} (h : LN W0 L k out w1) (hk : k < L.length) (hn : numM (L.getD k []) = true) {y : Value} (hy : y = .int .i64 (atoiN (L.getD k [])))
    (ho : w3.ownsRow W0.heap.size 3 1 v' (k + 1) ((L.take k).map (fun x => .int .i64 (atoiN x)) ++ [y])) (hg : (w1.alloc o).grownBy w3 out.ownBlock) : LN W0 L (k + 1) v' w3 := by
  have b1 : Below W0.heap.size W0 (w1.alloc o) := h.below.alloc h.below.size o
  have b2 : Below W0.heap.size W0 w3 := b1.grown hg b1.size fun i e => (h.row.lt i e).1
  refine ⟨b2, ?_, fun j hj => ?_⟩
  · have e : (L.take (k + 1)).map (fun x => Value.int .i64 (atoiN x)) = (L.take k).map (fun x => .int .i64 (atoiN x)) ++ [y] := by
      rw [List.take_add_one, List.getElem?_eq_getElem hk, List.map_append, hy]
      simp [List.getD, hk]
    rw [e]
    exact ho
  · rcases Nat.lt_or_ge j k with h' | h'
    · exact h.nums j h'
    · obtain rfl : j = k := by omega
      exact hn
/-- the five numbers' cells -/
theorem LN.five {W0 w : World} {L : List (List UInt8)} {out : Value} (h : LN W0 L 5 out w) (hL : L.length = 6) : ∃ g cap, out = .slice (some ⟨g, 0, none⟩) 5 cap ∧ 5 ≤ cap ∧ W0.heap.size ≤ g ∧ g < w.heap.size ∧
    w.cell? ⟨g, 0, none⟩ = some (.int .i64 (atoiN (L.getD 0 []))) ∧ w.cell? ⟨g, 1, none⟩ = some (.int .i64 (atoiN (L.getD 1 []))) ∧ w.cell? ⟨g, 2, none⟩ = some (.int .i64 (atoiN (L.getD 2 []))) ∧ w.cell? ⟨g, 3, none⟩ = some (.int .i64 (atoiN (L.getD 3 []))) ∧ w.cell? ⟨g, 4, none⟩ = some (.int .i64 (atoiN (L.getD 4 []))) := by
  have ho := h.row
  have hc : ∀ j g cap, out = .slice (some ⟨g, 0, none⟩) 5 cap → j < 5 → w.cell? ⟨g, j, none⟩ = some (.int .i64 (atoiN (L.getD j []))) := by
    rintro j g cap rfl hj
    have := ho.cellAt j (by omega)
    rw [this]
    have e : (L.take 5)[j]? = some (L.getD j []) := by
      rw [List.getElem?_take, if_pos hj, List.getD_eq_getElem?_getD, List.getElem?_eq_getElem (by omega)]
      rfl
    rw [List.getElem?_map, e]
    rfl
  rcases ho.2 with ⟨_, h0⟩ | ⟨g, cap, cur, rfl, hB, hb, hn, hm, hcs, ht⟩
  · exact absurd h0 (by decide)
  · have hlt : g < w.heap.size := by
      rcases Nat.lt_or_ge g w.heap.size with h' | h'
      · exact h'
      · rw [Array.getElem?_eq_none h'] at hb; cases hb
    exact ⟨g, cap, rfl, hn, hB, hlt, hc 0 g cap rfl (by omega), hc 1 g cap rfl (by omega), hc 2 g cap rfl (by omega), hc 3 g cap rfl (by omega), hc 4 g cap rfl (by omega)⟩
end Go.Proofs.YtepjcdjpikbbjaaGreatDoor

/-
  A region that draws its order and ends in operations that wait for all others (stores): a condition on the world that holds up to them lets the loads be taken first.
-/
namespace Go.Proofs.YtepjcdjpikbbjaaGreatDoor
open Go

/-- j waits for i, directly or through others -/
def waitsOn (md : Region.Mode) (ops : Array Oper) (i : Nat) : Nat → Nat → Bool
  | 0, _ => false
  | n + 1, j => match ops[j]? with
    | some o => o.after.any fun e => Region.binds md e && (e.on == i || waitsOn md ops i n e.on)
    | none => false
/-- what is listed waits for nothing that is not -/
def Downed (md : Region.Mode) (ops : Array Oper) (listed : Array Bool) : Prop := ∀ (j : Nat) (o : Oper), ops[j]? = some o → listed.getD j false = true → ∀ e ∈ o.after, Region.binds md e = true → listed.getD e.on false = true
def downB (md : Region.Mode) (ops : Array Oper) (listed : Array Bool) : Bool := (List.range ops.size).all fun j => !listed.getD j false || match ops[j]? with
  | some o => o.after.all fun e => !Region.binds md e || listed.getD e.on false
  | none => true
theorem downB_spec {md : Region.Mode} {ops : Array Oper} {listed : Array Bool} (h : downB md ops listed = true) : Downed md ops listed := by
  intro j o ho hj e he hb
  have hlt : j < ops.size := (Array.getElem?_eq_some_iff.1 ho).1
  have h1 := List.all_eq_true.1 h j (List.mem_range.2 hlt)
  simp only [hj, ho, Bool.not_true, Bool.false_or] at h1
  have h2 := Array.all_eq_true_iff_forall_mem.1 h1 e he
  simpa [hb] using h2
theorem Downed.set {md : Region.Mode} {ops : Array Oper} {listed : Array Bool} (h : Downed md ops listed) {j : Nat} (hj : j ∈ Region.ready md ops listed) : Downed md ops (listed.setIfInBounds j true) := by
  intro k o ho hk e he hb
  obtain ⟨_, oj, hoj, hall⟩ := mem_ready.1 hj
  by_cases hkj : j = k
  · subst hkj
    rw [hoj] at ho
    obtain rfl := Option.some.inj ho
    exact getD_set_true (hall e he hb)
  · rw [getD_set_ne false hkj] at hk
    exact getD_set_true (h k o ho hk e he hb)
theorem waits_listed {md : Region.Mode} {ops : Array Oper} {listed : Array Bool} (h : Downed md ops listed) {i : Nat} : ∀ (n j : Nat), waitsOn md ops i n j = true → listed.getD j false = true → listed.getD i false = true
  | 0, _, hw, _ => by cases hw
  | n + 1, j, hw, hj => by
    unfold waitsOn at hw
    split at hw
    · rename_i o ho
      obtain ⟨e, he, hb⟩ := Array.any_eq_true'.1 hw
      simp only [Bool.and_eq_true, Bool.or_eq_true, beq_iff_eq] at hb
      have h1 := h j o ho hj e he hb.1
      rcases hb.2 with rfl | h2
      · exact h1
      · exact waits_listed h n e.on h2 h1
    · cases hw

section
variable {P : Program} {ops : Array Oper} {Q : Exit → Act → World → Prop} {md : Region.Mode} {S : World → Prop} {T : List Nat}
/-- whatever order is picked; S holds behind every operation that is not of the tail T -/
def wpAnyT (P : Program) (md : Region.Mode) (ops : Array Oper) (Q : Exit → Act → World → Prop) (S : World → Prop) (T : List Nat) : Nat → Array Bool → Act → World → Prop
  | 0, listed, a, w => Region.ready md ops listed = [] ∧ Q .normal a w
  | fuel + 1, listed, a, w =>
    (Region.ready md ops listed = [] → Q .normal a w) ∧
    ∀ i ∈ Region.ready md ops listed, wpOp P ops Q i (fun a' w' => (T.contains i = false → S w') ∧ wpAnyT P md ops Q S T fuel (listed.setIfInBounds i true) a' w') a w
theorem wpAny_of_tail : ∀ (fuel : Nat) (listed : Array Bool) (a : Act) (w : World), wpAnyT P md ops Q S T fuel listed a w → wpAny P md ops Q fuel listed a w
  | 0, _, _, _, h => h
  | fuel + 1, _, _, _, h => ⟨h.1, fun i hi => wpOp_mono (fun a' w' h' => wpAny_of_tail fuel _ a' w' h'.2) (h.2 i hi)⟩
theorem not_listed {i : Nat} {listed : Array Bool} (h : listed.getD i true = false) : listed.getD i false = false := by
  rcases Nat.lt_or_ge i listed.size with h' | h'
  · simp [h'] at h ⊢; exact h
  · simp [Array.getElem?_eq_none h']
theorem wpAnyT_first {i : Nat} {oi : Oper} {v : Value} (hi : ops[i]? = some oi) (hsel : ∀ (j : Nat) (o : Oper) cs b, ops[j]? = some o → o.op ≠ .select cs b)
    (hQ : ∀ c a w, Q (.panic c) (a.put oi.dst v) w → Q (.panic c) a w) (n : Nat) (hT : ∀ j, T.contains j = true → waitsOn md ops i n j = true) :
    ∀ (fuel : Nat) (listed : Array Bool) (a : Act) (w : World), Downed md ops listed →
      (∀ j oj, ops[j]? = some oj → j ≠ i → listed.getD j true = false → (∀ e ∈ oj.after, Region.binds md e = true → e.on ≠ i) → oi.apart ops oj = true) →
      i ∈ Region.ready md ops listed → YieldsIf P ops S oi v a → S w →
      wpAnyT P md ops Q S T fuel (listed.setIfInBounds i true) (a.put oi.dst v) w → wpAnyT P md ops Q S T (fuel + 1) listed a w := by
  intro fuel
  induction fuel with
  | zero =>
    intro listed a w _ _ hr hy hS H
    refine ⟨fun h => (by rw [h] at hr; cases hr), fun j hj => ?_⟩
    by_cases hji : j = i
    · subst hji; exact hy.wpOp hi hS ⟨fun _ => hS, H⟩
    · have := ready_mono hj hji
      rw [H.1] at this
      cases this
  | succ fuel ih =>
    intro listed a w hdown hfree hr hy hS H
    refine ⟨fun h => (by rw [h] at hr; cases hr), fun j hj => ?_⟩
    by_cases hji : j = i
    · subst hji; exact hy.wpOp hi hS ⟨fun _ => hS, H⟩
    · have h1 := H.2 j (ready_mono hj hji)
      have hdown' := hdown.set hj
      have hun := (mem_ready.1 hr).1
      have hnoT : T.contains j = false := by
        rcases hc : T.contains j with _ | _
        · rfl
        · have hw := hT j hc
          have hlj : (listed.setIfInBounds j true).getD j false = true := by
            have hlt : j < listed.size := by
              rcases Nat.lt_or_ge j listed.size with h' | h'
              · exact h'
              · have := (mem_ready.1 hj).1
                simp [Array.getElem?_eq_none h'] at this
            simp [hlt]
          have h2 := waits_listed hdown' n j hw hlj
          rw [getD_set_ne false hji, not_listed hun] at h2
          cases h2
      obtain ⟨hjun, oj, hoj, hall⟩ := mem_ready.1 hj
      have hnot : ∀ e ∈ oj.after, Region.binds md e = true → e.on ≠ i := fun e he hb heq => by
        have h1 := hall e he hb
        rw [heq, not_listed hun] at h1
        cases h1
      have h2 := wpOp_putIf hoj (hfree j oj hoj hji hjun hnot) (fun cs b => hsel i oi cs b hi) (fun cs b => hsel j oj cs b hoj) hQ hy h1
      have hfree' : ∀ k ok, ops[k]? = some ok → k ≠ i → (listed.setIfInBounds j true).getD k true = false →
          (∀ e ∈ ok.after, Region.binds md e = true → e.on ≠ i) → oi.apart ops ok = true := fun k ok hk hki hun hno => by
        refine hfree k ok hk hki ?_ hno
        by_cases hjk : j = k
        · subst hjk; exact hjun
        · rw [getD_set_ne true hjk] at hun; exact hun
      refine wpOp_mono (fun a' w' h3 => ⟨h3.2.1, ih (listed.setIfInBounds j true) a' w' hdown' hfree' (ready_mono hr (Ne.symm hji)) h3.1 (h3.2.1 hnoT) ?_⟩) h2
      rw [Array.setIfInBounds_comm _ _ hji]
      exact h3.2.2
/-- take number i first -/
theorem wpAnyT_take (n : Nat) {i : Nat} {oi : Oper} {v : Value} {fuel : Nat} {listed : Array Bool} {a : Act} {w : World} (hi : ops[i]? = some oi)
    (hs : Region.noSelect ops = true) (hf : Region.free md ops listed i = true) (hr : (Region.ready md ops listed).contains i = true) (hd : downB md ops listed = true) (hT : (T.all fun j => waitsOn md ops i n j) = true)
    (hQ : ∀ c a w, Q (.panic c) (a.put oi.dst v) w → Q (.panic c) a w) (hw : Region.wanted oi (yielded ops a.tmps) = true) (hy : ∀ w, S w → (execOp a.eval oi).run P w = .ok (.value v) w) (hS : S w)
    (h : wpAnyT P md ops Q S T fuel (listed.setIfInBounds i true) (a.put oi.dst v) w) : wpAnyT P md ops Q S T (fuel + 1) listed a w :=
  wpAnyT_first hi (Region.noSelect_spec hs) hQ n (fun j hj => List.all_eq_true.1 hT j (by simpa using hj)) fuel listed a w (downB_spec hd) (Region.free_spec hi hf) (by simpa using hr) (.inl ⟨hw, hy⟩) hS h
/-- take number i first, which is not wanted -/
theorem wpAnyT_skip (n : Nat) {i : Nat} {oi : Oper} {fuel : Nat} {listed : Array Bool} {a : Act} {w : World} (hi : ops[i]? = some oi)
    (hs : Region.noSelect ops = true) (hf : Region.free md ops listed i = true) (hr : (Region.ready md ops listed).contains i = true) (hd : downB md ops listed = true) (hT : (T.all fun j => waitsOn md ops i n j) = true)
    (hQ : ∀ c a w, Q (.panic c) (a.put oi.dst undef) w → Q (.panic c) a w) (hw : Region.wanted oi (yielded ops a.tmps) = false) (hS : S w)
    (h : wpAnyT P md ops Q S T fuel (listed.setIfInBounds i true) (a.put oi.dst undef) w) : wpAnyT P md ops Q S T (fuel + 1) listed a w :=
  wpAnyT_first hi (Region.noSelect_spec hs) hQ n (fun j hj => List.all_eq_true.1 hT j (by simpa using hj)) fuel listed a w (downB_spec hd) (Region.free_spec hi hf) (by simpa using hr) (.inr ⟨hw, rfl⟩) hS h
/-- one alone may come up -/
theorem wpAnyT_one {i : Nat} {oi : Oper} {fuel : Nat} {listed : Array Bool} {a : Act} {w : World} (hr : Region.ready md ops listed = [i]) (hi : ops[i]? = some oi)
    (h : ∀ K' : Act → World → Prop, Shut (∀ a w, (T.contains i = false → S w) → wpAnyT P md ops Q S T fuel (listed.setIfInBounds i true) a w → K' a w) → if Region.wanted oi (yielded ops a.tmps) = true then Oper.wp P oi a w K' Q else K' (a.put oi.dst undef) w) :
    wpAnyT P md ops Q S T (fuel + 1) listed a w := by
  refine ⟨fun h0 => (by rw [hr] at h0; cases h0), fun j hj => ?_⟩
  rw [hr, List.mem_singleton] at hj
  subst hj
  exact wpOp_step hi fun K' hK => h K' (fun a w h1 h2 => hK a w ⟨h1, h2⟩)
/-- either of two may come up -/
theorem wpAnyT_two {i j : Nat} {oi oj : Oper} {fuel : Nat} {listed : Array Bool} {a : Act} {w : World} (hr : Region.ready md ops listed = [i, j]) (hi : ops[i]? = some oi) (hj : ops[j]? = some oj)
    (h1 : ∀ K' : Act → World → Prop, Shut (∀ a w, (T.contains i = false → S w) → wpAnyT P md ops Q S T fuel (listed.setIfInBounds i true) a w → K' a w) → if Region.wanted oi (yielded ops a.tmps) = true then Oper.wp P oi a w K' Q else K' (a.put oi.dst undef) w)
    (h2 : ∀ K' : Act → World → Prop, Shut (∀ a w, (T.contains j = false → S w) → wpAnyT P md ops Q S T fuel (listed.setIfInBounds j true) a w → K' a w) → if Region.wanted oj (yielded ops a.tmps) = true then Oper.wp P oj a w K' Q else K' (a.put oj.dst undef) w) :
    wpAnyT P md ops Q S T (fuel + 1) listed a w := by
  refine ⟨fun h0 => (by rw [hr] at h0; cases h0), fun k hk => ?_⟩
  rw [hr, List.mem_cons, List.mem_singleton] at hk
  rcases hk with rfl | rfl
  · exact wpOp_step hi fun K' hK => h1 K' (fun a w h1 h2 => hK a w ⟨h1, h2⟩)
  · exact wpOp_step hj fun K' hK => h2 K' (fun a w h1 h2 => hK a w ⟨h1, h2⟩)
theorem wpAnyT_done {listed : Array Bool} {a : Act} {w : World} (hr : Region.ready md ops listed = []) (h : Q .normal a w) : ∀ fuel, wpAnyT P md ops Q S T fuel listed a w
  | 0 => ⟨hr, h⟩
  | _ + 1 => ⟨fun _ => h, by rw [hr]; simp⟩
theorem wp_region_tail (S : World → Prop) (T : List Nat) {id : Nat} {a : Act} {w : World} (hm : P.follows .mixedOrders = true) (h : wpAnyT P .any ops Q S T ops.size (Array.replicate ops.size false) a w.drew) : (Code.region id ops true).wp P Q a w :=
  wp_region_any hm (wpAny_of_tail _ _ _ _ h)
end
end Go.Proofs.YtepjcdjpikbbjaaGreatDoor

/-
  store.Store's load: a slot that has no words, or not six.
-/
namespace Go.Proofs.YtepjcdjpikbbjaaGreatDoor
open Go.RowKit Go.Sort

theorem slot_k (k : Nat) : slotAt ((k : Int) % 2).toNat = slotAt k := by
  unfold slotAt
  congr 2
  omega
theorem slot_k_top (k : Nat) : slotAt k + 21 ≤ 90 := by
  unfold slotAt
  omega
set_option maxHeartbeats 4000000 in
set_option maxRecDepth 100000 in
theorem load_bad (B sb db : Nat) (D : Dk) (s : St) (v : Value) (n f x : Int) (down : Bool) (W : World) (h : SD B sb db D s v n f x down W) (hf : D.fits) (k : Nat) (hk : k < 2) (l : List UInt8) (b : Bool) (hol : openL tagL (blkOf D (slotAt k)) = if b then some l else none) (hl0 : b = false → l = []) (hll : l.length ≤ 240) (hbad : b = false ∨ (parts 32 l).length ≠ 6) :
    Calls Tryz.prog 52 #[.pointer (some ⟨sb, 0, none⟩), .int .i64 k] W (LoadGot W none) := by
  have HS := Lib.hid h
  have H0 : Hid (LD W ⟨0, 0, []⟩ (.slice none 0 0) (W.alloc (.cells (stCs ⟨0, 0, []⟩ (.slice none 0 0)) 83))) := Lib.hid LD.start
  have HSL := Lib.hid (fun w => store_slot (k : Int) w (by omega) (by omega))
  rw [slot_k] at HSL
  have htop := slot_k_top k
  have HRD := Lib.hid (fun w hd => disk_read db D (slotAt k) w hd (by omega))
  have HOP := Lib.hid (fun w => store_opened (D.blk.getD (slotAt k) ByteArray.empty) w (by have := hf (slotAt k); omega))
  have HOP : Hid (∀ w, Calls Tryz.prog 105 #[.string (D.blk.getD (slotAt k) ByteArray.empty)] w fun e w' => e = .returned (.tuple #[.string (txt l), .bool b]) ∧ Below w.heap.size w w') := Lib.hid fun w => by
    have h1 := HOP.out w
    have h2 : openL tagL (D.blk.getD (slotAt k) ByteArray.empty).data.toList = if b then some l else none := hol
    rw [h2] at h1
    refine h1.mono ?_
    rintro e w' ⟨⟨x2, b2, rfl, h3⟩, hb⟩
    rcases b with _ | _
    · obtain ⟨rfl, rfl⟩ := h3
      rw [hl0 rfl]
      exact ⟨rfl, hb⟩
    · obtain ⟨rfl, rfl⟩ := h3
      exact ⟨rfl, hb⟩
  have HSP := Lib.hid (fun w hm => split_row 32 (txt l) w.heap.size w (by rw [txt_size_]; omega) hm (Nat.le_refl _))
  rw [data_txt] at HSP
  have hpl := parts_len 32 l
  generalize parts 32 l = L at *
  generalize txt l = tl at *
  generalize D.blk.getD (slotAt k) ByteArray.empty = blk at *
  obtain ⟨ck, nx, Ls⟩ := s
  obtain ⟨c0, c1, c2, c3, c4, c5, c6, c7, z, hlt⟩ := h.cells
  clear h hol hl0
  unfold stCs at H0
  dsimp only at H0
  go_enter Tryz.func52, Tryz.ntmps52
  go_wp2_with fail
  go_at_call 103
  refine (HSL.out _).mono ?_
  rintro e w1 ⟨rfl, rfl⟩
  go_wp2_with fail
  refine (HRD.out _ (HS.out.keep H0.out.below).disk).mono ?_
  rintro e w2 ⟨rfl, rfl⟩
  go_wp2_with fail
  go_at_call 105
  refine (HOP.out _).mono ?_
  rintro e w3 ⟨rfl, hb⟩
  have H3 := Lib.hid (H0.out.keep hb)
  clear hb
  go_wp2_with fail
  go_at_call 13
  refine (HSP.out _ (HS.out.keep H3.out.below).env.maxl).mono ?_
  rintro e w4 ⟨v4, rfl, ⟨g4, c4', rfl, -⟩, hb⟩
  have H4 := Lib.hid (H3.out.keep hb)
  clear hb H3 H0
  obtain ⟨m0, m1, m2, mz, mlt⟩ := H4.out.cells
  rcases hbad with rfl | hne
  · go_wp2_with fail
    go_region
    go_wp2_with fail
    exact load_end (LD.same H4.out).drew rfl rfl rfl rfl rfl rfl
  · have hne1 : ((L.length : Int) != 6) = true := by simpa using (by omega : ¬ (L.length : Int) = 6)
    cases b
    all_goals
      go_wp2_with fail
      go_region
      go_wp2_with fail
      exact load_end (LD.same H4.out).drew rfl rfl rfl rfl rfl rfl
end Go.Proofs.YtepjcdjpikbbjaaGreatDoor

/-
  The event that the program reads out of a line's words is the one that the reference tries, in plain Lean.
-/
namespace Go.Proofs.YtepjcdjpikbbjaaGreatDoor

theorem wordL_unL {d : List UInt8} : wordL (unL d) = d ↔ d ≠ [] := by
  unfold unL
  by_cases h : d = [95]
  · subst h; rw [if_pos rfl]; simp [wordL]
  · rw [if_neg h]
    unfold wordL
    by_cases h0 : d = []
    · subst h0; simp
    · rw [if_neg h0]; simp [h0]
theorem deadL_is {i : List UInt8} : deadL (decide (i = [49])) = i ↔ i = [48] ∨ i = [49] := by
  unfold deadL
  by_cases h : i = [49]
  · subst h; simp
  · simp only [h, decide_false, Bool.false_eq_true, if_false, or_false]
    exact eq_comm
theorem unL_of {l : List UInt8} (h : nameB l = true) : unL l = l := by
  unfold unL
  rw [if_neg]
  rintro rfl
  revert h
  decide
theorem famB_eq (a : Int) (b c d : ByteArray) (e f g : Int) (h : ByteArray) (i : Bool) : famB ⟨a, b, c, d, e, f, g, h, i⟩ = (okN a && okN e && okN f && okN g && nameB b.data.toList && nameB c.data.toList && reqB h.data.toList && scopeB d.data.toList) := rfl
theorem famV_nine (a b c d e f g h i : List UInt8) (r : List (List UInt8)) : famV (a :: b :: c :: d :: e :: f :: g :: h :: i :: r, false) = ⟨atoiN a, txt (unL b), txt (unL c), txt (unL d), atoiN e, atoiN f, atoiN g, txt (unL h), decide (i = [49])⟩ := rfl
theorem famS_nine (a b c d e f g h i : List UInt8) (r : List (List UInt8)) : famS (a :: b :: c :: d :: e :: f :: g :: h :: i :: r, false) = (r, ((((((((false || !numE a) || decide (b = [])) || decide (c = [])) || decide (d = [])) || !numE e) || !numE f) || !numE g) || decide (h = [])) || (!decide (i = [48]) && !decide (i = [49]))) := rfl
/-- fewer words than nine -/
theorem famS_few {r : List (List UInt8)} (h : r.length < 9) : (famS (r, false)).2 = true := by
  have e0 : numE [] = false := by decide
  rcases r with _ | ⟨a, _ | ⟨b, _ | ⟨c, _ | ⟨d, _ | ⟨e, _ | ⟨f, _ | ⟨g, _ | ⟨h, _ | ⟨i, r⟩⟩⟩⟩⟩⟩⟩⟩⟩
  all_goals first | (simp [famS, numS, textS, nextS, nextV, e0]; done) | (simp at h; omega)
theorem nine (a b c d e f g h i : List UInt8) :
    (progB ([112] :: [a, b, c, d, e, f, g, h, i], false) = (evB (cand ([112] :: [a, b, c, d, e, f, g, h, i])) && decide (evW (cand ([112] :: [a, b, c, d, e, f, g, h, i])) = [112] :: [a, b, c, d, e, f, g, h, i]))) ∧
    (progB ([112] :: [a, b, c, d, e, f, g, h, i], false) = true → (progE ([112] :: [a, b, c, d, e, f, g, h, i], false)).1 = cand ([112] :: [a, b, c, d, e, f, g, h, i])) := by
  have e1 : progE ([112] :: [a, b, c, d, e, f, g, h, i], false) = (⟨1, famV ([a, b, c, d, e, f, g, h, i], false), 0, 0⟩, famS ([a, b, c, d, e, f, g, h, i], false)) := rfl
  have e2 : cand ([112] :: [a, b, c, d, e, f, g, h, i]) = ⟨1, ⟨atoiN a, txt b, txt c, txt (unL d), atoiN e, atoiN f, atoiN g, txt (unL h), decide (i = [49])⟩, 0, 0⟩ := rfl
  have e3 : evW ⟨1, ⟨atoiN a, txt b, txt c, txt (unL d), atoiN e, atoiN f, atoiN g, txt (unL h), decide (i = [49])⟩, 0, 0⟩ = [[112], Lib.itoa (atoiN a), b, c, wordL (unL d), Lib.itoa (atoiN e), Lib.itoa (atoiN f), Lib.itoa (atoiN g), wordL (unL h), deadL (decide (i = [49]))] := by
    rw [evW_1 rfl]
    simp only [famW, data_txt]
  constructor
  · unfold progB
    rw [e1, e2, e3, famV_nine, famS_nine]
    dsimp only
    rw [evB_one, evB_one, famB_eq, famB_eq, data_txt, data_txt, data_txt, data_txt, data_txt, data_txt, nameB_un, nameB_un, Bool.eq_iff_iff]
    simp only [Bool.and_eq_true, Bool.not_eq_true', Bool.or_eq_false_iff, Bool.not_eq_false', decide_eq_true_eq, decide_eq_false_iff_not, Bool.false_or, List.cons.injEq, true_and, and_true, wordL_unL, deadL_is, Bool.and_eq_false_iff]
    constructor
    · rintro ⟨⟨⟨⟨⟨⟨⟨⟨⟨ha, hb⟩, hc⟩, hd⟩, he⟩, hf⟩, hg⟩, hh⟩, hi⟩, hX⟩
      refine ⟨hX, ?_⟩
      unfold numE at ha he hf hg
      simp only [Bool.and_eq_true, decide_eq_true_eq] at ha he hf hg
      refine ⟨ha.2, hd, he.2, hf.2, hg.2, hh, ?_⟩
      exact hi
    · rintro ⟨hX, ha, hd, he, hf, hg, hh, hi⟩
      refine ⟨⟨⟨⟨⟨⟨⟨⟨⟨?_, ?_⟩, ?_⟩, hd⟩, ?_⟩, ?_⟩, ?_⟩, hh⟩, ?_⟩, hX⟩
      · rw [numE_of hX.1.1.1.1.1.1.1]; simpa using ha
      · exact nameB_ne hX.1.1.1.2
      · exact nameB_ne hX.1.1.2
      · rw [numE_of hX.1.1.1.1.1.1.2]; simpa using he
      · rw [numE_of hX.1.1.1.1.1.2]; simpa using hf
      · rw [numE_of hX.1.1.1.1.2]; simpa using hg
      · rcases hi with hi | hi
        · exact .inl (by simp [hi])
        · exact .inr (by simp [hi])
  · intro hp
    unfold progB at hp
    rw [e1] at hp ⊢
    rw [e2, famV_nine] at *
    dsimp only at hp ⊢
    rw [evB_one, famB_eq] at hp
    simp only [Bool.and_eq_true, data_txt, nameB_un] at hp
    rw [unL_of hp.2.1.1.1.2, unL_of hp.2.1.1.2]
theorem cand_ten {ps : List (List UInt8)} (h : ps.length = 10) : evW (cand ps) = [112] :: famW (cand ps).fam := by
  rcases ps with _ | ⟨x, _ | ⟨a, _ | ⟨b, _ | ⟨c, _ | ⟨d, _ | ⟨e, _ | ⟨f, _ | ⟨g, _ | ⟨h, _ | ⟨i, _ | ⟨j, r⟩⟩⟩⟩⟩⟩⟩⟩⟩⟩⟩
  all_goals first | (simp at h; done) | rfl
theorem cand_odd {ps : List (List UInt8)} (h1 : ps.length ≠ 10) (h2 : ps.length ≠ 2) : cand ps = Ev.zero := by
  rcases ps with _ | ⟨x, _ | ⟨a, _ | ⟨b, _ | ⟨c, _ | ⟨d, _ | ⟨e, _ | ⟨f, _ | ⟨g, _ | ⟨h, _ | ⟨i, _ | ⟨j, r⟩⟩⟩⟩⟩⟩⟩⟩⟩⟩⟩
  all_goals first | (simp at h1 h2; done) | rfl
theorem no_cand {x : List UInt8} {r : List (List UInt8)} (h10 : x ≠ [112] ∨ r.length ≠ 9) (h2 : (x ≠ [100] ∧ x ≠ [99]) ∨ r.length ≠ 1) : (evB (cand (x :: r)) && decide (evW (cand (x :: r)) = x :: r)) = false := by
  by_cases hl : r.length = 9
  · have hx : x ≠ [112] := h10.resolve_right fun h => h hl
    rw [cand_ten (by simp [hl])]
    simp [Ne.symm hx]
  · by_cases hl1 : r.length = 1
    · obtain ⟨a, rfl⟩ := List.length_eq_one_iff.1 hl1
      obtain ⟨hx1, hx2⟩ := h2.resolve_right fun h => h rfl
      have : cand [x, a] = ⟨3, Fam.zero, 0, atoiN a⟩ := by
        show (if x = [100] then _ else _) = _
        rw [if_neg hx1]
      rw [this, evW_3 rfl]
      simp [Ne.symm hx2]
    · rw [cand_odd (by simp; omega) (by simp; omega), evB_zero]
      rfl
/-- what the program takes is what the reference takes -/
theorem prog_cand (ps : List (List UInt8)) : progB (ps, false) = (evB (cand ps) && decide (evW (cand ps) = ps)) ∧ (progB (ps, false) = true → (progE (ps, false)).1 = cand ps) := by
  rcases ps with _ | ⟨x, r⟩
  · exact ⟨by decide, fun h => absurd h (by decide)⟩
  · by_cases hp : x = [112]
    · subst hp
      by_cases hl : r.length = 9
      · rcases r with _ | ⟨a, _ | ⟨b, _ | ⟨c, _ | ⟨d, _ | ⟨e, _ | ⟨f, _ | ⟨g, _ | ⟨h, _ | ⟨i, _ | ⟨j, r⟩⟩⟩⟩⟩⟩⟩⟩⟩⟩
        all_goals first | (simp at hl; done) | exact nine _ _ _ _ _ _ _ _ _
      · have e0 : progB ([112] :: r, false) = false := by
          unfold progB
          rw [show progE ([112] :: r, false) = (⟨1, famV (r, false), 0, 0⟩, famS (r, false)) from rfl]
          by_cases h9 : r.length < 9
          · rw [famS_few h9]; rfl
          · rcases r with _ | ⟨a, _ | ⟨b, _ | ⟨c, _ | ⟨d, _ | ⟨e, _ | ⟨f, _ | ⟨g, _ | ⟨h, _ | ⟨i, _ | ⟨j, r⟩⟩⟩⟩⟩⟩⟩⟩⟩⟩
            all_goals first | (simp at hl h9; done) | (rw [famS_nine]; simp)
        rw [e0, no_cand (.inr hl) (.inl ⟨by decide, by decide⟩)]
        exact ⟨rfl, fun h => by cases h⟩
    · by_cases hd : x = [100]
      · subst hd
        have e1 : progE ([100] :: r, false) = (⟨2, Fam.zero, numV (r, false), 0⟩, numS (r, false)) := rfl
        by_cases hl : r.length = 1
        · obtain ⟨a, rfl⟩ := List.length_eq_one_iff.1 hl
          have e2 : cand [[100], a] = ⟨2, Fam.zero, atoiN a, 0⟩ := rfl
          constructor
          · unfold progB
            rw [e1, e2, evB_two, evW_2 rfl]
            show (!(false || !numE a) && decide (([] : List (List UInt8)) = []) && evB ⟨2, Fam.zero, atoiN a, 0⟩) = _
            rw [evB_two]
            have := okN_numE (l := a)
            simp only [Bool.false_or, Bool.not_not, decide_true, Bool.and_true, List.cons.injEq, true_and, and_true]
            rw [Bool.and_comm]
            exact this
          · intro _
            rw [e1, e2]
            rfl
        · have e0 : progB ([100] :: r, false) = false := by
            unfold progB
            rw [e1]
            rcases r with _ | ⟨a, _ | ⟨b, r⟩⟩
            · rfl
            · simp at hl
            · simp [numS, nextS]
          rw [e0, no_cand (.inl (by decide)) (.inr hl)]
          exact ⟨rfl, fun h => by cases h⟩
      · by_cases hc : x = [99]
        · subst hc
          have e1 : progE ([99] :: r, false) = (⟨3, Fam.zero, 0, numV (r, false)⟩, numS (r, false)) := rfl
          by_cases hl : r.length = 1
          · obtain ⟨a, rfl⟩ := List.length_eq_one_iff.1 hl
            have e2 : cand [[99], a] = ⟨3, Fam.zero, 0, atoiN a⟩ := rfl
            constructor
            · unfold progB
              rw [e1, e2, evB_three, evW_3 rfl]
              show (!(false || !numE a) && decide (([] : List (List UInt8)) = []) && evB ⟨3, Fam.zero, 0, atoiN a⟩) = _
              rw [evB_three]
              have := okN_numE (l := a)
              simp only [Bool.false_or, Bool.not_not, decide_true, Bool.and_true, List.cons.injEq, true_and, and_true]
              rw [Bool.and_comm]
              exact this
            · intro _
              rw [e1, e2]
              rfl
          · have e0 : progB ([99] :: r, false) = false := by
              unfold progB
              rw [e1]
              rcases r with _ | ⟨a, _ | ⟨b, r⟩⟩
              · rfl
              · simp at hl
              · simp [numS, nextS]
            rw [e0, no_cand (.inl (by decide)) (.inr hl)]
            exact ⟨rfl, fun h => by cases h⟩
        · have e0 : progB (x :: r, false) = false := by
            unfold progB progE
            show (!(if x = [112] then _ else if x = [100] then _ else if x = [99] then _ else _ : Ev × Rd).2.2 && _ && _) = false
            rw [if_neg hp, if_neg hd, if_neg hc]
            rfl
          rw [e0, no_cand (.inl hp) (.inl ⟨hd, hc⟩)]
          exact ⟨rfl, fun h => by cases h⟩
theorem prog_read (l : List UInt8) : progB (parts 32 l, false) = readB l ∧ (readB l = true → (progE (parts 32 l, false)).1 = readE l) := by
  obtain ⟨h1, h2⟩ := prog_cand (parts 32 l)
  refine ⟨h1, fun h => ?_⟩
  rw [h2 (by rw [h1]; exact h)]
  unfold readE
  rw [if_pos h]
end Go.Proofs.YtepjcdjpikbbjaaGreatDoor
