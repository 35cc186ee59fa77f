/-
  A store's block; its small methods: Log, Down, fail, State; slot.
-/
import Derived.Test.YtdogilbnbbeljaaGreatDoorH10
import Derived.Test.YtdogilbnbbeljaaGreatDoorH12
import Derived.Test.YtdogilbnbbeljaaGreatDoorH16
import Derived.Test.YtdogilbnbbeljaaGreatDoorH03
namespace Go.Proofs.YtdogilbnbbeljaaGreatDoor
open Go.RowKit Go.Sort

def storeCs (db : Nat) (s : St) (v : Value) (n f x : Int) (down : Bool) : Array Value := #[.pointer (some ⟨db, 0, none⟩), .int .i64 s.clock, .int .i64 s.next, v, .int .i64 n, .int .i64 f, .int .i64 x, .bool down]
/-- a store at a block -/
def StAt (w : World) (sb db : Nat) (s : St) (v : Value) (n f x : Int) (down : Bool) : Prop := Blk w sb 69 (storeCs db s v n f x down)
theorem StAt.cells {w : World} {sb db : Nat} {ck nx : Int} {L : List Fam} {v : Value} {n f x : Int} {down : Bool} (h : StAt w sb db ⟨ck, nx, L⟩ v n f x down) :
    w.cell? ⟨sb, 0, none⟩ = some (.pointer (some ⟨db, 0, none⟩)) ∧ w.cell? ⟨sb, 1, none⟩ = some (.int .i64 ck) ∧ w.cell? ⟨sb, 2, none⟩ = some (.int .i64 nx) ∧ w.cell? ⟨sb, 3, none⟩ = some v ∧ w.cell? ⟨sb, 4, none⟩ = some (.int .i64 n) ∧
    w.cell? ⟨sb, 5, none⟩ = some (.int .i64 f) ∧ w.cell? ⟨sb, 6, none⟩ = some (.int .i64 x) ∧ w.cell? ⟨sb, 7, none⟩ = some (.bool down) ∧ (∀ j, w.frozen? ⟨sb, j, none⟩ = false) ∧ sb < w.heap.size :=
  ⟨Blk.cell h 0, Blk.cell h 1, Blk.cell h 2, Blk.cell h 3, Blk.cell h 4, Blk.cell h 5, Blk.cell h 6, Blk.cell h 7, Blk.frozen h, Blk.lt h⟩

theorem two_cells {w : World} {g : Nat} {T : TypeId} {k0 k1 k2 : Value} (h : Blk w g T #[k0, k1, k2]) : w.cell? ⟨g, 0, none⟩ = some k0 ∧ w.cell? ⟨g, 1, none⟩ = some k1 ∧ w.cell? ⟨g, 2, none⟩ = some k2 := ⟨h.cell 0, h.cell 1, h.cell 2⟩
theorem store_log (sb db : Nat) (s : St) (v : Value) (n f x : Int) (down : Bool) (W : World) (h : StAt W sb db s v n f x down) (h0 : 0 ≤ f) (h1 : f ≤ x) (h2 : x ≤ 1000000) :
    Calls Tryz.prog 24 #[.pointer (some ⟨sb, 0, none⟩)] W fun e w' => e = .returned (.int .i64 (x - f)) ∧ Below W.heap.size W w' := by
  obtain ⟨ck, nx, L⟩ := s
  obtain ⟨c0, c1, c2, c3, c4, c5, c6, c7, z, hlt⟩ := h.cells
  clear h
  go_enter Tryz.func24, Tryz.ntmps24
  go_wp2_with fail
  go_quiet (fail)
  go_wp2_with fail
  go_ret
  exact ⟨rfl, below_drewN (Below.refl _ _) _⟩
theorem store_down (sb db : Nat) (s : St) (v : Value) (n f x : Int) (down : Bool) (W : World) (h : StAt W sb db s v n f x down) :
    Calls Tryz.prog 25 #[.pointer (some ⟨sb, 0, none⟩)] W fun e w' => e = .returned (.bool down) ∧ Below W.heap.size W w' := by
  obtain ⟨ck, nx, L⟩ := s
  obtain ⟨c0, c1, c2, c3, c4, c5, c6, c7, z, hlt⟩ := h.cells
  clear h
  go_enter Tryz.func25, Tryz.ntmps25
  go_wp2_with fail
  go_ret
  exact ⟨rfl, Below.refl _ _⟩
theorem store_slot (n : Int) (W : World) (h0 : 0 ≤ n) (_ : n ≤ 1000001) : Calls Tryz.prog 29 #[.int .i64 n] W fun e w' => e = .returned (.int .i64 (slotAt (n % 2).toNat : Nat)) ∧ W = w' := by
  have h3 : n % 2 = 0 ∨ n % 2 = 1 := by omega
  have hr : n.tmod 2 = n % 2 := by exact Int.tmod_eq_emod_of_nonneg h0
  have hs : (slotAt (n % 2).toNat : Int) = 16 + n % 2 * 21 := by
    rcases h3 with h | h <;> rw [h] <;> decide
  rw [hs]
  have HR := Lib.hid hr
  go_enter Tryz.func29, Tryz.ntmps29
  go_wp2_with fail
  go_ret
  refine ⟨?_, rfl⟩
  show Ending.returned (Value.int _ _) = _
  congr 2
/-- fail: the power went off -/
theorem store_fail (sb db : Nat) (s : St) (v : Value) (n f x : Int) (down : Bool) (W : World) (h : StAt W sb db s v n f x down) :
    Calls Tryz.prog 32 #[.pointer (some ⟨sb, 0, none⟩), .iface 47 (.int .i64 14)] W fun e w' => e = .returned (.iface 47 (.int .i64 14)) ∧ StAt w' sb db s v n f x true ∧ W.grownBy w' (some sb) := by
  obtain ⟨ck, nx, L⟩ := s
  obtain ⟨c0, c1, c2, c3, c4, c5, c6, c7, z, hlt⟩ := h.cells
  have HS := Lib.hid (show StAt (W.setCell ⟨sb, 7, none⟩ (.bool true)) sb db ⟨ck, nx, L⟩ v n f x true from Blk.put_ h 7 (.bool true) rfl)
  have HG := Lib.hid (only_set1 W sb ⟨sb, 7, none⟩ rfl (.bool true))
  clear h
  cases down
  all_goals
    go_enter Tryz.func32, Tryz.ntmps32
    go_wp2_with fail
    go_ret
    exact ⟨rfl, HS.out, HG.out⟩
/-- State: a copy of what it has -/
theorem state_end {W w : World} {A : Act} {s : St} {v : Value} (hr : FRow w W.heap.size v s.fams) (h1 : v.ownBlock ≠ some W.heap.size) (h2 : v.ownBlock ≠ some (W.heap.size + 1)) (hb : Below W.heap.size W w)
    (h3 : Blk w W.heap.size 36 #[.int .i64 0, .int .i64 0, .slice none 0 0]) 
    (hp : A.tmps.getD 2 undef = .pointer (some ⟨W.heap.size, 0, none⟩)) (hd : A.defers = []) :
    bodyPost Tryz.prog Tryz.f14 (ApplyGot W s) Exit.ret A ((((w.setCell ⟨W.heap.size + 1, 2, none⟩ v).setCell ⟨W.heap.size, 0, none⟩ (.int .i64 s.clock)).setCell ⟨W.heap.size, 1, none⟩ (.int .i64 s.next)).setCell ⟨W.heap.size, 2, none⟩ v) := by
  have g0 := only_set1 w (W.heap.size + 1) ⟨W.heap.size + 1, 2, none⟩ rfl v
  have k3 := h3.grown g0 (by simp)
  have kr := hr.kept g0 h2
  have kb := hb.setCell (p := ⟨W.heap.size + 1, 2, none⟩) (Nat.le_succ _) v
  generalize w.setCell ⟨W.heap.size + 1, 2, none⟩ v = w1 at *
  have e1 := k3.put_ 0 (.int .i64 s.clock) (cs' := #[.int .i64 s.clock, .int .i64 0, .slice none 0 0]) rfl
  have e2 := e1.put_ 1 (.int .i64 s.next) (cs' := #[.int .i64 s.clock, .int .i64 s.next, .slice none 0 0]) rfl
  have e3 := e2.put_ 2 v (cs' := stCs s v) rfl
  have g1 := only_set1 w1 W.heap.size ⟨W.heap.size, 0, none⟩ rfl (.int .i64 s.clock)
  have g2 := only_setCell g1 (p := ⟨W.heap.size, 1, none⟩) (.inl rfl) (.int .i64 s.next)
  have g3 := only_setCell g2 (p := ⟨W.heap.size, 2, none⟩) (.inl rfl) v
  have kb3 := kb.grown g3 kb.size (fun j hj => by cases hj; exact Nat.le_refl _)
  have kr3 := kr.kept g3 h1
  generalize ((w1.setCell ⟨W.heap.size, 0, none⟩ (.int .i64 s.clock)).setCell ⟨W.heap.size, 1, none⟩ (.int .i64 s.next)).setCell ⟨W.heap.size, 2, none⟩ v = w2 at *
  exact bodyPost_ret (results_cell_row rfl A.tmps w2 _ _ _ (0, 0) _ hp e3 Tryz.underlying36 rfl (by kernel_rfl)) hd ⟨v, rfl, kr3, kb3⟩
set_option maxHeartbeats 1000000 in
theorem store_state (B sb db : Nat) (s : St) (v : Value) (n f x : Int) (down : Bool) (W : World) (h : StAt W sb db s v n f x down) (hr : FRow W B v s.fams) (hl : s.fams.length ≤ 1000000) :
    Calls Tryz.prog 14 #[.pointer (some ⟨sb, 0, none⟩)] W (ApplyGot W s) := by
  obtain ⟨sa, sc, rfl⟩ := hr.slice
  have hb0 := alloc2 W (.cells #[.int .i64 0, .int .i64 0, .slice none 0 0] 36) (.cells #[.int .i64 s.clock, .int .i64 s.next, .slice sa s.fams.length sc] 36)
  have HC := Lib.hid (fam_clone B _ s.fams _ (hr.below hb0) hl)
  have HB0 := Lib.hid hb0
  have a3 : Blk ((W.alloc (.cells #[.int .i64 0, .int .i64 0, .slice none 0 0] 36)).alloc (.cells #[.int .i64 s.clock, .int .i64 s.next, .slice sa s.fams.length sc] 36)) W.heap.size 36 #[.int .i64 0, .int .i64 0, .slice none 0 0] := (Blk.new W _ _).alloc _
  have a4 : Blk ((W.alloc (.cells #[.int .i64 0, .int .i64 0, .slice none 0 0] 36)).alloc (.cells #[.int .i64 s.clock, .int .i64 s.next, .slice sa s.fams.length sc] 36)) (W.heap.size + 1) 36 (stCs s (.slice sa s.fams.length sc)) := by
    have := Blk.new (W.alloc (.cells #[.int .i64 0, .int .i64 0, .slice none 0 0] 36)) 36 (stCs s (.slice sa s.fams.length sc))
    rw [show (W.alloc (.cells #[.int .i64 0, .int .i64 0, .slice none 0 0] 36)).heap.size = W.heap.size + 1 by simp] at this
    exact this
  have hsz : W.heap.size + 1 + 1 ≤ ((W.alloc (.cells #[.int .i64 0, .int .i64 0, .slice none 0 0] 36)).alloc (.cells #[.int .i64 s.clock, .int .i64 s.next, .slice sa s.fams.length sc] 36)).heap.size := by simp
  have A3 := Lib.hid a3
  have A4 := Lib.hid a4
  have HSZ := Lib.hid hsz
  obtain ⟨ck, nx, L⟩ := s
  dsimp only at *
  obtain ⟨c0, c1, c2, c3, c4, c5, c6, c7, z, hlt⟩ := h.cells
  clear h hr hb0 a3 a4 hsz
  go_enter Tryz.func14, Tryz.ntmps14
  go_wp2_with fail
  go_at_call 37
  refine HC.out.mono ?_
  rintro e w1 ⟨v1, rfl, hr1, hb1⟩
  have h3 := A3.out.below' hb1
  have h4 := A4.out.below' hb1
  obtain ⟨xa, xc, rfl⟩ := hr1.slice
  have HR := Lib.hid hr1
  have H3 := Lib.hid h3
  have H4 := Lib.hid h4
  have HB := Lib.hid (below_2 HB0.out hb1)
  obtain ⟨m0, m1, m2⟩ := two_cells h4
  have z3 := h3.frozen
  have z4 := h4.frozen
  have l3 := h3.cell 0
  have l4 := h3.cell 1
  have l5 := h3.cell 2
  clear hr1 hb1 h3 h4 HC A3 A4 HB0
  go_wp2_with fail
  have hz := HSZ.out
  exact state_end (s := ⟨ck, nx, L⟩) (HR.out.mono (by omega)) (fun he => by have := (HR.out.lt _ he).1; omega) (fun he => by have := (HR.out.lt _ he).1; omega) HB.out H3.out rfl rfl
end Go.Proofs.YtdogilbnbbeljaaGreatDoor
