/-
  Words of 64 bits: what both texts of the sum compute, and the contracts of the rounds.
-/
import Derived.Test.YtdfgegicfhcmeaaGreatDoorWords
import Derived.StillTailTactics
import Derived.RegionTactic
import Derived.Outline
import Derived.Deep.QuietTactic
import Derived.BigQuiet
namespace Go.Proofs.YtdfgegicfhcmeaaGreatDoor
open Go.RowKit

/-- a region that draws: its first n operations read, or call quietly; the last ones are forced: the world said as a draw -/
theorem wp_region_drew {P : Program} {id : Nat} {Q : Exit → Act → World → Prop} {a : Act} {w : World} {l : List Oper} (n : Nat) (hm : P.follows .mixedOrders = true) (hB : Region.lexTailB .any l.toArray n = true)
    (h : wpStill P l.toArray w.drew (fun a' => wpList P l.toArray Q (l.drop n) a' w.drew) (l.take n) a) : (Code.region id l.toArray true).wp P Q a w :=
  wp_region_still_tail n hm hB h

/-- x turned left by k bits -/
def rotl (x k : Int) : Int := bits .or .u64 (IntKind.u64.wrap (x * 2 ^ k.toNat)) (x / 2 ^ (64 - k).toNat)
def bx (x y : Int) : Int := bits .xor .u64 x y
def ad (x y : Int) : Int := IntKind.u64.wrap (x + y)
def U64 (x : Int) : Prop := 0 ≤ x ∧ x < 18446744073709551616

structure S4 where
  a : Int
  b : Int
  c : Int
  d : Int
def S4.round (s : S4) : S4 :=
  let a1 := ad s.a s.b
  let b1 := bx (rotl s.b 13) a1
  let a2 := rotl a1 32
  let c1 := ad s.c s.d
  let d1 := bx (rotl s.d 16) c1
  let a3 := ad a2 d1
  let d2 := bx (rotl d1 21) a3
  let c2 := ad c1 b1
  let b2 := bx (rotl b1 17) c2
  let c3 := rotl c2 32
  ⟨a3, b2, c3, d2⟩
def S4.cells (s : S4) : Array Value := #[.int .u64 s.a, .int .u64 s.b, .int .u64 s.c, .int .u64 s.d]
def S4.ok (s : S4) : Prop := U64 s.a ∧ U64 s.b ∧ U64 s.c ∧ U64 s.d

theorem u64_wrap (x : Int) : U64 (IntKind.u64.wrap x) := by
  unfold U64; simp [IntKind.wrap, IntKind.bits, IntKind.signed]; omega
theorem u64_bits (op : BinOp) (x y : Int) (h : op = .or ∨ op = .xor ∨ op = .and) : U64 (bits op .u64 x y) := by
  rcases h with rfl | rfl | rfl <;> exact u64_wrap _
theorem u64_rotl (x k : Int) : U64 (rotl x k) := u64_bits _ _ _ (.inl rfl)
theorem u64_bx (x y : Int) : U64 (bx x y) := u64_bits _ _ _ (.inr (.inl rfl))
theorem u64_ad (x y : Int) : U64 (ad x y) := u64_wrap _
theorem S4.round_ok (s : S4) : s.round.ok := ⟨u64_ad _ _, u64_bx _ _, u64_rotl _ _, u64_bx _ _⟩

theorem and63 (k : Int) (h : k = 13 ∨ k = 16 ∨ k = 17 ∨ k = 21 ∨ k = 32) : bits .and .u64 k 63 = k := by
  rcases h with rfl | rfl | rfl | rfl | rfl <;> decide

theorem rot_k (x k : Int) (w : World) (hx : U64 x) (hk : k = 13 ∨ k = 16 ∨ k = 17 ∨ k = 21 ∨ k = 32) : Calls Tryz.prog 37 #[.int .u64 x, .int .i64 k] w fun e w' => e = .returned (.int .u64 (rotl x k)) ∧ w' = w := by
  obtain ⟨h0, h1⟩ := hx
  have ha := and63 k hk
  have hk0 : 1 ≤ k := by omega
  have hk1 : k ≤ 63 := by omega
  clear hk
  go_enter Tryz.func37, Tryz.ntmps37
  go_wp2
  go_ret
  exact ⟨rfl, rfl⟩

theorem turn_k (x k : Int) (w : World) (hx : U64 x) (hk0 : 1 ≤ k) (hk1 : k ≤ 63) : Calls Tryz.prog 24 #[.int .u64 x, .int .i64 k] w fun e w' => e = .returned (.int .u64 (rotl x k)) ∧ ∃ n, w' = w.drewN n := by
  obtain ⟨h0, h1⟩ := hx
  go_enter Tryz.func24, Tryz.ntmps24
  go_wp2
  go_quiet (fail)
  go_wp2
  go_ret
  exact ⟨rfl, _, rfl⟩

section
variable {w : World} {g : Nat} {t : TypeId} {p0 p1 p2 p3 : Value}
theorem Blk.s0 (h : Blk w g t #[p0, p1, p2, p3]) (x : Value) : Blk (w.setCell ⟨g, 0, none⟩ x).drew g t #[x, p1, p2, p3] := h.set_ 0 x
theorem Blk.s1 (h : Blk w g t #[p0, p1, p2, p3]) (x : Value) : Blk (w.setCell ⟨g, 1, none⟩ x).drew g t #[p0, x, p2, p3] := h.set_ 1 x
theorem Blk.s2 (h : Blk w g t #[p0, p1, p2, p3]) (x : Value) : Blk (w.setCell ⟨g, 2, none⟩ x).drew g t #[p0, p1, x, p3] := h.set_ 2 x
theorem Blk.s3 (h : Blk w g t #[p0, p1, p2, p3]) (x : Value) : Blk (w.setCell ⟨g, 3, none⟩ x).drew g t #[p0, p1, p2, x] := h.set_ 3 x
theorem Blk.c0 (h : Blk w g t #[p0, p1, p2, p3]) : w.cell? ⟨g, 0, none⟩ = some p0 := h.cell 0
theorem Blk.c1 (h : Blk w g t #[p0, p1, p2, p3]) : w.cell? ⟨g, 1, none⟩ = some p1 := h.cell 1
theorem Blk.c2 (h : Blk w g t #[p0, p1, p2, p3]) : w.cell? ⟨g, 2, none⟩ = some p2 := h.cell 2
theorem Blk.c3 (h : Blk w g t #[p0, p1, p2, p3]) : w.cell? ⟨g, 3, none⟩ = some p3 := h.cell 3
theorem only_step {a : World} (h : a.grownBy w (some g)) (i : Nat) (x : Value) : a.grownBy (w.setCell ⟨g, i, none⟩ x).drew (some g) := only_drew (only_setCell h (.inl rfl) x)
end

set_option maxRecDepth 100000 in
set_option maxHeartbeats 1000000 in
theorem mac_round (s : S4) (hs : s.ok) (w : World) (g : Nat) (h : Blk w g 70 s.cells) : Calls Tryz.prog 34 #[.pointer (some ⟨g, 0, none⟩)] w fun e w' => e = .returned (.tuple #[]) ∧ (Blk w' g 70 s.round.cells ∧ w.grownBy w' (some g)) := by
  obtain ⟨a, b, c, d⟩ := s
  obtain ⟨ha, hb, hc, hd⟩ := hs
  have HB := Lib.hid hb
  have HD := Lib.hid hd
  have b0 : Blk w g 70 #[.int .u64 a, .int .u64 b, .int .u64 c, .int .u64 d] := h
  have B0 := Lib.hid b0
  have G0 := Lib.hid (only_refl w (some g))
  clear b0 h ha hb hc hd
  go_enter Tryz.func34, Tryz.ntmps34
  have c0 := B0.out.c0
  have c1 := B0.out.c1
  have c2 := B0.out.c2
  have c3 := B0.out.c3
  have f0 := B0.out.frozen 0
  have f1 := B0.out.frozen 1
  have f2 := B0.out.frozen 2
  have f3 := B0.out.frozen 3
  go_wp2_with fail
  refine wp_region_drew 11 (by kernel_rfl) (by kernel_rfl) ?_
  simp only [List.take_succ_cons, List.take_zero, List.drop_succ_cons, List.drop_zero]
  repeat still_step
  refine wpStill_nil ?_
  go_wp2_with fail
  have B1 := Lib.hid (B0.out.s0 (.int .u64 (IntKind.u64.wrap (a + b))))
  have G1 := Lib.hid (only_step G0.out 0 (.int .u64 (IntKind.u64.wrap (a + b))))
  clear c0 c1 c2 c3 f0 f1 f2 f3 B0 G0
  generalize (w.setCell ⟨g, 0, none⟩ (.int .u64 (IntKind.u64.wrap (a + b)))).drew = w1 at B1 G1 ⊢
  have c0 := B1.out.c0
  have c1 := B1.out.c1
  have c2 := B1.out.c2
  have c3 := B1.out.c3
  have f0 := B1.out.frozen 0
  have f1 := B1.out.frozen 1
  have f2 := B1.out.frozen 2
  have f3 := B1.out.frozen 3
  go_wp2_with fail
  refine wp_region_drew 13 (by kernel_rfl) (by kernel_rfl) ?_
  simp only [List.take_succ_cons, List.take_zero, List.drop_succ_cons, List.drop_zero]
  repeat still_step
  still_call (rot_k (b) 13 _ HB.out (by omega))
  repeat still_step
  refine wpStill_nil ?_
  go_wp2_with fail
  have B2 := Lib.hid (B1.out.s1 (.int .u64 (bits .xor .u64 (rotl (b) 13) (IntKind.u64.wrap (a + b)))))
  have G2 := Lib.hid (only_step G1.out 1 (.int .u64 (bits .xor .u64 (rotl (b) 13) (IntKind.u64.wrap (a + b)))))
  clear c0 c1 c2 c3 f0 f1 f2 f3 B1 G1
  generalize (w1.setCell ⟨g, 1, none⟩ (.int .u64 (bits .xor .u64 (rotl (b) 13) (IntKind.u64.wrap (a + b))))).drew = w2 at B2 G2 ⊢
  have c0 := B2.out.c0
  have c1 := B2.out.c1
  have c2 := B2.out.c2
  have c3 := B2.out.c3
  have f0 := B2.out.frozen 0
  have f1 := B2.out.frozen 1
  have f2 := B2.out.frozen 2
  have f3 := B2.out.frozen 3
  go_wp2_with fail
  refine wp_region_drew 8 (by kernel_rfl) (by kernel_rfl) ?_
  simp only [List.take_succ_cons, List.take_zero, List.drop_succ_cons, List.drop_zero]
  repeat still_step
  still_call (rot_k (IntKind.u64.wrap (a + b)) 32 _ (u64_wrap _) (by omega))
  repeat still_step
  refine wpStill_nil ?_
  go_wp2_with fail
  have B3 := Lib.hid (B2.out.s0 (.int .u64 (rotl (IntKind.u64.wrap (a + b)) 32)))
  have G3 := Lib.hid (only_step G2.out 0 (.int .u64 (rotl (IntKind.u64.wrap (a + b)) 32)))
  clear c0 c1 c2 c3 f0 f1 f2 f3 B2 G2
  generalize (w2.setCell ⟨g, 0, none⟩ (.int .u64 (rotl (IntKind.u64.wrap (a + b)) 32))).drew = w3 at B3 G3 ⊢
  have c0 := B3.out.c0
  have c1 := B3.out.c1
  have c2 := B3.out.c2
  have c3 := B3.out.c3
  have f0 := B3.out.frozen 0
  have f1 := B3.out.frozen 1
  have f2 := B3.out.frozen 2
  have f3 := B3.out.frozen 3
  go_wp2_with fail
  refine wp_region_drew 11 (by kernel_rfl) (by kernel_rfl) ?_
  simp only [List.take_succ_cons, List.take_zero, List.drop_succ_cons, List.drop_zero]
  repeat still_step
  refine wpStill_nil ?_
  go_wp2_with fail
  have B4 := Lib.hid (B3.out.s2 (.int .u64 (IntKind.u64.wrap (c + d))))
  have G4 := Lib.hid (only_step G3.out 2 (.int .u64 (IntKind.u64.wrap (c + d))))
  clear c0 c1 c2 c3 f0 f1 f2 f3 B3 G3
  generalize (w3.setCell ⟨g, 2, none⟩ (.int .u64 (IntKind.u64.wrap (c + d)))).drew = w4 at B4 G4 ⊢
  have c0 := B4.out.c0
  have c1 := B4.out.c1
  have c2 := B4.out.c2
  have c3 := B4.out.c3
  have f0 := B4.out.frozen 0
  have f1 := B4.out.frozen 1
  have f2 := B4.out.frozen 2
  have f3 := B4.out.frozen 3
  go_wp2_with fail
  refine wp_region_drew 13 (by kernel_rfl) (by kernel_rfl) ?_
  simp only [List.take_succ_cons, List.take_zero, List.drop_succ_cons, List.drop_zero]
  repeat still_step
  still_call (rot_k (d) 16 _ HD.out (by omega))
  repeat still_step
  refine wpStill_nil ?_
  go_wp2_with fail
  have B5 := Lib.hid (B4.out.s3 (.int .u64 (bits .xor .u64 (rotl (d) 16) (IntKind.u64.wrap (c + d)))))
  have G5 := Lib.hid (only_step G4.out 3 (.int .u64 (bits .xor .u64 (rotl (d) 16) (IntKind.u64.wrap (c + d)))))
  clear c0 c1 c2 c3 f0 f1 f2 f3 B4 G4
  generalize (w4.setCell ⟨g, 3, none⟩ (.int .u64 (bits .xor .u64 (rotl (d) 16) (IntKind.u64.wrap (c + d))))).drew = w5 at B5 G5 ⊢
  have c0 := B5.out.c0
  have c1 := B5.out.c1
  have c2 := B5.out.c2
  have c3 := B5.out.c3
  have f0 := B5.out.frozen 0
  have f1 := B5.out.frozen 1
  have f2 := B5.out.frozen 2
  have f3 := B5.out.frozen 3
  go_wp2_with fail
  refine wp_region_drew 11 (by kernel_rfl) (by kernel_rfl) ?_
  simp only [List.take_succ_cons, List.take_zero, List.drop_succ_cons, List.drop_zero]
  repeat still_step
  refine wpStill_nil ?_
  go_wp2_with fail
  have B6 := Lib.hid (B5.out.s0 (.int .u64 (IntKind.u64.wrap (rotl (IntKind.u64.wrap (a + b)) 32 + bits .xor .u64 (rotl (d) 16) (IntKind.u64.wrap (c + d))))))
  have G6 := Lib.hid (only_step G5.out 0 (.int .u64 (IntKind.u64.wrap (rotl (IntKind.u64.wrap (a + b)) 32 + bits .xor .u64 (rotl (d) 16) (IntKind.u64.wrap (c + d))))))
  clear c0 c1 c2 c3 f0 f1 f2 f3 B5 G5
  generalize (w5.setCell ⟨g, 0, none⟩ (.int .u64 (IntKind.u64.wrap (rotl (IntKind.u64.wrap (a + b)) 32 + bits .xor .u64 (rotl (d) 16) (IntKind.u64.wrap (c + d)))))).drew = w6 at B6 G6 ⊢
  have c0 := B6.out.c0
  have c1 := B6.out.c1
  have c2 := B6.out.c2
  have c3 := B6.out.c3
  have f0 := B6.out.frozen 0
  have f1 := B6.out.frozen 1
  have f2 := B6.out.frozen 2
  have f3 := B6.out.frozen 3
  go_wp2_with fail
  refine wp_region_drew 13 (by kernel_rfl) (by kernel_rfl) ?_
  simp only [List.take_succ_cons, List.take_zero, List.drop_succ_cons, List.drop_zero]
  repeat still_step
  still_call (rot_k (bits .xor .u64 (rotl (d) 16) (IntKind.u64.wrap (c + d))) 21 _ (u64_bits _ _ _ (.inr (.inl rfl))) (by omega))
  repeat still_step
  refine wpStill_nil ?_
  go_wp2_with fail
  have B7 := Lib.hid (B6.out.s3 (.int .u64 (bits .xor .u64 (rotl (bits .xor .u64 (rotl (d) 16) (IntKind.u64.wrap (c + d))) 21) (IntKind.u64.wrap (rotl (IntKind.u64.wrap (a + b)) 32 + bits .xor .u64 (rotl (d) 16) (IntKind.u64.wrap (c + d)))))))
  have G7 := Lib.hid (only_step G6.out 3 (.int .u64 (bits .xor .u64 (rotl (bits .xor .u64 (rotl (d) 16) (IntKind.u64.wrap (c + d))) 21) (IntKind.u64.wrap (rotl (IntKind.u64.wrap (a + b)) 32 + bits .xor .u64 (rotl (d) 16) (IntKind.u64.wrap (c + d)))))))
  clear c0 c1 c2 c3 f0 f1 f2 f3 B6 G6
  generalize (w6.setCell ⟨g, 3, none⟩ (.int .u64 (bits .xor .u64 (rotl (bits .xor .u64 (rotl (d) 16) (IntKind.u64.wrap (c + d))) 21) (IntKind.u64.wrap (rotl (IntKind.u64.wrap (a + b)) 32 + bits .xor .u64 (rotl (d) 16) (IntKind.u64.wrap (c + d))))))).drew = w7 at B7 G7 ⊢
  have c0 := B7.out.c0
  have c1 := B7.out.c1
  have c2 := B7.out.c2
  have c3 := B7.out.c3
  have f0 := B7.out.frozen 0
  have f1 := B7.out.frozen 1
  have f2 := B7.out.frozen 2
  have f3 := B7.out.frozen 3
  go_wp2_with fail
  refine wp_region_drew 11 (by kernel_rfl) (by kernel_rfl) ?_
  simp only [List.take_succ_cons, List.take_zero, List.drop_succ_cons, List.drop_zero]
  repeat still_step
  refine wpStill_nil ?_
  go_wp2_with fail
  have B8 := Lib.hid (B7.out.s2 (.int .u64 (IntKind.u64.wrap (IntKind.u64.wrap (c + d) + bits .xor .u64 (rotl (b) 13) (IntKind.u64.wrap (a + b))))))
  have G8 := Lib.hid (only_step G7.out 2 (.int .u64 (IntKind.u64.wrap (IntKind.u64.wrap (c + d) + bits .xor .u64 (rotl (b) 13) (IntKind.u64.wrap (a + b))))))
  clear c0 c1 c2 c3 f0 f1 f2 f3 B7 G7
  generalize (w7.setCell ⟨g, 2, none⟩ (.int .u64 (IntKind.u64.wrap (IntKind.u64.wrap (c + d) + bits .xor .u64 (rotl (b) 13) (IntKind.u64.wrap (a + b)))))).drew = w8 at B8 G8 ⊢
  have c0 := B8.out.c0
  have c1 := B8.out.c1
  have c2 := B8.out.c2
  have c3 := B8.out.c3
  have f0 := B8.out.frozen 0
  have f1 := B8.out.frozen 1
  have f2 := B8.out.frozen 2
  have f3 := B8.out.frozen 3
  go_wp2_with fail
  refine wp_region_drew 13 (by kernel_rfl) (by kernel_rfl) ?_
  simp only [List.take_succ_cons, List.take_zero, List.drop_succ_cons, List.drop_zero]
  repeat still_step
  still_call (rot_k (bits .xor .u64 (rotl (b) 13) (IntKind.u64.wrap (a + b))) 17 _ (u64_bits _ _ _ (.inr (.inl rfl))) (by omega))
  repeat still_step
  refine wpStill_nil ?_
  go_wp2_with fail
  have B9 := Lib.hid (B8.out.s1 (.int .u64 (bits .xor .u64 (rotl (bits .xor .u64 (rotl (b) 13) (IntKind.u64.wrap (a + b))) 17) (IntKind.u64.wrap (IntKind.u64.wrap (c + d) + bits .xor .u64 (rotl (b) 13) (IntKind.u64.wrap (a + b)))))))
  have G9 := Lib.hid (only_step G8.out 1 (.int .u64 (bits .xor .u64 (rotl (bits .xor .u64 (rotl (b) 13) (IntKind.u64.wrap (a + b))) 17) (IntKind.u64.wrap (IntKind.u64.wrap (c + d) + bits .xor .u64 (rotl (b) 13) (IntKind.u64.wrap (a + b)))))))
  clear c0 c1 c2 c3 f0 f1 f2 f3 B8 G8
  generalize (w8.setCell ⟨g, 1, none⟩ (.int .u64 (bits .xor .u64 (rotl (bits .xor .u64 (rotl (b) 13) (IntKind.u64.wrap (a + b))) 17) (IntKind.u64.wrap (IntKind.u64.wrap (c + d) + bits .xor .u64 (rotl (b) 13) (IntKind.u64.wrap (a + b))))))).drew = w9 at B9 G9 ⊢
  have c0 := B9.out.c0
  have c1 := B9.out.c1
  have c2 := B9.out.c2
  have c3 := B9.out.c3
  have f0 := B9.out.frozen 0
  have f1 := B9.out.frozen 1
  have f2 := B9.out.frozen 2
  have f3 := B9.out.frozen 3
  go_wp2_with fail
  refine wp_region_drew 8 (by kernel_rfl) (by kernel_rfl) ?_
  simp only [List.take_succ_cons, List.take_zero, List.drop_succ_cons, List.drop_zero]
  repeat still_step
  still_call (rot_k (IntKind.u64.wrap (IntKind.u64.wrap (c + d) + bits .xor .u64 (rotl (b) 13) (IntKind.u64.wrap (a + b)))) 32 _ (u64_wrap _) (by omega))
  repeat still_step
  refine wpStill_nil ?_
  go_wp2_with fail
  have B10 := Lib.hid (B9.out.s2 (.int .u64 (rotl (IntKind.u64.wrap (IntKind.u64.wrap (c + d) + bits .xor .u64 (rotl (b) 13) (IntKind.u64.wrap (a + b)))) 32)))
  have G10 := Lib.hid (only_step G9.out 2 (.int .u64 (rotl (IntKind.u64.wrap (IntKind.u64.wrap (c + d) + bits .xor .u64 (rotl (b) 13) (IntKind.u64.wrap (a + b)))) 32)))
  go_end0
  exact ⟨rfl, B10.out, G10.out⟩
end Go.Proofs.YtdfgegicfhcmeaaGreatDoor
