/-
  What a text is as a token, in plain Lean: its body's kind and numbers; its tag.
-/
import Derived.Test.YtepjcdjpikbbjaaGreatDoorP03
import Derived.Test.YtepjcdjpikbbjaaGreatDoorP01
import Derived.StillTailTactics
import Derived.RegionTactic
import Derived.Outline
import Derived.Deep.QuietTactic
import Derived.BigQuiet
import Derived.Deep.LoopGhost
import Derived.Laws.BitsAllLaws
import Derived.Laws.BitsLemmas
import Derived.IntWalk
import Derived.ArgAppend
import Derived.Lib.ConvBytes
import Derived.OwnWalk
import Derived.Laws.BytesArg
namespace Go.Proofs.YtepjcdjpikbbjaaGreatDoor

/-- a body's kind and numbers -/
def tokP : List (List UInt8) → Option (Int × Int × Int × Int)
  | [h, x, y] => if h = [114] ∧ numB x = true ∧ numB y = true then some (1, atoiN x, atoiN y, 0) else none
  | [h, x, y, z] => if h = [97] ∧ numB x = true ∧ numB y = true ∧ numB z = true then some (2, atoiN x, atoiN y, atoiN z) else none
  | _ => none
def hexD : List UInt8 := [48, 49, 50, 51, 52, 53, 54, 55, 56, 57, 97, 98, 99, 100, 101, 102]
/-- sixteen hex digits -/
def tagB (t : List UInt8) : Bool := decide (t.length = 16) && t.all (hexD.contains ·)
/-- what a text is by a key (T: the tag of a body): what is wrong (0, 3, 5), and the token -/
def tokR (T : List UInt8 → List UInt8) (ps : List (List UInt8)) : Int × Int × Int × Int × Int :=
  match tokP ps.dropLast with
  | none => (3, 0, 0, 0, 0)
  | some (a, b, c, d) => if tagB (ps.getLastD []) = true then (if ps.getLastD [] = T (glue 46 ps.dropLast) then (0, a, b, c, d) else (5, 0, 0, 0, 0)) else (3, 0, 0, 0, 0)

theorem tokP_kind {L : List (List UInt8)} (h1 : L.getD 0 [] ≠ [97]) (h2 : L.getD 0 [] ≠ [114]) : tokP L.dropLast = none := by
  rcases L with _ | ⟨a, _ | ⟨b, _ | ⟨c, _ | ⟨d, _ | ⟨e, _ | ⟨f, r⟩⟩⟩⟩⟩⟩
  all_goals first | rfl | (simp at h1 h2; simp [tokP, h1, h2])
theorem tokP_len2 {L : List (List UInt8)} (h1 : L.getD 0 [] = [97]) (h2 : L.length ≠ 5) : tokP L.dropLast = none := by
  rcases L with _ | ⟨a, _ | ⟨b, _ | ⟨c, _ | ⟨d, _ | ⟨e, _ | ⟨f, r⟩⟩⟩⟩⟩⟩
  all_goals first | rfl | (simp at h1 h2; done) | (simp at h1; simp [tokP, h1])
theorem tokP_len1 {L : List (List UInt8)} (h1 : L.getD 0 [] = [114]) (h2 : L.length ≠ 4) : tokP L.dropLast = none := by
  rcases L with _ | ⟨a, _ | ⟨b, _ | ⟨c, _ | ⟨d, _ | ⟨e, _ | ⟨f, r⟩⟩⟩⟩⟩⟩
  all_goals first | rfl | (simp at h1 h2; done) | (simp at h1; simp [tokP, h1])
theorem tokR_1 {T : List UInt8 → List UInt8} {x y t : List UInt8} (hx : numB x = true) (hy : numB y = true) : tokR T [[114], x, y, t] = if tagB t = true then (if t = T (glue 46 [[114], x, y]) then (0, 1, atoiN x, atoiN y, 0) else (5, 0, 0, 0, 0)) else (3, 0, 0, 0, 0) := by
  simp [tokR, tokP, hx, hy]
theorem tokR_2 {T : List UInt8 → List UInt8} {x y z t : List UInt8} (hx : numB x = true) (hy : numB y = true) (hz : numB z = true) : tokR T [[97], x, y, z, t] = if tagB t = true then (if t = T (glue 46 [[97], x, y, z]) then (0, 2, atoiN x, atoiN y, atoiN z) else (5, 0, 0, 0, 0)) else (3, 0, 0, 0, 0) := by
  simp [tokR, tokP, hx, hy, hz]
theorem tagB_no1 {t : List UInt8} (h : ¬ t.length = 16) : ¬ tagB t = true := by simp [tagB, h]
theorem tagB_no2 {t : List UInt8} (h : t.all (hexD.contains ·) = false) : ¬ tagB t = true := by unfold tagB; rw [h]; simp
theorem tagB_yes {t : List UInt8} (h1 : t.length = 16) (h2 : t.all (hexD.contains ·) = true) : tagB t = true := by unfold tagB; rw [h2]; simp [h1]
theorem tokR_none {T : List UInt8 → List UInt8} {ps : List (List UInt8)} (h : tokP ps.dropLast = none) : tokR T ps = (3, 0, 0, 0, 0) := by unfold tokR; rw [h]
end Go.Proofs.YtepjcdjpikbbjaaGreatDoor

/-
  Words of 64 bits: what both texts of the sum compute, and the contracts of the rounds.
-/
namespace Go.Proofs.YtepjcdjpikbbjaaGreatDoor
open Go.RowKit

/-- a region that draws: its first n operations read, or call quietly; the last ones are forced: the world said as a draw -/
theorem wp_region_drew {P : Program} {id : Nat} {Q : Exit → Act → World → Prop} {a : Act} {w : World} {l : List Oper} (n : Nat) (hm : P.follows .mixedOrders = true) (hB : Region.lexTailB .any l.toArray n = true)
    (h : wpStill P l.toArray w.drew (fun a' => wpList P l.toArray Q (l.drop n) a' w.drew) (l.take n) a) : (Code.region id l.toArray true).wp P Q a w :=
  wp_region_still_tail n hm hB h

/-- x turned left by k bits -/
def rotl (x k : Int) : Int := bits .or .u64 (IntKind.u64.wrap (x * 2 ^ k.toNat)) (x / 2 ^ (64 - k).toNat)
def bx (x y : Int) : Int := bits .xor .u64 x y
def ad (x y : Int) : Int := IntKind.u64.wrap (x + y)
def U64 (x : Int) : Prop := 0 ≤ x ∧ x < 18446744073709551616

structure S4 where
  a : Int
  b : Int
  c : Int
  d : Int
def S4.round (s : S4) : S4 :=
  let a1 := ad s.a s.b
  let b1 := bx (rotl s.b 13) a1
  let a2 := rotl a1 32
  let c1 := ad s.c s.d
  let d1 := bx (rotl s.d 16) c1
  let a3 := ad a2 d1
  let d2 := bx (rotl d1 21) a3
  let c2 := ad c1 b1
  let b2 := bx (rotl b1 17) c2
  let c3 := rotl c2 32
  ⟨a3, b2, c3, d2⟩
def S4.cells (s : S4) : Array Value := #[.int .u64 s.a, .int .u64 s.b, .int .u64 s.c, .int .u64 s.d]
def S4.ok (s : S4) : Prop := U64 s.a ∧ U64 s.b ∧ U64 s.c ∧ U64 s.d

theorem u64_wrap (x : Int) : U64 (IntKind.u64.wrap x) := by
  unfold U64; simp [IntKind.wrap, IntKind.bits, IntKind.signed]; omega
theorem u64_bits (op : BinOp) (x y : Int) (h : op = .or ∨ op = .xor ∨ op = .and) : U64 (bits op .u64 x y) := by
  rcases h with rfl | rfl | rfl <;> exact u64_wrap _
theorem u64_rotl (x k : Int) : U64 (rotl x k) := u64_bits _ _ _ (.inl rfl)
theorem u64_bx (x y : Int) : U64 (bx x y) := u64_bits _ _ _ (.inr (.inl rfl))
theorem u64_ad (x y : Int) : U64 (ad x y) := u64_wrap _
theorem S4.round_ok (s : S4) : s.round.ok := ⟨u64_ad _ _, u64_bx _ _, u64_rotl _ _, u64_bx _ _⟩

theorem and63 (k : Int) (h : k = 13 ∨ k = 16 ∨ k = 17 ∨ k = 21 ∨ k = 32) : bits .and .u64 k 63 = k := by
  rcases h with rfl | rfl | rfl | rfl | rfl <;> decide

theorem rot_k (x k : Int) (w : World) (hx : U64 x) (hk : k = 13 ∨ k = 16 ∨ k = 17 ∨ k = 21 ∨ k = 32) : Calls Tryz.prog 161 #[.int .u64 x, .int .i64 k] w fun e w' => e = .returned (.int .u64 (rotl x k)) ∧ w' = w := by
  obtain ⟨h0, h1⟩ := hx
  have ha := and63 k hk
  have hk0 : 1 ≤ k := by omega
  have hk1 : k ≤ 63 := by omega
  clear hk
  go_enter Tryz.func161, Tryz.ntmps161
  go_wp2
  go_ret
  exact ⟨rfl, rfl⟩

section
variable {w : World} {g : Nat} {t : TypeId} {p0 p1 p2 p3 : Value}
theorem Blk.s0 (h : Blk w g t #[p0, p1, p2, p3]) (x : Value) : Blk (w.setCell ⟨g, 0, none⟩ x).drew g t #[x, p1, p2, p3] := h.set_ 0 x
theorem Blk.s1 (h : Blk w g t #[p0, p1, p2, p3]) (x : Value) : Blk (w.setCell ⟨g, 1, none⟩ x).drew g t #[p0, x, p2, p3] := h.set_ 1 x
theorem Blk.s2 (h : Blk w g t #[p0, p1, p2, p3]) (x : Value) : Blk (w.setCell ⟨g, 2, none⟩ x).drew g t #[p0, p1, x, p3] := h.set_ 2 x
theorem Blk.s3 (h : Blk w g t #[p0, p1, p2, p3]) (x : Value) : Blk (w.setCell ⟨g, 3, none⟩ x).drew g t #[p0, p1, p2, x] := h.set_ 3 x
theorem Blk.c0 (h : Blk w g t #[p0, p1, p2, p3]) : w.cell? ⟨g, 0, none⟩ = some p0 := h.cell 0
theorem Blk.c1 (h : Blk w g t #[p0, p1, p2, p3]) : w.cell? ⟨g, 1, none⟩ = some p1 := h.cell 1
theorem Blk.c2 (h : Blk w g t #[p0, p1, p2, p3]) : w.cell? ⟨g, 2, none⟩ = some p2 := h.cell 2
theorem Blk.c3 (h : Blk w g t #[p0, p1, p2, p3]) : w.cell? ⟨g, 3, none⟩ = some p3 := h.cell 3
theorem only_step {a : World} (h : a.grownBy w (some g)) (i : Nat) (x : Value) : a.grownBy (w.setCell ⟨g, i, none⟩ x).drew (some g) := only_drew (only_setCell h (.inl rfl) x)
end

set_option maxRecDepth 100000 in
set_option maxHeartbeats 1000000 in
theorem mac_round (s : S4) (hs : s.ok) (w : World) (g : Nat) (h : Blk w g 257 s.cells) : Calls Tryz.prog 207 #[.pointer (some ⟨g, 0, none⟩)] w fun e w' => e = .returned (.tuple #[]) ∧ (Blk w' g 257 s.round.cells ∧ w.grownBy w' (some g)) := by
  obtain ⟨a, b, c, d⟩ := s
  obtain ⟨ha, hb, hc, hd⟩ := hs
  have HB := Lib.hid hb
  have HD := Lib.hid hd
  have b0 : Blk w g 257 #[.int .u64 a, .int .u64 b, .int .u64 c, .int .u64 d] := h
  have B0 := Lib.hid b0
  have G0 := Lib.hid (only_refl w (some g))
  clear b0 h ha hb hc hd
  go_enter Tryz.func207, Tryz.ntmps207
  have c0 := B0.out.c0
  have c1 := B0.out.c1
  have c2 := B0.out.c2
  have c3 := B0.out.c3
  have f0 := B0.out.frozen 0
  have f1 := B0.out.frozen 1
  have f2 := B0.out.frozen 2
  have f3 := B0.out.frozen 3
  go_wp2_with fail
  refine wp_region_drew 11 (by kernel_rfl) (by kernel_rfl) ?_
  simp only [List.take_succ_cons, List.take_zero, List.drop_succ_cons, List.drop_zero]
  repeat still_step
  refine wpStill_nil ?_
  go_wp2_with fail
  have B1 := Lib.hid (B0.out.s0 (.int .u64 (IntKind.u64.wrap (a + b))))
  have G1 := Lib.hid (only_step G0.out 0 (.int .u64 (IntKind.u64.wrap (a + b))))
  clear c0 c1 c2 c3 f0 f1 f2 f3 B0 G0
  generalize (w.setCell ⟨g, 0, none⟩ (.int .u64 (IntKind.u64.wrap (a + b)))).drew = w1 at B1 G1 ⊢
  have c0 := B1.out.c0
  have c1 := B1.out.c1
  have c2 := B1.out.c2
  have c3 := B1.out.c3
  have f0 := B1.out.frozen 0
  have f1 := B1.out.frozen 1
  have f2 := B1.out.frozen 2
  have f3 := B1.out.frozen 3
  go_wp2_with fail
  refine wp_region_drew 13 (by kernel_rfl) (by kernel_rfl) ?_
  simp only [List.take_succ_cons, List.take_zero, List.drop_succ_cons, List.drop_zero]
  repeat still_step
  still_call (rot_k (b) 13 _ HB.out (by omega))
  repeat still_step
  refine wpStill_nil ?_
  go_wp2_with fail
  have B2 := Lib.hid (B1.out.s1 (.int .u64 (bits .xor .u64 (rotl (b) 13) (IntKind.u64.wrap (a + b)))))
  have G2 := Lib.hid (only_step G1.out 1 (.int .u64 (bits .xor .u64 (rotl (b) 13) (IntKind.u64.wrap (a + b)))))
  clear c0 c1 c2 c3 f0 f1 f2 f3 B1 G1
  generalize (w1.setCell ⟨g, 1, none⟩ (.int .u64 (bits .xor .u64 (rotl (b) 13) (IntKind.u64.wrap (a + b))))).drew = w2 at B2 G2 ⊢
  have c0 := B2.out.c0
  have c1 := B2.out.c1
  have c2 := B2.out.c2
  have c3 := B2.out.c3
  have f0 := B2.out.frozen 0
  have f1 := B2.out.frozen 1
  have f2 := B2.out.frozen 2
  have f3 := B2.out.frozen 3
  go_wp2_with fail
  refine wp_region_drew 8 (by kernel_rfl) (by kernel_rfl) ?_
  simp only [List.take_succ_cons, List.take_zero, List.drop_succ_cons, List.drop_zero]
  repeat still_step
  still_call (rot_k (IntKind.u64.wrap (a + b)) 32 _ (u64_wrap _) (by omega))
  repeat still_step
  refine wpStill_nil ?_
  go_wp2_with fail
  have B3 := Lib.hid (B2.out.s0 (.int .u64 (rotl (IntKind.u64.wrap (a + b)) 32)))
  have G3 := Lib.hid (only_step G2.out 0 (.int .u64 (rotl (IntKind.u64.wrap (a + b)) 32)))
  clear c0 c1 c2 c3 f0 f1 f2 f3 B2 G2
  generalize (w2.setCell ⟨g, 0, none⟩ (.int .u64 (rotl (IntKind.u64.wrap (a + b)) 32))).drew = w3 at B3 G3 ⊢
  have c0 := B3.out.c0
  have c1 := B3.out.c1
  have c2 := B3.out.c2
  have c3 := B3.out.c3
  have f0 := B3.out.frozen 0
  have f1 := B3.out.frozen 1
  have f2 := B3.out.frozen 2
  have f3 := B3.out.frozen 3
  go_wp2_with fail
  refine wp_region_drew 11 (by kernel_rfl) (by kernel_rfl) ?_
  simp only [List.take_succ_cons, List.take_zero, List.drop_succ_cons, List.drop_zero]
  repeat still_step
  refine wpStill_nil ?_
  go_wp2_with fail
  have B4 := Lib.hid (B3.out.s2 (.int .u64 (IntKind.u64.wrap (c + d))))
  have G4 := Lib.hid (only_step G3.out 2 (.int .u64 (IntKind.u64.wrap (c + d))))
  clear c0 c1 c2 c3 f0 f1 f2 f3 B3 G3
  generalize (w3.setCell ⟨g, 2, none⟩ (.int .u64 (IntKind.u64.wrap (c + d)))).drew = w4 at B4 G4 ⊢
  have c0 := B4.out.c0
  have c1 := B4.out.c1
  have c2 := B4.out.c2
  have c3 := B4.out.c3
  have f0 := B4.out.frozen 0
  have f1 := B4.out.frozen 1
  have f2 := B4.out.frozen 2
  have f3 := B4.out.frozen 3
  go_wp2_with fail
  refine wp_region_drew 13 (by kernel_rfl) (by kernel_rfl) ?_
  simp only [List.take_succ_cons, List.take_zero, List.drop_succ_cons, List.drop_zero]
  repeat still_step
  still_call (rot_k (d) 16 _ HD.out (by omega))
  repeat still_step
  refine wpStill_nil ?_
  go_wp2_with fail
  have B5 := Lib.hid (B4.out.s3 (.int .u64 (bits .xor .u64 (rotl (d) 16) (IntKind.u64.wrap (c + d)))))
  have G5 := Lib.hid (only_step G4.out 3 (.int .u64 (bits .xor .u64 (rotl (d) 16) (IntKind.u64.wrap (c + d)))))
  clear c0 c1 c2 c3 f0 f1 f2 f3 B4 G4
  generalize (w4.setCell ⟨g, 3, none⟩ (.int .u64 (bits .xor .u64 (rotl (d) 16) (IntKind.u64.wrap (c + d))))).drew = w5 at B5 G5 ⊢
  have c0 := B5.out.c0
  have c1 := B5.out.c1
  have c2 := B5.out.c2
  have c3 := B5.out.c3
  have f0 := B5.out.frozen 0
  have f1 := B5.out.frozen 1
  have f2 := B5.out.frozen 2
  have f3 := B5.out.frozen 3
  go_wp2_with fail
  refine wp_region_drew 11 (by kernel_rfl) (by kernel_rfl) ?_
  simp only [List.take_succ_cons, List.take_zero, List.drop_succ_cons, List.drop_zero]
  repeat still_step
  refine wpStill_nil ?_
  go_wp2_with fail
  have B6 := Lib.hid (B5.out.s0 (.int .u64 (IntKind.u64.wrap (rotl (IntKind.u64.wrap (a + b)) 32 + bits .xor .u64 (rotl (d) 16) (IntKind.u64.wrap (c + d))))))
  have G6 := Lib.hid (only_step G5.out 0 (.int .u64 (IntKind.u64.wrap (rotl (IntKind.u64.wrap (a + b)) 32 + bits .xor .u64 (rotl (d) 16) (IntKind.u64.wrap (c + d))))))
  clear c0 c1 c2 c3 f0 f1 f2 f3 B5 G5
  generalize (w5.setCell ⟨g, 0, none⟩ (.int .u64 (IntKind.u64.wrap (rotl (IntKind.u64.wrap (a + b)) 32 + bits .xor .u64 (rotl (d) 16) (IntKind.u64.wrap (c + d)))))).drew = w6 at B6 G6 ⊢
  have c0 := B6.out.c0
  have c1 := B6.out.c1
  have c2 := B6.out.c2
  have c3 := B6.out.c3
  have f0 := B6.out.frozen 0
  have f1 := B6.out.frozen 1
  have f2 := B6.out.frozen 2
  have f3 := B6.out.frozen 3
  go_wp2_with fail
  refine wp_region_drew 13 (by kernel_rfl) (by kernel_rfl) ?_
  simp only [List.take_succ_cons, List.take_zero, List.drop_succ_cons, List.drop_zero]
  repeat still_step
  still_call (rot_k (bits .xor .u64 (rotl (d) 16) (IntKind.u64.wrap (c + d))) 21 _ (u64_bits _ _ _ (.inr (.inl rfl))) (by omega))
  repeat still_step
  refine wpStill_nil ?_
  go_wp2_with fail
  have B7 := Lib.hid (B6.out.s3 (.int .u64 (bits .xor .u64 (rotl (bits .xor .u64 (rotl (d) 16) (IntKind.u64.wrap (c + d))) 21) (IntKind.u64.wrap (rotl (IntKind.u64.wrap (a + b)) 32 + bits .xor .u64 (rotl (d) 16) (IntKind.u64.wrap (c + d)))))))
  have G7 := Lib.hid (only_step G6.out 3 (.int .u64 (bits .xor .u64 (rotl (bits .xor .u64 (rotl (d) 16) (IntKind.u64.wrap (c + d))) 21) (IntKind.u64.wrap (rotl (IntKind.u64.wrap (a + b)) 32 + bits .xor .u64 (rotl (d) 16) (IntKind.u64.wrap (c + d)))))))
  clear c0 c1 c2 c3 f0 f1 f2 f3 B6 G6
  generalize (w6.setCell ⟨g, 3, none⟩ (.int .u64 (bits .xor .u64 (rotl (bits .xor .u64 (rotl (d) 16) (IntKind.u64.wrap (c + d))) 21) (IntKind.u64.wrap (rotl (IntKind.u64.wrap (a + b)) 32 + bits .xor .u64 (rotl (d) 16) (IntKind.u64.wrap (c + d))))))).drew = w7 at B7 G7 ⊢
  have c0 := B7.out.c0
  have c1 := B7.out.c1
  have c2 := B7.out.c2
  have c3 := B7.out.c3
  have f0 := B7.out.frozen 0
  have f1 := B7.out.frozen 1
  have f2 := B7.out.frozen 2
  have f3 := B7.out.frozen 3
  go_wp2_with fail
  refine wp_region_drew 11 (by kernel_rfl) (by kernel_rfl) ?_
  simp only [List.take_succ_cons, List.take_zero, List.drop_succ_cons, List.drop_zero]
  repeat still_step
  refine wpStill_nil ?_
  go_wp2_with fail
  have B8 := Lib.hid (B7.out.s2 (.int .u64 (IntKind.u64.wrap (IntKind.u64.wrap (c + d) + bits .xor .u64 (rotl (b) 13) (IntKind.u64.wrap (a + b))))))
  have G8 := Lib.hid (only_step G7.out 2 (.int .u64 (IntKind.u64.wrap (IntKind.u64.wrap (c + d) + bits .xor .u64 (rotl (b) 13) (IntKind.u64.wrap (a + b))))))
  clear c0 c1 c2 c3 f0 f1 f2 f3 B7 G7
  generalize (w7.setCell ⟨g, 2, none⟩ (.int .u64 (IntKind.u64.wrap (IntKind.u64.wrap (c + d) + bits .xor .u64 (rotl (b) 13) (IntKind.u64.wrap (a + b)))))).drew = w8 at B8 G8 ⊢
  have c0 := B8.out.c0
  have c1 := B8.out.c1
  have c2 := B8.out.c2
  have c3 := B8.out.c3
  have f0 := B8.out.frozen 0
  have f1 := B8.out.frozen 1
  have f2 := B8.out.frozen 2
  have f3 := B8.out.frozen 3
  go_wp2_with fail
  refine wp_region_drew 13 (by kernel_rfl) (by kernel_rfl) ?_
  simp only [List.take_succ_cons, List.take_zero, List.drop_succ_cons, List.drop_zero]
  repeat still_step
  still_call (rot_k (bits .xor .u64 (rotl (b) 13) (IntKind.u64.wrap (a + b))) 17 _ (u64_bits _ _ _ (.inr (.inl rfl))) (by omega))
  repeat still_step
  refine wpStill_nil ?_
  go_wp2_with fail
  have B9 := Lib.hid (B8.out.s1 (.int .u64 (bits .xor .u64 (rotl (bits .xor .u64 (rotl (b) 13) (IntKind.u64.wrap (a + b))) 17) (IntKind.u64.wrap (IntKind.u64.wrap (c + d) + bits .xor .u64 (rotl (b) 13) (IntKind.u64.wrap (a + b)))))))
  have G9 := Lib.hid (only_step G8.out 1 (.int .u64 (bits .xor .u64 (rotl (bits .xor .u64 (rotl (b) 13) (IntKind.u64.wrap (a + b))) 17) (IntKind.u64.wrap (IntKind.u64.wrap (c + d) + bits .xor .u64 (rotl (b) 13) (IntKind.u64.wrap (a + b)))))))
  clear c0 c1 c2 c3 f0 f1 f2 f3 B8 G8
  generalize (w8.setCell ⟨g, 1, none⟩ (.int .u64 (bits .xor .u64 (rotl (bits .xor .u64 (rotl (b) 13) (IntKind.u64.wrap (a + b))) 17) (IntKind.u64.wrap (IntKind.u64.wrap (c + d) + bits .xor .u64 (rotl (b) 13) (IntKind.u64.wrap (a + b))))))).drew = w9 at B9 G9 ⊢
  have c0 := B9.out.c0
  have c1 := B9.out.c1
  have c2 := B9.out.c2
  have c3 := B9.out.c3
  have f0 := B9.out.frozen 0
  have f1 := B9.out.frozen 1
  have f2 := B9.out.frozen 2
  have f3 := B9.out.frozen 3
  go_wp2_with fail
  refine wp_region_drew 8 (by kernel_rfl) (by kernel_rfl) ?_
  simp only [List.take_succ_cons, List.take_zero, List.drop_succ_cons, List.drop_zero]
  repeat still_step
  still_call (rot_k (IntKind.u64.wrap (IntKind.u64.wrap (c + d) + bits .xor .u64 (rotl (b) 13) (IntKind.u64.wrap (a + b)))) 32 _ (u64_wrap _) (by omega))
  repeat still_step
  refine wpStill_nil ?_
  go_wp2_with fail
  have B10 := Lib.hid (B9.out.s2 (.int .u64 (rotl (IntKind.u64.wrap (IntKind.u64.wrap (c + d) + bits .xor .u64 (rotl (b) 13) (IntKind.u64.wrap (a + b)))) 32)))
  have G10 := Lib.hid (only_step G9.out 2 (.int .u64 (rotl (IntKind.u64.wrap (IntKind.u64.wrap (c + d) + bits .xor .u64 (rotl (b) 13) (IntKind.u64.wrap (a + b)))) 32)))
  go_end0
  exact ⟨rfl, B10.out, G10.out⟩
end Go.Proofs.YtepjcdjpikbbjaaGreatDoor

/-
  The sum, by the program's text.
-/
namespace Go.Proofs.YtepjcdjpikbbjaaGreatDoor
open Go.RowKit

def S4.eat (s : S4) (m : Int) : S4 :=
  let t := (S4.mk s.a s.b s.c (bx s.d m)).round.round
  ⟨bx t.a m, t.b, t.c, t.d⟩
theorem S4.eat_ok (s : S4) (m : Int) : (s.eat m).ok :=
  ⟨u64_bx _ _, (S4.round_ok _).2.1, (S4.round_ok _).2.2.1, (S4.round_ok _).2.2.2⟩

set_option maxRecDepth 100000 in
set_option maxHeartbeats 1000000 in
theorem mac_eat (s : S4) (hs : s.ok) (m : Int) (w : World) (g : Nat) (h : Blk w g 257 s.cells) : Calls Tryz.prog 206 #[.int .u64 m, .pointer (some ⟨g, 0, none⟩)] w fun e w' => e = .returned (.tuple #[]) ∧ (Blk w' g 257 (s.eat m).cells ∧ w.grownBy w' (some g)) := by
  obtain ⟨a, b, c, d⟩ := s
  have b0 : Blk w g 257 #[.int .u64 a, .int .u64 b, .int .u64 c, .int .u64 d] := h
  have c3 := b0.c3
  have f3 := b0.frozen 3
  have B0 := Lib.hid b0
  have HS := Lib.hid hs
  clear b0 h hs
  go_enter Tryz.func206, Tryz.ntmps206
  go_wp2_with fail
  refine (mac_round ⟨a, b, c, bx d m⟩ ⟨HS.out.1, HS.out.2.1, HS.out.2.2.1, u64_bx _ _⟩ _ g (B0.out.set_ 3 (.int .u64 (bx d m)))).mono ?_
  rintro e w1 ⟨rfl, hb1, hg1⟩
  have B1 := Lib.hid hb1
  have G1 := Lib.hid hg1
  clear hb1 hg1
  go_wp2_with fail
  refine (mac_round (S4.round ⟨a, b, c, bx d m⟩) (S4.round_ok _) _ g B1.out).mono ?_
  rintro e w2 ⟨rfl, hb2, hg2⟩
  have B2 := Lib.hid hb2
  have G2 := Lib.hid (only_trans (only_trans (only_setCell (only_refl w (some g)) (p := ⟨g, 3, none⟩) (.inl rfl) (.int .u64 (bx d m))) G1.out) hg2)
  clear hb2 hg2
  have E : ∃ s2 : S4, s2 = (S4.round (S4.round ⟨a, b, c, bx d m⟩)) := ⟨_, rfl⟩
  obtain ⟨s2, e2⟩ := E
  have E2 := Lib.hid e2
  rw [← e2] at B2
  clear e2
  have c0 := Blk.c0 B2.out
  have f0 := B2.out.frozen 0
  go_wp2_with fail
  go_end0
  refine ⟨rfl, ?_, ?_⟩
  · have h1 := B2.out.set_ 0 (.int .u64 (bx s2.a m))
    have h2 : (S4.eat ⟨a, b, c, d⟩ m).cells = #[.int .u64 (bx s2.a m), .int .u64 s2.b, .int .u64 s2.c, .int .u64 s2.d] := by rw [E2.out]; rfl
    rw [h2]
    exact h1
  · exact only_setCell G2.out (.inl rfl) _
end Go.Proofs.YtepjcdjpikbbjaaGreatDoor

/-
  Words of eight bytes, the least ones first: no program here.
-/
namespace Go.Proofs.YtepjcdjpikbbjaaGreatDoor

def wordN (l : List UInt8) : Nat := l.foldr (fun b acc => b.toNat + 256 * acc) 0
theorem wordN_nil : wordN [] = 0 := rfl
theorem wordN_cons (b : UInt8) (l : List UInt8) : wordN (b :: l) = b.toNat + 256 * wordN l := rfl
theorem wordN_lt (l : List UInt8) : wordN l < 256 ^ l.length := by
  induction l with
  | nil => simp [wordN]
  | cons b l ih =>
    have hb := b.toNat_lt
    rw [wordN_cons, List.length_cons, Nat.pow_succ]
    omega
theorem wordN_append (l r : List UInt8) : wordN (l ++ r) = wordN l + 256 ^ l.length * wordN r := by
  induction l with
  | nil => simp [wordN_nil]
  | cons b l ih =>
    rw [List.cons_append, wordN_cons, wordN_cons, ih, List.length_cons, Nat.pow_succ, Nat.mul_add, ← Nat.mul_assoc, Nat.mul_comm 256 (256 ^ l.length)]
    omega
theorem wordN_snoc (l : List UInt8) (b : UInt8) : wordN (l ++ [b]) = wordN l + 256 ^ l.length * b.toNat := by
  rw [wordN_append]; simp [wordN_cons, wordN_nil]
theorem wordN_take_succ (l : List UInt8) (i : Nat) (h : i < l.length) : wordN (l.take (i + 1)) = wordN (l.take i) + 256 ^ i * (l[i]).toNat := by
  rw [List.take_succ_eq_append_getElem h, wordN_snoc, List.length_take, Nat.min_eq_left (Nat.le_of_lt h)]

theorem pow256 (i : Nat) : 256 ^ i = 2 ^ (8 * i) := by rw [Nat.pow_mul]
/-- or with a byte above all that is there: a sum -/
theorem or_above (m b i : Nat) (hm : m < 256 ^ i) : m ||| (b * 256 ^ i) = m + 256 ^ i * b := by
  rw [pow256] at *
  rw [Nat.or_comm, Nat.mul_comm b, ← Nat.two_pow_add_eq_or_of_lt hm, Nat.add_comm]
/-- the top byte's place: its word, and all below -/
theorem or_top (t m : Nat) (hm : m < 2 ^ 56) : t * 2 ^ 56 ||| m = t * 2 ^ 56 + m := by
  rw [Nat.mul_comm, Nat.two_pow_add_eq_or_of_lt hm]

/-- the number of bytes in the top byte, m below -/
def topW (n m : Nat) : Nat := (n % 256) * 2 ^ 56 + m
theorem wrap_nat (n : Nat) (h : n < 18446744073709551616) : IntKind.u64.wrap (n : Int) = (n : Int) := by
  simp [IntKind.wrap, IntKind.bits, IntKind.signed]; omega
/-- the program's step: m |= uint64(b) << (8*i) -/
theorem or_step (m : Nat) (b : UInt8) (i : Nat) (hi : i < 8) (hm : m < 256 ^ i) :
    bits .or .u64 (m : Int) (IntKind.u64.wrap ((b.toNat : Int) * 2 ^ (8 * i))) = ((m + 256 ^ i * b.toNat : Nat) : Int) := by
  have hb := b.toNat_lt
  have hp : (256 : Nat) ^ i ≤ 256 ^ 7 := Nat.pow_le_pow_right (by omega) (by omega)
  have hbp : b.toNat * 256 ^ i < 18446744073709551616 := Nat.lt_of_lt_of_le (Nat.mul_lt_mul_of_lt_of_le hb hp (by omega)) (by decide)
  have e2 : IntKind.u64.wrap ((b.toNat : Int) * 2 ^ (8 * i)) = ((b.toNat * 256 ^ i : Nat) : Int) := by
    rw [pow256]
    have e3 : ((b.toNat : Int) * 2 ^ (8 * i)) = ((b.toNat * 2 ^ (8 * i) : Nat) : Int) := by simp
    rw [e3]
    rw [pow256] at hbp
    exact wrap_nat _ (by omega)
  rw [e2, u64_or_nat _ _ (by omega) hbp, or_above m b.toNat i hm]
/-- the program's step in the last word, the number of bytes above -/
theorem or_step_top (t m : Nat) (b : UInt8) (i : Nat) (ht : t < 256) (hi : i < 7) (hm : m < 256 ^ i) :
    bits .or .u64 ((t * 2 ^ 56 + m : Nat) : Int) (IntKind.u64.wrap ((b.toNat : Int) * 2 ^ (8 * i))) = ((t * 2 ^ 56 + (m + 256 ^ i * b.toNat) : Nat) : Int) := by
  have hb := b.toNat_lt
  have hp : (256 : Nat) ^ i ≤ 256 ^ 6 := Nat.pow_le_pow_right (by omega) (by omega)
  have hq : (256 : Nat) ^ (i + 1) ≤ 256 ^ 7 := Nat.pow_le_pow_right (by omega) (by omega)
  have hbp : b.toNat * 256 ^ i < 2 ^ 56 := Nat.lt_of_lt_of_le (Nat.mul_lt_mul_of_lt_of_le hb hp (by omega)) (by decide)
  have hm2 : m < 2 ^ 56 := by omega
  have hs : m + 256 ^ i * b.toNat < 2 ^ 56 := by
    have h1 : m + 256 ^ i * b.toNat < 256 ^ (i + 1) := by
      rw [Nat.pow_succ]
      have h2 : 256 ^ i * b.toNat ≤ 256 ^ i * 255 := Nat.mul_le_mul_left _ (by omega)
      omega
    omega
  have e2 : IntKind.u64.wrap ((b.toNat : Int) * 2 ^ (8 * i)) = ((b.toNat * 256 ^ i : Nat) : Int) := by
    rw [pow256]
    have e3 : ((b.toNat : Int) * 2 ^ (8 * i)) = ((b.toNat * 2 ^ (8 * i) : Nat) : Int) := by simp
    rw [e3]
    rw [pow256] at hbp
    exact wrap_nat _ (by omega)
  rw [e2, u64_or_nat _ _ (by omega) (by omega), ← or_top t m hm2, Nat.or_assoc, or_above m b.toNat i hm, or_top t _ hs]
theorem top_word0 (n : Nat) : IntKind.u64.wrap ((n : Int) * 72057594037927936) = (((n % 256) * 2 ^ 56 : Nat) : Int) := by
  simp [IntKind.wrap, IntKind.bits, IntKind.signed]; omega
theorem top_word (n : Nat) : IntKind.u64.wrap ((n : Int) * 72057594037927936) = ((topW n (wordN []) : Nat) : Int) := by
  rw [top_word0]
  unfold topW
  rw [wordN_nil, Nat.add_zero]
theorem top_step (n m : Nat) (b : UInt8) (i : Nat) (hi : i < 7) (hm : m < 256 ^ i) :
    bits .or .u64 ((topW n m : Nat) : Int) (IntKind.u64.wrap ((b.toNat : Int) * 2 ^ (8 * i))) = ((topW n (m + 256 ^ i * b.toNat) : Nat) : Int) :=
  or_step_top (n % 256) m b i (Nat.mod_lt _ (by omega)) hi hm
end Go.Proofs.YtepjcdjpikbbjaaGreatDoor

/-
  The sum, by the program's text: whole.
-/
namespace Go.Proofs.YtepjcdjpikbbjaaGreatDoor
open Go.RowKit

def sipInit (k0 k1 : Int) : S4 := ⟨bx k0 8317987319222330741, bx k1 7237128888997146477, bx k0 7816392313619706465, bx k1 8387220255154660723⟩
def chunkSt (s0 : S4) (l : List UInt8) (j : Nat) : S4 := (List.range j).foldl (fun s i => s.eat (wordN ((l.drop (8 * i)).take 8))) s0
def lastWord (l : List UInt8) : Nat := topW l.length (wordN (l.drop (8 * (l.length / 8))))
def roundN (s : S4) : Nat → S4
  | 0 => s
  | n + 1 => (roundN s n).round
theorem roundN_ok (s : S4) (h : s.ok) (n : Nat) : (roundN s n).ok := by
  cases n with
  | zero => exact h
  | succ n => exact S4.round_ok _
def sipFin (s : S4) : Int :=
  let t := roundN (S4.mk s.a s.b (bx s.c 255) s.d) 4
  bx (bx (bx t.a t.b) t.c) t.d
def sip (k0 k1 : Int) (l : List UInt8) : Int := sipFin ((chunkSt (sipInit k0 k1) l (l.length / 8)).eat (lastWord l))

theorem chunkSt_succ (s0 : S4) (l : List UInt8) (j : Nat) : chunkSt s0 l (j + 1) = (chunkSt s0 l j).eat (wordN ((l.drop (8 * j)).take 8)) := by
  simp [chunkSt, List.range_succ]
theorem sipInit_ok (k0 k1 : Int) : (sipInit k0 k1).ok := ⟨u64_bx _ _, u64_bx _ _, u64_bx _ _, u64_bx _ _⟩
theorem chunkSt_ok (s0 : S4) (h : s0.ok) (l : List UInt8) (j : Nat) : (chunkSt s0 l j).ok := by
  cases j with
  | zero => exact h
  | succ j => rw [chunkSt_succ]; exact S4.eat_ok _ _

def strLen : Value → Nat | .string t => t.size | _ => 0
def MacRel (W : World) (l : List UInt8) (s0 : S4) (v : Value) (w : World) : Prop :=
  ∃ (t : ByteArray) (j : Nat), v = .string t ∧ t.data.toList = l.drop (8 * j) ∧ 8 * j ≤ l.length ∧ Below W.heap.size W w ∧ Blk w W.heap.size 257 (chunkSt s0 l j).cells

theorem drop_extract (t : ByteArray) (k : Nat) : (t.extract k t.size).data.toList = t.data.toList.drop k := by
  simp [ByteArray.data_extract]
  exact List.take_of_length_le (by rw [List.length_drop]; exact Nat.le_refl _)
theorem MacRel.step {W wr w1 : World} {l : List UInt8} {s0 : S4} {t : ByteArray} {j : Nat} (ht : t.data.toList = l.drop (8 * j)) (hb : Below W.heap.size W wr) (h8 : 8 ≤ t.size)
    (hk : Blk w1 W.heap.size 257 ((chunkSt s0 l j).eat (wordN (t.data.toList.take 8))).cells) (hg : wr.grownBy w1 (some W.heap.size)) :
    MacRel W l s0 (.string (t.extract 8 t.size)) w1 ∧ strLen (.string (t.extract 8 t.size)) < strLen (.string t) := by
  have hl := congrArg List.length ht
  rw [List.length_drop] at hl
  have hs : t.data.toList.length = t.size := rfl
  refine ⟨⟨_, j + 1, rfl, ?_, by omega, below_of_only hb hg (Nat.le_refl _) hb.size, ?_⟩, ?_⟩
  · rw [drop_extract, ht, List.drop_drop]; congr 1
  · rw [chunkSt_succ, ← ht]; exact hk
  · have h1 := congrArg List.length (drop_extract t 8)
    rw [List.length_drop] at h1
    have h2 : (t.extract 8 t.size).data.toList.length = (t.extract 8 t.size).size := rfl
    simp only [strLen]
    omega
def FinRel (W : World) (s0 : S4) (v : Value) (w : World) : Prop :=
  ∃ k : Nat, k ≤ 4 ∧ v = .int .i64 k ∧ Below W.heap.size W w ∧ Blk w W.heap.size 257 (roundN s0 k).cells

set_option maxRecDepth 100000 in
set_option maxHeartbeats 1000000 in
theorem mac_sum (k0 k1 : Int) (s : ByteArray) (W : World) (hs : s.size ≤ 9223372036854775807) :
    Calls Tryz.prog 160 #[.int .u64 k0, .int .u64 k1, .string s] W fun e w' => e = .returned (.int .u64 (sip k0 k1 s.data.toList)) ∧ Below W.heap.size W w' := by
  go_enter Tryz.func160, Tryz.ntmps160
  go_wp2_with fail
  go_loopw [2] (fun v wr => MacRel W s.data.toList (sipInit k0 k1) v wr) (fun v _ => strLen v)
  case atStart => exact ⟨s, 0, rfl, rfl, by omega, (Below.refl _ _).alloc (Nat.le_refl _) _, Blk.new W _ _⟩
  case round =>
    obtain ⟨t, j, rfl, ht, hj, hb, hB⟩ := hrel
    have hts : t.size = s.data.toList.length - 8 * j := by
      have := congrArg List.length ht
      rw [List.length_drop] at this
      exact this
    have HT := Lib.hid ht
    have HS := Lib.hid hts
    have HB := Lib.hid hb
    have HK := Lib.hid hB
    have htm : t.size ≤ 9223372036854775807 := by
      have : s.data.toList.length = s.size := rfl
      omega
    clear ht hts hb hB
    by_cases h8 : 8 ≤ t.size
    · go_wp2_with fail
      go_loop [10, 31] (fun m i => ∃ k : Nat, k ≤ 8 ∧ i = .int .i64 k ∧ m = .int .u64 ((wordN (t.data.toList.take k) : Nat) : Int)) (fun _ i => 8 - (intOf i).toNat)
      case atStart => exact ⟨0, by omega, rfl, rfl⟩
      case round =>
        obtain ⟨k, hk, rfl, rfl⟩ := hrel
        by_cases hlt : k < 8
        · have hks : k < t.size := by omega
          have hb256 := t[k].toNat_lt
          go_wp2_with fail
          refine ⟨⟨k + 1, by omega, by go_num, ?_⟩, by simp [intOf]; omega⟩
          rw [or_step _ _ k hlt (by
            have h1 := wordN_lt (t.data.toList.take k)
            have h2 : (t.data.toList.take k).length = k := by rw [List.length_take]; have : t.data.toList.length = t.size := rfl; omega
            rw [h2] at h1
            exact h1), wordN_take_succ t.data.toList k hks]
          rfl
        · obtain rfl : k = 8 := by omega
          go_wp2_with (go_at_call 206; refine (mac_eat _ (chunkSt_ok _ (sipInit_ok k0 k1) s.data.toList j) _ _ _ HK.out).mono ?_; rintro e w1 ⟨rfl, hk1, hg1⟩)
          exact MacRel.step HT.out HB.out h8 hk1 hg1
    · have hjl : j = s.data.toList.length / 8 := by
        have h1 := HS.out
        omega
      have HJ := Lib.hid hjl
      clear hjl
      have htop := top_word s.size
      have HTOP := Lib.hid htop
      clear htop
      go_wp2_with fail
      go_loop [12, 52] (fun m i => ∃ k : Nat, k ≤ t.size ∧ i = .int .i64 k ∧ m = .int .u64 ((topW s.size (wordN (t.data.toList.take k)) : Nat) : Int)) (fun _ i => t.size - (intOf i).toNat)
      case atStart => exact ⟨0, by omega, rfl, by rw [HTOP.out]; rfl⟩
      case round =>
        obtain ⟨k, hk, rfl, rfl⟩ := hrel
        by_cases hlt : k < t.size
        · have hb256 := t[k].toNat_lt
          go_wp2_with fail
          refine ⟨⟨k + 1, by omega, by go_num, ?_⟩, by simp [intOf]; omega⟩
          rw [top_step _ _ _ k (by omega) (by
            have h1 := wordN_lt (t.data.toList.take k)
            have h2 : (t.data.toList.take k).length = k := by rw [List.length_take]; have : t.data.toList.length = t.size := rfl; omega
            rw [h2] at h1
            exact h1), wordN_take_succ t.data.toList k hlt]
          rfl
        · obtain rfl : k = t.size := by omega
          have hw : topW s.size (wordN (t.data.toList.take t.size)) = lastWord s.data.toList := by
            have h1 : t.data.toList.take t.size = t.data.toList := List.take_of_length_le (Nat.le_refl _)
            rw [h1, HT.out, HJ.out]; rfl
          have hk0 : Blk wr W.heap.size 257 (chunkSt (sipInit k0 k1) s.data.toList (s.data.toList.length / 8)).cells := by rw [← HJ.out]; exact HK.out
          have HK0 := Lib.hid hk0
          rw [hw]
          clear hw hk0 hlt hk
          obtain ⟨sc, hsc⟩ : ∃ sc : S4, sc = (chunkSt (sipInit k0 k1) s.data.toList (s.data.toList.length / 8)).eat (lastWord s.data.toList) := ⟨_, rfl⟩
          have HSC := Lib.hid hsc
          clear hsc
          go_wp2_with (go_at_call 206; refine (mac_eat _ (chunkSt_ok _ (sipInit_ok k0 k1) s.data.toList _) _ _ _ HK0.out).mono ?_; rintro e w1 ⟨rfl, hk1, hg1⟩; rw [← HSC.out] at hk1; have c2 := Blk.c2 hk1; have f2 := hk1.frozen 2)
          go_loopw [72] (fun i wr2 => FinRel W ⟨sc.a, sc.b, bx sc.c 255, sc.d⟩ i wr2) (fun i _ => 4 - (intOf i).toNat)
          case atStart =>
            exact ⟨0, by omega, rfl, below_of_only (below_of_only HB.out hg1 (Nat.le_refl _) HB.out.size) (only_setCell (only_refl w1 (some W.heap.size)) (p := ⟨W.heap.size, 2, none⟩) (.inl rfl) _) (Nat.le_refl _) (Nat.le_trans HB.out.size hg1.size), hk1.set_ 2 _⟩
          case round =>
            obtain ⟨i, hi, rfl, hb, hk⟩ := hrel
            have HB2 := Lib.hid hb
            have HK2 := Lib.hid hk
            clear hb hk
            have hok : (S4.mk sc.a sc.b (bx sc.c 255) sc.d).ok := by
              have h1 : sc.ok := by rw [HSC.out]; exact S4.eat_ok _ _
              exact ⟨h1.1, h1.2.1, u64_bx _ _, h1.2.2.2⟩
            have HOK := Lib.hid hok
            clear hok
            by_cases hlt : i < 4
            · go_wp2_with (go_at_call 207; refine (mac_round _ (roundN_ok _ HOK.out i) _ _ HK2.out).mono ?_; rintro e w3 ⟨rfl, hk3, hg3⟩)
              exact ⟨⟨i + 1, by omega, by go_num, below_of_only HB2.out hg3 (Nat.le_refl _) HB2.out.size, hk3⟩, by simp [intOf]; omega⟩
            · obtain rfl : i = 4 := by omega
              have hfin : sip k0 k1 s.data.toList = bx (bx (bx (roundN ⟨sc.a, sc.b, bx sc.c 255, sc.d⟩ 4).a (roundN ⟨sc.a, sc.b, bx sc.c 255, sc.d⟩ 4).b) (roundN ⟨sc.a, sc.b, bx sc.c 255, sc.d⟩ 4).c) (roundN ⟨sc.a, sc.b, bx sc.c 255, sc.d⟩ 4).d := by
                rw [HSC.out]; rfl
              have HF := Lib.hid hfin
              clear hfin
              have c0 := Blk.c0 HK2.out
              have c1 := Blk.c1 HK2.out
              have c2' := Blk.c2 HK2.out
              have c3 := Blk.c3 HK2.out
              generalize roundN ⟨sc.a, sc.b, bx sc.c 255, sc.d⟩ 4 = tt at *
              go_wp2_with fail
              go_ret
              exact ⟨by rw [HF.out]; rfl, HB2.out⟩
end Go.Proofs.YtepjcdjpikbbjaaGreatDoor

/-
  A slice of bytes that the call itself made, also one out of a conversion (whose row bears a mark beyond its cells).
-/
namespace Go.Proofs.YtepjcdjpikbbjaaGreatDoor
open Go.RowKit

structure BSat (w : World) (B g cap : Nat) (l : List UInt8) : Prop where
  base : B ≤ g
  lt : g < w.heap.size
  le : l.length ≤ cap
  max : cap ≤ maxLen
  cells : ∀ j, j < cap → (w.cell? ⟨g, j, none⟩).isSome = true ∧ w.frozen? ⟨g, j, none⟩ = false
  bytes : ∀ j (h : j < l.length), w.cell? ⟨g, j, none⟩ = some (.int .u8 (l[j]).toNat)
def BS (w : World) (B : Nat) (v : Value) (l : List UInt8) : Prop := ∃ g cap, v = .slice (some ⟨g, 0, none⟩) l.length cap ∧ BSat w B g cap l

section
variable {w w' : World} {B g cap : Nat} {v : Value} {l : List UInt8}
theorem BSat.keep (h : BSat w B g cap l) (hb : w'.heap[g]? = w.heap[g]?) (hs : w.heap.size ≤ w'.heap.size) : BSat w' B g cap l :=
  ⟨h.base, Nat.lt_of_lt_of_le h.lt hs, h.le, h.max, fun j hj => by
    rw [World.cell?_of_block (w := w) (a := ⟨g, j, none⟩) hb, World.frozen?_of_block (w := w) (a := ⟨g, j, none⟩) hb]; exact h.cells j hj,
   fun j hj => by rw [World.cell?_of_block (w := w) (a := ⟨g, j, none⟩) hb]; exact h.bytes j hj⟩
theorem BSat.below (h : BSat w B g cap l) (hb : Below w.heap.size w w') : BSat w' B g cap l := h.keep (hb.block g h.lt) hb.size
theorem BSat.alloc (h : BSat w B g cap l) (o : Obj) : BSat (w.alloc o) B g cap l := h.keep (Below.heap_alloc w o g h.lt) (by simp)
theorem BSat.drewN (h : BSat w B g cap l) (n : Nat) : BSat (w.drewN n) B g cap l := h.keep rfl (Nat.le_refl _)
theorem BSat.only {r : Option Nat} (h : BSat w B g cap l) (hb : w.grownBy w' r) (hr : some g ≠ r) : BSat w' B g cap l := h.keep (hb.block g h.lt hr) hb.size
theorem BS.alloc (h : BS w B v l) (o : Obj) : BS (w.alloc o) B v l := by
  obtain ⟨g, cap, hv, h⟩ := h
  exact ⟨g, cap, hv, h.alloc o⟩

theorem BSat.bs (h : BSat w B g cap l) (n : Nat) (hn : n = l.length) : BS w B (.slice (some ⟨g, 0, none⟩) n cap) l := ⟨g, cap, by rw [hn], h⟩
/-- out of '[]byte(s)' -/
theorem BS.conv (W : World) (e : TypeId) (s : ByteArray) (hs : s.size ≤ 140737488355328) : BS (Lib.bytesWorld W e s) W.heap.size (.slice (some ⟨W.heap.size, 0, none⟩) s.size (grownCap W s.size 0 e)) s.data.toList := by
  have hl : s.data.toList.length = s.size := rfl
  have hge := grownCap_ge W s.size 0 e
  have hsz : (Lib.bytesCells W e s).size = grownCap W s.size 0 e := by
    simp [Lib.bytesCells]
    have : s.data.size = s.size := rfl
    omega
  have hfr := Lib.bytesWorld_at_new W e s
  refine ⟨W.heap.size, grownCap W s.size 0 e, by rw [hl], ⟨Nat.le_refl _, by rw [Lib.bytesWorld_size]; omega, by rw [hl]; exact hge, grownCap_le_maxLen W s.size 0 e (by unfold maxLen; omega), ?_, ?_⟩⟩
  · intro j hj
    refine ⟨?_, ?_⟩
    · simp only [World.cell?, hfr]
      have : j < (Lib.bytesCells W e s).size := by omega
      simp [this]
    · simp only [World.frozen?, hfr]
      simp; omega
  · intro j hj
    rw [Lib.bytesWorld_cell W e s j (by omega)]
    rw [List.getD_eq_getElem?_getD, List.getElem?_eq_getElem hj]
    rfl
end
end Go.Proofs.YtepjcdjpikbbjaaGreatDoor

/-
  Sixteen hexadecimal digits: no program here.
-/
namespace Go.Proofs.YtepjcdjpikbbjaaGreatDoor

def hexTab : List UInt8 := [48, 49, 50, 51, 52, 53, 54, 55, 56, 57, 97, 98, 99, 100, 101, 102]
def dig (d : Nat) : UInt8 := hexTab.getD d 0
/-- the last k hexadecimal digits of n -/
def hexN : Nat → Nat → List UInt8
  | 0, _ => []
  | k + 1, n => hexN k (n / 16) ++ [dig (n % 16)]
theorem hexN_length (k n : Nat) : (hexN k n).length = k := by
  induction k generalizing n with
  | zero => rfl
  | succ k ih => simp [hexN, ih]
theorem hexN_cons (k n : Nat) : hexN (k + 1) n = dig (n / 16 ^ k % 16) :: hexN k n := by
  induction k generalizing n with
  | zero => simp [hexN]
  | succ k ih =>
    rw [hexN, ih]
    conv => rhs; rw [hexN]
    rw [List.cons_append, Nat.div_div_eq_div_mul, Nat.pow_succ, Nat.mul_comm 16]
theorem hexN_get (k n i : Nat) (h : i < k) : (hexN k n)[i]? = some (dig (n / 16 ^ (k - 1 - i) % 16)) := by
  induction k generalizing i with
  | zero => omega
  | succ k ih =>
    rw [hexN_cons]
    cases i with
    | zero => simp
    | succ i => rw [List.getElem?_cons_succ, ih i (by omega), show k + 1 - 1 - (i + 1) = k - 1 - i from by omega]
theorem and15 (x : Nat) (h : x < 18446744073709551616) : bits .and .u64 (x : Int) 15 = ((x % 16 : Nat) : Int) := by
  have h1 := u64_and_nat x 15 h (by omega)
  rw [show ((15 : Nat) : Int) = 15 from rfl] at h1
  rw [h1]
  have h2 : x &&& 15 = x % 16 := Nat.and_two_pow_sub_one_eq_mod x 4
  rw [h2]
theorem pow16 (i : Nat) : 16 ^ i = 2 ^ (4 * i) := by rw [Nat.pow_mul]
end Go.Proofs.YtepjcdjpikbbjaaGreatDoor

/-
  The tag, by both texts.
-/
namespace Go.Proofs.YtepjcdjpikbbjaaGreatDoor
open Go.RowKit

def byteV (b : UInt8) : Value := .int .u8 (b.toNat : Int)
/-- block g is an array of these bytes -/
def BA (w : World) (g : Nat) (t : TypeId) (xs : List UInt8) : Prop := Blk w g t (xs.map byteV).toArray
theorem BA.cell {w : World} {g : Nat} {t : TypeId} {xs : List UInt8} (h : BA w g t xs) (i : Nat) (hi : i < xs.length) : w.cell? ⟨g, i, none⟩ = some (byteV xs[i]) := by
  rw [Blk.cell h]; simp [hi]
theorem BA.set_ {w : World} {g : Nat} {t : TypeId} {xs : List UInt8} (h : BA w g t xs) (i : Nat) (b : UInt8) : BA (w.setCell ⟨g, i, none⟩ (byteV b)) g t (xs.set i b) := by
  have h1 := Blk.set_ h i (byteV b)
  unfold BA
  rw [List.map_set]
  simpa using h1
theorem BA.string {P : Program} {w : World} {g : Nat} {t : TypeId} {xs : List UInt8} (h : BA w g t xs) (src dst e : TypeId) (hs : P.underlying src = some (.slice e)) (he : P.underlying e = some (.int .u8)) (hd : P.underlying dst = some .string)
    (off len cap : Nat) (hl : off + len = xs.length) : (convert src dst (.slice (some ⟨g, off, none⟩) len cap)).run P w = .ok (.string ⟨(xs.drop off).toArray⟩) w := by
  have h1 := run_convert_bytes_arg (P := P) w src e hs he g off len cap ((xs.drop off).map fun b => (b.toNat : Int)) (by simp; omega) (fun i hi => by
    rw [h.cell (off + i) (by omega)]
    have h2 : off + i < xs.length := by omega
    simp [byteV, List.getD, h2]) dst hd
  rw [h1]
  congr 2
  simp [strOfNums, Function.comp_def]

def keyU (key : Int) : Int := IntKind.u64.wrap key
def tagN (key : Int) (l : List UInt8) : Nat := (sip (keyU key) (rotl (keyU key) 32) l).toNat
/-- the tag: the digits of the sum, the greatest first -/
def tagL (key : Int) (l : List UInt8) : List UInt8 := hexN 16 (tagN key l)
theorem u64_sip (k0 k1 : Int) (l : List UInt8) : U64 (sip k0 k1 l) := u64_bx _ _

def tagSt (n i : Nat) : List UInt8 := (hexN 16 n).take i ++ List.replicate (16 - i) 0
def TagRel (W : World) (g : Nat) (n : Nat) (v : Value) (w : World) : Prop :=
  ∃ i : Nat, i ≤ 16 ∧ v = .int .i64 i ∧ BA w g 203 (tagSt n i) ∧ Below W.heap.size W w
theorem set_tag (n i : Nat) (h : i < 16) : (tagSt n i).set i (dig (n / 16 ^ (15 - i) % 16)) = tagSt n (i + 1) := by
  unfold tagSt
  have hl := hexN_length 16 n
  have h1 : ((hexN 16 n).take i).length = i := by rw [List.length_take]; omega
  rw [List.set_append_right _ _ (by omega), h1, Nat.sub_self]
  have h2 := hexN_get 16 n i h
  have h3 : (hexN 16 n).take (i + 1) = (hexN 16 n).take i ++ [dig (n / 16 ^ (15 - i) % 16)] := by
    rw [List.take_add_one, h2]; rfl
  rw [h3, List.append_assoc, show 16 - i = (16 - (i + 1)) + 1 from by omega, List.replicate_succ, List.set_cons_zero, List.singleton_append]

theorem tab_at (d : Nat) (hd : d < 16) : Value.int .u8 (((⟨#[48, 49, 50, 51, 52, 53, 54, 55, 56, 57, 97, 98, 99, 100, 101, 102]⟩ : ByteArray)[d]'hd).toNat : Int) = byteV (dig d) := by
  have h : d = 0 ∨ d = 1 ∨ d = 2 ∨ d = 3 ∨ d = 4 ∨ d = 5 ∨ d = 6 ∨ d = 7 ∨ d = 8 ∨ d = 9 ∨ d = 10 ∨ d = 11 ∨ d = 12 ∨ d = 13 ∨ d = 14 ∨ d = 15 := by omega
  rcases h with h | h | h | h | h | h | h | h | h | h | h | h | h | h | h | h <;> subst h <;> rfl
theorem tab_index (d : Nat) (hd : d < 16) (w : World) : (Instr.index 9 (.string ⟨#[48, 49, 50, 51, 52, 53, 54, 55, 56, 57, 97, 98, 99, 100, 101, 102]⟩) (.int .u64 (d : Int))).run Tryz.prog w = .ok (.int .u8 ((dig d).toNat : Int)) w := by
  have hs : (⟨#[48, 49, 50, 51, 52, 53, 54, 55, 56, 57, 97, 98, 99, 100, 101, 102]⟩ : ByteArray).size = 16 := rfl
  rw [run_index_string w 9 _ .u64 (d : Int) Tryz.underlying9, dif_pos ⟨by omega, by rw [hs]; omega⟩]
  have h1 := tab_at d hd
  unfold byteV at h1
  rw [← h1]
  rfl

set_option maxRecDepth 100000 in
set_option maxHeartbeats 400000 in
theorem mac_tag (key : Int) (s : ByteArray) (W : World) (hs : s.size ≤ 9223372036854775807) :
    Calls Tryz.prog 107 #[.int .i64 key, .string s] W fun e w' => e = .returned (.string ⟨(tagL key s.data.toList).toArray⟩) ∧ Below W.heap.size W w' := by
  go_enter Tryz.func107, Tryz.ntmps107
  go_wp2_with (first
    | (go_at_call 161; refine (rot_k _ 32 _ (u64_wrap _) (by omega)).mono ?_; rintro e w1 ⟨rfl, hww⟩; obtain rfl := hww.symm)
    | (go_at_call 160; refine (mac_sum _ _ s _ hs).mono ?_; rintro e w2 ⟨rfl, hb⟩))
  have hu := u64_sip (IntKind.u64.wrap key) (rotl (IntKind.u64.wrap key) 32) s.data.toList
  have htag : tagL key s.data.toList = hexN 16 (sip (IntKind.u64.wrap key) (rotl (IntKind.u64.wrap key) 32) s.data.toList).toNat := rfl
  generalize sip (IntKind.u64.wrap key) (rotl (IntKind.u64.wrap key) 32) s.data.toList = N at *
  obtain ⟨n, rfl⟩ := Int.eq_ofNat_of_zero_le hu.1
  have hn : n < 18446744073709551616 := by have := hu.2; omega
  rw [Int.toNat_natCast] at htag
  have HT := Lib.hid htag
  have HB := Lib.hid hb
  have HN := Lib.hid hn
  clear hu htag hb hn
  go_loopw [16] (fun v wr => TagRel W w2.heap.size n v wr) (fun v _ => 16 - (intOf v).toNat)
  case atStart => exact ⟨0, by omega, rfl, Blk.new w2 _ _, HB.out.alloc HB.out.size _⟩
  case round =>
    obtain ⟨i, hi, rfl, hba, hbl⟩ := hrel
    have HBA := Lib.hid hba
    have HBL := Lib.hid hbl
    clear hba hbl
    by_cases hlt : i < 16
    · obtain ⟨d, hd⟩ : ∃ d, d = n / 16 ^ (15 - i) % 16 := ⟨_, rfl⟩
      have hd16 : d < 16 := by omega
      have hand : bits .and .u64 ((n : Int) / 2 ^ (60 - 4 * i)) 15 = (d : Int) := by
        have e1 : ((n : Int) / 2 ^ (60 - 4 * i)) = ((n / 2 ^ (60 - 4 * i) : Nat) : Int) := by simp
        rw [e1, and15 _ (Nat.lt_of_le_of_lt (Nat.div_le_self _ _) HN.out), hd, pow16, show 4 * (15 - i) = 60 - 4 * i from by omega]
      have hix : ∀ w : World, (Instr.index 9 (.string ⟨#[48, 49, 50, 51, 52, 53, 54, 55, 56, 57, 97, 98, 99, 100, 101, 102]⟩) (.int .u64 (d : Int))).run Tryz.prog w = .ok (.int .u8 ((dig d).toNat : Int)) w := tab_index d hd16
      have HD := Lib.hid hd
      clear hd HN HT
      have hlen : (tagSt n i).length = 16 := by unfold tagSt; rw [List.length_append, List.length_take, hexN_length, List.length_replicate]; omega
      have hcell := HBA.out.cell i (by omega)
      unfold byteV at hcell
      generalize ((tagSt n i)[i]'(by omega)).toNat = z at hcell
      have hfr := Blk.frozen HBA.out i
      clear hlen
      go_wp2_with fail
      refine ⟨⟨i + 1, by omega, by go_num, ?_, HBL.out.setCell (p := ⟨w2.heap.size, i, none⟩) HB.out.size _⟩, by simp [intOf]; omega⟩
      have h1 := HBA.out.set_ i (dig d)
      rw [HD.out, set_tag n i hlt, ← HD.out] at h1
      exact h1
    · obtain rfl : i = 16 := by omega
      have hfull : tagSt n 16 = hexN 16 n := by
        unfold tagSt
        rw [List.take_of_length_le (by rw [hexN_length]; exact Nat.le_refl _), Nat.sub_self, List.replicate_zero, List.append_nil]
      have hstr := HBA.out.string (P := Tryz.prog) 36 9 5 Tryz.underlying36 Tryz.underlying5 Tryz.underlying9 0 16 16 (by rw [hfull, hexN_length])
      rw [hfull, List.drop_zero] at hstr
      clear hfull
      generalize hexN 16 n = H at *
      have ht := HT.out
      subst ht
      clear HT
      go_wp2_with fail
      go_ret
      exact ⟨rfl, HBL.out⟩
end Go.Proofs.YtepjcdjpikbbjaaGreatDoor

/-
  A token's text and back, in plain Lean.
-/
namespace Go.Proofs.YtepjcdjpikbbjaaGreatDoor

end Go.Proofs.YtepjcdjpikbbjaaGreatDoor
