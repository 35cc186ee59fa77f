/-
  Same: two strings held against each other, byte by byte.
-/
import Derived.Test.YtepjcdjpikbbjaaGreatDoorP08
import Derived.Laws.BitsAllLaws
import Derived.Test.YtepjcdjpikbbjaaGreatDoorP02
import Derived.Test.YtepjcdjpikbbjaaGreatDoorP03
import Derived.Deep.RegionHeld3
import Derived.Test.YtepjcdjpikbbjaaGreatDoorP05
namespace Go.Proofs.YtepjcdjpikbbjaaGreatDoor
open Go.RowKit

theorem or_xor_zero (x p q : Nat) (hx : x < 256) (hp : p < 256) (hq : q < 256) :
    ∃ z : Nat, bits .or .u8 (x : Int) (bits .xor .u8 (p : Int) (q : Int)) = (z : Int) ∧ z < 256 ∧ (z = 0 ↔ x = 0 ∧ p = q) := by
  have h1 : p ^^^ q < 2 ^ 8 := Nat.xor_lt_two_pow hp hq
  refine ⟨x ||| (p ^^^ q), ?_, Nat.or_lt_two_pow (n := 8) hx h1, ?_⟩
  · rw [u8_xor_nat p q hp hq, u8_or_nat x (p ^^^ q) hx h1]
  · rw [Nat.or_eq_zero_iff]
    refine and_congr_right fun _ => ⟨fun h => ?_, fun h => by rw [h, Nat.xor_self]⟩
    have h2 := congrArg (· ^^^ q) h
    simpa [Nat.xor_assoc] using h2

theorem str_index (s : ByteArray) (k : Nat) (h : k < s.size) : ∃ p : Nat, p < 256 ∧ s.data[k]? = some (UInt8.ofNat p) ∧ ∀ w : World, (Instr.index 9 (.string s) (.int .i64 (k : Int))).run Tryz.prog w = .ok (.int .u8 (p : Int)) w := by
  refine ⟨(s[k]'h).toNat, (s[k]'h).toNat_lt, ?_, fun w => ?_⟩
  · rw [UInt8.ofNat_toNat]
    exact Array.getElem?_eq_getElem h
  · rw [run_index_string w 9 _ .i64 (k : Int) Tryz.underlying9, dif_pos ⟨by omega, by omega⟩]
    rfl

def SameRel (W : World) (a b : ByteArray) (v i : Value) (w : World) : Prop :=
  ∃ x k : Nat, v = .int .u8 x ∧ i = .int .i64 k ∧ k ≤ a.size ∧ x < 256 ∧ (x = 0 ↔ ∀ j, j < k → a.data[j]? = b.data[j]?) ∧ ∃ n, w = W.drewN n

theorem same_all (a b : ByteArray) (h : a.size = b.size) (x : Nat) (hx : x = 0 ↔ ∀ j, j < a.size → a.data[j]? = b.data[j]?) : decide (x = 0) = decide (a = b) := by
  rw [decide_eq_decide, hx]
  constructor
  · intro hj
    apply ByteArray.ext
    apply Array.ext_getElem?
    intro j
    rcases Nat.lt_or_ge j a.size with h1 | h1
    · exact hj j h1
    · rw [Array.getElem?_eq_none h1, Array.getElem?_eq_none (by rw [← show b.size = b.data.size from rfl]; omega)]
  · rintro rfl j _; rfl

set_option maxHeartbeats 1000000 in
theorem mac_same (a b : ByteArray) (W : World) (ha : a.size ≤ 1000000) (hb : b.size ≤ 1000000) :
    Calls Tryz.prog 250 #[.string a, .string b] W fun e w' => e = .returned (.bool (decide (a = b))) ∧ ∃ n, w' = W.drewN n := by
  by_cases hsz : a.size = b.size
  · have HS := Lib.hid hsz
    have hlen : ((a.size : Int) != (b.size : Int)) = false := by rw [hsz]; simp
    go_enter Tryz.func250, Tryz.ntmps250
    go_wp2_with fail
    go_loopw [5, 14] (fun v i wr => SameRel W a b v i wr) (fun _ i _ => a.size - (intOf i).toNat)
    case atStart => exact ⟨0, 0, rfl, rfl, by omega, by omega, ⟨fun _ j hj => by omega, fun _ => rfl⟩, 0, rfl⟩
    case round =>
      obtain ⟨x, k, rfl, rfl, hk, hx, hinv, n, rfl⟩ := hrel
      have HI := Lib.hid hinv
      clear hinv
      by_cases hlt : k < a.size
      · obtain ⟨p, hp, ep, hixa⟩ := str_index a k hlt
        obtain ⟨q, hq, eq, hixb⟩ := str_index b k (by omega)
        obtain ⟨z, hz, hz256, hzz⟩ := or_xor_zero x p q hx hp hq
        have HZ := Lib.hid hzz
        have EP := Lib.hid ep
        have EQ := Lib.hid eq
        have hkb : k < b.size := by omega
        have hka1 : k + 1 ≤ a.size := by omega
        clear hzz ep eq hsz
        go_wp2_with fail
        go_quiet (fail)
        go_wp2_with fail
        refine ⟨⟨z, k + 1, rfl, by go_num, hka1, hz256, ?_, _, rfl⟩, by simp [intOf]; omega⟩
        have hi := HI.out
        have hzo := HZ.out
        have ep := EP.out
        have eq := EQ.out
        rw [hzo]
        constructor
        · rintro ⟨h0, rfl⟩ j hj
          rcases Nat.lt_or_ge j k with h1 | h1
          · exact hi.1 h0 j h1
          · obtain rfl : j = k := by omega
            rw [ep, eq]
        · intro h
          refine ⟨hi.2 fun j hj => h j (by omega), ?_⟩
          have h2 := h k (by omega)
          rw [ep, eq] at h2
          have h3 := congrArg UInt8.toNat (Option.some.inj h2)
          rw [UInt8.toNat_ofNat', UInt8.toNat_ofNat', Nat.mod_eq_of_lt hp, Nat.mod_eq_of_lt hq] at h3
          exact h3
      · obtain rfl : k = a.size := by omega
        go_wp2_with fail
        go_ret
        refine ⟨?_, _, rfl⟩
        show Ending.returned (Value.bool ((x : Int) == 0)) = _
        rw [← same_all a b HS.out x HI.out]
        congr 2
        rw [Bool.eq_iff_iff]
        simp
  · have hlen : ((a.size : Int) != (b.size : Int)) = true := by simp; omega
    have hne : a ≠ b := by rintro rfl; exact hsz rfl
    go_enter Tryz.func250, Tryz.ntmps250
    go_wp2_with fail
    go_ret
    refine ⟨?_, 0, rfl⟩
    show Ending.returned (Value.bool false) = _
    rw [decide_eq_false hne]
end Go.Proofs.YtepjcdjpikbbjaaGreatDoor

/-
  The tag, by the reference's text: FormatUint at base 16.
-/
namespace Go.Proofs.YtepjcdjpikbbjaaGreatDoor
open Go.RowKit

/-- the cell of the library's table that is read -/
def Tab15 (w : World) : Prop := w.cell? ⟨9, 15, none⟩ = some (.int .u8 4)
theorem Tab15.lt {w : World} (h : Tab15 w) : 9 < w.heap.size := by
  unfold Tab15 at h
  rcases Nat.lt_or_ge 9 w.heap.size with h' | h'
  · exact h'
  · simp [World.cell?, Array.getElem?_eq_none h'] at h
theorem Tab15.below {B : Nat} {w w' : World} (h : Tab15 w) (hb : Below B w w') (hB : 9 < B) : Tab15 w' := by
  unfold Tab15 at *; rw [hb.cell (p := ⟨9, 15, none⟩) hB]; exact h

end Go.Proofs.YtepjcdjpikbbjaaGreatDoor

/-
  The sum, by the reference's text: its rounds.
-/
namespace Go.Proofs.YtepjcdjpikbbjaaGreatDoor
open Go.RowKit

def SipRel (W : World) (s : S4) (n : Nat) (a b c d i : Value) (w : World) : Prop :=
  ∃ k : Nat, k ≤ n ∧ i = .int .i64 k ∧ a = .int .u64 (roundN s k).a ∧ b = .int .u64 (roundN s k).b ∧ c = .int .u64 (roundN s k).c ∧ d = .int .u64 (roundN s k).d ∧ Below W.heap.size W w ∧ (∃ cs, Blk w (W.heap.size + 1) 190 cs ∧ cs.size = 4)

theorem SipRel.step {W wr : World} {s : S4} (n k : Nat) (h : k < n) (m : Nat) (hb : Below W.heap.size W wr) (hc : ∃ cs, Blk wr (W.heap.size + 1) 190 cs ∧ cs.size = 4) {S : S4} (e : S = roundN s k) :
    SipRel W s n (.int .u64 (ad (rotl (ad S.a S.b) 32) (bx (rotl S.d 16) (ad S.c S.d)))) (.int .u64 (bx (rotl (bx (rotl S.b 13) (ad S.a S.b)) 17) (ad (ad S.c S.d) (bx (rotl S.b 13) (ad S.a S.b)))))
      (.int .u64 (rotl (ad (ad S.c S.d) (bx (rotl S.b 13) (ad S.a S.b))) 32)) (.int .u64 (bx (rotl (bx (rotl S.d 16) (ad S.c S.d)) 21) (ad (rotl (ad S.a S.b) 32) (bx (rotl S.d 16) (ad S.c S.d))))) (.int .i64 ((k : Int) + 1)) (wr.drewN m) := by
  subst e
  exact ⟨k + 1, h, by go_num, rfl, rfl, rfl, rfl, below_drewN hb m, hc⟩

end Go.Proofs.YtepjcdjpikbbjaaGreatDoor

/-
  The sum, by the reference's text.
-/
namespace Go.Proofs.YtepjcdjpikbbjaaGreatDoor
open Go.RowKit

section
variable {w : World} {g : Nat} {t : TypeId} {p0 p1 p2 p3 : Value}
theorem Blk.t0 (h : Blk w g t #[p0, p1, p2, p3]) (x : Value) : Blk (w.setCell ⟨g, 0, none⟩ x) g t #[x, p1, p2, p3] := h.set_ 0 x
theorem Blk.t1 (h : Blk w g t #[p0, p1, p2, p3]) (x : Value) : Blk (w.setCell ⟨g, 1, none⟩ x) g t #[p0, x, p2, p3] := h.set_ 1 x
theorem Blk.t2 (h : Blk w g t #[p0, p1, p2, p3]) (x : Value) : Blk (w.setCell ⟨g, 2, none⟩ x) g t #[p0, p1, x, p3] := h.set_ 2 x
theorem Blk.t3 (h : Blk w g t #[p0, p1, p2, p3]) (x : Value) : Blk (w.setCell ⟨g, 3, none⟩ x) g t #[p0, p1, p2, x] := h.set_ 3 x
end

end Go.Proofs.YtepjcdjpikbbjaaGreatDoor

/-
  The tag, by the reference's text; Same.
-/
namespace Go.Proofs.YtepjcdjpikbbjaaGreatDoor
open Go.RowKit

theorem hex_size (k n : Nat) : (⟨(hexN k n).toArray⟩ : ByteArray).size = k := by
  show (hexN k n).toArray.size = k
  rw [List.size_toArray, hexN_length]

end Go.Proofs.YtepjcdjpikbbjaaGreatDoor

/-
  Tokens: what is right, and its body, by the program and by the reference.
-/
namespace Go.Proofs.YtepjcdjpikbbjaaGreatDoor
open Go.RowKit

def rightN (a b c d : Int) : Bool := ((decide (a = 1) && decide (d = 0)) || (decide (a = 2) && okN d)) && okN b && okN c
def v4 (a b c d : Int) : Value := .agg #[.int .i64 a, .int .i64 b, .int .i64 c, .int .i64 d]
theorem right_in (x : Int) (w : World) : Calls Tryz.prog 228 #[.int .i64 x] w fun e w' => e = .returned (.bool (okN x)) ∧ w = w' := by
  by_cases h0 : 0 ≤ x
  · go_enter Tryz.func228, Tryz.ntmps228
    go_wp2_with fail
    go_ret
    refine ⟨?_, rfl⟩
    show Ending.returned _ = _
    simp [okN]
    try omega
  · have h1 : x < 0 := by omega
    go_enter Tryz.func228, Tryz.ntmps228
    go_wp2_with fail
    go_ret
    refine ⟨?_, rfl⟩
    show Ending.returned _ = _
    simp [okN]
    try omega

end Go.Proofs.YtepjcdjpikbbjaaGreatDoor

/-
  token.right.
-/
namespace Go.Proofs.YtepjcdjpikbbjaaGreatDoor
open Go.RowKit

set_option maxHeartbeats 2000000 in
theorem token_right (a b c d : Int) (W : World) : Calls Tryz.prog 191 #[v4 a b c d] W fun e w' => e = .returned (.bool (rightN a b c d)) ∧ Below W.heap.size W w' := by
  have h : (a = 1 ∧ d = 0) ∨ (a = 1 ∧ ((d == 0) = false ∧ decide (d = 0) = false)) ∨ (a = 2) ∨ ((a == 1) = false ∧ (a == 2) = false ∧ decide (a = 1) = false ∧ decide (a = 2) = false) := by
    by_cases h1 : a = 1 <;> by_cases h2 : a = 2 <;> by_cases h3 : d = 0 <;> simp [h1, h2, h3] <;> omega
  unfold v4
  obtain ⟨ob, hob⟩ : ∃ ob, okN b = ob := ⟨_, rfl⟩
  obtain ⟨od, hod⟩ : ∃ od, okN d = od := ⟨_, rfl⟩
  rcases h with ⟨rfl, rfl⟩ | ⟨rfl, hd, hd'⟩ | rfl | ⟨h1, h2, h1', h2'⟩
  all_goals cases ob <;> cases od
  all_goals
    (go_enter Tryz.func191, Tryz.ntmps191
     go_wp2_with (go_at_call 228; refine (right_in _ _).mono ?_; rintro e w1 ⟨rfl, rfl⟩)
     go_ret
     refine ⟨?_, (Below.refl _ _).alloc (Nat.le_refl _) _⟩
     show Ending.returned _ = _
     simp [rightN, *])
end Go.Proofs.YtepjcdjpikbbjaaGreatDoor

/-
  The body of a token, by the reference and by the program.
-/
namespace Go.Proofs.YtepjcdjpikbbjaaGreatDoor
open Go.RowKit

theorem add_run (a b : ByteArray) (n m : Nat) (ha : a.size ≤ n) (hb : b.size ≤ m) (h : n + m ≤ 9223372036854775807) (w : World) : (Op.stringOp .add a b).run Tryz.prog w = .ok (.string (a ++ b)) w :=
  run_string_add_sum w a b (by omega)
theorem app_size (a b : ByteArray) (n m : Nat) (ha : a.size ≤ n) (hb : b.size ≤ m) : (a ++ b).size ≤ n + m := by
  rw [ByteArray.size_append]; omega
end Go.Proofs.YtepjcdjpikbbjaaGreatDoor

/-
  The body of a token, by the program.
-/
namespace Go.Proofs.YtepjcdjpikbbjaaGreatDoor
open Go.RowKit

theorem keep_body4 {W w w' : World} {u x y z : Value} (h0 : w.cell? ⟨W.heap.size, 0, none⟩ = some u) (h1 : w.cell? ⟨W.heap.size, 1, none⟩ = some x) (h2 : w.cell? ⟨W.heap.size, 2, none⟩ = some y) (h3 : w.cell? ⟨W.heap.size, 3, none⟩ = some z)
    (hT : Tens w) (hB : Below W.heap.size W w) (hb : Below w.heap.size w w') :
    w'.cell? ⟨W.heap.size, 0, none⟩ = some u ∧ w'.cell? ⟨W.heap.size, 1, none⟩ = some x ∧ w'.cell? ⟨W.heap.size, 2, none⟩ = some y ∧ w'.cell? ⟨W.heap.size, 3, none⟩ = some z ∧ Tens w' ∧ Below W.heap.size W w' := by
  have hlt : W.heap.size < w.heap.size := World.block_lt_of_cell? w _ h1
  refine ⟨?_, keep_body h1 h2 h3 hT hB hb⟩
  rw [hb.cell (p := ⟨W.heap.size, 0, none⟩) hlt]; exact h0

set_option maxHeartbeats 2000000 in
theorem token_body1 (b c d : Int) (W : World) (hT : Tens W) (hob : okN b = true) (hoc : okN c = true) :
    Calls Tryz.prog 192 #[v4 1 b c d] W fun e w' => e = .returned (.string (⟨#[114, 46]⟩ ++ itoS b ++ ⟨#[46]⟩ ++ itoS c)) ∧ Below W.heap.size W w' := by
  have hsb := itoS_size b hob
  have hsc := itoS_size c hoc
  have HT := Lib.hid (Tens.below hT ((Below.refl W.heap.size W).alloc (Nat.le_refl _) (.cells #[.int .i64 1, .int .i64 b, .int .i64 c, .int .i64 d] 182)) hT.lt)
  have z1 : (⟨#[114, 46]⟩ ++ itoS b : ByteArray).size ≤ 2 + 21 := app_size _ _ 2 21 (by decide) hsb
  have z2 := app_size _ (⟨#[46]⟩ : ByteArray) _ 1 z1 (by decide)
  have e1 := add_run (⟨#[114, 46]⟩ : ByteArray) (itoS b) 2 21 (by decide) hsb (by omega)
  have e2 := add_run _ (⟨#[46]⟩ : ByteArray) _ 1 z1 (by decide) (by omega)
  have e3 := add_run _ (itoS c) _ _ z2 hsc (by omega)
  clear z1 z2
  clear hT
  unfold v4
  go_enter Tryz.func192, Tryz.ntmps192
  go_wp2_with fail
  have hT1 := HT.out
  have hB1 := (Below.refl W.heap.size W).alloc (Nat.le_refl _) (.cells #[.int .i64 1, .int .i64 b, .int .i64 c, .int .i64 d] 182)
  have hc0 : (W.alloc (.cells #[.int .i64 1, .int .i64 b, .int .i64 c, .int .i64 d] 182)).cell? ⟨W.heap.size, 0, none⟩ = some (.int .i64 1) := by simp
  have hc1 : (W.alloc (.cells #[.int .i64 1, .int .i64 b, .int .i64 c, .int .i64 d] 182)).cell? ⟨W.heap.size, 1, none⟩ = some (.int .i64 b) := by simp
  have hc2 : (W.alloc (.cells #[.int .i64 1, .int .i64 b, .int .i64 c, .int .i64 d] 182)).cell? ⟨W.heap.size, 2, none⟩ = some (.int .i64 c) := by simp
  have hc3 : (W.alloc (.cells #[.int .i64 1, .int .i64 b, .int .i64 c, .int .i64 d] 182)).cell? ⟨W.heap.size, 3, none⟩ = some (.int .i64 d) := by simp
  generalize W.alloc (.cells #[.int .i64 1, .int .i64 b, .int .i64 c, .int .i64 d] 182) = w0 at *
  clear HT
  have hT2 : Tens w0.drew := hT1
  have hB2 : Below W.heap.size W w0.drew := ⟨hB1.os, hB1.tape, hB1.output, hB1.size, hB1.block⟩
  go_region_held3 (fun w' => w'.cell? ⟨W.heap.size, 0, none⟩ = some (.int .i64 1) ∧ w'.cell? ⟨W.heap.size, 1, none⟩ = some (.int .i64 b) ∧ w'.cell? ⟨W.heap.size, 2, none⟩ = some (.int .i64 c) ∧ w'.cell? ⟨W.heap.size, 3, none⟩ = some (.int .i64 d) ∧ Tens w' ∧ Below W.heap.size W w')
    (first
      | (refine ⟨?_, ?_, ?_, ?_, hT2, hB2⟩ <;> go_keep)
      | (go_split_ands
         exact keep_body4 (by assumption) (by assumption) (by assumption) (by assumption) (by assumption) (by assumption) (by assumption)))
    ((go_at_call 26; refine (itoa_c _ (by assumption) _ (by (go_split_ands; assumption))).mono ?_; rintro e w1 ⟨rfl, hb1⟩))
  go_split_ands
  go_wp2_with fail
  go_ret
  exact ⟨rfl, by assumption⟩

set_option maxHeartbeats 2000000 in
theorem token_body2 (b c d : Int) (W : World) (hT : Tens W) (hob : okN b = true) (hoc : okN c = true) (hod : okN d = true) :
    Calls Tryz.prog 192 #[v4 2 b c d] W fun e w' => e = .returned (.string (⟨#[97, 46]⟩ ++ itoS b ++ ⟨#[46]⟩ ++ itoS c ++ ⟨#[46]⟩ ++ itoS d)) ∧ Below W.heap.size W w' := by
  have hsb := itoS_size b hob
  have hsc := itoS_size c hoc
  have hsd := itoS_size d hod
  obtain ⟨t, ht⟩ : ∃ t : ByteArray, t = ⟨#[46]⟩ ++ (itoS b ++ (⟨#[46]⟩ ++ itoS c)) := ⟨_, rfl⟩
  have hre : (⟨#[114, 46]⟩ : ByteArray) ++ itoS b ++ ⟨#[46]⟩ ++ itoS c = ⟨#[114]⟩ ++ t := by
    rw [ht, show (⟨#[114, 46]⟩ : ByteArray) = ⟨#[114]⟩ ++ ⟨#[46]⟩ from rfl]; simp only [ByteArray.append_assoc]
  have hfin : (⟨#[97]⟩ : ByteArray) ++ t ++ ⟨#[46]⟩ ++ itoS d = ⟨#[97, 46]⟩ ++ itoS b ++ ⟨#[46]⟩ ++ itoS c ++ ⟨#[46]⟩ ++ itoS d := by
    rw [ht, show (⟨#[97, 46]⟩ : ByteArray) = ⟨#[97]⟩ ++ ⟨#[46]⟩ from rfl]; simp only [ByteArray.append_assoc]
  have hts : t.size ≤ 50 := by
    rw [ht, ByteArray.size_append, ByteArray.size_append, ByteArray.size_append, show (⟨#[46]⟩ : ByteArray).size = 1 from rfl]; omega
  clear ht
  have hsl : ∀ w : World, (Instr.slice 9 (.string (⟨#[114]⟩ ++ t)) (some (.int .i64 1)) none none).run Tryz.prog w = .ok (.string t) w := by
    intro w
    have hz : ((⟨#[114]⟩ : ByteArray) ++ t).size = 1 + t.size := by rw [ByteArray.size_append]; rfl
    rw [run_slice_string_l w 9 _ Tryz.underlying9 .i64 1 (by omega) (by rw [hz]; omega)]
    congr 2
    apply ByteArray.ext
    simp [hz]
  have f1 := add_run (⟨#[97]⟩ : ByteArray) t 1 50 (by decide) hts (by omega)
  have y1 : (⟨#[97]⟩ ++ t : ByteArray).size ≤ 1 + 50 := app_size _ _ 1 50 (by decide) hts
  have f2 := add_run _ (⟨#[46]⟩ : ByteArray) _ 1 y1 (by decide) (by omega)
  have y2 := app_size _ (⟨#[46]⟩ : ByteArray) _ 1 y1 (by decide)
  have f3 := add_run _ (itoS d) _ _ y2 hsd (by omega)
  clear y1 y2
  have HT := Lib.hid (Tens.below hT ((Below.refl W.heap.size W).alloc (Nat.le_refl _) (.cells #[.int .i64 2, .int .i64 b, .int .i64 c, .int .i64 d] 182)) hT.lt)
  have z1 : (⟨#[114, 46]⟩ ++ itoS b : ByteArray).size ≤ 2 + 21 := app_size _ _ 2 21 (by decide) hsb
  have z2 := app_size _ (⟨#[46]⟩ : ByteArray) _ 1 z1 (by decide)
  have e1 := add_run (⟨#[114, 46]⟩ : ByteArray) (itoS b) 2 21 (by decide) hsb (by omega)
  have e2 := add_run _ (⟨#[46]⟩ : ByteArray) _ 1 z1 (by decide) (by omega)
  have e3 := add_run _ (itoS c) _ _ z2 hsc (by omega)
  clear z1 z2
  clear hT
  unfold v4
  go_enter Tryz.func192, Tryz.ntmps192
  go_wp2_with fail
  have hT1 := HT.out
  have hB1 := (Below.refl W.heap.size W).alloc (Nat.le_refl _) (.cells #[.int .i64 2, .int .i64 b, .int .i64 c, .int .i64 d] 182)
  have hc0 : (W.alloc (.cells #[.int .i64 2, .int .i64 b, .int .i64 c, .int .i64 d] 182)).cell? ⟨W.heap.size, 0, none⟩ = some (.int .i64 2) := by simp
  have hc1 : (W.alloc (.cells #[.int .i64 2, .int .i64 b, .int .i64 c, .int .i64 d] 182)).cell? ⟨W.heap.size, 1, none⟩ = some (.int .i64 b) := by simp
  have hc2 : (W.alloc (.cells #[.int .i64 2, .int .i64 b, .int .i64 c, .int .i64 d] 182)).cell? ⟨W.heap.size, 2, none⟩ = some (.int .i64 c) := by simp
  have hc3 : (W.alloc (.cells #[.int .i64 2, .int .i64 b, .int .i64 c, .int .i64 d] 182)).cell? ⟨W.heap.size, 3, none⟩ = some (.int .i64 d) := by simp
  generalize W.alloc (.cells #[.int .i64 2, .int .i64 b, .int .i64 c, .int .i64 d] 182) = w0 at *
  clear HT
  have hT2 : Tens w0.drew := hT1
  have hB2 : Below W.heap.size W w0.drew := ⟨hB1.os, hB1.tape, hB1.output, hB1.size, hB1.block⟩
  go_region_held3 (fun w' => w'.cell? ⟨W.heap.size, 0, none⟩ = some (.int .i64 2) ∧ w'.cell? ⟨W.heap.size, 1, none⟩ = some (.int .i64 b) ∧ w'.cell? ⟨W.heap.size, 2, none⟩ = some (.int .i64 c) ∧ w'.cell? ⟨W.heap.size, 3, none⟩ = some (.int .i64 d) ∧ Tens w' ∧ Below W.heap.size W w')
    (first
      | (refine ⟨?_, ?_, ?_, ?_, hT2, hB2⟩ <;> go_keep)
      | (go_split_ands
         exact keep_body4 (by assumption) (by assumption) (by assumption) (by assumption) (by assumption) (by assumption) (by assumption)))
    ((go_at_call 26; refine (itoa_c _ (by assumption) _ (by (go_split_ands; assumption))).mono ?_; rintro e w1 ⟨rfl, hb1⟩))
  go_split_ands
  rename_i r0 r1 r2 r3 rT rB
  clear e1 e2 e3 hT2 hB2
  go_wp2_with fail
  have hT3 := (show Tens (World.drew _) from rT)
  have hB3 := (show Below W.heap.size W (World.drew _) from ⟨rB.os, rB.tape, rB.output, rB.size, rB.block⟩)
  go_region_held3 (fun w' => w'.cell? ⟨W.heap.size, 1, none⟩ = some (.int .i64 b) ∧ w'.cell? ⟨W.heap.size, 2, none⟩ = some (.int .i64 c) ∧ w'.cell? ⟨W.heap.size, 3, none⟩ = some (.int .i64 d) ∧ Tens w' ∧ Below W.heap.size W w')
    (first
      | (refine ⟨?_, ?_, ?_, hT3, hB3⟩ <;> go_keep)
      | (go_split_ands
         exact keep_body (by assumption) (by assumption) (by assumption) (by assumption) (by assumption) (by assumption)))
    ((go_at_call 26; refine (itoa_c _ (by assumption) _ (by (go_split_ands; assumption))).mono ?_; rintro e w1 ⟨rfl, hb1⟩))
  go_split_ands
  go_wp2_with fail
  go_ret
  exact ⟨rfl, by assumption⟩
end Go.Proofs.YtepjcdjpikbbjaaGreatDoor
