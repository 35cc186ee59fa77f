/-
  The sum, by the reference's text.
-/
import Derived.Test.YtdfgegicfhcmeaaGreatDoorSip4
import Derived.Test.YtdfgegicfhcmeaaGreatDoorBytes
namespace Go.Proofs.YtdfgegicfhcmeaaGreatDoor
open Go.RowKit

theorem info_u8 : (Tryz.prog.info? 5).map (fun i => (i.zero, i.size, i.bytes)) = some (some (.int .u8 0), 1, 1) := by kernel_rfl

/-- padded with p zeros -/
def padL (l : List UInt8) (p : Nat) : List UInt8 := l ++ List.replicate p 0
theorem padL_succ (l : List UInt8) (p : Nat) : padL l p ++ [0] = padL l (p + 1) := by
  simp [padL, List.replicate_succ', List.append_assoc]
theorem padL_length (l : List UInt8) (p : Nat) : (padL l p).length = l.length + p := by simp [padL]
def PadRel (W : World) (l : List UInt8) (v : Value) (w : World) : Prop :=
  ∃ p g cap n : Nat, v = .slice (some ⟨g, 0, none⟩) n cap ∧ n = l.length + p ∧ p ≤ (15 - l.length % 8) % 8 ∧ BSat w W.heap.size g cap (padL l p) ∧ Below W.heap.size W w

def padM : Value → Nat | .slice _ n _ => (15 - n % 8) % 8 | _ => 0

/-- the list that the reference goes through -/
def padAll (l : List UInt8) (p : Nat) : List UInt8 := padL l p ++ [UInt8.ofNat (l.length % 256)]
theorem padAll_length (l : List UInt8) (p : Nat) : (padAll l p).length = l.length + p + 1 := by simp [padAll, padL_length]
theorem chunk_of_pad (l : List UInt8) (p j : Nat) (h : 8 * j + 8 ≤ l.length) : ((padAll l p).drop (8 * j)).take 8 = (l.drop (8 * j)).take 8 := by
  unfold padAll padL
  rw [List.append_assoc, List.drop_append_of_le_length (by omega), List.take_append_of_le_length (by rw [List.length_drop]; omega)]
theorem chunkSt_pad (s0 : S4) (l : List UInt8) (p j : Nat) (h : 8 * j ≤ l.length) : chunkSt s0 (padAll l p) j = chunkSt s0 l j := by
  induction j with
  | zero => simp [chunkSt]
  | succ j ih => rw [chunkSt_succ, chunkSt_succ, ih (by omega), chunk_of_pad l p j (by omega)]
theorem last_of_pad (l : List UInt8) (p : Nat) (hp : p ≤ 7) (h : (l.length + p) % 8 = 7) : wordN (((padAll l p).drop (8 * (l.length / 8))).take 8) = lastWord l := by
  have h1 : (padAll l p).drop (8 * (l.length / 8)) = l.drop (8 * (l.length / 8)) ++ (List.replicate p 0 ++ [UInt8.ofNat (l.length % 256)]) := by
    unfold padAll padL
    rw [List.append_assoc, List.drop_append_of_le_length (by omega)]
  have hlen : ((padAll l p).drop (8 * (l.length / 8))).length = 8 := by rw [List.length_drop, padAll_length]; omega
  rw [List.take_of_length_le (by omega), h1, wordN_append, wordN_append, wordN_zeros, List.length_drop, List.length_replicate]
  unfold lastWord topW
  have h2 : wordN [UInt8.ofNat (l.length % 256)] = l.length % 256 := by
    simp [wordN]
  rw [h2, Nat.zero_add, ← Nat.mul_assoc, ← Nat.pow_add]
  have h3 : l.length - 8 * (l.length / 8) + p = 7 := by omega
  rw [h3]
  rw [pow256 7, Nat.add_comm, Nat.mul_comm]
theorem sip_of_pad (k0 k1 : Int) (l : List UInt8) (p : Nat) (hp : p ≤ 7) (h : (l.length + p) % 8 = 7) : sip k0 k1 l = sipFin (chunkSt (sipInit k0 k1) (padAll l p) ((padAll l p).length / 8)) := by
  have h1 : (padAll l p).length / 8 = l.length / 8 + 1 := by rw [padAll_length]; omega
  rw [h1, chunkSt_succ, last_of_pad l p hp h, chunkSt_pad _ _ _ _ (by omega)]
  rfl

theorem wordN_step (P : List UInt8) (i k : Nat) (h : i + k < P.length) (hk : k < 8) (h8 : ((P.drop i).take 8).length = 8) :
    IntKind.u64.wrap (IntKind.u64.wrap (((wordN (((P.drop i).take 8).drop (k + 1)) : Nat) : Int) * 256) + ((P[i + k]).toNat : Int)) = ((wordN (((P.drop i).take 8).drop k) : Nat) : Int) := by
  have hb := (P[i + k]).toNat_lt
  have h1 := horner_step ((P.drop i).take 8) k (by omega)
  have h2 : ((P.drop i).take 8)[k]'(by omega) = P[i + k] := by rw [List.getElem_take, List.getElem_drop]
  rw [h2] at h1
  have h3 := wordN_lt (((P.drop i).take 8).drop (k + 1))
  rw [List.length_drop, h8] at h3
  have h4 : (256 : Nat) ^ (8 - (k + 1)) ≤ 256 ^ 7 := Nat.pow_le_pow_right (by omega) (by omega)
  rw [h1]
  generalize wordN (((P.drop i).take 8).drop (k + 1)) = m at *
  have h5 : m < 72057594037927936 := by omega
  have e1 : IntKind.u64.wrap ((m : Int) * 256) = ((m * 256 : Nat) : Int) := by
    have := wrap_nat (m * 256) (by omega)
    rw [← this]; simp
  rw [e1]
  have e2 : ((m * 256 : Nat) : Int) + ((P[i + k]).toNat : Int) = ((m * 256 + (P[i + k]).toNat : Nat) : Int) := by simp
  rw [e2, wrap_nat _ (by omega)]
  simp; omega

section
variable {w : World} {g : Nat} {t : TypeId} {p0 p1 p2 p3 : Value}
theorem Blk.t0 (h : Blk w g t #[p0, p1, p2, p3]) (x : Value) : Blk (w.setCell ⟨g, 0, none⟩ x) g t #[x, p1, p2, p3] := h.set_ 0 x
theorem Blk.t1 (h : Blk w g t #[p0, p1, p2, p3]) (x : Value) : Blk (w.setCell ⟨g, 1, none⟩ x) g t #[p0, x, p2, p3] := h.set_ 1 x
theorem Blk.t2 (h : Blk w g t #[p0, p1, p2, p3]) (x : Value) : Blk (w.setCell ⟨g, 2, none⟩ x) g t #[p0, p1, x, p3] := h.set_ 2 x
theorem Blk.t3 (h : Blk w g t #[p0, p1, p2, p3]) (x : Value) : Blk (w.setCell ⟨g, 3, none⟩ x) g t #[p0, p1, p2, x] := h.set_ 3 x
theorem eat_ends {W : World} {B gb cap : Nat} {P : List UInt8} (h : Blk w g t #[p0, p1, p2, p3]) (hb : BSat w B gb cap P) (hl : Below W.heap.size W w) (hg : W.heap.size ≤ g) (hne : gb ≠ g) (x0 x1 x2 x3 y : Value) (w' : World)
    (e : w' = ((((w.setCell ⟨g, 0, none⟩ x0).setCell ⟨g, 1, none⟩ x1).setCell ⟨g, 2, none⟩ x2).setCell ⟨g, 3, none⟩ x3).setCell ⟨g, 0, none⟩ y) :
    BSat w' B gb cap P ∧ Blk w' g t #[y, x1, x2, x3] ∧ Below W.heap.size W w' := by
  subst e
  refine ⟨hb.only (r := some g) ?_ (by simpa using hne), ((((h.t0 x0).t1 x1).t2 x2).t3 x3).t0 y, ?_⟩
  · iterate 5 refine only_setCell ?_ (.inl rfl) _
    exact only_refl w _
  · exact ((((hl.setCell (p := ⟨g, 0, none⟩) hg _).setCell (p := ⟨g, 1, none⟩) hg _).setCell (p := ⟨g, 2, none⟩) hg _).setCell (p := ⟨g, 3, none⟩) hg _).setCell (p := ⟨g, 0, none⟩) hg _
end

def EatRel (W : World) (s0 : S4) (B g cap gv : Nat) (P : List UInt8) (i : Value) (w : World) : Prop :=
  ∃ i' j : Nat, i = .int .i64 i' ∧ i' = 8 * j ∧ i' ≤ P.length ∧ BSat w B g cap P ∧ Blk w gv 69 (chunkSt s0 P j).cells ∧ Below W.heap.size W w

set_option maxRecDepth 100000 in
set_option maxHeartbeats 1000000 in
theorem ref_sum (k0 k1 : Int) (s : ByteArray) (W : World) (hs : s.size ≤ 1000000) :
    Calls Tryz.prog 23 #[.int .u64 k0, .int .u64 k1, .string s] W fun e w' => e = .returned (.int .u64 (sip k0 k1 s.data.toList)) ∧ Below W.heap.size W w' := by
  obtain ⟨i0, hi, hz0, hz1, hz2⟩ := info_parts info_u8
  have hconv := Lib.run_convert_string_bytes (P := Tryz.prog) W 9 31 5 s Tryz.underlying9 Tryz.underlying31 Tryz.underlying5
  have hbs := BS.conv W 5 s (by omega)
  have hbl := below_conv W 5 s
  generalize Lib.bytesWorld W 5 s = w0 at *
  have HI := Lib.hid hi
  have HZ0 := Lib.hid hz0
  have HZ1 := Lib.hid hz1
  have HZ2 := Lib.hid hz2
  have HBS := Lib.hid hbs
  have HBL := Lib.hid hbl
  clear hi hz0 hz1 hz2 hbs hbl
  go_enter Tryz.func23, Tryz.ntmps23
  go_wp2_with fail
  go_loopw [7] (fun v wr => PadRel W s.data.toList v wr) (fun v _ => padM v)
  case atStart =>
    obtain ⟨g, cap, hv, hb⟩ := HBS.out
    exact ⟨0, g, cap, s.size, hv, rfl, by omega, by simpa [padL] using hb, HBL.out⟩
  case round =>
    obtain ⟨p, g, cap, n, rfl, hn, hp, hb, hbl⟩ := hrel
    have hp8 : p ≤ 7 := by omega
    have hl : s.data.toList.length = s.size := rfl
    have hns : n ≤ 1000008 := by omega
    have HB := Lib.hid hb
    have HL := Lib.hid hbl
    have HN := Lib.hid hn
    have HP := Lib.hid hp
    clear hb hbl hn hl hp
    by_cases h7 : n % 8 = 7
    · have ht : ((n : Int) % 8 != 7) = false := by simp; omega
      have H7 := Lib.hid h7
      clear h7
      have hby : ((UInt8.ofNat (s.size % 256)).toNat : Int) = (s.size : Int) % 256 := by simp
      have HBY := Lib.hid hby
      clear hby
      go_wp2_with (at_builtin; refine wpList_append_byte rfl _ _ 31 rfl 5 i0 Tryz.underlying31 HI.out HZ0.out HZ1.out HZ2.out (B := W.heap.size) (l := padL s.data.toList p) (v := .slice (some ⟨g, 0, none⟩) n cap) rfl ?hbs ⟨wr.heap.size, 0, none⟩ 1 (UInt8.ofNat (s.size % 256)) rfl ?hbb ?hbn ?hbB ?hbK)
      case hbs => exact (HB.out.bs n (by rw [HN.out, padL_length])).alloc _
      case hbb => rw [HBY.out]; simp
      case hbn => rw [padL_length]; have := HN.out; omega
      case hbB => have := HL.out.size; simp; omega
      case hbK =>
        rintro v' w' ⟨g', cap', rfl, hb'⟩ hbl'
        have hl : s.data.toList.length = s.size := rfl
        have hsip := sip_of_pad k0 k1 s.data.toList p hp8 (by rw [← HN.out]; exact H7.out)
        have hPl := padAll_length s.data.toList p
        have hP : padL s.data.toList p ++ [UInt8.ofNat (s.size % 256)] = padAll s.data.toList p := rfl
        rw [hP] at hb' ⊢
        generalize padAll s.data.toList p = P at *
        have hq8 : P.length % 8 = 0 := by rw [hPl, ← HN.out]; have := H7.out; omega
        have hqm : P.length ≤ 1000009 := by rw [hPl, ← HN.out]; omega
        have HSIP := Lib.hid hsip
        have HQ8 := Lib.hid hq8
        have HB' := Lib.hid hb'
        have HL' := Lib.hid ((HL.out.alloc HL.out.size (.cells #[.int .u8 ((s.size : Int) % 256)] 5)).trans hbl')
        obtain ⟨q, hq⟩ : ∃ q, q = P.length := ⟨_, rfl⟩
        rw [← hq] at hqm ⊢
        have HQ := Lib.hid hq
        clear hsip hPl hP hq8 hb' hbl' hq hl HB HL HN HP H7 HBY
        go_wp2_with fail
        go_loopw [9] (fun i wr2 => EatRel W (sipInit k0 k1) W.heap.size g' cap' w'.heap.size P i wr2) (fun i _ => q - (intOf i).toNat)
        case atStart => exact ⟨0, 0, rfl, rfl, by omega, HB'.out.alloc _, Blk.new w' _ _, HL'.out.alloc HL'.out.size _⟩
        case round =>
          obtain ⟨i, j, rfl, hij, hiq, hb, hk, hbl⟩ := hrel
          have HIJ := Lib.hid hij
          have HB2 := Lib.hid hb
          have HK2 := Lib.hid hk
          have HL2 := Lib.hid hbl
          have hok := chunkSt_ok _ (sipInit_ok k0 k1) P j
          have HOK := Lib.hid hok
          have hiq' : i ≤ q := by rw [HQ.out]; exact hiq
          clear hij hb hk hbl hok hiq
          by_cases hlt : i < q
          · have hi8 : i + 8 ≤ q := by have := HQ8.out; have := HIJ.out; have := HQ.out; omega
            have hc8 : ((P.drop i).take 8).length = 8 := by rw [List.length_take, List.length_drop]; have := HQ.out; omega
            have HC8 := Lib.hid hc8
            clear hc8
            go_wp2_with fail
            go_loop [10, 11] (fun m kk => ∃ z : Int, -1 ≤ z ∧ z ≤ 7 ∧ kk = .int .i64 z ∧ m = .int .u64 ((wordN (((P.drop i).take 8).drop (z + 1).toNat) : Nat) : Int)) (fun _ kk => (intOf kk + 1).toNat)
            case atStart => exact ⟨7, by omega, by omega, rfl, by rw [List.drop_of_length_le (by rw [HC8.out]; decide)]; rfl⟩
            case round =>
              obtain ⟨z, hz1, hz7, rfl, rfl⟩ := hrel
              by_cases hz0 : 0 ≤ z
              · obtain ⟨k, rfl⟩ := Int.eq_ofNat_of_zero_le hz0
                have hk8 : k < 8 := by omega
                have hik : i + k < P.length := by have := HQ.out; omega
                have hcell := HB2.out.bytes (i + k) hik
                have hbt := (P[i + k]).toNat_lt
                have hw := wordN_step P i k hik hk8 HC8.out
                have HW := Lib.hid hw
                clear hz0 hz1 hz7 hw
                go_wp2_with fail
                exact ⟨⟨(k : Int) - 1, by omega, by omega, rfl, by rw [HW.out, show ((k : Int) - 1 + 1).toNat = k from by omega]⟩, by simp [intOf] <;> omega⟩
              · obtain rfl : z = -1 := by omega
                have hmm : (((P.drop i).take 8).drop ((-1 : Int) + 1).toNat) = (P.drop (8 * j)).take 8 := by rw [HIJ.out]; rfl
                rw [hmm]
                have hstep := chunkSt_succ (sipInit k0 k1) P j
                have HST := Lib.hid hstep
                generalize wordN ((P.drop (8 * j)).take 8) = m at *
                generalize chunkSt (sipInit k0 k1) P j = S at *
                clear hmm hstep hz1 hz7 hz0
                have b0 : Blk wr w'.heap.size 69 #[.int .u64 S.a, .int .u64 S.b, .int .u64 S.c, .int .u64 S.d] := HK2.out
                have B0 := Lib.hid b0
                have c0 := b0.c0
                have c1 := b0.c1
                have c2 := b0.c2
                have c3 := b0.c3
                have f3 := b0.frozen 3
                clear b0
                go_wp2_with fail
                refine (ref_rounds ⟨S.a, S.b, S.c, bx S.d m⟩ ⟨HOK.out.1, HOK.out.2.1, HOK.out.2.2.1, u64_bx _ _⟩ 2 (by omega) _).mono ?_
                rintro e w1 ⟨rfl, hb1⟩
                have hB1 : Blk w1 w'.heap.size 69 #[.int .u64 S.a, .int .u64 S.b, .int .u64 S.c, .int .u64 (bx S.d m)] := Blk.below' (B0.out.set_ 3 (.int .u64 (bx S.d m))) hb1
                have hL1 : Below W.heap.size W w1 := (HL2.out.setCell (p := ⟨w'.heap.size, 3, none⟩) HL'.out.size _).trans (hb1.mono (by simpa [World.setCell] using HL2.out.size))
                have hB2 : BSat w1 W.heap.size g' cap' P := (HB2.out.only (only_setCell (only_refl wr (some w'.heap.size)) (p := ⟨w'.heap.size, 3, none⟩) (.inl rfl) (.int .u64 (bx S.d m))) (by have := HB'.out.lt; simp; omega)).below hb1
                have HB1 := Lib.hid hB1
                have HL1 := Lib.hid hL1
                have HBS1 := Lib.hid hB2
                have d0 := hB1.c0
                have d1 := hB1.c1
                have d2 := hB1.c2
                have d3 := hB1.c3
                have f0 := hB1.frozen 0
                have f1 := hB1.frozen 1
                have f2 := hB1.frozen 2
                have f3' := hB1.frozen 3
                clear hB1 hL1 hB2 c0 c1 c2 c3 f3 hb1
                obtain ⟨R, hR⟩ : ∃ R : S4, R = roundN ⟨S.a, S.b, S.c, bx S.d m⟩ 2 := ⟨_, rfl⟩
                rw [← hR, show R.cells = #[.int .u64 R.a, .int .u64 R.b, .int .u64 R.c, .int .u64 R.d] from rfl]
                have HR := Lib.hid hR
                clear hR
                have hend : (S4.eat S m).cells = #[.int .u64 (bx R.a m), .int .u64 R.b, .int .u64 R.c, .int .u64 R.d] := by rw [HR.out]; rfl
                have HE := Lib.hid hend
                clear hend
                go_wp2_with fail
                have E := eat_ends HB1.out HBS1.out HL1.out HL'.out.size (by have := HB'.out.lt; omega) (.int .u64 R.a) (.int .u64 R.b) (.int .u64 R.c) (.int .u64 R.d) (.int .u64 (bx R.a m)) _ rfl
                refine ⟨⟨i + 8, j + 1, by go_num, by rw [HIJ.out]; omega, by rw [← HQ.out]; exact hi8, E.1, ?_, E.2.2⟩, by simp [intOf]; omega⟩
                rw [HST.out, HE.out]
                exact E.2.1
          · have hjq : j = P.length / 8 := by have := HIJ.out; have := HQ.out; omega
            have HS2 : sip k0 k1 s.data.toList = sipFin (chunkSt (sipInit k0 k1) P j) := by rw [HSIP.out, hjq]
            have HS3 := Lib.hid HS2
            clear HS2 hjq
            generalize chunkSt (sipInit k0 k1) P j = S at *
            have b0 : Blk wr w'.heap.size 69 #[.int .u64 S.a, .int .u64 S.b, .int .u64 S.c, .int .u64 S.d] := HK2.out
            have B0 := Lib.hid b0
            have c0 := b0.c0
            have c1 := b0.c1
            have c2 := b0.c2
            have c3 := b0.c3
            have f2 := b0.frozen 2
            clear b0
            go_wp2_with fail
            refine (ref_rounds ⟨S.a, S.b, bx S.c 255, S.d⟩ ⟨HOK.out.1, HOK.out.2.1, u64_bx _ _, HOK.out.2.2.2⟩ 4 (by omega) _).mono ?_
            rintro e w1 ⟨rfl, hb1⟩
            have hB1 : Blk w1 w'.heap.size 69 #[.int .u64 S.a, .int .u64 S.b, .int .u64 (bx S.c 255), .int .u64 S.d] := Blk.below' (B0.out.set_ 2 (.int .u64 (bx S.c 255))) hb1
            have hL1 : Below W.heap.size W w1 := (HL2.out.setCell (p := ⟨w'.heap.size, 2, none⟩) HL'.out.size _).trans (hb1.mono (by simpa [World.setCell] using HL2.out.size))
            have HL1 := Lib.hid hL1
            have d0 := hB1.c0
            have d1 := hB1.c1
            have d2 := hB1.c2
            have d3 := hB1.c3
            have f0 := hB1.frozen 0
            have f1 := hB1.frozen 1
            have f2' := hB1.frozen 2
            have f3' := hB1.frozen 3
            clear hB1 hL1 c0 c1 c2 c3 f2 hb1
            obtain ⟨R, hR⟩ : ∃ R : S4, R = roundN ⟨S.a, S.b, bx S.c 255, S.d⟩ 4 := ⟨_, rfl⟩
            rw [← hR, show R.cells = #[.int .u64 R.a, .int .u64 R.b, .int .u64 R.c, .int .u64 R.d] from rfl]
            have hfin : sip k0 k1 s.data.toList = bx (bx (bx R.a R.b) R.c) R.d := by rw [HS3.out, hR]; rfl
            have HF := Lib.hid hfin
            clear hfin hR
            go_wp2_with fail
            go_ret
            refine ⟨by rw [HF.out]; rfl, ?_⟩
            exact (((HL1.out.setCell (p := ⟨w'.heap.size, 0, none⟩) HL'.out.size _).setCell (p := ⟨w'.heap.size, 1, none⟩) HL'.out.size _).setCell (p := ⟨w'.heap.size, 2, none⟩) HL'.out.size _).setCell (p := ⟨w'.heap.size, 3, none⟩) HL'.out.size _
    · have ht : ((n : Int) % 8 != 7) = true := by simp; omega
      have H7 := Lib.hid h7
      clear h7
      go_wp2_with (at_builtin; refine wpList_append_byte rfl _ _ 31 rfl 5 i0 Tryz.underlying31 HI.out HZ0.out HZ1.out HZ2.out (B := W.heap.size) (l := padL s.data.toList p) (v := .slice (some ⟨g, 0, none⟩) n cap) rfl ?hbs ⟨wr.heap.size, 0, none⟩ 1 0 rfl ?hbb ?hbn ?hbB ?hbK)
      case hbs => exact (HB.out.bs n (by rw [HN.out, padL_length])).alloc _
      case hbb => simp
      case hbn => rw [padL_length]; have := HN.out; omega
      case hbB => have := HL.out.size; simp; omega
      case hbK =>
        rintro v' w' ⟨g', cap', rfl, hb'⟩ hbl'
        have HB' := Lib.hid hb'
        have HL' := Lib.hid ((HL.out.alloc HL.out.size _).trans hbl')
        clear hb' hbl'
        go_wp2_with fail
        have hl : s.data.toList.length = s.size := rfl
        refine ⟨⟨p + 1, g', cap', _, rfl, ?_, ?_, ?_, HL'.out⟩, ?_⟩
        · rw [List.length_append, padL_length]; rfl
        · have := HN.out; have := H7.out; have := HP.out; omega
        · rw [← padL_succ]; exact HB'.out
        · simp only [padM]
          rw [List.length_append, padL_length, List.length_singleton]
          have := HN.out; have := H7.out; omega
end Go.Proofs.YtdfgegicfhcmeaaGreatDoor
