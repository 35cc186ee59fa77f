/-
  ServiceStolen: asks: what is none of these.
-/
import Derived.Test.YtckohmhhcknmaaaGreatDoorS02
import Derived.Test.YtckohmhhcknmaaaGreatDoorS03
import Derived.Test.YtckohmhhcknmaaaGreatDoorS04
import Derived.Test.YtckohmhhcknmaaaGreatDoorG23
import Derived.Test.YtckohmhhcknmaaaGreatDoorS01
namespace Go.Proofs.YtckohmhhcknmaaaGreatDoor
open Go.RowKit Go.Sort Go.Maps

section
variable {W w : World} {hb vb sb db k m1 m2 m3 c : Nat} {r : Ru} {z : SS} {v tv : Value} {T : List ByteArray} {K : Kn}
set_option maxHeartbeats 16000000 in
set_option maxRecDepth 100000 in
theorem asks_o (h : HL W hb vb sb db k m1 m2 m3 c r z v tv T K w) (_ : k < 1000000) (_ : c ≤ 900000) (hT : T.length ≤ 1000) (key wh ti n : Int) (sc : ByteArray) (hkey : r.key = key) (hw : ¬ wh = 0 ∧ ¬ wh = 1 ∧ ¬ wh = 2 ∧ ¬ wh = 3 ∧ ¬ wh = 4 ∧ ¬ wh = 5 ∧ ¬ wh = 6) :
    Calls Tryz.prog 16 #[.pointer (some ⟨hb, 0, none⟩), .int .i64 key, .agg #[.int .i64 wh, .int .i64 ti, .int .i64 n, .string sc]] w (AskGot W hb vb sb db k m1 m2 m3 c r T) := by
  obtain ⟨w0, w1, w2, w3, w4, w5, w6⟩ := hw
  obtain ⟨ta, tc, rfl⟩ := h.toks.slice
  have hal := (Below.refl w.heap.size w).alloc (Nat.le_refl _) (.cells #[.int .i64 wh, .int .i64 ti, .int .i64 n, .string sc] 53)
  have H0 := Lib.hid (h.keep hal)
  have HX0 := Lib.hid (Blk.new w 53 #[.int .i64 wh, .int .i64 ti, .int .i64 n, .string sc])
  obtain ⟨c0, c1, c2, c3, c4⟩ := H0.out.five
  obtain ⟨x0, x1, x2, x3⟩ := tok_cells HX0.out
  have hto : ∀ t : ByteArray, tokR (fun B => tagL key B) (parts 46 t.data.toList) = tokOf r t := fun t => by unfold tokOf; rw [hkey]
  have HRD := Lib.hid (fun (t : ByteArray) (ht : t.size ≤ 100) w (h : HL W hb vb sb db k m1 m2 m3 c r z v (.slice ta T.length tc) T K w) => by
    have := token_read key t w (by omega) h.aw.sw.sx.env.maxl h.aw.sw.sx.env.tens h.aw.sw.sx.env.errs
    rw [hto] at this
    exact this)
  unfold TokGot v4 at HRD
  clear h hal hto hkey
  rcases Nat.eq_zero_or_pos T.length with h0 | h0
  · have hd0 : decide (0 < T.length) = false := decide_eq_false (by omega)
    go_enter Tryz.func16, Tryz.ntmps16
    go_wp2_with fail
    have HTT := Lib.hid (show (⟨#[]⟩ : ByteArray).size ≤ 100 by decide)
    have H1 := H0
    have HX1 := HX0
    clear H0 HX0 c0 c1 c2 c3 c4 x0 x1 x2 x3 hd0 h0
    generalize w.alloc (.cells #[.int .i64 wh, .int .i64 ti, .int .i64 n, .string sc] 53) = w1 at *
    generalize w.heap.size = xb at *

    have HID := Lib.hid (show tokId r ⟨#[]⟩ = (tokOf r ⟨#[]⟩).2.2.1 from rfl)
    have HR2 := Lib.hid (HRD.out ⟨#[]⟩ HTT.out)
    generalize tokOf r ⟨#[]⟩ = tq at *
    obtain ⟨qe, qk, qf, qg, qd⟩ := tq
    dsimp only at HR2 HID
    go_at_call 48
    refine (HR2.out _ H1.out).mono ?_
    rintro e w2 ⟨rfl, hbd⟩
    have hal := (Below.refl w2.heap.size w2).alloc (Nat.le_refl _) (.cells #[.int .i64 qk, .int .i64 qf, .int .i64 qg, .int .i64 qd] 104)
    have H2 := Lib.hid ((H1.out.keep hbd).keep hal)
    have HX2 := Lib.hid ((HX1.out.below' hbd).below' hal)
    have HO2 := Lib.hid (Blk.new w2 104 #[.int .i64 qk, .int .i64 qf, .int .i64 qg, .int .i64 qd])
    have hob : W.heap.size ≤ w2.heap.size := (H1.out.keep hbd).aw.below.size
    clear hbd hal H1 HX1 HRD HR2
    obtain ⟨x0, x1, x2, x3⟩ := tok_cells HX2.out
    obtain ⟨o0, o1, o2, o3⟩ := tok_cells HO2.out
    obtain ⟨c0, c1, c2, c3, c4⟩ := H2.out.five
    go_wp2_with fail
    generalize w2.alloc (.cells #[.int .i64 qk, .int .i64 qf, .int .i64 qg, .int .i64 qd] 104) = w3 at *
    generalize w2.heap.size = ob at *

    go_ret
    exact ⟨rfl, k, c, _, _, _, _, K, Nat.le_succ _, Nat.le_add_right _ _, Nat.le_succ _, H2.out⟩
  · have hd0 : decide (0 < T.length) = true := decide_eq_true h0
    have HPK := Lib.hid (fun w => pick_n ti (T.length : Int) w (by omega) (by omega))
    have hp := pickN_in ti (n := (T.length : Int)) (by omega)
    obtain ⟨p, hpp⟩ : ∃ p : Nat, pickN ti (T.length : Int) = p := ⟨_, (Int.toNat_of_nonneg hp.1).symm⟩
    rw [hpp] at HPK hp
    obtain ⟨tt, htt⟩ : ∃ t, T[p]? = some t := ⟨_, List.getElem?_eq_getElem (by omega)⟩
    obtain ⟨tg, rfl, hcell⟩ := H0.out.toks.lit htt
    have HTT := Lib.hid (H0.out.small tt (List.mem_of_getElem? htt))
    obtain ⟨hp0, hp1⟩ := hp
    clear hpp htt
    go_enter Tryz.func16, Tryz.ntmps16
    go_wp2_with fail
    go_quiet ((go_at_call 8; exact Calls.quiet_of_same ((HPK.out _).mono fun _ _ h => ⟨h.1, h.2.symm⟩)))
    go_wp2_with fail
    have hbd : Below (w.alloc (.cells #[.int .i64 wh, .int .i64 ti, .int .i64 n, .string sc] 53)).heap.size (w.alloc (.cells #[.int .i64 wh, .int .i64 ti, .int .i64 n, .string sc] 53)) ((w.alloc (.cells #[.int .i64 wh, .int .i64 ti, .int .i64 n, .string sc] 53)).drewN nq) := below_drewN (Below.refl _ _) nq
    have H1 := Lib.hid (H0.out.keep hbd)
    have HX1 := Lib.hid (HX0.out.below' hbd)
    clear H0 HX0 c0 c1 c2 c3 c4 x0 x1 x2 x3 hd0 h0 hcell hp0 hp1 HPK hbd
    generalize (w.alloc (.cells #[.int .i64 wh, .int .i64 ti, .int .i64 n, .string sc] 53)).drewN nq = w1 at *
    generalize w.heap.size = xb at *

    have HID := Lib.hid (show tokId r tt = (tokOf r tt).2.2.1 from rfl)
    have HR2 := Lib.hid (HRD.out tt HTT.out)
    generalize tokOf r tt = tq at *
    obtain ⟨qe, qk, qf, qg, qd⟩ := tq
    dsimp only at HR2 HID
    go_at_call 48
    refine (HR2.out _ H1.out).mono ?_
    rintro e w2 ⟨rfl, hbd⟩
    have hal := (Below.refl w2.heap.size w2).alloc (Nat.le_refl _) (.cells #[.int .i64 qk, .int .i64 qf, .int .i64 qg, .int .i64 qd] 104)
    have H2 := Lib.hid ((H1.out.keep hbd).keep hal)
    have HX2 := Lib.hid ((HX1.out.below' hbd).below' hal)
    have HO2 := Lib.hid (Blk.new w2 104 #[.int .i64 qk, .int .i64 qf, .int .i64 qg, .int .i64 qd])
    have hob : W.heap.size ≤ w2.heap.size := (H1.out.keep hbd).aw.below.size
    clear hbd hal H1 HX1 HRD HR2
    obtain ⟨x0, x1, x2, x3⟩ := tok_cells HX2.out
    obtain ⟨o0, o1, o2, o3⟩ := tok_cells HO2.out
    obtain ⟨c0, c1, c2, c3, c4⟩ := H2.out.five
    go_wp2_with fail
    generalize w2.alloc (.cells #[.int .i64 qk, .int .i64 qf, .int .i64 qg, .int .i64 qd] 104) = w3 at *
    generalize w2.heap.size = ob at *

    go_ret
    exact ⟨rfl, k, c, _, _, _, _, K, Nat.le_succ _, Nat.le_add_right _ _, Nat.le_succ _, H2.out⟩
end
end Go.Proofs.YtckohmhhcknmaaaGreatDoor

/-
  ServiceStolen: the walk.
-/
namespace Go.Proofs.YtckohmhhcknmaaaGreatDoor
open Go.RowKit Go.Sort Go.Maps

/-- what is asked, one of a list -/
structure AskE where
  what : Int
  t : Int
  n : Int
  sc : ByteArray
def askCs (a : AskE) : Array Value := #[.int .i64 a.what, .int .i64 a.t, .int .i64 a.n, .string a.sc]
def AsksAt (w : World) (g off : Nat) (E : List AskE) : Prop := ∀ i d, E[i]? = some d → ∀ j, j < 4 → w.cell? ⟨g, off + i * 4 + j, none⟩ = (askCs d)[j]?
theorem asks_any {W w : World} {hb vb sb db k m1 m2 m3 c : Nat} {r : Ru} {z : SS} {v tv : Value} {T : List ByteArray} {K : Kn} (h : HL W hb vb sb db k m1 m2 m3 c r z v tv T K w) (hk : k < 1000000) (hc : c ≤ 900000) (hT : T.length ≤ 1000) (key wh ti n : Int) (sc : ByteArray) (hkey : r.key = key) :
    Calls Tryz.prog 16 #[.pointer (some ⟨hb, 0, none⟩), .int .i64 key, .agg #[.int .i64 wh, .int .i64 ti, .int .i64 n, .string sc]] w (AskGot W hb vb sb db k m1 m2 m3 c r T) := by
  by_cases h0 : wh = 0
  · subst h0; exact asks_0 h hk hc hT key ti n sc hkey
  by_cases h1 : wh = 1
  · subst h1; exact asks_1 h hk hc hT key ti n sc hkey
  by_cases h2 : wh = 2
  · subst h2; exact asks_2 h hk hc hT key ti n sc hkey
  by_cases h3 : wh = 3
  · subst h3; exact asks_3 h hk hc hT key ti n sc hkey
  by_cases h4 : wh = 4
  · subst h4; exact asks_4 h hk hc hT key ti n sc hkey
  by_cases h5 : wh = 5
  · subst h5; exact asks_5 h hk hc hT key ti n sc hkey
  by_cases h6 : wh = 6
  · subst h6; exact asks_6 h hk hc hT key ti n sc hkey
  exact asks_o h hk hc hT key wh ti n sc hkey ⟨h0, h1, h2, h3, h4, h5, h6⟩
theorem held_start {W w : World} {vb sb db : Nat} {r : Ru} {v : Value} (h : AW W W.heap.size vb sb db 0 r newS v w) :
    HL W (w.heap.size + 1 + 1 + 1) vb sb db 0 w.heap.size (w.heap.size + 1) (w.heap.size + 1 + 1) 0 r newS v (.slice none 0 0) [] ⟨fun _ => false, fun _ => none, fun _ => none⟩ ((((w.alloc (.map #[] 0)).alloc (.map #[] 0)).alloc (.map #[] 0)).alloc (.cells #[.pointer (some ⟨vb, 0, none⟩), .slice none 0 0, .map (some w.heap.size), .map (some (w.heap.size + 1)), .map (some (w.heap.size + 1 + 1))] 50)) := by
  have hW := h.below.size
  have b1 : Below w.heap.size w (w.alloc (.map #[] 0)) := (Below.refl _ _).alloc (Nat.le_refl _) _
  have b2 : Below w.heap.size w ((w.alloc (.map #[] 0)).alloc (.map #[] 0)) := b1.alloc b1.size _
  have b3 : Below w.heap.size w (((w.alloc (.map #[] 0)).alloc (.map #[] 0)).alloc (.map #[] 0)) := b2.alloc b2.size _
  have s1 : (w.alloc (.map #[] 0)).heap.size = w.heap.size + 1 := by simp
  have s2 : ((w.alloc (.map #[] 0)).alloc (.map #[] 0)).heap.size = w.heap.size + 1 + 1 := by simp
  have s3 : (((w.alloc (.map #[] 0)).alloc (.map #[] 0)).alloc (.map #[] 0)).heap.size = w.heap.size + 1 + 1 + 1 := by simp
  have p1 := (MapIB.made (P := Tryz.prog) (K := 3) (E := 4) w)
  have p2 := (MapO.made (P := Tryz.prog) (Q := ikey) (E := 9) (w.alloc (.map #[] 0)))
  have p3 := (MapO.made (P := Tryz.prog) (Q := tkey) (E := 9) ((w.alloc (.map #[] 0)).alloc (.map #[] 0)))
  rw [s1] at p2
  rw [s2] at p3
  have q1 := ((p1.kept (World.grownBy_alloc _ (.map #[] 0) none) (by simp)).kept (World.grownBy_alloc _ (.map #[] 0) none) (by simp))
  have q2 := p2.kept (World.grownBy_alloc _ (.map #[] 0) none) (by simp)
  have hbk := Blk.new (((w.alloc (.map #[] 0)).alloc (.map #[] 0)).alloc (.map #[] 0)) 50 #[.pointer (some ⟨vb, 0, none⟩), .slice none 0 0, .map (some w.heap.size), .map (some (w.heap.size + 1)), .map (some (w.heap.size + 1 + 1))]
  rw [s3] at hbk
  exact ⟨h.keep (b3.alloc b3.size _), hbk, TRow.nil _ _, fun t ht => by simp at ht, q1.kept (World.grownBy_alloc _ _ none) (by simp), q2.kept (World.grownBy_alloc _ _ none) (by simp), p3.kept (World.grownBy_alloc _ _ none) (by simp), by omega, by omega, by omega, by omega, hW, by omega, by omega, KnOk.start r⟩
def StRel (W : World) (n hb vb sb db m1 m2 m3 : Nat) (r : Ru) (i : Value) (w : World) : Prop := ∃ (j k c : Nat) (z : SS) (v tv : Value) (T : List ByteArray) (K : Kn), j ≤ n ∧ i = .int .i64 j ∧ k ≤ j ∧ c ≤ 22 * j ∧ T.length ≤ j ∧ HL W hb vb sb db k m1 m2 m3 c r z v tv T K w
set_option maxHeartbeats 8000000 in
set_option maxRecDepth 100000 in
theorem stolen_walk (W : World) (A : Option Addr) (g off cap : Nat) (E : List AskE) (key idle life access : Int) (hE : E.length ≤ 120) (hA : E ≠ [] → A = some ⟨g, off, none⟩) (hdos : E ≠ [] → AsksAt W g off E ∧ g < W.heap.size) (hEnv : Env W.heap.size W) (het : ErrType W) :
    Calls Tryz.prog 4 #[.int .i64 key, .int .i64 idle, .int .i64 life, .int .i64 access, .slice A E.length cap] W fun x w' => x = .returned (.bool true) ∧ Below W.heap.size W w' := by
  have heg := het.lt
  have HA := Lib.hid hA
  have HD := Lib.hid hdos
  have HEN := Lib.hid hEnv
  have HET := Lib.hid het
  have k1 := pickN_in key (n := 1073741824) (by decide)
  have k2 := pickN_in idle (n := 50) (by decide)
  have k3 := pickN_in life (n := 200) (by decide)
  have k4 := pickN_in access (n := 30) (by decide)
  have HGY := Lib.hid (granted_yes hEnv (Nat.le_refl _) het heg)
  have HP1 := Lib.hid (fun w => pick_n key 1073741824 w (by decide) (by decide))
  have HP2 := Lib.hid (fun w => pick_n idle 50 w (by decide) (by decide))
  have HP3 := Lib.hid (fun w => pick_n life 200 w (by decide) (by decide))
  have HP4 := Lib.hid (fun w => pick_n access 30 w (by decide) (by decide))
  generalize pickN key 1073741824 = ky at *
  generalize pickN idle 50 = il at *
  generalize pickN life 200 = li at *
  generalize pickN access 30 = ac at *
  have hru : ruB ⟨ky, il, li, ac⟩ = true := by
    unfold ruB
    dsimp only
    rw [okN_iff.2 ⟨by omega, by omega⟩, okN_iff.2 ⟨by omega, by omega⟩, okN_iff.2 ⟨by omega, by omega⟩, okN_iff.2 ⟨by omega, by omega⟩]
    rfl
  have HBG := Lib.hid (fun w (hb : Below W.heap.size W w) => begun_yes (B := W.heap.size) (r := ⟨ky, il, li, ac⟩) (HEN.out.keep hb) hb.size hru)
  dsimp only at HBG
  clear hA hdos hEnv het hru k1 k2 k3 k4
  go_enter Tryz.func4, Tryz.ntmps4
  go_wp2_with fail
  go_at_call 6
  refine HGY.out.mono ?_
  rintro e w1 ⟨rfl, hb⟩
  have HB1 := Lib.hid hb
  clear hb HGY
  go_wp2_with fail
  go_at_call 8
  refine (HP1.out _).mono ?_
  rintro e w1' ⟨rfl, rfl⟩
  clear HP1
  go_wp2_with fail
  go_at_call 8
  refine (HP2.out _).mono ?_
  rintro e w1' ⟨rfl, rfl⟩
  go_wp2_with fail
  go_at_call 8
  refine (HP3.out _).mono ?_
  rintro e w1' ⟨rfl, rfl⟩
  go_wp2_with fail
  go_at_call 8
  refine (HP4.out _).mono ?_
  rintro e w1' ⟨rfl, rfl⟩
  clear HP2 HP3 HP4
  go_wp2_with fail
  go_at_call 7
  refine (HBG.out _ HB1.out).mono ?_
  rintro e w2 ⟨vb, sb, db, v, rfl, hsw, hb, h1, h2, h3⟩
  have H1 := Lib.hid (show AW W W.heap.size vb sb db 0 ⟨ky, il, li, ac⟩ newS v w2 from ⟨hsw, below_2 HB1.out hb, Nat.le_trans HB1.out.size h1, Nat.le_trans HB1.out.size h2, Nat.le_trans HB1.out.size h3, HET.out, heg⟩)
  clear hsw hb HBG HB1 h1 h2 h3
  have hmm := @run_makeMap Tryz.prog
  go_wp2_with fail
  clear hmm
  have HS0 := Lib.hid (held_start H1.out)
  clear H1
  generalize (((w2.alloc (.map #[] 0)).alloc (.map #[] 0)).alloc (.map #[] 0)).alloc (.cells #[.pointer (some ⟨vb, 0, none⟩), .slice none 0 0, .map (some w2.heap.size), .map (some (w2.heap.size + 1)), .map (some (w2.heap.size + 1 + 1))] 50) = w3 at *
  generalize w2.heap.size + 1 + 1 + 1 = hb at *
  generalize w2.heap.size + 1 + 1 = m3 at *
  generalize w2.heap.size + 1 = m2 at *
  generalize w2.heap.size = m1 at *
  go_loopw [13] (fun i wr => StRel W E.length hb vb sb db m1 m2 m3 ⟨ky, il, li, ac⟩ i wr) (fun i _ => E.length - (intOf i).toNat)
  case atStart => exact ⟨0, 0, 0, newS, v, _, [], _, Nat.zero_le _, rfl, Nat.le_refl _, Nat.le_refl _, Nat.le_refl _, HS0.out⟩
  case round =>
    obtain ⟨j, k, c, z, v, tv, T, K, hj, rfl, hk, hc, hT, hl⟩ := hrel
    have HL1 := Lib.hid hl
    clear hl HS0
    by_cases hlt : j < E.length
    · have hne : E ≠ [] := by rintro rfl; simp at hlt
      obtain rfl := HA.out hne
      obtain ⟨ha, hg⟩ := HD.out hne
      obtain ⟨e, he⟩ : ∃ e, E[j]? = some e := ⟨_, List.getElem?_eq_getElem hlt⟩
      have h0 : (0 : Int) ≤ (j : Int) := by omega
      have h1 : (j : Int) < (E.length : Int) := by omega
      have hcl : ∀ q, q < 4 → wr.cell? ⟨g, off + j * 4 + q, none⟩ = (askCs e)[q]? := fun q hq => (HL1.out.aw.below.cell (p := ⟨g, off + j * 4 + q, none⟩) hg).trans (ha j e he q hq)
      obtain ⟨wh, ti, n, sc⟩ := e
      obtain ⟨d0, d1, d2, d3⟩ : wr.cell? ⟨g, off + j * 4, none⟩ = some (.int .i64 wh) ∧ wr.cell? ⟨g, off + j * 4 + 1, none⟩ = some (.int .i64 ti) ∧ wr.cell? ⟨g, off + j * 4 + 2, none⟩ = some (.int .i64 n) ∧ wr.cell? ⟨g, off + j * 4 + 3, none⟩ = some (.string sc) := ⟨hcl 0 (by decide), hcl 1 (by decide), hcl 2 (by decide), hcl 3 (by decide)⟩
      have HAK := Lib.hid (asks_any HL1.out (by omega) (by omega) (by omega) ky wh ti n sc rfl)
      clear hcl he ha hne
      go_wp2_with fail
      go_at_call 16
      refine HAK.out.mono ?_
      rintro x w4 ⟨rfl, k4, c4, z4, v4, tv4, T4, K4, hk4, hc4, hT4, hl4⟩
      have HL4 := Lib.hid hl4
      clear hl4 HAK HL1
      go_wp2_with fail
      go_roundw
      case rel => exact ⟨j + 1, k4, c4, z4, v4, tv4, T4, K4, by omega, by go_num, by omega, by omega, by omega, HL4.out⟩
      case measure => simp [intOf]; omega
    · go_wp2_with fail
      go_ret
      exact ⟨rfl, HL1.out.aw.below⟩
set_option maxRecDepth 100000 in
theorem stolen_long (W : World) (A : Option Addr) (cap n : Nat) (key idle life access : Int) (hn0 : n ≤ 9223372036854775807) (h : 120 < n) :
    Calls Tryz.prog 4 #[.int .i64 key, .int .i64 idle, .int .i64 life, .int .i64 access, .slice A n cap] W fun x w' => x = .returned (.bool true) ∧ Below W.heap.size W w' := by
  go_enter Tryz.func4, Tryz.ntmps4
  go_wp2_with fail
  go_ret
  exact ⟨rfl, Below.refl _ _⟩
end Go.Proofs.YtckohmhhcknmaaaGreatDoor

/-
  What is asked, in a slice that came in (rotorkeep's).
-/
namespace Go.Proofs.YtckohmhhcknmaaaGreatDoor
open Go.ChangeShapes Go.WideShapes Go.ChangeAt Go.RowKit Go.Deep

theorem cell_int1 : Tryz.prog.cellsOf 3 = 1 := by kernel_rfl
theorem cell_str1 : Tryz.prog.cellsOf 9 = 1 := by kernel_rfl
theorem cells_ask : Tryz.prog.cellsOf 53 = 4 := by kernel_rfl
theorem list4 {α : Type} {l : List α} (h : l.length = 4) : ∃ a b c d, l = [a, b, c, d] := by
  match l, h with
  | [a, b, c, d], _ => exact ⟨a, b, c, d, rfl⟩
section
variable {H : Type} {enc : TypeId × Value → H} {W : World} {base : Nat} {spare : Nat → Bool} {held : Bool}
set_option maxRecDepth 100000 in
theorem ask_trod {fuel : Nat} {c0 c1 c2 c3 : Value} {y : DataW H × List MemPlace} (h : DataW.trod enc Tryz.prog W base spare held fuel 53 [c0, c1, c2, c3] = some y) :
    ∃ d : AskE, [c0, c1, c2, c3] = (askCs d).toList := by
  obtain ⟨xs, n, _, hx, _, hlen, hf⟩ := DataW.trod_struct Tryz.underlying53 h
  obtain ⟨y0, y1, y2, y3, rfl⟩ := list4 hlen
  have k0 := hf 0 _ rfl
  have k1 := hf 1 _ rfl
  have k2 := hf 2 _ rfl
  have k3 := hf 3 _ rfl
  simp only [List.getElem_toArray, List.getElem_cons_zero, List.getElem_cons_succ] at k0 k1 k2 k3
  rw [cell_int1] at k0 k1 k2
  rw [cell_str1] at k3
  obtain ⟨a0, e0, _⟩ := DataW.trod_int Tryz.underlying3 k0
  obtain ⟨a1, e1, _⟩ := DataW.trod_int Tryz.underlying3 k1
  obtain ⟨a2, e2, _⟩ := DataW.trod_int Tryz.underlying3 k2
  obtain ⟨a3, e3, _⟩ := DataW.trod_string Tryz.underlying9 k3
  simp only [List.drop, List.take, List.cons.injEq, and_true] at e0 e1 e2 e3
  refine ⟨⟨a0, a1, a2, a3⟩, ?_⟩
  subst e0 e1 e2 e3
  rfl
end
section
variable {H : Type} {enc : TypeId × Value → H} {W : World}
/-- nil or empty, or what is asked in a row of cells -/
theorem asks_open {a0 : Option Addr} {len cap : Nat} {d : DataW H} {p : List MemPlace} (h : DataW.Trod enc Tryz.prog W 0 (fun _ => true) true 43 (.slice a0 len cap) d p) :
    len ≤ 9223372036854775807 ∧ ∃ (g off : Nat) (E : List AskE), E.length = len ∧ (E ≠ [] → a0 = some ⟨g, off, none⟩) ∧ (E ≠ [] → AsksAt W g off E ∧ g < W.heap.size) := by
  by_cases h0 : len = 0
  · subst h0
    exact ⟨by omega, 0, 0, [], rfl, fun h => absurd rfl h, fun h => absurd rfl h⟩
  obtain ⟨fuel, hf⟩ := h
  rcases open_slice Tryz.underlying43 hf with ⟨hcs, _⟩ | ⟨a, len', cap', m, n, D, Pl, hcs, _, hl, hmx, hmm, hx, hi⟩
  · simp only [Value.cells, List.cons.injEq, Value.slice.injEq, and_true] at hcs
    exact absurd hcs.2.1 h0
  · simp only [Value.cells, List.cons.injEq, Value.slice.injEq, and_true] at hcs
    obtain ⟨rfl, rfl, rfl⟩ := hcs
    unfold maxLen at hmx
    have key : ∀ i, i < len → ∃ e : AskE, ∀ j, j < 4 → W.cell? (a.add (i * 4 + j)) = (askCs e)[j]? := by
      intro i hil
      obtain ⟨cs', hc, ht⟩ := hi i (by rw [hmm]; simp; omega)
      rw [cells_ask] at hc
      obtain ⟨_, hcl, hat⟩ := World.cells?_some hc
      obtain ⟨c0, c1, c2, c3, rfl⟩ := list4 hcl
      obtain ⟨e, he⟩ := ask_trod ht
      refine ⟨e, fun j hj => ?_⟩
      have h1 := hat j hj
      rw [Go.Deep.add_add] at h1
      rw [h1, he, Array.getElem?_toList]
    obtain ⟨ev, hev⟩ : ∃ ev : Nat → AskE, ∀ i, i < len → ∀ j, j < 4 → W.cell? (a.add (i * 4 + j)) = (askCs (ev i))[j]? := by
      refine ⟨fun i => if hil : i < len then Classical.choose (key i hil) else ⟨0, 0, 0, ByteArray.empty⟩, fun i hil => ?_⟩
      dsimp only
      rw [dif_pos hil]
      exact Classical.choose_spec (key i hil)
    have hc0 := hev 0 (by omega) 0 (by decide)
    have hsome : W.cell? (a.add 0) = some (.int .i64 (ev 0).what) := hc0
    have hsp := (cell_add hsome).2.2 rfl
    have hlt := (cell_add hsome).2.1
    refine ⟨by omega, a.block, a.off, (List.range len).map ev, by simp, fun _ => by cases a; simp_all, fun _ => ⟨?_, hlt⟩⟩
    intro i e hie j hj
    have hil : i < len := by
      have := (List.getElem?_eq_some_iff.1 hie).1
      simpa using this
    rw [List.getElem?_map, List.getElem?_range hil] at hie
    obtain rfl := Option.some.inj hie
    have h1 := hev i hil j hj
    rw [← h1]
    unfold Addr.add
    split
    · rename_i hz
      have h2 : a.off + i * 4 + j = a.off := by omega
      rw [h2]
      congr 1
      cases a
      simp_all
    · rw [Nat.add_assoc]
end
theorem stolen_all (W : World) (A : Option Addr) (cap n : Nat) (key idle life access : Int) (hn : n ≤ 9223372036854775807 ∧ ∃ (g off : Nat) (E : List AskE), E.length = n ∧ (E ≠ [] → A = some ⟨g, off, none⟩) ∧ (E ≠ [] → AsksAt W g off E ∧ g < W.heap.size)) (hEnv : Env W.heap.size W) (het : ErrType W) :
    Calls Tryz.prog 4 #[.int .i64 key, .int .i64 idle, .int .i64 life, .int .i64 access, .slice A n cap] W fun x w' => x = .returned (.bool true) ∧ Below W.heap.size W w' := by
  obtain ⟨hn0, g, off, E, rfl, hA, hd⟩ := hn
  by_cases h : E.length ≤ 120
  · exact stolen_walk W A g off cap E key idle life access h hA hd hEnv het
  · exact stolen_long W A cap E.length key idle life access hn0 (by omega)
end Go.Proofs.YtckohmhhcknmaaaGreatDoor
