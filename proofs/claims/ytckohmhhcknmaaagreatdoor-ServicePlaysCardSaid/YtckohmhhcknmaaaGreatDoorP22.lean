/-
  token.Read where the words are as many as they should be: what is known on the way.
-/
import Derived.Test.YtckohmhhcknmaaaGreatDoorP21
namespace Go.Proofs.YtckohmhhcknmaaaGreatDoor
open Go.RowKit Go.Sort

theorem Row.at_ {w w' : World} {B0 B : Nat} {v : Value} {L : List (List UInt8)} (h : Row w B0 v L) (hb : Below B w w') (hv : ∀ g, v.ownBlock = some g → g < B) : Row w' B0 v L := by
  obtain ⟨g, cap, rfl, ho⟩ := h
  refine ⟨g, cap, rfl, ho.1, ?_⟩
  rcases ho.2 with h0 | ⟨g', cap', cur, e, h1, h2, h3⟩
  · exact .inl h0
  · refine .inr ⟨g', cap', cur, e, h1, ?_, h3⟩
    rw [hb.block g' (hv g' (by rw [e]; rfl))]
    exact h2
structure TK (W : World) (L : List (List UInt8)) (g cap tb B : Nat) (k : Int) (w : World) : Prop where
  tr : TR W L (.slice (some ⟨g, 0, none⟩) L.length cap) w
  tk : Blk w tb 104 #[.int .i64 k, .int .i64 0, .int .i64 0, .int .i64 0]
  hB : B ≤ w.heap.size
  tbB : tb < B
  gB : g < B
  WB : W.heap.size < B
  ne1 : W.heap.size ≠ tb
  ne2 : g ≠ tb
  ne3 : W.heap.size ≠ g
  gl : 4 < B ∧ 5 < B ∧ 6 < B
theorem TK.keep {W w w' : World} {L : List (List UInt8)} {g cap tb B : Nat} {k : Int} (h : TK W L g cap tb B k w) (hb : Below B w w') : TK W L g cap tb B k w' :=
  ⟨⟨h.tr.below.trans (hb.mono (Nat.le_of_lt h.WB)), h.tr.res.below hb h.WB, h.tr.row.at_ hb (fun x hx => by simp [Value.ownBlock] at hx; subst hx; exact h.gB), h.tr.tens.below hb h.gl.2.2, h.tr.errs.below hb h.gl.1 h.gl.2.1⟩,
    h.tk.below hb h.tbB, Nat.le_trans h.hB hb.size, h.tbB, h.gB, h.WB, h.ne1, h.ne2, h.ne3, h.gl⟩
theorem TK.keep' {W w w' : World} {L : List (List UInt8)} {g cap tb B : Nat} {k : Int} (h : TK W L g cap tb B k w) (hb : Below w.heap.size w w') : TK W L g cap tb B k w' := h.keep (hb.mono h.hB)
theorem TK.grown {W w w' : World} {L : List (List UInt8)} {g cap tb B : Nat} {k : Int} {row : Option Nat} (h : TK W L g cap tb B k w) (hg : w.grownBy w' row) (hr : ∀ i, row = some i → B ≤ i) : TK W L g cap tb B k w' :=
  h.keep ((Below.refl B w).grown hg h.hB hr)
theorem TK.start {W w1 : World} {L : List (List UInt8)} {g cap : Nat} (h : TR W L (.slice (some ⟨g, 0, none⟩) L.length cap) w1) (hg1 : W.heap.size + 1 ≤ g) (hg2 : g < w1.heap.size) (k : Int) :
    TK W L g cap w1.heap.size (w1.heap.size + 1) k (w1.alloc (.cells #[.int .i64 k, .int .i64 0, .int .i64 0, .int .i64 0] 104)) := by
  have hrl := h.res.lt
  have h3 := h.errs.lt
  have h4 := h.tens.lt
  exact ⟨h.keep ((Below.refl _ _).alloc (Nat.le_refl _) _), Blk.new w1 _ _, by simp, by omega, by omega, by omega, by omega, by omega, by omega, by omega, by omega, by omega⟩
theorem TK.facts {W w : World} {L : List (List UInt8)} {g cap tb B : Nat} {k : Int} (h : TK W L g cap tb B k w) :
    (∀ j, j < L.length → w.cell? ⟨g, j, none⟩ = some (.string (txt (L.getD j [])))) ∧ (w.cell? ⟨W.heap.size, 0, none⟩ = some (.int .i64 0) ∧ w.cell? ⟨W.heap.size, 1, none⟩ = some (.int .i64 0) ∧ w.cell? ⟨W.heap.size, 2, none⟩ = some (.int .i64 0) ∧ w.cell? ⟨W.heap.size, 3, none⟩ = some (.int .i64 0)) ∧
    (w.frozen? ⟨W.heap.size, 0, none⟩ = false ∧ w.frozen? ⟨W.heap.size, 1, none⟩ = false ∧ w.frozen? ⟨W.heap.size, 2, none⟩ = false ∧ w.frozen? ⟨W.heap.size, 3, none⟩ = false) ∧
    (w.cell? ⟨tb, 0, none⟩ = some (.int .i64 k) ∧ w.cell? ⟨tb, 1, none⟩ = some (.int .i64 0) ∧ w.cell? ⟨tb, 2, none⟩ = some (.int .i64 0) ∧ w.cell? ⟨tb, 3, none⟩ = some (.int .i64 0)) ∧
    (w.frozen? ⟨tb, 0, none⟩ = false ∧ w.frozen? ⟨tb, 1, none⟩ = false ∧ w.frozen? ⟨tb, 2, none⟩ = false ∧ w.frozen? ⟨tb, 3, none⟩ = false) ∧ g < w.heap.size ∧ tb < w.heap.size ∧ W.heap.size < w.heap.size := by
  have hr := h.tr.res
  have hk := h.tk
  exact ⟨fun j hj => h.tr.row.cell j hj, ⟨hr.cell 0, hr.cell 1, hr.cell 2, hr.cell 3⟩, ⟨hr.frozen 0, hr.frozen 1, hr.frozen 2, hr.frozen 3⟩, ⟨hk.cell 0, hk.cell 1, hk.cell 2, hk.cell 3⟩, ⟨hk.frozen 0, hk.frozen 1, hk.frozen 2, hk.frozen 3⟩,
    Nat.lt_of_lt_of_le h.gB h.hB, Nat.lt_of_lt_of_le h.tbB h.hB, Nat.lt_of_lt_of_le h.WB h.hB⟩
structure TE (W : World) (tb : Nat) (cs : Array Value) (w : World) : Prop where
  below : Below W.heap.size W w
  res : Blk w W.heap.size 104 #[.int .i64 0, .int .i64 0, .int .i64 0, .int .i64 0]
  tk : Blk w tb 104 cs
  tens : Tens w
  lt : W.heap.size < tb
  WT : 6 < W.heap.size
theorem TE.of_tk {W w : World} {L : List (List UInt8)} {g cap tb B : Nat} {k : Int} (h : TK W L g cap tb B k w) (ht : W.heap.size < tb) (hg : 6 < W.heap.size) : TE W tb #[.int .i64 k, .int .i64 0, .int .i64 0, .int .i64 0] w := ⟨h.tr.below, h.tr.res, h.tk, h.tr.tens, ht, hg⟩
theorem tens_set {w : World} (h : Tens w) {p : Addr} (hp : 6 ≠ p.block) (u : Value) : Tens (w.setCell p u) := by
  unfold Tens Lib.TabIs at *
  unfold World.var? at *
  simp only [tens_g, Option.bind_some] at h ⊢
  rw [Below.heap_setCell w p u _ hp]
  exact h
theorem TE.set {W w : World} {tb : Nat} {cs : Array Value} (h : TE W tb cs w) (i : Nat) (u : Value) : TE W tb (cs.setIfInBounds i u) (w.setCell ⟨tb, i, none⟩ u) :=
  ⟨h.below.setCell (Nat.le_of_lt h.lt) u, h.res.far (Nat.ne_of_lt h.lt) u, h.tk.set_ i u, tens_set h.tens (by have := h.lt; have := h.WT; simp; omega) u, h.lt, h.WT⟩
theorem TE.drew {W w : World} {tb : Nat} {cs : Array Value} (h : TE W tb cs w) : TE W tb cs w.drew := ⟨below_drewN h.below 1, h.res, h.tk, h.tens, h.lt, h.WT⟩
theorem TE.keep {W w w' : World} {tb : Nat} {cs : Array Value} (h : TE W tb cs w) (hb : Below w.heap.size w w') : TE W tb cs w' :=
  ⟨h.below.trans (hb.mono h.below.size), h.res.below' hb, h.tk.below' hb, h.tens.below hb h.tens.lt, h.lt, h.WT⟩
theorem TE.facts {W w : World} {tb : Nat} {x0 x1 x2 x3 : Value} (h : TE W tb #[x0, x1, x2, x3] w) :
    (w.cell? ⟨W.heap.size, 0, none⟩ = some (.int .i64 0) ∧ w.cell? ⟨W.heap.size, 1, none⟩ = some (.int .i64 0) ∧ w.cell? ⟨W.heap.size, 2, none⟩ = some (.int .i64 0) ∧ w.cell? ⟨W.heap.size, 3, none⟩ = some (.int .i64 0)) ∧
    (w.frozen? ⟨W.heap.size, 0, none⟩ = false ∧ w.frozen? ⟨W.heap.size, 1, none⟩ = false ∧ w.frozen? ⟨W.heap.size, 2, none⟩ = false ∧ w.frozen? ⟨W.heap.size, 3, none⟩ = false) ∧
    (w.cell? ⟨tb, 0, none⟩ = some x0 ∧ w.cell? ⟨tb, 1, none⟩ = some x1 ∧ w.cell? ⟨tb, 2, none⟩ = some x2 ∧ w.cell? ⟨tb, 3, none⟩ = some x3) ∧ W.heap.size < w.heap.size ∧ tb < w.heap.size := by
  have hr := h.res
  have hk := h.tk
  exact ⟨⟨hr.cell 0, hr.cell 1, hr.cell 2, hr.cell 3⟩, ⟨hr.frozen 0, hr.frozen 1, hr.frozen 2, hr.frozen 3⟩, ⟨hk.cell 0, hk.cell 1, hk.cell 2, hk.cell 3⟩, hr.lt, hk.lt⟩
theorem right_1 {x y : List UInt8} (hx : numB x = true) (hy : numB y = true) : rightN 1 (atoiN x) (atoiN y) 0 = true := by simp [rightN, (numB_iff.1 hx).1, (numB_iff.1 hy).1]
theorem right_2 {x y z : List UInt8} (hx : numB x = true) (hy : numB y = true) (hz : numB z = true) : rightN 2 (atoiN x) (atoiN y) (atoiN z) = true := by simp [rightN, (numB_iff.1 hx).1, (numB_iff.1 hy).1, (numB_iff.1 hz).1]
theorem itoS_num {x : List UInt8} (hx : numB x = true) : itoS (atoiN x) = txt x := by
  unfold itoS txt
  rw [(numB_iff.1 hx).2]
theorem bodyS_1 {x y : List UInt8} (hx : numB x = true) (hy : numB y = true) : bodyS 1 (atoiN x) (atoiN y) 0 = txt (glue 46 [[114], x, y]) := by
  rw [bodyS, if_pos rfl, itoS_num hx, itoS_num hy, show (⟨#[114, 46]⟩ : ByteArray) = txt [114, 46] from rfl, show (⟨#[46]⟩ : ByteArray) = txt [46] from rfl]
  simp only [txt_app]
  simp [glue]
theorem bodyS_2 {x y z : List UInt8} (hx : numB x = true) (hy : numB y = true) (hz : numB z = true) : bodyS 2 (atoiN x) (atoiN y) (atoiN z) = txt (glue 46 [[97], x, y, z]) := by
  rw [bodyS, if_neg (by decide), itoS_num hx, itoS_num hy, itoS_num hz, show (⟨#[97, 46]⟩ : ByteArray) = txt [97, 46] from rfl, show (⟨#[46]⟩ : ByteArray) = txt [46] from rfl]
  simp only [txt_app]
  simp [glue]
theorem tag_eq (key : Int) {TT BS : ByteArray} {t B : List UInt8} (h1 : TT.data.toList = t) (h2 : BS = txt B) : decide (TT = tagS key BS) = decide (t = tagL key B) := by
  rw [decide_eq_decide]
  subst h2
  unfold tagS
  rw [data_txt, ← h1]
  exact ⟨fun h => by rw [h], fun h => by rw [← h]⟩
theorem same_below {w w' : World} (h : ∃ n, w' = w.drewN n) : Below w.heap.size w w' := by
  obtain ⟨n, rfl⟩ := h
  exact below_drewN (Below.refl _ _) n
theorem owns_keep {w w' : World} {base : Nat} {e : TypeId} {v : Value} {n : Nat} {xs : List Value} (h : w.ownsRow base e 1 v n xs) (hb : Below w.heap.size w w') : w'.ownsRow base e 1 v n xs := by
  refine h.kept (only_of_below hb none) ?_
  cases hv : v.ownBlock with
  | none => exact .inl rfl
  | some b => exact .inr (by simp)
theorem intInfo : (Tryz.prog.info? 3).map (fun i => (i.zero, i.size, i.bytes)) = some (some (.int .i64 0), 1, 8) := by kernel_rfl

set_option maxHeartbeats 8000000 in
set_option maxRecDepth 100000 in
theorem tokRead_1 (key : Int) (s : ByteArray) (W : World) (hs : s.size ≤ 1000) (hm : MaxL W) (hT : Tens W) (hv : ErrVars W) (x y t : List UInt8) (hL : parts 46 s.data.toList = [[114], x, y, t]) :
    Calls Tryz.prog 48 #[.int .i64 key, .string s] W (TokGot W (tokR (fun B => tagL key B) [[114], x, y, t])) := by
  have H := Lib.hid (tokRead_start key s W hs hm hT hv)
  have hlen : ∀ w ∈ [[114], x, y, t], w.length ≤ 1000 := by rw [← hL]; exact parts_word_len 46 _ _ (by rw [size_data]; exact hs)
  rw [hL] at H
  have hx : (txt x).size ≤ 1000000 := by rw [txt_size]; have := hlen x (by simp); omega
  have hy : (txt y).size ≤ 1000000 := by rw [txt_size]; have := hlen y (by simp); omega
  have ht : t.length ≤ 1000 := hlen t (by simp)
  obtain ⟨i0, hi, hz0, hz1, hz2⟩ := info_parts intInfo
  have e1 : ((txt [114]).toList == [97]) = false := by rw [toList_txt]; decide
  have e2 : ((txt [114]).toList == [114]) = true := by rw [toList_txt]; decide
  have lten := hT.lt
  clear hm hT hv hL hlen
  go_enter Tryz.func48, Tryz.ntmps48
  go_wp2_with fail
  go_at_call 93
  refine H.out.mono ?_
  rintro e w1 ⟨v, rfl, h⟩
  obtain ⟨g, cap, rfl, hcap, hmax, hg1, hg2, hrl, hcells, _, _, _, _, _⟩ := h.facts
  have HTK := Lib.hid (TK.start h hg1 hg2 1)
  have hc0 := hcells 0 (by simp)
  clear h hcells
  simp only [List.length_cons, List.length_nil, Nat.zero_add, Nat.reduceAdd, List.getD_cons_zero] at hc0 hcap
  generalize txt [114] = rr at *
  go_wp2_with fail
  have hB0 : w1.heap.size + 1 = (w1.alloc (.cells #[.int .i64 1, .int .i64 0, .int .i64 0, .int .i64 0] 104)).heap.size := by simp
  generalize w1.alloc (.cells #[.int .i64 1, .int .i64 0, .int .i64 0, .int .i64 0] 104) = w2 at *
  have n1 := HTK.out.ne1
  have n2 := HTK.out.ne2
  have n3 := HTK.out.ne3
  clear hc0 hg1 hg2
  generalize w1.heap.size = tb at *
  obtain ⟨hcs, ⟨r0, r1, r2, r3⟩, ⟨f0, f1, f2, f3⟩, ⟨k0, k1, k2, k3⟩, ⟨q0, q1, q2, q3⟩, lg, lt, lW⟩ := HTK.out.facts
  refine wp_loop_rounds 3 ?_
  have hc := hcs 1 (by simp)
  simp at hc
  clear hcs
  rw [rounds_succ]
  go_wp2_with fail
  go_at_call 94
  refine (number_c (txt x) _ hx HTK.out.tr.tens HTK.out.tr.errs).mono ?_
  rintro e wa0 ⟨rfl, hb⟩
  rw [data_txt]
  have HA0 := Lib.hid (HTK.out.keep' hb)
  clear r0 r1 r2 r3 f0 f1 f2 f3 k0 k1 k2 k3 q0 q1 q2 q3 lg lt lW
  clear hc hb
  obtain ⟨hcs, ⟨r0, r1, r2, r3⟩, ⟨f0, f1, f2, f3⟩, ⟨k0, k1, k2, k3⟩, ⟨q0, q1, q2, q3⟩, lg, lt, lW⟩ := HA0.out.facts
  cases hnx : numB x
  · clear hcs
    go_wp2_with fail
    rw [show tokR (fun B => tagL key B) [[114], x, y, t] = (3, 0, 0, 0, 0) from tokR_none (by simp [tokP, hnx])]
    exact tok_end (four_below HA0.out.tr.below (.int .i64 0) (.int .i64 0) (.int .i64 0) (.int .i64 0)) (four_sets HA0.out.tr.res (.int .i64 0) (.int .i64 0) (.int .i64 0) (.int .i64 0)) rfl rfl rfl
  · have HNx := Lib.hid hnx
    clear hnx
    have HCS := Lib.hid hcs
    clear hcs
    go_wp2_with
      (at_builtin; refine wpList_append_own _ rfl _ _ 22 rfl (tb + 1) 3 i0 (.int .i64 0) 1 8 Tryz.underlying22 hi hz0 hz1 hz2 rfl (by decide) _ 0 [] rfl (World.ownsRow_nil _ _ _ _) ⟨wa0.heap.size, 0, none⟩ 1 1 [.int .i64 (atoiN x)] rfl rfl (cell_one_new _ _ _) (fun u hu => by simp at hu; subst hu; rfl) (by unfold maxLen; omega) (by omega) (by have := HA0.out.hB; simp; omega) ?_; intro v0 wb0 hown' hgrow hnil
       have HO0 := Lib.hid hown'
       have HB0 := Lib.hid ((HA0.out.keep' ((Below.refl _ _).alloc (Nat.le_refl _) _)).grown hgrow (fun i hi => by cases hi))
       clear hown' hgrow hnil)
    clear HCS
    clear r0 r1 r2 r3 f0 f1 f2 f3 k0 k1 k2 k3 q0 q1 q2 q3 lg lt lW
    obtain ⟨hcs, ⟨r0, r1, r2, r3⟩, ⟨f0, f1, f2, f3⟩, ⟨k0, k1, k2, k3⟩, ⟨q0, q1, q2, q3⟩, lg, lt, lW⟩ := HB0.out.facts
    have hc := hcs 2 (by simp)
    simp at hc
    clear hcs
    rw [rounds_succ]
    go_wp2_with fail
    go_at_call 94
    refine (number_c (txt y) _ hy HB0.out.tr.tens HB0.out.tr.errs).mono ?_
    rintro e wa1 ⟨rfl, hb⟩
    rw [data_txt]
    have HA1 := Lib.hid (HB0.out.keep' hb)
    have hown := owns_keep HO0.out hb
    clear r0 r1 r2 r3 f0 f1 f2 f3 k0 k1 k2 k3 q0 q1 q2 q3 lg lt lW
    clear hc hb
    obtain ⟨hcs, ⟨r0, r1, r2, r3⟩, ⟨f0, f1, f2, f3⟩, ⟨k0, k1, k2, k3⟩, ⟨q0, q1, q2, q3⟩, lg, lt, lW⟩ := HA1.out.facts
    cases hny : numB y
    · clear hcs
      go_wp2_with fail
      rw [show tokR (fun B => tagL key B) [[114], x, y, t] = (3, 0, 0, 0, 0) from tokR_none (by simp [tokP, HNx.out, hny])]
      exact tok_end (four_below HA1.out.tr.below (.int .i64 0) (.int .i64 0) (.int .i64 0) (.int .i64 0)) (four_sets HA1.out.tr.res (.int .i64 0) (.int .i64 0) (.int .i64 0) (.int .i64 0)) rfl rfl rfl
    · have HNy := Lib.hid hny
      have hownB := hown.lt
      clear hny
      have HCS := Lib.hid hcs
      clear hcs
      go_wp2_with
        (at_builtin; refine wpList_append_own _ rfl _ _ 22 rfl (tb + 1) 3 i0 (.int .i64 0) 1 8 Tryz.underlying22 hi hz0 hz1 hz2 rfl (by decide) _ 1 [.int .i64 (atoiN x)] rfl (hown.alloc _) ⟨wa1.heap.size, 0, none⟩ 1 1 [.int .i64 (atoiN y)] rfl rfl (cell_one_new _ _ _) (fun u hu => by simp at hu; subst hu; rfl) (by unfold maxLen; omega) (by omega) (by have := HA1.out.hB; simp; omega) ?_; intro v1 wb1 hown' hgrow hnil
         have HO1 := Lib.hid hown'
         have HB1 := Lib.hid ((HA1.out.keep' ((Below.refl _ _).alloc (Nat.le_refl _) _)).grown hgrow (fun i hi => (hownB i hi).1))
         clear hown' hgrow hnil)
      clear HCS
      clear r0 r1 r2 r3 f0 f1 f2 f3 k0 k1 k2 k3 q0 q1 q2 q3 lg lt lW
      obtain ⟨hcs, ⟨r0, r1, r2, r3⟩, ⟨f0, f1, f2, f3⟩, ⟨k0, k1, k2, k3⟩, ⟨q0, q1, q2, q3⟩, lg, lt, lW⟩ := HB1.out.facts
      clear hownB
      rw [rounds_succ]
      have hc := hcs 3 (by simp)
      simp at hc
      clear hcs
      have hts := txt_size t
      have HTT := Lib.hid (data_txt t)
      have HTR1 := Lib.hid (fun (w : World) (hh : t.all (hexD.contains ·) = true) => (trim_set ⟨#[48, 49, 50, 51, 52, 53, 54, 55, 56, 57, 97, 98, 99, 100, 101, 102]⟩ (txt t) w (by omega) (by decide) (ascii_of_all (by decide))).1 (by rw [data_txt]; exact hh))
      have HTR2 := Lib.hid (fun (w : World) (hh : t.all (hexD.contains ·) = false) => (trim_set ⟨#[48, 49, 50, 51, 52, 53, 54, 55, 56, 57, 97, 98, 99, 100, 101, 102]⟩ (txt t) w (by omega) (by decide) (ascii_of_all (by decide))).2 (by rw [data_txt]; exact hh))
      generalize txt t = TT at *
      by_cases h16 : t.length = 16
      · have e16 : ((TT.size : Int) != 16) = false := by simp; omega
        have H16 := Lib.hid h16
        clear hts
        cases hhex : t.all (hexD.contains ·)
        · have HT := Lib.hid (fun w => HTR2.out w hhex)
          have HX := Lib.hid hhex
          clear hhex HTR1 HTR2
          go_wp2_with
            (go_at_call 46; refine (HT.out _).mono ?_; rintro e wc ⟨⟨z, rfl, hz⟩, hb⟩
             have HC := Lib.hid (HB1.out.keep' hb)
             clear r0 r1 r2 r3 f0 f1 f2 f3 k0 k1 k2 k3 q0 q1 q2 q3 lg lt lW
             clear hb
             obtain ⟨_, ⟨r0, r1, r2, r3⟩, ⟨f0, f1, f2, f3⟩, _, _, _, _, lW⟩ := HC.out.facts)
          rw [tokR_1 HNx.out HNy.out, if_neg (tagB_no2 HX.out)]
          exact tok_end (four_below HC.out.tr.below (.int .i64 0) (.int .i64 0) (.int .i64 0) (.int .i64 0)) (four_sets HC.out.tr.res (.int .i64 0) (.int .i64 0) (.int .i64 0) (.int .i64 0)) rfl rfl rfl
        · have HT := Lib.hid (fun w => HTR1.out w hhex)
          have HX := Lib.hid hhex
          clear hhex HTR1 HTR2
          have hown := HO1.out
          have HOO := HO1
          go_wp2_with
            (go_at_call 46; refine (HT.out _).mono ?_; rintro e wc ⟨rfl, hb⟩
             have HC := Lib.hid (HB1.out.keep' hb)
             have HO := Lib.hid (owns_keep HOO.out hb)
             clear r0 r1 r2 r3 f0 f1 f2 f3 k0 k1 k2 k3 q0 q1 q2 q3 lg lt lW
             clear hb
             obtain ⟨hcs, ⟨r0, r1, r2, r3⟩, ⟨f0, f1, f2, f3⟩, ⟨k0, k1, k2, k3⟩, ⟨q0, q1, q2, q3⟩, lg, lt, lW⟩ := HC.out.facts
             clear hcs)
          rcases HO.out.2 with ⟨_, e0⟩ | ⟨gn, capn, cur, rfl, hgn, hbn, hn1, hn2, hn3, hn4⟩
          · cases e0
          have c0 := HO.out.cellAt 0 (by omega)
          have c1 := HO.out.cellAt 1 (by omega)
          simp at c0 c1
          have lgn : gn < wc.heap.size := Blk.lt (t := 3) (cs := cur) hbn
          have gnt : tb ≠ gn := by omega
          have gnt' : gn ≠ tb := by omega
          clear hbn hn4
          have HTE := Lib.hid (TE.of_tk HC.out (by omega) lten)
          go_region
          go_wp2_with fail
          have HT4 : Hid (TE W tb #[.int .i64 1, .int .i64 (atoiN x), .int .i64 (atoiN y), .int .i64 0] (((wc.setCell ⟨tb, 1, none⟩ (.int .i64 (atoiN x))).setCell ⟨tb, 2, none⟩ (.int .i64 (atoiN y))).drew)) := Lib.hid (TE.drew ((HTE.out.set 1 (.int .i64 (atoiN x))).set 2 (.int .i64 (atoiN y))))
          generalize (((wc.setCell ⟨tb, 1, none⟩ (.int .i64 (atoiN x))).setCell ⟨tb, 2, none⟩ (.int .i64 (atoiN y))).drew) = w4 at *
          clear r0 r1 r2 r3 f0 f1 f2 f3 k0 k1 k2 k3 q0 q1 q2 q3 lg lt lW HTE HC HO
          clear c0 c1 lgn gnt gnt'
          have hrt := right_1 HNx.out HNy.out
          have HBD := Lib.hid (token_body 1 (atoiN x) (atoiN y) 0 w4 HT4.out.tens hrt)
          unfold v4 at HBD
          have hbs := bodyS_size _ _ _ _ hrt
          clear hrt
          have HBE := Lib.hid (bodyS_1 HNx.out HNy.out)
          have HTG := Lib.hid (fun w => mac_tagS key (bodyS 1 (atoiN x) (atoiN y) 0) w (by omega))
          have hsz := tagS_size key (bodyS 1 (atoiN x) (atoiN y) 0)
          have hts2 : TT.size ≤ 1000000 := by have := congrArg List.length HTT.out; rw [size_data] at this; omega
          have HSM := Lib.hid (fun w => mac_same TT (tagS key (bodyS 1 (atoiN x) (atoiN y) 0)) w hts2 (by omega))
          have HEQ := Lib.hid (tag_eq key HTT.out HBE.out)
          clear hbs hsz hts2
          generalize bodyS 1 (atoiN x) (atoiN y) 0 = BS at *
          generalize tagS key BS = TG at *
          go_at_call 96
          refine HBD.out.mono ?_
          rintro e w5 ⟨rfl, hb5⟩
          have HT5 := Lib.hid (HT4.out.keep hb5)
          clear hb5
          go_wp2_with fail
          go_at_call 76
          refine (HTG.out _).mono ?_
          rintro e w6 ⟨rfl, hb6⟩
          have HT6 := Lib.hid (HT5.out.keep hb6)
          clear hb6
          go_wp2_with fail
          go_at_call 95
          refine (HSM.out _).mono ?_
          rintro e w7 ⟨rfl, hb7⟩
          have HT7 := Lib.hid (HT6.out.keep (same_below hb7))
          clear hb7
          obtain ⟨⟨r0, r1, r2, r3⟩, ⟨f0, f1, f2, f3⟩, ⟨k0, k1, k2, k3⟩, lW, lt⟩ := HT7.out.facts
          cases hq : decide (TT = TG)
          · have HQ := Lib.hid hq
            have hne := HEQ.out
            rw [hq] at hne
            clear hq
            have HNE := Lib.hid hne
            clear hne
            go_wp2_with fail
            rw [tokR_1 HNx.out HNy.out, if_pos (tagB_yes H16.out HX.out), if_neg (by simpa using HNE.out)]
            exact tok_end (four_below HT7.out.below (.int .i64 0) (.int .i64 0) (.int .i64 0) (.int .i64 0)) (four_sets HT7.out.res (.int .i64 0) (.int .i64 0) (.int .i64 0) (.int .i64 0)) rfl rfl rfl
          · have HQ := Lib.hid hq
            have hne := HEQ.out
            rw [hq] at hne
            clear hq
            have HNE := Lib.hid hne
            clear hne
            go_wp2_with fail
            rw [tokR_1 HNx.out HNy.out, if_pos (tagB_yes H16.out HX.out), if_pos (by simpa using HNE.out)]
            exact tok_end (four_below HT7.out.below _ _ _ _) (four_sets HT7.out.res _ _ _ _) rfl rfl rfl
      · have e16 : ((TT.size : Int) != 16) = true := by simp; omega
        clear hts
        have H16 := Lib.hid h16
        clear h16
        go_wp2_with fail
        rw [show tokR (fun B => tagL key B) [[114], x, y, t] = (3, 0, 0, 0, 0) from by rw [tokR_1 HNx.out HNy.out, if_neg (tagB_no1 H16.out)]]
        exact tok_end (four_below HB1.out.tr.below (.int .i64 0) (.int .i64 0) (.int .i64 0) (.int .i64 0)) (four_sets HB1.out.tr.res (.int .i64 0) (.int .i64 0) (.int .i64 0) (.int .i64 0)) rfl rfl rfl
end Go.Proofs.YtckohmhhcknmaaaGreatDoor

/-
  token.Read at an access token.
-/
namespace Go.Proofs.YtckohmhhcknmaaaGreatDoor
open Go.RowKit Go.Sort

set_option maxHeartbeats 8000000 in
set_option maxRecDepth 100000 in
theorem tokRead_2 (key : Int) (s : ByteArray) (W : World) (hs : s.size ≤ 1000) (hm : MaxL W) (hT : Tens W) (hv : ErrVars W) (x y z t : List UInt8) (hL : parts 46 s.data.toList = [[97], x, y, z, t]) :
    Calls Tryz.prog 48 #[.int .i64 key, .string s] W (TokGot W (tokR (fun B => tagL key B) [[97], x, y, z, t])) := by
  have H := Lib.hid (tokRead_start key s W hs hm hT hv)
  have hlen : ∀ w ∈ [[97], x, y, z, t], w.length ≤ 1000 := by rw [← hL]; exact parts_word_len 46 _ _ (by rw [size_data]; exact hs)
  rw [hL] at H
  have hx : (txt x).size ≤ 1000000 := by rw [txt_size]; have := hlen x (by simp); omega
  have hy : (txt y).size ≤ 1000000 := by rw [txt_size]; have := hlen y (by simp); omega
  have hz : (txt z).size ≤ 1000000 := by rw [txt_size]; have := hlen z (by simp); omega
  have ht : t.length ≤ 1000 := hlen t (by simp)
  obtain ⟨i0, hi, hz0, hz1, hz2⟩ := info_parts intInfo
  have e1 : ((txt [97]).toList == [97]) = true := by rw [toList_txt]; decide
  have lten := hT.lt
  clear hm hT hv hL hlen
  go_enter Tryz.func48, Tryz.ntmps48
  go_wp2_with fail
  go_at_call 93
  refine H.out.mono ?_
  rintro e w1 ⟨v, rfl, h⟩
  obtain ⟨g, cap, rfl, hcap, hmax, hg1, hg2, hrl, hcells, _, _, _, _, _⟩ := h.facts
  have HTK := Lib.hid (TK.start h hg1 hg2 2)
  have hc0 := hcells 0 (by simp)
  clear h hcells
  simp only [List.length_cons, List.length_nil, Nat.zero_add, Nat.reduceAdd, List.getD_cons_zero] at hc0 hcap
  generalize txt [97] = rr at *
  go_wp2_with fail
  have hB0 : w1.heap.size + 1 = (w1.alloc (.cells #[.int .i64 2, .int .i64 0, .int .i64 0, .int .i64 0] 104)).heap.size := by simp
  generalize w1.alloc (.cells #[.int .i64 2, .int .i64 0, .int .i64 0, .int .i64 0] 104) = w2 at *
  have n1 := HTK.out.ne1
  have n2 := HTK.out.ne2
  have n3 := HTK.out.ne3
  clear hc0 hg1 hg2
  generalize w1.heap.size = tb at *
  obtain ⟨hcs, ⟨r0, r1, r2, r3⟩, ⟨f0, f1, f2, f3⟩, ⟨k0, k1, k2, k3⟩, ⟨q0, q1, q2, q3⟩, lg, lt, lW⟩ := HTK.out.facts
  refine wp_loop_rounds 4 ?_
  have hc := hcs 1 (by simp)
  simp at hc
  clear hcs
  rw [rounds_succ]
  go_wp2_with fail
  go_at_call 94
  refine (number_c (txt x) _ hx HTK.out.tr.tens HTK.out.tr.errs).mono ?_
  rintro e wa0 ⟨rfl, hb⟩
  rw [data_txt]
  have HA0 := Lib.hid (HTK.out.keep' hb)
  clear r0 r1 r2 r3 f0 f1 f2 f3 k0 k1 k2 k3 q0 q1 q2 q3 lg lt lW
  clear hc hb
  obtain ⟨hcs, ⟨r0, r1, r2, r3⟩, ⟨f0, f1, f2, f3⟩, ⟨k0, k1, k2, k3⟩, ⟨q0, q1, q2, q3⟩, lg, lt, lW⟩ := HA0.out.facts
  cases hnx : numB x
  · clear hcs
    go_wp2_with fail
    rw [show tokR (fun B => tagL key B) [[97], x, y, z, t] = (3, 0, 0, 0, 0) from tokR_none (by simp [tokP, hnx])]
    exact tok_end (four_below HA0.out.tr.below (.int .i64 0) (.int .i64 0) (.int .i64 0) (.int .i64 0)) (four_sets HA0.out.tr.res (.int .i64 0) (.int .i64 0) (.int .i64 0) (.int .i64 0)) rfl rfl rfl
  · have HNx := Lib.hid hnx
    clear hnx
    have HCS := Lib.hid hcs
    clear hcs
    go_wp2_with
      (at_builtin; refine wpList_append_own _ rfl _ _ 22 rfl (tb + 1) 3 i0 (.int .i64 0) 1 8 Tryz.underlying22 hi hz0 hz1 hz2 rfl (by decide) _ 0 [] rfl (World.ownsRow_nil _ _ _ _) ⟨wa0.heap.size, 0, none⟩ 1 1 [.int .i64 (atoiN x)] rfl rfl (cell_one_new _ _ _) (fun u hu => by simp at hu; subst hu; rfl) (by unfold maxLen; omega) (by omega) (by have := HA0.out.hB; simp; omega) ?_; intro v0 wb0 hown' hgrow hnil
       have HO0 := Lib.hid hown'
       have HB0 := Lib.hid ((HA0.out.keep' ((Below.refl _ _).alloc (Nat.le_refl _) _)).grown hgrow (fun i hi => by cases hi))
       clear hown' hgrow hnil)
    clear HCS
    clear r0 r1 r2 r3 f0 f1 f2 f3 k0 k1 k2 k3 q0 q1 q2 q3 lg lt lW
    obtain ⟨hcs, ⟨r0, r1, r2, r3⟩, ⟨f0, f1, f2, f3⟩, ⟨k0, k1, k2, k3⟩, ⟨q0, q1, q2, q3⟩, lg, lt, lW⟩ := HB0.out.facts
    have hc := hcs 2 (by simp)
    simp at hc
    clear hcs
    rw [rounds_succ]
    go_wp2_with fail
    go_at_call 94
    refine (number_c (txt y) _ hy HB0.out.tr.tens HB0.out.tr.errs).mono ?_
    rintro e wa1 ⟨rfl, hb⟩
    rw [data_txt]
    have HA1 := Lib.hid (HB0.out.keep' hb)
    have hown := owns_keep HO0.out hb
    clear r0 r1 r2 r3 f0 f1 f2 f3 k0 k1 k2 k3 q0 q1 q2 q3 lg lt lW
    clear hc hb
    obtain ⟨hcs, ⟨r0, r1, r2, r3⟩, ⟨f0, f1, f2, f3⟩, ⟨k0, k1, k2, k3⟩, ⟨q0, q1, q2, q3⟩, lg, lt, lW⟩ := HA1.out.facts
    cases hny : numB y
    · clear hcs
      go_wp2_with fail
      rw [show tokR (fun B => tagL key B) [[97], x, y, z, t] = (3, 0, 0, 0, 0) from tokR_none (by simp [tokP, HNx.out, hny])]
      exact tok_end (four_below HA1.out.tr.below (.int .i64 0) (.int .i64 0) (.int .i64 0) (.int .i64 0)) (four_sets HA1.out.tr.res (.int .i64 0) (.int .i64 0) (.int .i64 0) (.int .i64 0)) rfl rfl rfl
    · have HNy := Lib.hid hny
      have hownB := hown.lt
      clear hny
      have HCS := Lib.hid hcs
      clear hcs
      go_wp2_with
        (at_builtin; refine wpList_append_own _ rfl _ _ 22 rfl (tb + 1) 3 i0 (.int .i64 0) 1 8 Tryz.underlying22 hi hz0 hz1 hz2 rfl (by decide) _ 1 [.int .i64 (atoiN x)] rfl (hown.alloc _) ⟨wa1.heap.size, 0, none⟩ 1 1 [.int .i64 (atoiN y)] rfl rfl (cell_one_new _ _ _) (fun u hu => by simp at hu; subst hu; rfl) (by unfold maxLen; omega) (by omega) (by have := HA1.out.hB; simp; omega) ?_; intro v1 wb1 hown' hgrow hnil
         have HO1 := Lib.hid hown'
         have HB1 := Lib.hid ((HA1.out.keep' ((Below.refl _ _).alloc (Nat.le_refl _) _)).grown hgrow (fun i hi => (hownB i hi).1))
         clear hown' hgrow hnil)
      clear HCS
      clear r0 r1 r2 r3 f0 f1 f2 f3 k0 k1 k2 k3 q0 q1 q2 q3 lg lt lW
      obtain ⟨hcs, ⟨r0, r1, r2, r3⟩, ⟨f0, f1, f2, f3⟩, ⟨k0, k1, k2, k3⟩, ⟨q0, q1, q2, q3⟩, lg, lt, lW⟩ := HB1.out.facts
      clear hownB
      have hc := hcs 3 (by simp)
      simp at hc
      clear hcs
      rw [rounds_succ]
      go_wp2_with fail
      go_at_call 94
      refine (number_c (txt z) _ hz HB1.out.tr.tens HB1.out.tr.errs).mono ?_
      rintro e wa2 ⟨rfl, hb⟩
      rw [data_txt]
      have HA2 := Lib.hid (HB1.out.keep' hb)
      have hown := owns_keep HO1.out hb
      clear r0 r1 r2 r3 f0 f1 f2 f3 k0 k1 k2 k3 q0 q1 q2 q3 lg lt lW
      clear hc hb
      obtain ⟨hcs, ⟨r0, r1, r2, r3⟩, ⟨f0, f1, f2, f3⟩, ⟨k0, k1, k2, k3⟩, ⟨q0, q1, q2, q3⟩, lg, lt, lW⟩ := HA2.out.facts
      cases hnz : numB z
      · clear hcs
        go_wp2_with fail
        rw [show tokR (fun B => tagL key B) [[97], x, y, z, t] = (3, 0, 0, 0, 0) from tokR_none (by simp [tokP, HNx.out, HNy.out, hnz])]
        exact tok_end (four_below HA2.out.tr.below (.int .i64 0) (.int .i64 0) (.int .i64 0) (.int .i64 0)) (four_sets HA2.out.tr.res (.int .i64 0) (.int .i64 0) (.int .i64 0) (.int .i64 0)) rfl rfl rfl
      · have HNz := Lib.hid hnz
        have hownB := hown.lt
        clear hnz
        have HCS := Lib.hid hcs
        clear hcs
        go_wp2_with
          (at_builtin; refine wpList_append_own _ rfl _ _ 22 rfl (tb + 1) 3 i0 (.int .i64 0) 1 8 Tryz.underlying22 hi hz0 hz1 hz2 rfl (by decide) _ 2 [.int .i64 (atoiN x), .int .i64 (atoiN y)] rfl (hown.alloc _) ⟨wa2.heap.size, 0, none⟩ 1 1 [.int .i64 (atoiN z)] rfl rfl (cell_one_new _ _ _) (fun u hu => by simp at hu; subst hu; rfl) (by unfold maxLen; omega) (by omega) (by have := HA2.out.hB; simp; omega) ?_; intro v2 wb2 hown' hgrow hnil
           have HO2 := Lib.hid hown'
           have HB2 := Lib.hid ((HA2.out.keep' ((Below.refl _ _).alloc (Nat.le_refl _) _)).grown hgrow (fun i hi => (hownB i hi).1))
           clear hown' hgrow hnil)
        clear HCS
        clear r0 r1 r2 r3 f0 f1 f2 f3 k0 k1 k2 k3 q0 q1 q2 q3 lg lt lW
        obtain ⟨hcs, ⟨r0, r1, r2, r3⟩, ⟨f0, f1, f2, f3⟩, ⟨k0, k1, k2, k3⟩, ⟨q0, q1, q2, q3⟩, lg, lt, lW⟩ := HB2.out.facts
        clear hownB
        rw [rounds_succ]
        have hc := hcs 4 (by simp)
        simp at hc
        clear hcs
        have hts := txt_size t
        have HTT := Lib.hid (data_txt t)
        have HTR1 := Lib.hid (fun (w : World) (hh : t.all (hexD.contains ·) = true) => (trim_set ⟨#[48, 49, 50, 51, 52, 53, 54, 55, 56, 57, 97, 98, 99, 100, 101, 102]⟩ (txt t) w (by omega) (by decide) (ascii_of_all (by decide))).1 (by rw [data_txt]; exact hh))
        have HTR2 := Lib.hid (fun (w : World) (hh : t.all (hexD.contains ·) = false) => (trim_set ⟨#[48, 49, 50, 51, 52, 53, 54, 55, 56, 57, 97, 98, 99, 100, 101, 102]⟩ (txt t) w (by omega) (by decide) (ascii_of_all (by decide))).2 (by rw [data_txt]; exact hh))
        generalize txt t = TT at *
        by_cases h16 : t.length = 16
        · have e16 : ((TT.size : Int) != 16) = false := by simp; omega
          have H16 := Lib.hid h16
          clear hts
          cases hhex : t.all (hexD.contains ·)
          · have HT := Lib.hid (fun w => HTR2.out w hhex)
            have HX := Lib.hid hhex
            clear hhex HTR1 HTR2
            go_wp2_with
              (go_at_call 46; refine (HT.out _).mono ?_; rintro e wc ⟨⟨z, rfl, hz⟩, hb⟩
               have HC := Lib.hid (HB2.out.keep' hb)
               clear r0 r1 r2 r3 f0 f1 f2 f3 k0 k1 k2 k3 q0 q1 q2 q3 lg lt lW
               clear hb
               obtain ⟨_, ⟨r0, r1, r2, r3⟩, ⟨f0, f1, f2, f3⟩, _, _, _, _, lW⟩ := HC.out.facts)
            rw [tokR_2 HNx.out HNy.out HNz.out, if_neg (tagB_no2 HX.out)]
            exact tok_end (four_below HC.out.tr.below (.int .i64 0) (.int .i64 0) (.int .i64 0) (.int .i64 0)) (four_sets HC.out.tr.res (.int .i64 0) (.int .i64 0) (.int .i64 0) (.int .i64 0)) rfl rfl rfl
          · have HT := Lib.hid (fun w => HTR1.out w hhex)
            have HX := Lib.hid hhex
            clear hhex HTR1 HTR2
            have hown := HO2.out
            have HOO := HO2
            go_wp2_with
              (go_at_call 46; refine (HT.out _).mono ?_; rintro e wc ⟨rfl, hb⟩
               have HC := Lib.hid (HB2.out.keep' hb)
               have HO := Lib.hid (owns_keep HOO.out hb)
               clear r0 r1 r2 r3 f0 f1 f2 f3 k0 k1 k2 k3 q0 q1 q2 q3 lg lt lW
               clear hb
               obtain ⟨hcs, ⟨r0, r1, r2, r3⟩, ⟨f0, f1, f2, f3⟩, ⟨k0, k1, k2, k3⟩, ⟨q0, q1, q2, q3⟩, lg, lt, lW⟩ := HC.out.facts
               clear hcs)
            rcases HO.out.2 with ⟨_, e0⟩ | ⟨gn, capn, cur, rfl, hgn, hbn, hn1, hn2, hn3, hn4⟩
            · cases e0
            have c0 := HO.out.cellAt 0 (by omega)
            have c1 := HO.out.cellAt 1 (by omega)
            have c2 := HO.out.cellAt 2 (by omega)
            simp at c0 c1 c2
            have lgn : gn < wc.heap.size := Blk.lt (t := 3) (cs := cur) hbn
            have gnt : tb ≠ gn := by omega
            have gnt' : gn ≠ tb := by omega
            clear hbn hn4
            have HTE := Lib.hid (TE.of_tk HC.out (by omega) lten)
            go_region
            go_wp2_with fail
            have HT4 : Hid (TE W tb #[.int .i64 2, .int .i64 (atoiN x), .int .i64 (atoiN y), .int .i64 (atoiN z)] (((wc.setCell ⟨tb, 1, none⟩ (.int .i64 (atoiN x))).setCell ⟨tb, 2, none⟩ (.int .i64 (atoiN y))).setCell ⟨tb, 3, none⟩ (.int .i64 (atoiN z))).drew) := Lib.hid (TE.drew (((HTE.out.set 1 (.int .i64 (atoiN x))).set 2 (.int .i64 (atoiN y))).set 3 (.int .i64 (atoiN z))))
            generalize (((wc.setCell ⟨tb, 1, none⟩ (.int .i64 (atoiN x))).setCell ⟨tb, 2, none⟩ (.int .i64 (atoiN y))).setCell ⟨tb, 3, none⟩ (.int .i64 (atoiN z))).drew = w4 at *
            clear r0 r1 r2 r3 f0 f1 f2 f3 k0 k1 k2 k3 q0 q1 q2 q3 lg lt lW HTE HC HO
            clear c0 c1 c2 lgn gnt gnt'
            have hrt := right_2 HNx.out HNy.out HNz.out
            have HBD := Lib.hid (token_body 2 (atoiN x) (atoiN y) (atoiN z) w4 HT4.out.tens hrt)
            unfold v4 at HBD
            have hbs := bodyS_size _ _ _ _ hrt
            clear hrt
            have HBE := Lib.hid (bodyS_2 HNx.out HNy.out HNz.out)
            have HTG := Lib.hid (fun w => mac_tagS key (bodyS 2 (atoiN x) (atoiN y) (atoiN z)) w (by omega))
            have hsz := tagS_size key (bodyS 2 (atoiN x) (atoiN y) (atoiN z))
            have hts2 : TT.size ≤ 1000000 := by have := congrArg List.length HTT.out; rw [size_data] at this; omega
            have HSM := Lib.hid (fun w => mac_same TT (tagS key (bodyS 2 (atoiN x) (atoiN y) (atoiN z))) w hts2 (by omega))
            have HEQ := Lib.hid (tag_eq key HTT.out HBE.out)
            clear hbs hsz hts2
            generalize bodyS 2 (atoiN x) (atoiN y) (atoiN z) = BS at *
            generalize tagS key BS = TG at *
            go_at_call 96
            refine HBD.out.mono ?_
            rintro e w5 ⟨rfl, hb5⟩
            have HT5 := Lib.hid (HT4.out.keep hb5)
            clear hb5
            go_wp2_with fail
            go_at_call 76
            refine (HTG.out _).mono ?_
            rintro e w6 ⟨rfl, hb6⟩
            have HT6 := Lib.hid (HT5.out.keep hb6)
            clear hb6
            go_wp2_with fail
            go_at_call 95
            refine (HSM.out _).mono ?_
            rintro e w7 ⟨rfl, hb7⟩
            have HT7 := Lib.hid (HT6.out.keep (same_below hb7))
            clear hb7
            obtain ⟨⟨r0, r1, r2, r3⟩, ⟨f0, f1, f2, f3⟩, ⟨k0, k1, k2, k3⟩, lW, lt⟩ := HT7.out.facts
            cases hq : decide (TT = TG)
            · have HQ := Lib.hid hq
              have hne := HEQ.out
              rw [hq] at hne
              clear hq
              have HNE := Lib.hid hne
              clear hne
              go_wp2_with fail
              rw [tokR_2 HNx.out HNy.out HNz.out, if_pos (tagB_yes H16.out HX.out), if_neg (by simpa using HNE.out)]
              exact tok_end (four_below HT7.out.below (.int .i64 0) (.int .i64 0) (.int .i64 0) (.int .i64 0)) (four_sets HT7.out.res (.int .i64 0) (.int .i64 0) (.int .i64 0) (.int .i64 0)) rfl rfl rfl
            · have HQ := Lib.hid hq
              have hne := HEQ.out
              rw [hq] at hne
              clear hq
              have HNE := Lib.hid hne
              clear hne
              go_wp2_with fail
              rw [tokR_2 HNx.out HNy.out HNz.out, if_pos (tagB_yes H16.out HX.out), if_pos (by simpa using HNE.out)]
              exact tok_end (four_below HT7.out.below _ _ _ _) (four_sets HT7.out.res _ _ _ _) rfl rfl rfl
        · have e16 : ((TT.size : Int) != 16) = true := by simp; omega
          clear hts
          have H16 := Lib.hid h16
          clear h16
          go_wp2_with fail
          rw [show tokR (fun B => tagL key B) [[97], x, y, z, t] = (3, 0, 0, 0, 0) from by rw [tokR_2 HNx.out HNy.out HNz.out, if_neg (tagB_no1 H16.out)]]
          exact tok_end (four_below HB2.out.tr.below (.int .i64 0) (.int .i64 0) (.int .i64 0) (.int .i64 0)) (four_sets HB2.out.tr.res (.int .i64 0) (.int .i64 0) (.int .i64 0) (.int .i64 0)) rfl rfl rfl
end Go.Proofs.YtckohmhhcknmaaaGreatDoor

/-
  token.Read: the token that any text is, or what is wrong with it.
-/
namespace Go.Proofs.YtckohmhhcknmaaaGreatDoor
open Go.RowKit Go.Sort

theorem token_read (key : Int) (s : ByteArray) (W : World) (hs : s.size ≤ 1000) (hm : MaxL W) (hT : Tens W) (hv : ErrVars W) :
    Calls Tryz.prog 48 #[.int .i64 key, .string s] W (TokGot W (tokR (fun B => tagL key B) (parts 46 s.data.toList))) := by
  by_cases h1 : (parts 46 s.data.toList).getD 0 [] = [97]
  · by_cases h2 : (parts 46 s.data.toList).length = 5
    · rcases e : parts 46 s.data.toList with _ | ⟨a, _ | ⟨b, _ | ⟨c, _ | ⟨d, _ | ⟨t, _ | ⟨u, r⟩⟩⟩⟩⟩⟩
      all_goals (rw [e] at h1 h2; simp at h1 h2)
      subst h1
      exact tokRead_2 key s W hs hm hT hv b c d t e
    · rw [tokR_none (tokP_len2 h1 h2)]
      exact tokRead_form key s W hs hm hT hv (.inr (.inl ⟨h1, h2⟩))
  · by_cases h3 : (parts 46 s.data.toList).getD 0 [] = [114]
    · by_cases h2 : (parts 46 s.data.toList).length = 4
      · rcases e : parts 46 s.data.toList with _ | ⟨a, _ | ⟨b, _ | ⟨c, _ | ⟨d, _ | ⟨u, r⟩⟩⟩⟩⟩
        all_goals (rw [e] at h3 h2; simp at h3 h2)
        subst h3
        exact tokRead_1 key s W hs hm hT hv b c d e
      · rw [tokR_none (tokP_len1 h3 h2)]
        exact tokRead_form key s W hs hm hT hv (.inr (.inr ⟨h3, h2⟩))
    · rw [tokR_none (tokP_kind h1 h3)]
      exact tokRead_form key s W hs hm hT hv (.inl ⟨h1, h3⟩)
end Go.Proofs.YtckohmhhcknmaaaGreatDoor
