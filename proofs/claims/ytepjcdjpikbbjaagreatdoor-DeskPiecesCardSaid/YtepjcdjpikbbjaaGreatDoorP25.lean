/-
  The desk's command new: a new disk, and all over it.
-/
import Derived.Test.YtepjcdjpikbbjaaGreatDoorP24
namespace Go.Proofs.YtepjcdjpikbbjaaGreatDoor
open Go.RowKit Go.Sort

/-- what is known while a new disk is made -/
structure fz0 (W w0 : World) (g off : Nat) (a b c e : List UInt8) (w : World) : Prop where
  below : Below W.heap.size W w
  since : Below w0.heap.size w0 w
  env : Env W.heap.size w
  wds : WAt w g off [a, b, c, e]
  err : ErrType W
  eg : 1 < W.heap.size
section
variable {W w0 w w' : World} {g off : Nat} {a b c e : List UInt8}
theorem fz0.keep (h : fz0 W w0 g off a b c e w) (hb : Below w.heap.size w w') : fz0 W w0 g off a b c e w' := ⟨below_2 h.below hb, below_2 h.since hb, h.env.new h.below.size hb, h.wds.keep hb, h.err, h.eg⟩
theorem fz0.alloc (h : fz0 W w0 g off a b c e w) (o : Obj) : fz0 W w0 g off a b c e (w.alloc o) := h.keep ((Below.refl _ _).alloc (Nat.le_refl _) o)
theorem fz0.put {q : Nat} (h : fz0 W w0 g off a b c e w) (hg : w.grownBy w' (some q)) (hq : w0.heap.size ≤ q) (hB : W.heap.size ≤ q) (hm : WAt w' g off [a, b, c, e]) : fz0 W w0 g off a b c e w' := ⟨h.below.grown hg h.below.size (fun i hi => by cases hi; exact hB), h.since.grown hg h.since.size (fun i hi => by cases hi; exact hq), h.env.keep ((Below.refl _ _).grown hg h.below.size (fun i hi => by cases hi; exact hB)), hm, h.err, h.eg⟩
theorem fz0.et (h : fz0 W w0 g off a b c e w) : ErrType w := h.err.below h.below h.eg
theorem fz0.elt (h : fz0 W w0 g off a b c e w) : 1 < w.heap.size := Nat.lt_of_lt_of_le h.eg h.below.size
theorem fz0.yes (h : fz0 W w0 g off a b c e w) {x : List UInt8} (hx : x.length ≤ 5000) (hn : numE x = true) : Calls Tryz.prog 18 #[.string (txt x)] w fun e w' => e = .returned (.int .i64 (atoiN x)) ∧ Below w.heap.size w w' := by
  have := dnum_yes (txt x) w (by rw [txt_size]; omega) h.env.tens (by rw [data_txt]; exact hn)
  rw [data_txt] at this
  exact this
theorem fz0.no (h : fz0 W w0 g off a b c e w) {x : List UInt8} (hx : x.length ≤ 5000) (hn : numE x = false) : Calls Tryz.prog 18 #[.string (txt x)] w fun e w' => e = .panicked (errP 3) ∧ Below w.heap.size w w' :=
  dnum_no (txt x) w (by rw [txt_size]; omega) h.env.tens h.env.errs h.et h.elt (by rw [data_txt]; exact hn)
end
/-- what is wrong with four words -/
def newC (a b c e : List UInt8) : Int := if (numE a && numE b && numE c && numE e) = true then (if ruB ⟨atoiN a, atoiN b, atoiN c, atoiN e⟩ = true then 0 else 2) else 3
theorem newC_3 {a b c e : List UInt8} (h : (numE a && numE b && numE c && numE e) = false) : newC a b c e = 3 := by
  unfold newC
  rw [h]
  rfl
def FreshE (W w : World) (xb : Nat) (a b c e : List UInt8) (x : Ending) (w' : World) : Prop :=
  (newC a b c e = 0 ∧ x = .returned (.string (txt newN)) ∧ (∃ vb sb db v, DKW W xb vb sb db 0 ⟨atoiN a, atoiN b, atoiN c, atoiN e⟩ newS v w') ∧ StayD w w') ∨ (newC a b c e ≠ 0 ∧ x = .panicked (errP (newC a b c e)) ∧ Below w.heap.size w w')
theorem FreshE.bad3 {W w w' : World} {xb : Nat} {a b c e : List UInt8} (h : (numE a && numE b && numE c && numE e) = false) (hb : Below w.heap.size w w') : FreshE W w xb a b c e (.panicked (errP 3)) w' := .inr ⟨by rw [newC_3 h]; decide, by rw [newC_3 h], hb⟩
theorem newC_ok {a b c e : List UInt8} (h0 : numE a = true) (h1 : numE b = true) (h2 : numE c = true) (h3 : numE e = true) : (ruB ⟨atoiN a, atoiN b, atoiN c, atoiN e⟩ = false ∧ newC a b c e = 2) ∨ (ruB ⟨atoiN a, atoiN b, atoiN c, atoiN e⟩ = true ∧ newC a b c e = 0) := by
  unfold newC
  rw [h0, h1, h2, h3]
  cases ruB ⟨atoiN a, atoiN b, atoiN c, atoiN e⟩
  · exact .inl ⟨rfl, rfl⟩
  · exact .inr ⟨rfl, rfl⟩
theorem FreshE.good {W w w8 w9 : World} {xb sb db vb g off : Nat} {v : Value} {x0 x1 x2 x3 x4 x5 x6 : Value} {a b c e : List UInt8} (hc : newC a b c e = 0) (h1 : Blk w9 xb 32 #[.pointer (some ⟨db, 0, none⟩), .pointer (some ⟨sb, 0, none⟩), .pointer (some ⟨vb, 0, none⟩), .int .i64 (atoiN a), .int .i64 (atoiN b), .int .i64 (atoiN c), .int .i64 (atoiN e)]) (h2 : w8.grownBy w9 (some xb))
    (hsw : SW W.heap.size vb sb db 0 ⟨atoiN a, atoiN b, atoiN c, atoiN e⟩ newS v w8) (hs : fz0 W w g off a b c e w8) (hx : Blk w8 xb 32 #[x0, x1, x2, x3, x4, x5, x6]) (hB : W.heap.size ≤ xb) : FreshE W w xb a b c e (.returned (.string (txt newN))) w9 :=
  .inl ⟨hc, rfl, ⟨vb, sb, db, v, h1, hsw.off_ h2 hx hB, hB, hs.below.grown h2 hs.below.size (fun i hi => by cases hi; exact hB), hs.err, hs.eg⟩, (StayD.of_below hs.since).trans (StayD.of_one h2 hx (by decide))⟩
theorem seven_put {w : World} {q : Nat} {T : TypeId} {x0 x1 x2 x3 x4 x5 x6 : Value} (h : Blk w q T #[x0, x1, x2, x3, x4, x5, x6]) (y0 y1 y2 y3 y4 y5 y6 : Value) : Blk (((((((w.setCell ⟨q, 0, none⟩ y0).setCell ⟨q, 1, none⟩ y1).setCell ⟨q, 2, none⟩ y2).setCell ⟨q, 3, none⟩ y3).setCell ⟨q, 4, none⟩ y4).setCell ⟨q, 5, none⟩ y5).setCell ⟨q, 6, none⟩ y6) q T #[y0, y1, y2, y3, y4, y5, y6] ∧
    w.grownBy (((((((w.setCell ⟨q, 0, none⟩ y0).setCell ⟨q, 1, none⟩ y1).setCell ⟨q, 2, none⟩ y2).setCell ⟨q, 3, none⟩ y3).setCell ⟨q, 4, none⟩ y4).setCell ⟨q, 5, none⟩ y5).setCell ⟨q, 6, none⟩ y6) (some q) := by
  have e0 := h.put_ 0 y0 (cs' := #[y0, x1, x2, x3, x4, x5, x6]) rfl
  have e1 := e0.put_ 1 y1 (cs' := #[y0, y1, x2, x3, x4, x5, x6]) rfl
  have e2 := e1.put_ 2 y2 (cs' := #[y0, y1, y2, x3, x4, x5, x6]) rfl
  have e3 := e2.put_ 3 y3 (cs' := #[y0, y1, y2, y3, x4, x5, x6]) rfl
  have e4 := e3.put_ 4 y4 (cs' := #[y0, y1, y2, y3, y4, x5, x6]) rfl
  have e5 := e4.put_ 5 y5 (cs' := #[y0, y1, y2, y3, y4, y5, x6]) rfl
  have e6 := e5.put_ 6 y6 (cs' := #[y0, y1, y2, y3, y4, y5, y6]) rfl
  refine ⟨e6, ?_⟩
  refine only_setCell ?_ (.inl rfl) _
  refine only_setCell ?_ (.inl rfl) _
  refine only_setCell ?_ (.inl rfl) _
  refine only_setCell ?_ (.inl rfl) _
  refine only_setCell ?_ (.inl rfl) _
  refine only_setCell ?_ (.inl rfl) _
  exact only_set1 w q ⟨q, 0, none⟩ rfl _
theorem seven_cells {w : World} {q : Nat} {T : TypeId} {x0 x1 x2 x3 x4 x5 x6 : Value} (h : Blk w q T #[x0, x1, x2, x3, x4, x5, x6]) : w.cell? ⟨q, 0, none⟩ = some x0 ∧ w.cell? ⟨q, 1, none⟩ = some x1 ∧ w.cell? ⟨q, 2, none⟩ = some x2 ∧ w.cell? ⟨q, 3, none⟩ = some x3 ∧ w.cell? ⟨q, 4, none⟩ = some x4 ∧ w.cell? ⟨q, 5, none⟩ = some x5 ∧ w.cell? ⟨q, 6, none⟩ = some x6 :=
  ⟨h.cell 0, h.cell 1, h.cell 2, h.cell 3, h.cell 4, h.cell 5, h.cell 6⟩
set_option maxHeartbeats 8000000 in
set_option maxRecDepth 100000 in
theorem desk_fresh {W w : World} {xb g off cp : Nat} {x0 x1 x2 x3 x4 x5 x6 : Value} {a b c e : List UInt8} (hx : Blk w xb 32 #[x0, x1, x2, x3, x4, x5, x6]) (hbx : W.heap.size ≤ xb) (hs : fz0 W w g off a b c e w) (l0 : a.length ≤ 5000) (l1 : b.length ≤ 5000) (l2 : c.length ≤ 5000) (l3 : e.length ≤ 5000) :
    Calls Tryz.prog 7 #[.pointer (some ⟨xb, 0, none⟩), .slice (some ⟨g, off, none⟩) 4 cp] w (FreshE W w xb a b c e) := by
  have HS := Lib.hid hs
  have HX := Lib.hid hx
  have HB := Lib.hid hbx
  clear hs hx hbx
  go_enter Tryz.func7, Tryz.ntmps7
  go_wp2_with fail
  go_at_call 17
  refine (words_yes _ 4 cp w).mono ?_
  rintro e0 w0 ⟨rfl, rfl⟩
  go_wp2_with fail
  have hs0 : fz0 W w g off a b c e w.drew := HS.out.keep (below_dr (Below.refl _ _))
  refine wp_region_tail (fz0 W w g off a b c e) [18] (by kernel_rfl) ?_
  refine wpAnyT_take 16 (i := 0) (v := ?v0_1) rfl (by kernel_rfl) (by kernel_rfl) (by kernel_rfl) (by kernel_rfl) (by kernel_rfl) (fun _ _ _ h => h) (by rfl) ?hy0_1 hs0 ?rest0_1
  case hy0_1 => (intro w hSw; obtain ⟨k0, k1, k2, k3⟩ := WAt.four (fz0.wds hSw); go_simp; (try with_reducible rfl))
  simp only [Act.put]
  refine wpAnyT_take 16 (i := 1) (v := ?v1_2) rfl (by kernel_rfl) (by kernel_rfl) (by kernel_rfl) (by kernel_rfl) (by kernel_rfl) (fun _ _ _ h => h) (by rfl) ?hy1_2 hs0 ?rest1_2
  case hy1_2 => (intro w hSw; obtain ⟨k0, k1, k2, k3⟩ := WAt.four (fz0.wds hSw); go_simp; (try with_reducible rfl))
  simp only [Act.put]
  refine wpAnyT_take 16 (i := 2) (v := ?v2_3) rfl (by kernel_rfl) (by kernel_rfl) (by kernel_rfl) (by kernel_rfl) (by kernel_rfl) (fun _ _ _ h => h) (by rfl) ?hy2_3 hs0 ?rest2_3
  case hy2_3 => (intro w hSw; obtain ⟨k0, k1, k2, k3⟩ := WAt.four (fz0.wds hSw); go_simp; (try with_reducible rfl))
  simp only [Act.put]
  refine wpAnyT_take 16 (i := 4) (v := ?v4_4) rfl (by kernel_rfl) (by kernel_rfl) (by kernel_rfl) (by kernel_rfl) (by kernel_rfl) (fun _ _ _ h => h) (by rfl) ?hy4_4 hs0 ?rest4_4
  case hy4_4 => (intro w hSw; obtain ⟨k0, k1, k2, k3⟩ := WAt.four (fz0.wds hSw); go_simp; (try with_reducible rfl))
  simp only [Act.put]
  refine wpAnyT_take 16 (i := 5) (v := ?v5_5) rfl (by kernel_rfl) (by kernel_rfl) (by kernel_rfl) (by kernel_rfl) (by kernel_rfl) (fun _ _ _ h => h) (by rfl) ?hy5_5 hs0 ?rest5_5
  case hy5_5 => (intro w hSw; obtain ⟨k0, k1, k2, k3⟩ := WAt.four (fz0.wds hSw); go_simp; (try with_reducible rfl))
  simp only [Act.put]
  refine wpAnyT_take 16 (i := 6) (v := ?v6_6) rfl (by kernel_rfl) (by kernel_rfl) (by kernel_rfl) (by kernel_rfl) (by kernel_rfl) (fun _ _ _ h => h) (by rfl) ?hy6_6 hs0 ?rest6_6
  case hy6_6 => (intro w hSw; obtain ⟨k0, k1, k2, k3⟩ := WAt.four (fz0.wds hSw); go_simp; (try with_reducible rfl))
  simp only [Act.put]
  refine wpAnyT_take 16 (i := 8) (v := ?v8_7) rfl (by kernel_rfl) (by kernel_rfl) (by kernel_rfl) (by kernel_rfl) (by kernel_rfl) (fun _ _ _ h => h) (by rfl) ?hy8_7 hs0 ?rest8_7
  case hy8_7 => (intro w hSw; obtain ⟨k0, k1, k2, k3⟩ := WAt.four (fz0.wds hSw); go_simp; (try with_reducible rfl))
  simp only [Act.put]
  refine wpAnyT_take 16 (i := 9) (v := ?v9_8) rfl (by kernel_rfl) (by kernel_rfl) (by kernel_rfl) (by kernel_rfl) (by kernel_rfl) (fun _ _ _ h => h) (by rfl) ?hy9_8 hs0 ?rest9_8
  case hy9_8 => (intro w hSw; obtain ⟨k0, k1, k2, k3⟩ := WAt.four (fz0.wds hSw); go_simp; (try with_reducible rfl))
  simp only [Act.put]
  refine wpAnyT_take 16 (i := 10) (v := ?v10_9) rfl (by kernel_rfl) (by kernel_rfl) (by kernel_rfl) (by kernel_rfl) (by kernel_rfl) (fun _ _ _ h => h) (by rfl) ?hy10_9 hs0 ?rest10_9
  case hy10_9 => (intro w hSw; obtain ⟨k0, k1, k2, k3⟩ := WAt.four (fz0.wds hSw); go_simp; (try with_reducible rfl))
  simp only [Act.put]
  refine wpAnyT_take 16 (i := 12) (v := ?v12_10) rfl (by kernel_rfl) (by kernel_rfl) (by kernel_rfl) (by kernel_rfl) (by kernel_rfl) (fun _ _ _ h => h) (by rfl) ?hy12_10 hs0 ?rest12_10
  case hy12_10 => (intro w hSw; obtain ⟨k0, k1, k2, k3⟩ := WAt.four (fz0.wds hSw); go_simp; (try with_reducible rfl))
  simp only [Act.put]
  refine wpAnyT_take 16 (i := 13) (v := ?v13_11) rfl (by kernel_rfl) (by kernel_rfl) (by kernel_rfl) (by kernel_rfl) (by kernel_rfl) (fun _ _ _ h => h) (by rfl) ?hy13_11 hs0 ?rest13_11
  case hy13_11 => (intro w hSw; obtain ⟨k0, k1, k2, k3⟩ := WAt.four (fz0.wds hSw); go_simp; (try with_reducible rfl))
  simp only [Act.put]
  refine wpAnyT_take 16 (i := 14) (v := ?v14_12) rfl (by kernel_rfl) (by kernel_rfl) (by kernel_rfl) (by kernel_rfl) (by kernel_rfl) (fun _ _ _ h => h) (by rfl) ?hy14_12 hs0 ?rest14_12
  case hy14_12 => (intro w hSw; obtain ⟨k0, k1, k2, k3⟩ := WAt.four (fz0.wds hSw); go_simp; (try with_reducible rfl))
  simp only [Act.put]
  refine wpAnyT_two (i := 3) (j := 17) (by kernel_rfl) rfl rfl ?_ ?_
  · intro K1 hK1
    go_simp
    go_at_call 18
    rcases hn0 : numE a with _ | _
    · refine (hs0.no l0 hn0).mono ?_
      rintro x' w2 ⟨rfl, hb3⟩
      dsimp only
      exact ⟨rfl, FreshE.bad3 (by simp [hn0]) (below_2 hs0.since hb3)⟩
    · refine (hs0.yes l0 hn0).mono ?_
      rintro x' w2 ⟨rfl, hb3⟩
      dsimp only
      have hs4 := hs0.keep hb3
      refine hK1.out _ _ (fun _ => hs4) ?_
      try simp only [Act.put]
      refine wpAnyT_two (i := 7) (j := 17) (by kernel_rfl) rfl rfl ?_ ?_
      · intro K6 hK6
        go_simp
        go_at_call 18
        rcases hn1 : numE b with _ | _
        · refine (hs4.no l1 hn1).mono ?_
          rintro x' w7 ⟨rfl, hb8⟩
          dsimp only
          exact ⟨rfl, FreshE.bad3 (by simp [hn1]) (below_2 hs4.since hb8)⟩
        · refine (hs4.yes l1 hn1).mono ?_
          rintro x' w7 ⟨rfl, hb8⟩
          dsimp only
          have hs9 := hs4.keep hb8
          refine hK6.out _ _ (fun _ => hs9) ?_
          try simp only [Act.put]
          refine wpAnyT_two (i := 11) (j := 17) (by kernel_rfl) rfl rfl ?_ ?_
          · intro K11 hK11
            go_simp
            go_at_call 18
            rcases hn2 : numE c with _ | _
            · refine (hs9.no l2 hn2).mono ?_
              rintro x' w12 ⟨rfl, hb13⟩
              dsimp only
              exact ⟨rfl, FreshE.bad3 (by simp [hn2]) (below_2 hs9.since hb13)⟩
            · refine (hs9.yes l2 hn2).mono ?_
              rintro x' w12 ⟨rfl, hb13⟩
              dsimp only
              have hs14 := hs9.keep hb13
              refine hK11.out _ _ (fun _ => hs14) ?_
              try simp only [Act.put]
              refine wpAnyT_two (i := 15) (j := 17) (by kernel_rfl) rfl rfl ?_ ?_
              · intro K16 hK16
                go_simp
                go_at_call 18
                rcases hn3 : numE e with _ | _
                · refine (hs14.no l3 hn3).mono ?_
                  rintro x' w17 ⟨rfl, hb18⟩
                  dsimp only
                  exact ⟨rfl, FreshE.bad3 (by simp [hn3]) (below_2 hs14.since hb18)⟩
                · refine (hs14.yes l3 hn3).mono ?_
                  rintro x' w17 ⟨rfl, hb18⟩
                  dsimp only
                  have hs19 := hs14.keep hb18
                  refine hK16.out _ _ (fun _ => hs19) ?_
                  try simp only [Act.put]
                  refine wpAnyT_take 16 (i := 16) (v := ?v16_13) rfl (by kernel_rfl) (by kernel_rfl) (by kernel_rfl) (by kernel_rfl) (by kernel_rfl) (fun _ _ _ h => h) (by rfl) ?hy16_13 hs19 ?rest16_13
                  case hy16_13 => (intro w hSw; go_simp; (try with_reducible rfl))
                  simp only [Act.put]
                  refine wpAnyT_one (i := 17) (by kernel_rfl) rfl ?_
                  intro K21 hK21
                  go_simp
                  have hs22 := hs19.alloc (.cells #[.int .i64 0, .int .i64 0, .int .i64 0, .int .i64 0] 30)
                  have hq23 := Blk.new w17 30 #[.int .i64 0, .int .i64 0, .int .i64 0, .int .i64 0]
                  have hl24 := hs19.since.size
                  refine hK21.out _ _ (fun _ => hs22) ?_
                  try simp only [Act.put]
                  refine wpAnyT_one (i := 18) (by kernel_rfl) rfl ?_
                  intro K25 hK25
                  rw [if_pos (by rfl)]
                  refine wp_store_row 30 _ _ rfl (w17.heap.size) #[.int .i64 (atoiN a), .int .i64 (atoiN b), .int .i64 (atoiN c), .int .i64 (atoiN e)] rfl rfl 30 _ hq23 (by kernel_rfl) rfl (by simp [Value.oneCell']) ?_
                  obtain ⟨w5, -, e5, q5, g5⟩ := row_stored (P := Tryz.prog) (ty := 30) (cells := #[.int .i64 (atoiN a), .int .i64 (atoiN b), .int .i64 (atoiN c), .int .i64 (atoiN e)]) hq23 (by kernel_rfl) rfl (by simp [Value.oneCell'])
                  have hs5 := hs22.put g5 hl24 (Nat.le_trans HS.out.below.size hl24) (HS.out.wds.keep (hs22.since.grown g5 hs22.since.size (fun i hi => by cases hi; exact hl24)))
                  have HQ5 := Lib.hid q5
                  have HS5 := Lib.hid hs5
                  refine hK25.out _ _ (fun h => absurd h (by decide)) ?_
                  refine wpAnyT_done (by kernel_rfl) ?_ _
                  rw [← e5]
                  clear e5 q5 g5 hs5
                  try generalize w17.heap.size = q at *
                  have HXB5 := Lib.hid (HX.out.below' HS5.out.since)
                  have hru := newC_ok (a := a) (b := b) (c := c) (e := e) hn0 hn1 hn2 hn3
                  have HRU := Lib.hid hru
                  have HDI := Lib.hid (DI.new HS5.out.env HS5.out.below.size)
                  have HS6 := Lib.hid (HS5.out.alloc (.cells Tryz.zeroCells65 65))
                  have HQ6 := Lib.hid (HQ5.out.alloc (.cells Tryz.zeroCells65 65))
                  have HXB6 := Lib.hid (HXB5.out.alloc (.cells Tryz.zeroCells65 65))
                  clear hru HS5 HQ5 HXB5
                  go_wp2_with fail
                  go_at_call 19
                  refine (sx_first HDI.out).mono ?_
                  rintro x' w7 ⟨sb, v, rfl, hsx, hsb, hb7⟩
                  dsimp only
                  have HS7 := Lib.hid (HS6.out.keep hb7)
                  have HQ7 := Lib.hid (HQ6.out.below' hb7)
                  have HXB7 := Lib.hid (HXB6.out.below' hb7)
                  have HSX7 := Lib.hid hsx
                  clear hsx hsb hb7 HS6 HQ6 HXB6 HDI
                  obtain ⟨r0, r1, r2, r3⟩ := tok_cells HQ7.out
                  go_wp2_with fail
                  go_at_call 20
                  refine (must_nil _).mono ?_
                  rintro x' w8 ⟨rfl, rfl⟩
                  dsimp only
                  go_wp2_with fail
                  go_at_call 21
                  rcases HRU.out with ⟨hru, hc⟩ | ⟨hru, hc⟩
                  · refine (svc_new_no (r := ⟨atoiN a, atoiN b, atoiN c, atoiN e⟩) hru).mono ?_
                    rintro x' w8 ⟨rfl, hb⟩
                    dsimp only
                    have HS8 := Lib.hid (HS7.out.keep hb)
                    have HC := Lib.hid hc
                    rw [errV_n (show (2 : Int) ≠ 0 by decide)]
                    clear hb hru hc HS7 HQ7 HXB7 HSX7 r0 r1 r2 r3
                    go_wp2_with fail
                    go_at_call 20
                    refine (must_no 2 _ HS8.out.et).mono ?_
                    rintro x' w9 ⟨rfl, hb⟩
                    dsimp only
                    exact ⟨rfl, .inr ⟨by rw [HC.out]; decide, by rw [HC.out], below_2 HS8.out.since hb⟩⟩
                  · refine (svc_new_yes (r := ⟨atoiN a, atoiN b, atoiN c, atoiN e⟩) HSX7.out hru).mono ?_
                    rintro x' w8 ⟨vb, rfl, hsw, hvb, hb⟩
                    dsimp only
                    have HS8 := Lib.hid (HS7.out.keep hb)
                    have HQ8 := Lib.hid (HQ7.out.below' hb)
                    have HXB8 := Lib.hid (HXB7.out.below' hb)
                    have HSW8 := Lib.hid hsw
                    have HC := Lib.hid hc
                    clear hsw hvb hb hru hc HS7 HQ7 HXB7 HSX7 r0 r1 r2 r3
                    go_wp2_with fail
                    go_at_call 20
                    refine (must_nil _).mono ?_
                    rintro x' w9 ⟨rfl, rfl⟩
                    dsimp only
                    obtain ⟨r0, r1, r2, r3⟩ := tok_cells HQ8.out
                    obtain ⟨y0, y1, y2, y3, y4, y5, y6⟩ := seven_cells HXB8.out
                    have hz := HXB8.out.frozen
                    obtain ⟨n1, n2⟩ := seven_put HXB8.out (.pointer (some ⟨w5.heap.size, 0, none⟩)) (.pointer (some ⟨sb, 0, none⟩)) (.pointer (some ⟨vb, 0, none⟩)) (.int .i64 (atoiN a)) (.int .i64 (atoiN b)) (.int .i64 (atoiN c)) (.int .i64 (atoiN e))
                    have HE := Lib.hid (FreshE.good (W := W) (w := w) (xb := xb) HC.out n1 n2 HSW8.out HS8.out HXB8.out HB.out)
                    clear n1 n2 HS8 HQ8 HSW8
                    go_wp2_with fail
                    go_ret
                    exact HE.out
              · intro K26 hK26
                go_simp
                have hs27 := hs14.alloc (.cells #[.int .i64 0, .int .i64 0, .int .i64 0, .int .i64 0] 30)
                have hq28 := Blk.new w12 30 #[.int .i64 0, .int .i64 0, .int .i64 0, .int .i64 0]
                have hl29 := hs14.since.size
                refine hK26.out _ _ (fun _ => hs27) ?_
                try simp only [Act.put]
                refine wpAnyT_one (i := 15) (by kernel_rfl) rfl ?_
                intro K30 hK30
                go_simp
                go_at_call 18
                rcases hn3 : numE e with _ | _
                · refine (hs27.no l3 hn3).mono ?_
                  rintro x' w31 ⟨rfl, hb32⟩
                  dsimp only
                  exact ⟨rfl, FreshE.bad3 (by simp [hn3]) (below_2 hs27.since hb32)⟩
                · refine (hs27.yes l3 hn3).mono ?_
                  rintro x' w31 ⟨rfl, hb32⟩
                  dsimp only
                  have hs33 := hs27.keep hb32
                  have hq34 := hq28.below' hb32
                  refine hK30.out _ _ (fun _ => hs33) ?_
                  try simp only [Act.put]
                  refine wpAnyT_take 16 (i := 16) (v := ?v16_14) rfl (by kernel_rfl) (by kernel_rfl) (by kernel_rfl) (by kernel_rfl) (by kernel_rfl) (fun _ _ _ h => h) (by rfl) ?hy16_14 hs33 ?rest16_14
                  case hy16_14 => (intro w hSw; go_simp; (try with_reducible rfl))
                  simp only [Act.put]
                  refine wpAnyT_one (i := 18) (by kernel_rfl) rfl ?_
                  intro K35 hK35
                  rw [if_pos (by rfl)]
                  refine wp_store_row 30 _ _ rfl (w12.heap.size) #[.int .i64 (atoiN a), .int .i64 (atoiN b), .int .i64 (atoiN c), .int .i64 (atoiN e)] rfl rfl 30 _ hq34 (by kernel_rfl) rfl (by simp [Value.oneCell']) ?_
                  obtain ⟨w5, -, e5, q5, g5⟩ := row_stored (P := Tryz.prog) (ty := 30) (cells := #[.int .i64 (atoiN a), .int .i64 (atoiN b), .int .i64 (atoiN c), .int .i64 (atoiN e)]) hq34 (by kernel_rfl) rfl (by simp [Value.oneCell'])
                  have hs5 := hs33.put g5 hl29 (Nat.le_trans HS.out.below.size hl29) (HS.out.wds.keep (hs33.since.grown g5 hs33.since.size (fun i hi => by cases hi; exact hl29)))
                  have HQ5 := Lib.hid q5
                  have HS5 := Lib.hid hs5
                  refine hK35.out _ _ (fun h => absurd h (by decide)) ?_
                  refine wpAnyT_done (by kernel_rfl) ?_ _
                  rw [← e5]
                  clear e5 q5 g5 hs5
                  try generalize w12.heap.size = q at *
                  have HXB5 := Lib.hid (HX.out.below' HS5.out.since)
                  have hru := newC_ok (a := a) (b := b) (c := c) (e := e) hn0 hn1 hn2 hn3
                  have HRU := Lib.hid hru
                  have HDI := Lib.hid (DI.new HS5.out.env HS5.out.below.size)
                  have HS6 := Lib.hid (HS5.out.alloc (.cells Tryz.zeroCells65 65))
                  have HQ6 := Lib.hid (HQ5.out.alloc (.cells Tryz.zeroCells65 65))
                  have HXB6 := Lib.hid (HXB5.out.alloc (.cells Tryz.zeroCells65 65))
                  clear hru HS5 HQ5 HXB5
                  go_wp2_with fail
                  go_at_call 19
                  refine (sx_first HDI.out).mono ?_
                  rintro x' w7 ⟨sb, v, rfl, hsx, hsb, hb7⟩
                  dsimp only
                  have HS7 := Lib.hid (HS6.out.keep hb7)
                  have HQ7 := Lib.hid (HQ6.out.below' hb7)
                  have HXB7 := Lib.hid (HXB6.out.below' hb7)
                  have HSX7 := Lib.hid hsx
                  clear hsx hsb hb7 HS6 HQ6 HXB6 HDI
                  obtain ⟨r0, r1, r2, r3⟩ := tok_cells HQ7.out
                  go_wp2_with fail
                  go_at_call 20
                  refine (must_nil _).mono ?_
                  rintro x' w8 ⟨rfl, rfl⟩
                  dsimp only
                  go_wp2_with fail
                  go_at_call 21
                  rcases HRU.out with ⟨hru, hc⟩ | ⟨hru, hc⟩
                  · refine (svc_new_no (r := ⟨atoiN a, atoiN b, atoiN c, atoiN e⟩) hru).mono ?_
                    rintro x' w8 ⟨rfl, hb⟩
                    dsimp only
                    have HS8 := Lib.hid (HS7.out.keep hb)
                    have HC := Lib.hid hc
                    rw [errV_n (show (2 : Int) ≠ 0 by decide)]
                    clear hb hru hc HS7 HQ7 HXB7 HSX7 r0 r1 r2 r3
                    go_wp2_with fail
                    go_at_call 20
                    refine (must_no 2 _ HS8.out.et).mono ?_
                    rintro x' w9 ⟨rfl, hb⟩
                    dsimp only
                    exact ⟨rfl, .inr ⟨by rw [HC.out]; decide, by rw [HC.out], below_2 HS8.out.since hb⟩⟩
                  · refine (svc_new_yes (r := ⟨atoiN a, atoiN b, atoiN c, atoiN e⟩) HSX7.out hru).mono ?_
                    rintro x' w8 ⟨vb, rfl, hsw, hvb, hb⟩
                    dsimp only
                    have HS8 := Lib.hid (HS7.out.keep hb)
                    have HQ8 := Lib.hid (HQ7.out.below' hb)
                    have HXB8 := Lib.hid (HXB7.out.below' hb)
                    have HSW8 := Lib.hid hsw
                    have HC := Lib.hid hc
                    clear hsw hvb hb hru hc HS7 HQ7 HXB7 HSX7 r0 r1 r2 r3
                    go_wp2_with fail
                    go_at_call 20
                    refine (must_nil _).mono ?_
                    rintro x' w9 ⟨rfl, rfl⟩
                    dsimp only
                    obtain ⟨r0, r1, r2, r3⟩ := tok_cells HQ8.out
                    obtain ⟨y0, y1, y2, y3, y4, y5, y6⟩ := seven_cells HXB8.out
                    have hz := HXB8.out.frozen
                    obtain ⟨n1, n2⟩ := seven_put HXB8.out (.pointer (some ⟨w5.heap.size, 0, none⟩)) (.pointer (some ⟨sb, 0, none⟩)) (.pointer (some ⟨vb, 0, none⟩)) (.int .i64 (atoiN a)) (.int .i64 (atoiN b)) (.int .i64 (atoiN c)) (.int .i64 (atoiN e))
                    have HE := Lib.hid (FreshE.good (W := W) (w := w) (xb := xb) HC.out n1 n2 HSW8.out HS8.out HXB8.out HB.out)
                    clear n1 n2 HS8 HQ8 HSW8
                    go_wp2_with fail
                    go_ret
                    exact HE.out
          · intro K36 hK36
            go_simp
            have hs37 := hs9.alloc (.cells #[.int .i64 0, .int .i64 0, .int .i64 0, .int .i64 0] 30)
            have hq38 := Blk.new w7 30 #[.int .i64 0, .int .i64 0, .int .i64 0, .int .i64 0]
            have hl39 := hs9.since.size
            refine hK36.out _ _ (fun _ => hs37) ?_
            try simp only [Act.put]
            refine wpAnyT_one (i := 11) (by kernel_rfl) rfl ?_
            intro K40 hK40
            go_simp
            go_at_call 18
            rcases hn2 : numE c with _ | _
            · refine (hs37.no l2 hn2).mono ?_
              rintro x' w41 ⟨rfl, hb42⟩
              dsimp only
              exact ⟨rfl, FreshE.bad3 (by simp [hn2]) (below_2 hs37.since hb42)⟩
            · refine (hs37.yes l2 hn2).mono ?_
              rintro x' w41 ⟨rfl, hb42⟩
              dsimp only
              have hs43 := hs37.keep hb42
              have hq44 := hq38.below' hb42
              refine hK40.out _ _ (fun _ => hs43) ?_
              try simp only [Act.put]
              refine wpAnyT_one (i := 15) (by kernel_rfl) rfl ?_
              intro K45 hK45
              go_simp
              go_at_call 18
              rcases hn3 : numE e with _ | _
              · refine (hs43.no l3 hn3).mono ?_
                rintro x' w46 ⟨rfl, hb47⟩
                dsimp only
                exact ⟨rfl, FreshE.bad3 (by simp [hn3]) (below_2 hs43.since hb47)⟩
              · refine (hs43.yes l3 hn3).mono ?_
                rintro x' w46 ⟨rfl, hb47⟩
                dsimp only
                have hs48 := hs43.keep hb47
                have hq49 := hq44.below' hb47
                refine hK45.out _ _ (fun _ => hs48) ?_
                try simp only [Act.put]
                refine wpAnyT_take 16 (i := 16) (v := ?v16_15) rfl (by kernel_rfl) (by kernel_rfl) (by kernel_rfl) (by kernel_rfl) (by kernel_rfl) (fun _ _ _ h => h) (by rfl) ?hy16_15 hs48 ?rest16_15
                case hy16_15 => (intro w hSw; go_simp; (try with_reducible rfl))
                simp only [Act.put]
                refine wpAnyT_one (i := 18) (by kernel_rfl) rfl ?_
                intro K50 hK50
                rw [if_pos (by rfl)]
                refine wp_store_row 30 _ _ rfl (w7.heap.size) #[.int .i64 (atoiN a), .int .i64 (atoiN b), .int .i64 (atoiN c), .int .i64 (atoiN e)] rfl rfl 30 _ hq49 (by kernel_rfl) rfl (by simp [Value.oneCell']) ?_
                obtain ⟨w5, -, e5, q5, g5⟩ := row_stored (P := Tryz.prog) (ty := 30) (cells := #[.int .i64 (atoiN a), .int .i64 (atoiN b), .int .i64 (atoiN c), .int .i64 (atoiN e)]) hq49 (by kernel_rfl) rfl (by simp [Value.oneCell'])
                have hs5 := hs48.put g5 hl39 (Nat.le_trans HS.out.below.size hl39) (HS.out.wds.keep (hs48.since.grown g5 hs48.since.size (fun i hi => by cases hi; exact hl39)))
                have HQ5 := Lib.hid q5
                have HS5 := Lib.hid hs5
                refine hK50.out _ _ (fun h => absurd h (by decide)) ?_
                refine wpAnyT_done (by kernel_rfl) ?_ _
                rw [← e5]
                clear e5 q5 g5 hs5
                try generalize w7.heap.size = q at *
                have HXB5 := Lib.hid (HX.out.below' HS5.out.since)
                have hru := newC_ok (a := a) (b := b) (c := c) (e := e) hn0 hn1 hn2 hn3
                have HRU := Lib.hid hru
                have HDI := Lib.hid (DI.new HS5.out.env HS5.out.below.size)
                have HS6 := Lib.hid (HS5.out.alloc (.cells Tryz.zeroCells65 65))
                have HQ6 := Lib.hid (HQ5.out.alloc (.cells Tryz.zeroCells65 65))
                have HXB6 := Lib.hid (HXB5.out.alloc (.cells Tryz.zeroCells65 65))
                clear hru HS5 HQ5 HXB5
                go_wp2_with fail
                go_at_call 19
                refine (sx_first HDI.out).mono ?_
                rintro x' w7 ⟨sb, v, rfl, hsx, hsb, hb7⟩
                dsimp only
                have HS7 := Lib.hid (HS6.out.keep hb7)
                have HQ7 := Lib.hid (HQ6.out.below' hb7)
                have HXB7 := Lib.hid (HXB6.out.below' hb7)
                have HSX7 := Lib.hid hsx
                clear hsx hsb hb7 HS6 HQ6 HXB6 HDI
                obtain ⟨r0, r1, r2, r3⟩ := tok_cells HQ7.out
                go_wp2_with fail
                go_at_call 20
                refine (must_nil _).mono ?_
                rintro x' w8 ⟨rfl, rfl⟩
                dsimp only
                go_wp2_with fail
                go_at_call 21
                rcases HRU.out with ⟨hru, hc⟩ | ⟨hru, hc⟩
                · refine (svc_new_no (r := ⟨atoiN a, atoiN b, atoiN c, atoiN e⟩) hru).mono ?_
                  rintro x' w8 ⟨rfl, hb⟩
                  dsimp only
                  have HS8 := Lib.hid (HS7.out.keep hb)
                  have HC := Lib.hid hc
                  rw [errV_n (show (2 : Int) ≠ 0 by decide)]
                  clear hb hru hc HS7 HQ7 HXB7 HSX7 r0 r1 r2 r3
                  go_wp2_with fail
                  go_at_call 20
                  refine (must_no 2 _ HS8.out.et).mono ?_
                  rintro x' w9 ⟨rfl, hb⟩
                  dsimp only
                  exact ⟨rfl, .inr ⟨by rw [HC.out]; decide, by rw [HC.out], below_2 HS8.out.since hb⟩⟩
                · refine (svc_new_yes (r := ⟨atoiN a, atoiN b, atoiN c, atoiN e⟩) HSX7.out hru).mono ?_
                  rintro x' w8 ⟨vb, rfl, hsw, hvb, hb⟩
                  dsimp only
                  have HS8 := Lib.hid (HS7.out.keep hb)
                  have HQ8 := Lib.hid (HQ7.out.below' hb)
                  have HXB8 := Lib.hid (HXB7.out.below' hb)
                  have HSW8 := Lib.hid hsw
                  have HC := Lib.hid hc
                  clear hsw hvb hb hru hc HS7 HQ7 HXB7 HSX7 r0 r1 r2 r3
                  go_wp2_with fail
                  go_at_call 20
                  refine (must_nil _).mono ?_
                  rintro x' w9 ⟨rfl, rfl⟩
                  dsimp only
                  obtain ⟨r0, r1, r2, r3⟩ := tok_cells HQ8.out
                  obtain ⟨y0, y1, y2, y3, y4, y5, y6⟩ := seven_cells HXB8.out
                  have hz := HXB8.out.frozen
                  obtain ⟨n1, n2⟩ := seven_put HXB8.out (.pointer (some ⟨w5.heap.size, 0, none⟩)) (.pointer (some ⟨sb, 0, none⟩)) (.pointer (some ⟨vb, 0, none⟩)) (.int .i64 (atoiN a)) (.int .i64 (atoiN b)) (.int .i64 (atoiN c)) (.int .i64 (atoiN e))
                  have HE := Lib.hid (FreshE.good (W := W) (w := w) (xb := xb) HC.out n1 n2 HSW8.out HS8.out HXB8.out HB.out)
                  clear n1 n2 HS8 HQ8 HSW8
                  go_wp2_with fail
                  go_ret
                  exact HE.out
      · intro K51 hK51
        go_simp
        have hs52 := hs4.alloc (.cells #[.int .i64 0, .int .i64 0, .int .i64 0, .int .i64 0] 30)
        have hq53 := Blk.new w2 30 #[.int .i64 0, .int .i64 0, .int .i64 0, .int .i64 0]
        have hl54 := hs4.since.size
        refine hK51.out _ _ (fun _ => hs52) ?_
        try simp only [Act.put]
        refine wpAnyT_one (i := 7) (by kernel_rfl) rfl ?_
        intro K55 hK55
        go_simp
        go_at_call 18
        rcases hn1 : numE b with _ | _
        · refine (hs52.no l1 hn1).mono ?_
          rintro x' w56 ⟨rfl, hb57⟩
          dsimp only
          exact ⟨rfl, FreshE.bad3 (by simp [hn1]) (below_2 hs52.since hb57)⟩
        · refine (hs52.yes l1 hn1).mono ?_
          rintro x' w56 ⟨rfl, hb57⟩
          dsimp only
          have hs58 := hs52.keep hb57
          have hq59 := hq53.below' hb57
          refine hK55.out _ _ (fun _ => hs58) ?_
          try simp only [Act.put]
          refine wpAnyT_one (i := 11) (by kernel_rfl) rfl ?_
          intro K60 hK60
          go_simp
          go_at_call 18
          rcases hn2 : numE c with _ | _
          · refine (hs58.no l2 hn2).mono ?_
            rintro x' w61 ⟨rfl, hb62⟩
            dsimp only
            exact ⟨rfl, FreshE.bad3 (by simp [hn2]) (below_2 hs58.since hb62)⟩
          · refine (hs58.yes l2 hn2).mono ?_
            rintro x' w61 ⟨rfl, hb62⟩
            dsimp only
            have hs63 := hs58.keep hb62
            have hq64 := hq59.below' hb62
            refine hK60.out _ _ (fun _ => hs63) ?_
            try simp only [Act.put]
            refine wpAnyT_one (i := 15) (by kernel_rfl) rfl ?_
            intro K65 hK65
            go_simp
            go_at_call 18
            rcases hn3 : numE e with _ | _
            · refine (hs63.no l3 hn3).mono ?_
              rintro x' w66 ⟨rfl, hb67⟩
              dsimp only
              exact ⟨rfl, FreshE.bad3 (by simp [hn3]) (below_2 hs63.since hb67)⟩
            · refine (hs63.yes l3 hn3).mono ?_
              rintro x' w66 ⟨rfl, hb67⟩
              dsimp only
              have hs68 := hs63.keep hb67
              have hq69 := hq64.below' hb67
              refine hK65.out _ _ (fun _ => hs68) ?_
              try simp only [Act.put]
              refine wpAnyT_take 16 (i := 16) (v := ?v16_16) rfl (by kernel_rfl) (by kernel_rfl) (by kernel_rfl) (by kernel_rfl) (by kernel_rfl) (fun _ _ _ h => h) (by rfl) ?hy16_16 hs68 ?rest16_16
              case hy16_16 => (intro w hSw; go_simp; (try with_reducible rfl))
              simp only [Act.put]
              refine wpAnyT_one (i := 18) (by kernel_rfl) rfl ?_
              intro K70 hK70
              rw [if_pos (by rfl)]
              refine wp_store_row 30 _ _ rfl (w2.heap.size) #[.int .i64 (atoiN a), .int .i64 (atoiN b), .int .i64 (atoiN c), .int .i64 (atoiN e)] rfl rfl 30 _ hq69 (by kernel_rfl) rfl (by simp [Value.oneCell']) ?_
              obtain ⟨w5, -, e5, q5, g5⟩ := row_stored (P := Tryz.prog) (ty := 30) (cells := #[.int .i64 (atoiN a), .int .i64 (atoiN b), .int .i64 (atoiN c), .int .i64 (atoiN e)]) hq69 (by kernel_rfl) rfl (by simp [Value.oneCell'])
              have hs5 := hs68.put g5 hl54 (Nat.le_trans HS.out.below.size hl54) (HS.out.wds.keep (hs68.since.grown g5 hs68.since.size (fun i hi => by cases hi; exact hl54)))
              have HQ5 := Lib.hid q5
              have HS5 := Lib.hid hs5
              refine hK70.out _ _ (fun h => absurd h (by decide)) ?_
              refine wpAnyT_done (by kernel_rfl) ?_ _
              rw [← e5]
              clear e5 q5 g5 hs5
              try generalize w2.heap.size = q at *
              have HXB5 := Lib.hid (HX.out.below' HS5.out.since)
              have hru := newC_ok (a := a) (b := b) (c := c) (e := e) hn0 hn1 hn2 hn3
              have HRU := Lib.hid hru
              have HDI := Lib.hid (DI.new HS5.out.env HS5.out.below.size)
              have HS6 := Lib.hid (HS5.out.alloc (.cells Tryz.zeroCells65 65))
              have HQ6 := Lib.hid (HQ5.out.alloc (.cells Tryz.zeroCells65 65))
              have HXB6 := Lib.hid (HXB5.out.alloc (.cells Tryz.zeroCells65 65))
              clear hru HS5 HQ5 HXB5
              go_wp2_with fail
              go_at_call 19
              refine (sx_first HDI.out).mono ?_
              rintro x' w7 ⟨sb, v, rfl, hsx, hsb, hb7⟩
              dsimp only
              have HS7 := Lib.hid (HS6.out.keep hb7)
              have HQ7 := Lib.hid (HQ6.out.below' hb7)
              have HXB7 := Lib.hid (HXB6.out.below' hb7)
              have HSX7 := Lib.hid hsx
              clear hsx hsb hb7 HS6 HQ6 HXB6 HDI
              obtain ⟨r0, r1, r2, r3⟩ := tok_cells HQ7.out
              go_wp2_with fail
              go_at_call 20
              refine (must_nil _).mono ?_
              rintro x' w8 ⟨rfl, rfl⟩
              dsimp only
              go_wp2_with fail
              go_at_call 21
              rcases HRU.out with ⟨hru, hc⟩ | ⟨hru, hc⟩
              · refine (svc_new_no (r := ⟨atoiN a, atoiN b, atoiN c, atoiN e⟩) hru).mono ?_
                rintro x' w8 ⟨rfl, hb⟩
                dsimp only
                have HS8 := Lib.hid (HS7.out.keep hb)
                have HC := Lib.hid hc
                rw [errV_n (show (2 : Int) ≠ 0 by decide)]
                clear hb hru hc HS7 HQ7 HXB7 HSX7 r0 r1 r2 r3
                go_wp2_with fail
                go_at_call 20
                refine (must_no 2 _ HS8.out.et).mono ?_
                rintro x' w9 ⟨rfl, hb⟩
                dsimp only
                exact ⟨rfl, .inr ⟨by rw [HC.out]; decide, by rw [HC.out], below_2 HS8.out.since hb⟩⟩
              · refine (svc_new_yes (r := ⟨atoiN a, atoiN b, atoiN c, atoiN e⟩) HSX7.out hru).mono ?_
                rintro x' w8 ⟨vb, rfl, hsw, hvb, hb⟩
                dsimp only
                have HS8 := Lib.hid (HS7.out.keep hb)
                have HQ8 := Lib.hid (HQ7.out.below' hb)
                have HXB8 := Lib.hid (HXB7.out.below' hb)
                have HSW8 := Lib.hid hsw
                have HC := Lib.hid hc
                clear hsw hvb hb hru hc HS7 HQ7 HXB7 HSX7 r0 r1 r2 r3
                go_wp2_with fail
                go_at_call 20
                refine (must_nil _).mono ?_
                rintro x' w9 ⟨rfl, rfl⟩
                dsimp only
                obtain ⟨r0, r1, r2, r3⟩ := tok_cells HQ8.out
                obtain ⟨y0, y1, y2, y3, y4, y5, y6⟩ := seven_cells HXB8.out
                have hz := HXB8.out.frozen
                obtain ⟨n1, n2⟩ := seven_put HXB8.out (.pointer (some ⟨w5.heap.size, 0, none⟩)) (.pointer (some ⟨sb, 0, none⟩)) (.pointer (some ⟨vb, 0, none⟩)) (.int .i64 (atoiN a)) (.int .i64 (atoiN b)) (.int .i64 (atoiN c)) (.int .i64 (atoiN e))
                have HE := Lib.hid (FreshE.good (W := W) (w := w) (xb := xb) HC.out n1 n2 HSW8.out HS8.out HXB8.out HB.out)
                clear n1 n2 HS8 HQ8 HSW8
                go_wp2_with fail
                go_ret
                exact HE.out
  · intro K71 hK71
    go_simp
    have hs72 := hs0.alloc (.cells #[.int .i64 0, .int .i64 0, .int .i64 0, .int .i64 0] 30)
    have hq73 : Blk (w.drew.alloc (.cells #[.int .i64 0, .int .i64 0, .int .i64 0, .int .i64 0] 30)) w.heap.size 30 #[.int .i64 0, .int .i64 0, .int .i64 0, .int .i64 0] := Blk.new w.drew 30 #[.int .i64 0, .int .i64 0, .int .i64 0, .int .i64 0]
    have hl74 := hs0.since.size
    refine hK71.out _ _ (fun _ => hs72) ?_
    try simp only [Act.put]
    refine wpAnyT_one (i := 3) (by kernel_rfl) rfl ?_
    intro K75 hK75
    go_simp
    go_at_call 18
    rcases hn0 : numE a with _ | _
    · refine (hs72.no l0 hn0).mono ?_
      rintro x' w76 ⟨rfl, hb77⟩
      dsimp only
      exact ⟨rfl, FreshE.bad3 (by simp [hn0]) (below_2 hs72.since hb77)⟩
    · refine (hs72.yes l0 hn0).mono ?_
      rintro x' w76 ⟨rfl, hb77⟩
      dsimp only
      have hs78 := hs72.keep hb77
      have hq79 := hq73.below' hb77
      refine hK75.out _ _ (fun _ => hs78) ?_
      try simp only [Act.put]
      refine wpAnyT_one (i := 7) (by kernel_rfl) rfl ?_
      intro K80 hK80
      go_simp
      go_at_call 18
      rcases hn1 : numE b with _ | _
      · refine (hs78.no l1 hn1).mono ?_
        rintro x' w81 ⟨rfl, hb82⟩
        dsimp only
        exact ⟨rfl, FreshE.bad3 (by simp [hn1]) (below_2 hs78.since hb82)⟩
      · refine (hs78.yes l1 hn1).mono ?_
        rintro x' w81 ⟨rfl, hb82⟩
        dsimp only
        have hs83 := hs78.keep hb82
        have hq84 := hq79.below' hb82
        refine hK80.out _ _ (fun _ => hs83) ?_
        try simp only [Act.put]
        refine wpAnyT_one (i := 11) (by kernel_rfl) rfl ?_
        intro K85 hK85
        go_simp
        go_at_call 18
        rcases hn2 : numE c with _ | _
        · refine (hs83.no l2 hn2).mono ?_
          rintro x' w86 ⟨rfl, hb87⟩
          dsimp only
          exact ⟨rfl, FreshE.bad3 (by simp [hn2]) (below_2 hs83.since hb87)⟩
        · refine (hs83.yes l2 hn2).mono ?_
          rintro x' w86 ⟨rfl, hb87⟩
          dsimp only
          have hs88 := hs83.keep hb87
          have hq89 := hq84.below' hb87
          refine hK85.out _ _ (fun _ => hs88) ?_
          try simp only [Act.put]
          refine wpAnyT_one (i := 15) (by kernel_rfl) rfl ?_
          intro K90 hK90
          go_simp
          go_at_call 18
          rcases hn3 : numE e with _ | _
          · refine (hs88.no l3 hn3).mono ?_
            rintro x' w91 ⟨rfl, hb92⟩
            dsimp only
            exact ⟨rfl, FreshE.bad3 (by simp [hn3]) (below_2 hs88.since hb92)⟩
          · refine (hs88.yes l3 hn3).mono ?_
            rintro x' w91 ⟨rfl, hb92⟩
            dsimp only
            have hs93 := hs88.keep hb92
            have hq94 := hq89.below' hb92
            refine hK90.out _ _ (fun _ => hs93) ?_
            try simp only [Act.put]
            refine wpAnyT_take 16 (i := 16) (v := ?v16_17) rfl (by kernel_rfl) (by kernel_rfl) (by kernel_rfl) (by kernel_rfl) (by kernel_rfl) (fun _ _ _ h => h) (by rfl) ?hy16_17 hs93 ?rest16_17
            case hy16_17 => (intro w hSw; go_simp; (try with_reducible rfl))
            simp only [Act.put]
            refine wpAnyT_one (i := 18) (by kernel_rfl) rfl ?_
            intro K95 hK95
            rw [if_pos (by rfl)]
            refine wp_store_row 30 _ _ rfl (w.heap.size) #[.int .i64 (atoiN a), .int .i64 (atoiN b), .int .i64 (atoiN c), .int .i64 (atoiN e)] rfl rfl 30 _ hq94 (by kernel_rfl) rfl (by simp [Value.oneCell']) ?_
            obtain ⟨w5, -, e5, q5, g5⟩ := row_stored (P := Tryz.prog) (ty := 30) (cells := #[.int .i64 (atoiN a), .int .i64 (atoiN b), .int .i64 (atoiN c), .int .i64 (atoiN e)]) hq94 (by kernel_rfl) rfl (by simp [Value.oneCell'])
            have hs5 := hs93.put g5 hl74 (Nat.le_trans HS.out.below.size hl74) (HS.out.wds.keep (hs93.since.grown g5 hs93.since.size (fun i hi => by cases hi; exact hl74)))
            have HQ5 := Lib.hid q5
            have HS5 := Lib.hid hs5
            refine hK95.out _ _ (fun h => absurd h (by decide)) ?_
            refine wpAnyT_done (by kernel_rfl) ?_ _
            rw [← e5]
            clear e5 q5 g5 hs5
            have HXB5 := Lib.hid (HX.out.below' HS5.out.since)
            have hru := newC_ok (a := a) (b := b) (c := c) (e := e) hn0 hn1 hn2 hn3
            have HRU := Lib.hid hru
            have HDI := Lib.hid (DI.new HS5.out.env HS5.out.below.size)
            have HS6 := Lib.hid (HS5.out.alloc (.cells Tryz.zeroCells65 65))
            have HQ6 := Lib.hid (HQ5.out.alloc (.cells Tryz.zeroCells65 65))
            have HXB6 := Lib.hid (HXB5.out.alloc (.cells Tryz.zeroCells65 65))
            clear hru HS5 HQ5 HXB5
            go_wp2_with fail
            go_at_call 19
            refine (sx_first HDI.out).mono ?_
            rintro x' w7 ⟨sb, v, rfl, hsx, hsb, hb7⟩
            dsimp only
            have HS7 := Lib.hid (HS6.out.keep hb7)
            have HQ7 := Lib.hid (HQ6.out.below' hb7)
            have HXB7 := Lib.hid (HXB6.out.below' hb7)
            have HSX7 := Lib.hid hsx
            clear hsx hsb hb7 HS6 HQ6 HXB6 HDI
            obtain ⟨r0, r1, r2, r3⟩ := tok_cells HQ7.out
            go_wp2_with fail
            go_at_call 20
            refine (must_nil _).mono ?_
            rintro x' w8 ⟨rfl, rfl⟩
            dsimp only
            go_wp2_with fail
            go_at_call 21
            rcases HRU.out with ⟨hru, hc⟩ | ⟨hru, hc⟩
            · refine (svc_new_no (r := ⟨atoiN a, atoiN b, atoiN c, atoiN e⟩) hru).mono ?_
              rintro x' w8 ⟨rfl, hb⟩
              dsimp only
              have HS8 := Lib.hid (HS7.out.keep hb)
              have HC := Lib.hid hc
              rw [errV_n (show (2 : Int) ≠ 0 by decide)]
              clear hb hru hc HS7 HQ7 HXB7 HSX7 r0 r1 r2 r3
              go_wp2_with fail
              go_at_call 20
              refine (must_no 2 _ HS8.out.et).mono ?_
              rintro x' w9 ⟨rfl, hb⟩
              dsimp only
              exact ⟨rfl, .inr ⟨by rw [HC.out]; decide, by rw [HC.out], below_2 HS8.out.since hb⟩⟩
            · refine (svc_new_yes (r := ⟨atoiN a, atoiN b, atoiN c, atoiN e⟩) HSX7.out hru).mono ?_
              rintro x' w8 ⟨vb, rfl, hsw, hvb, hb⟩
              dsimp only
              have HS8 := Lib.hid (HS7.out.keep hb)
              have HQ8 := Lib.hid (HQ7.out.below' hb)
              have HXB8 := Lib.hid (HXB7.out.below' hb)
              have HSW8 := Lib.hid hsw
              have HC := Lib.hid hc
              clear hsw hvb hb hru hc HS7 HQ7 HXB7 HSX7 r0 r1 r2 r3
              go_wp2_with fail
              go_at_call 20
              refine (must_nil _).mono ?_
              rintro x' w9 ⟨rfl, rfl⟩
              dsimp only
              obtain ⟨r0, r1, r2, r3⟩ := tok_cells HQ8.out
              obtain ⟨y0, y1, y2, y3, y4, y5, y6⟩ := seven_cells HXB8.out
              have hz := HXB8.out.frozen
              obtain ⟨n1, n2⟩ := seven_put HXB8.out (.pointer (some ⟨w5.heap.size, 0, none⟩)) (.pointer (some ⟨sb, 0, none⟩)) (.pointer (some ⟨vb, 0, none⟩)) (.int .i64 (atoiN a)) (.int .i64 (atoiN b)) (.int .i64 (atoiN c)) (.int .i64 (atoiN e))
              have HE := Lib.hid (FreshE.good (W := W) (w := w) (xb := xb) HC.out n1 n2 HSW8.out HS8.out HXB8.out HB.out)
              clear n1 n2 HS8 HQ8 HSW8
              go_wp2_with fail
              go_ret
              exact HE.out
end Go.Proofs.YtepjcdjpikbbjaaGreatDoor

/-
  The desk's commands: new.
-/
namespace Go.Proofs.YtepjcdjpikbbjaaGreatDoor
open Go.RowKit Go.Sort

theorem SW.more {B vb sb db k : Nat} {r : Ru} {z : SS} {v : Value} {w : World} (h : SW B vb sb db k r z v w) : ∀ n : Nat, SW B vb sb db (k + n) r z v w
  | 0 => h
  | n + 1 => (SW.more h n).later
theorem DKW.more {W w : World} {xb vb sb db k : Nat} {r : Ru} {z : SS} {v : Value} (h : DKW W xb vb sb db k r z v w) (n : Nat) : DKW W xb vb sb db (k + n) r z v w := ⟨h.at_, h.sw.more n, h.bx, h.below, h.err, h.eg⟩
theorem FreshE.done {W w w' : World} {xb vb sb db k : Nat} {r : Ru} {z : SS} {v : Value} {a b c e : List UInt8} {x : Ending} (h : DKW W xb vb sb db k r z v w) (hf : FreshE W w xb a b c e x w') : DkDone W w xb k (newD ⟨r, z⟩ [a, b, c, e]) x w' := by
  have hn : newD ⟨r, z⟩ [a, b, c, e] = if (numE a && numE b && numE c && numE e) = true then (if ruB ⟨atoiN a, atoiN b, atoiN c, atoiN e⟩ = true then (⟨⟨atoiN a, atoiN b, atoiN c, atoiN e⟩, newS⟩, txt newN, 0) else bad ⟨r, z⟩ 2) else bad ⟨r, z⟩ 3 := rfl
  rw [hn]
  rcases hf with ⟨hc, rfl, ⟨vb', sb', db', v', hd⟩, hst⟩ | ⟨hc, rfl, hb⟩
  · unfold newC at hc
    split at hc
    · rename_i h1
      split at hc
      · rename_i h2
        rw [if_pos h1, if_pos h2]
        exact ⟨.inl ⟨rfl, rfl⟩, ⟨vb', sb', db', v', by have := hd.more (k + 1); rw [Nat.zero_add] at this; exact this⟩, hst⟩
      · cases hc
    · cases hc
  · unfold newC at hc ⊢
    split at hc
    · rename_i h1
      split at hc
      · exact absurd rfl hc
      · rename_i h2
        rw [if_pos h1, if_pos h1, if_neg h2, if_neg h2]
        exact h.thrown hb (c := 2) (by decide)
    · rename_i h1
      rw [if_neg h1, if_neg h1]
      exact h.thrown hb (c := 3) (by decide)
section
variable {W w : World} {xb vb sb db k : Nat} {r : Ru} {z : SS} {v : Value}
set_option maxHeartbeats 4000000 in
set_option maxRecDepth 100000 in
theorem desk_new (h : DKW W xb vb sb db k r z v w) (hk : k < 1000000) (g off c : Nat) (L : List (List UInt8)) (hw : WAt w g off L) (hl : ∀ x ∈ L, x.length ≤ 5000) :
    Calls Tryz.prog 7 #[.pointer (some ⟨xb, 0, none⟩), .slice (some ⟨g, off, none⟩) L.length c] w (DkDone W w xb k (newD ⟨r, z⟩ L)) := by
  obtain ⟨⟩ := used3 hk hw hl
  by_cases hL : L.length = 4
  · rcases L with _ | ⟨a, _ | ⟨b, _ | ⟨c_, _ | ⟨e_, _ | ⟨_, L⟩⟩⟩⟩⟩
    · exact absurd hL (by simp)
    · exact absurd hL (by simp)
    · exact absurd hL (by simp)
    · exact absurd hL (by simp)
    · clear hL
      have HWT := Lib.hid hw
      have d0 := hw.2 0 a rfl
      have d1 := hw.2 1 b rfl
      have d2 := hw.2 2 c_ rfl
      have d3 := hw.2 3 e_ rfl
      have l0 := hl a (by simp)
      have l1 := hl b (by simp)
      have l2 := hl c_ (by simp)
      have l3 := hl e_ (by simp)
      simp only [Nat.add_zero, List.length_cons, List.length_nil, Nat.zero_add, Nat.reduceAdd] at *
      clear hw hl
      have hf := desk_fresh (W := W) (w := w) (xb := xb) (g := g) (off := off) (cp := c) (a := a) (b := b) (c := c_) (e := e_) (show Blk w xb 32 #[.pointer (some ⟨db, 0, none⟩), .pointer (some ⟨sb, 0, none⟩), .pointer (some ⟨vb, 0, none⟩), .int .i64 r.key, .int .i64 r.idle, .int .i64 r.life, .int .i64 r.access] from h.at_) h.bx ⟨h.below, Below.refl _ _, h.env, HWT.out, h.err, h.eg⟩ l0 l1 l2 l3
      exact hf.mono fun _ _ q => q.done h
    · exact absurd hL (by simp)
  · have hbad : newD ⟨r, z⟩ L = bad ⟨r, z⟩ 3 := by
      unfold newD
      split
      · exact absurd rfl hL
      · rfl
    rw [hbad]
    have HM := Lib.hid (words_no (some ⟨g, off, none⟩) L.length c 4 w h.et (by simpa using (show (L.length : Int) ≠ 4 by omega)))
    have H := Lib.hid h
    clear h hw hl hL hbad hk
    unfold Thrown at HM
    go_enter Tryz.func7, Tryz.ntmps7
    go_wp2_with fail
    go_at_call 17
    refine HM.out.mono ?_
    rintro e w0 ⟨rfl, hb⟩
    dsimp only
    exact ⟨rfl, H.out.thrown hb (by decide)⟩
end
end Go.Proofs.YtepjcdjpikbbjaaGreatDoor
