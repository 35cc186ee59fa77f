/-
  The desk's commands: open.
-/
import Derived.Test.YtepjcdjpikbbjaaGreatDoorP22
import Derived.Test.YtepjcdjpikbbjaaGreatDoorP05
import Derived.Deep.RegionHeld3
import Derived.Test.YtepjcdjpikbbjaaGreatDoorP01
import Derived.Laws.Tables
namespace Go.Proofs.YtepjcdjpikbbjaaGreatDoor
open Go.RowKit Go.Sort

/-- a store, where a desk's block has turned -/
theorem SX.off_ {B sb db k xb : Nat} {z : SS} {v : Value} {w w' : World} {cs : Array Value} (h : SX B sb db k z v w) (hg : w.grownBy w' (some xb)) (hb : Blk w xb 32 cs) (hB : B ≤ xb) : SX B sb db k z v w' := by
  obtain ⟨D, n, f, x, h1, h2, h3⟩ := h
  have hbl : Below B w w' := (Below.refl _ _).grown hg h1.big (fun i hi => by cases hi; exact hB)
  have env := h1.env.keep hbl
  have dk := h1.disk.grown hg (by simpa using Blk.ne_ h1.disk.at_ hb (by decide))
  exact ⟨D, n, f, x, ⟨env, Blk.grown h1.st hg (by simpa using Blk.ne_ h1.st hb (by decide)), dk, h1.row.kept hg (h1.row.apart hb (by decide)), h1.bs, h1.bd⟩, ⟨env, dk, h1.bd, Nat.le_trans h1.big hbl.size, h2.fits, h2.fit, h2.inv⟩, h3⟩
theorem SW.off_ {B vb sb db k xb : Nat} {r : Ru} {z : SS} {v : Value} {w w' : World} {cs : Array Value} (h : SW B vb sb db k r z v w) (hg : w.grownBy w' (some xb)) (hb : Blk w xb 32 cs) (hB : B ≤ xb) : SW B vb sb db k r z v w' :=
  ⟨h.at_.grown hg (by simpa using h.at_.ne_ hb (by decide)), h.sx.off_ hg hb hB, h.right, h.bv⟩
section
variable {W w : World} {xb vb sb db k : Nat} {r : Ru} {z : SS} {v : Value}
set_option maxHeartbeats 4000000 in
set_option maxRecDepth 100000 in
theorem desk_open (h : DKW W xb vb sb db k r z v w) (hk : k < 1000000) (g off c : Nat) (L : List (List UInt8)) (hw : WAt w g off L) (hl : ∀ x ∈ L, x.length ≤ 5000) :
    Calls Tryz.prog 70 #[.pointer (some ⟨xb, 0, none⟩), .slice (some ⟨g, off, none⟩) L.length c] w (DkDone W w xb k (openD ⟨r, z⟩ L)) := by
  obtain ⟨⟩ := used3 hk hw hl
  by_cases hL : L.length = 0
  · obtain rfl : L = [] := List.eq_nil_of_length_eq_zero hL
    clear hL hw hl
    simp only [List.length_nil]
    have H := Lib.hid h
    have hD : openD ⟨r, z⟩ [] = (⟨r, openS z⟩, txt openN, 0) := rfl
    rw [hD]
    have HC := Lib.hid (sx_cut h.sw.sx (-1))
    obtain ⟨c0, c1, c2, c3, c4, c5, c6, hlt⟩ := h.seven
    clear h hk hD
    go_enter Tryz.func70, Tryz.ntmps70
    go_wp2_with fail
    go_at_call 17
    refine (words_yes _ 0 c w).mono ?_
    rintro e w0 ⟨rfl, rfl⟩
    go_wp2_with fail
    go_at_call 119
    refine HC.out.mono ?_
    rintro x' w1 ⟨rfl, hs, hg⟩
    dsimp only
    have h1 := H.out.two (Two.of_two hg) (H.out.sw.two (Two.of_two hg) hs)
    have HD1 := Lib.hid h1.1
    have HST1 := Lib.hid h1.2
    clear hs hg h1 HC c0 c1 c2 c3 c4 c5 c6 hlt
    obtain ⟨c0, c1, c2, c3, c4, c5, c6, hlt⟩ := HD1.out.seven
    have HO := Lib.hid (sx_open HD1.out.sw.sx)
    unfold OpenX at HO
    go_wp2_with fail
    go_at_call 19
    refine HO.out.mono ?_
    rintro x' w2 ⟨sb', v', rfl, hsx, -, hsb, hb⟩
    dsimp only
    have HX2 := Lib.hid (show SX W.heap.size sb' db k (openS z) v' w2 from hsx.free rfl z.left)
    have HD2 := Lib.hid (HD1.out.keep hb)
    have HST2 := Lib.hid (HST1.out.trans (StayD.of_below hb))
    clear hsx hsb hb HO HD1 HST1 c0 c1 c2 c3 c4 c5 c6 hlt
    go_wp2_with fail
    go_at_call 20
    refine (must_nil _).mono ?_
    rintro x' w4 ⟨rfl, rfl⟩
    have hz2 := HD2.out.at_.frozen
    obtain ⟨c0, c1, c2, c3, c4, c5, c6, hlt⟩ := HD2.out.seven
    have at3 : Blk (w2.setCell ⟨xb, 1, none⟩ (.pointer (some ⟨sb', 0, none⟩))) xb 32 (dkCs db sb' vb r) := HD2.out.at_.put_ 1 (.pointer (some ⟨sb', 0, none⟩)) (cs' := dkCs db sb' vb r) rfl
    have g3 : w2.grownBy (w2.setCell ⟨xb, 1, none⟩ (.pointer (some ⟨sb', 0, none⟩))) (some xb) := only_set1 w2 xb ⟨xb, 1, none⟩ rfl (.pointer (some ⟨sb', 0, none⟩))
    have HX3 := Lib.hid (HX2.out.off_ g3 HD2.out.at_ HD2.out.bx)
    have HST3 := Lib.hid (HST2.out.trans (StayD.of_one g3 HD2.out.at_ (by decide)))
    have HB3 := Lib.hid (HD2.out.below.grown g3 HD2.out.below.size (fun i hi => by cases hi; exact HD2.out.bx))
    have HAT3 := Lib.hid at3
    clear at3 g3 HX2 HST2
    go_wp2_with fail
    generalize w2.setCell ⟨xb, 1, none⟩ (.pointer (some ⟨sb', 0, none⟩)) = w3 at *
    have HN := Lib.hid (svc_new_yes HX3.out H.out.sw.right)
    go_at_call 21
    refine HN.out.mono ?_
    rintro x' w4 ⟨vb', rfl, hsw, hvb, hb⟩
    dsimp only
    have hat4 := HAT3.out.below' hb
    have hz4 := hat4.frozen
    have y2 := hat4.cell 2
    have at5 : Blk (w4.setCell ⟨xb, 2, none⟩ (.pointer (some ⟨vb', 0, none⟩))) xb 32 (dkCs db sb' vb' r) := hat4.put_ 2 (.pointer (some ⟨vb', 0, none⟩)) (cs' := dkCs db sb' vb' r) rfl
    have g5 : w4.grownBy (w4.setCell ⟨xb, 2, none⟩ (.pointer (some ⟨vb', 0, none⟩))) (some xb) := only_set1 w4 xb ⟨xb, 2, none⟩ rfl (.pointer (some ⟨vb', 0, none⟩))
    have HE := Lib.hid (show DkDone W w xb k (⟨r, openS z⟩, txt openN, 0) (.returned (.string (txt openN))) (w4.setCell ⟨xb, 2, none⟩ (.pointer (some ⟨vb', 0, none⟩))) from
      ⟨.inl ⟨rfl, rfl⟩, ⟨vb', sb', db, v', DKW.later ⟨at5, hsw.off_ g5 hat4 HD2.out.bx, HD2.out.bx, (below_2 HB3.out hb).grown g5 (below_2 HB3.out hb).size (fun i hi => by cases hi; exact HD2.out.bx), HD2.out.err, HD2.out.eg⟩⟩, (HST3.out.trans (StayD.of_below hb)).trans (StayD.of_one g5 hat4 (by decide))⟩)
    clear hsw hvb hb hat4 at5 g5 HX3 HST3 HB3 HAT3 HN HD2 hz2 c0 c1 c2 c3 c4 c5 c6 hlt
    go_wp2_with fail
    go_at_call 20
    refine (must_nil _).mono ?_
    rintro x' w6 ⟨rfl, rfl⟩
    go_wp2_with fail
    go_ret
    exact HE.out
  · have hbad : openD ⟨r, z⟩ L = bad ⟨r, z⟩ 3 := by
      unfold openD
      split
      · exact absurd rfl hL
      · rfl
    rw [hbad]
    have HM := Lib.hid (words_no (some ⟨g, off, none⟩) L.length c 0 w h.et (by simpa using (show (L.length : Int) ≠ 0 by omega)))
    have H := Lib.hid h
    clear h hw hl hL hbad hk
    unfold Thrown at HM
    go_enter Tryz.func70, Tryz.ntmps70
    go_wp2_with fail
    go_at_call 17
    refine HM.out.mono ?_
    rintro e w0 ⟨rfl, hb⟩
    dsimp only
    exact ⟨rfl, H.out.thrown hb (by decide)⟩
end
end Go.Proofs.YtepjcdjpikbbjaaGreatDoor

/-
  Lemmas on rows of numbers and sums of texts (out of RefWriteEv, RefWriteEv2), for a cut without an event's line by the reference.
-/
namespace Go.Proofs.YtepjcdjpikbbjaaGreatDoor
open Go.RowKit Go.Sort

theorem add_any (a b : ByteArray) (h : a.size + b.size ≤ 9223372036854775807) (w : World) : (Op.stringOp .add a b).run Tryz.prog w = .ok (.string (a ++ b)) w := run_string_add_sum w a b h
theorem ints_3 (w : World) (T : TypeId) (a b c : Int) : IntsAt (w.alloc (.cells #[.int .i64 a, .int .i64 b, .int .i64 c] T)) w.heap.size [a, b, c] := ints_new w T [a, b, c]
theorem IntsAt.alloc {w : World} {g : Nat} {L : List Int} (h : IntsAt w g L) (o : Obj) : IntsAt (w.alloc o) g L := h.below ((Below.refl _ _).alloc (Nat.le_refl _) o)
theorem IntsAt.drw {w : World} {g : Nat} {L : List Int} (h : IntsAt w g L) : IntsAt w.drew g L := h
theorem ints_31 (w : World) (o : Obj) (T : TypeId) (a b c : Int) : IntsAt ((w.alloc o).alloc (.cells #[.int .i64 a, .int .i64 b, .int .i64 c] T)) (w.heap.size + 1) [a, b, c] := by
  have h := ints_new (w.alloc o) T [a, b, c]
  simpa using h
theorem keep_fam9 {W w w' : World} {g : Nat} {v0 v1 v2 v3 v4 v5 v6 v7 v8 : Value} (h8 : w.cell? ⟨g, 8, none⟩ = some v8) (h0 : w.cell? ⟨g, 0, none⟩ = some v0) (h1 : w.cell? ⟨g, 1, none⟩ = some v1) (h2 : w.cell? ⟨g, 2, none⟩ = some v2) (h3 : w.cell? ⟨g, 3, none⟩ = some v3)
    (h4 : w.cell? ⟨g, 4, none⟩ = some v4) (h5 : w.cell? ⟨g, 5, none⟩ = some v5) (h6 : w.cell? ⟨g, 6, none⟩ = some v6) (h7 : w.cell? ⟨g, 7, none⟩ = some v7) (hW : WB W w) (hb : Below w.heap.size w w') :
    w'.cell? ⟨g, 8, none⟩ = some v8 ∧ w'.cell? ⟨g, 0, none⟩ = some v0 ∧ w'.cell? ⟨g, 1, none⟩ = some v1 ∧ w'.cell? ⟨g, 2, none⟩ = some v2 ∧ w'.cell? ⟨g, 3, none⟩ = some v3 ∧ w'.cell? ⟨g, 4, none⟩ = some v4 ∧ w'.cell? ⟨g, 5, none⟩ = some v5 ∧ w'.cell? ⟨g, 6, none⟩ = some v6 ∧ w'.cell? ⟨g, 7, none⟩ = some v7 ∧ WB W w' := by
  have hlt : g < w.heap.size := World.block_lt_of_cell? w _ h0
  refine ⟨?_, keep_fam h0 h1 h2 h3 h4 h5 h6 h7 hW hb⟩
  rw [hb.cell (p := ⟨g, 8, none⟩) hlt]; exact h8
theorem ints_11 (w : World) (o : Obj) (T : TypeId) (b : Int) : IntsAt ((w.alloc o).alloc (.cells #[.int .i64 b] T)) (w.heap.size + 1) [b] := by
  have h := ints_new (w.alloc o) T [b]
  simpa using h
theorem ints_1 (w : World) (T : TypeId) (b : Int) : IntsAt (w.alloc (.cells #[.int .i64 b] T)) w.heap.size [b] := ints_new w T [b]
end Go.Proofs.YtepjcdjpikbbjaaGreatDoor

/-
  The desk's commands: log.
-/
namespace Go.Proofs.YtepjcdjpikbbjaaGreatDoor
open Go.RowKit Go.Sort

section
variable {W w : World} {xb vb sb db k : Nat} {r : Ru} {z : SS} {v : Value}
set_option maxHeartbeats 4000000 in
set_option maxRecDepth 100000 in
theorem desk_log (h : DKW W xb vb sb db k r z v w) (hk : k < 1000000) (g off c : Nat) (L : List (List UInt8)) (hw : WAt w g off L) (hl : ∀ x ∈ L, x.length ≤ 5000) :
    Calls Tryz.prog 68 #[.pointer (some ⟨xb, 0, none⟩), .slice (some ⟨g, off, none⟩) L.length c] w (DkDone W w xb k (logD ⟨r, z⟩ L)) := by
  obtain ⟨⟩ := used3 hk hw hl
  by_cases hL : L.length = 0
  · obtain rfl : L = [] := List.eq_nil_of_length_eq_zero hL
    clear hL hw hl
    simp only [List.length_nil]
    have H := Lib.hid h
    have hD : logD ⟨r, z⟩ [] = (⟨r, z⟩, joinS [z.log] ++ ⟨#[32]⟩ ++ downS_ z.down, 0) := rfl
    rw [hD]
    have hlog := h.sw.sx.log_
    have hok : okI z.log := ⟨by omega, by omega⟩
    have zj := joinS_size (L := [z.log]) (by simp) (by simpa using hok)
    have zd : (downS_ z.down).size ≤ 5 := by unfold downS_; split <;> decide
    have sp : (⟨#[32]⟩ : ByteArray).size = 1 := rfl
    have q1 := add_any (joinS [z.log]) ⟨#[32]⟩ (by omega)
    have q2 := add_any (joinS [z.log] ++ ⟨#[32]⟩) (downS_ z.down) (by simp only [ByteArray.size_append]; omega)
    have HL := Lib.hid (fun w (h : DKW W xb vb sb db k r z v w) => sx_log h.sw.sx)
    have HDN := Lib.hid (fun w (h : DKW W xb vb sb db k r z v w) => sx_down h.sw.sx)
    have HJ := Lib.hid (fun g w hw hi => desk_join g [z.log] w hw hi (by simp) (by simp) (by simpa using hok))
    simp only [List.length_cons, List.length_nil, Nat.zero_add] at HJ
    have HFB := Lib.hid (fun w => (show Calls Tryz.prog 45 #[.bool z.down] w (fun e w' => e = .returned (.string (downS_ z.down)) ∧ w = w') from (Tryz.strconv_FormatBool z.down w).mono fun _ _ ⟨h1, h2⟩ => ⟨by rw [h1]; cases z.down <;> rfl, h2.symm⟩))
    clear h hk hD hlog hok zj zd sp
    generalize joinS [z.log] = jl at *
    generalize downS_ z.down = dn at *
    go_enter Tryz.func68, Tryz.ntmps68
    go_wp2_with fail
    go_at_call 17
    refine (words_yes _ 0 c w).mono ?_
    rintro e w0 ⟨rfl, rfl⟩
    go_wp2_with fail
    have HSD := H.out.drew
    have HBD := Lib.hid (below_dr (Below.refl w.heap.size w))
    have HD : w.drew.cell? ⟨xb, 1, none⟩ = some (.pointer (some ⟨sb, 0, none⟩)) := HSD.seven.2.1
    go_region_held3 (fun w' => w'.cell? ⟨xb, 1, none⟩ = some (.pointer (some ⟨sb, 0, none⟩)))
      (first
        | with_reducible assumption
        | with_reducible exact HD
        | with_reducible exact (DKW.seven h1).2.1
        | with_reducible exact (DKW.seven h2).2.1
        | with_reducible exact (DKW.seven h3).2.1
        | with_reducible exact (DKW.seven h4).2.1)
      (first
        | (go_at_call 128; (with_reducible refine (HL.out _ HSD).mono ?_); rintro x' w1 ⟨rfl, hb1⟩
           have h1 := HSD.keep hb1
           have hB1 := below_2 HBD.out hb1
           have hal := (Below.refl w1.heap.size w1).alloc (Nat.le_refl _) (.cells #[.int .i64 z.log] 3)
           have h2 := h1.keep hal
           have hB2 := below_2 hB1 hal
           have hi2 := ints_1 w1 3 z.log)
        | (go_at_call 121; (with_reducible refine (HJ.out _ _ h2.env.wb hi2).mono ?_); rintro x' w3 ⟨rfl, hb3⟩
           have h3 := h2.keep hb3
           have hB3 := below_2 hB2 hb3)
        | (go_at_call 129; (with_reducible refine (HDN.out _ h3).mono ?_); rintro x' w4 ⟨rfl, hb4⟩
           have h4 := h3.keep hb4
           have hB4 := below_2 hB3 hb4)
        | (go_at_call 45; (with_reducible refine (HFB.out _).mono ?_); rintro x' w5 ⟨rfl, rfl⟩))
    have HB := Lib.hid hB4
    clear HD HSD HBD hB4 h4 h3 h2 h1 hB3 hB2 hB1
    go_wp2_with fail
    go_ret
    exact H.out.told HB.out _
  · have hbad : logD ⟨r, z⟩ L = bad ⟨r, z⟩ 3 := by
      unfold logD
      split
      · exact absurd rfl hL
      · rfl
    rw [hbad]
    have HM := Lib.hid (words_no (some ⟨g, off, none⟩) L.length c 0 w h.et (by simpa using (show (L.length : Int) ≠ 0 by omega)))
    have H := Lib.hid h
    clear h hw hl hL hbad hk
    unfold Thrown at HM
    go_enter Tryz.func68, Tryz.ntmps68
    go_wp2_with fail
    go_at_call 17
    refine HM.out.mono ?_
    rintro e w0 ⟨rfl, hb⟩
    dsimp only
    exact ⟨rfl, H.out.thrown hb (by decide)⟩
end
end Go.Proofs.YtepjcdjpikbbjaaGreatDoor

/-
  A whole row stored into a block of its own.
-/
namespace Go.Proofs.YtepjcdjpikbbjaaGreatDoor
open Go.RowKit

theorem row_stored {P : Program} {w : World} {g : Nat} {T ty : TypeId} {old cells : Array Value} (h : Blk w g T old) (hi : (P.info? ty).map (·.size) = some cells.size) (ho : old.size = cells.size) (h1 : cells.all (·.oneCell') = true) :
    ∃ w', (storeVar ty ⟨g, 0, none⟩ (.agg cells)).run P w = .ok () w' ∧ w' = w.setRow g cells ∧ Blk w' g T cells ∧ w.grownBy w' (some g) :=
  ⟨w.setRow g cells, run_storeVar_row w g T ty old cells h hi ho h1, rfl, setRow_heap w g old cells T (0, 0) h, ⟨rfl, rfl, rfl, by simp [World.setRow], fun k _ hk => setRow_other w g k _ (fun e => hk (by simp [e]))⟩⟩
end Go.Proofs.YtepjcdjpikbbjaaGreatDoor
