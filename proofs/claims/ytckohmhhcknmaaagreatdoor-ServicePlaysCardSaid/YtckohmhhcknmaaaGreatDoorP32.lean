/-
  ServicePlays: rules that may not be; a list that is too long.
-/
import Derived.Test.YtckohmhhcknmaaaGreatDoorP30
import Derived.Test.YtckohmhhcknmaaaGreatDoorP31
import Derived.Test.YtckohmhhcknmaaaGreatDoorP01
namespace Go.Proofs.YtckohmhhcknmaaaGreatDoor
open Go.RowKit Go.Sort

set_option maxHeartbeats 16000000 in
set_option maxRecDepth 100000 in
theorem serv_no (W : World) (A : Option Addr) (cap n : Nat) (r : Ru) (hr : ruB r = false) (hE : n ≤ 100) (hEnv : Env W.heap.size W) (het : ErrType W) :
    Calls Tryz.prog 5 #[.agg #[.int .i64 r.key, .int .i64 r.idle, .int .i64 r.life, .int .i64 r.access], .slice A n cap] W fun x w' => x = .returned (.bool true) ∧ Below W.heap.size W w' := by
  have heg := het.lt
  have HEN := Lib.hid hEnv
  have HET := Lib.hid het
  have HNN := Lib.hid (fun w => svc_new_nil r w)
  have HNY := Lib.hid (fun sb w => svc_new_no (sb := sb) (r := r) (W := w) hr)
  have HRR := Lib.hid (fun w => ref_right r w)
  rw [hr] at HRR
  have HB2 := Lib.hid (fun w h => bare_like 2 w h)
  have HBN := Lib.hid (fun w h => bare_like 7 w h)
  rw [errV_n (by decide)] at HBN
  clear hEnv het hr
  obtain ⟨ky, il, li, ac⟩ := r
  dsimp only at HNN HNY HRR ⊢
  have hal : Below W.heap.size W (W.alloc (.cells #[.int .i64 ky, .int .i64 il, .int .i64 li, .int .i64 ac] 28)) := (Below.refl _ _).alloc (Nat.le_refl _) _
  have h0 : DI W.heap.size (W.heap.size + 1) Dk.none_ 0 0 0 startS ((W.alloc (.cells #[.int .i64 ky, .int .i64 il, .int .i64 li, .int .i64 ac] 28)).alloc (.cells Tryz.zeroCells59 59)) := by
    have := DI.new (W := W.alloc (.cells #[.int .i64 ky, .int .i64 il, .int .i64 li, .int .i64 ac] 28)) (HEN.out.new (Nat.le_refl _) hal) hal.size
    rw [show (W.alloc (.cells #[.int .i64 ky, .int .i64 il, .int .i64 li, .int .i64 ac] 28)).heap.size = W.heap.size + 1 by simp] at this
    exact this
  have hal2 : Below W.heap.size W ((W.alloc (.cells #[.int .i64 ky, .int .i64 il, .int .i64 li, .int .i64 ac] 28)).alloc (.cells Tryz.zeroCells59 59)) := hal.alloc hal.size _
  have hr0 := (Blk.new W 28 #[.int .i64 ky, .int .i64 il, .int .i64 li, .int .i64 ac]).alloc (.cells Tryz.zeroCells59 59)
  have H0 := Lib.hid h0
  have HB0 := Lib.hid hal2
  have HR0 := Lib.hid hr0
  clear h0 hal hal2 hr0
  go_enter Tryz.func5, Tryz.ntmps5
  go_wp2_with fail
  go_at_call 17
  refine (sx_first H0.out).mono ?_
  rintro e w1 ⟨sb0, vs0, rfl, hsx, hsb, hb⟩
  have HS := Lib.hid hsx
  have HB1 := Lib.hid (below_2 HB0.out hb)
  have HR1 := Lib.hid (HR0.out.below' hb)
  clear hsx hb hsb H0 HR0
  obtain ⟨y0, y1, y2, y3⟩ := tok_cells HR1.out
  go_wp2_with fail
  go_at_call 18
  refine (HNN.out _).mono ?_
  rintro e w2 ⟨rfl, hb⟩
  have HS2 := Lib.hid (HS.out.keep hb)
  have HB2_ := Lib.hid (below_2 HB1.out hb)
  have HR2 := Lib.hid (HR1.out.below' hb)
  clear hb HS HB1 HR1 y0 y1 y2 y3
  obtain ⟨y0, y1, y2, y3⟩ := tok_cells HR2.out
  rw [errV_n (show (7 : Int) ≠ 0 by decide)]
  go_wp2_with fail
  go_at_call 18
  refine (HNY.out _ _).mono ?_
  rintro e w3 ⟨rfl, hb⟩
  have HB3 := Lib.hid (below_2 HB2_.out hb)
  have HR3 := Lib.hid (HR2.out.below' hb)
  clear hb HS2 HB2_ HR2 y0 y1 y2 y3 HNY
  go_wp2_with fail
  go_at_call 19
  refine (HBN.out _ (HET.out.below HB3.out heg)).mono ?_
  rintro e w4 ⟨rfl, hb⟩
  have HB4 := Lib.hid (below_2 HB3.out hb)
  have HR4 := Lib.hid (HR3.out.below' hb)
  clear hb HB3 HR3 HBN
  obtain ⟨y0, y1, y2, y3⟩ := tok_cells HR4.out
  go_wp2_with fail
  go_at_call 20
  refine (HRR.out _).mono ?_
  rintro e w5 ⟨rfl, hb⟩
  have HB5 := Lib.hid (below_2 HB4.out hb)
  clear hb HB4 HR4 HRR y0 y1 y2 y3
  go_wp2_with fail
  go_at_call 19
  refine (HB2.out _ (HET.out.below HB5.out heg)).mono ?_
  rintro e w6 ⟨rfl, hb⟩
  have HB6 := Lib.hid (below_2 HB5.out hb)
  clear hb HB5
  go_wp2_with fail
  go_ret
  exact ⟨rfl, HB6.out⟩
set_option maxHeartbeats 4000000 in
set_option maxRecDepth 100000 in
theorem serv_long (W : World) (A : Option Addr) (cap n : Nat) (r : Ru) (hn : n ≤ 9223372036854775807) (hE : 100 < n) :
    Calls Tryz.prog 5 #[.agg #[.int .i64 r.key, .int .i64 r.idle, .int .i64 r.life, .int .i64 r.access], .slice A n cap] W fun x w' => x = .returned (.bool true) ∧ Below W.heap.size W w' := by
  have hal := (Below.refl W.heap.size W).alloc (Nat.le_refl _) (.cells #[.int .i64 r.key, .int .i64 r.idle, .int .i64 r.life, .int .i64 r.access] 28)
  have HAL := Lib.hid hal
  clear hal
  have hd : decide (100 < (n : Int)) = true := decide_eq_true (by omega)
  go_enter Tryz.func5, Tryz.ntmps5
  go_wp2_with fail
  go_ret
  exact ⟨rfl, HAL.out⟩
end Go.Proofs.YtckohmhhcknmaaaGreatDoor

/-
  What is asked, in a slice that came in (rotorlaw's).
-/
namespace Go.Proofs.YtckohmhhcknmaaaGreatDoor
open Go.ChangeShapes Go.WideShapes Go.ChangeAt Go.RowKit Go.Deep

theorem weights_in {H : Type} {P : Program} {e : TypeId} {n : Nat} {d : DataW H} : ∀ {l : List (DataW H)}, d ∈ l → n ∈ d.weights P e → n ∈ DataW.weightsAll P e l
  | [], h, _ => by cases h
  | x :: r, h, hn => by
    unfold DataW.weightsAll
    rw [List.mem_append]
    rcases List.mem_cons.1 h with rfl | h
    · exact .inl hn
    · exact .inr (weights_in h hn)
def apD {H : Type} (d : AskP) : DataW H := .agg [.lit (.int .i64 d.what), .lit (.int .i64 d.n), .lit (.int .i64 d.t), .lit (.string d.client.data.toList), .lit (.string d.subject.data.toList), .lit (.string d.scope.data.toList)]
theorem cell_int1 : Tryz.prog.cellsOf 3 = 1 := by kernel_rfl
theorem cell_str1 : Tryz.prog.cellsOf 9 = 1 := by kernel_rfl
theorem cells_ap : Tryz.prog.cellsOf 73 = 6 := by kernel_rfl
theorem list6 {α : Type} {l : List α} (h : l.length = 6) : ∃ a b c d e f, l = [a, b, c, d, e, f] := by
  match l, h with
  | [a, b, c, d, e, f], _ => exact ⟨a, b, c, d, e, f, rfl⟩
section
variable {H : Type} {enc : TypeId × Value → H} {W : World} {base : Nat} {spare : Nat → Bool} {held : Bool}
set_option maxRecDepth 100000 in
theorem ap_trod {fuel : Nat} {c0 c1 c2 c3 c4 c5 : Value} {y : DataW H × List MemPlace} (h : DataW.trod enc Tryz.prog W base spare held fuel 73 [c0, c1, c2, c3, c4, c5] = some y) :
    ∃ d : AskP, [c0, c1, c2, c3, c4, c5] = (apCs d).toList ∧ y.1 = apD d := by
  obtain ⟨xs, n, _, hx, _, hlen, hf⟩ := DataW.trod_struct Tryz.underlying73 h
  obtain ⟨y0, y1, y2, y3, y4, y5, rfl⟩ := list6 hlen
  have k0 := hf 0 _ rfl
  have k1 := hf 1 _ rfl
  have k2 := hf 2 _ rfl
  have k3 := hf 3 _ rfl
  have k4 := hf 4 _ rfl
  have k5 := hf 5 _ rfl
  simp only [List.getElem_toArray, List.getElem_cons_zero, List.getElem_cons_succ] at k0 k1 k2 k3 k4 k5
  rw [cell_int1] at k0 k1 k2
  rw [cell_str1] at k3 k4 k5
  obtain ⟨a0, e0, rfl, _⟩ := DataW.trod_int Tryz.underlying3 k0
  obtain ⟨a1, e1, rfl, _⟩ := DataW.trod_int Tryz.underlying3 k1
  obtain ⟨a2, e2, rfl, _⟩ := DataW.trod_int Tryz.underlying3 k2
  obtain ⟨a3, e3, rfl, _⟩ := DataW.trod_string Tryz.underlying9 k3
  obtain ⟨a4, e4, rfl, _⟩ := DataW.trod_string Tryz.underlying9 k4
  obtain ⟨a5, e5, rfl, _⟩ := DataW.trod_string Tryz.underlying9 k5
  simp only [List.drop, List.take, List.cons.injEq, and_true] at e0 e1 e2 e3 e4 e5
  refine ⟨⟨a0, a1, a2, a3, a4, a5⟩, ?_, by rw [hx]; rfl⟩
  subst e0 e1 e2 e3 e4 e5
  rfl
end
theorem ap_len {H : Type} {d : AskP} (hw : ∀ n ∈ (apD d : DataW H).weights Tryz.prog 73, n ≤ reachBytes) : d.len ≤ 1000000000000000 := by
  have e1 : (apD d : DataW H).weights Tryz.prog 73 = [d.client.data.toList.length, d.subject.data.toList.length, d.scope.data.toList.length] := by
    unfold apD
    simp only [DataW.weights, Tryz.underlying73, DataW.weightsEach, List.map_cons, List.map_nil, List.append_nil, List.nil_append, List.cons_append]
  rw [e1] at hw
  simp only [size_data] at hw
  have b1 := hw d.client.size (by simp)
  have b2 := hw d.subject.size (by simp)
  have b3 := hw d.scope.size (by simp)
  have := reachBytes_lt
  unfold AskP.len
  omega
def AskP.zero : AskP := ⟨0, 0, 0, ByteArray.empty, ByteArray.empty, ByteArray.empty⟩
section
variable {H : Type} {enc : TypeId × Value → H} {W : World}
/-- nil or empty, or what is done in a row of cells -/
theorem aps_open {a0 : Option Addr} {len cap : Nat} {d : DataW H} {p : List MemPlace} (h : DataW.Trod enc Tryz.prog W 0 (fun _ => true) true 55 (.slice a0 len cap) d p) (hd : ∀ n ∈ d.weights Tryz.prog 55, n ≤ reachBytes) :
    len ≤ 9223372036854775807 ∧ ∃ (g off : Nat) (E : List AskP), E.length = len ∧ (E ≠ [] → a0 = some ⟨g, off, none⟩) ∧ (E ≠ [] → ApsAt W g off E ∧ g < W.heap.size) ∧ ∀ e ∈ E, e.len ≤ 1000000000000000 := by
  by_cases h0 : len = 0
  · subst h0
    exact ⟨by omega, 0, 0, [], rfl, fun h => absurd rfl h, fun h => absurd rfl h, fun e he => by simp at he⟩
  obtain ⟨fuel, hf⟩ := h
  rcases open_slice Tryz.underlying55 hf with ⟨hcs, _⟩ | ⟨a, len', cap', m, n, D, Pl, hcs, _, hl, hmx, hmm, hx, hi⟩
  · simp only [Value.cells, List.cons.injEq, Value.slice.injEq, and_true] at hcs
    exact absurd hcs.2.1 h0
  · simp only [Value.cells, List.cons.injEq, Value.slice.injEq, and_true] at hcs
    obtain ⟨rfl, rfl, rfl⟩ := hcs
    simp only [Prod.mk.injEq] at hx
    unfold maxLen at hmx
    have key : ∀ i, i < len → ∃ e : AskP, D i = apD e ∧ ∀ j, j < 6 → W.cell? (a.add (i * 6 + j)) = (apCs e)[j]? := by
      intro i hil
      obtain ⟨cs', hc, ht⟩ := hi i (by rw [hmm]; simp; omega)
      rw [cells_ap] at hc
      obtain ⟨_, hcl, hat⟩ := World.cells?_some hc
      obtain ⟨c0, c1, c2, c3, c4, c5, rfl⟩ := list6 hcl
      obtain ⟨e, he, hy⟩ := ap_trod ht
      refine ⟨e, hy, fun j hj => ?_⟩
      have h1 := hat j hj
      rw [Go.Deep.add_add] at h1
      rw [h1, he, Array.getElem?_toList]
    obtain ⟨ev, hev⟩ : ∃ ev : Nat → AskP, ∀ i, i < len → D i = apD (ev i) ∧ ∀ j, j < 6 → W.cell? (a.add (i * 6 + j)) = (apCs (ev i))[j]? := by
      refine ⟨fun i => if hil : i < len then Classical.choose (key i hil) else AskP.zero, fun i hil => ?_⟩
      dsimp only
      rw [dif_pos hil]
      exact Classical.choose_spec (key i hil)
    have hc0 := (hev 0 (by omega)).2 0 (by decide)
    have hsome : W.cell? (a.add 0) = some (.int .i64 (ev 0).what) := hc0
    have hsp := (cell_add hsome).2.2 rfl
    have hlt := (cell_add hsome).2.1
    refine ⟨by omega, a.block, a.off, (List.range len).map ev, by simp, fun _ => by cases a; simp_all, fun _ => ⟨?_, hlt⟩, ?_⟩
    · intro i e hie j hj
      have hil : i < len := by
        have := (List.getElem?_eq_some_iff.1 hie).1
        simpa using this
      rw [List.getElem?_map, List.getElem?_range hil] at hie
      obtain rfl := Option.some.inj hie
      have h1 := (hev i hil).2 j hj
      rw [← h1]
      unfold Addr.add
      split
      · rename_i hz
        have h2 : a.off + i * 6 + j = a.off := by omega
        rw [h2]
        congr 1
        cases a
        simp_all
      · rw [Nat.add_assoc]
    · intro e he
      obtain ⟨i, hi', rfl⟩ := List.mem_map.1 he
      have hil : i < len := List.mem_range.1 hi'
      refine ap_len (H := H) fun n hn => hd n ?_
      rw [hx.1]
      simp only [DataW.weights, Tryz.underlying55]
      refine List.mem_cons_of_mem _ (List.mem_append_left _ (weights_in (d := apD (ev i)) ?_ hn))
      rw [List.mem_map]
      exact ⟨i, hi', (hev i hil).1⟩
end
theorem serv_all (W : World) (A : Option Addr) (g off cap : Nat) (E : List AskP) (key idle life access : Int) (hn : E.length ≤ 9223372036854775807) (hA : E ≠ [] → A = some ⟨g, off, none⟩) (hd : E ≠ [] → ApsAt W g off E ∧ g < W.heap.size) (hEnv : Env W.heap.size W) (het : ErrType W) (htab : Tab15 W) (hs : ∀ d ∈ E, d.len ≤ 1000000000000000) :
    Calls Tryz.prog 5 #[.agg #[.int .i64 key, .int .i64 idle, .int .i64 life, .int .i64 access], .slice A E.length cap] W fun x w' => x = .returned (.bool true) ∧ Below W.heap.size W w' := by
  by_cases h : E.length ≤ 100
  · cases hr : ruB ⟨key, idle, life, access⟩
    · exact serv_no W A cap E.length ⟨key, idle, life, access⟩ hr h hEnv het
    · exact serv_walk W A g off cap E ⟨key, idle, life, access⟩ hr h hA hd hEnv het htab hs
  · exact serv_long W A cap E.length ⟨key, idle, life, access⟩ hn (by omega)
end Go.Proofs.YtckohmhhcknmaaaGreatDoor
