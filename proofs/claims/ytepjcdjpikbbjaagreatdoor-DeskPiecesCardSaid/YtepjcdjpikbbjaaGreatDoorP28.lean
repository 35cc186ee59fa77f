/-
  strings.FieldsFunc at blanks, in plain Lean: the words of a line.
-/
import Derived.Test.YtepjcdjpikbbjaaGreatDoorP10
import Derived.Lib.FieldsP
import Derived.Lib.DecodeN
import Derived.Lib.QuoteLoop
import Derived.Lib.RuneCount
import Derived.Lib.RuneCountTail
import Derived.Test.YtepjcdjpikbbjaaGreatDoorP22
import Derived.Defers
import Derived.Recover
import Derived.Laws.Pointers
import Derived.Test.YtepjcdjpikbbjaaGreatDoorP27
import Derived.Shelf.GgClosure.Gives
import Derived.Test.YtepjcdjpikbbjaaGreatDoorP25
namespace Go.Proofs.YtepjcdjpikbbjaaGreatDoor
open Go.RowKit

theorem size_list (s : ByteArray) : s.data.toList.length = s.size := Array.length_toList
def blankP (r : Nat) : Bool := r == 32
theorem wordsL_free {x : List UInt8} (h : (32 : UInt8) ∉ x) (h0 : x ≠ []) : wordsL x = [x] := by
  unfold wordsL
  rw [parts_none h]
  simp [h0]
theorem wordsL_head {x : List UInt8} (h : (32 : UInt8) ∉ x) (h0 : x ≠ []) (b : List UInt8) : wordsL (x ++ 32 :: b) = x :: wordsL b := by
  unfold wordsL
  rw [parts_head h, List.filter_cons, if_pos (by simpa using h0)]
theorem wordsL_blank (b : List UInt8) : wordsL (32 :: b) = wordsL b := by
  unfold wordsL
  rw [parts_sep, List.filter_cons, if_neg (by simp)]
theorem decodeN_blank (n b0 b1 b2 b3 : Nat) : (Lib.decodeN n b0 b1 b2 b3).1 = 32 ↔ b0 = 32 := by
  unfold Lib.decodeN
  repeat' split
  all_goals (constructor <;> intro h <;> (first | omega | (simp only at h; omega) | (simp only; omega)))
/-- the bytes of one rune: none is a blank, where the rune is none -/
theorem decodeN_bytes (n b0 b1 b2 b3 : Nat) (_h : b0 ≠ 32) : (1 < (Lib.decodeN n b0 b1 b2 b3).2 → b1 ≠ 32) ∧ (2 < (Lib.decodeN n b0 b1 b2 b3).2 → b2 ≠ 32) ∧ (3 < (Lib.decodeN n b0 b1 b2 b3).2 → b3 ≠ 32) ∧ (Lib.decodeN n b0 b1 b2 b3).2 ≤ 4 := by
  unfold Lib.decodeN
  repeat' split
  all_goals (refine ⟨fun hh => ?_, fun hh => ?_, fun hh => ?_, ?_⟩ <;> (first | omega | (simp only at hh; omega) | (simp only; omega)))
theorem get_bang (s : ByteArray) (i : Nat) (h : i < s.size) : s.get! i = s.data.toList[i]'(by rw [size_list]; exact h) := by
  show s.data[i]! = _
  rw [getElem!_pos s.data i h, Array.getElem_toList]
theorem take_step (l : List UInt8) (a pos k : Nat) (ha : a ≤ pos) : (l.drop a).take (pos + k - a) = (l.drop a).take (pos - a) ++ (l.drop pos).take k := by
  rw [show pos + k - a = (pos - a) + k by omega, List.take_add, List.drop_drop, show a + (pos - a) = pos by omega]
/-- the bytes of the rune at a place -/
theorem rune_free (s : ByteArray) (pos : Nat) (h : pos < s.size) (hr : (Utf8.decode s pos).1 ≠ 32) : (32 : UInt8) ∉ (s.data.toList.drop pos).take (Utf8.decode s pos).2 := by
  have hw := Lib.width_le (s.extract pos s.size) (by rw [ByteArray.size_extract]; omega)
  rw [Lib.tail_decode, Nat.add_zero, ByteArray.size_extract] at hw
  intro hm
  obtain ⟨j, hj, hje⟩ := List.mem_iff_getElem.1 hm
  simp only [List.length_take, List.length_drop] at hj
  simp only [List.getElem_take, List.getElem_drop] at hje
  have hsz := size_list s
  have hb := decodeN_blank (s.size - pos) (s.get! pos).toNat (s.get! (pos + 1)).toNat (s.get! (pos + 2)).toNat (s.get! (pos + 3)).toNat
  rw [← Lib.decode_at] at hb
  have h0 : (s.get! pos).toNat ≠ 32 := fun e => hr (hb.2 e)
  obtain ⟨c1, c2, c3, c4⟩ := decodeN_bytes (s.size - pos) (s.get! pos).toNat (s.get! (pos + 1)).toNat (s.get! (pos + 2)).toNat (s.get! (pos + 3)).toNat h0
  rw [← Lib.decode_at] at c1 c2 c3 c4
  have hg : (s.get! (pos + j)).toNat = 32 := by rw [get_bang s (pos + j) (by omega), hje]; rfl
  rcases j with _ | _ | _ | _ | j
  · exact h0 hg
  · exact c1 (by omega) hg
  · exact c2 (by omega) hg
  · exact c3 (by omega) hg
  · omega
def pieces (s : ByteArray) (x : List (Nat × Nat)) : List (List UInt8) := x.map fun y => (s.extract y.1 y.2).data.toList
theorem pieces_app (s : ByteArray) (a b : List (Nat × Nat)) : pieces s (a ++ b) = pieces s a ++ pieces s b := List.map_append
theorem extract_take (s : ByteArray) (a b : Nat) : (s.extract a b).data.toList = (s.data.toList.drop a).take (b - a) := by
  rw [ByteArray.data_extract]; simp [Array.toList_extract, List.extract_eq_take_drop]
theorem spans_step (s : ByteArray) (f pos : Nat) (st : Option Nat) (acc : List (Nat × Nat)) (hlt : pos < s.size) : Lib.spansFromP blankP s (f + 1) pos st acc = (if blankP (Utf8.decode s pos).1 then (match st with | some a => Lib.spansFromP blankP s f (pos + (Utf8.decode s pos).2) none (acc ++ [(a, pos)]) | none => Lib.spansFromP blankP s f (pos + (Utf8.decode s pos).2) none acc) else (match st with | some a => Lib.spansFromP blankP s f (pos + (Utf8.decode s pos).2) (some a) acc | none => Lib.spansFromP blankP s f (pos + (Utf8.decode s pos).2) (some pos) acc)) := by
  rw [Lib.spansFromP.eq_def]
  exact if_pos hlt
theorem spans_words (s : ByteArray) : ∀ (f pos : Nat) (st : Option Nat) (acc : List (Nat × Nat)), s.size - pos ≤ f → pos ≤ s.size → (∀ a, st = some a → a < pos ∧ (32 : UInt8) ∉ (s.data.toList.drop a).take (pos - a)) →
    pieces s (Lib.closeSpans s (Lib.spansFromP blankP s f pos st acc)) = pieces s acc ++ wordsL (s.data.toList.drop (st.getD pos)) := by
  intro f
  induction f with
  | zero =>
    intro pos st acc hf hp hst
    have hsz := size_list s
    rw [Lib.spansFromP_end _ _ _ _ _ _ (by omega)]
    have hps : pos = s.size := by omega
    cases st with
    | none => rw [Option.getD_none, hps, List.drop_of_length_le (by omega)]; simp [Lib.closeSpans, wordsL, parts]
    | some a =>
      obtain ⟨h1, h2⟩ := hst a rfl
      rw [Option.getD_some]
      have e : (s.data.toList.drop a).take (pos - a) = s.data.toList.drop a := List.take_of_length_le (by rw [List.length_drop]; omega)
      rw [e] at h2
      rw [wordsL_free h2 (by intro h; have := congrArg List.length h; rw [List.length_drop] at this; simp at this; omega)]
      simp only [Lib.closeSpans]
      rw [pieces_app]
      unfold pieces
      rw [List.map_singleton, extract_take, ← hps, e]
  | succ f ih =>
    intro pos st acc hf hp hst
    have hsz := size_list s
    by_cases hlt : pos < s.size
    · have hw := Lib.width_le (s.extract pos s.size) (by rw [ByteArray.size_extract]; omega)
      rw [Lib.tail_decode, Nat.add_zero, ByteArray.size_extract] at hw
      have hpos := Lib.decode_width_pos s pos hlt
      have hdrop : s.data.toList.drop pos = s.data.toList[pos]'(by omega) :: s.data.toList.drop (pos + 1) := List.drop_eq_getElem_cons (by omega)
      rw [spans_step s f pos st acc hlt]
      by_cases hb : (Utf8.decode s pos).1 = 32
      · have hb0 := decodeN_blank (s.size - pos) (s.get! pos).toNat (s.get! (pos + 1)).toNat (s.get! (pos + 2)).toNat (s.get! (pos + 3)).toNat
        rw [← Lib.decode_at] at hb0
        have h0 := hb0.1 hb
        have hone : (Utf8.decode s pos).2 = 1 := by
          rw [Lib.decode_at, h0]; unfold Lib.decodeN; rw [if_pos (by omega)]
        have hg : s.data.toList[pos]'(by omega) = 32 := by
          rw [get_bang s pos hlt] at h0
          exact UInt8.toNat_inj.1 (by rw [h0]; rfl)
        rw [hg] at hdrop
        rw [if_pos (by rw [hb]; rfl), hone]
        cases st with
        | none =>
          dsimp only
          rw [ih (pos + 1) none acc (by omega) (by omega) (by simp), Option.getD_none, Option.getD_none, hdrop, wordsL_blank]
        | some a =>
          dsimp only
          obtain ⟨h1, h2⟩ := hst a rfl
          rw [ih (pos + 1) none _ (by omega) (by omega) (by simp), Option.getD_none, Option.getD_some, pieces_app, List.append_assoc]
          congr 1
          have hsplit : s.data.toList.drop a = (s.data.toList.drop a).take (pos - a) ++ 32 :: s.data.toList.drop (pos + 1) := by
            rw [← hdrop]
            conv => lhs; rw [← List.take_append_drop (pos - a) (s.data.toList.drop a)]
            rw [List.drop_drop, show a + (pos - a) = pos by omega]
          have hne : (s.data.toList.drop a).take (pos - a) ≠ [] := by
            intro h; have := congrArg List.length h; simp only [List.length_take, List.length_drop, List.length_nil] at this; omega
          rw [hsplit, wordsL_head h2 hne]
          unfold pieces
          rw [List.map_singleton, extract_take]
          rfl
      · have hfree := rune_free s pos hlt hb
        rw [if_neg (by unfold blankP; simpa using hb)]
        cases st with
        | none =>
          dsimp only
          rw [ih _ (some pos) acc (by omega) (by omega) (fun a ha => by cases ha; exact ⟨by omega, by rw [show pos + (Utf8.decode s pos).2 - pos = (Utf8.decode s pos).2 by omega]; exact hfree⟩)]
          rfl
        | some a =>
          dsimp only
          obtain ⟨h1, h2⟩ := hst a rfl
          rw [ih _ (some a) acc (by omega) (by omega) (fun b hb' => by
            cases hb'
            refine ⟨by omega, ?_⟩
            rw [take_step _ a pos _ (by omega), List.mem_append, not_or]
            exact ⟨h2, hfree⟩)]
          rfl
    · rw [Lib.spansFromP_end _ _ _ _ _ _ hlt]
      have := ih pos st acc (by omega) hp hst
      rw [Lib.spansFromP_end _ _ _ _ _ _ hlt] at this
      exact this
/-- the words of a line, by strings.FieldsFunc -/
theorem fields_words (s : ByteArray) : (Lib.goFieldsP blankP s).map (·.data.toList) = wordsL s.data.toList := by
  have := spans_words s s.size 0 none [] (by omega) (by omega) (by simp)
  unfold Lib.goFieldsP Lib.spansOfP
  rw [List.map_map]
  exact this
end Go.Proofs.YtepjcdjpikbbjaaGreatDoor

/-
  The desk's line: what is deferred: it turns what was thrown into an answer.
-/
namespace Go.Proofs.YtepjcdjpikbbjaaGreatDoor
open Go.RowKit Go.Sort

/-- nothing was thrown -/
theorem line_idle (p : Addr) (w : World) :
    CallsD Tryz.prog 25 #[.pointer (some p)] .returning w fun e u' w' => e = .returned (.tuple #[]) ∧ u' = .returning ∧ w' = w := by
  refine callsD_of_wpS Tryz.func25 rfl fun c₀ cs hu => ?_
  apply wpS_seq
  apply wpS_region
  simp [wpOpsS, go_sem, recoverD, hu, Tryz.ntmps25, Exit.thenS]
  apply wpS_seq
  apply wpS_region
  simp [wpOpsS, go_sem, Exit.thenS]
  refine wpS_cond (t := false) (by simp [Act.eval]) ?_
  simp only [Bool.false_eq_true, if_false]
  refine wpS_of_wp (wp_skip ?_)
  cases c₀
  simp_all [bodyPostS, results, Tryz.results25]
theorem as_wrong (v : Value) (xT : TypeId) (w : World) : (Instr.typeAssert (.iface 73 v) xT 73 true).run Tryz.prog w = .ok (.tuple #[v, .bool true]) w := by kernel_rfl
/-- something was thrown -/
def Caught (p : Addr) (c : Int) (w : World) (e : Ending) (u' : FrameMode) (w' : World) : Prop :=
  e = .returned (.tuple #[]) ∧ u' = .panicking [{ v := .iface 73 (.agg #[.int .i64 c]), recovered := true }] ∧ ∃ w2, Below w.heap.size w w2 ∧ w' = w2.setCell p (.string (errS c))
set_option maxHeartbeats 4000000 in
set_option maxRecDepth 100000 in
theorem line_caught (p : Addr) (c : Int) (x : Value) (w : World) (hc : okI c) (hp : w.cell? p = some x) (hz : w.frozen? p = false) (hT : Tens w) :
    CallsD Tryz.prog 25 #[.pointer (some p)] (.panicking (errP c)) w (Caught p c w) := by
  have hA := as_wrong
  have HIT := Lib.hid (fun w hT => itoa_any c hc.1 hc.2 w hT)
  have hlt := World.block_lt_of_cell? w _ hp
  refine callsD_of_wpS Tryz.func25 rfl fun c₀ cs hu => ?_
  unfold errP at hu
  simp only [Tryz.ntmps25, List.size_toArray, List.length_cons, List.length_nil, Nat.reduceAdd, Nat.reduceSub, Array.replicate_succ, Array.replicate_zero, List.push_toArray, List.append_toArray, List.nil_append, List.cons_append]
  apply wpS_seq
  apply wpS_region
  simp [wpOpsS, go_sem, recoverD, hu, Exit.thenS]
  apply wpS_seq
  apply wpS_region
  simp [wpOpsS, go_sem, Exit.thenS]
  refine wpS_cond (t := true) (by simp [Act.eval]) ?_
  simp only [if_true]
  refine wpS_of_wp ?_
  clear hu
  generalize hQ : bodyPostS Tryz.prog Tryz.f25 c₀ cs (Caught p c w) = Q
  have HAL := Lib.hid ((Below.refl w.heap.size w).alloc (Nat.le_refl _) (.cells #[.int .i64 c] 73))
  have HT := Lib.hid (hT.below HAL.out hT.lt)
  have hsz : (itoS c).size ≤ 21 := by
    have := Lib.itoa_length_le c hc.1 hc.2
    show (Lib.itoa c).toArray.size ≤ 21
    rw [List.size_toArray]
    exact this
  have HP := Lib.hid hp
  have HZ := Lib.hid hz
  clear hT hc hp hz
  go_wp2_with fail
  go_at_call 26
  refine (HIT.out _ HT.out).mono ?_
  rintro e w2 ⟨rfl, hb⟩
  dsimp only
  have HB := Lib.hid (below_2 HAL.out hb)
  have hp2 : w2.cell? p = some x := (HB.out.cell hlt).trans HP.out
  have hz2 : w2.frozen? p = false := (HB.out.frozen hlt).trans HZ.out
  have HE := Lib.hid (show (⟨#[101, 114, 114, 111, 114, 32]⟩ : ByteArray) ++ itoS c = errS c from rfl)
  clear hb HP HZ HT HIT HAL
  generalize itoS c = y at *
  go_wp2_with fail
  subst hQ
  exact ⟨rfl, _, rfl, _, results_none rfl _ _ _, rfl, rfl, w2, HB.out, by rw [← HE.out]⟩
end Go.Proofs.YtepjcdjpikbbjaaGreatDoor

/-
  The desk: a line's answer.
-/
namespace Go.Proofs.YtepjcdjpikbbjaaGreatDoor
open Go.RowKit Go.Sort Go.Lib

theorem line_blank (x : Nat) (W : World) : FnGives Tryz.prog 28 #[] #[encR x] (.bool (blankP x)) W := by
  unfold FnGives
  show Calls Tryz.prog 28 #[.int .i32 (x : Int)] W _
  go_enter Tryz.func28, Tryz.ntmps28
  go_wp2_with fail
  go_ret
  refine ⟨?_, 0, (World.drewN_zero _).symm⟩
  have : ((x : Int) == 32) = blankP x := by
    unfold blankP
    by_cases h : x = 32
    · subst h; rfl
    · have h2 : ¬ ((x : Int) = 32) := by omega
      rw [beq_eq_false_iff_ne.2 h2, beq_eq_false_iff_ne.2 h]
  show Ending.returned (.bool ((x : Int) == 32)) = _
  rw [this]
/-- the words, where FieldsFunc laid them -/
theorem words_at {w : World} {b A : Nat} {F : List ByteArray} (h : w.ownsRow b 9 1 (.slice (some ⟨A, 0, none⟩) F.length F.length) F.length (F.map Value.string)) : WAt w A 0 (F.map (·.data.toList)) := by
  obtain ⟨h1, h2⟩ := h
  rcases h2 with ⟨he, _⟩ | ⟨g, cap, cur, he, _, hg, hc, _, hs, ht⟩
  · cases he
  · cases he
    refine ⟨⟨_, hg, rfl⟩, fun j x hx => ?_⟩
    have e : cur.toList = F.map Value.string := by rw [← ht, List.take_of_length_le]; simp [hs]
    rw [cell_of_row w A (0 + j) cur 9 (0, 0) hg, Nat.zero_add, ← Array.getElem?_toList, e, List.getElem?_map]
    rw [List.getElem?_map] at hx
    cases hF : F[j]? with
    | none => rw [hF] at hx; cases hx
    | some y => rw [hF] at hx; cases hx; rfl
theorem WAt.tail {w : World} {g off : Nat} {x : List UInt8} {L : List (List UInt8)} (h : WAt w g off (x :: L)) : WAt w g (off + 1) L := ⟨h.1, fun j y hy => by rw [Nat.add_assoc, Nat.add_comm 1 j]; exact h.2 (j + 1) y hy⟩
theorem WAt.none_ {w : World} {g off off' : Nat} {L : List (List UInt8)} (h : WAt w g off L) : WAt w g off' [] := ⟨h.1, fun j y hy => by cases hy⟩
/-- a store, where a cell for a string has turned -/
theorem SX.said {B sb db k xb : Nat} {z : SS} {v : Value} {w w' : World} {cs : Array Value} (h : SX B sb db k z v w) (hg : w.grownBy w' (some xb)) (hb : Blk w xb 9 cs) (hB : B ≤ xb) : SX B sb db k z v w' := by
  obtain ⟨D, n, f, x, h1, h2, h3⟩ := h
  have hbl : Below B w w' := (Below.refl _ _).grown hg h1.big (fun i hi => by cases hi; exact hB)
  have env := h1.env.keep hbl
  have dk := h1.disk.grown hg (by simpa using Blk.ne_ h1.disk.at_ hb (by decide))
  exact ⟨D, n, f, x, ⟨env, Blk.grown h1.st hg (by simpa using Blk.ne_ h1.st hb (by decide)), dk, h1.row.kept hg (h1.row.apart hb (by decide)), h1.bs, h1.bd⟩, ⟨env, dk, h1.bd, Nat.le_trans h1.big hbl.size, h2.fits, h2.fit, h2.inv⟩, h3⟩
theorem DKW.said {W w w' : World} {xb vb sb db k rb : Nat} {r : Ru} {z : SS} {v : Value} {cs : Array Value} (h : DKW W xb vb sb db k r z v w) (hg : w.grownBy w' (some rb)) (hb : Blk w rb 9 cs) (hB : W.heap.size ≤ rb) : DKW W xb vb sb db k r z v w' :=
  ⟨h.at_.grown hg (by simpa using h.at_.ne_ hb (by decide)), ⟨h.sw.at_.grown hg (by simpa using h.sw.at_.ne_ hb (by decide)), h.sw.sx.said hg hb hB, h.sw.right, h.sw.bv⟩, h.bx, h.below.grown hg h.below.size (fun i hi => by cases hi; exact hB), h.err, h.eg⟩
theorem DKE.said {W w w' : World} {xb k rb : Nat} {d : DS} {cs : Array Value} (h : DKE W xb k d w) (hg : w.grownBy w' (some rb)) (hb : Blk w rb 9 cs) (hB : W.heap.size ≤ rb) : DKE W xb k d w' := by
  obtain ⟨vb, sb, db, v, h⟩ := h
  exact ⟨vb, sb, db, v, h.said hg hb hB⟩
theorem StayD.said {w w1 w2 : World} {rb : Nat} (h : StayD w w1) (hg : w1.grownBy w2 (some rb)) (hr : w.heap.size ≤ rb) : StayD w w2 :=
  ⟨hg.os.trans h.os, hg.tape.trans h.tape, hg.output.trans h.output, Nat.le_trans h.size hg.size, fun i o hi hm => by
    have hlt := (Array.getElem?_eq_some_iff.1 hi).1
    exact (hg.block i (Nat.lt_of_lt_of_le hlt h.size) (by intro e; cases e; omega)).trans (h.block i o hi hm)⟩
def LineDone (W w : World) (xb k : Nat) (d : DS) (l : List UInt8) (e : Ending) (w' : World) : Prop := e = .returned (.string (lineD d l).2) ∧ DKE W xb (k + 1) (lineD d l).1 w' ∧ StayD w w'
/-- a line's end, its answer laid -/
theorem line_end {W w w1 : World} {xb k rb : Nat} {d d' : DS} {l : List UInt8} {x : ByteArray} {y : Value} (hl : lineD d l = (d', x)) (h : DKE W xb (k + 1) d' w1) (hs : StayD w w1) (hb : Blk w1 rb 9 #[y]) (hW : W.heap.size ≤ rb) (hr : w.heap.size ≤ rb) : LineDone W w xb k d l (.returned (.string x)) (w1.setCell ⟨rb, 0, none⟩ (.string x)) := by
  have hg := only_set1 w1 rb ⟨rb, 0, none⟩ rfl (.string x)
  unfold LineDone
  rw [hl]
  exact ⟨rfl, h.said hg hb hW, hs.said hg hr⟩
/-- the methods are there to be called -/
theorem does_enters {x : List UInt8} {m : Nat} (h : doesN x = m) : ∀ args w, (callFunc m args).run Tryz.prog w = .ok (.enter m args) w := by
  by_cases h_writes : x = writesN
  · subst h_writes
    obtain rfl : m = 78 := Int.ofNat.inj (h.symm.trans (by decide))
    exact enters_of Tryz.func78 (by kernel_rfl) rfl
  by_cases h_token : x = tokenN
  · subst h_token
    obtain rfl : m = 77 := Int.ofNat.inj (h.symm.trans (by decide))
    exact enters_of Tryz.func77 (by kernel_rfl) rfl
  by_cases h_tick : x = tickN
  · subst h_tick
    obtain rfl : m = 76 := Int.ofNat.inj (h.symm.trans (by decide))
    exact enters_of Tryz.func76 (by kernel_rfl) rfl
  by_cases h_tag : x = tagCN
  · subst h_tag
    obtain rfl : m = 75 := Int.ofNat.inj (h.symm.trans (by decide))
    exact enters_of Tryz.func75 (by kernel_rfl) rfl
  by_cases h_sweep : x = sweepN
  · subst h_sweep
    obtain rfl : m = 74 := Int.ofNat.inj (h.symm.trans (by decide))
    exact enters_of Tryz.func74 (by kernel_rfl) rfl
  by_cases h_show : x = showN
  · subst h_show
    obtain rfl : m = 73 := Int.ofNat.inj (h.symm.trans (by decide))
    exact enters_of Tryz.func73 (by kernel_rfl) rfl
  by_cases h_save : x = saveN
  · subst h_save
    obtain rfl : m = 72 := Int.ofNat.inj (h.symm.trans (by decide))
    exact enters_of Tryz.func72 (by kernel_rfl) rfl
  by_cases h_rotate : x = rotateN
  · subst h_rotate
    obtain rfl : m = 71 := Int.ofNat.inj (h.symm.trans (by decide))
    exact enters_of Tryz.func71 (by kernel_rfl) rfl
  by_cases h_open : x = openN
  · subst h_open
    obtain rfl : m = 70 := Int.ofNat.inj (h.symm.trans (by decide))
    exact enters_of Tryz.func70 (by kernel_rfl) rfl
  by_cases h_fresh : x = newN
  · subst h_fresh
    obtain rfl : m = 7 := Int.ofNat.inj (h.symm.trans (by decide))
    exact enters_of Tryz.func7 (by kernel_rfl) rfl
  by_cases h_mint : x = mintN
  · subst h_mint
    obtain rfl : m = 69 := Int.ofNat.inj (h.symm.trans (by decide))
    exact enters_of Tryz.func69 (by kernel_rfl) rfl
  by_cases h_log : x = logN
  · subst h_log
    obtain rfl : m = 68 := Int.ofNat.inj (h.symm.trans (by decide))
    exact enters_of Tryz.func68 (by kernel_rfl) rfl
  by_cases h_least : x = leastN
  · subst h_least
    obtain rfl : m = 67 := Int.ofNat.inj (h.symm.trans (by decide))
    exact enters_of Tryz.func67 (by kernel_rfl) rfl
  by_cases h_kill : x = killN
  · subst h_kill
    obtain rfl : m = 66 := Int.ofNat.inj (h.symm.trans (by decide))
    exact enters_of Tryz.func66 (by kernel_rfl) rfl
  by_cases h_help : x = helpN
  · subst h_help
    obtain rfl : m = 65 := Int.ofNat.inj (h.symm.trans (by decide))
    exact enters_of Tryz.func65 (by kernel_rfl) rfl
  by_cases h_grant : x = grantN
  · subst h_grant
    obtain rfl : m = 64 := Int.ofNat.inj (h.symm.trans (by decide))
    exact enters_of Tryz.func64 (by kernel_rfl) rfl
  by_cases h_families : x = familiesN
  · subst h_families
    obtain rfl : m = 63 := Int.ofNat.inj (h.symm.trans (by decide))
    exact enters_of Tryz.func63 (by kernel_rfl) rfl
  by_cases h_cut : x = cutN
  · subst h_cut
    obtain rfl : m = 62 := Int.ofNat.inj (h.symm.trans (by decide))
    exact enters_of Tryz.func62 (by kernel_rfl) rfl
  unfold doesN at h
  rw [if_neg h_writes, if_neg h_token, if_neg h_tick, if_neg h_tag, if_neg h_sweep, if_neg h_show, if_neg h_save, if_neg h_rotate, if_neg h_open, if_neg h_fresh, if_neg h_mint, if_neg h_log, if_neg h_least, if_neg h_kill, if_neg h_help, if_neg h_grant, if_neg h_families, if_neg h_cut] at h
  exact absurd h (by omega)
set_option maxHeartbeats 4000000 in
set_option maxRecDepth 100000 in
theorem desk_line {W w : World} {xb vb sb db k : Nat} {r : Ru} {z : SS} {v : Value} (h : DKW W xb vb sb db k r z v w) (hk : k < 1000000) (hok : okI z.writes) (hcd : ∀ n L, okI (doesD ⟨r, z⟩ n L).2.2) (s : ByteArray) (hs : s.size ≤ 5000) :
    Calls Tryz.prog 11 #[.pointer (some ⟨xb, 0, none⟩), .string s] w (LineDone W w xb k ⟨r, z⟩ s.data.toList) := by
  have hmf : ∀ (fn : Fn) (first cap : Array Value) (w : World), (Instr.makeFunc fn first cap).run Tryz.prog w = .ok (.func fn first cap) w := fun _ _ _ _ => rfl
  have H := Lib.hid h
  have HCD := Lib.hid hcd
  have HOK := Lib.hid hok
  have hw0 : Below w.heap.size w (w.alloc (.cells #[.string ⟨#[]⟩] 9)) := (Below.refl _ _).alloc (Nat.le_refl _) _
  have HB0 := Lib.hid hw0
  have HF := Lib.hid (fun W0 => Tryz.strings_FieldsFunc 28 #[] (enters_of Tryz.func28 (by kernel_rfl) rfl) blankP s W0 (by omega) (fun W x _ => line_blank x W))
  clear h hok hcd hw0
  have hbf : ∀ (m : Nat) (a b : Array Value) (w : World), Sem.run Tryz.prog (binOp .eql 33 (.func (.func m) a b) .nilFunc) w = Result.ok (.bool false) w := fun _ _ _ _ => rfl
  have hbn : ∀ (w : World), Sem.run Tryz.prog (binOp .eql 33 .nilFunc .nilFunc) w = Result.ok (.bool true) w := fun _ => rfl
  go_enter_defers Tryz.func11, Tryz.ntmps11
  go_wp2_with fail
  go_at_call 27
  refine (HF.out _).mono ?_
  rintro e w2 ⟨A, rfl, hA, hrow, hb⟩
  have HFW := Lib.hid (fields_words s)
  generalize Lib.goFieldsP blankP s = F at *
  have HWA := words_at hrow
  have hFL : F.length = (F.map (·.data.toList)).length := by simp
  rw [hFL]
  clear hFL hrow HF
  have HFW := HFW.out
  generalize F.map (·.data.toList) = M at *
  clear F
  have HB := Lib.hid (below_2 HB0.out hb)
  have HRB := Lib.hid (show Blk w2 w.heap.size 9 #[.string ⟨#[]⟩] from ((hb.block _ (by simp)).trans (heap_alloc_new _ _)))
  have hp : w2.cell? ⟨w.heap.size, 0, none⟩ = some (.string ⟨#[]⟩) := HRB.out.cell 0
  have hz : w2.frozen? ⟨w.heap.size, 0, none⟩ = false := HRB.out.frozen 0
  have HD := H.out.keep HB.out
  have hW := H.out.below.size
  clear hA hb HB0
  rcases M with _ | ⟨n, L⟩
  · simp only [List.length_nil]
    go_wp2_with fail
    refine leaves_cons (f := 25) (args := #[.pointer (some ⟨w.heap.size, 0, none⟩)]) (by simp) (by simp [go_sem]) ?_
    refine (line_idle ⟨w.heap.size, 0, none⟩ _).mono ?_
    rintro e u' w' ⟨rfl, rfl, rfl⟩
    have hr : (w2.setCell ⟨w.heap.size, 0, none⟩ (.string ⟨#[111, 107]⟩)).cell? ⟨w.heap.size, 0, none⟩ = some (.string ⟨#[111, 107]⟩) := (HRB.out.put_ 0 _ rfl).cell 0
    have hl : lineD ⟨r, z⟩ s.data.toList = (⟨r, z⟩, ⟨#[111, 107]⟩) := by unfold lineD; rw [← HFW]
    simp [Leaves, settle, results, Tryz.results11, go_sem, hr]
    exact line_end hl ⟨vb, sb, db, v, HD.later⟩ (StayD.of_below HB.out) HRB.out hW (Nat.le_refl _)
  · have HL : ∀ y ∈ n :: L, y.length ≤ 5000 := fun y hy => by
      rw [HFW] at hy
      exact parts_word_len 32 _ 5000 (by rw [size_list]; exact hs) y (List.mem_filter.1 hy).1
    have hc : w2.cell? ⟨A, 0, none⟩ = some (.string (txt n)) := HWA.2 0 n rfl
    have HWA := Lib.hid HWA
    have HL := Lib.hid HL
    have HDD := Lib.hid (desk_does xb n w2 (HL.out n (by simp)))
    have HD := Lib.hid HD
    simp only [List.length_cons]
    go_wp2_with fail
    go_at_call 29
    refine HDD.out.mono ?_
    rintro e w3 ⟨hb3, ⟨hm, rfl⟩ | ⟨m, hm, rfl⟩⟩
    · have hp3 : w3.cell? ⟨w.heap.size, 0, none⟩ = some (.string ⟨#[]⟩) := (hb3.cell (World.block_lt_of_cell? _ _ hp)).trans hp
      have hz3 : w3.frozen? ⟨w.heap.size, 0, none⟩ = false := (hb3.frozen (World.block_lt_of_cell? _ _ hp)).trans hz
      have HB3 := Lib.hid hb3
      have HD3 := Lib.hid (HD.out.keep hb3)
      have HR3 := Lib.hid (show Blk w3 w.heap.size 9 #[.string ⟨#[]⟩] from HRB.out.below' hb3)
      clear hb3 hp hz hc HDD
      go_wp2_with fail
      go_at_call 20
      refine (must_no 3 _ HD3.out.et).mono ?_
      rintro e w4 ⟨rfl, hb4⟩
      have HR4 := HR3.out.below' hb4
      have hl : lineD ⟨r, z⟩ s.data.toList = (⟨r, z⟩, errS 3) := by
        unfold lineD
        rw [← HFW]
        show told (doesD ⟨r, z⟩ n L) = _
        rw [does_bad _ _ _ hm]
        rfl
      dsimp only
      refine leaves_cons (f := 25) (args := #[.pointer (some ⟨w.heap.size, 0, none⟩)]) (by simp) (by simp [go_sem]) ?_
      refine (line_caught ⟨w.heap.size, 0, none⟩ 3 _ _ ⟨by decide, by decide⟩ (HR4.cell 0) (HR4.frozen 0) (HD3.out.keep hb4).sw.tm.1).mono ?_
      rintro e u' w5 ⟨rfl, rfl, w6, hb6, rfl⟩
      have HR6 := HR4.below' hb6
      have hr : (w6.setCell ⟨w.heap.size, 0, none⟩ (.string (errS 3))).cell? ⟨w.heap.size, 0, none⟩ = some (.string (errS 3)) := (HR6.put_ 0 _ rfl).cell 0
      have hB := below_2 HB.out (below_2 HB3.out (below_2 hb4 hb6))
      simp [Leaves, settle, results, Tryz.results11, go_sem, hr]
      exact line_end hl ⟨vb, sb, db, v, ((HD3.out.keep hb4).keep hb6).later⟩ (StayD.of_below hB) HR6 hW (Nat.le_refl _)
    · have HB3 := Lib.hid hb3
      have hp3 : w3.cell? ⟨w.heap.size, 0, none⟩ = some (.string ⟨#[]⟩) := (hb3.cell (World.block_lt_of_cell? _ _ hp)).trans hp
      have hz3 : w3.frozen? ⟨w.heap.size, 0, none⟩ = false := (hb3.frozen (World.block_lt_of_cell? _ _ hp)).trans hz
      have HD3 := Lib.hid (HD.out.keep hb3)
      have HW3 := Lib.hid (HWA.out.keep hb3)
      have HR3 := Lib.hid (show Blk w3 w.heap.size 9 #[.string ⟨#[]⟩] from HRB.out.below' hb3)
      have heg := does_enters hm
      clear hb3 hp hz hc HDD
      go_wp2_with fail
      · obtain rfl : L = [] := by first | assumption | exact List.eq_nil_of_length_eq_zero (by assumption) | exact List.eq_nil_of_length_eq_zero (by omega)
        refine (desk_cmd HD3.out hk HOK.out A 0 _ n [] HW3.out.none_ (fun y hy => by cases hy) m hm).mono ?_
        rintro e w4 ⟨⟨h0, rfl⟩ | ⟨h0, rfl⟩, hdk, hst⟩
        · have HR4 := HR3.out.stay hst (by decide)
          have hp4 : w4.cell? ⟨w.heap.size, 0, none⟩ = some (.string ⟨#[]⟩) := HR4.cell 0
          have hz4 : w4.frozen? ⟨w.heap.size, 0, none⟩ = false := HR4.frozen 0
          have hl : lineD ⟨r, z⟩ s.data.toList = ((doesD ⟨r, z⟩ n []).1, (doesD ⟨r, z⟩ n []).2.1) := by
            unfold lineD
            rw [← HFW]
            show told _ = _
            unfold told
            rw [if_pos h0]
          have HL0 := Lib.hid hl
          have HDK := Lib.hid hdk
          have HST := Lib.hid hst
          have HR := Lib.hid HR4
          clear hl hdk hst HR4 hp3 hz3 h0
          generalize (doesD ⟨r, z⟩ n []).2.1 = x at *
          generalize (doesD ⟨r, z⟩ n []).1 = d' at *
          dsimp only
          go_wp2_with fail
          refine leaves_cons (f := 25) (args := #[.pointer (some ⟨w.heap.size, 0, none⟩)]) (by simp) (by simp [go_sem]) ?_
          refine (line_idle ⟨w.heap.size, 0, none⟩ _).mono ?_
          rintro e u' w' ⟨rfl, rfl, rfl⟩
          have hr : (w4.setCell ⟨w.heap.size, 0, none⟩ (.string x)).cell? ⟨w.heap.size, 0, none⟩ = some (.string x) := (HR.out.put_ 0 _ rfl).cell 0
          simp [Leaves, settle, results, Tryz.results11, go_sem, hr]
          exact line_end HL0.out HDK.out ((StayD.of_below (below_2 HB.out HB3.out)).trans HST.out) HR.out hW (Nat.le_refl _)
        · have HR4 := HR3.out.stay hst (by decide)
          have hl : lineD ⟨r, z⟩ s.data.toList = ((doesD ⟨r, z⟩ n []).1, errS (doesD ⟨r, z⟩ n []).2.2) := by
            unfold lineD
            rw [← HFW]
            show told _ = _
            unfold told
            rw [if_neg h0]
          have hc := HCD.out n []
          generalize (doesD ⟨r, z⟩ n []).2.2 = c at *
          generalize (doesD ⟨r, z⟩ n []).1 = d' at *
          obtain ⟨vb', sb', db', v', hd4⟩ := hdk
          dsimp only
          refine leaves_cons (f := 25) (args := #[.pointer (some ⟨w.heap.size, 0, none⟩)]) (by simp) (by simp [go_sem]) ?_
          refine (line_caught ⟨w.heap.size, 0, none⟩ c _ _ hc (HR4.cell 0) (HR4.frozen 0) hd4.sw.tm.1).mono ?_
          rintro e u' w5 ⟨rfl, rfl, w6, hb6, rfl⟩
          have HR6 := HR4.below' hb6
          have hr : (w6.setCell ⟨w.heap.size, 0, none⟩ (.string (errS c))).cell? ⟨w.heap.size, 0, none⟩ = some (.string (errS c)) := (HR6.put_ 0 _ rfl).cell 0
          simp [Leaves, settle, results, Tryz.results11, go_sem, hr]
          exact line_end hl ⟨vb', sb', db', v', hd4.keep hb6⟩ (((StayD.of_below (below_2 HB.out HB3.out)).trans hst).trans (StayD.of_below hb6)) HR6 hW (Nat.le_refl _)
      · refine (desk_cmd HD3.out hk HOK.out A 1 _ n L HW3.out.tail (fun y hy => HL.out y (List.mem_cons_of_mem _ hy)) m hm).mono ?_
        rintro e w4 ⟨⟨h0, rfl⟩ | ⟨h0, rfl⟩, hdk, hst⟩
        · have HR4 := HR3.out.stay hst (by decide)
          have hp4 : w4.cell? ⟨w.heap.size, 0, none⟩ = some (.string ⟨#[]⟩) := HR4.cell 0
          have hz4 : w4.frozen? ⟨w.heap.size, 0, none⟩ = false := HR4.frozen 0
          have hl : lineD ⟨r, z⟩ s.data.toList = ((doesD ⟨r, z⟩ n L).1, (doesD ⟨r, z⟩ n L).2.1) := by
            unfold lineD
            rw [← HFW]
            show told _ = _
            unfold told
            rw [if_pos h0]
          have HL0 := Lib.hid hl
          have HDK := Lib.hid hdk
          have HST := Lib.hid hst
          have HR := Lib.hid HR4
          clear hl hdk hst HR4 hp3 hz3 h0
          generalize (doesD ⟨r, z⟩ n L).2.1 = x at *
          generalize (doesD ⟨r, z⟩ n L).1 = d' at *
          dsimp only
          go_wp2_with fail
          refine leaves_cons (f := 25) (args := #[.pointer (some ⟨w.heap.size, 0, none⟩)]) (by simp) (by simp [go_sem]) ?_
          refine (line_idle ⟨w.heap.size, 0, none⟩ _).mono ?_
          rintro e u' w' ⟨rfl, rfl, rfl⟩
          have hr : (w4.setCell ⟨w.heap.size, 0, none⟩ (.string x)).cell? ⟨w.heap.size, 0, none⟩ = some (.string x) := (HR.out.put_ 0 _ rfl).cell 0
          simp [Leaves, settle, results, Tryz.results11, go_sem, hr]
          exact line_end HL0.out HDK.out ((StayD.of_below (below_2 HB.out HB3.out)).trans HST.out) HR.out hW (Nat.le_refl _)
        · have HR4 := HR3.out.stay hst (by decide)
          have hl : lineD ⟨r, z⟩ s.data.toList = ((doesD ⟨r, z⟩ n L).1, errS (doesD ⟨r, z⟩ n L).2.2) := by
            unfold lineD
            rw [← HFW]
            show told _ = _
            unfold told
            rw [if_neg h0]
          have hc := HCD.out n L
          generalize (doesD ⟨r, z⟩ n L).2.2 = c at *
          generalize (doesD ⟨r, z⟩ n L).1 = d' at *
          obtain ⟨vb', sb', db', v', hd4⟩ := hdk
          dsimp only
          refine leaves_cons (f := 25) (args := #[.pointer (some ⟨w.heap.size, 0, none⟩)]) (by simp) (by simp [go_sem]) ?_
          refine (line_caught ⟨w.heap.size, 0, none⟩ c _ _ hc (HR4.cell 0) (HR4.frozen 0) hd4.sw.tm.1).mono ?_
          rintro e u' w5 ⟨rfl, rfl, w6, hb6, rfl⟩
          have HR6 := HR4.below' hb6
          have hr : (w6.setCell ⟨w.heap.size, 0, none⟩ (.string (errS c))).cell? ⟨w.heap.size, 0, none⟩ = some (.string (errS c)) := (HR6.put_ 0 _ rfl).cell 0
          simp [Leaves, settle, results, Tryz.results11, go_sem, hr]
          exact line_end hl ⟨vb', sb', db', v', hd4.keep hb6⟩ (((StayD.of_below (below_2 HB.out HB3.out)).trans hst).trans (StayD.of_below hb6)) HR6 hW (Nat.le_refl _)
end Go.Proofs.YtepjcdjpikbbjaaGreatDoor

/-
  The desk in plain Lean: what a command can be told to be wrong is a small number.
-/
namespace Go.Proofs.YtepjcdjpikbbjaaGreatDoor
open Go.RowKit

def sm (x : Int) : Prop := 0 ≤ x ∧ x ≤ 20
theorem sm.ok {x : Int} (h : sm x) : okI x := ⟨by have := h.1; omega, by have := h.2; omega⟩
theorem s_0 : sm 0 := ⟨by decide, by decide⟩
theorem s_1 : sm 1 := ⟨by decide, by decide⟩
theorem s_2 : sm 2 := ⟨by decide, by decide⟩
theorem s_3 : sm 3 := ⟨by decide, by decide⟩
theorem s_4 : sm 4 := ⟨by decide, by decide⟩
theorem s_5 : sm 5 := ⟨by decide, by decide⟩
theorem s_6 : sm 6 := ⟨by decide, by decide⟩
theorem s_7 : sm 7 := ⟨by decide, by decide⟩
theorem s_8 : sm 8 := ⟨by decide, by decide⟩
theorem s_9 : sm 9 := ⟨by decide, by decide⟩
theorem s_10 : sm 10 := ⟨by decide, by decide⟩
theorem s_11 : sm 11 := ⟨by decide, by decide⟩
theorem s_12 : sm 12 := ⟨by decide, by decide⟩
theorem s_13 : sm 13 := ⟨by decide, by decide⟩
theorem s_14 : sm 14 := ⟨by decide, by decide⟩
theorem s_15 : sm 15 := ⟨by decide, by decide⟩
theorem sm_scope (s : List UInt8) : sm (scopeN s) := by
  rcases scopeN_cases s with h | h | h <;> rw [h] <;> first | exact s_0 | exact s_1 | exact s_2 | exact s_3 | exact s_4 | exact s_5 | exact s_6 | exact s_7 | exact s_8 | exact s_9 | exact s_10 | exact s_11 | exact s_12 | exact s_13 | exact s_14 | exact s_15
theorem sm_save (z : SS) : sm (saveS z).2 := by
  unfold saveS
  (repeat' split) <;> first | assumption | exact sm_scope _ | exact s_0 | exact s_1 | exact s_2 | exact s_3 | exact s_4 | exact s_5 | exact s_6 | exact s_7 | exact s_8 | exact s_9 | exact s_10 | exact s_11 | exact s_12 | exact s_13 | exact s_14 | exact s_15
theorem sm_last (z : SS) (s : St) : sm (lastS z s).2 := by
  unfold lastS
  (repeat' split) <;> first | assumption | exact sm_scope _ | exact s_0 | exact s_1 | exact s_2 | exact s_3 | exact s_4 | exact s_5 | exact s_6 | exact s_7 | exact s_8 | exact s_9 | exact s_10 | exact s_11 | exact s_12 | exact s_13 | exact s_14 | exact s_15
theorem sm_add (z : SS) (e : Ev) : sm (addS z e).2 := by
  have h1 := sm_save z
  have h2 := sm_last z (applyS z.s e)
  have h3 := sm_last (saveS z).1 (applyS z.s e)
  unfold addS
  (repeat' split) <;> first | assumption | exact sm_scope _ | exact s_0 | exact s_1 | exact s_2 | exact s_3 | exact s_4 | exact s_5 | exact s_6 | exact s_7 | exact s_8 | exact s_9 | exact s_10 | exact s_11 | exact s_12 | exact s_13 | exact s_14 | exact s_15
def planC {α : Type} : Plan α → Int
  | .say _ e => e
  | .put _ _ e => e
theorem sm_plan {α : Type} (a : α) (z : SS) (p : Plan α) (h : sm (planC p)) : sm (doPlan a z p).2.2 := by
  cases p with
  | say _ e => exact h
  | put ev b e =>
    show sm (if (addS z ev).2 = 0 then ((addS z ev).1, b, e) else ((addS z ev).1, a, (addS z ev).2) : SS × α × Int).2.2
    split
    · exact h
    · exact sm_add z ev
theorem sm_tok (r : Ru) (t : ByteArray) : sm (tokOf r t).1 := by
  unfold tokOf tokR
  (repeat' split) <;> first | assumption | exact sm_scope _ | exact s_0 | exact s_1 | exact s_2 | exact s_3 | exact s_4 | exact s_5 | exact s_6 | exact s_7 | exact s_8 | exact s_9 | exact s_10 | exact s_11 | exact s_12 | exact s_13 | exact s_14 | exact s_15
theorem sm_live (r : Ru) (s : St) (t : ByteArray) (k : Int) : sm (liveR r s t k).e := by
  have h1 := sm_tok r t
  unfold liveR
  (repeat' split) <;> first | assumption | exact sm_scope _ | exact s_0 | exact s_1 | exact s_2 | exact s_3 | exact s_4 | exact s_5 | exact s_6 | exact s_7 | exact s_8 | exact s_9 | exact s_10 | exact s_11 | exact s_12 | exact s_13 | exact s_14 | exact s_15
theorem sm_kill (s : St) (id : Int) : sm (planC (killP s id)) := by
  unfold killP
  (repeat' split) <;> first | exact s_0 | exact s_1 | exact s_2 | exact s_3 | exact s_4 | exact s_5 | exact s_6 | exact s_7 | exact s_8 | exact s_9 | exact s_10 | exact s_11 | exact s_12 | exact s_13 | exact s_14 | exact s_15
theorem sm_tick (s : St) (n : Int) : sm (planC (tickP s n)) := by
  unfold tickP
  (repeat' split) <;> first | exact s_0 | exact s_1 | exact s_2 | exact s_3 | exact s_4 | exact s_5 | exact s_6 | exact s_7 | exact s_8 | exact s_9 | exact s_10 | exact s_11 | exact s_12 | exact s_13 | exact s_14 | exact s_15
theorem sm_sweep (r : Ru) (s : St) : sm (planC (sweepP r s)) := by
  unfold sweepP
  (repeat' split) <;> first | exact s_0 | exact s_1 | exact s_2 | exact s_3 | exact s_4 | exact s_5 | exact s_6 | exact s_7 | exact s_8 | exact s_9 | exact s_10 | exact s_11 | exact s_12 | exact s_13 | exact s_14 | exact s_15
theorem sm_grant (r : Ru) (s : St) (a b c : ByteArray) : sm (planC (grantP r s a b c)) := by
  unfold grantP
  (repeat' split) <;> first | exact sm_scope _ | exact s_0 | exact s_1 | exact s_2 | exact s_3 | exact s_4 | exact s_5 | exact s_6 | exact s_7 | exact s_8 | exact s_9 | exact s_10 | exact s_11 | exact s_12 | exact s_13 | exact s_14 | exact s_15
theorem sm_rotate (r : Ru) (s : St) (a b c : ByteArray) : sm (planC (rotateP r s a b c)) := by
  have h := sm_live r s a 1
  unfold rotateP
  split
  · first | exact s_0 | exact s_1 | exact s_2 | exact s_3 | exact s_4 | exact s_5 | exact s_6 | exact s_7 | exact s_8 | exact s_9 | exact s_10 | exact s_11 | exact s_12 | exact s_13 | exact s_14 | exact s_15
  · generalize liveR r s a 1 = l at *
    unfold rotateL
    (repeat' split) <;> first | exact h | exact sm_scope _ | exact s_0 | exact s_1 | exact s_2 | exact s_3 | exact s_4 | exact s_5 | exact s_6 | exact s_7 | exact s_8 | exact s_9 | exact s_10 | exact s_11 | exact s_12 | exact s_13 | exact s_14 | exact s_15
theorem sm_mint (r : Ru) (s : St) (t : ByteArray) : sm (mintP r s t).2 := by
  have h := sm_live r s t 1
  unfold mintP
  generalize liveR r s t 1 = l at *
  unfold mintL
  (repeat' split) <;> first | assumption | exact sm_scope _ | exact s_0 | exact s_1 | exact s_2 | exact s_3 | exact s_4 | exact s_5 | exact s_6 | exact s_7 | exact s_8 | exact s_9 | exact s_10 | exact s_11 | exact s_12 | exact s_13 | exact s_14 | exact s_15
theorem sm_show (r : Ru) (s : St) (t : ByteArray) : sm (showP r s t).2 := by
  have h := sm_live r s t 2
  unfold showP
  generalize liveR r s t 2 = l at *
  unfold showL
  (repeat' split) <;> first | assumption | exact sm_scope _ | exact s_0 | exact s_1 | exact s_2 | exact s_3 | exact s_4 | exact s_5 | exact s_6 | exact s_7 | exact s_8 | exact s_9 | exact s_10 | exact s_11 | exact s_12 | exact s_13 | exact s_14 | exact s_15
theorem cut_sm (d : DS) (L : List (List UInt8)) : sm (cutD d L).2.2 := by
  unfold cutD
  (repeat' split) <;> first | exact s_0 | exact s_1 | exact s_2 | exact s_3 | exact s_4 | exact s_5 | exact s_6 | exact s_7 | exact s_8 | exact s_9 | exact s_10 | exact s_11 | exact s_12 | exact s_13 | exact s_14 | exact s_15 | exact sm_save _ | exact sm_scope _ | exact sm_mint _ _ _ | exact sm_show _ _ _ | exact sm_plan _ _ _ (sm_grant _ _ _ _ _) | exact sm_plan _ _ _ (sm_rotate _ _ _ _ _) | exact sm_plan _ _ _ (sm_kill _ _) | exact sm_plan _ _ _ (sm_tick _ _) | exact sm_plan _ _ _ (sm_sweep _ _)
theorem families_sm (d : DS) (L : List (List UInt8)) : sm (familiesD d L).2.2 := by
  unfold familiesD
  (repeat' split) <;> first | exact s_0 | exact s_1 | exact s_2 | exact s_3 | exact s_4 | exact s_5 | exact s_6 | exact s_7 | exact s_8 | exact s_9 | exact s_10 | exact s_11 | exact s_12 | exact s_13 | exact s_14 | exact s_15 | exact sm_save _ | exact sm_scope _ | exact sm_mint _ _ _ | exact sm_show _ _ _ | exact sm_plan _ _ _ (sm_grant _ _ _ _ _) | exact sm_plan _ _ _ (sm_rotate _ _ _ _ _) | exact sm_plan _ _ _ (sm_kill _ _) | exact sm_plan _ _ _ (sm_tick _ _) | exact sm_plan _ _ _ (sm_sweep _ _)
theorem grant_sm (d : DS) (L : List (List UInt8)) : sm (grantD d L).2.2 := by
  unfold grantD
  (repeat' split) <;> first | exact s_0 | exact s_1 | exact s_2 | exact s_3 | exact s_4 | exact s_5 | exact s_6 | exact s_7 | exact s_8 | exact s_9 | exact s_10 | exact s_11 | exact s_12 | exact s_13 | exact s_14 | exact s_15 | exact sm_save _ | exact sm_scope _ | exact sm_mint _ _ _ | exact sm_show _ _ _ | exact sm_plan _ _ _ (sm_grant _ _ _ _ _) | exact sm_plan _ _ _ (sm_rotate _ _ _ _ _) | exact sm_plan _ _ _ (sm_kill _ _) | exact sm_plan _ _ _ (sm_tick _ _) | exact sm_plan _ _ _ (sm_sweep _ _)
theorem help_sm (d : DS) (L : List (List UInt8)) : sm (helpD d L).2.2 := by
  unfold helpD
  (repeat' split) <;> first | exact s_0 | exact s_1 | exact s_2 | exact s_3 | exact s_4 | exact s_5 | exact s_6 | exact s_7 | exact s_8 | exact s_9 | exact s_10 | exact s_11 | exact s_12 | exact s_13 | exact s_14 | exact s_15 | exact sm_save _ | exact sm_scope _ | exact sm_mint _ _ _ | exact sm_show _ _ _ | exact sm_plan _ _ _ (sm_grant _ _ _ _ _) | exact sm_plan _ _ _ (sm_rotate _ _ _ _ _) | exact sm_plan _ _ _ (sm_kill _ _) | exact sm_plan _ _ _ (sm_tick _ _) | exact sm_plan _ _ _ (sm_sweep _ _)
theorem kill_sm (d : DS) (L : List (List UInt8)) : sm (killD d L).2.2 := by
  unfold killD
  (repeat' split) <;> first | exact s_0 | exact s_1 | exact s_2 | exact s_3 | exact s_4 | exact s_5 | exact s_6 | exact s_7 | exact s_8 | exact s_9 | exact s_10 | exact s_11 | exact s_12 | exact s_13 | exact s_14 | exact s_15 | exact sm_save _ | exact sm_scope _ | exact sm_mint _ _ _ | exact sm_show _ _ _ | exact sm_plan _ _ _ (sm_grant _ _ _ _ _) | exact sm_plan _ _ _ (sm_rotate _ _ _ _ _) | exact sm_plan _ _ _ (sm_kill _ _) | exact sm_plan _ _ _ (sm_tick _ _) | exact sm_plan _ _ _ (sm_sweep _ _)
theorem least_sm (d : DS) (L : List (List UInt8)) : sm (leastD d L).2.2 := by
  unfold leastD
  (repeat' split) <;> first | exact s_0 | exact s_1 | exact s_2 | exact s_3 | exact s_4 | exact s_5 | exact s_6 | exact s_7 | exact s_8 | exact s_9 | exact s_10 | exact s_11 | exact s_12 | exact s_13 | exact s_14 | exact s_15 | exact sm_save _ | exact sm_scope _ | exact sm_mint _ _ _ | exact sm_show _ _ _ | exact sm_plan _ _ _ (sm_grant _ _ _ _ _) | exact sm_plan _ _ _ (sm_rotate _ _ _ _ _) | exact sm_plan _ _ _ (sm_kill _ _) | exact sm_plan _ _ _ (sm_tick _ _) | exact sm_plan _ _ _ (sm_sweep _ _)
theorem log_sm (d : DS) (L : List (List UInt8)) : sm (logD d L).2.2 := by
  unfold logD
  (repeat' split) <;> first | exact s_0 | exact s_1 | exact s_2 | exact s_3 | exact s_4 | exact s_5 | exact s_6 | exact s_7 | exact s_8 | exact s_9 | exact s_10 | exact s_11 | exact s_12 | exact s_13 | exact s_14 | exact s_15 | exact sm_save _ | exact sm_scope _ | exact sm_mint _ _ _ | exact sm_show _ _ _ | exact sm_plan _ _ _ (sm_grant _ _ _ _ _) | exact sm_plan _ _ _ (sm_rotate _ _ _ _ _) | exact sm_plan _ _ _ (sm_kill _ _) | exact sm_plan _ _ _ (sm_tick _ _) | exact sm_plan _ _ _ (sm_sweep _ _)
theorem mint_sm (d : DS) (L : List (List UInt8)) : sm (mintD d L).2.2 := by
  unfold mintD
  (repeat' split) <;> first | exact s_0 | exact s_1 | exact s_2 | exact s_3 | exact s_4 | exact s_5 | exact s_6 | exact s_7 | exact s_8 | exact s_9 | exact s_10 | exact s_11 | exact s_12 | exact s_13 | exact s_14 | exact s_15 | exact sm_save _ | exact sm_scope _ | exact sm_mint _ _ _ | exact sm_show _ _ _ | exact sm_plan _ _ _ (sm_grant _ _ _ _ _) | exact sm_plan _ _ _ (sm_rotate _ _ _ _ _) | exact sm_plan _ _ _ (sm_kill _ _) | exact sm_plan _ _ _ (sm_tick _ _) | exact sm_plan _ _ _ (sm_sweep _ _)
theorem new_sm (d : DS) (L : List (List UInt8)) : sm (newD d L).2.2 := by
  unfold newD
  (repeat' split) <;> first | exact s_0 | exact s_1 | exact s_2 | exact s_3 | exact s_4 | exact s_5 | exact s_6 | exact s_7 | exact s_8 | exact s_9 | exact s_10 | exact s_11 | exact s_12 | exact s_13 | exact s_14 | exact s_15 | exact sm_save _ | exact sm_scope _ | exact sm_mint _ _ _ | exact sm_show _ _ _ | exact sm_plan _ _ _ (sm_grant _ _ _ _ _) | exact sm_plan _ _ _ (sm_rotate _ _ _ _ _) | exact sm_plan _ _ _ (sm_kill _ _) | exact sm_plan _ _ _ (sm_tick _ _) | exact sm_plan _ _ _ (sm_sweep _ _)
theorem open_sm (d : DS) (L : List (List UInt8)) : sm (openD d L).2.2 := by
  unfold openD
  (repeat' split) <;> first | exact s_0 | exact s_1 | exact s_2 | exact s_3 | exact s_4 | exact s_5 | exact s_6 | exact s_7 | exact s_8 | exact s_9 | exact s_10 | exact s_11 | exact s_12 | exact s_13 | exact s_14 | exact s_15 | exact sm_save _ | exact sm_scope _ | exact sm_mint _ _ _ | exact sm_show _ _ _ | exact sm_plan _ _ _ (sm_grant _ _ _ _ _) | exact sm_plan _ _ _ (sm_rotate _ _ _ _ _) | exact sm_plan _ _ _ (sm_kill _ _) | exact sm_plan _ _ _ (sm_tick _ _) | exact sm_plan _ _ _ (sm_sweep _ _)
theorem rotate_sm (d : DS) (L : List (List UInt8)) : sm (rotateD d L).2.2 := by
  unfold rotateD
  (repeat' split) <;> first | exact s_0 | exact s_1 | exact s_2 | exact s_3 | exact s_4 | exact s_5 | exact s_6 | exact s_7 | exact s_8 | exact s_9 | exact s_10 | exact s_11 | exact s_12 | exact s_13 | exact s_14 | exact s_15 | exact sm_save _ | exact sm_scope _ | exact sm_mint _ _ _ | exact sm_show _ _ _ | exact sm_plan _ _ _ (sm_grant _ _ _ _ _) | exact sm_plan _ _ _ (sm_rotate _ _ _ _ _) | exact sm_plan _ _ _ (sm_kill _ _) | exact sm_plan _ _ _ (sm_tick _ _) | exact sm_plan _ _ _ (sm_sweep _ _)
theorem save_sm (d : DS) (L : List (List UInt8)) : sm (saveD d L).2.2 := by
  unfold saveD
  (repeat' split) <;> first | exact s_0 | exact s_1 | exact s_2 | exact s_3 | exact s_4 | exact s_5 | exact s_6 | exact s_7 | exact s_8 | exact s_9 | exact s_10 | exact s_11 | exact s_12 | exact s_13 | exact s_14 | exact s_15 | exact sm_save _ | exact sm_scope _ | exact sm_mint _ _ _ | exact sm_show _ _ _ | exact sm_plan _ _ _ (sm_grant _ _ _ _ _) | exact sm_plan _ _ _ (sm_rotate _ _ _ _ _) | exact sm_plan _ _ _ (sm_kill _ _) | exact sm_plan _ _ _ (sm_tick _ _) | exact sm_plan _ _ _ (sm_sweep _ _)
theorem show_sm (d : DS) (L : List (List UInt8)) : sm (showD d L).2.2 := by
  unfold showD
  (repeat' split) <;> first | exact s_0 | exact s_1 | exact s_2 | exact s_3 | exact s_4 | exact s_5 | exact s_6 | exact s_7 | exact s_8 | exact s_9 | exact s_10 | exact s_11 | exact s_12 | exact s_13 | exact s_14 | exact s_15 | exact sm_save _ | exact sm_scope _ | exact sm_mint _ _ _ | exact sm_show _ _ _ | exact sm_plan _ _ _ (sm_grant _ _ _ _ _) | exact sm_plan _ _ _ (sm_rotate _ _ _ _ _) | exact sm_plan _ _ _ (sm_kill _ _) | exact sm_plan _ _ _ (sm_tick _ _) | exact sm_plan _ _ _ (sm_sweep _ _)
theorem sweep_sm (d : DS) (L : List (List UInt8)) : sm (sweepD d L).2.2 := by
  unfold sweepD
  (repeat' split) <;> first | exact s_0 | exact s_1 | exact s_2 | exact s_3 | exact s_4 | exact s_5 | exact s_6 | exact s_7 | exact s_8 | exact s_9 | exact s_10 | exact s_11 | exact s_12 | exact s_13 | exact s_14 | exact s_15 | exact sm_save _ | exact sm_scope _ | exact sm_mint _ _ _ | exact sm_show _ _ _ | exact sm_plan _ _ _ (sm_grant _ _ _ _ _) | exact sm_plan _ _ _ (sm_rotate _ _ _ _ _) | exact sm_plan _ _ _ (sm_kill _ _) | exact sm_plan _ _ _ (sm_tick _ _) | exact sm_plan _ _ _ (sm_sweep _ _)
theorem tag_sm (d : DS) (L : List (List UInt8)) : sm (tagD d L).2.2 := by
  unfold tagD
  (repeat' split) <;> first | exact s_0 | exact s_1 | exact s_2 | exact s_3 | exact s_4 | exact s_5 | exact s_6 | exact s_7 | exact s_8 | exact s_9 | exact s_10 | exact s_11 | exact s_12 | exact s_13 | exact s_14 | exact s_15 | exact sm_save _ | exact sm_scope _ | exact sm_mint _ _ _ | exact sm_show _ _ _ | exact sm_plan _ _ _ (sm_grant _ _ _ _ _) | exact sm_plan _ _ _ (sm_rotate _ _ _ _ _) | exact sm_plan _ _ _ (sm_kill _ _) | exact sm_plan _ _ _ (sm_tick _ _) | exact sm_plan _ _ _ (sm_sweep _ _)
theorem tick_sm (d : DS) (L : List (List UInt8)) : sm (tickD d L).2.2 := by
  unfold tickD
  (repeat' split) <;> first | exact s_0 | exact s_1 | exact s_2 | exact s_3 | exact s_4 | exact s_5 | exact s_6 | exact s_7 | exact s_8 | exact s_9 | exact s_10 | exact s_11 | exact s_12 | exact s_13 | exact s_14 | exact s_15 | exact sm_save _ | exact sm_scope _ | exact sm_mint _ _ _ | exact sm_show _ _ _ | exact sm_plan _ _ _ (sm_grant _ _ _ _ _) | exact sm_plan _ _ _ (sm_rotate _ _ _ _ _) | exact sm_plan _ _ _ (sm_kill _ _) | exact sm_plan _ _ _ (sm_tick _ _) | exact sm_plan _ _ _ (sm_sweep _ _)
theorem token_sm (d : DS) (L : List (List UInt8)) : sm (tokenD d L).2.2 := by
  unfold tokenD
  (repeat' split) <;> first | exact s_0 | exact s_1 | exact s_2 | exact s_3 | exact s_4 | exact s_5 | exact s_6 | exact s_7 | exact s_8 | exact s_9 | exact s_10 | exact s_11 | exact s_12 | exact s_13 | exact s_14 | exact s_15 | exact sm_save _ | exact sm_scope _ | exact sm_mint _ _ _ | exact sm_show _ _ _ | exact sm_plan _ _ _ (sm_grant _ _ _ _ _) | exact sm_plan _ _ _ (sm_rotate _ _ _ _ _) | exact sm_plan _ _ _ (sm_kill _ _) | exact sm_plan _ _ _ (sm_tick _ _) | exact sm_plan _ _ _ (sm_sweep _ _)
theorem writes_sm (d : DS) (L : List (List UInt8)) : sm (writesD d L).2.2 := by
  unfold writesD
  (repeat' split) <;> first | exact s_0 | exact s_1 | exact s_2 | exact s_3 | exact s_4 | exact s_5 | exact s_6 | exact s_7 | exact s_8 | exact s_9 | exact s_10 | exact s_11 | exact s_12 | exact s_13 | exact s_14 | exact s_15 | exact sm_save _ | exact sm_scope _ | exact sm_mint _ _ _ | exact sm_show _ _ _ | exact sm_plan _ _ _ (sm_grant _ _ _ _ _) | exact sm_plan _ _ _ (sm_rotate _ _ _ _ _) | exact sm_plan _ _ _ (sm_kill _ _) | exact sm_plan _ _ _ (sm_tick _ _) | exact sm_plan _ _ _ (sm_sweep _ _)
theorem does_sm (d : DS) (n : List UInt8) (L : List (List UInt8)) : sm (doesD d n L).2.2 := by
  unfold doesD
  by_cases h_cut : n = cutN
  · rw [if_pos h_cut]; exact cut_sm d L
  rw [if_neg h_cut]
  by_cases h_families : n = familiesN
  · rw [if_pos h_families]; exact families_sm d L
  rw [if_neg h_families]
  by_cases h_grant : n = grantN
  · rw [if_pos h_grant]; exact grant_sm d L
  rw [if_neg h_grant]
  by_cases h_help : n = helpN
  · rw [if_pos h_help]; exact help_sm d L
  rw [if_neg h_help]
  by_cases h_kill : n = killN
  · rw [if_pos h_kill]; exact kill_sm d L
  rw [if_neg h_kill]
  by_cases h_least : n = leastN
  · rw [if_pos h_least]; exact least_sm d L
  rw [if_neg h_least]
  by_cases h_log : n = logN
  · rw [if_pos h_log]; exact log_sm d L
  rw [if_neg h_log]
  by_cases h_mint : n = mintN
  · rw [if_pos h_mint]; exact mint_sm d L
  rw [if_neg h_mint]
  by_cases h_new : n = newN
  · rw [if_pos h_new]; exact new_sm d L
  rw [if_neg h_new]
  by_cases h_open : n = openN
  · rw [if_pos h_open]; exact open_sm d L
  rw [if_neg h_open]
  by_cases h_rotate : n = rotateN
  · rw [if_pos h_rotate]; exact rotate_sm d L
  rw [if_neg h_rotate]
  by_cases h_save : n = saveN
  · rw [if_pos h_save]; exact save_sm d L
  rw [if_neg h_save]
  by_cases h_show : n = showN
  · rw [if_pos h_show]; exact show_sm d L
  rw [if_neg h_show]
  by_cases h_sweep : n = sweepN
  · rw [if_pos h_sweep]; exact sweep_sm d L
  rw [if_neg h_sweep]
  by_cases h_tag : n = tagCN
  · rw [if_pos h_tag]; exact tag_sm d L
  rw [if_neg h_tag]
  by_cases h_tick : n = tickN
  · rw [if_pos h_tick]; exact tick_sm d L
  rw [if_neg h_tick]
  by_cases h_token : n = tokenN
  · rw [if_pos h_token]; exact token_sm d L
  rw [if_neg h_token]
  by_cases h_writes : n = writesN
  · rw [if_pos h_writes]; exact writes_sm d L
  rw [if_neg h_writes]
  first | exact s_0 | exact s_1 | exact s_2 | exact s_3 | exact s_4 | exact s_5 | exact s_6 | exact s_7 | exact s_8 | exact s_9 | exact s_10 | exact s_11 | exact s_12 | exact s_13 | exact s_14 | exact s_15
end Go.Proofs.YtepjcdjpikbbjaaGreatDoor

/-
  The desk: a session's beginning: the first disk; SplitSeq's function.
-/
namespace Go.Proofs.YtepjcdjpikbbjaaGreatDoor
open Go.RowKit Go.Sort Go.Lib

def nilDesk : Array Value := #[.pointer none, .pointer none, .pointer none, .int .i64 0, .int .i64 0, .int .i64 0, .int .i64 0]
def firstW : Array Value := #[.string ⟨#[49]⟩, .string ⟨#[50, 48]⟩, .string ⟨#[49, 48, 48]⟩, .string ⟨#[53]⟩]
def startW (W : World) : World := ((W.alloc (.cells nilDesk 32)).alloc (.cells #[.pointer (some ⟨W.heap.size, 0, none⟩)] 25)).alloc (.cells firstW 9)
theorem start_blocks (W : World) : Blk (startW W) W.heap.size 32 nilDesk ∧ Blk (startW W) (W.heap.size + 1) 25 #[.pointer (some ⟨W.heap.size, 0, none⟩)] ∧ Blk (startW W) (W.heap.size + 1 + 1) 9 firstW ∧ Below W.heap.size W (startW W) := by
  have h1 : Below W.heap.size W (W.alloc (.cells nilDesk 32)) := (Below.refl _ _).alloc (Nat.le_refl _) _
  have h2 := h1.alloc (by simp) (.cells #[.pointer (some ⟨W.heap.size, 0, none⟩)] 25)
  refine ⟨?_, ?_, ?_, h2.alloc (by simp only [World.size_alloc]; omega) _⟩
  · unfold Blk startW
    rw [heap_alloc_old _ _ (by simp only [World.size_alloc]; omega), heap_alloc_old _ _ (by simp), heap_alloc_new]
  · unfold Blk startW
    rw [heap_alloc_old _ _ (by simp)]
    have := heap_alloc_new (W.alloc (.cells nilDesk 32)) (.cells #[.pointer (some ⟨W.heap.size, 0, none⟩)] 25)
    simpa using this
  · unfold Blk startW
    have := heap_alloc_new ((W.alloc (.cells nilDesk 32)).alloc (.cells #[.pointer (some ⟨W.heap.size, 0, none⟩)] 25)) (.cells firstW 9)
    simpa using this
theorem first_ok : newC [49] [50, 48] [49, 48, 48] [53] = 0 := by
  kernel_rfl
/-- the first disk is made -/
theorem first_fresh (W : World) (henv : Env W.heap.size W) (he : ErrType W) (hg : 1 < W.heap.size) (cp : Nat) :
    Calls Tryz.prog 7 #[.pointer (some ⟨W.heap.size, 0, none⟩), .slice (some ⟨W.heap.size + 1 + 1, 0, none⟩) 4 cp] (startW W) fun e w' => e = .returned (.string (txt newN)) ∧ DKE W W.heap.size 0 ds0 w' ∧ StayD (startW W) w' := by
  obtain ⟨h1, h2, h3, h4⟩ := start_blocks W
  have hw : WAt (startW W) (W.heap.size + 1 + 1) 0 [[49], [50, 48], [49, 48, 48], [53]] := by
    refine ⟨⟨_, h3, rfl⟩, fun j x hx => ?_⟩
    rw [h3.cell]
    rcases j with _ | _ | _ | _ | j
    · cases hx; rfl
    · cases hx; rfl
    · cases hx; rfl
    · cases hx; rfl
    · cases hx
  refine (desk_fresh h1 (Nat.le_refl _) ⟨h4, Below.refl _ _, henv.keep h4, hw, he, hg⟩ (by decide) (by decide) (by decide) (by decide)).mono ?_
  rintro e w' (⟨h0, rfl, ⟨vb, sb, db, v, hd⟩, hs⟩ | ⟨h0, _, _⟩)
  · exact ⟨rfl, ⟨vb, sb, db, v, hd⟩, hs⟩
  · exact absurd first_ok h0
/-- SplitSeq's function: its boxes hold the separator, the text, how much of the separator is kept -/
def seqV (B : Nat) : Value := .func (.func 56) #[] #[.pointer (some ⟨B + 1, 0, none⟩), .pointer (some ⟨B, 0, none⟩), .pointer (some ⟨B + 1 + 1, 0, none⟩)]
def seqMem (w : World) (t : ByteArray) : World := ((w.alloc (.cells #[.string t] 9)).alloc (.cells #[.string ⟨#[10]⟩] 9)).alloc (.cells #[.int .i64 0] 3)
theorem seq_made (t : ByteArray) (w : World) : Calls Tryz.prog 8 #[.string t, .string ⟨#[10]⟩] w fun e w' => e = .returned (seqV w.heap.size) ∧ w' = seqMem w t := by
  have hmf : ∀ (fn : Fn) (first cap : Array Value) (w : World), (Instr.makeFunc fn first cap).run Tryz.prog w = .ok (.func fn first cap) w := fun _ _ _ _ => rfl
  go_enter Tryz.func8, Tryz.ntmps8
  go_wp2_with fail
  go_enter Tryz.func22, Tryz.ntmps22
  go_wp2_with fail
  all_goals (go_ret; exact ⟨rfl, rfl⟩)
end Go.Proofs.YtepjcdjpikbbjaaGreatDoor
