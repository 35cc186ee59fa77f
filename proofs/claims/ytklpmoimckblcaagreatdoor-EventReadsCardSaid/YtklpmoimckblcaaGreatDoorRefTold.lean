/-
  The reference's Told: numbers with blanks between.
-/
import Derived.Test.YtklpmoimckblcaaGreatDoorEvWrite2
import Derived.Test.YtklpmoimckblcaaGreatDoorAtoi
namespace Go.Proofs.YtklpmoimckblcaaGreatDoor
open Go.RowKit Go.Sort

theorem own_below {w w' : World} {B n : Nat} {e : TypeId} {v : Value} {xs : List Value} (h : w.ownsRow B e 1 v n xs) (hb : Below w.heap.size w w') : w'.ownsRow B e 1 v n xs :=
  h.kept (only_of_below hb (some w.heap.size)) (.inr (fun he => by have := (h.lt _ he).2; omega))
theorem IntsAt.below {w w' : World} {g : Nat} {L : List Int} (h : IntsAt w g L) (hb : Below w.heap.size w w') : IntsAt w' g L := by
  intro j hj
  have h1 := h j hj
  have hlt : g < w.heap.size := World.block_lt_of_cell? w _ h1
  rw [hb.cell (p := ⟨g, j, none⟩) hlt]
  exact h1
/-- what the loop over the numbers knows -/
structure TD (W : World) (g : Nat) (L : List Int) (k : Nat) (out : Value) (w : World) : Prop where
  wb : WB W w
  ints : IntsAt w g L
  row : w.ownsRow W.heap.size 9 1 out k ((L.take k).map fun x => encStr (Lib.itoa x))
theorem TD.start {W : World} {g : Nat} {L : List Int} (h : WB W W) (hi : IntsAt W g L) : TD W g L 0 (.slice none 0 0) W := ⟨h, hi, World.ownsRow_nil _ _ _ _⟩
theorem TD.call {W w w1 : World} {g k : Nat} {L : List Int} {out : Value} (h : TD W g L k out w) (hb : Below w.heap.size w w1) : TD W g L k out w1 := ⟨h.wb.keep hb, h.ints.below hb, own_below h.row hb⟩
theorem TD.next {W w1 w3 : World} {g k : Nat} {L : List Int} {out v' : Value} {o : Obj} (h0 : WB W W) (hi : IntsAt W g L) (h : TD W g L k out w1) (hk : k < L.length) {y : Value} (hy : y = encStr (Lib.itoa (L.getD k 0)))
    (ho : w3.ownsRow W.heap.size 9 1 v' (k + 1) ((L.take k).map (fun x => encStr (Lib.itoa x)) ++ [y])) (hg : (w1.alloc o).grownBy w3 out.ownBlock) : TD W g L (k + 1) v' w3 := by
  have b1 : Below W.heap.size W (w1.alloc o) := h.wb.below.alloc h.wb.below.size o
  have b2 : Below W.heap.size W w3 := b1.grown hg b1.size fun i e => (h.row.lt i e).1
  refine ⟨h0.keep b2, hi.below b2, ?_⟩
  have e : (L.take (k + 1)).map (fun x => encStr (Lib.itoa x)) = (L.take k).map (fun x => encStr (Lib.itoa x)) ++ [y] := by
    rw [List.take_add_one, List.getElem?_eq_getElem hk, List.map_append, hy]
    simp [List.getD, hk]
  rw [e]
  exact ho
def ToldRel (W : World) (g : Nat) (L : List Int) (out i : Value) (wr : World) : Prop := ∃ k : Nat, k ≤ L.length ∧ i = .int .i64 k ∧ TD W g L k out wr
theorem TD.join {W w : World} {g : Nat} {L : List Int} {out : Value} (h : TD W g L L.length out w) (hL : L ≠ []) (h4 : L.length ≤ 4) (hn : ∀ x ∈ L, okN x = true) :
    Calls Tryz.prog 23 #[out, .string ⟨#[32]⟩] w fun e w' => e = .returned (.string (txt (glue 32 (L.map Lib.itoa)))) ∧ Below w.heap.size w w' := by
  have hr := h.row
  rw [List.take_length] at hr
  have hr2 : w.ownsRow W.heap.size 9 1 out (L.map Lib.itoa).length ((L.map Lib.itoa).map encStr) := by
    rw [List.map_map, List.length_map]; exact hr
  have hg := glue_length 32 20 (L.map Lib.itoa) (by
    intro x hx
    obtain ⟨y, hy, rfl⟩ := List.mem_map.1 hx
    have := itoa_len (hn y hy)
    omega)
  rw [List.length_map] at hg
  exact join_row 32 (row_of_owns hr2 (by simpa using hL)) (by rw [List.length_map]; omega) (by omega)

set_option maxHeartbeats 4000000 in
set_option maxRecDepth 100000 in
theorem ref_told (g : Nat) (L : List Int) (W : World) (h : WB W W) (hi : IntsAt W g L) (hL : L ≠ []) (h4 : L.length ≤ 4) (hn : ∀ x ∈ L, okN x = true) :
    Calls Tryz.prog 19 #[.slice (some ⟨g, 0, none⟩) L.length L.length] W fun e w' => e = .returned (.string (txt (glue 32 (L.map Lib.itoa)))) ∧ Below W.heap.size W w' := by
  obtain ⟨i0, hii, hz0, hz1, hz2⟩ := info_parts strInfo
  have H0 := Lib.hid h
  have HI := Lib.hid hi
  have HN := Lib.hid hn
  have HL := Lib.hid hL
  clear h hi hn hL
  go_enter Tryz.func19, Tryz.ntmps19
  go_wp2
  go_loopw [3, 8] (fun out i wr => ToldRel W g L out i wr) (fun _ i _ => L.length - (intOf i).toNat)
  case atStart => exact ⟨0, Nat.zero_le _, rfl, TD.start H0.out HI.out⟩
  case round =>
    obtain ⟨k, hk, rfl, ht⟩ := hrel
    have HT := Lib.hid ht
    clear ht
    by_cases hlt : k < L.length
    · have hc := HT.out.ints k hlt
      have hok : okN (L.getD k 0) = true := HN.out _ (by rw [List.getD_eq_getElem?_getD, List.getElem?_eq_getElem hlt]; exact List.getElem_mem hlt)
      have HX := Lib.hid (show encStr (Lib.itoa (L.getD k 0)) = .string (itoS (L.getD k 0)) from rfl)
      generalize hx : L.getD k 0 = x at *
      have HXX := Lib.hid hx
      have HIT := Lib.hid (fun w hT => itoa_c x hok w hT)
      clear hx hok
      generalize itoS x = y at *
      go_wp2_with fail
      go_at_call 22
      refine (HIT.out _ HT.out.wb.tens).mono ?_
      rintro e w1 ⟨rfl, hb⟩
      have HT1 := Lib.hid (HT.out.call hb)
      have hrow := HT1.out.row
      have hB2 := HT1.out.wb.below.size
      clear hb hc
      go_wp2_with
        (at_builtin; refine wpList_append_own _ rfl _ _ 55 rfl W.heap.size 9 i0 (.string ByteArray.empty) 1 16 Tryz.underlying55 hii hz0 hz1 hz2 rfl (by decide) _ _ _ rfl (hrow.alloc _) ⟨w1.heap.size, 0, none⟩ 1 1 [.string y] rfl rfl (cell_one_new _ _ _) (fun x hx => by simp at hx; subst hx; rfl) (by unfold maxLen; omega) (by omega) (by simp; omega) ?_; intro v' w3 hown hgrow hnil
         have HO := Lib.hid hown
         have HG := Lib.hid hgrow
         clear hown hgrow hnil hrow)
      go_roundw
      case rel => exact ⟨k + 1, by omega, by go_num, TD.next H0.out HI.out HT1.out hlt (by rw [HXX.out]; exact HX.out.symm) HO.out HG.out⟩
      case measure => simp [intOf]; omega
    · have hke : k = L.length := by omega
      subst hke
      have HJ := Lib.hid (HT.out.join HL.out h4 HN.out)
      go_wp2_with fail
      go_at_call 23
      refine HJ.out.mono ?_
      rintro e w1 ⟨rfl, hb⟩
      have HB := Lib.hid (HT.out.wb.keep hb)
      clear hb
      go_wp2_with fail
      go_ret
      exact ⟨rfl, HB.out.below⟩
end Go.Proofs.YtklpmoimckblcaaGreatDoor
