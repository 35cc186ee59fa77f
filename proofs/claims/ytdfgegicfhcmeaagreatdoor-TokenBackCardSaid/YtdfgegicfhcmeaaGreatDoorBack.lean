/-
  TokenBack: the pieces of its walk.
-/
import Derived.Test.YtdfgegicfhcmeaaGreatDoorBackPure
import Derived.Test.YtdfgegicfhcmeaaGreatDoorTokLaw
import Derived.Test.YtdfgegicfhcmeaaGreatDoorRefRead2
namespace Go.Proofs.YtdfgegicfhcmeaaGreatDoor
open Go.RowKit Go.Sort

theorem sip_known : sip 506097522914230528 1084818905618843912 [0, 1, 2, 3, 4, 5, 6, 7, 8, 9, 10, 11, 12, 13, 14] = 11613035633349379557 := by kernel_rfl
theorem summed_yes (W : World) : Calls Tryz.prog 5 #[] W fun e w' => e = .returned (.bool true) ∧ Below W.heap.size W w' := by
  have h := mac_sum 506097522914230528 1084818905618843912 ⟨#[0, 1, 2, 3, 4, 5, 6, 7, 8, 9, 10, 11, 12, 13, 14]⟩ W (by decide)
  rw [show (⟨#[0, 1, 2, 3, 4, 5, 6, 7, 8, 9, 10, 11, 12, 13, 14]⟩ : ByteArray).data.toList = [0, 1, 2, 3, 4, 5, 6, 7, 8, 9, 10, 11, 12, 13, 14] from rfl, sip_known] at h
  have H := Lib.hid h
  clear h
  go_enter Tryz.func5, Tryz.ntmps5
  go_wp2_with (go_at_call 14; refine H.out.mono ?_; rintro e w1 ⟨rfl, hb⟩)
  go_ret
  exact ⟨rfl, hb⟩
theorem pick_num (x : Int) : ∃ p : Nat, p < 16 ∧ IntKind.i64.wrap ((IntKind.u64.wrap x).tmod 16) = (p : Int) := by
  have h1 : 0 ≤ IntKind.u64.wrap x := (u64_wrap x).1
  obtain ⟨n, hn⟩ := Int.eq_ofNat_of_zero_le h1
  refine ⟨n % 16, Nat.mod_lt _ (by decide), ?_⟩
  have e : ((n : Int)).tmod 16 = ((n % 16 : Nat) : Int) := rfl
  rw [hn, e]
  exact IntWalk.i64_in _ (by omega)
theorem pick_c (x : Int) (W : World) : Calls Tryz.prog 8 #[.int .i64 x, .int .i64 16] W fun e w' => (∃ p : Nat, p < 16 ∧ e = .returned (.int .i64 p)) ∧ W = w' := by
  go_enter Tryz.func8, Tryz.ntmps8
  go_wp2
  go_ret
  refine ⟨?_, rfl⟩
  obtain ⟨p, hp, e⟩ := pick_num x
  exact ⟨p, hp, congrArg (fun z => Ending.returned (.int .i64 z)) (by rw [IntWalk.i64_left] at e; exact e)⟩
theorem hex_index (q : Nat) (hq : q < 16) (w : World) : (Instr.index 9 (.string ⟨#[48, 49, 50, 51, 52, 53, 54, 55, 56, 57, 97, 98, 99, 100, 101, 102]⟩) (.int .i64 (q : Int))).run Tryz.prog w = .ok (.int .u8 ((dig q).toNat : Int)) w := by
  rw [run_index_string w 9 _ .i64 (q : Int) Tryz.underlying9, dif_pos ⟨by omega, by show (q : Int) < 16; omega⟩]
  have h := tab_at q hq
  unfold byteV at h
  rw [← h]
  rfl
theorem BSat.set {w : World} {B g cap : Nat} {l : List UInt8} (h : BSat w B g cap l) (i : Nat) (hi : i < l.length) (c : UInt8) : BSat (w.setCell ⟨g, i, none⟩ (.int .u8 (c.toNat : Int))) B g cap (l.set i c) := by
  refine ⟨h.base, by simpa [World.setCell] using h.lt, by rw [List.length_set]; exact h.le, h.max, fun j hj => ?_, fun j hj => ?_⟩
  · have h2 := h.cells j hj
    by_cases e : j = i
    · subst e
      obtain ⟨u, hu⟩ := Option.isSome_iff_exists.1 h2.1
      exact ⟨by rw [World.cell?_setCell_same _ _ _ hu]; rfl, by rw [World.frozen?_setCell]; exact h2.2⟩
    · exact ⟨by rw [World.cell?_setCell_other _ _ _ _ (by simp <;> omega)]; exact h2.1, by rw [World.frozen?_setCell]; exact h2.2⟩
  · have hj' : j < l.length := by simpa using hj
    by_cases e : j = i
    · subst e
      rw [World.cell?_setCell_same _ _ _ (h.bytes j hj')]
      simp
    · rw [World.cell?_setCell_other _ _ _ _ (by simp <;> omega), h.bytes j hj']
      simp [List.getElem_set_ne (Ne.symm e)]
theorem BSat.string {w : World} {B g cap : Nat} {l : List UInt8} (h : BSat w B g cap l) :
    (convert 31 9 (.slice (some ⟨g, 0, none⟩) l.length cap)).run Tryz.prog w = .ok (.string (txt l)) w := by
  have h1 := run_convert_bytes_arg (P := Tryz.prog) w 31 5 Tryz.underlying31 Tryz.underlying5 g 0 l.length cap (l.map fun b => (b.toNat : Int)) (by simp) (fun i hi => by
    rw [Nat.zero_add, h.bytes i hi]
    simp [List.getD, hi]) 9 Tryz.underlying9
  have e : strOfNums (l.map fun b => (b.toNat : Int)) = txt l := by simp [strOfNums, Function.comp_def, txt]
  rw [h1, e]
theorem tokS_parts (B : ByteArray) (l t : List UInt8) (h : B = txt l) : B ++ (⟨#[46]⟩ : ByteArray) ++ (⟨t.toArray⟩ : ByteArray) = txt (l ++ 46 :: t) := by
  have e1 : (⟨#[46]⟩ : ByteArray) = txt [46] := rfl
  have e2 : (⟨t.toArray⟩ : ByteArray) = txt t := rfl
  rw [h, e1, e2, txt_app, txt_app, List.append_assoc]
  rfl
theorem tokS_L {key a b c d : Int} (h : tokOk a b c d) : tokS key a b c d = txt (bodyL a b c d ++ 46 :: tagL key (bodyL a b c d)) := by
  have hb : bodyS a b c d = txt (bodyL a b c d) := bodyS_L (h.1.imp (·.1) (·.1))
  unfold tokS tagS
  rw [tokS_parts _ _ _ hb, hb, data_txt]
end Go.Proofs.YtdfgegicfhcmeaaGreatDoor
