/-
  strings.Join of a row of texts, by the shelf's contract.
-/
import Derived.Test.YtklpmoimckblcaaGreatDoorStrs
import Derived.Test.YtklpmoimckblcaaGreatDoorShelf
namespace Go.Proofs.YtklpmoimckblcaaGreatDoor
open Go.RowKit Go.Sort

theorem join_row (c : UInt8) {B : Nat} {v : Value} {L : List (List UInt8)} {w : World} (h : Row w B v L) (hL : L.length ≤ 1000000) (hlen : (glue c L).length ≤ 1000000) :
    Calls Tryz.prog 23 #[v, .string ⟨#[c]⟩] w fun e w' => e = .returned (.string (txt (glue c L))) ∧ Below w.heap.size w w' := by
  obtain ⟨g, cap, rfl, hg, hlt, hn, hm, hH⟩ := h.parts
  have hd : (L.map txt).map (·.data.toList) = L := by
    rw [List.map_map]
    exact (List.map_congr_left fun x _ => data_txt x).trans (List.map_id L)
  have hj : Lib.join ((L.map txt).map (·.data.toList)) (⟨#[c]⟩ : ByteArray).data.toList = glue c L := by rw [hd]; exact glue_join c L
  have := Tryz.strings_Join g 0 cap (L.map txt) ⟨#[c]⟩ w (fun j x hx => by
    rw [List.getElem?_map] at hx
    rcases e : L[j]? with _ | y
    · rw [e] at hx; cases hx
    · rw [e] at hx
      have hj := (List.getElem?_eq_some_iff.1 e).1
      have hc := (hH j (by simpa using hj)).1
      rw [hc]
      simp at hx
      subst hx
      simp [encStr, txt, List.getElem!_eq_getElem?_getD, e]) hlt (by rw [List.length_map]; omega) (by rw [List.length_map]; omega) (by rw [hj]; omega)
  rw [List.length_map, hj] at this
  exact this
end Go.Proofs.YtklpmoimckblcaaGreatDoor
