/-
  TokenReads: the walk whole.
-/
import Derived.Test.YtdfgegicfhcmeaaGreatDoorTokLaw
import Derived.Test.YtdfgegicfhcmeaaGreatDoorRefRead3
namespace Go.Proofs.YtdfgegicfhcmeaaGreatDoor
open Go.RowKit

theorem ref_read (key : Int) (s : ByteArray) (W : World) (hs : s.size ≤ 1000) (hm : MaxL W) (hT : Tens W) (hT2 : Tab15 W) (hv : ErrVars W) :
    Calls Tryz.prog 11 #[.int .i64 key, .string s] W (RefReadGot W (tokR (fun B => tagL key B) (parts 46 s.data.toList))) := by
  rcases cut_or s with ⟨h1, h2⟩ | ⟨B, T, k, h⟩
  · rw [h2, tokR_none (by rfl)]
    exact refRead_none key s W hs h1 hm hT hT2 hv
  · cases hb : tagB T.data.toList
    · have e : tokR (fun B => tagL key B) (parts 46 s.data.toList) = (3, 0, 0, 0, 0) := by
        rw [h.parts]
        unfold tokR
        have e1 : (parts 46 B.data.toList ++ [T.data.toList]).getLastD [] = T.data.toList := by simp
        rw [e1, hb]
        cases tokP (parts 46 B.data.toList ++ [T.data.toList]).dropLast <;> rfl
      rw [e]
      exact refRead_tag key s B T k W hs h hb hm hT hT2 hv
    · exact refRead_main key s B T k W hs h hb hm hT hT2 hv

theorem tokReads_walk (key : Int) (s : ByteArray) (W : World) (hs : s.size ≤ 140737488355328) (h : TL W W) :
    Calls Tryz.prog 4 #[.int .i64 key, .string s] W fun e w' => e = .returned (.bool true) ∧ Below W.heap.size W w' := by
  by_cases h1 : 150 < s.size
  · exact tokReads_long key s W h1 hs
  · refine tokReads_short key s W (by omega) h fun x hx => ?_
    have e := fun w hm hT hv => token_read key x w hx hm hT hv
    have e2 := fun w hT2 hm hT hv => ref_read key x w hx hm hT hT2 hv
    generalize tokR (fun B => tagL key B) (parts 46 x.data.toList) = R at *
    obtain ⟨n, a, b, c, d⟩ := R
    exact ⟨n, a, b, c, d, e, e2⟩
end Go.Proofs.YtdfgegicfhcmeaaGreatDoor
