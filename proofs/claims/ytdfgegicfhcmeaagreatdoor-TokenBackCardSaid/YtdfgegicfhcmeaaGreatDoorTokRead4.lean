/-
  token.Read: the token that any text is, or what is wrong with it.
-/
import Derived.Test.YtdfgegicfhcmeaaGreatDoorTokRead3
namespace Go.Proofs.YtdfgegicfhcmeaaGreatDoor
open Go.RowKit Go.Sort

theorem token_read (key : Int) (s : ByteArray) (W : World) (hs : s.size ≤ 1000) (hm : MaxL W) (hT : Tens W) (hv : ErrVars W) :
    Calls Tryz.prog 7 #[.int .i64 key, .string s] W (ReadGot W (tokR (fun B => tagL key B) (parts 46 s.data.toList))) := by
  by_cases h1 : (parts 46 s.data.toList).getD 0 [] = [97]
  · by_cases h2 : (parts 46 s.data.toList).length = 5
    · rcases e : parts 46 s.data.toList with _ | ⟨a, _ | ⟨b, _ | ⟨c, _ | ⟨d, _ | ⟨t, _ | ⟨u, r⟩⟩⟩⟩⟩⟩
      all_goals (rw [e] at h1 h2; simp at h1 h2)
      subst h1
      exact tokRead_2 key s W hs hm hT hv b c d t e
    · rw [tokR_none (tokP_len2 h1 h2)]
      exact tokRead_form key s W hs hm hT hv (.inr (.inl ⟨h1, h2⟩))
  · by_cases h3 : (parts 46 s.data.toList).getD 0 [] = [114]
    · by_cases h2 : (parts 46 s.data.toList).length = 4
      · rcases e : parts 46 s.data.toList with _ | ⟨a, _ | ⟨b, _ | ⟨c, _ | ⟨d, _ | ⟨u, r⟩⟩⟩⟩⟩
        all_goals (rw [e] at h3 h2; simp at h3 h2)
        subst h3
        exact tokRead_1 key s W hs hm hT hv b c d e
      · rw [tokR_none (tokP_len1 h3 h2)]
        exact tokRead_form key s W hs hm hT hv (.inr (.inr ⟨h3, h2⟩))
    · rw [tokR_none (tokP_kind h1 h3)]
      exact tokRead_form key s W hs hm hT hv (.inl ⟨h1, h3⟩)
end Go.Proofs.YtdfgegicfhcmeaaGreatDoor
