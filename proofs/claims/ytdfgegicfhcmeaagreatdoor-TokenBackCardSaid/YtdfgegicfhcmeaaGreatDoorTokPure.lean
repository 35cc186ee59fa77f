/-
  What a text is as a token, in plain Lean: its body's kind and numbers; its tag.
-/
import Derived.Test.YtdfgegicfhcmeaaGreatDoorNum
import Derived.Test.YtdfgegicfhcmeaaGreatDoorParts
namespace Go.Proofs.YtdfgegicfhcmeaaGreatDoor

/-- a body's kind and numbers -/
def tokP : List (List UInt8) → Option (Int × Int × Int × Int)
  | [h, x, y] => if h = [114] ∧ numB x = true ∧ numB y = true then some (1, atoiN x, atoiN y, 0) else none
  | [h, x, y, z] => if h = [97] ∧ numB x = true ∧ numB y = true ∧ numB z = true then some (2, atoiN x, atoiN y, atoiN z) else none
  | _ => none
/-- a body as it is written -/
def bodyL (a b c d : Int) : List UInt8 :=
  if a = 1 then [114, 46] ++ Lib.itoa b ++ [46] ++ Lib.itoa c else [97, 46] ++ Lib.itoa b ++ [46] ++ Lib.itoa c ++ [46] ++ Lib.itoa d
/-- may such a token be? -/
def tokOk (a b c d : Int) : Prop := ((a = 1 ∧ d = 0) ∨ (a = 2 ∧ okN d = true)) ∧ okN b = true ∧ okN c = true

theorem dot_free {x : Int} (h : okN x = true) : (46 : UInt8) ∉ Lib.itoa x := itoa_free h (by decide)
theorem parts_body {a b c d : Int} (h : tokOk a b c d) : parts 46 (bodyL a b c d) = if a = 1 then [[114], Lib.itoa b, Lib.itoa c] else [[97], Lib.itoa b, Lib.itoa c, Lib.itoa d] := by
  obtain ⟨h1, hb, hc⟩ := h
  rcases h1 with ⟨rfl, rfl⟩ | ⟨rfl, hd⟩
  · have e : bodyL 1 b c 0 = glue 46 [[114], Lib.itoa b, Lib.itoa c] := by simp [bodyL, glue]
    rw [e, parts_glue 46 _ (by simp), if_pos rfl]
    intro w hw
    simp at hw
    rcases hw with rfl | rfl | rfl
    · decide
    · exact dot_free hb
    · exact dot_free hc
  · have e : bodyL 2 b c d = glue 46 [[97], Lib.itoa b, Lib.itoa c, Lib.itoa d] := by simp [bodyL, glue]
    rw [e, parts_glue 46 _ (by simp), if_neg (by decide)]
    intro w hw
    simp at hw
    rcases hw with rfl | rfl | rfl | rfl
    · decide
    · exact dot_free hb
    · exact dot_free hc
    · exact dot_free hd
theorem tokP_body {a b c d : Int} (h : tokOk a b c d) : tokP (parts 46 (bodyL a b c d)) = some (a, b, c, d) := by
  rw [parts_body h]
  obtain ⟨h1, hb, hc⟩ := h
  rcases h1 with ⟨rfl, rfl⟩ | ⟨rfl, hd⟩
  · rw [if_pos rfl]
    simp [tokP, numB_itoa hb, numB_itoa hc, atoiN_itoa hb, atoiN_itoa hc]
  · rw [if_neg (by decide)]
    simp [tokP, numB_itoa hb, numB_itoa hc, numB_itoa hd, atoiN_itoa hb, atoiN_itoa hc, atoiN_itoa hd]
theorem tokP_some {B : List UInt8} {a b c d : Int} (h : tokP (parts 46 B) = some (a, b, c, d)) : tokOk a b c d ∧ bodyL a b c d = B := by
  have hg := glue_parts 46 B
  generalize parts 46 B = L at *
  unfold tokP at h
  split at h
  · rename_i x y z
    split at h
    · rename_i hc
      obtain ⟨rfl, hx, hy⟩ := hc
      simp only [Option.some.injEq, Prod.mk.injEq] at h
      obtain ⟨rfl, rfl, rfl, rfl⟩ := h
      rw [numB_iff] at hx hy
      refine ⟨⟨.inl ⟨rfl, rfl⟩, hx.1, hy.1⟩, ?_⟩
      rw [← hg]
      simp [bodyL, glue, hx.2, hy.2]
    · cases h
  · rename_i x y z u
    split at h
    · rename_i hc
      obtain ⟨rfl, hx, hy, hz⟩ := hc
      simp only [Option.some.injEq, Prod.mk.injEq] at h
      obtain ⟨rfl, rfl, rfl, rfl⟩ := h
      rw [numB_iff] at hx hy hz
      refine ⟨⟨.inr ⟨rfl, hz.1⟩, hx.1, hy.1⟩, ?_⟩
      rw [← hg]
      simp [bodyL, glue, hx.2, hy.2, hz.2]
    · cases h
  · cases h
def hexD : List UInt8 := [48, 49, 50, 51, 52, 53, 54, 55, 56, 57, 97, 98, 99, 100, 101, 102]
/-- sixteen hex digits -/
def tagB (t : List UInt8) : Bool := decide (t.length = 16) && t.all (hexD.contains ·)
/-- what a text is by a key (T: the tag of a body): what is wrong (0, 3, 5), and the token -/
def tokR (T : List UInt8 → List UInt8) (ps : List (List UInt8)) : Int × Int × Int × Int × Int :=
  match tokP ps.dropLast with
  | none => (3, 0, 0, 0, 0)
  | some (a, b, c, d) => if tagB (ps.getLastD []) = true then (if ps.getLastD [] = T (glue 46 ps.dropLast) then (0, a, b, c, d) else (5, 0, 0, 0, 0)) else (3, 0, 0, 0, 0)

theorem tokP_kind {L : List (List UInt8)} (h1 : L.getD 0 [] ≠ [97]) (h2 : L.getD 0 [] ≠ [114]) : tokP L.dropLast = none := by
  rcases L with _ | ⟨a, _ | ⟨b, _ | ⟨c, _ | ⟨d, _ | ⟨e, _ | ⟨f, r⟩⟩⟩⟩⟩⟩
  all_goals first | rfl | (simp at h1 h2; simp [tokP, h1, h2])
theorem tokP_len2 {L : List (List UInt8)} (h1 : L.getD 0 [] = [97]) (h2 : L.length ≠ 5) : tokP L.dropLast = none := by
  rcases L with _ | ⟨a, _ | ⟨b, _ | ⟨c, _ | ⟨d, _ | ⟨e, _ | ⟨f, r⟩⟩⟩⟩⟩⟩
  all_goals first | rfl | (simp at h1 h2; done) | (simp at h1; simp [tokP, h1])
theorem tokP_len1 {L : List (List UInt8)} (h1 : L.getD 0 [] = [114]) (h2 : L.length ≠ 4) : tokP L.dropLast = none := by
  rcases L with _ | ⟨a, _ | ⟨b, _ | ⟨c, _ | ⟨d, _ | ⟨e, _ | ⟨f, r⟩⟩⟩⟩⟩⟩
  all_goals first | rfl | (simp at h1 h2; done) | (simp at h1; simp [tokP, h1])
theorem tokR_1 {T : List UInt8 → List UInt8} {x y t : List UInt8} (hx : numB x = true) (hy : numB y = true) : tokR T [[114], x, y, t] = if tagB t = true then (if t = T (glue 46 [[114], x, y]) then (0, 1, atoiN x, atoiN y, 0) else (5, 0, 0, 0, 0)) else (3, 0, 0, 0, 0) := by
  simp [tokR, tokP, hx, hy]
theorem tokR_2 {T : List UInt8 → List UInt8} {x y z t : List UInt8} (hx : numB x = true) (hy : numB y = true) (hz : numB z = true) : tokR T [[97], x, y, z, t] = if tagB t = true then (if t = T (glue 46 [[97], x, y, z]) then (0, 2, atoiN x, atoiN y, atoiN z) else (5, 0, 0, 0, 0)) else (3, 0, 0, 0, 0) := by
  simp [tokR, tokP, hx, hy, hz]
theorem tagB_no1 {t : List UInt8} (h : ¬ t.length = 16) : ¬ tagB t = true := by simp [tagB, h]
theorem tagB_no2 {t : List UInt8} (h : t.all (hexD.contains ·) = false) : ¬ tagB t = true := by unfold tagB; rw [h]; simp
theorem tagB_yes {t : List UInt8} (h1 : t.length = 16) (h2 : t.all (hexD.contains ·) = true) : tagB t = true := by unfold tagB; rw [h2]; simp [h1]
theorem tokR_none {T : List UInt8 → List UInt8} {ps : List (List UInt8)} (h : tokP ps.dropLast = none) : tokR T ps = (3, 0, 0, 0, 0) := by unfold tokR; rw [h]
end Go.Proofs.YtdfgegicfhcmeaaGreatDoor
