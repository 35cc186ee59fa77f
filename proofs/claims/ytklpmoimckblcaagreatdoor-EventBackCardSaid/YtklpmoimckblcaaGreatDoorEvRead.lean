/-
  The event that the program reads out of a line's words is the one that the reference tries, in plain Lean.
-/
import Derived.Test.YtklpmoimckblcaaGreatDoorEvPure
namespace Go.Proofs.YtklpmoimckblcaaGreatDoor

theorem wordL_unL {d : List UInt8} : wordL (unL d) = d ↔ d ≠ [] := by
  unfold unL
  by_cases h : d = [95]
  · subst h; rw [if_pos rfl]; simp [wordL]
  · rw [if_neg h]
    unfold wordL
    by_cases h0 : d = []
    · subst h0; simp
    · rw [if_neg h0]; simp [h0]
theorem deadL_is {i : List UInt8} : deadL (decide (i = [49])) = i ↔ i = [48] ∨ i = [49] := by
  unfold deadL
  by_cases h : i = [49]
  · subst h; simp
  · simp only [h, decide_false, Bool.false_eq_true, if_false, or_false]
    exact eq_comm
theorem unL_of {l : List UInt8} (h : nameB l = true) : unL l = l := by
  unfold unL
  rw [if_neg]
  rintro rfl
  revert h
  decide
theorem famB_eq (a : Int) (b c d : ByteArray) (e f g : Int) (h : ByteArray) (i : Bool) : famB ⟨a, b, c, d, e, f, g, h, i⟩ = (okN a && okN e && okN f && okN g && nameB b.data.toList && nameB c.data.toList && reqB h.data.toList && scopeB d.data.toList) := rfl
theorem famV_nine (a b c d e f g h i : List UInt8) (r : List (List UInt8)) : famV (a :: b :: c :: d :: e :: f :: g :: h :: i :: r, false) = ⟨atoiN a, txt (unL b), txt (unL c), txt (unL d), atoiN e, atoiN f, atoiN g, txt (unL h), decide (i = [49])⟩ := rfl
theorem famS_nine (a b c d e f g h i : List UInt8) (r : List (List UInt8)) : famS (a :: b :: c :: d :: e :: f :: g :: h :: i :: r, false) = (r, ((((((((false || !numE a) || decide (b = [])) || decide (c = [])) || decide (d = [])) || !numE e) || !numE f) || !numE g) || decide (h = [])) || (!decide (i = [48]) && !decide (i = [49]))) := rfl
/-- fewer words than nine -/
theorem famS_few {r : List (List UInt8)} (h : r.length < 9) : (famS (r, false)).2 = true := by
  have e0 : numE [] = false := by decide
  rcases r with _ | ⟨a, _ | ⟨b, _ | ⟨c, _ | ⟨d, _ | ⟨e, _ | ⟨f, _ | ⟨g, _ | ⟨h, _ | ⟨i, r⟩⟩⟩⟩⟩⟩⟩⟩⟩
  all_goals first | (simp [famS, numS, textS, nextS, nextV, e0]; done) | (simp at h; omega)
theorem nine (a b c d e f g h i : List UInt8) :
    (progB ([112] :: [a, b, c, d, e, f, g, h, i], false) = (evB (cand ([112] :: [a, b, c, d, e, f, g, h, i])) && decide (evW (cand ([112] :: [a, b, c, d, e, f, g, h, i])) = [112] :: [a, b, c, d, e, f, g, h, i]))) ∧
    (progB ([112] :: [a, b, c, d, e, f, g, h, i], false) = true → (progE ([112] :: [a, b, c, d, e, f, g, h, i], false)).1 = cand ([112] :: [a, b, c, d, e, f, g, h, i])) := by
  have e1 : progE ([112] :: [a, b, c, d, e, f, g, h, i], false) = (⟨1, famV ([a, b, c, d, e, f, g, h, i], false), 0, 0⟩, famS ([a, b, c, d, e, f, g, h, i], false)) := rfl
  have e2 : cand ([112] :: [a, b, c, d, e, f, g, h, i]) = ⟨1, ⟨atoiN a, txt b, txt c, txt (unL d), atoiN e, atoiN f, atoiN g, txt (unL h), decide (i = [49])⟩, 0, 0⟩ := rfl
  have e3 : evW ⟨1, ⟨atoiN a, txt b, txt c, txt (unL d), atoiN e, atoiN f, atoiN g, txt (unL h), decide (i = [49])⟩, 0, 0⟩ = [[112], Lib.itoa (atoiN a), b, c, wordL (unL d), Lib.itoa (atoiN e), Lib.itoa (atoiN f), Lib.itoa (atoiN g), wordL (unL h), deadL (decide (i = [49]))] := by
    rw [evW_1 rfl]
    simp only [famW, data_txt]
  constructor
  · unfold progB
    rw [e1, e2, e3, famV_nine, famS_nine]
    dsimp only
    rw [evB_one, evB_one, famB_eq, famB_eq, data_txt, data_txt, data_txt, data_txt, data_txt, data_txt, nameB_un, nameB_un, Bool.eq_iff_iff]
    simp only [Bool.and_eq_true, Bool.not_eq_true', Bool.or_eq_false_iff, Bool.not_eq_false', decide_eq_true_eq, decide_eq_false_iff_not, Bool.false_or, List.cons.injEq, true_and, and_true, wordL_unL, deadL_is, Bool.and_eq_false_iff]
    constructor
    · rintro ⟨⟨⟨⟨⟨⟨⟨⟨⟨ha, hb⟩, hc⟩, hd⟩, he⟩, hf⟩, hg⟩, hh⟩, hi⟩, hX⟩
      refine ⟨hX, ?_⟩
      unfold numE at ha he hf hg
      simp only [Bool.and_eq_true, decide_eq_true_eq] at ha he hf hg
      refine ⟨ha.2, hd, he.2, hf.2, hg.2, hh, ?_⟩
      exact hi
    · rintro ⟨hX, ha, hd, he, hf, hg, hh, hi⟩
      refine ⟨⟨⟨⟨⟨⟨⟨⟨⟨?_, ?_⟩, ?_⟩, hd⟩, ?_⟩, ?_⟩, ?_⟩, hh⟩, ?_⟩, hX⟩
      · rw [numE_of hX.1.1.1.1.1.1.1]; simpa using ha
      · exact nameB_ne hX.1.1.1.2
      · exact nameB_ne hX.1.1.2
      · rw [numE_of hX.1.1.1.1.1.1.2]; simpa using he
      · rw [numE_of hX.1.1.1.1.1.2]; simpa using hf
      · rw [numE_of hX.1.1.1.1.2]; simpa using hg
      · rcases hi with hi | hi
        · exact .inl (by simp [hi])
        · exact .inr (by simp [hi])
  · intro hp
    unfold progB at hp
    rw [e1] at hp ⊢
    rw [e2, famV_nine] at *
    dsimp only at hp ⊢
    rw [evB_one, famB_eq] at hp
    simp only [Bool.and_eq_true, data_txt, nameB_un] at hp
    rw [unL_of hp.2.1.1.1.2, unL_of hp.2.1.1.2]
theorem cand_ten {ps : List (List UInt8)} (h : ps.length = 10) : evW (cand ps) = [112] :: famW (cand ps).fam := by
  rcases ps with _ | ⟨x, _ | ⟨a, _ | ⟨b, _ | ⟨c, _ | ⟨d, _ | ⟨e, _ | ⟨f, _ | ⟨g, _ | ⟨h, _ | ⟨i, _ | ⟨j, r⟩⟩⟩⟩⟩⟩⟩⟩⟩⟩⟩
  all_goals first | (simp at h; done) | rfl
theorem cand_odd {ps : List (List UInt8)} (h1 : ps.length ≠ 10) (h2 : ps.length ≠ 2) : cand ps = Ev.zero := by
  rcases ps with _ | ⟨x, _ | ⟨a, _ | ⟨b, _ | ⟨c, _ | ⟨d, _ | ⟨e, _ | ⟨f, _ | ⟨g, _ | ⟨h, _ | ⟨i, _ | ⟨j, r⟩⟩⟩⟩⟩⟩⟩⟩⟩⟩⟩
  all_goals first | (simp at h1 h2; done) | rfl
theorem no_cand {x : List UInt8} {r : List (List UInt8)} (h10 : x ≠ [112] ∨ r.length ≠ 9) (h2 : (x ≠ [100] ∧ x ≠ [99]) ∨ r.length ≠ 1) : (evB (cand (x :: r)) && decide (evW (cand (x :: r)) = x :: r)) = false := by
  by_cases hl : r.length = 9
  · have hx : x ≠ [112] := h10.resolve_right fun h => h hl
    rw [cand_ten (by simp [hl])]
    simp [Ne.symm hx]
  · by_cases hl1 : r.length = 1
    · obtain ⟨a, rfl⟩ := List.length_eq_one_iff.1 hl1
      obtain ⟨hx1, hx2⟩ := h2.resolve_right fun h => h rfl
      have : cand [x, a] = ⟨3, Fam.zero, 0, atoiN a⟩ := by
        show (if x = [100] then _ else _) = _
        rw [if_neg hx1]
      rw [this, evW_3 rfl]
      simp [Ne.symm hx2]
    · rw [cand_odd (by simp; omega) (by simp; omega), evB_zero]
      rfl
/-- what the program takes is what the reference takes -/
theorem prog_cand (ps : List (List UInt8)) : progB (ps, false) = (evB (cand ps) && decide (evW (cand ps) = ps)) ∧ (progB (ps, false) = true → (progE (ps, false)).1 = cand ps) := by
  rcases ps with _ | ⟨x, r⟩
  · exact ⟨by decide, fun h => absurd h (by decide)⟩
  · by_cases hp : x = [112]
    · subst hp
      by_cases hl : r.length = 9
      · rcases r with _ | ⟨a, _ | ⟨b, _ | ⟨c, _ | ⟨d, _ | ⟨e, _ | ⟨f, _ | ⟨g, _ | ⟨h, _ | ⟨i, _ | ⟨j, r⟩⟩⟩⟩⟩⟩⟩⟩⟩⟩
        all_goals first | (simp at hl; done) | exact nine _ _ _ _ _ _ _ _ _
      · have e0 : progB ([112] :: r, false) = false := by
          unfold progB
          rw [show progE ([112] :: r, false) = (⟨1, famV (r, false), 0, 0⟩, famS (r, false)) from rfl]
          by_cases h9 : r.length < 9
          · rw [famS_few h9]; rfl
          · rcases r with _ | ⟨a, _ | ⟨b, _ | ⟨c, _ | ⟨d, _ | ⟨e, _ | ⟨f, _ | ⟨g, _ | ⟨h, _ | ⟨i, _ | ⟨j, r⟩⟩⟩⟩⟩⟩⟩⟩⟩⟩
            all_goals first | (simp at hl h9; done) | (rw [famS_nine]; simp)
        rw [e0, no_cand (.inr hl) (.inl ⟨by decide, by decide⟩)]
        exact ⟨rfl, fun h => by cases h⟩
    · by_cases hd : x = [100]
      · subst hd
        have e1 : progE ([100] :: r, false) = (⟨2, Fam.zero, numV (r, false), 0⟩, numS (r, false)) := rfl
        by_cases hl : r.length = 1
        · obtain ⟨a, rfl⟩ := List.length_eq_one_iff.1 hl
          have e2 : cand [[100], a] = ⟨2, Fam.zero, atoiN a, 0⟩ := rfl
          constructor
          · unfold progB
            rw [e1, e2, evB_two, evW_2 rfl]
            show (!(false || !numE a) && decide (([] : List (List UInt8)) = []) && evB ⟨2, Fam.zero, atoiN a, 0⟩) = _
            rw [evB_two]
            have := okN_numE (l := a)
            simp only [Bool.false_or, Bool.not_not, decide_true, Bool.and_true, List.cons.injEq, true_and, and_true]
            rw [Bool.and_comm]
            exact this
          · intro _
            rw [e1, e2]
            rfl
        · have e0 : progB ([100] :: r, false) = false := by
            unfold progB
            rw [e1]
            rcases r with _ | ⟨a, _ | ⟨b, r⟩⟩
            · rfl
            · simp at hl
            · simp [numS, nextS]
          rw [e0, no_cand (.inl (by decide)) (.inr hl)]
          exact ⟨rfl, fun h => by cases h⟩
      · by_cases hc : x = [99]
        · subst hc
          have e1 : progE ([99] :: r, false) = (⟨3, Fam.zero, 0, numV (r, false)⟩, numS (r, false)) := rfl
          by_cases hl : r.length = 1
          · obtain ⟨a, rfl⟩ := List.length_eq_one_iff.1 hl
            have e2 : cand [[99], a] = ⟨3, Fam.zero, 0, atoiN a⟩ := rfl
            constructor
            · unfold progB
              rw [e1, e2, evB_three, evW_3 rfl]
              show (!(false || !numE a) && decide (([] : List (List UInt8)) = []) && evB ⟨3, Fam.zero, 0, atoiN a⟩) = _
              rw [evB_three]
              have := okN_numE (l := a)
              simp only [Bool.false_or, Bool.not_not, decide_true, Bool.and_true, List.cons.injEq, true_and, and_true]
              rw [Bool.and_comm]
              exact this
            · intro _
              rw [e1, e2]
              rfl
          · have e0 : progB ([99] :: r, false) = false := by
              unfold progB
              rw [e1]
              rcases r with _ | ⟨a, _ | ⟨b, r⟩⟩
              · rfl
              · simp at hl
              · simp [numS, nextS]
            rw [e0, no_cand (.inl (by decide)) (.inr hl)]
            exact ⟨rfl, fun h => by cases h⟩
        · have e0 : progB (x :: r, false) = false := by
            unfold progB progE
            show (!(if x = [112] then _ else if x = [100] then _ else if x = [99] then _ else _ : Ev × Rd).2.2 && _ && _) = false
            rw [if_neg hp, if_neg hd, if_neg hc]
            rfl
          rw [e0, no_cand (.inl hp) (.inl ⟨hd, hc⟩)]
          exact ⟨rfl, fun h => by cases h⟩
theorem prog_read (l : List UInt8) : progB (parts 32 l, false) = readB l ∧ (readB l = true → (progE (parts 32 l, false)).1 = readE l) := by
  obtain ⟨h1, h2⟩ := prog_cand (parts 32 l)
  refine ⟨h1, fun h => ?_⟩
  rw [h2 (by rw [h1]; exact h)]
  unfold readE
  rw [if_pos h]
end Go.Proofs.YtklpmoimckblcaaGreatDoor
