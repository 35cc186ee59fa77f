/-
  rotorkeep.granted: a fact about a service.
-/
import Derived.Test.YtckohmhhcknmaaaGreatDoorG22
namespace Go.Proofs.YtckohmhhcknmaaaGreatDoor
open Go.RowKit Go.Sort

def appS : ByteArray := ⟨#[97, 112, 112]⟩
def annS : ByteArray := ⟨#[97, 110, 110]⟩
def readS : ByteArray := ⟨#[114, 101, 97, 100]⟩
def writeS : ByteArray := ⟨#[119, 114, 105, 116, 101]⟩
def bothS : ByteArray := ⟨#[114, 101, 97, 100, 43, 119, 114, 105, 116, 101]⟩
def oneS_ : ByteArray := ⟨#[111, 110, 101]⟩
def twoS_ : ByteArray := ⟨#[116, 119, 111]⟩
/-- what the fact's five calls come to -/
theorem granted_plan : ∃ z0 z1 z2, doPlan noneS newS (grantP ⟨5, 9, 9, 9⟩ newS.s appS annS readS) = (z0, tokS 5 1 1 0 0, 0) ∧ doPlan noneS z0 (rotateP ⟨5, 9, 9, 9⟩ z0.s (tokS 5 1 1 0 0) oneS_ readS) = (z1, tokS 5 1 1 1 0, 0) ∧ doPlan noneS z1 (rotateP ⟨5, 9, 9, 9⟩ z1.s (tokS 5 1 1 0 0) oneS_ readS) = (z1, tokS 5 1 1 1 0, 0) ∧
    doPlan noneS z1 (rotateP ⟨5, 9, 9, 9⟩ z1.s (tokS 5 1 1 0 0) twoS_ readS) = (z2, noneS, 15) ∧ doPlan noneS z2 (rotateP ⟨5, 9, 9, 9⟩ z2.s (tokS 5 1 1 1 0) twoS_ readS) = (z2, noneS, 6) := by
  obtain ⟨f0, z0, d0, a0, g0, s0⟩ := Ag.grant (r := ⟨5, 9, 9, 9⟩) (cl := appS) (su := annS) (sc := readS) (by decide) (by decide) s_readW.1
  obtain ⟨f1, z1, d1, a1, g1, q1, s1⟩ := a0.turn (r := ⟨5, 9, 9, 9⟩) (by decide) (by decide) (by decide) (by rw [g0]; decide) (q := oneS_) (sc := readS) (by decide) s_readW.1 (by rw [s0]; exact read_in_read)
  rw [g0] at d1 g1
  have d2 := a1.again (r := ⟨5, 9, 9, 9⟩) (by decide) (by decide) (by decide) (g := 0) (by decide) g1 (q := oneS_) (sc := readS) (by decide) q1
  rw [g1] at d2
  obtain ⟨z2, d3, hdead⟩ := a1.stolen (r := ⟨5, 9, 9, 9⟩) (by decide) (by decide) (by decide) (g := 0) (by decide) g1 (q := twoS_) (sc := readS) (by decide) (by rw [q1]; decide)
  have d4 := hdead (tokS 5 1 1 1 0) twoS_ readS 1 (tokOf_tokS (r := ⟨5, 9, 9, 9⟩) (tok_one (by decide) (by decide))) (by decide)
  exact ⟨z0, z1, z2, d0, d1, d2, d3, d4⟩
set_option maxHeartbeats 4000000 in
set_option maxRecDepth 100000 in
theorem granted_yes {B : Nat} {W : World} (hE : Env B W) (hB : B ≤ W.heap.size) (het : ErrType W) (heg : 0 < W.heap.size) :
    Calls Tryz.prog 6 #[] W fun e w' => e = .returned (.bool true) ∧ Below W.heap.size W w' := by
  obtain ⟨z0, z1, z2, d0, d1, d2, d3, d4⟩ := granted_plan
  have hl0 : (tokS 5 1 1 0 0).size ≤ 1000 := Nat.le_trans (tokS_len (tok_one (by decide) (by decide))) (by decide)
  have hl1 : (tokS 5 1 1 1 0).size ≤ 1000 := Nat.le_trans (tokS_len (tok_one (by decide) (by decide))) (by decide)
  have hne := tok_apart (key := 5) (g := 0) (h := 1) (by decide) (by decide) (by decide)
  generalize tokS 5 1 1 0 0 = A at *
  generalize tokS 5 1 1 1 0 = D at *
  have hab : (A.toList == D.toList) = false := by
    rw [texts_eq, decide_eq_false_iff_not]
    exact fun h => hne (by rw [← txt_data A, ← txt_data D, h])
  have hbb : (D.toList == D.toList) = true := by simp
  have HBG := Lib.hid (begun_yes (r := ⟨5, 9, 9, 9⟩) hE hB (by decide))
  have HG := Lib.hid (fun vb sb db v w (h : AW W B vb sb db 0 ⟨5, 9, 9, 9⟩ newS v w) => h.granted (by decide) (cl := ⟨#[97, 112, 112]⟩) (su := ⟨#[97, 110, 110]⟩) (sc := ⟨#[114, 101, 97, 100]⟩) (by decide) (by decide) (by decide) d0 errV_0)
  have HR1 := Lib.hid (fun vb sb db v w (h : AW W B vb sb db 1 ⟨5, 9, 9, 9⟩ z0 v w) => h.rotated (by decide) (t := A) (q := ⟨#[111, 110, 101]⟩) (sc := ⟨#[114, 101, 97, 100]⟩) hl0 (by decide) (by decide) d1 errV_0)
  have HR2 := Lib.hid (fun vb sb db v w (h : AW W B vb sb db 2 ⟨5, 9, 9, 9⟩ z1 v w) => h.rotated (by decide) (t := A) (q := ⟨#[111, 110, 101]⟩) (sc := ⟨#[114, 101, 97, 100]⟩) hl0 (by decide) (by decide) d2 errV_0)
  have HR3 := Lib.hid (fun vb sb db v w (h : AW W B vb sb db 3 ⟨5, 9, 9, 9⟩ z1 v w) => h.rotated (by decide) (t := A) (q := ⟨#[116, 119, 111]⟩) (sc := ⟨#[114, 101, 97, 100]⟩) hl0 (by decide) (by decide) d3 (errV_n (by decide)))
  have HR4 := Lib.hid (fun vb sb db v w (h : AW W B vb sb db 4 ⟨5, 9, 9, 9⟩ z2 v w) => h.rotated (by decide) (t := D) (q := ⟨#[116, 119, 111]⟩) (sc := ⟨#[114, 101, 97, 100]⟩) hl1 (by decide) (by decide) d4 (errV_n (by decide)))
  have HET := Lib.hid het
  clear d0 d1 d2 d3 d4 hne hE het
  dsimp only at HBG
  go_enter Tryz.func6, Tryz.ntmps6
  go_wp2_with fail
  go_at_call 7
  refine HBG.out.mono ?_
  rintro e w1 ⟨vb, sb, db, v, rfl, hsw, hb, h1, h2, h3⟩
  have H1 := Lib.hid (show AW W B vb sb db 0 ⟨5, 9, 9, 9⟩ newS v w1 from ⟨hsw, hb, h1, h2, h3, HET.out, heg⟩)
  clear hsw hb HBG
  go_wp2_with fail
  go_at_call 9
  refine (HG.out _ _ _ _ _ H1.out).mono ?_
  rintro e w2 ⟨rfl, v2, h⟩
  have H2 := Lib.hid h
  clear h H1 HG
  go_wp2_with fail
  go_at_call 11
  refine (HR1.out _ _ _ _ _ H2.out).mono ?_
  rintro e w3 ⟨rfl, ⟨v3, h⟩, _⟩
  have H3 := Lib.hid h
  clear h H2 HR1
  go_wp2_with fail
  go_at_call 11
  refine (HR2.out _ _ _ _ _ H3.out).mono ?_
  rintro e w4 ⟨rfl, ⟨v4, h⟩, _⟩
  have H4 := Lib.hid h
  clear h H3 HR2
  go_wp2_with fail
  go_at_call 11
  refine (HR3.out _ _ _ _ _ H4.out).mono ?_
  rintro e w5 ⟨rfl, ⟨v5, h⟩, _⟩
  have H5 := Lib.hid h
  clear h H4 HR3
  go_wp2_with fail
  go_at_call 11
  refine (HR4.out _ _ _ _ _ H5.out).mono ?_
  rintro e w6 ⟨rfl, ⟨v6, h⟩, _⟩
  have H6 := Lib.hid h
  clear h H5 HR4
  go_wp2_with fail
  go_at_call 13
  refine (tell_no 15 _ H6.out.et).mono ?_
  rintro e w7 ⟨rfl, hb⟩
  have H7 := Lib.hid (H6.out.keep hb)
  clear hb H6
  go_wp2_with fail
  go_at_call 13
  refine (tell_no 6 _ H7.out.et).mono ?_
  rintro e w8 ⟨rfl, hb⟩
  have H8 := Lib.hid (H7.out.keep hb)
  clear hb H7
  go_wp2_with fail
  go_ret
  exact ⟨rfl, H8.out.below⟩
end Go.Proofs.YtckohmhhcknmaaaGreatDoor
