/-
  token.Write and rotorref.WriteToken.
-/
import Derived.Test.YtdfgegicfhcmeaaGreatDoorToken2
import Derived.Test.YtdfgegicfhcmeaaGreatDoorBody2
import Derived.Test.YtdfgegicfhcmeaaGreatDoorTell
namespace Go.Proofs.YtdfgegicfhcmeaaGreatDoor
open Go.RowKit

def bodyS (a b c d : Int) : ByteArray := if a = 1 then ⟨#[114, 46]⟩ ++ itoS b ++ ⟨#[46]⟩ ++ itoS c else ⟨#[97, 46]⟩ ++ itoS b ++ ⟨#[46]⟩ ++ itoS c ++ ⟨#[46]⟩ ++ itoS d
theorem right_cases {a b c d : Int} (h : rightN a b c d = true) : (a = 1 ∨ (a = 2 ∧ okN d = true)) ∧ okN b = true ∧ okN c = true := by
  simp [rightN] at h
  obtain ⟨⟨h1, h2⟩, h3⟩ := h
  refine ⟨?_, h2, h3⟩
  rcases h1 with ⟨h, _⟩ | h
  · exact .inl h
  · exact .inr h
theorem token_body (a b c d : Int) (W : World) (hT : Tens W) (h : rightN a b c d = true) :
    Calls Tryz.prog 16 #[v4 a b c d] W fun e w' => e = .returned (.string (bodyS a b c d)) ∧ Below W.heap.size W w' := by
  obtain ⟨h1, hb, hc⟩ := right_cases h
  rcases h1 with rfl | ⟨rfl, hd⟩
  · exact token_body1 b c d W hT hb hc
  · exact token_body2 b c d W hT hb hc hd
theorem ref_body (a b c d : Int) (W : World) (hT : Tens W) (h : rightN a b c d = true) :
    Calls Tryz.prog 31 #[v4 a b c d] W fun e w' => e = .returned (.string (bodyS a b c d)) ∧ Below W.heap.size W w' := by
  obtain ⟨h1, hb, hc⟩ := right_cases h
  rcases h1 with rfl | ⟨rfl, hd⟩
  · exact ref_body1 b c d W hT hb hc
  · exact ref_body2 b c d W hT hb hc hd
theorem bodyS_size (a b c d : Int) (h : rightN a b c d = true) : (bodyS a b c d).size ≤ 70 := by
  obtain ⟨h1, hb, hc⟩ := right_cases h
  have sb := itoS_size b hb
  have sc := itoS_size c hc
  rcases h1 with rfl | ⟨rfl, hd⟩
  · rw [bodyS, if_pos rfl]
    have z1 : (⟨#[114, 46]⟩ ++ itoS b : ByteArray).size ≤ 2 + 21 := app_size _ _ 2 21 (by decide) sb
    have z2 := app_size _ (⟨#[46]⟩ : ByteArray) _ 1 z1 (by decide)
    have z3 := app_size _ (itoS c) _ _ z2 sc
    omega
  · have sd := itoS_size d hd
    rw [bodyS, if_neg (by decide)]
    have z1 : (⟨#[97, 46]⟩ ++ itoS b : ByteArray).size ≤ 2 + 21 := app_size _ _ 2 21 (by decide) sb
    have z2 := app_size _ (⟨#[46]⟩ : ByteArray) _ 1 z1 (by decide)
    have z3 := app_size _ (itoS c) _ _ z2 sc
    have z4 := app_size _ (⟨#[46]⟩ : ByteArray) _ 1 z3 (by decide)
    have z5 := app_size _ (itoS d) _ _ z4 sd
    omega
def tagS (key : Int) (s : ByteArray) : ByteArray := ⟨(tagL key s.data.toList).toArray⟩
theorem tagS_size (key : Int) (s : ByteArray) : (tagS key s).size = 16 := hex_size _ _
def tokS (key a b c d : Int) : ByteArray := bodyS a b c d ++ ⟨#[46]⟩ ++ tagS key (bodyS a b c d)

theorem token_write_no (key a b c d : Int) (W : World) (h : rightN a b c d = false) :
    Calls Tryz.prog 6 #[.int .i64 key, v4 a b c d] W fun e w' => e = .returned (.tuple #[.string ⟨#[]⟩, errV 1]) ∧ Below W.heap.size W w' := by
  have HR := fun w => token_right a b c d w
  rw [h] at HR
  have HH := Lib.hid HR
  clear HR
  unfold v4 at *
  go_enter Tryz.func6, Tryz.ntmps6
  go_wp2_with (go_at_call 15; refine (HH.out _).mono ?_; rintro e w1 ⟨rfl, hb1⟩)
  go_ret2
  exact ⟨rfl, ((Below.refl _ _).alloc (Nat.le_refl _) _).trans (hb1.mono (by simp))⟩
end Go.Proofs.YtdfgegicfhcmeaaGreatDoor
