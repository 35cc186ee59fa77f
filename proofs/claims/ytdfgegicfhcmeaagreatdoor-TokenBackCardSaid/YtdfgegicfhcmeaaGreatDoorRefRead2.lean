/-
  rotorref.ReadToken: the numbers of the body's words.
-/
import Derived.Test.YtdfgegicfhcmeaaGreatDoorRefRead
import Derived.RegionTactic
namespace Go.Proofs.YtdfgegicfhcmeaaGreatDoor
open Go.RowKit Go.Sort

/-- the i-th number behind k words -/
def numAt (L : List (List UInt8)) (k i : Nat) : Int := if i < k then atoiN (L.getD (i + 1) []) else 0
def nums3 (L : List (List UInt8)) (k : Nat) : Array Value := #[.int .i64 (numAt L k 0), .int .i64 (numAt L k 1), .int .i64 (numAt L k 2)]
structure RN (W : World) (L : List (List UInt8)) (v : Value) (nb : Nat) (cs : Array Value) (w : World) : Prop where
  rk : RK W w
  row : Row w (W.heap.size + 1) v L
  arr : Blk w nb 61 cs
  ne : W.heap.size < nb
  vne : v.ownBlock ≠ some nb
theorem RN.keep {W w w' : World} {L : List (List UInt8)} {v : Value} {nb : Nat} {cs : Array Value} (h : RN W L v nb cs w) (hb : Below w.heap.size w w') : RN W L v nb cs w' :=
  ⟨h.rk.keep hb, h.row.below hb, h.arr.below' hb, h.ne, h.vne⟩
theorem RN.set {W w : World} {L : List (List UInt8)} {v : Value} {nb : Nat} {cs : Array Value} (h : RN W L v nb cs w) (i : Nat) (u : Value) : RN W L v nb (cs.setIfInBounds i u) (w.setCell ⟨nb, i, none⟩ u) := by
  have hg : w.grownBy (w.setCell ⟨nb, i, none⟩ u) (some nb) := only_setCell (only_refl w _) (.inl rfl) u
  exact ⟨h.rk.keepB ((Below.refl nb w).setCell (Nat.le_refl _) u) h.ne, h.row.kept hg h.vne, h.arr.set_ i u, h.ne, h.vne⟩
theorem nums3_set (L : List (List UInt8)) (k : Nat) (hk : k < 3) : (nums3 L k).setIfInBounds k (.int .i64 (atoiN (L.getD (k + 1) []))) = nums3 L (k + 1) := by
  have : k = 0 ∨ k = 1 ∨ k = 2 := by omega
  rcases this with rfl | rfl | rfl <;> simp [nums3, numAt]
theorem nums3_far (L : List (List UInt8)) (k : Nat) (hk : ¬ k < 3) : nums3 L (k + 1) = nums3 L k := by
  unfold nums3 numAt
  rw [if_pos (by omega), if_pos (by omega), if_pos (by omega), if_pos (by omega), if_pos (by omega), if_pos (by omega)]
theorem atoi_some (s : ByteArray) (w : World) (hs : s.size ≤ 1000000) (hv : ErrVars w) :
    Calls Tryz.prog 29 #[.string s] w fun e w' => (∃ ev, e = .returned (.tuple #[.int .i64 (atoiN s.data.toList), ev])) ∧ Below w.heap.size w w' := by
  cases hE : atoiE s.data.toList
  · exact (atoi_no s w hs hv hE).mono fun e w' ⟨⟨te, pe, h⟩, hb⟩ => ⟨⟨_, h⟩, hb⟩
  · exact (atoi_yes s w hs hE).mono fun e w' ⟨h, hb⟩ => ⟨⟨_, h⟩, hb⟩
theorem RN.start {W w : World} {L : List (List UInt8)} {g cap : Nat} (h : RK W w) (hr : Row w (W.heap.size + 1) (.slice (some ⟨g, 0, none⟩) L.length cap) L) (hg1 : W.heap.size + 1 ≤ g) (hg2 : g < w.heap.size) :
    RN W L (.slice (some ⟨g, 0, none⟩) L.length cap) w.heap.size (nums3 L 0) (w.alloc (.cells #[.int .i64 0, .int .i64 0, .int .i64 0] 61)) := by
  have e : nums3 L 0 = #[.int .i64 0, .int .i64 0, .int .i64 0] := by simp [nums3, numAt]
  rw [e]
  exact ⟨h.keep ((Below.refl _ _).alloc (Nat.le_refl _) _), hr.alloc _, Blk.new w _ _, by omega, by simp [Value.ownBlock]; omega⟩
def WRel (W : World) (L : List (List UInt8)) (v : Value) (nb : Nat) (i : Value) (w : World) : Prop := ∃ k : Nat, k ≤ L.length - 1 ∧ i = .int .i64 k ∧ RN W L v nb (nums3 L k) w

theorem bodyS_L {a b c d : Int} (h : a = 1 ∨ a = 2) : bodyS a b c d = txt (bodyL a b c d) := by
  have e (x : Int) : itoS x = txt (Lib.itoa x) := rfl
  rcases h with rfl | rfl
  · rw [bodyS, bodyL, if_pos rfl, if_pos rfl, e, e, show (⟨#[114, 46]⟩ : ByteArray) = txt [114, 46] from rfl, show (⟨#[46]⟩ : ByteArray) = txt [46] from rfl]
    simp only [txt_app]
  · rw [bodyS, bodyL, if_neg (by decide), if_neg (by decide), e, e, e, show (⟨#[97, 46]⟩ : ByteArray) = txt [97, 46] from rfl, show (⟨#[46]⟩ : ByteArray) = txt [46] from rfl]
    simp only [txt_app]
theorem right_ok {a b c d : Int} : rightN a b c d = true ↔ tokOk a b c d := by
  unfold rightN tokOk
  simp [and_assoc]
def Miss (a b c d : Int) (B : ByteArray) : Prop := rightN a b c d = false ∨ (rightN a b c d = true ∧ bodyS a b c d ≠ B)
def Hit (a b c d : Int) (B : ByteArray) : Prop := rightN a b c d = true ∧ bodyS a b c d = B
theorem miss_of {a b c d : Int} {B : ByteArray} (h : ¬ Hit a b c d B) : Miss a b c d B := by
  unfold Miss
  cases hr : rightN a b c d
  · exact .inl rfl
  · exact .inr ⟨rfl, fun e => h ⟨hr, e⟩⟩
theorem hit_iff {a b c d : Int} {B : ByteArray} (h : Hit a b c d B) : tokOk a b c d ∧ bodyL a b c d = B.data.toList := by
  have h1 := right_ok.1 h.1
  refine ⟨h1, ?_⟩
  have e := h.2
  rw [bodyS_L (h1.1.imp (·.1) (·.1))] at e
  rw [← e, data_txt]
theorem tok_cases (B : ByteArray) (L : List (List UInt8)) (hL : parts 46 B.data.toList = L) :
    (Hit 1 (numAt L (L.length - 1) 0) (numAt L (L.length - 1) 1) 0 B ∧ tokP L = some (1, numAt L (L.length - 1) 0, numAt L (L.length - 1) 1, 0)) ∨
    (Miss 1 (numAt L (L.length - 1) 0) (numAt L (L.length - 1) 1) 0 B ∧ Hit 2 (numAt L (L.length - 1) 0) (numAt L (L.length - 1) 1) (numAt L (L.length - 1) 2) B ∧ tokP L = some (2, numAt L (L.length - 1) 0, numAt L (L.length - 1) 1, numAt L (L.length - 1) 2)) ∨
    (Miss 1 (numAt L (L.length - 1) 0) (numAt L (L.length - 1) 1) 0 B ∧ Miss 2 (numAt L (L.length - 1) 0) (numAt L (L.length - 1) 1) (numAt L (L.length - 1) 2) B ∧ tokP L = none) := by
  have none_of {a b c d : Int} (hn : tokP L = none) : Miss a b c d B := miss_of fun h => by
    have h2 := hit_iff h
    have h3 := tokP_body h2.1
    rw [h2.2, hL, hn] at h3
    cases h3
  cases e : tokP L with
  | none => exact .inr (.inr ⟨none_of e, none_of e, rfl⟩)
  | some q =>
    obtain ⟨a, b, c, d⟩ := q
    have h1 := tokP_some (B := B.data.toList) (by rw [hL]; exact e)
    have hp := parts_body h1.1
    rw [h1.2, hL] at hp
    obtain ⟨hk, hb, hc⟩ := id h1.1
    have hit : bodyS a b c d = B := by
      rw [bodyS_L (hk.imp (·.1) (·.1)), h1.2, txt_data]
    rcases hk with ⟨rfl, rfl⟩ | ⟨rfl, hd⟩
    · rw [if_pos rfl] at hp
      have e0 : numAt L (L.length - 1) 0 = b := by rw [hp]; simp [numAt, atoiN_itoa hb]
      have e1 : numAt L (L.length - 1) 1 = c := by rw [hp]; simp [numAt, atoiN_itoa hc]
      rw [e0, e1]
      exact .inl ⟨⟨right_ok.2 h1.1, hit⟩, rfl⟩
    · rw [if_neg (by decide)] at hp
      have e0 : numAt L (L.length - 1) 0 = b := by rw [hp]; simp [numAt, atoiN_itoa hb]
      have e1 : numAt L (L.length - 1) 1 = c := by rw [hp]; simp [numAt, atoiN_itoa hc]
      have e2 : numAt L (L.length - 1) 2 = d := by rw [hp]; simp [numAt, atoiN_itoa hd]
      rw [e0, e1, e2]
      refine .inr (.inl ⟨miss_of fun h => ?_, ⟨right_ok.2 h1.1, hit⟩, rfl⟩)
      have h2 := (hit_iff h).2
      rw [← h1.2] at h2
      simp [bodyL] at h2
theorem tokR_app {F : List UInt8 → List UInt8} {L : List (List UInt8)} {t : List UInt8} (ht : tagB t = true) :
    tokR F (L ++ [t]) = match tokP L with
      | none => (3, 0, 0, 0, 0)
      | some (a, b, c, d) => if t = F (glue 46 L) then (0, a, b, c, d) else (5, 0, 0, 0, 0) := by
  unfold tokR
  have e1 : (L ++ [t]).dropLast = L := by simp
  have e2 : (L ++ [t]).getLastD [] = t := by simp
  rw [e1, e2, ht]
  rfl
end Go.Proofs.YtdfgegicfhcmeaaGreatDoor
