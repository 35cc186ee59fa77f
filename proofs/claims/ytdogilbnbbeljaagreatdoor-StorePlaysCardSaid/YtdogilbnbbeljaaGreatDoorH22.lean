/-
  The reference's May at the other kinds, and at all.
-/
import Derived.Test.YtdogilbnbbeljaaGreatDoorH21
import Derived.Test.YtdogilbnbbeljaaGreatDoorH02
import Derived.Test.YtdogilbnbbeljaaGreatDoorH09
import Derived.Test.YtdogilbnbbeljaaGreatDoorH03
import Derived.Test.YtdogilbnbbeljaaGreatDoorH20
import Derived.Test.YtdogilbnbbeljaaGreatDoorH18
namespace Go.Proofs.YtdogilbnbbeljaaGreatDoor
open Go.RowKit Go.Sort

set_option maxHeartbeats 16000000 in
set_option maxRecDepth 100000 in
theorem may_drop (e : Ev) (W : World) (hk : e.kind = 2 ∨ e.kind = 3) :
    Calls Tryz.prog 44 #[evVal e] W fun x w' => x = .returned (.bool (evB e)) ∧ Below W.heap.size W w' := by
  obtain ⟨a, b, hab⟩ : ∃ a b, ((e.kind = 2 ∧ a = e.time ∧ b = e.id) ∨ (e.kind = 3 ∧ a = e.id ∧ b = e.time)) := by
    rcases hk with h | h
    · exact ⟨_, _, .inl ⟨h, rfl, rfl⟩⟩
    · exact ⟨_, _, .inr ⟨h, rfl, rfl⟩⟩
  have HR := Lib.hid (right_num e.kind a b e rfl hab)
  have HIN := Lib.hid (fun w => ref_in3 b 0 1099511627776 w)
  rw [show (decide ((0 : Int) ≤ b) && decide (b ≤ 1099511627776)) = okN b from rfl] at HIN
  clear hk
  obtain ⟨k, f, id, ti⟩ := e
  dsimp only at hab HR
  have hb : b = id ∨ b = ti := by rcases hab with ⟨-, -, h⟩ | ⟨-, -, h⟩ <;> simp [h]
  cases hz : f.isZero
  · have HX := Lib.hid hz
    have hev : Hid (evB ⟨k, f, id, ti⟩ = false) := Lib.hid (by rw [HR.out, hz]; rfl)
    clear HR hz
    generalize hX : evB ⟨k, f, id, ti⟩ = X at *
    clear hX
    obtain ⟨i, cl, su, sc, ge, ma, us, re, de⟩ := f
    unfold evVal evCs
    dsimp only
    rcases hab with ⟨rfl, rfl, rfl⟩ | ⟨rfl, rfl, rfl⟩
    all_goals
      go_enter Tryz.func44, Tryz.ntmps44
      go_wp2_with fail
      all_goals first
        | (go_ret
           exact ⟨by rw [hev.out]; rfl, alloc2 _ _ _⟩)
        | exact (zero_of (by assumption) (by assumption) (by assumption) (by assumption) (by assumption) (by assumption) (by assumption) (by assumption) (by assumption) HX.out).elim
  · obtain rfl := Fam.isZero_iff.1 hz
    clear hz
    have hz2 : Fam.zero.isZero = true := Fam.isZero_iff.2 rfl
    rw [hz2] at HR
    clear hz2
    generalize hX : evB ⟨k, Fam.zero, id, ti⟩ = X at *
    clear hX
    unfold evVal evCs Fam.zero
    dsimp only
    by_cases h0 : a = 0
    · have h0' : decide (a = 0) = true := by simpa using h0
      rw [h0'] at HR
      rcases hab with ⟨rfl, h1, rfl⟩ | ⟨rfl, h1, rfl⟩
      all_goals
        subst h1
        subst h0
        go_enter Tryz.func44, Tryz.ntmps44
        go_wp2_with (go_at_call 65; refine (HIN.out _).mono ?_; rintro x w' ⟨rfl, rfl⟩)
        go_ret
        exact ⟨by rw [HR.out]; rfl, alloc2 _ _ _⟩
    · have h0' : decide (a = 0) = false := by simpa using h0
      rw [h0'] at HR
      have h0b : (a == 0) = false := by simpa using h0
      rcases hab with ⟨rfl, rfl, rfl⟩ | ⟨rfl, rfl, rfl⟩
      all_goals
        go_enter Tryz.func44, Tryz.ntmps44
        go_wp2_with fail
        go_ret
        exact ⟨by rw [HR.out]; rfl, alloc2 _ _ _⟩

set_option maxHeartbeats 4000000 in
set_option maxRecDepth 100000 in
theorem may_odd (e : Ev) (W : World) (h1 : e.kind ≠ 1) (h2 : e.kind ≠ 2) (h3 : e.kind ≠ 3) :
    Calls Tryz.prog 44 #[evVal e] W fun x w' => x = .returned (.bool (evB e)) ∧ Below W.heap.size W w' := by
  have HR : Hid (evB e = false) := Lib.hid (by unfold evB; rw [if_neg h1, if_neg h2, if_neg h3])
  obtain ⟨k, ⟨i, cl, su, sc, ge, ma, us, re, de⟩, id, ti⟩ := e
  dsimp only at h1 h2 h3
  have e1 : (k == 1) = false := by simpa using h1
  have e2 : (k == 2) = false := by simpa using h2
  have e3 : (k == 3) = false := by simpa using h3
  clear h1 h2 h3
  unfold evVal evCs
  dsimp only
  go_enter Tryz.func44, Tryz.ntmps44
  go_wp2_with fail
  go_ret
  exact ⟨by rw [HR.out]; rfl, alloc2 _ _ _⟩
theorem ref_may (e : Ev) (W : World) (hs : e.fam.short 1000) :
    Calls Tryz.prog 44 #[evVal e] W fun x w' => x = .returned (.bool (evB e)) ∧ Below W.heap.size W w' := by
  by_cases h1 : e.kind = 1
  · exact may_put e W h1 hs
  · by_cases h2 : e.kind = 2
    · exact may_drop e W (.inl h2)
    · by_cases h3 : e.kind = 3
      · exact may_drop e W (.inr h3)
      · exact may_odd e W h1 h2 h3
end Go.Proofs.YtdogilbnbbeljaaGreatDoor

/-
  strings.Split at one byte, strings.Trim at a set of letters: by the shelf's contracts, told of rows of texts.
-/
namespace Go.Proofs.YtdogilbnbbeljaaGreatDoor
open Go.RowKit Go.Sort

/-- the library's variable that strings.Index reads holds some number -/
def MaxL (w : World) : Prop := ∃ m, w.cell? ⟨1, 0, none⟩ = some (.int .i64 m)
theorem maxL_of {w : World} (h : w.ShapedOpen Tryz.prog) : MaxL w := Tryz.spl146.s1_3 w h
theorem MaxL.lt {w : World} (h : MaxL w) : 1 < w.heap.size := by
  obtain ⟨m, hm⟩ := h
  exact World.block_lt_of_cell? w _ hm
theorem MaxL.below {B : Nat} {w w' : World} (h : MaxL w) (hb : Below B w w') (hB : 1 < B) : MaxL w' := by
  obtain ⟨m, hm⟩ := h
  exact ⟨m, (hb.cell (p := ⟨1, 0, none⟩) hB).trans hm⟩
theorem MaxL.below' {w w' : World} (h : MaxL w) (hb : Below w.heap.size w w') : MaxL w' := h.below hb h.lt

theorem split_row (c : UInt8) (s : ByteArray) (B : Nat) (w : World) (hs : s.size ≤ 1000000) (hm : MaxL w) (hB : B ≤ w.heap.size) :
    Calls Tryz.prog 49 #[.string s, .string ⟨#[c]⟩] w fun e w' => ∃ v, e = .returned v ∧ Row w' B v (parts c s.data.toList) ∧ Below w.heap.size w w' := by
  obtain ⟨m, hm⟩ := hm
  refine (Any.strings_Split { Tryz.spl146 with } Tryz.spl146.i9 s ⟨#[c]⟩ m w (by omega) hm (Nat.le_refl _)).mono ?_
  rintro e w' ⟨rfl, rfl⟩
  have e1 : (Lib.splitB ⟨#[c]⟩ 0 (Lib.countB s ⟨#[c]⟩) s).map Value.string = (parts c s.data.toList).map encStr := by
    rw [← splitB_parts, Lib.map_encStr]
  have e2 := countB_parts c s
  have hl := parts_len c s.data.toList
  rw [size_data] at hl
  refine ⟨_, rfl, ?_, (Below.refl _ _).alloc (Nat.le_refl _) _⟩
  rw [e1, e2]
  exact Row.new hB (by unfold maxLen; omega)

theorem dropWhile_all {p : UInt8 → Bool} {l : List UInt8} : l.dropWhile p = [] ↔ l.all p = true := by
  induction l with
  | nil => simp
  | cons x l ih =>
    by_cases h : p x = true
    · rw [List.dropWhile_cons_of_pos h, ih]; simp [h]
    · rw [List.dropWhile_cons_of_neg h]; simp [h]
theorem dropWhile_stop {p : UInt8 → Bool} {l : List UInt8} (h : (l.dropWhile p).all p = true) : l.dropWhile p = [] := by
  rcases e : l.dropWhile p with _ | ⟨x, r⟩
  · rfl
  · exfalso
    have h2 := List.all_eq_true.1 h x (by rw [e]; simp)
    have h3 := List.head?_dropWhile_not p l
    rw [e] at h3
    simp [h2] at h3
theorem trimS_nil (l cs : List UInt8) : Lib.trimS l cs = [] ↔ l.all (cs.contains ·) = true := by
  unfold Lib.trimS Lib.trimRightS Lib.trimLeftS
  rw [dropWhile_all, List.all_reverse]
  constructor
  · intro h
    have := dropWhile_all.1 (dropWhile_stop h)
    rwa [List.all_reverse] at this
  · intro h
    rw [dropWhile_all.2 (by rw [List.all_reverse]; exact h)]
    rfl
def NotEmpty (e : Ending) : Prop := ∃ y : ByteArray, e = .returned (.string y) ∧ y.toList.isEmpty = false
theorem trim_set (cs : ByteArray) (x : ByteArray) (w : World) (hx : x.size ≤ 1000000) (hc : cs.size < 4294967281) (ha : ∀ (j : Nat) b, cs.data.toList[j]? = some b → b.toNat < 128) :
    (x.data.toList.all (cs.data.toList.contains ·) = true → Calls Tryz.prog 109 #[.string x, .string cs] w fun e w' => e = .returned (.string ⟨#[]⟩) ∧ Below w.heap.size w w') ∧
    (x.data.toList.all (cs.data.toList.contains ·) = false → Calls Tryz.prog 109 #[.string x, .string cs] w fun e w' => NotEmpty e ∧ Below w.heap.size w w') := by
  have h := Any.strings_Trim_laid Tryz.tri160 (by kernel_rfl) x cs w (by omega) hc ha
  constructor
  · intro hall
    refine h.mono ?_
    rintro e w' ⟨rfl, hb⟩
    rw [(trimS_nil _ _).2 hall]
    exact ⟨rfl, hb⟩
  · intro hall
    refine h.mono ?_
    rintro e w' ⟨rfl, hb⟩
    refine ⟨⟨_, rfl, ?_⟩, hb⟩
    have : Lib.trimS x.data.toList cs.data.toList ≠ [] := fun e => by rw [(trimS_nil _ _).1 e] at hall; cases hall
    show (txt _).toList.isEmpty = false
    rw [toList_txt]
    simpa using this

end Go.Proofs.YtdogilbnbbeljaaGreatDoor

/-
  event.Name and the reference's Name.
-/
namespace Go.Proofs.YtdogilbnbbeljaaGreatDoor
open Go.RowKit Go.Sort

theorem nameS_lit : nameS = ⟨#[97, 98, 99, 100, 101, 102, 103, 104, 105, 106, 107, 108, 109, 110, 111, 112, 113, 114, 115, 116, 117, 118, 119, 120, 121, 122, 48, 49, 50, 51, 52, 53, 54, 55, 56, 57, 45]⟩ := rfl
theorem name_trim (x : ByteArray) (w : World) (hx : x.size ≤ 1000000) :
    (x.data.toList.all nameC = true → Calls Tryz.prog 109 #[.string x, .string ⟨#[97, 98, 99, 100, 101, 102, 103, 104, 105, 106, 107, 108, 109, 110, 111, 112, 113, 114, 115, 116, 117, 118, 119, 120, 121, 122, 48, 49, 50, 51, 52, 53, 54, 55, 56, 57, 45]⟩] w fun e w' => e = .returned (.string ⟨#[]⟩) ∧ Below w.heap.size w w') ∧
    (x.data.toList.all nameC = false → Calls Tryz.prog 109 #[.string x, .string ⟨#[97, 98, 99, 100, 101, 102, 103, 104, 105, 106, 107, 108, 109, 110, 111, 112, 113, 114, 115, 116, 117, 118, 119, 120, 121, 122, 48, 49, 50, 51, 52, 53, 54, 55, 56, 57, 45]⟩] w fun e w' => NotEmpty e ∧ Below w.heap.size w w') :=
  trim_set nameS x w hx (by decide) (ascii_of_all (by decide))
theorem ev_name (s : ByteArray) (W : World) (hs : s.size ≤ 1000) : Calls Tryz.prog 80 #[.string s] W fun e w' => e = .returned (.bool (nameB s.data.toList)) ∧ Below W.heap.size W w' := by
  have HN := Lib.hid (nameB_size s)
  have hT := name_trim s W (by omega)
  by_cases h0 : s.size < 1
  · clear hT
    go_enter Tryz.func80, Tryz.ntmps80
    go_wp2_with fail
    go_ret
    refine ⟨?_, Below.refl _ _⟩
    rw [HN.out, show decide (1 ≤ (s.size : Int)) = false by simp; omega]
    rfl
  · by_cases h1 : 20 < s.size
    · clear hT
      go_enter Tryz.func80, Tryz.ntmps80
      go_wp2_with fail
      go_ret
      refine ⟨?_, Below.refl _ _⟩
      rw [HN.out, show decide ((s.size : Int) ≤ 20) = false by simp; omega]
      simp
    · have HX := Lib.hid (show (decide (1 ≤ (s.size : Int)) && decide ((s.size : Int) ≤ 20)) = true by simp; omega)
      cases ha : s.data.toList.all nameC
      · have HT := Lib.hid (hT.2 ha)
        have HA := Lib.hid ha
        clear hT ha
        go_enter Tryz.func80, Tryz.ntmps80
        go_wp2_with
          (go_at_call 109; refine HT.out.mono ?_; rintro e w2 ⟨⟨z, rfl, hz⟩, hb2⟩
           have HB := Lib.hid hb2
           clear hb2)
        go_ret
        refine ⟨?_, HB.out⟩
        rw [HN.out, HX.out, HA.out]
        rfl
      · have HT := Lib.hid (hT.1 ha)
        have HA := Lib.hid ha
        clear hT ha
        go_enter Tryz.func80, Tryz.ntmps80
        go_wp2_with
          (go_at_call 109; refine HT.out.mono ?_; rintro e w2 ⟨rfl, hb2⟩
           have HB := Lib.hid hb2
           clear hb2)
        go_ret
        refine ⟨?_, HB.out⟩
        rw [HN.out, HX.out, HA.out]
        rfl
end Go.Proofs.YtdogilbnbbeljaaGreatDoor

/-
  event.within: whether numbers are from 0 to MaxNumber.
-/
namespace Go.Proofs.YtdogilbnbbeljaaGreatDoor
open Go.RowKit Go.Sort

theorem bad_num (x : Int) (w : World) : Calls Tryz.prog 108 #[.int .i64 x] w fun e w' => e = .returned (.bool (!okN x)) ∧ w = w' := by
  by_cases h0 : 0 ≤ x
  · go_enter Tryz.func108, Tryz.ntmps108
    go_wp2_with fail
    go_ret
    refine ⟨?_, rfl⟩
    show Ending.returned _ = _
    have e : (decide (x < 0) || decide (1099511627776 < x)) = !okN x := by
      rw [Bool.eq_iff_iff]
      simp [okN, h0]
      omega
    rw [← e]
    rfl
  · have h1 : x < 0 := by omega
    go_enter Tryz.func108, Tryz.ntmps108
    go_wp2_with fail
    go_ret
    refine ⟨?_, rfl⟩
    show Ending.returned _ = _
    simp [okN]
    try omega

def IntRel (L : List Int) (w : World) (i : Value) (wr : World) : Prop := ∃ k q : Nat, k ≤ L.length ∧ i = .int .i64 k ∧ wr = w.drewN q ∧ ∀ j, j < k → okN (L.getD j 0) = true
def IntGot (L : List Int) (w : World) (e : Ending) (w' : World) : Prop := ∃ (n : Int) (q : Nat), e = .returned (.int .i64 n) ∧ (!decide (0 ≤ n)) = L.all okN ∧ w' = w.drewN q

set_option maxHeartbeats 1000000 in
theorem index_bad (g cap : Nat) (L : List Int) (w : World) (h : IntsAt w g L) (hL : L.length ≤ 1000000) :
    Calls Tryz.prog 151 #[.slice (some ⟨g, 0, none⟩) L.length cap, .func (.func 108) #[] #[]] w (IntGot L w) := by
  have HR := Lib.hid h
  clear h
  go_enter Tryz.func151, Tryz.ntmps151
  go_wp2
  go_loopw [8] (fun i wr => IntRel L w i wr) (fun i _ => L.length - (intOf i).toNat)
  case atStart => exact ⟨0, 0, Nat.zero_le _, rfl, rfl, fun j hj => absurd hj (Nat.not_lt_zero _)⟩
  case round =>
    obtain ⟨k, q, hk, rfl, rfl, hno⟩ := hrel
    have HN := Lib.hid hno
    clear hno
    by_cases hlt : k < L.length
    · have hc := (HR.out.drewN q) k hlt
      generalize hx : L.getD k 0 = x at *
      have HX := Lib.hid hx
      clear hx
      cases hok : okN x
      · have HO := Lib.hid hok
        clear hok
        have HBN := Lib.hid (fun w => (bad_num x w).mono (fun e w' (h : e = .returned (.bool (!okN x)) ∧ w = w') => (show e = .returned (.bool true) ∧ w = w' from ⟨by rw [h.1, HO.out]; rfl, h.2⟩)))
        go_wp2_with (go_at_call 108; refine (HBN.out _).mono ?_; rintro e w1 ⟨rfl, rfl⟩)
        go_ret
        refine ⟨k, q, rfl, ?_, rfl⟩
        rw [ints_at hlt (by rw [HX.out]; exact HO.out)]
        simp
      · have HO := Lib.hid hok
        clear hok
        have HBN := Lib.hid (fun w => (bad_num x w).mono (fun e w' (h : e = .returned (.bool (!okN x)) ∧ w = w') => (show e = .returned (.bool false) ∧ w = w' from ⟨by rw [h.1, HO.out]; rfl, h.2⟩)))
        go_wp2_with (go_at_call 108; refine (HBN.out _).mono ?_; rintro e w1 ⟨rfl, rfl⟩)
        go_roundw
        case rel =>
          refine ⟨k + 1, q, by omega, by go_num, rfl, fun j hj => ?_⟩
          by_cases e : j = k
          · subst e
            rw [HX.out]
            exact HO.out
          · exact HN.out j (by omega)
        case measure => simp [intOf]; omega
    · go_wp2
      go_ret
      refine ⟨-1, q, rfl, ?_, rfl⟩
      rw [ints_all fun j hj => HN.out j (by omega)]
      rfl

set_option maxHeartbeats 1000000 in
theorem contains_bad (g cap : Nat) (L : List Int) (w : World) (h : IntsAt w g L) (hL : L.length ≤ 1000000) :
    Calls Tryz.prog 107 #[.slice (some ⟨g, 0, none⟩) L.length cap, .func (.func 108) #[] #[]] w fun e w' => e = .returned (.bool (!L.all okN)) ∧ ∃ q, w' = w.drewN q := by
  have H := Lib.hid (index_bad g cap L w h hL)
  clear h
  go_enter Tryz.func107, Tryz.ntmps107
  go_wp2_with (go_at_call 151; refine H.out.mono ?_; rintro e w1 ⟨n, q, rfl, hn, rfl⟩; have HN := Lib.hid hn; clear hn)
  go_ret
  exact ⟨by rw [← HN.out, Bool.not_not]; rfl, q, rfl⟩
theorem ev_within (g cap : Nat) (L : List Int) (w : World) (h : IntsAt w g L) (hL : L.length ≤ 1000000) :
    Calls Tryz.prog 79 #[.slice (some ⟨g, 0, none⟩) L.length cap] w fun e w' => e = .returned (.bool (L.all okN)) ∧ Below w.heap.size w w' := by
  have H := Lib.hid (contains_bad g cap L w h hL)
  clear h
  go_enter Tryz.func79, Tryz.ntmps79
  go_wp2_with (go_at_call 107; refine H.out.mono ?_; rintro e w1 ⟨rfl, q, rfl⟩)
  go_ret
  exact ⟨by simp, below_drewN (Below.refl _ _) q⟩
end Go.Proofs.YtdogilbnbbeljaaGreatDoor

/-
  slices.ContainsFunc at 'longer than a word may be'.
-/
namespace Go.Proofs.YtdogilbnbbeljaaGreatDoor
open Go.RowKit Go.Sort

theorem long_b (x : ByteArray) (w : World) : Calls Tryz.prog 150 #[.string x] w fun e w' => e = .returned (.bool (decide (8 < x.size))) ∧ w = w' := by
  by_cases h : 8 < x.size
  · have h1 : decide (8 < x.size) = true := by simpa using h
    go_enter Tryz.func150, Tryz.ntmps150
    go_wp2_with fail
    go_ret
    exact ⟨by rw [h1]; simp; omega, rfl⟩
  · have h1 : decide (8 < x.size) = false := by simpa using h
    go_enter Tryz.func150, Tryz.ntmps150
    go_wp2_with fail
    go_ret
    exact ⟨by rw [h1]; simp; omega, rfl⟩

def IdxRel (L : List (List UInt8)) (w : World) (i : Value) (wr : World) : Prop := ∃ k q : Nat, k ≤ L.length ∧ i = .int .i64 k ∧ wr = w.drewN q ∧ ∀ j, j < k → longB (L.getD j []) = false

theorem any_of_at {L : List (List UInt8)} {k : Nat} (hk : k < L.length) (h : longB (L.getD k []) = true) : L.any longB = true := by
  rw [List.any_eq_true]
  refine ⟨L[k], List.getElem_mem hk, ?_⟩
  simpa [List.getD, hk] using h
theorem any_of_none {L : List (List UInt8)} (h : ∀ j, j < L.length → longB (L.getD j []) = false) : L.any longB = false := by
  rw [List.any_eq_false]
  intro x hx
  obtain ⟨j, hj, rfl⟩ := List.mem_iff_getElem.1 hx
  have := h j hj
  simpa [List.getD, hj] using this
def AtOrNot (L : List (List UInt8)) (w : World) (e : Ending) (w' : World) : Prop := ∃ (n : Int) (q : Nat), e = .returned (.int .i64 n) ∧ decide (0 ≤ n) = L.any longB ∧ w' = w.drewN q

set_option maxHeartbeats 1000000 in
theorem index_long (B g cap : Nat) (L : List (List UInt8)) (w : World) (h : Row w B (.slice (some ⟨g, 0, none⟩) L.length cap) L) (hL : L.length ≤ 1000000) :
    Calls Tryz.prog 176 #[.slice (some ⟨g, 0, none⟩) L.length cap, .func (.func 150) #[] #[]] w (AtOrNot L w) := by
  have HR := Lib.hid h
  clear h
  go_enter Tryz.func176, Tryz.ntmps176
  go_wp2
  go_loopw [8] (fun i wr => IdxRel L w i wr) (fun i _ => L.length - (intOf i).toNat)
  case atStart => exact ⟨0, 0, Nat.zero_le _, rfl, rfl, fun j hj => absurd hj (Nat.not_lt_zero _)⟩
  case round =>
    obtain ⟨k, q, hk, rfl, rfl, hno⟩ := hrel
    have HN := Lib.hid hno
    clear hno
    by_cases hlt : k < L.length
    · have hc := (HR.out.drewN q).cell k hlt
      have hsz := txt_size (L.getD k [])
      generalize hx : txt (L.getD k []) = x at *
      have HX := Lib.hid hx
      clear hx
      by_cases hlong : 8 < x.size
      · have hd : decide (8 < x.size) = true := by simpa using hlong
        have HS := Lib.hid hsz
        clear hsz
        go_wp2_with (go_at_call 150; refine (long_b _ _).mono ?_; rintro e w1 ⟨rfl, rfl⟩)
        go_ret
        refine ⟨k, q, rfl, ?_, rfl⟩
        rw [any_of_at hlt (by unfold longB; rw [← HS.out]; simpa using hlong)]
        simp
      · have hd : decide (8 < x.size) = false := by simpa using hlong
        have HS := Lib.hid hsz
        clear hsz
        go_wp2_with (go_at_call 150; refine (long_b _ _).mono ?_; rintro e w1 ⟨rfl, rfl⟩)
        go_roundw
        case rel =>
          refine ⟨k + 1, q, by omega, by go_num, rfl, fun j hj => ?_⟩
          by_cases e : j = k
          · subst e
            unfold longB
            rw [← HS.out]
            simpa using hlong
          · exact HN.out j (by omega)
        case measure => simp [intOf]; omega
    · go_wp2
      go_ret
      refine ⟨-1, q, rfl, ?_, rfl⟩
      rw [any_of_none fun j hj => HN.out j (by omega)]
      rfl

set_option maxHeartbeats 1000000 in
theorem contains_long (B g cap : Nat) (L : List (List UInt8)) (w : World) (h : Row w B (.slice (some ⟨g, 0, none⟩) L.length cap) L) (hL : L.length ≤ 1000000) :
    Calls Tryz.prog 149 #[.slice (some ⟨g, 0, none⟩) L.length cap, .func (.func 150) #[] #[]] w fun e w' => e = .returned (.bool (L.any longB)) ∧ ∃ q, w' = w.drewN q := by
  have H := Lib.hid (index_long B g cap L w h hL)
  clear h
  go_enter Tryz.func149, Tryz.ntmps149
  go_wp2_with (go_at_call 176; refine H.out.mono ?_; rintro e w1 ⟨n, q, rfl, hn, rfl⟩; have HN := Lib.hid hn; clear hn)
  go_ret
  exact ⟨by rw [← HN.out]; rfl, q, rfl⟩
end Go.Proofs.YtdogilbnbbeljaaGreatDoor

/-
  slices.Compact of a row of texts, by the shelf's contract.
-/
namespace Go.Proofs.YtdogilbnbbeljaaGreatDoor
open Go.RowKit Go.Sort

theorem compact_len (L : List (List UInt8)) : (Lib.compact L).length ≤ L.length := Lib.compact_length_le L
theorem compact_row {B : Nat} {v : Value} {L : List (List UInt8)} {w W : World} (h : Row w B v L) (hB : Below B W w) (hL : L.length ≤ 1000000) :
    Calls Tryz.prog 148 #[v] w fun e w' => ∃ g cap, e = .returned (.slice (some ⟨g, 0, none⟩) (Lib.compact L).length cap) ∧ Row w' B (.slice (some ⟨g, 0, none⟩) (Lib.compact L).length cap) (Lib.compact L) ∧ Below B W w' := by
  obtain ⟨g, cap, rfl, hg, hlt, hn, hm, hH⟩ := h.parts
  refine (Tryz.slices_Compact_string g 0 cap L w hH (by omega) hn).mono ?_
  rintro e w' ⟨rfl, q, rfl⟩
  exact ⟨g, cap, rfl, h.cut (compact_len L), Lib.below_putRow hB hg⟩
end Go.Proofs.YtdogilbnbbeljaaGreatDoor
