/-
  event.right at the other kinds, and at all.
-/
import Derived.Test.YtdogilbnbbeljaaGreatDoorH24
import Derived.Test.YtdogilbnbbeljaaGreatDoorH01
import Derived.Test.YtdogilbnbbeljaaGreatDoorH02
import Derived.Test.YtdogilbnbbeljaaGreatDoorH09
import Derived.Lib.LaidTab
import Derived.Lib.ItoaLen
import Derived.Test.YtdogilbnbbeljaaGreatDoorH22
import Derived.Deep.RegionHeld3
namespace Go.Proofs.YtdogilbnbbeljaaGreatDoor
open Go.RowKit Go.Sort

set_option maxHeartbeats 16000000 in
set_option maxRecDepth 100000 in
theorem right_drop (e : Ev) (W : World) (hk : e.kind = 2 ∨ e.kind = 3) :
    Calls Tryz.prog 53 #[evVal e] W fun x w' => x = .returned (.bool (evB e)) ∧ Below W.heap.size W w' := by
  obtain ⟨a, b, hab⟩ : ∃ a b, ((e.kind = 2 ∧ a = e.time ∧ b = e.id) ∨ (e.kind = 3 ∧ a = e.id ∧ b = e.time)) := by
    rcases hk with h | h
    · exact ⟨_, _, .inl ⟨h, rfl, rfl⟩⟩
    · exact ⟨_, _, .inr ⟨h, rfl, rfl⟩⟩
  have HR := Lib.hid (right_num e.kind a b e rfl hab)
  have HW : Hid (∀ (g : Nat) (w : World), IntsAt w g [b] → Calls Tryz.prog 79 #[.slice (some ⟨g, 0, none⟩) 1 1] w fun e w' => e = .returned (.bool ([b].all okN)) ∧ Below w.heap.size w w') := Lib.hid fun g w h => ev_within g 1 [b] w h (show 1 ≤ 1000000 by decide)
  rw [one_ok] at HW
  clear hk
  obtain ⟨k, f, id, ti⟩ := e
  dsimp only at hab HR
  have hb : b = id ∨ b = ti := by rcases hab with ⟨-, -, h⟩ | ⟨-, -, h⟩ <;> simp [h]
  cases hz : f.isZero
  · have HX := Lib.hid hz
    have hev : Hid (evB ⟨k, f, id, ti⟩ = false) := Lib.hid (by rw [HR.out, hz]; rfl)
    clear HR hz
    generalize hX : evB ⟨k, f, id, ti⟩ = X at *
    clear hX
    obtain ⟨i, cl, su, sc, ge, ma, us, re, de⟩ := f
    unfold evVal evCs
    dsimp only
    rcases hab with ⟨rfl, rfl, rfl⟩ | ⟨rfl, rfl, rfl⟩
    all_goals
      go_enter Tryz.func53, Tryz.ntmps53
      go_wp2_with fail
      all_goals first
        | (go_ret
           exact ⟨by rw [hev.out]; rfl, alloc2 _ _ _⟩)
        | exact (zero_of (by assumption) (by assumption) (by assumption) (by assumption) (by assumption) (by assumption) (by assumption) (by assumption) (by assumption) HX.out).elim
  · obtain rfl := Fam.isZero_iff.1 hz
    clear hz
    have hz2 : Fam.zero.isZero = true := Fam.isZero_iff.2 rfl
    rw [hz2] at HR
    clear hz2
    generalize hX : evB ⟨k, Fam.zero, id, ti⟩ = X at *
    clear hX
    unfold evVal evCs Fam.zero
    dsimp only
    by_cases h0 : a = 0
    · have h0' : decide (a = 0) = true := by simpa using h0
      rw [h0'] at HR
      rcases hab with ⟨rfl, h1, rfl⟩ | ⟨rfl, h1, rfl⟩
      all_goals
        subst h1
        subst h0
        go_enter Tryz.func53, Tryz.ntmps53
        go_wp2_with (go_at_call 79; refine (HW.out _ _ (ints_2 W _ _ 3 b)).mono ?_; rintro x w' ⟨rfl, hb⟩; have HB := Lib.hid (alloc3 _ _ _ hb); clear hb)
        go_ret
        exact ⟨by rw [HR.out]; rfl, HB.out⟩
    · have h0' : decide (a = 0) = false := by simpa using h0
      rw [h0'] at HR
      have h0b : (a == 0) = false := by simpa using h0
      rcases hab with ⟨rfl, rfl, rfl⟩ | ⟨rfl, rfl, rfl⟩
      all_goals
        go_enter Tryz.func53, Tryz.ntmps53
        go_wp2_with fail
        go_ret
        exact ⟨by rw [HR.out]; rfl, alloc2 _ _ _⟩

set_option maxHeartbeats 4000000 in
set_option maxRecDepth 100000 in
theorem right_odd (e : Ev) (W : World) (h1 : e.kind ≠ 1) (h2 : e.kind ≠ 2) (h3 : e.kind ≠ 3) :
    Calls Tryz.prog 53 #[evVal e] W fun x w' => x = .returned (.bool (evB e)) ∧ Below W.heap.size W w' := by
  have HR : Hid (evB e = false) := Lib.hid (by unfold evB; rw [if_neg h1, if_neg h2, if_neg h3])
  obtain ⟨k, ⟨i, cl, su, sc, ge, ma, us, re, de⟩, id, ti⟩ := e
  dsimp only at h1 h2 h3
  have e1 : (k == 1) = false := by simpa using h1
  have e2 : (k == 2) = false := by simpa using h2
  have e3 : (k == 3) = false := by simpa using h3
  clear h1 h2 h3
  unfold evVal evCs
  dsimp only
  go_enter Tryz.func53, Tryz.ntmps53
  go_wp2_with fail
  go_ret
  exact ⟨by rw [HR.out]; rfl, alloc2 _ _ _⟩
theorem ev_right (e : Ev) (W : World) (hs : e.fam.short 1000) (hm : MaxL W) :
    Calls Tryz.prog 53 #[evVal e] W fun x w' => x = .returned (.bool (evB e)) ∧ Below W.heap.size W w' := by
  by_cases h1 : e.kind = 1
  · exact right_put e W h1 hs hm
  · by_cases h2 : e.kind = 2
    · exact right_drop e W (.inl h2)
    · by_cases h3 : e.kind = 3
      · exact right_drop e W (.inr h3)
      · exact right_odd e W h1 h2 h3
end Go.Proofs.YtdogilbnbbeljaaGreatDoor

/-
  strconv.Itoa, told by Below; the table kept.
-/
namespace Go.Proofs.YtdogilbnbbeljaaGreatDoor
open Go.RowKit Go.Sort

def Tens (w : World) : Prop := Lib.TabIs Tryz.prog w "internal/strconv.uint64pow10" .u64 Lib.pow10Tab
theorem tens_g : Tryz.prog.globalNamed "internal/strconv.uint64pow10" = some 4 := by kernel_rfl
theorem Tens.below {B : Nat} {w w' : World} (h : Tens w) (hb : Below B w w') (hB : 4 < B) : Tens w' := by
  unfold Tens Lib.TabIs at *
  unfold World.var? at *
  simp only [tens_g, Option.bind_some] at h ⊢
  rw [hb.block _ hB]
  exact h
theorem Tens.lt {w : World} (h : Tens w) : 4 < w.heap.size := by
  have h1 := Lib.TabIs.cell h tens_g 0 (by decide)
  rcases Nat.lt_or_ge 4 w.heap.size with h' | h'
  · exact h'
  · simp [World.cell?, Array.getElem?_eq_none h'] at h1
theorem below_grown (w : World) (k : Nat) (os : Array Obj) : Below w.heap.size w (grow (w.drewN k) os) := by
  refine ⟨rfl, rfl, rfl, ?_, fun i hi => ?_⟩
  · show w.heap.size ≤ (w.heap ++ os).size
    simp
  · show (w.heap ++ os)[i]? = w.heap[i]?
    rw [Array.getElem?_append_left hi]

def itoS (x : Int) : ByteArray := ⟨(Lib.itoa x).toArray⟩
theorem itoS_size (x : Int) (hx : okN x = true) : (itoS x).size ≤ 21 := by
  have h : 0 ≤ x ∧ x ≤ 1099511627776 := by simpa [okN] using hx
  show (Lib.itoa x).toArray.size ≤ 21
  rw [List.size_toArray]
  exact Lib.itoa_length_le x (by omega) (by omega)
theorem itoa_c (x : Int) (hx : okN x = true) (w : World) (hT : Tens w) :
    Calls Tryz.prog 33 #[.int .i64 x] w fun e w' => e = .returned (.string (itoS x)) ∧ Below w.heap.size w w' := by
  have h : 0 ≤ x ∧ x ≤ 1099511627776 := by simpa [okN] using hx
  refine (Tryz.strconv_Itoa x (by omega) (by omega) w hT).mono ?_
  rintro e w' ⟨rfl, k, os, rfl⟩
  exact ⟨rfl, below_grown w k os⟩
theorem keep_body {W w w' : World} {x y z : Value} (h1 : w.cell? ⟨W.heap.size, 1, none⟩ = some x) (h2 : w.cell? ⟨W.heap.size, 2, none⟩ = some y) (h3 : w.cell? ⟨W.heap.size, 3, none⟩ = some z)
    (hT : Tens w) (hB : Below W.heap.size W w) (hb : Below w.heap.size w w') :
    w'.cell? ⟨W.heap.size, 1, none⟩ = some x ∧ w'.cell? ⟨W.heap.size, 2, none⟩ = some y ∧ w'.cell? ⟨W.heap.size, 3, none⟩ = some z ∧ Tens w' ∧ Below W.heap.size W w' := by
  have hlt : W.heap.size < w.heap.size := World.block_lt_of_cell? w _ h1
  refine ⟨?_, ?_, ?_, hT.below hb hT.lt, hB.trans (hb.mono hB.size)⟩
  · rw [hb.cell (p := ⟨W.heap.size, 1, none⟩) hlt]; exact h1
  · rw [hb.cell (p := ⟨W.heap.size, 2, none⟩) hlt]; exact h2
  · rw [hb.cell (p := ⟨W.heap.size, 3, none⟩) hlt]; exact h3
end Go.Proofs.YtdogilbnbbeljaaGreatDoor

/-
  word, by the program and by the reference; strings.Join of ten new words; what is known while an event is written.
-/
namespace Go.Proofs.YtdogilbnbbeljaaGreatDoor
open Go.RowKit Go.Sort

theorem wordL_txt (s : ByteArray) : s.toList.isEmpty = true → txt (wordL s.data.toList) = ⟨#[95]⟩ := by
  intro h
  rw [empty_list, decide_eq_true_eq] at h
  rw [h]
  rfl
theorem wordL_same (s : ByteArray) : s.toList.isEmpty = false → txt (wordL s.data.toList) = s := by
  intro h
  rw [empty_list, decide_eq_false_iff_not] at h
  unfold wordL
  rw [if_neg h, txt_data]
theorem ev_word (s : ByteArray) (w : World) : Calls Tryz.prog 55 #[.string s] w fun e w' => e = .returned (.string (txt (wordL s.data.toList))) ∧ w = w' := by
  cases h : s.toList.isEmpty
  · have H := Lib.hid (wordL_same s h)
    go_enter Tryz.func55, Tryz.ntmps55
    go_wp2_with fail
    go_ret
    exact ⟨by rw [H.out]; rfl, rfl⟩
  · have H := Lib.hid (wordL_txt s h)
    go_enter Tryz.func55, Tryz.ntmps55
    go_wp2_with fail
    go_ret
    exact ⟨by rw [H.out]; rfl, rfl⟩

theorem glue_length (c : UInt8) (n : Nat) : ∀ ws : List (List UInt8), (∀ w ∈ ws, w.length ≤ n) → (glue c ws).length ≤ (n + 1) * ws.length
  | [], _ => by simp [glue]
  | [w], h => by have := h w (by simp); simp [glue]; omega
  | w :: v :: r, h => by
    have := h w (by simp)
    have ih := glue_length c n (v :: r) fun x hx => h x (List.mem_cons_of_mem _ hx)
    rw [glue]
    simp only [List.length_append, List.length_cons, Nat.mul_add] at ih ⊢
    omega
theorem join_new (c : UInt8) (w : World) (L : List (List UInt8)) (hL : L.length ≤ 1000) (hw : ∀ x ∈ L, x.length ≤ 900) :
    Calls Tryz.prog 54 #[.slice (some ⟨w.heap.size, 0, none⟩) L.length L.length, .string ⟨#[c]⟩] (w.alloc (.cells (L.map encStr).toArray 9)) fun e w' => e = .returned (.string (txt (glue c L))) ∧ Below (w.alloc (.cells (L.map encStr).toArray 9)).heap.size (w.alloc (.cells (L.map encStr).toArray 9)) w' := by
  have hg := glue_length c 900 L hw
  exact join_row c (Row.new (w := w) (L := L) (Nat.le_refl _) (by unfold maxLen; omega)) (by omega) (by omega)
theorem enc_data (s : ByteArray) : encStr s.data.toList = .string s := by unfold encStr; congr 1
theorem join_ten (w : World) (a b c d e f g h i j : ByteArray) (z : a.size ≤ 900 ∧ b.size ≤ 900 ∧ c.size ≤ 900 ∧ d.size ≤ 900 ∧ e.size ≤ 900 ∧ f.size ≤ 900 ∧ g.size ≤ 900 ∧ h.size ≤ 900 ∧ i.size ≤ 900 ∧ j.size ≤ 900) :
    Calls Tryz.prog 54 #[.slice (some ⟨w.heap.size, 0, none⟩) 10 10, .string ⟨#[32]⟩] (w.alloc (.cells #[.string a, .string b, .string c, .string d, .string e, .string f, .string g, .string h, .string i, .string j] 9))
      fun x w' => x = .returned (.string (txt (glue 32 [a.data.toList, b.data.toList, c.data.toList, d.data.toList, e.data.toList, f.data.toList, g.data.toList, h.data.toList, i.data.toList, j.data.toList]))) ∧ Below (w.alloc (.cells #[.string a, .string b, .string c, .string d, .string e, .string f, .string g, .string h, .string i, .string j] 9)).heap.size (w.alloc (.cells #[.string a, .string b, .string c, .string d, .string e, .string f, .string g, .string h, .string i, .string j] 9)) w' := by
  have hj := join_new 32 w [a.data.toList, b.data.toList, c.data.toList, d.data.toList, e.data.toList, f.data.toList, g.data.toList, h.data.toList, i.data.toList, j.data.toList] (show 10 ≤ 1000 by decide) (by
    intro x hx
    simp only [List.mem_cons, List.not_mem_nil, or_false] at hx
    rcases hx with rfl | rfl | rfl | rfl | rfl | rfl | rfl | rfl | rfl | rfl
    all_goals rw [size_data]; omega)
  simp only [List.map_cons, List.map_nil, enc_data] at hj
  exact hj

/-- the number table, and that nothing of the caller's has turned -/
structure WB (W w : World) : Prop where
  below : Below W.heap.size W w
  tens : Tens w
  maxl : MaxL w
theorem WB.keep {W w w' : World} (h : WB W w) (hb : Below w.heap.size w w') : WB W w' := ⟨below_2 h.below hb, h.tens.below hb h.tens.lt, h.maxl.below' hb⟩
theorem WB.drew {W w : World} (h : WB W w) : WB W w.drew := ⟨⟨h.below.os, h.below.tape, h.below.output, h.below.size, h.below.block⟩, h.tens, h.maxl⟩
theorem keep_fam {W w w' : World} {g : Nat} {v0 v1 v2 v3 v4 v5 v6 v7 : Value} (h0 : w.cell? ⟨g, 0, none⟩ = some v0) (h1 : w.cell? ⟨g, 1, none⟩ = some v1) (h2 : w.cell? ⟨g, 2, none⟩ = some v2) (h3 : w.cell? ⟨g, 3, none⟩ = some v3)
    (h4 : w.cell? ⟨g, 4, none⟩ = some v4) (h5 : w.cell? ⟨g, 5, none⟩ = some v5) (h6 : w.cell? ⟨g, 6, none⟩ = some v6) (h7 : w.cell? ⟨g, 7, none⟩ = some v7) (hW : WB W w) (hb : Below w.heap.size w w') :
    w'.cell? ⟨g, 0, none⟩ = some v0 ∧ w'.cell? ⟨g, 1, none⟩ = some v1 ∧ w'.cell? ⟨g, 2, none⟩ = some v2 ∧ w'.cell? ⟨g, 3, none⟩ = some v3 ∧ w'.cell? ⟨g, 4, none⟩ = some v4 ∧ w'.cell? ⟨g, 5, none⟩ = some v5 ∧ w'.cell? ⟨g, 6, none⟩ = some v6 ∧ w'.cell? ⟨g, 7, none⟩ = some v7 ∧ WB W w' := by
  have hlt : g < w.heap.size := World.block_lt_of_cell? w _ h0
  refine ⟨?_, ?_, ?_, ?_, ?_, ?_, ?_, ?_, hW.keep hb⟩
  · rw [hb.cell (p := ⟨g, 0, none⟩) hlt]; exact h0
  · rw [hb.cell (p := ⟨g, 1, none⟩) hlt]; exact h1
  · rw [hb.cell (p := ⟨g, 2, none⟩) hlt]; exact h2
  · rw [hb.cell (p := ⟨g, 3, none⟩) hlt]; exact h3
  · rw [hb.cell (p := ⟨g, 4, none⟩) hlt]; exact h4
  · rw [hb.cell (p := ⟨g, 5, none⟩) hlt]; exact h5
  · rw [hb.cell (p := ⟨g, 6, none⟩) hlt]; exact h6
  · rw [hb.cell (p := ⟨g, 7, none⟩) hlt]; exact h7
end Go.Proofs.YtdogilbnbbeljaaGreatDoor

/-
  event.Write: an event's line, or that it may not be.
-/
namespace Go.Proofs.YtdogilbnbbeljaaGreatDoor
open Go.RowKit Go.Sort

/-- what is known while an event is written -/
structure EW (T : TypeId) (W : World) (e : Ev) (w : World) : Prop where
  wb : WB W w
  ev : Blk w W.heap.size T (evCs e)
theorem EW.keep {T : TypeId} {W w w' : World} {e : Ev} (h : EW T W e w) (hb : Below w.heap.size w w') : EW T W e w' := ⟨h.wb.keep hb, h.ev.below' hb⟩
theorem WB.alloc {W w : World} (h : WB W w) (o : Obj) : WB W (w.alloc o) := h.keep ((Below.refl _ _).alloc (Nat.le_refl _) o)
theorem EW.start {T : TypeId} {W : World} (h : WB W W) (e : Ev) : EW T W e (W.alloc (.cells (evCs e) T)) := ⟨h.alloc _, Blk.new W T _⟩
theorem WB.self {W w : World} (h : WB W w) : WB w w := ⟨Below.refl _ _, h.tens, h.maxl⟩

set_option maxHeartbeats 4000000 in
theorem write_no (e : Ev) (W : World) (hs : e.fam.short 1000) (h : WB W W) (hn : evB e = false) :
    Calls Tryz.prog 30 #[evVal e] W fun x w' => x = .returned (.tuple #[.string ⟨#[]⟩, .iface 47 (.int .i64 1)]) ∧ Below W.heap.size W w' := by
  have HR := Lib.hid (fun w (hm : MaxL w) => ev_right e w hs hm)
  rw [hn] at HR
  have H0 := Lib.hid (EW.start (T := 42) h e)
  obtain ⟨k, ⟨i, cl, su, sc, ge, ma, us, re, de⟩, id, ti⟩ := e
  clear hs hn h
  unfold evVal evCs at *
  dsimp only at *
  go_enter Tryz.func30, Tryz.ntmps30
  go_wp2_with fail
  go_at_call 53
  refine (HR.out _ H0.out.wb.maxl).mono ?_
  rintro x w1 ⟨rfl, hb⟩
  have H1 := Lib.hid (H0.out.keep hb)
  clear hb
  go_wp2_with fail
  go_ret2
  exact ⟨rfl, H1.out.wb.below⟩

theorem add2 (a b : UInt8) (x : ByteArray) (hx : x.size ≤ 900) (w : World) : (Op.stringOp .add ⟨#[a, b]⟩ x).run Tryz.prog w = .ok (.string (⟨#[a, b]⟩ ++ x)) w :=
  run_string_add_sum w _ _ (by show 2 + x.size ≤ _; omega)
theorem line_2 {e : Ev} (h : e.kind = 2) : (⟨#[100, 32]⟩ : ByteArray) ++ itoS e.id = txt (evL e) := by
  unfold evL
  rw [evW_2 h]
  show txt [100, 32] ++ txt (Lib.itoa e.id) = _
  rw [txt_app]
  rfl
theorem line_3 {e : Ev} (h : e.kind = 3) : (⟨#[99, 32]⟩ : ByteArray) ++ itoS e.time = txt (evL e) := by
  unfold evL
  rw [evW_3 h]
  show txt [99, 32] ++ txt (Lib.itoa e.time) = _
  rw [txt_app]
  rfl
theorem itoS_900 {x : Int} (h : okN x = true) : (itoS x).size ≤ 900 := by
  have := itoS_size x h
  omega

set_option maxHeartbeats 4000000 in
theorem write_num (e : Ev) (W : World) (hs : e.fam.short 1000) (h : WB W W) (hy : evB e = true) (hk : e.kind = 2 ∨ e.kind = 3) :
    Calls Tryz.prog 30 #[evVal e] W fun x w' => x = .returned (.tuple #[.string (txt (evL e)), .nilIface]) ∧ Below W.heap.size W w' := by
  have HR := Lib.hid (fun w (hm : MaxL w) => ev_right e w hs hm)
  rw [hy] at HR
  have H0 := Lib.hid (EW.start (T := 42) h e)
  have hc := evB_kind hy
  rcases hk with hk | hk
  · have hn : okN e.id = true := by
      rcases hc with ⟨h1, _⟩ | ⟨_, _, _, h2⟩ | ⟨h1, _⟩
      · omega
      · exact h2
      · omega
    have HL := Lib.hid (line_2 hk)
    have hz := itoS_900 hn
    have HI := Lib.hid (fun w hT => itoa_c e.id hn w hT)
    generalize txt (evL e) = line at *
    obtain ⟨k, ⟨i, cl, su, sc, ge, ma, us, re, de⟩, id, ti⟩ := e
    dsimp only at hk
    subst hk
    clear hs hy h hc hn
    unfold evVal evCs at *
    dsimp only at *
    have ha := add2 100 32 _ hz
    generalize itoS id = y at *
    go_enter Tryz.func30, Tryz.ntmps30
    go_wp2_with fail
    go_at_call 53
    refine (HR.out _ H0.out.wb.maxl).mono ?_
    rintro x w1 ⟨rfl, hb⟩
    have H1 := Lib.hid (H0.out.keep hb)
    clear hb
    obtain ⟨c0, c1, c2, c3, c4, c5, c6, c7, c8, c9, c10, c11⟩ := ev_cells H1.out.ev
    go_wp2_with fail
    go_at_call 33
    refine (HI.out _ H1.out.wb.tens).mono ?_
    rintro x w2 ⟨rfl, hb⟩
    have H2 := Lib.hid (H1.out.keep hb)
    clear hb
    go_wp2_with fail
    go_ret2
    exact ⟨by rw [← HL.out]; rfl, H2.out.wb.below⟩
  · have hn : okN e.time = true := by
      rcases hc with ⟨h1, _⟩ | ⟨h1, _⟩ | ⟨_, _, _, h2⟩
      · omega
      · omega
      · exact h2
    have HL := Lib.hid (line_3 hk)
    have hz := itoS_900 hn
    have HI := Lib.hid (fun w hT => itoa_c e.time hn w hT)
    generalize txt (evL e) = line at *
    obtain ⟨k, ⟨i, cl, su, sc, ge, ma, us, re, de⟩, id, ti⟩ := e
    dsimp only at hk
    subst hk
    clear hs hy h hc hn
    unfold evVal evCs at *
    dsimp only at *
    have ha := add2 99 32 _ hz
    generalize itoS ti = y at *
    go_enter Tryz.func30, Tryz.ntmps30
    go_wp2_with fail
    go_at_call 53
    refine (HR.out _ H0.out.wb.maxl).mono ?_
    rintro x w1 ⟨rfl, hb⟩
    have H1 := Lib.hid (H0.out.keep hb)
    clear hb
    obtain ⟨c0, c1, c2, c3, c4, c5, c6, c7, c8, c9, c10, c11⟩ := ev_cells H1.out.ev
    go_wp2_with fail
    go_at_call 33
    refine (HI.out _ H1.out.wb.tens).mono ?_
    rintro x w2 ⟨rfl, hb⟩
    have H2 := Lib.hid (H1.out.keep hb)
    clear hb
    go_wp2_with fail
    go_ret2
    exact ⟨by rw [← HL.out]; rfl, H2.out.wb.below⟩
end Go.Proofs.YtdogilbnbbeljaaGreatDoor
