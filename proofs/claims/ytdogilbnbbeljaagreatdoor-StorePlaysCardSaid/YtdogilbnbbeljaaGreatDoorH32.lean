/-
  store.Store's event: the n-th event of the log.
-/
import Derived.Test.YtdogilbnbbeljaaGreatDoorH27
import Derived.Test.YtdogilbnbbeljaaGreatDoorH31
import Derived.Test.YtdogilbnbbeljaaGreatDoorH28
namespace Go.Proofs.YtdogilbnbbeljaaGreatDoor
open Go.RowKit Go.Sort

/-- what event gives -/
def EvGot (W : World) (o : Option Ev) (x : Ending) (w' : World) : Prop := (∃ (e : Ev) (b : Bool), x = .returned (.tuple #[evVal e, .bool b]) ∧ (match o with | some ev => e = ev ∧ b = true | none => b = false)) ∧ Below W.heap.size W w'
theorem ev_end {W w : World} {A : Act} {e : Ev} {b : Bool} {o : Option Ev} (hb : Below W.heap.size W w) (hr : Blk w W.heap.size 42 (evCs e)) (ho : match o with | some ev => e = ev ∧ b = true | none => b = false)
    (hp : A.tmps.getD 4 undef = .pointer (some ⟨W.heap.size, 0, none⟩)) (hx : A.tmps.getD 5 undef = .bool b) (hd : A.defers = []) :
    bodyPost Tryz.prog Tryz.f28 (EvGot W o) Exit.ret A w :=
  bodyPost_ret (results_row_tmp rfl A.tmps w _ _ _ _ _ hp hx hr Tryz.underlying42 rfl (by kernel_rfl)) hd ⟨⟨e, b, rfl, ho⟩, hb⟩
/-- with the result's block -/
structure SE (W : World) (B sb db : Nat) (D : Dk) (s : St) (v : Value) (n f x : Int) (down : Bool) (w : World) : Prop where
  sd : SD B sb db D s v n f x down w
  res : Blk w W.heap.size 42 (evCs Ev.zero)
  below : Below W.heap.size W w
section
variable {W w w' : World} {B sb db : Nat} {D : Dk} {s : St} {v : Value} {n f x : Int} {down : Bool}
theorem SE.keep (h : SE W B sb db D s v n f x down w) (hb : Below w.heap.size w w') : SE W B sb db D s v n f x down w' := ⟨h.sd.keep hb, h.res.below' hb, below_2 h.below hb⟩
theorem SE.drew (h : SE W B sb db D s v n f x down w) : SE W B sb db D s v n f x down w.drew := ⟨h.sd.drew, h.res, ⟨h.below.os, h.below.tape, h.below.output, h.below.size, h.below.block⟩⟩
theorem SE.start (h : SD B sb db D s v n f x down W) : SE W B sb db D s v n f x down (W.alloc (.cells (evCs Ev.zero) 42)) :=
  ⟨h.keep ((Below.refl _ _).alloc (Nat.le_refl _) _), Blk.new W _ _, (Below.refl _ _).alloc (Nat.le_refl _) _⟩
end
theorem cut_c (l : List UInt8) (hl : l.length ≤ 1000) (w : World) (hm : MaxL w) : Calls Tryz.prog 52 #[.string (txt l), .string ⟨#[32]⟩] w fun e w' => e = .returned (.tuple #[.string (txt (firstHead l)), .string (txt (firstRest l)), .bool (decide (32 ∈ l))]) ∧ Below w.heap.size w w' := by
  obtain ⟨m, hm⟩ := hm
  refine (Tryz.strings_Cut (txt l) ⟨#[32]⟩ m w (by rw [txt_size_]; omega) hm).mono ?_
  rintro e w' ⟨rfl, q, rfl⟩
  refine ⟨?_, below_drewN (Below.refl _ _) q⟩
  rw [data_txt]
  have := lib_cut l
  have e2 : (⟨#[32]⟩ : ByteArray).data.toList = [32] := rfl
  rw [e2, this]
  rfl
theorem takeWhile_len (p : UInt8 → Bool) (l : List UInt8) : (l.takeWhile p).length ≤ l.length := (List.takeWhile_sublist _).length_le
theorem rest_len (l : List UInt8) : (firstRest l).length ≤ l.length := by
  unfold firstRest
  rw [List.length_drop]
  have := (List.dropWhile_sublist (p := fun c : UInt8 => c != 32) (l := l)).length_le
  omega

set_option maxHeartbeats 4000000 in
set_option maxRecDepth 100000 in
theorem event_far (B sb db : Nat) (D : Dk) (s : St) (v : Value) (n f x k : Int) (down : Bool) (W : World) (h : SD B sb db D s v n f x down W) (h0 : 0 ≤ f) (h1 : f ≤ 1000000) (h2 : 0 ≤ k) (h3 : k ≤ 1000000) (hk : 16 ≤ k - f) :
    Calls Tryz.prog 28 #[.pointer (some ⟨sb, 0, none⟩), .int .i64 k] W (EvGot W none) := by
  have H0 := Lib.hid (SE.start h)
  obtain ⟨ck, nx, L⟩ := s
  obtain ⟨c0, c1, c2, c3, c4, c5, c6, c7, z, hlt⟩ := h.cells
  clear h
  unfold evCs Ev.zero Fam.zero at H0
  dsimp only at H0
  go_enter Tryz.func28, Tryz.ntmps28
  go_wp2_with fail
  exact ev_end (e := Ev.zero) (b := false) H0.out.below H0.out.res rfl rfl rfl rfl
set_option maxHeartbeats 4000000 in
set_option maxRecDepth 100000 in
theorem event_none (B sb db : Nat) (D : Dk) (s : St) (v : Value) (n f x k : Int) (down : Bool) (W : World) (h : SD B sb db D s v n f x down W) (hf : D.fits) (h0 : 0 ≤ f) (h1 : f ≤ 1000000) (h2 : 0 ≤ k) (h3 : k ≤ 1000000) (hk : k - f < 16) (ho : openL tagL (blkOf D (k % 16).toNat) = none) :
    Calls Tryz.prog 28 #[.pointer (some ⟨sb, 0, none⟩), .int .i64 k] W (EvGot W none) := by
  have H0 := Lib.hid (SE.start h)
  obtain ⟨j, hj, hj2⟩ : ∃ j : Nat, k.tmod 16 = (j : Int) ∧ (k % 16).toNat = j := ⟨(k % 16).toNat, by rw [Int.tmod_eq_emod_of_nonneg h2]; omega, rfl⟩
  have hj16 : j < 16 := by omega
  rw [hj2] at ho
  have HRD := Lib.hid (fun w hd => disk_read db D j w hd (by omega))
  have HOP := Lib.hid (fun w => store_opened (D.blk.getD j ByteArray.empty) w (by have := hf j; omega))
  have hol : openL tagL (D.blk.getD j ByteArray.empty).data.toList = none := ho
  rw [hol] at HOP
  have HCU := Lib.hid (cut_c [] (Nat.zero_le _))
  have hnil : txt [] = ⟨#[]⟩ := rfl
  rw [hnil] at HCU
  generalize D.blk.getD j ByteArray.empty = blk at *
  obtain ⟨ck, nx, L⟩ := s
  obtain ⟨c0, c1, c2, c3, c4, c5, c6, c7, z, hlt⟩ := h.cells
  clear h ho hol hnil hj2
  unfold evCs Ev.zero Fam.zero at H0
  dsimp only at H0
  go_enter Tryz.func28, Tryz.ntmps28
  go_wp2_with fail
  refine (HRD.out _ H0.out.sd.disk).mono ?_
  rintro e w1 ⟨rfl, rfl⟩
  go_wp2_with fail
  go_at_call 48
  refine (HOP.out _).mono ?_
  rintro e w2 ⟨⟨x2, b2, rfl, rfl, rfl⟩, hb⟩
  have H2 := Lib.hid (H0.out.keep hb)
  clear hb
  go_wp2_with fail
  go_at_call 52
  refine (HCU.out _ H2.out.sd.env.maxl).mono ?_
  rintro e w3 ⟨rfl, hb⟩
  have H3 := Lib.hid (H2.out.keep hb)
  clear hb H2 H0
  have hres := H3.out.res
  have f1 := hres.frozen
  obtain ⟨r0, r1, r2, r3, r4, r5, r6, r7, r8, r9, r10, r11⟩ := ev_cells (k := 0) (i := 0) (cl := ⟨#[]⟩) (su := ⟨#[]⟩) (sc := ⟨#[]⟩) (ge := 0) (ma := 0) (us := 0) (re := ⟨#[]⟩) (de := false) (id := 0) (ti := 0) hres
  clear hres
  go_wp2_with fail
  exact ev_end (e := Ev.zero) (b := false) (res_below (e' := Ev.zero) H3.out.below) (res_sets (e' := Ev.zero) H3.out.res) rfl rfl rfl rfl
set_option maxHeartbeats 4000000 in
set_option maxRecDepth 100000 in
theorem event_other (B sb db : Nat) (D : Dk) (s : St) (v : Value) (n f x k : Int) (down : Bool) (W : World) (h : SD B sb db D s v n f x down W) (hf : D.fits) (h0 : 0 ≤ f) (h1 : f ≤ 1000000) (h2 : 0 ≤ k) (h3 : k ≤ 1000000) (hk : k - f < 16) (l : List UInt8) (ho : openL tagL (blkOf D (k % 16).toNat) = some l) (hll : l.length ≤ 240) (hne : firstHead l ≠ Lib.itoa k) (hkM : okM k = true) :
    Calls Tryz.prog 28 #[.pointer (some ⟨sb, 0, none⟩), .int .i64 k] W (EvGot W none) := by
  have H0 := Lib.hid (SE.start h)
  obtain ⟨j, hj, hj2⟩ : ∃ j : Nat, k.tmod 16 = (j : Int) ∧ (k % 16).toNat = j := ⟨(k % 16).toNat, by rw [Int.tmod_eq_emod_of_nonneg h2]; omega, rfl⟩
  have hj16 : j < 16 := by omega
  rw [hj2] at ho
  have HRD := Lib.hid (fun w hd => disk_read db D j w hd (by omega))
  have HOP := Lib.hid (fun w => store_opened (D.blk.getD j ByteArray.empty) w (by have := hf j; omega))
  have hol : openL tagL (D.blk.getD j ByteArray.empty).data.toList = some l := ho
  have HOP : Hid (∀ w, Calls Tryz.prog 48 #[.string (D.blk.getD j ByteArray.empty)] w fun e w' => e = .returned (.tuple #[.string (txt l), .bool true]) ∧ Below w.heap.size w w') := Lib.hid fun w => by
    have h1 := HOP.out w
    rw [hol] at h1
    refine h1.mono ?_
    rintro e w' ⟨⟨x2, b2, rfl, rfl, rfl⟩, hb⟩
    exact ⟨rfl, hb⟩
  have HCU := Lib.hid (cut_c l (by omega))
  have HIT := Lib.hid (fun w hT => itoaM_c k hkM w hT)
  have hq : ((txt (firstHead l)).toList == (itoS k).toList) = false := by
    rw [toList_txt, show (itoS k).toList = Lib.itoa k from by unfold itoS; rw [ByteArray.toList_eq]]
    simpa using hne
  generalize itoS k = ik at *
  generalize decide (32 ∈ l) = fb at *
  generalize txt (firstHead l) = th at *
  generalize txt (firstRest l) = tr at *
  generalize txt l = tl at *
  generalize D.blk.getD j ByteArray.empty = blk at *
  obtain ⟨ck, nx, L⟩ := s
  obtain ⟨c0, c1, c2, c3, c4, c5, c6, c7, z, hlt⟩ := h.cells
  clear h ho hol hj2 hne hkM hll
  unfold evCs Ev.zero Fam.zero at H0
  dsimp only at H0
  go_enter Tryz.func28, Tryz.ntmps28
  go_wp2_with fail
  refine (HRD.out _ H0.out.sd.disk).mono ?_
  rintro e w1 ⟨rfl, rfl⟩
  go_wp2_with fail
  go_at_call 48
  refine (HOP.out _).mono ?_
  rintro e w2 ⟨rfl, hb⟩
  have H2 := Lib.hid (H0.out.keep hb)
  clear hb
  go_wp2_with fail
  go_at_call 52
  refine (HCU.out _ H2.out.sd.env.maxl).mono ?_
  rintro e w3 ⟨rfl, hb⟩
  have H3a := Lib.hid (H2.out.keep hb)
  clear hb H2 H0
  go_wp2_with fail
  go_at_call 33
  refine (HIT.out _ H3a.out.sd.env.tens).mono ?_
  rintro e w4 ⟨rfl, hb⟩
  have H3 := Lib.hid (H3a.out.keep hb)
  clear hb H3a
  have hres := H3.out.res
  have f1 := hres.frozen
  obtain ⟨r0, r1, r2, r3, r4, r5, r6, r7, r8, r9, r10, r11⟩ := ev_cells (k := 0) (i := 0) (cl := ⟨#[]⟩) (su := ⟨#[]⟩) (sc := ⟨#[]⟩) (ge := 0) (ma := 0) (us := 0) (re := ⟨#[]⟩) (de := false) (id := 0) (ti := 0) hres
  clear hres
  go_wp2_with fail
  exact ev_end (e := Ev.zero) (b := false) (res_below (e' := Ev.zero) H3.out.below) (res_sets (e' := Ev.zero) H3.out.res) rfl rfl rfl rfl
end Go.Proofs.YtdogilbnbbeljaaGreatDoor

/-
  store.Store's event, where the log has it; all ways joined.
-/
namespace Go.Proofs.YtdogilbnbbeljaaGreatDoor
open Go.RowKit Go.Sort

theorem below_dr {B : Nat} {a w : World} (h : Below B a w) : Below B a w.drew := ⟨h.os, h.tape, h.output, h.size, h.block⟩
theorem blk_dr {w : World} {g : Nat} {t : TypeId} {cs : Array Value} (h : Blk w g t cs) : Blk w.drew g t cs := h
set_option maxHeartbeats 4000000 in
set_option maxRecDepth 100000 in
theorem event_read (B sb db : Nat) (D : Dk) (s : St) (v : Value) (n f x k : Int) (down : Bool) (W : World) (h : SD B sb db D s v n f x down W) (hf : D.fits) (h0 : 0 ≤ f) (h1 : f ≤ 1000000) (h2 : 0 ≤ k) (h3 : k ≤ 1000000) (hk : k - f < 16) (l : List UInt8) (ho : openL tagL (blkOf D (k % 16).toNat) = some l) (hll : l.length ≤ 240) (hne : firstHead l = Lib.itoa k) (hkM : okM k = true) :
    Calls Tryz.prog 28 #[.pointer (some ⟨sb, 0, none⟩), .int .i64 k] W (EvGot W (if readB (firstRest l) then some (readE (firstRest l)) else none)) := by
  have H0 := Lib.hid (SE.start h)
  obtain ⟨j, hj, hj2⟩ : ∃ j : Nat, k.tmod 16 = (j : Int) ∧ (k % 16).toNat = j := ⟨(k % 16).toNat, by rw [Int.tmod_eq_emod_of_nonneg h2]; omega, rfl⟩
  have hj16 : j < 16 := by omega
  rw [hj2] at ho
  have HRD := Lib.hid (fun w hd => disk_read db D j w hd (by omega))
  have HOP := Lib.hid (fun w => store_opened (D.blk.getD j ByteArray.empty) w (by have := hf j; omega))
  have hol : openL tagL (D.blk.getD j ByteArray.empty).data.toList = some l := ho
  have HOP : Hid (∀ w, Calls Tryz.prog 48 #[.string (D.blk.getD j ByteArray.empty)] w fun e w' => e = .returned (.tuple #[.string (txt l), .bool true]) ∧ Below w.heap.size w w') := Lib.hid fun w => by
    have h1 := HOP.out w
    rw [hol] at h1
    refine h1.mono ?_
    rintro e w' ⟨⟨x2, b2, rfl, rfl, rfl⟩, hb⟩
    exact ⟨rfl, hb⟩
  have HCU := Lib.hid (cut_c l (by omega))
  have HIT := Lib.hid (fun w hT => itoaM_c k hkM w hT)
  have hq : ((txt (firstHead l)).toList == (itoS k).toList) = true := by
    rw [toList_txt, show (itoS k).toList = Lib.itoa k from by unfold itoS; rw [ByteArray.toList_eq]]
    simpa using hne
  have hrl := rest_len l
  have HRE : Hid (∀ w, WB w w → ErrVars w → Calls Tryz.prog 51 #[.string (txt (firstRest l))] w (ReadGot w (readE (firstRest l)) (if readB (firstRest l) then 0 else 3))) := Lib.hid fun w hw he => by
    have := ev_read (txt (firstRest l)) w (by rw [txt_size_]; omega) hw he
    rw [data_txt] at this
    exact this
  generalize itoS k = ik at *
  generalize decide (32 ∈ l) = fb at *
  generalize txt (firstHead l) = th at *
  generalize txt (firstRest l) = tr at *
  generalize readE (firstRest l) = ev at *
  generalize readB (firstRest l) = rb at *
  generalize txt l = tl at *
  generalize D.blk.getD j ByteArray.empty = blk at *
  obtain ⟨ck, nx, L⟩ := s
  obtain ⟨c0, c1, c2, c3, c4, c5, c6, c7, z, hlt⟩ := h.cells
  clear h ho hol hj2 hne hkM hll hrl
  unfold evCs Ev.zero Fam.zero at H0
  dsimp only at H0
  rcases rb with _ | _
  all_goals
    simp only [Bool.false_eq_true, if_false, if_true] at HRE
    go_enter Tryz.func28, Tryz.ntmps28
    go_wp2_with fail
    refine (HRD.out _ H0.out.sd.disk).mono ?_
    rintro e w1 ⟨rfl, rfl⟩
    go_wp2_with fail
    go_at_call 48
    refine (HOP.out _).mono ?_
    rintro e w2 ⟨rfl, hb⟩
    have H2 := Lib.hid (H0.out.keep hb)
    clear hb
    go_wp2_with fail
    go_at_call 52
    refine (HCU.out _ H2.out.sd.env.maxl).mono ?_
    rintro e w3 ⟨rfl, hb⟩
    have H3a := Lib.hid (H2.out.keep hb)
    clear hb H2 H0
    go_wp2_with fail
    go_at_call 33
    refine (HIT.out _ H3a.out.sd.env.tens).mono ?_
    rintro e w4 ⟨rfl, hb⟩
    have H3 := Lib.hid (H3a.out.keep hb)
    clear hb H3a
    go_wp2_with fail
    go_at_call 51
    refine (HRE.out _ H3.out.sd.env.wb H3.out.sd.env.errs).mono ?_
    rintro e w5 ⟨rfl, hb⟩
    have H4 := Lib.hid (H3.out.keep hb)
    clear hb H3 c0 c1 c2 c3 c4 c5 c6 c7 z hlt
    obtain ⟨kd, ⟨i, cl, su, sc, ge, ma, us, re, de⟩, id, ti⟩ := ev
    unfold evVal evCs
    dsimp only
    first
      | rw [show errV 3 = .iface 47 (.int .i64 3) from rfl]
      | rw [show errV 0 = .nilIface from rfl]
    have HN := Lib.hid (Blk.new w5 42 (evCs ⟨kd, ⟨i, cl, su, sc, ge, ma, us, re, de⟩, id, ti⟩))
    have HK := Lib.hid (H4.out.keep ((Below.refl _ _).alloc (Nat.le_refl _) (.cells (evCs ⟨kd, ⟨i, cl, su, sc, ge, ma, us, re, de⟩, id, ti⟩) 42)))
    have hres := H4.out.res
    have f1 := hres.frozen
    have f2 := hres.lt
    obtain ⟨r0, r1, r2, r3, r4, r5, r6, r7, r8, r9, r10, r11⟩ := ev_cells (k := 0) (i := 0) (cl := ⟨#[]⟩) (su := ⟨#[]⟩) (sc := ⟨#[]⟩) (ge := 0) (ma := 0) (us := 0) (re := ⟨#[]⟩) (de := false) (id := 0) (ti := 0) hres
    clear hres
    have f3 := HK.out.res.frozen
    unfold evCs at f3
    dsimp only at f3
    go_wp2_with fail
    go_region
    go_wp2_with fail
    have hb1 := res_below (e' := ⟨kd, ⟨i, cl, su, sc, ge, ma, us, re, de⟩, id, ti⟩) H4.out.below
    have hb2 := below_dr (hb1.alloc hb1.size (.cells #[.int .i64 kd, .int .i64 i, .string cl, .string su, .string sc, .int .i64 ge, .int .i64 ma, .int .i64 us, .string re, .bool de, .int .i64 id, .int .i64 ti] 42))
    have hr1 := res_sets (e' := ⟨kd, ⟨i, cl, su, sc, ge, ma, us, re, de⟩, id, ti⟩) H4.out.res
    have hr2 := blk_dr (hr1.alloc (.cells #[.int .i64 kd, .int .i64 i, .string cl, .string su, .string sc, .int .i64 ge, .int .i64 ma, .int .i64 us, .string re, .bool de, .int .i64 id, .int .i64 ti] 42))
    first
      | exact ev_end (o := none) (b := false) hb2 hr2 rfl rfl rfl rfl
      | exact ev_end (b := true) hb2 hr2 ⟨rfl, rfl⟩ rfl rfl rfl
theorem openL_len {s x : List UInt8} (h : openL tagL s = some x) : x.length ≤ s.length := by
  unfold openL at h
  split at h
  · rename_i y t hc
    split at h
    · obtain rfl := Option.some.inj h
      unfold cutLast at hc
      split at hc
      · obtain ⟨rfl, _⟩ := Prod.mk.inj (Option.some.inj hc)
        rw [List.length_take]
        omega
      · cases hc
    · cases h
  · cases h
/-- store.Store's event: the k-th event of the log -/
theorem store_event (B sb db : Nat) (D : Dk) (s : St) (v : Value) (n f x k : Int) (down : Bool) (W : World) (h : SD B sb db D s v n f x down W) (hf : D.fits) (h0 : 0 ≤ f) (h1 : f ≤ 1000000) (h2 : 0 ≤ k) (h3 : k ≤ 1000000) :
    Calls Tryz.prog 28 #[.pointer (some ⟨sb, 0, none⟩), .int .i64 k] W (EvGot W (eventR tagL (blkOf D) f k)) := by
  have hkM : okM k = true := okM_iff.2 (by omega)
  unfold eventR
  by_cases hk : k - f ≥ 16
  · rw [if_pos hk]
    exact event_far B sb db D s v n f x k down W h h0 h1 h2 h3 hk
  · rw [if_neg hk]
    unfold readRec
    rcases ho : openL tagL (blkOf D (k % 16).toNat) with _ | l
    · exact event_none B sb db D s v n f x k down W h hf h0 h1 h2 h3 (by omega) ho
    · have hl := openL_len ho
      have hb := blkOf_size hf (k % 16).toNat
      dsimp only
      by_cases hh : firstHead l = Lib.itoa k
      · rw [if_pos hh]
        exact event_read B sb db D s v n f x k down W h hf h0 h1 h2 h3 (by omega) l ho (by omega) hh hkM
      · rw [if_neg hh]
        exact event_other B sb db D s v n f x k down W h hf h0 h1 h2 h3 (by omega) l ho (by omega) hh hkM
end Go.Proofs.YtdogilbnbbeljaaGreatDoor
