/-
  store.Store's event: the n-th event of the log.
-/
import Derived.Test.YtckohmhhcknmaaaGreatDoorP14
import Derived.Test.YtckohmhhcknmaaaGreatDoorP16
import Derived.Test.YtckohmhhcknmaaaGreatDoorP13
import Derived.Test.YtckohmhhcknmaaaGreatDoorP15
import Derived.Test.YtckohmhhcknmaaaGreatDoorP11
import Derived.Deep.RegionHeld3
namespace Go.Proofs.YtckohmhhcknmaaaGreatDoor
open Go.RowKit Go.Sort

/-- what event gives -/
def EvGot (W : World) (o : Option Ev) (x : Ending) (w' : World) : Prop := (∃ (e : Ev) (b : Bool), x = .returned (.tuple #[evVal e, .bool b]) ∧ (match o with | some ev => e = ev ∧ b = true | none => b = false)) ∧ Below W.heap.size W w'
theorem ev_end {W w : World} {A : Act} {e : Ev} {b : Bool} {o : Option Ev} (hb : Below W.heap.size W w) (hr : Blk w W.heap.size 102 (evCs e)) (ho : match o with | some ev => e = ev ∧ b = true | none => b = false)
    (hp : A.tmps.getD 4 undef = .pointer (some ⟨W.heap.size, 0, none⟩)) (hx : A.tmps.getD 5 undef = .bool b) (hd : A.defers = []) :
    bodyPost Tryz.prog Tryz.f53 (EvGot W o) Exit.ret A w :=
  bodyPost_ret (results_row_tmp rfl A.tmps w _ _ _ _ _ hp hx hr Tryz.underlying102 rfl (by kernel_rfl)) hd ⟨⟨e, b, rfl, ho⟩, hb⟩
/-- with the result's block -/
structure SE (W : World) (B sb db : Nat) (D : Dk) (s : St) (v : Value) (n f x : Int) (down : Bool) (w : World) : Prop where
  sd : SD B sb db D s v n f x down w
  res : Blk w W.heap.size 102 (evCs Ev.zero)
  below : Below W.heap.size W w
section
variable {W w w' : World} {B sb db : Nat} {D : Dk} {s : St} {v : Value} {n f x : Int} {down : Bool}
theorem SE.keep (h : SE W B sb db D s v n f x down w) (hb : Below w.heap.size w w') : SE W B sb db D s v n f x down w' := ⟨h.sd.keep hb, h.res.below' hb, below_2 h.below hb⟩
theorem SE.drew (h : SE W B sb db D s v n f x down w) : SE W B sb db D s v n f x down w.drew := ⟨h.sd.drew, h.res, ⟨h.below.os, h.below.tape, h.below.output, h.below.size, h.below.block⟩⟩
theorem SE.start (h : SD B sb db D s v n f x down W) : SE W B sb db D s v n f x down (W.alloc (.cells (evCs Ev.zero) 102)) :=
  ⟨h.keep ((Below.refl _ _).alloc (Nat.le_refl _) _), Blk.new W _ _, (Below.refl _ _).alloc (Nat.le_refl _) _⟩
end
theorem cut_c (l : List UInt8) (hl : l.length ≤ 1000) (w : World) (hm : MaxL w) : Calls Tryz.prog 101 #[.string (txt l), .string ⟨#[32]⟩] w fun e w' => e = .returned (.tuple #[.string (txt (firstHead l)), .string (txt (firstRest l)), .bool (decide (32 ∈ l))]) ∧ Below w.heap.size w w' := by
  obtain ⟨m, hm⟩ := hm
  refine (Tryz.strings_Cut (txt l) ⟨#[32]⟩ m w (by rw [txt_size_]; omega) hm).mono ?_
  rintro e w' ⟨rfl, q, rfl⟩
  refine ⟨?_, below_drewN (Below.refl _ _) q⟩
  rw [data_txt]
  have := lib_cut l
  have e2 : (⟨#[32]⟩ : ByteArray).data.toList = [32] := rfl
  rw [e2, this]
  rfl
theorem rest_len (l : List UInt8) : (firstRest l).length ≤ l.length := by
  unfold firstRest
  rw [List.length_drop]
  have := (List.dropWhile_sublist (p := fun c : UInt8 => c != 32) (l := l)).length_le
  omega

set_option maxHeartbeats 4000000 in
set_option maxRecDepth 100000 in
theorem event_far (B sb db : Nat) (D : Dk) (s : St) (v : Value) (n f x k : Int) (down : Bool) (W : World) (h : SD B sb db D s v n f x down W) (h0 : 0 ≤ f) (h1 : f ≤ 1000000) (h2 : 0 ≤ k) (h3 : k ≤ 1000000) (hk : 16 ≤ k - f) :
    Calls Tryz.prog 53 #[.pointer (some ⟨sb, 0, none⟩), .int .i64 k] W (EvGot W none) := by
  have H0 := Lib.hid (SE.start h)
  obtain ⟨ck, nx, L⟩ := s
  obtain ⟨c0, c1, c2, c3, c4, c5, c6, c7, z, hlt⟩ := h.cells
  clear h
  unfold evCs Ev.zero Fam.zero at H0
  dsimp only at H0
  go_enter Tryz.func53, Tryz.ntmps53
  go_wp2_with fail
  exact ev_end (e := Ev.zero) (b := false) H0.out.below H0.out.res rfl rfl rfl rfl
set_option maxHeartbeats 4000000 in
set_option maxRecDepth 100000 in
theorem event_none (B sb db : Nat) (D : Dk) (s : St) (v : Value) (n f x k : Int) (down : Bool) (W : World) (h : SD B sb db D s v n f x down W) (hf : D.fits) (h0 : 0 ≤ f) (h1 : f ≤ 1000000) (h2 : 0 ≤ k) (h3 : k ≤ 1000000) (hk : k - f < 16) (ho : openL tagL (blkOf D (k % 16).toNat) = none) :
    Calls Tryz.prog 53 #[.pointer (some ⟨sb, 0, none⟩), .int .i64 k] W (EvGot W none) := by
  have H0 := Lib.hid (SE.start h)
  obtain ⟨j, hj, hj2⟩ : ∃ j : Nat, k.tmod 16 = (j : Int) ∧ (k % 16).toNat = j := ⟨(k % 16).toNat, by rw [Int.tmod_eq_emod_of_nonneg h2]; omega, rfl⟩
  have hj16 : j < 16 := by omega
  rw [hj2] at ho
  have HRD := Lib.hid (fun w hd => disk_read db D j w hd (by omega))
  have HOP := Lib.hid (fun w => store_opened (D.blk.getD j ByteArray.empty) w (by have := hf j; omega))
  have hol : openL tagL (D.blk.getD j ByteArray.empty).data.toList = none := ho
  rw [hol] at HOP
  have HCU := Lib.hid (cut_c [] (Nat.zero_le _))
  have hnil : txt [] = ⟨#[]⟩ := rfl
  rw [hnil] at HCU
  generalize D.blk.getD j ByteArray.empty = blk at *
  obtain ⟨ck, nx, L⟩ := s
  obtain ⟨c0, c1, c2, c3, c4, c5, c6, c7, z, hlt⟩ := h.cells
  clear h ho hol hnil hj2
  unfold evCs Ev.zero Fam.zero at H0
  dsimp only at H0
  go_enter Tryz.func53, Tryz.ntmps53
  go_wp2_with fail
  refine (HRD.out _ H0.out.sd.disk).mono ?_
  rintro e w1 ⟨rfl, rfl⟩
  go_wp2_with fail
  go_at_call 98
  refine (HOP.out _).mono ?_
  rintro e w2 ⟨⟨x2, b2, rfl, rfl, rfl⟩, hb⟩
  have H2 := Lib.hid (H0.out.keep hb)
  clear hb
  go_wp2_with fail
  go_at_call 101
  refine (HCU.out _ H2.out.sd.env.maxl).mono ?_
  rintro e w3 ⟨rfl, hb⟩
  have H3 := Lib.hid (H2.out.keep hb)
  clear hb H2 H0
  have hres := H3.out.res
  have f1 := hres.frozen
  obtain ⟨r0, r1, r2, r3, r4, r5, r6, r7, r8, r9, r10, r11⟩ := ev_cells (k := 0) (i := 0) (cl := ⟨#[]⟩) (su := ⟨#[]⟩) (sc := ⟨#[]⟩) (ge := 0) (ma := 0) (us := 0) (re := ⟨#[]⟩) (de := false) (id := 0) (ti := 0) hres
  clear hres
  go_wp2_with fail
  exact ev_end (e := Ev.zero) (b := false) (res_below (e' := Ev.zero) H3.out.below) (res_sets (e' := Ev.zero) H3.out.res) rfl rfl rfl rfl
set_option maxHeartbeats 4000000 in
set_option maxRecDepth 100000 in
theorem event_other (B sb db : Nat) (D : Dk) (s : St) (v : Value) (n f x k : Int) (down : Bool) (W : World) (h : SD B sb db D s v n f x down W) (hf : D.fits) (h0 : 0 ≤ f) (h1 : f ≤ 1000000) (h2 : 0 ≤ k) (h3 : k ≤ 1000000) (hk : k - f < 16) (l : List UInt8) (ho : openL tagL (blkOf D (k % 16).toNat) = some l) (hll : l.length ≤ 240) (hne : firstHead l ≠ Lib.itoa k) (hkM : okM k = true) :
    Calls Tryz.prog 53 #[.pointer (some ⟨sb, 0, none⟩), .int .i64 k] W (EvGot W none) := by
  have H0 := Lib.hid (SE.start h)
  obtain ⟨j, hj, hj2⟩ : ∃ j : Nat, k.tmod 16 = (j : Int) ∧ (k % 16).toNat = j := ⟨(k % 16).toNat, by rw [Int.tmod_eq_emod_of_nonneg h2]; omega, rfl⟩
  have hj16 : j < 16 := by omega
  rw [hj2] at ho
  have HRD := Lib.hid (fun w hd => disk_read db D j w hd (by omega))
  have HOP := Lib.hid (fun w => store_opened (D.blk.getD j ByteArray.empty) w (by have := hf j; omega))
  have hol : openL tagL (D.blk.getD j ByteArray.empty).data.toList = some l := ho
  have HOP : Hid (∀ w, Calls Tryz.prog 98 #[.string (D.blk.getD j ByteArray.empty)] w fun e w' => e = .returned (.tuple #[.string (txt l), .bool true]) ∧ Below w.heap.size w w') := Lib.hid fun w => by
    have h1 := HOP.out w
    rw [hol] at h1
    refine h1.mono ?_
    rintro e w' ⟨⟨x2, b2, rfl, rfl, rfl⟩, hb⟩
    exact ⟨rfl, hb⟩
  have HCU := Lib.hid (cut_c l (by omega))
  have HIT := Lib.hid (fun w hT => itoaM_c k hkM w hT)
  have hq : ((txt (firstHead l)).toList == (itoS k).toList) = false := by
    rw [toList_txt, show (itoS k).toList = Lib.itoa k from by unfold itoS; rw [ByteArray.toList_eq]]
    simpa using hne
  generalize itoS k = ik at *
  generalize decide (32 ∈ l) = fb at *
  generalize txt (firstHead l) = th at *
  generalize txt (firstRest l) = tr at *
  generalize txt l = tl at *
  generalize D.blk.getD j ByteArray.empty = blk at *
  obtain ⟨ck, nx, L⟩ := s
  obtain ⟨c0, c1, c2, c3, c4, c5, c6, c7, z, hlt⟩ := h.cells
  clear h ho hol hj2 hne hkM hll
  unfold evCs Ev.zero Fam.zero at H0
  dsimp only at H0
  go_enter Tryz.func53, Tryz.ntmps53
  go_wp2_with fail
  refine (HRD.out _ H0.out.sd.disk).mono ?_
  rintro e w1 ⟨rfl, rfl⟩
  go_wp2_with fail
  go_at_call 98
  refine (HOP.out _).mono ?_
  rintro e w2 ⟨rfl, hb⟩
  have H2 := Lib.hid (H0.out.keep hb)
  clear hb
  go_wp2_with fail
  go_at_call 101
  refine (HCU.out _ H2.out.sd.env.maxl).mono ?_
  rintro e w3 ⟨rfl, hb⟩
  have H3a := Lib.hid (H2.out.keep hb)
  clear hb H2 H0
  go_wp2_with fail
  go_at_call 74
  refine (HIT.out _ H3a.out.sd.env.tens).mono ?_
  rintro e w4 ⟨rfl, hb⟩
  have H3 := Lib.hid (H3a.out.keep hb)
  clear hb H3a
  have hres := H3.out.res
  have f1 := hres.frozen
  obtain ⟨r0, r1, r2, r3, r4, r5, r6, r7, r8, r9, r10, r11⟩ := ev_cells (k := 0) (i := 0) (cl := ⟨#[]⟩) (su := ⟨#[]⟩) (sc := ⟨#[]⟩) (ge := 0) (ma := 0) (us := 0) (re := ⟨#[]⟩) (de := false) (id := 0) (ti := 0) hres
  clear hres
  go_wp2_with fail
  exact ev_end (e := Ev.zero) (b := false) (res_below (e' := Ev.zero) H3.out.below) (res_sets (e' := Ev.zero) H3.out.res) rfl rfl rfl rfl
end Go.Proofs.YtckohmhhcknmaaaGreatDoor

/-
  store.Store's event, where the log has it; all ways joined.
-/
namespace Go.Proofs.YtckohmhhcknmaaaGreatDoor
open Go.RowKit Go.Sort

theorem below_dr {B : Nat} {a w : World} (h : Below B a w) : Below B a w.drew := ⟨h.os, h.tape, h.output, h.size, h.block⟩
theorem blk_dr {w : World} {g : Nat} {t : TypeId} {cs : Array Value} (h : Blk w g t cs) : Blk w.drew g t cs := h
set_option maxHeartbeats 4000000 in
set_option maxRecDepth 100000 in
theorem event_read (B sb db : Nat) (D : Dk) (s : St) (v : Value) (n f x k : Int) (down : Bool) (W : World) (h : SD B sb db D s v n f x down W) (hf : D.fits) (h0 : 0 ≤ f) (h1 : f ≤ 1000000) (h2 : 0 ≤ k) (h3 : k ≤ 1000000) (hk : k - f < 16) (l : List UInt8) (ho : openL tagL (blkOf D (k % 16).toNat) = some l) (hll : l.length ≤ 240) (hne : firstHead l = Lib.itoa k) (hkM : okM k = true) :
    Calls Tryz.prog 53 #[.pointer (some ⟨sb, 0, none⟩), .int .i64 k] W (EvGot W (if readB (firstRest l) then some (readE (firstRest l)) else none)) := by
  have H0 := Lib.hid (SE.start h)
  obtain ⟨j, hj, hj2⟩ : ∃ j : Nat, k.tmod 16 = (j : Int) ∧ (k % 16).toNat = j := ⟨(k % 16).toNat, by rw [Int.tmod_eq_emod_of_nonneg h2]; omega, rfl⟩
  have hj16 : j < 16 := by omega
  rw [hj2] at ho
  have HRD := Lib.hid (fun w hd => disk_read db D j w hd (by omega))
  have HOP := Lib.hid (fun w => store_opened (D.blk.getD j ByteArray.empty) w (by have := hf j; omega))
  have hol : openL tagL (D.blk.getD j ByteArray.empty).data.toList = some l := ho
  have HOP : Hid (∀ w, Calls Tryz.prog 98 #[.string (D.blk.getD j ByteArray.empty)] w fun e w' => e = .returned (.tuple #[.string (txt l), .bool true]) ∧ Below w.heap.size w w') := Lib.hid fun w => by
    have h1 := HOP.out w
    rw [hol] at h1
    refine h1.mono ?_
    rintro e w' ⟨⟨x2, b2, rfl, rfl, rfl⟩, hb⟩
    exact ⟨rfl, hb⟩
  have HCU := Lib.hid (cut_c l (by omega))
  have HIT := Lib.hid (fun w hT => itoaM_c k hkM w hT)
  have hq : ((txt (firstHead l)).toList == (itoS k).toList) = true := by
    rw [toList_txt, show (itoS k).toList = Lib.itoa k from by unfold itoS; rw [ByteArray.toList_eq]]
    simpa using hne
  have hrl := rest_len l
  have HRE : Hid (∀ w, WB w w → ErrVars w → Calls Tryz.prog 100 #[.string (txt (firstRest l))] w (ReadGot w (readE (firstRest l)) (if readB (firstRest l) then 0 else 3))) := Lib.hid fun w hw he => by
    have := ev_read (txt (firstRest l)) w (by rw [txt_size_]; omega) hw he
    rw [data_txt] at this
    exact this
  generalize itoS k = ik at *
  generalize decide (32 ∈ l) = fb at *
  generalize txt (firstHead l) = th at *
  generalize txt (firstRest l) = tr at *
  generalize readE (firstRest l) = ev at *
  generalize readB (firstRest l) = rb at *
  generalize txt l = tl at *
  generalize D.blk.getD j ByteArray.empty = blk at *
  obtain ⟨ck, nx, L⟩ := s
  obtain ⟨c0, c1, c2, c3, c4, c5, c6, c7, z, hlt⟩ := h.cells
  clear h ho hol hj2 hne hkM hll hrl
  unfold evCs Ev.zero Fam.zero at H0
  dsimp only at H0
  rcases rb with _ | _
  all_goals
    simp only [Bool.false_eq_true, if_false, if_true] at HRE
    go_enter Tryz.func53, Tryz.ntmps53
    go_wp2_with fail
    refine (HRD.out _ H0.out.sd.disk).mono ?_
    rintro e w1 ⟨rfl, rfl⟩
    go_wp2_with fail
    go_at_call 98
    refine (HOP.out _).mono ?_
    rintro e w2 ⟨rfl, hb⟩
    have H2 := Lib.hid (H0.out.keep hb)
    clear hb
    go_wp2_with fail
    go_at_call 101
    refine (HCU.out _ H2.out.sd.env.maxl).mono ?_
    rintro e w3 ⟨rfl, hb⟩
    have H3a := Lib.hid (H2.out.keep hb)
    clear hb H2 H0
    go_wp2_with fail
    go_at_call 74
    refine (HIT.out _ H3a.out.sd.env.tens).mono ?_
    rintro e w4 ⟨rfl, hb⟩
    have H3 := Lib.hid (H3a.out.keep hb)
    clear hb H3a
    go_wp2_with fail
    go_at_call 100
    refine (HRE.out _ H3.out.sd.env.wb H3.out.sd.env.errs).mono ?_
    rintro e w5 ⟨rfl, hb⟩
    have H4 := Lib.hid (H3.out.keep hb)
    clear hb H3 c0 c1 c2 c3 c4 c5 c6 c7 z hlt
    obtain ⟨kd, ⟨i, cl, su, sc, ge, ma, us, re, de⟩, id, ti⟩ := ev
    unfold evVal evCs
    dsimp only
    first
      | rw [show errV 3 = .iface 35 (.int .i64 3) from rfl]
      | rw [show errV 0 = .nilIface from rfl]
    have HN := Lib.hid (Blk.new w5 102 (evCs ⟨kd, ⟨i, cl, su, sc, ge, ma, us, re, de⟩, id, ti⟩))
    have HK := Lib.hid (H4.out.keep ((Below.refl _ _).alloc (Nat.le_refl _) (.cells (evCs ⟨kd, ⟨i, cl, su, sc, ge, ma, us, re, de⟩, id, ti⟩) 102)))
    have hres := H4.out.res
    have f1 := hres.frozen
    have f2 := hres.lt
    obtain ⟨r0, r1, r2, r3, r4, r5, r6, r7, r8, r9, r10, r11⟩ := ev_cells (k := 0) (i := 0) (cl := ⟨#[]⟩) (su := ⟨#[]⟩) (sc := ⟨#[]⟩) (ge := 0) (ma := 0) (us := 0) (re := ⟨#[]⟩) (de := false) (id := 0) (ti := 0) hres
    clear hres
    have f3 := HK.out.res.frozen
    unfold evCs at f3
    dsimp only at f3
    go_wp2_with fail
    go_region
    go_wp2_with fail
    have hb1 := res_below (e' := ⟨kd, ⟨i, cl, su, sc, ge, ma, us, re, de⟩, id, ti⟩) H4.out.below
    have hb2 := below_dr (hb1.alloc hb1.size (.cells #[.int .i64 kd, .int .i64 i, .string cl, .string su, .string sc, .int .i64 ge, .int .i64 ma, .int .i64 us, .string re, .bool de, .int .i64 id, .int .i64 ti] 102))
    have hr1 := res_sets (e' := ⟨kd, ⟨i, cl, su, sc, ge, ma, us, re, de⟩, id, ti⟩) H4.out.res
    have hr2 := blk_dr (hr1.alloc (.cells #[.int .i64 kd, .int .i64 i, .string cl, .string su, .string sc, .int .i64 ge, .int .i64 ma, .int .i64 us, .string re, .bool de, .int .i64 id, .int .i64 ti] 102))
    first
      | exact ev_end (o := none) (b := false) hb2 hr2 rfl rfl rfl rfl
      | exact ev_end (b := true) hb2 hr2 ⟨rfl, rfl⟩ rfl rfl rfl
theorem openL_len {s x : List UInt8} (h : openL tagL s = some x) : x.length ≤ s.length := by
  unfold openL at h
  split at h
  · rename_i y t hc
    split at h
    · obtain rfl := Option.some.inj h
      unfold cutLast at hc
      split at hc
      · obtain ⟨rfl, _⟩ := Prod.mk.inj (Option.some.inj hc)
        rw [List.length_take]
        omega
      · cases hc
    · cases h
  · cases h
/-- store.Store's event: the k-th event of the log -/
theorem store_event (B sb db : Nat) (D : Dk) (s : St) (v : Value) (n f x k : Int) (down : Bool) (W : World) (h : SD B sb db D s v n f x down W) (hf : D.fits) (h0 : 0 ≤ f) (h1 : f ≤ 1000000) (h2 : 0 ≤ k) (h3 : k ≤ 1000000) :
    Calls Tryz.prog 53 #[.pointer (some ⟨sb, 0, none⟩), .int .i64 k] W (EvGot W (eventR tagL (blkOf D) f k)) := by
  have hkM : okM k = true := okM_iff.2 (by omega)
  unfold eventR
  by_cases hk : k - f ≥ 16
  · rw [if_pos hk]
    exact event_far B sb db D s v n f x k down W h h0 h1 h2 h3 hk
  · rw [if_neg hk]
    unfold readRec
    rcases ho : openL tagL (blkOf D (k % 16).toNat) with _ | l
    · exact event_none B sb db D s v n f x k down W h hf h0 h1 h2 h3 (by omega) ho
    · have hl := openL_len ho
      have hb := blkOf_size hf (k % 16).toNat
      dsimp only
      by_cases hh : firstHead l = Lib.itoa k
      · rw [if_pos hh]
        exact event_read B sb db D s v n f x k down W h hf h0 h1 h2 h3 (by omega) l ho (by omega) hh hkM
      · rw [if_neg hh]
        exact event_other B sb db D s v n f x k down W h hf h0 h1 h2 h3 (by omega) l ho (by omega) hh hkM
end Go.Proofs.YtckohmhhcknmaaaGreatDoor

/-
  store.Store's Add: an event is let be.
-/
namespace Go.Proofs.YtckohmhhcknmaaaGreatDoor
open Go.RowKit Go.Sort

/-- what comes of the last write -/
def AddEnd (B sb db : Nat) (D : Dk) (s : St) (v : Value) (n f x : Int) (e : Ev) (r : Ending) (w' : World) : Prop :=
  (offB D = true ∧ r = .returned (.iface 35 (.int .i64 14)) ∧ SD B sb db D s v n f x true w') ∨
  (offB D = false ∧ r = .returned .nilIface ∧ ∃ v', SD B sb db (D.put (x % 16).toNat (txt (evRec tagL x e))) (applyS s e) v' n f (x + 1) false w')
/-- what Add gives -/
def AddGot (W : World) (B sb db : Nat) (D : Dk) (s : St) (v : Value) (n f x : Int) (e : Ev) (r : Ending) (w' : World) : Prop :=
  Two sb db W w' ∧ (
    (evB e = false ∧ r = .returned (.iface 35 (.int .i64 1)) ∧ SD B sb db D s v n f x false w') ∨
    (evB e = true ∧ 20 < (applyS s e).fams.length ∧ r = .returned (.iface 35 (.int .i64 12)) ∧ SD B sb db D s v n f x false w') ∨
    (evB e = true ∧ (applyS s e).fams.length ≤ 20 ∧ x - f ≠ 16 ∧ AddEnd B sb db D s v n f x e r w') ∨
    (evB e = true ∧ (applyS s e).fams.length ≤ 20 ∧ x - f = 16 ∧ ∃ D1, SaveOut D (slotAt ((n + 1) % 2).toNat) s.fams (txt (headL tagL (n + 1) x s)) D1 true ∧ AddEnd B sb db D1 s v (n + 1) x x e r w') ∨
    (evB e = true ∧ (applyS s e).fams.length ≤ 20 ∧ x - f = 16 ∧ ∃ D1, SaveOut D (slotAt ((n + 1) % 2).toNat) s.fams (txt (headL tagL (n + 1) x s)) D1 false ∧ r = .returned (.iface 35 (.int .i64 14)) ∧ SD B sb db D1 s v n f x true w'))
/-- while Add goes: its event's block besides -/
structure SA (W : World) (B sb db : Nat) (D : Dk) (s : St) (v : Value) (n f x : Int) (down : Bool) (e : Ev) (w : World) : Prop where
  sd : SD B sb db D s v n f x down w
  ev : Blk w W.heap.size 102 (evCs e)
  two : Two sb db W w
  nb : sb < W.heap.size ∧ db < W.heap.size
section
variable {W w w' : World} {B sb db : Nat} {D : Dk} {s : St} {v : Value} {n f x : Int} {down : Bool} {e : Ev}
theorem SA.start (h : SD B sb db D s v n f x down W) : SA W B sb db D s v n f x down e (W.alloc (.cells (evCs e) 102)) := by
  have hb : Below W.heap.size W (W.alloc (.cells (evCs e) 102)) := (Below.refl _ _).alloc (Nat.le_refl _) _
  exact ⟨h.keep hb, Blk.new W _ _, Two.of_below hb, Blk.lt h.st, h.disk.at_.lt⟩
theorem SA.keep (h : SA W B sb db D s v n f x down e w) (hb : Below w.heap.size w w') : SA W B sb db D s v n f x down e w' := ⟨h.sd.keep hb, h.ev.below' hb, h.two.trans (Two.of_below hb), h.nb⟩
theorem SA.three {ck nx : Int} {L : List Fam} (h : SA W B sb db D ⟨ck, nx, L⟩ v n f x down e w) : w.cell? ⟨sb, 1, none⟩ = some (.int .i64 ck) ∧ w.cell? ⟨sb, 2, none⟩ = some (.int .i64 nx) ∧ w.cell? ⟨sb, 3, none⟩ = some v := ⟨Blk.cell h.sd.st 1, Blk.cell h.sd.st 2, Blk.cell h.sd.st 3⟩
theorem SA.drew (h : SA W B sb db D s v n f x down e w) : SA W B sb db D s v n f x down e w.drew := ⟨h.sd.drew, h.ev, h.two.trans (Two.of_drew _), h.nb⟩
end
theorem SD.became {B sb db : Nat} {D : Dk} {s : St} {v : Value} {n f x : Int} {w : World} (h : SD B sb db D s v n f x false w) (s' : St) {v' : Value} (hr : FRow w B v' s'.fams) (x' : Int) :
    SD B sb db D s' v' n f x' false ((((w.setCell ⟨sb, 1, none⟩ (.int .i64 s'.clock)).setCell ⟨sb, 2, none⟩ (.int .i64 s'.next)).setCell ⟨sb, 3, none⟩ v').setCell ⟨sb, 6, none⟩ (.int .i64 x')) ∧ w.grownBy ((((w.setCell ⟨sb, 1, none⟩ (.int .i64 s'.clock)).setCell ⟨sb, 2, none⟩ (.int .i64 s'.next)).setCell ⟨sb, 3, none⟩ v').setCell ⟨sb, 6, none⟩ (.int .i64 x')) (some sb) := by
  obtain ⟨h1, h2, h3⟩ := h.apart
  have e1 := Blk.put_ h.st 1 (.int .i64 s'.clock) (cs' := storeCs db ⟨s'.clock, s.next, s.fams⟩ v n f x false) rfl
  have e2 := Blk.put_ e1 2 (.int .i64 s'.next) (cs' := storeCs db ⟨s'.clock, s'.next, s.fams⟩ v n f x false) rfl
  have e3 := Blk.put_ e2 3 v' (cs' := storeCs db s' v' n f x false) rfl
  have e4 := Blk.put_ e3 6 (.int .i64 x') (cs' := storeCs db s' v' n f x' false) rfl
  have g1 := only_set1 w sb ⟨sb, 1, none⟩ rfl (.int .i64 s'.clock)
  have g2 := only_setCell g1 (p := ⟨sb, 2, none⟩) (.inl rfl) (.int .i64 s'.next)
  have g3 := only_setCell g2 (p := ⟨sb, 3, none⟩) (.inl rfl) v'
  have hg := only_setCell g3 (p := ⟨sb, 6, none⟩) (.inl rfl) (.int .i64 x')
  have hb : Below B w _ := (Below.refl B w).grown hg h.big (fun k hk => by cases hk; exact h.bs)
  exact ⟨⟨h.env.keep hb, e4, h.disk.grown hg (by simpa using Ne.symm h3), hr.kept hg (hr.apart h.st (by decide)), h.bs, h.bd⟩, hg⟩
theorem SD.zs {B sb db : Nat} {D : Dk} {s : St} {v : Value} {n f x : Int} {down : Bool} {w : World} (h : SD B sb db D s v n f x down w) : w.cell? ⟨sb, 0, none⟩ = some (.pointer (some ⟨db, 0, none⟩)) ∧ w.cell? ⟨sb, 6, none⟩ = some (.int .i64 x) := ⟨Blk.cell h.st 0, Blk.cell h.st 6⟩
theorem st_sets {w : World} {g : Nat} {T : TypeId} {z0 z1 z2 : Value} (h : Blk w g T #[z0, z1, z2]) (c n v : Value) : Blk (((w.setCell ⟨g, 0, none⟩ c).setCell ⟨g, 1, none⟩ n).setCell ⟨g, 2, none⟩ v) g T #[c, n, v] ∧ w.grownBy (((w.setCell ⟨g, 0, none⟩ c).setCell ⟨g, 1, none⟩ n).setCell ⟨g, 2, none⟩ v) (some g) := by
  have e1 := h.put_ 0 c (cs' := #[c, z1, z2]) rfl
  have e2 := e1.put_ 1 n (cs' := #[c, n, z2]) rfl
  have e3 := e2.put_ 2 v (cs' := #[c, n, v]) rfl
  have g1 := only_set1 w g ⟨g, 0, none⟩ rfl c
  have g2 := only_setCell g1 (p := ⟨g, 1, none⟩) (.inl rfl) n
  exact ⟨e3, only_setCell g2 (p := ⟨g, 2, none⟩) (.inl rfl) v⟩
set_option maxHeartbeats 8000000 in
set_option maxRecDepth 100000 in
theorem add_no (B sb db : Nat) (D : Dk) (s : St) (v : Value) (n f x : Int) (e : Ev) (W : World) (h : SD B sb db D s v n f x false W) (hs : e.fam.short 1000) (he : evB e = false) :
    Calls Tryz.prog 42 #[.pointer (some ⟨sb, 0, none⟩), evVal e] W (AddGot W B sb db D s v n f x e) := by
  have H0 := Lib.hid (SA.start (e := e) h)
  have HW := Lib.hid (fun w hw => write_no e w hs hw he)
  have HE := Lib.hid he
  have HG : Hid (∀ w', SA W B sb db D s v n f x false e w' → AddGot W B sb db D s v n f x e (.returned (.iface 35 (.int .i64 1))) w') := Lib.hid fun w' hw => ⟨hw.two, .inl ⟨he, rfl, hw.sd⟩⟩
  obtain ⟨ck, nx, L⟩ := s
  obtain ⟨c0, c1, c2, c3, c4, c5, c6, c7, z, hlt⟩ := h.cells
  obtain ⟨kd, ⟨i, cl, su, sc, ge, ma, us, re, de⟩, id, ti⟩ := e
  unfold evVal evCs at *
  dsimp only at *
  clear h he
  go_enter Tryz.func42, Tryz.ntmps42
  go_wp2_with fail
  go_at_call 71
  refine (HW.out _ H0.out.sd.env.wb).mono ?_
  rintro r w1 ⟨rfl, hb⟩
  go_wp2_with fail
  go_ret
  exact HG.out _ (H0.out.keep hb)
set_option maxHeartbeats 8000000 in
set_option maxRecDepth 100000 in
theorem add_yes (B sb db : Nat) (D : Dk) (s : St) (v : Value) (n f x : Int) (e : Ev) (W : World) (h : SD B sb db D s v n f x false W) (hs : e.fam.short 1000) (he : evB e = true) (hf : D.fits) (hfit : Fit s) (h0 : 0 ≤ n) (h1 : n < 1000000) (h2 : 0 ≤ f) (h3 : f ≤ x) (h4 : x < 1000000) :
    Calls Tryz.prog 42 #[.pointer (some ⟨sb, 0, none⟩), evVal e] W (AddGot W B sb db D s v n f x e) := by
  have H0 := Lib.hid (SA.start (e := e) h)
  have HW := Lib.hid (fun w hw => ev_write_yes e w hs hw he)
  have HA : Hid (∀ (w : World) (v : Value), FRow w B v s.fams → Calls Tryz.prog 54 #[stVal s v, evVal e] w (GotAs w (applyS s e).clock (applyS s e).next (applyS s e).fams)) :=
    Lib.hid fun w v hr => (ev_apply _ v s e w hr hfit.ok (okN_one he) (okN_two he)).mono fun _ _ h => got_as h
  have HE := Lib.hid he
  have HF := Lib.hid hf
  have HI := Lib.hid hfit
  obtain ⟨sa, scp, rfl⟩ := h.row.slice
  obtain ⟨ck, nx, L⟩ := s
  have hel := evL_len he
  have hes : (txt (evL e)).size ≤ 180 := by rw [txt_size_]; exact hel
  obtain ⟨c0, c1, c2, c3, c4, c5, c6, c7, z, hlt⟩ := h.cells
  generalize hst : applyS ⟨ck, nx, L⟩ e = st' at *
  have HST := Lib.hid hst
  clear hst
  obtain ⟨ck', nx', L'⟩ := st'
  dsimp only at *
  generalize hxl : txt (evL e) = xl at *
  have HXL := Lib.hid hxl
  obtain ⟨kd, ⟨i, cl, su, sc, ge, ma, us, re, de⟩, id, ti⟩ := e
  unfold GotAs stVal stCs evVal evCs at HA
  unfold evVal evCs at HW
  unfold evCs at H0
  unfold evVal evCs
  dsimp only at *
  clear h he hf hfit hxl
  go_enter Tryz.func42, Tryz.ntmps42
  go_wp2_with fail
  go_at_call 71
  refine (HW.out _ H0.out.sd.env.wb).mono ?_
  rintro r w1 ⟨rfl, hb⟩
  have H1 := Lib.hid (H0.out.keep hb)
  clear hb c0 c1 c2 c3 c4 c5 c6 c7 z hlt H0 HW
  go_wp2_with fail
  refine wp_region_tail (SA W B sb db D ⟨ck, nx, L⟩ (.slice sa L.length scp) n f x false ⟨kd, ⟨i, cl, su, sc, ge, ma, us, re, de⟩, id, ti⟩) [7] (by kernel_rfl) ?_
  have HSD := H1.out.drew
  refine wpAnyT_take 2 (i := 0) (v := ?v0) rfl (by kernel_rfl) (by kernel_rfl) (by kernel_rfl) (by kernel_rfl) (by kernel_rfl) (fun _ _ _ h => h) (by rfl) ?hy0 (by assumption) ?rest0
  case hy0 => (intro w hSw; obtain ⟨c1, c2, c3⟩ := hSw.three; obtain ⟨e0, e1, e2, e3, e4, e5, e6, e7, e8, e9, e10, e11⟩ := ev_cells hSw.ev; go_simp; (try with_reducible rfl))
  simp only [Act.put]
  refine wpAnyT_take 2 (i := 1) (v := ?v1) rfl (by kernel_rfl) (by kernel_rfl) (by kernel_rfl) (by kernel_rfl) (by kernel_rfl) (fun _ _ _ h => h) (by rfl) ?hy1 (by assumption) ?rest1
  case hy1 => (intro w hSw; obtain ⟨c1, c2, c3⟩ := hSw.three; obtain ⟨e0, e1, e2, e3, e4, e5, e6, e7, e8, e9, e10, e11⟩ := ev_cells hSw.ev; go_simp; (try with_reducible rfl))
  simp only [Act.put]
  refine wpAnyT_take 2 (i := 2) (v := ?v2) rfl (by kernel_rfl) (by kernel_rfl) (by kernel_rfl) (by kernel_rfl) (by kernel_rfl) (fun _ _ _ h => h) (by rfl) ?hy2 (by assumption) ?rest2
  case hy2 => (intro w hSw; obtain ⟨c1, c2, c3⟩ := hSw.three; obtain ⟨e0, e1, e2, e3, e4, e5, e6, e7, e8, e9, e10, e11⟩ := ev_cells hSw.ev; go_simp; (try with_reducible rfl))
  simp only [Act.put]
  refine wpAnyT_take 2 (i := 3) (v := ?v3) rfl (by kernel_rfl) (by kernel_rfl) (by kernel_rfl) (by kernel_rfl) (by kernel_rfl) (fun _ _ _ h => h) (by rfl) ?hy3 (by assumption) ?rest3
  case hy3 => (intro w hSw; obtain ⟨c1, c2, c3⟩ := hSw.three; obtain ⟨e0, e1, e2, e3, e4, e5, e6, e7, e8, e9, e10, e11⟩ := ev_cells hSw.ev; go_simp; (try with_reducible rfl))
  simp only [Act.put]
  refine wpAnyT_take 2 (i := 4) (v := ?v4) rfl (by kernel_rfl) (by kernel_rfl) (by kernel_rfl) (by kernel_rfl) (by kernel_rfl) (fun _ _ _ h => h) (by rfl) ?hy4 (by assumption) ?rest4
  case hy4 => (intro w hSw; obtain ⟨c1, c2, c3⟩ := hSw.three; obtain ⟨e0, e1, e2, e3, e4, e5, e6, e7, e8, e9, e10, e11⟩ := ev_cells hSw.ev; go_simp; (try with_reducible rfl))
  simp only [Act.put]
  refine wpAnyT_two (i := 5) (j := 6) (by kernel_rfl) rfl rfl ?cA ?cB
  case' cA =>
    intro K5 hK5
    go_simp
    go_at_call 54
    refine (HA.out _ _ HSD.sd.row).mono ?_
    rintro r w2 ⟨a1, ac, rfl, hr1, hb⟩
    have HSD2 := HSD.keep hb
    have hr2 := hr1.mono (B' := B) HSD.sd.big
    try dsimp only
    refine hK5.out _ _ (fun _ => HSD2) ?_
    try simp only [Act.put]
    refine wpAnyT_one (i := 6) (by kernel_rfl) rfl ?_
    intro K6 hK6
    go_simp
    have hb3 := (Below.refl w2.heap.size w2).alloc (Nat.le_refl _) (.cells #[.int .i64 0, .int .i64 0, .slice none 0 0] 39)
    have HSD3 := HSD2.keep hb3
    have hz := Blk.new w2 39 #[.int .i64 0, .int .i64 0, .slice none 0 0]
    have hr3 := hr2.below hb3
    refine hK6.out _ _ (fun _ => HSD3) ?_
    try simp only [Act.put]
    obtain ⟨hz1, hz2⟩ := st_sets hz (.int .i64 ck') (.int .i64 nx') (.slice a1 L'.length ac)
    have hb4 := hb3.grown hz2 hb3.size (fun _ hk => by cases hk; exact Nat.le_refl _)
    have hne : Value.ownBlock (.slice a1 L'.length ac) ≠ some w2.heap.size := fun he => by have := (hr2.lt _ he).2; omega
    have HS := Lib.hid (HSD2.keep hb4)
    have HT := Lib.hid hz1
    have HR := Lib.hid (hr3.kept hz2 hne)
    have hlt2 : w2.heap.size < (w2.alloc (.cells #[.int .i64 0, .int .i64 0, .slice none 0 0] 39)).heap.size := hz.lt
    obtain ⟨d0, d1, d2⟩ := two_cells hz
    have dz := hz.frozen
    generalize w2.alloc (.cells #[.int .i64 0, .int .i64 0, .slice none 0 0] 39) = w2a at *
    refine wpAnyT_one (i := 7) (by kernel_rfl) rfl ?_
    intro K7 hK7
    go_simp
    try dsimp only
    refine hK7.out _ _ (fun h => absurd h (by decide)) ?_
    refine wpAnyT_done (by kernel_rfl) ?_ _
    have hgb : sb < w2.heap.size ∧ db < w2.heap.size := ⟨Blk.lt HSD2.sd.st, HSD2.sd.disk.at_.lt⟩
    generalize w2.heap.size = tb at *
    generalize ((w2a.setCell ⟨tb, 0, none⟩ (.int .i64 ck')).setCell ⟨tb, 1, none⟩ (.int .i64 nx')).setCell ⟨tb, 2, none⟩ (.slice a1 L'.length ac) = w3 at *
    clear hz hz1 hz2 hb3 hb4 hr1 hr2 hr3 HSD HSD2 HSD3 hb H1 d0 d1 d2 dz
    clear hlt2
  case' cB =>
    intro K6 hK6
    go_simp
    have hb3 : Below w1.drew.heap.size w1.drew (w1.alloc (.cells #[.int .i64 0, .int .i64 0, .slice none 0 0] 39)).drew := (Below.refl w1.heap.size w1.drew).alloc (Nat.le_refl _) _
    have HSD3 := HSD.keep hb3
    have hz : Blk (w1.alloc (.cells #[.int .i64 0, .int .i64 0, .slice none 0 0] 39)).drew w1.heap.size 39 #[.int .i64 0, .int .i64 0, .slice none 0 0] := Blk.new w1 _ _
    refine hK6.out _ _ (fun _ => HSD3) ?_
    try simp only [Act.put]
    refine wpAnyT_one (i := 5) (by kernel_rfl) rfl ?_
    intro K5 hK5
    go_simp
    go_at_call 54
    have hsz1 : w1.heap.size < (w1.alloc (.cells #[.int .i64 0, .int .i64 0, .slice none 0 0] 39)).drew.heap.size := hz.lt
    have hgb : sb < w1.heap.size ∧ db < w1.heap.size := ⟨Blk.lt HSD.sd.st, HSD.sd.disk.at_.lt⟩
    generalize (w1.alloc (.cells #[.int .i64 0, .int .i64 0, .slice none 0 0] 39)).drew = w1a at *
    refine (HA.out _ _ HSD3.sd.row).mono ?_
    rintro r w2 ⟨a1, ac, rfl, hr1, hb⟩
    have HSD2 := HSD3.keep hb
    have hz0 := hz.below' hb
    have hb2 := below_2 hb3 hb
    have hr2 := hr1.mono (B' := B) HSD3.sd.big
    try dsimp only
    refine hK5.out _ _ (fun _ => HSD2) ?_
    try simp only [Act.put]
    obtain ⟨hz1, hz2⟩ := st_sets hz0 (.int .i64 ck') (.int .i64 nx') (.slice a1 L'.length ac)
    have hb4 := hb2.grown hz2 hb2.size (fun _ hk => by cases hk; exact Nat.le_refl _)
    have hne : Value.ownBlock (.slice a1 L'.length ac) ≠ some w1.heap.size := fun he => by have := (hr1.lt _ he).1; omega
    have HS := Lib.hid (HSD.keep hb4)
    have HT := Lib.hid hz1
    have HR := Lib.hid (hr2.kept hz2 hne)
    obtain ⟨d0, d1, d2⟩ := two_cells hz0
    have dz := hz0.frozen
    refine wpAnyT_one (i := 7) (by kernel_rfl) rfl ?_
    intro K7 hK7
    go_simp
    try dsimp only
    refine hK7.out _ _ (fun h => absurd h (by decide)) ?_
    refine wpAnyT_done (by kernel_rfl) ?_ _
    clear HSD3 hsz1 hb hz0
    generalize w1.heap.size = tb at *
    generalize ((w2.setCell ⟨tb, 0, none⟩ (.int .i64 ck')).setCell ⟨tb, 1, none⟩ (.int .i64 nx')).setCell ⟨tb, 2, none⟩ (.slice a1 L'.length ac) = w3 at *
    clear hz hz1 hz2 hb3 hb4 hb2 hr1 hr2 HSD HSD2 H1 d0 d1 d2 dz hne
  all_goals
    obtain ⟨c0, c1, c2, c3, c4, c5, c6, c7, z, hlt⟩ := HS.out.sd.cells
    obtain ⟨d0, d1, d2⟩ := two_cells HT.out
    by_cases hmany : 20 < L'.length
    · go_wp2_with fail
      go_ret
      exact ⟨HS.out.two, .inr (.inl ⟨HE.out, by rw [HST.out]; exact hmany, rfl, HS.out.sd⟩)⟩
    have HLG := Lib.hid (store_log sb db ⟨ck, nx, L⟩ _ n f x false w3 HS.out.sd.st h2 h3 (by omega))
    go_wp2_with fail
    go_at_call 80
    refine HLG.out.mono ?_
    rintro r w4 ⟨rfl, hb⟩
    have HS4 := Lib.hid (HS.out.keep hb)
    have HT4 := Lib.hid (HT.out.below' hb)
    have HR4 := Lib.hid (HR.out.below hb)
    clear hb HLG HS HT HR c0 c1 c2 c3 c4 c5 c6 c7 z hlt d0 d1 d2
    by_cases hfull : x - f = 16
    case' pos =>
      have HSV := Lib.hid (store_save B sb db D ⟨ck, nx, L⟩ _ n f x w4 HS4.out.sd HF.out HI.out h0 h1 (by omega) (by omega))
      go_wp2_with fail
      go_at_call 34
      refine HSV.out.mono ?_
      rintro r w5 ⟨ok, D1, hso, htw, hres⟩
      rcases hres with ⟨rfl, rfl, hsd⟩ | ⟨rfl, rfl, hsd⟩
      rotate_left
      · go_wp2_with fail
        go_ret
        exact ⟨HS4.out.two.trans htw, .inr (.inr (.inr (.inr ⟨HE.out, by rw [HST.out]; show L'.length ≤ 20; omega, hfull, D1, hso, rfl, hsd⟩)))⟩
      have HC : ∃ D1 n1 f1, SD B sb db D1 ⟨ck, nx, L⟩ (.slice sa L.length scp) n1 f1 x false w5 ∧ Two sb db W w5 ∧ Blk w5 tb 39 #[.int .i64 ck', .int .i64 nx', .slice a1 L'.length ac] ∧ FRow w5 B (.slice a1 L'.length ac) L' ∧
          ∀ r w', AddEnd B sb db D1 ⟨ck, nx, L⟩ (.slice sa L.length scp) n1 f1 x ⟨kd, ⟨i, cl, su, sc, ge, ma, us, re, de⟩, id, ti⟩ r w' → Two sb db W w' → AddGot W B sb db D ⟨ck, nx, L⟩ (.slice sa L.length scp) n f x ⟨kd, ⟨i, cl, su, sc, ge, ma, us, re, de⟩, id, ti⟩ r w' :=
        ⟨D1, n + 1, x, hsd, HS4.out.two.trans htw, Blk.two HT4.out htw (by have := hgb.1; have := hgb.2; omega) (by have := hgb.1; have := hgb.2; omega), HR4.out.two htw (HR4.out.apart HS4.out.sd.st (by decide)) (HR4.out.apart HS4.out.sd.disk.at_ (by decide)),
          fun r w' hr ht => ⟨ht, .inr (.inr (.inr (.inl ⟨HE.out, by rw [HST.out]; show L'.length ≤ 20; omega, hfull, D1, hso, hr⟩)))⟩⟩
      clear HSV HS4 HT4 HR4 hso htw hsd
      go_wp2_with fail
    case' neg =>
      have hfull1 : (x - f == 16) = false := by simpa using hfull
      have HC : ∃ D1 n1 f1, SD B sb db D1 ⟨ck, nx, L⟩ (.slice sa L.length scp) n1 f1 x false w4 ∧ Two sb db W w4 ∧ Blk w4 tb 39 #[.int .i64 ck', .int .i64 nx', .slice a1 L'.length ac] ∧ FRow w4 B (.slice a1 L'.length ac) L' ∧
          ∀ r w', AddEnd B sb db D1 ⟨ck, nx, L⟩ (.slice sa L.length scp) n1 f1 x ⟨kd, ⟨i, cl, su, sc, ge, ma, us, re, de⟩, id, ti⟩ r w' → Two sb db W w' → AddGot W B sb db D ⟨ck, nx, L⟩ (.slice sa L.length scp) n f x ⟨kd, ⟨i, cl, su, sc, ge, ma, us, re, de⟩, id, ti⟩ r w' :=
        ⟨D, n, f, HS4.out.sd, HS4.out.two, HT4.out, HR4.out, fun r w' hr ht => ⟨ht, .inr (.inr (.inl ⟨HE.out, by rw [HST.out]; show L'.length ≤ 20; omega, hfull, hr⟩))⟩⟩
      clear HS4 HT4 HR4
      go_wp2_with fail
      generalize w4 = w5 at *
    all_goals
      obtain ⟨D1, n1, f1, hsd, htw, htb, hrw, hend⟩ := HC
      have HS5 := Lib.hid hsd
      have HW5 := Lib.hid htw
      have HT5 := Lib.hid htb
      have HR5 := Lib.hid hrw
      have HEND := Lib.hid hend
      clear hsd htw htb hrw hend
      obtain ⟨j, hj, hj2⟩ : ∃ j : Nat, x.tmod 16 = (j : Int) ∧ (x % 16).toNat = j := ⟨(x % 16).toNat, by rw [Int.tmod_eq_emod_of_nonneg (by omega)]; omega, rfl⟩
      have hj16 : j < 16 := by omega
      have hxM : okM x = true := okM_iff.2 (by omega)
      have HIT := Lib.hid (fun w hT => itoaM_c x hxM w hT)
      have hxl : (Lib.itoa x).length ≤ 13 := itoaM_len hxM
      have hgl : glue 32 [Lib.itoa x, evL ⟨kd, ⟨i, cl, su, sc, ge, ma, us, re, de⟩, id, ti⟩] = Lib.itoa x ++ 32 :: evL ⟨kd, ⟨i, cl, su, sc, ge, ma, us, re, de⟩, id, ti⟩ := rfl
      have HSE := Lib.hid (fun w v B h => store_sealed B v [Lib.itoa x, evL ⟨kd, ⟨i, cl, su, sc, ge, ma, us, re, de⟩, id, ti⟩] w h (by show 2 ≤ 100; decide) (by rw [hgl, List.length_append, List.length_cons]; omega))
      have hre : txt (sealL tagL (glue 32 [Lib.itoa x, evL ⟨kd, ⟨i, cl, su, sc, ge, ma, us, re, de⟩, id, ti⟩])) = txt (evRec tagL x ⟨kd, ⟨i, cl, su, sc, ge, ma, us, re, de⟩, id, ti⟩) := rfl
      rw [hre] at HSE
      have hrs : (txt (evRec tagL x ⟨kd, ⟨i, cl, su, sc, ge, ma, us, re, de⟩, id, ti⟩)).size ≤ 240 := by
        rw [txt_size_]
        unfold evRec
        rw [sealL_len, List.length_append, List.length_cons]
        omega
      have HROW : Hid (∀ w : World, Row (w.alloc (.cells #[.string (itoS x), .string xl] 9)) w.heap.size (.slice (some ⟨w.heap.size, 0, none⟩) 2 2) [Lib.itoa x, evL ⟨kd, ⟨i, cl, su, sc, ge, ma, us, re, de⟩, id, ti⟩]) := Lib.hid fun w => by
        rw [← HXL.out]
        exact Row.new (L := [Lib.itoa x, evL ⟨kd, ⟨i, cl, su, sc, ge, ma, us, re, de⟩, id, ti⟩]) (Nat.le_refl _) (by show 2 ≤ maxLen; decide)
      clear hre hgl hxM hxl
      generalize hrd : txt (evRec tagL x ⟨kd, ⟨i, cl, su, sc, ge, ma, us, re, de⟩, id, ti⟩) = rd at *
      have HRD := Lib.hid hrd
      clear hrd
      generalize itoS x = ix at *
      have HC0 := SD.zs (SD.drew HS5.out)
      rcases hoff : offB D1 with _ | _
      · have HWR := Lib.hid (fun w h => disk_write db D1 j rd w h (by omega) hrs hoff)
        have HOO := Lib.hid hoff
        clear hoff hrs
        obtain ⟨c0, c1, c2, c3, c4, c5, c6, c7, z, hlt⟩ := HS5.out.cells
        go_region_held3 (fun w' => w'.cell? ⟨sb, 0, none⟩ = some (.pointer (some ⟨db, 0, none⟩)) ∧ w'.cell? ⟨sb, 6, none⟩ = some (.int .i64 x))
          (first
            | with_reducible assumption
            | with_reducible exact HC0
            | with_reducible exact SD.zs hs6
            | with_reducible exact SD.zs hs6a
            | exact SD.zs hs6a
            | with_reducible exact SD.zs hs7
            | with_reducible exact SD.zs hs8)
          (first
            | (go_at_call 74; with_reducible refine (HIT.out _ (SD.env (SD.drew HS5.out)).tens).mono ?_; rintro e w6 ⟨rfl, hb6⟩
               have hs6 := SD.keep (SD.drew HS5.out) hb6
               have hba := (Below.refl w6.heap.size w6).alloc (Nat.le_refl _) (.cells #[.string ix, .string xl] 9)
               have hs6a := SD.keep hs6 hba)
            | (go_at_call 75; with_reducible refine (HSE.out _ _ _ (HROW.out _)).mono ?_; rintro e w7 ⟨rfl, hb7⟩
               have hs7 := SD.keep hs6a hb7)
            | (go_at_call 72; with_reducible refine (HWR.out _ (SD.disk hs7)).mono ?_; rintro e w8 ⟨rfl, hd8, hg8⟩
               have hs8 := SD.wrote hs7 hd8 hg8))
        have HS8 := Lib.hid hs8
        have HT8 := Lib.hid ((((blk_dr HT5.out).below' hb6).below' hba).below' hb7 |>.grown hg8 (by simp; have := hgb.2; omega))
        have hr7 := ((FRow.below (w := w5.drew) HR5.out hb6).below hba).below hb7
        have HR8 := Lib.hid (hr7.kept hg8 (hr7.apart hs7.disk.at_ (by decide)))
        have HW8 := Lib.hid (((((HW5.out.trans (Two.of_drew _)).trans (Two.of_below hb6)).trans (Two.of_below hba)).trans (Two.of_below hb7)).trans (Two.of_two hg8))
        clear hs8 hs7 hs6a hs6 hb6 hba hb7 hd8 hg8 hr7 HS5 HT5 HR5 HW5 HC0 c0 c1 c2 c3 c4 c5 c6 c7 z hlt
        obtain ⟨c0, c1, c2, c3, c4, c5, c6, c7, z, hlt⟩ := HS8.out.cells
        obtain ⟨d0, d1, d2⟩ := two_cells HT8.out
        go_wp2_with fail
        go_ret
        obtain ⟨k1, k2⟩ := HS8.out.became ⟨ck', nx', L'⟩ HR8.out (x + 1)
        refine HEND.out _ _ (.inr ⟨HOO.out, rfl, .slice a1 L'.length ac, ?_⟩) (HW8.out.trans (Two.of_one k2))
        rw [HST.out, hj2, HRD.out]
        exact k1
      · obtain ⟨q1, q2⟩ := off_iff hoff
        have HWR := Lib.hid (fun w h => disk_write_off db D1 (j : Int) rd w h (by omega) (by omega) hrs q1 q2)
        have HOO := Lib.hid hoff
        clear hoff hrs q1 q2
        obtain ⟨c0, c1, c2, c3, c4, c5, c6, c7, z, hlt⟩ := HS5.out.cells
        go_region_held3 (fun w' => w'.cell? ⟨sb, 0, none⟩ = some (.pointer (some ⟨db, 0, none⟩)) ∧ w'.cell? ⟨sb, 6, none⟩ = some (.int .i64 x))
          (first
            | with_reducible assumption
            | with_reducible exact HC0
            | with_reducible exact SD.zs hs6
            | with_reducible exact SD.zs hs6a
            | exact SD.zs hs6a
            | with_reducible exact SD.zs hs7
            | with_reducible exact SD.zs hs8)
          (first
            | (go_at_call 74; with_reducible refine (HIT.out _ (SD.env (SD.drew HS5.out)).tens).mono ?_; rintro e w6 ⟨rfl, hb6⟩
               have hs6 := SD.keep (SD.drew HS5.out) hb6
               have hba := (Below.refl w6.heap.size w6).alloc (Nat.le_refl _) (.cells #[.string ix, .string xl] 9)
               have hs6a := SD.keep hs6 hba)
            | (go_at_call 75; with_reducible refine (HSE.out _ _ _ (HROW.out _)).mono ?_; rintro e w7 ⟨rfl, hb7⟩
               have hs7 := SD.keep hs6a hb7)
            | (go_at_call 72; with_reducible refine (HWR.out _ (SD.disk hs7)).mono ?_; rintro e w8 ⟨rfl, rfl⟩
               skip))
        have HS7 := Lib.hid hs7
        have HW7 := Lib.hid ((((HW5.out.trans (Two.of_drew _)).trans (Two.of_below hb6)).trans (Two.of_below hba)).trans (Two.of_below hb7))
        clear hs7 hs6a hs6 hb6 hba hb7 HS5 HT5 HR5 HW5 HC0 c0 c1 c2 c3 c4 c5 c6 c7 z hlt
        obtain ⟨c0, c1, c2, c3, c4, c5, c6, c7, z, hlt⟩ := HS7.out.cells
        go_wp2_with fail
        refine (store_fail sb db ⟨ck, nx, L⟩ _ n1 f1 x false _ HS7.out.st).mono ?_
        rintro r w9 ⟨rfl, hs9, hg9⟩
        have HS9 := Lib.hid (HS7.out.noted hs9 hg9)
        have HW9 := Lib.hid (HW7.out.trans (Two.of_one hg9))
        clear hs9 hg9
        go_wp2_with fail
        go_ret
        exact HEND.out _ _ (.inl ⟨HOO.out, rfl, HS9.out⟩) HW9.out
/-- store.Store's Add -/
theorem store_add (B sb db : Nat) (D : Dk) (s : St) (v : Value) (n f x : Int) (e : Ev) (W : World) (h : SD B sb db D s v n f x false W) (hs : e.fam.short 1000) (hf : D.fits) (hfit : Fit s) (h0 : 0 ≤ n) (h1 : n < 1000000) (h2 : 0 ≤ f) (h3 : f ≤ x) (h4 : x < 1000000) :
    Calls Tryz.prog 42 #[.pointer (some ⟨sb, 0, none⟩), evVal e] W (AddGot W B sb db D s v n f x e) := by
  rcases he : evB e with _ | _
  · exact add_no B sb db D s v n f x e W h hs he
  · exact add_yes B sb db D s v n f x e W h hs he hf hfit h0 h1 h2 h3 h4
end Go.Proofs.YtckohmhhcknmaaaGreatDoor
