/-
  A service: refresh, find.
-/
import Derived.Test.YtckohmhhcknmaaaGreatDoorG19
import Derived.Test.YtckohmhhcknmaaaGreatDoorG09
namespace Go.Proofs.YtckohmhhcknmaaaGreatDoor
open Go.RowKit Go.Sort

theorem right_one {a b : Int} (ha : okN a = true) (hb : okN b = true) : rightN 1 a b 0 = true := by unfold rightN; rw [ha, hb]; decide
set_option maxHeartbeats 1000000 in
set_option maxRecDepth 100000 in
theorem svc_refresh {B vb sb db k : Nat} {r : Ru} {z : SS} {v : Value} {W : World} (h : SW B vb sb db k r z v W) (f : Fam) (h1 : okN f.id = true) (h2 : okN f.gen = true) :
    Calls Tryz.prog 41 #[.pointer (some ⟨vb, 0, none⟩), famVal f] W fun e w' => e = .returned (.string (refreshS r f)) ∧ Below W.heap.size W w' := by
  have HA : Hid (∀ w, Tens w → Calls Tryz.prog 65 #[.int .i64 r.key, v4 1 f.id f.gen 0] w fun e w' => e = .returned (.tuple #[.string (refreshS r f), .nilIface]) ∧ Below w.heap.size w w') := Lib.hid fun w hT => token_write_yes r.key 1 f.id f.gen 0 w hT (right_one h1 h2)
  have H := Lib.hid h
  generalize refreshS r f = x at *
  obtain ⟨i, cl, su, sc, ge, ma, us, re, de⟩ := f
  unfold v4 at HA
  unfold famVal famCs
  dsimp only at *
  clear h h1 h2
  have hal : Below W.heap.size W (W.alloc (.cells #[.int .i64 i, .string cl, .string su, .string sc, .int .i64 ge, .int .i64 ma, .int .i64 us, .string re, .bool de] 79)) := (Below.refl _ _).alloc (Nat.le_refl _) _
  have HAL := Lib.hid hal
  have H1 := Lib.hid (H.out.keep hal)
  obtain ⟨c0, c1, c2, c3, c4, hlt⟩ := H1.out.five
  have hfb : Blk (W.alloc (.cells #[.int .i64 i, .string cl, .string su, .string sc, .int .i64 ge, .int .i64 ma, .int .i64 us, .string re, .bool de] 79)).drew W.heap.size 79 #[.int .i64 i, .string cl, .string su, .string sc, .int .i64 ge, .int .i64 ma, .int .i64 us, .string re, .bool de] := Blk.new W _ _
  have HT := Lib.hid H1.out.drew.sx.env.tens
  have HBD := Lib.hid (below_dr HAL.out)
  have HD : (W.alloc (.cells #[.int .i64 i, .string cl, .string su, .string sc, .int .i64 ge, .int .i64 ma, .int .i64 us, .string re, .bool de] 79)).drew.cell? ⟨vb, 1, none⟩ = some (.int .i64 r.key) ∧ (W.alloc (.cells #[.int .i64 i, .string cl, .string su, .string sc, .int .i64 ge, .int .i64 ma, .int .i64 us, .string re, .bool de] 79)).drew.cell? ⟨W.heap.size, 0, none⟩ = some (.int .i64 i) ∧
      (W.alloc (.cells #[.int .i64 i, .string cl, .string su, .string sc, .int .i64 ge, .int .i64 ma, .int .i64 us, .string re, .bool de] 79)).drew.cell? ⟨W.heap.size, 4, none⟩ = some (.int .i64 ge) := ⟨c1, hfb.cell 0, hfb.cell 4⟩
  clear hal c0 c1 c2 c3 c4 hlt
  go_enter Tryz.func41, Tryz.ntmps41
  go_wp2_with fail
  go_region_held3 (fun w' => w'.cell? ⟨vb, 1, none⟩ = some (.int .i64 r.key) ∧ w'.cell? ⟨W.heap.size, 0, none⟩ = some (.int .i64 i) ∧ w'.cell? ⟨W.heap.size, 4, none⟩ = some (.int .i64 ge))
    (first
      | with_reducible assumption
      | with_reducible exact HD)
    (first
      | (go_at_call 65; (with_reducible refine (HA.out _ HT.out).mono ?_); rintro x' w2 ⟨rfl, hb⟩
         have hend := below_2 HBD.out hb
         have hx2 : w2.cell? ⟨vb, 1, none⟩ = some (.int .i64 r.key) ∧ w2.cell? ⟨W.heap.size, 0, none⟩ = some (.int .i64 i) ∧ w2.cell? ⟨W.heap.size, 4, none⟩ = some (.int .i64 ge) := ⟨(H1.out.drew.keep hb).five.2.1, (hfb.below' hb).cell 0, (hfb.below' hb).cell 4⟩))
  go_wp2_with fail
  go_ret
  exact ⟨rfl, hend⟩
theorem st_clock (ck nx : Int) (a : Option Addr) (n c : Nat) (w : World) : (Instr.field 39 (.agg #[.int .i64 ck, .int .i64 nx, .slice a n c]) 0).run Tryz.prog w = .ok (.int .i64 ck) w := by kernel_rfl
theorem st_fams (ck nx : Int) (a : Option Addr) (n c : Nat) (w : World) : (Instr.field 39 (.agg #[.int .i64 ck, .int .i64 nx, .slice a n c]) 2).run Tryz.prog w = .ok (.slice a n c) w := by kernel_rfl
/-- what is asked of each family -/
theorem find_one (id : Int) (bx : Nat) (f : Fam) (w : World) (hc : w.cell? ⟨bx, 0, none⟩ = some (.int .i64 id)) :
    Calls Tryz.prog 113 #[famVal f, .pointer (some ⟨bx, 0, none⟩)] w fun e w' => e = .returned (.bool (decide (f.id = id))) ∧ Below w.heap.size w w' := by
  obtain ⟨i, cl, su, sc, ge, ma, us, re, de⟩ := f
  unfold famVal famCs
  dsimp only
  have hal : Below w.heap.size w (w.alloc (.cells #[.int .i64 i, .string cl, .string su, .string sc, .int .i64 ge, .int .i64 ma, .int .i64 us, .string re, .bool de] 79)) := (Below.refl _ _).alloc (Nat.le_refl _) _
  have HAL := Lib.hid hal
  have hlt : bx < w.heap.size := World.block_lt_of_cell? w _ hc
  clear hal
  go_enter Tryz.func113, Tryz.ntmps113
  go_wp2_with fail
  go_ret
  refine ⟨?_, HAL.out⟩
  show Ending.returned (Value.bool _) = _
  congr 2
theorem find_cons (f : Fam) (L : List Fam) (id : Int) : findF (f :: L) id = if f.id = id then some f else findF L id := by
  unfold findF
  rw [List.find?_cons]
  by_cases h : f.id = id
  · simp [h]
  · simp [h]
/-- where the first family of a number stands -/
def FindGot (L : List Fam) (id : Int) (W : World) (e : Ending) (w' : World) : Prop :=
  Below W.heap.size W w' ∧ ((∃ (j : Nat) (f : Fam), L[j]? = some f ∧ findF L id = some f ∧ e = .returned (.int .i64 j)) ∨ (findF L id = none ∧ e = .returned (.int .i64 (-1))))
theorem find_take {L : List Fam} {id : Int} {k : Nat} (h : ∀ j f, j < k → L[j]? = some f → f.id ≠ id) : findF L id = findF (L.drop k) id := by
  induction k generalizing L with
  | zero => rfl
  | succ k ih =>
    cases L with
    | nil => rfl
    | cons g L =>
      rw [find_cons, if_neg (h 0 g (Nat.succ_pos _) rfl), List.drop_succ_cons]
      exact ih fun j f hj hf => h (j + 1) f (Nat.succ_lt_succ hj) (by simpa using hf)
def FdRel (W : World) (bx B : Nat) (v : Value) (L : List Fam) (id : Int) (i : Value) (w : World) : Prop := ∃ k : Nat, k ≤ L.length ∧ i = .int .i64 k ∧ Below W.heap.size W w ∧ FRow w B v L ∧ w.cell? ⟨bx, 0, none⟩ = some (.int .i64 id) ∧ ∀ j f, j < k → L[j]? = some f → f.id ≠ id
set_option maxHeartbeats 1000000 in
theorem find_index (B bx : Nat) (v : Value) (L : List Fam) (id : Int) (W : World) (hr : FRow W B v L) (hl : L.length ≤ 1000000) (hc : W.cell? ⟨bx, 0, none⟩ = some (.int .i64 id)) :
    Calls Tryz.prog 112 #[v, .func (.func 113) #[] #[.pointer (some ⟨bx, 0, none⟩)]] W (FindGot L id W) := by
  obtain ⟨sa, sc, rfl⟩ := hr.slice
  have HR := Lib.hid hr
  have HC := Lib.hid hc
  clear hr hc
  go_enter Tryz.func112, Tryz.ntmps112
  go_wp2_with fail
  go_loopw [8] (fun i wr => FdRel W bx B (.slice sa L.length sc) L id i wr) (fun i _ => L.length - (intOf i).toNat)
  case atStart => exact ⟨0, Nat.zero_le _, rfl, Below.refl _ _, HR.out, HC.out, fun j f hj => absurd hj (Nat.not_lt_zero _)⟩
  case round =>
    obtain ⟨k, hk, rfl, hb, hr, hc, hno⟩ := hrel
    have HB := Lib.hid hb
    have HR1 := Lib.hid hr
    have HC1 := Lib.hid hc
    have HNO := Lib.hid hno
    clear hb hr hc hno HR HC
    by_cases hlt : k < L.length
    · obtain ⟨g, rfl, _, ra⟩ := HR1.out.lit hlt
      obtain ⟨f, hf⟩ : ∃ f, L[k]? = some f := ⟨_, List.getElem?_eq_getElem hlt⟩
      have HF := Lib.hid hf
      have HO := Lib.hid (fun w h => find_one id bx f w h)
      by_cases hid : f.id = id
      · have HID := Lib.hid hid
        rw [decide_eq_true hid] at HO
        obtain ⟨i, cl, su, scp, ge, ma, us, re, de⟩ := f
        obtain ⟨c0, c1, c2, c3, c4, c5, c6, c7, c8⟩ := ra.nine hf
        unfold famVal famCs at HO
        dsimp only at HO
        have h0 : (0 : Int) ≤ (k : Int) := by omega
        have h1 : (k : Int) < (L.length : Int) := by omega
        clear hf ra hid
        go_wp2_with fail
        go_at_call 113
        refine (HO.out _ HC1.out).mono ?_
        rintro e w2 ⟨rfl, hb⟩
        have HB2 := Lib.hid (below_2 HB.out hb)
        clear hb
        go_wp2_with fail
        go_ret
        refine ⟨HB2.out, .inl ⟨k, _, HF.out, ?_, rfl⟩⟩
        have hlt' := (List.getElem?_eq_some_iff.1 HF.out).1
        rw [find_take HNO.out, List.drop_eq_getElem_cons hlt', find_cons]
        have he := (List.getElem?_eq_some_iff.1 HF.out).2
        rw [he, if_pos HID.out]
      · have HID := Lib.hid hid
        rw [decide_eq_false hid] at HO
        obtain ⟨i, cl, su, scp, ge, ma, us, re, de⟩ := f
        obtain ⟨c0, c1, c2, c3, c4, c5, c6, c7, c8⟩ := ra.nine hf
        unfold famVal famCs at HO
        dsimp only at HO
        have h0 : (0 : Int) ≤ (k : Int) := by omega
        have h1 : (k : Int) < (L.length : Int) := by omega
        clear hf ra hid
        go_wp2_with fail
        go_at_call 113
        refine (HO.out _ HC1.out).mono ?_
        rintro e w2 ⟨rfl, hb⟩
        have HB2 := Lib.hid (below_2 HB.out hb)
        have HR2 := Lib.hid (HR1.out.below hb)
        have HC2 := Lib.hid ((hb.cell (p := ⟨bx, 0, none⟩) (World.block_lt_of_cell? wr _ HC1.out)).trans HC1.out)
        clear hb
        go_wp2_with fail
        go_roundw
        case rel => exact ⟨k + 1, by omega, by go_num, HB2.out, HR2.out, HC2.out, fun j f hj hf => by
          by_cases e : j = k
          · subst e
            rw [HF.out] at hf
            cases hf
            exact HID.out
          · exact HNO.out j f (by omega) hf⟩
        case measure => simp [intOf]; omega
    · have hkn : k = L.length := by omega
      go_wp2_with fail
      go_ret
      refine ⟨HB.out, .inr ⟨?_, rfl⟩⟩
      rw [find_take HNO.out, hkn, List.drop_length]
      rfl
/-- what find gives -/
def FindEnd (L : List Fam) (id : Int) (W : World) (e : Ending) (w' : World) : Prop :=
  Below W.heap.size W w' ∧ ((∃ f, findF L id = some f ∧ f ∈ L ∧ e = .returned (.tuple #[famVal f, .bool true])) ∨ (findF L id = none ∧ e = .returned (.tuple #[famVal Fam.zero, .bool false])))
/-- nine stores -/
theorem nine_sets {w : World} {g : Nat} {T : TypeId} {f0 : Fam} (h : Blk w g T (famCs f0)) (i : Int) (cl su sc : ByteArray) (ge ma us : Int) (re : ByteArray) (de : Bool) :
    Blk (((((((((w.setCell ⟨g, 0, none⟩ (.int .i64 i)).setCell ⟨g, 1, none⟩ (.string cl)).setCell ⟨g, 2, none⟩ (.string su)).setCell ⟨g, 3, none⟩ (.string sc)).setCell ⟨g, 4, none⟩ (.int .i64 ge)).setCell ⟨g, 5, none⟩ (.int .i64 ma)).setCell ⟨g, 6, none⟩ (.int .i64 us)).setCell ⟨g, 7, none⟩ (.string re)).setCell ⟨g, 8, none⟩ (.bool de)) g T (famCs ⟨i, cl, su, sc, ge, ma, us, re, de⟩) ∧
      w.grownBy (((((((((w.setCell ⟨g, 0, none⟩ (.int .i64 i)).setCell ⟨g, 1, none⟩ (.string cl)).setCell ⟨g, 2, none⟩ (.string su)).setCell ⟨g, 3, none⟩ (.string sc)).setCell ⟨g, 4, none⟩ (.int .i64 ge)).setCell ⟨g, 5, none⟩ (.int .i64 ma)).setCell ⟨g, 6, none⟩ (.int .i64 us)).setCell ⟨g, 7, none⟩ (.string re)).setCell ⟨g, 8, none⟩ (.bool de)) (some g) := by
  obtain ⟨i0, cl0, su0, sc0, ge0, ma0, us0, re0, de0⟩ := f0
  have e0 := h.put_ 0 (.int .i64 i) (cs' := famCs ⟨i, cl0, su0, sc0, ge0, ma0, us0, re0, de0⟩) rfl
  have e1 := e0.put_ 1 (.string cl) (cs' := famCs ⟨i, cl, su0, sc0, ge0, ma0, us0, re0, de0⟩) rfl
  have e2 := e1.put_ 2 (.string su) (cs' := famCs ⟨i, cl, su, sc0, ge0, ma0, us0, re0, de0⟩) rfl
  have e3 := e2.put_ 3 (.string sc) (cs' := famCs ⟨i, cl, su, sc, ge0, ma0, us0, re0, de0⟩) rfl
  have e4 := e3.put_ 4 (.int .i64 ge) (cs' := famCs ⟨i, cl, su, sc, ge, ma0, us0, re0, de0⟩) rfl
  have e5 := e4.put_ 5 (.int .i64 ma) (cs' := famCs ⟨i, cl, su, sc, ge, ma, us0, re0, de0⟩) rfl
  have e6 := e5.put_ 6 (.int .i64 us) (cs' := famCs ⟨i, cl, su, sc, ge, ma, us, re0, de0⟩) rfl
  have e7 := e6.put_ 7 (.string re) (cs' := famCs ⟨i, cl, su, sc, ge, ma, us, re, de0⟩) rfl
  have e8 := e7.put_ 8 (.bool de) (cs' := famCs ⟨i, cl, su, sc, ge, ma, us, re, de⟩) rfl
  refine ⟨e8, ?_⟩
  refine only_setCell ?_ (.inl rfl) _
  refine only_setCell ?_ (.inl rfl) _
  refine only_setCell ?_ (.inl rfl) _
  refine only_setCell ?_ (.inl rfl) _
  refine only_setCell ?_ (.inl rfl) _
  refine only_setCell ?_ (.inl rfl) _
  refine only_setCell ?_ (.inl rfl) _
  refine only_setCell ?_ (.inl rfl) _
  exact only_set1 w g ⟨g, 0, none⟩ rfl _
theorem find_end {W w : World} {A : Act} {L : List Fam} {id : Int} {f : Fam} {b : Bool} (hb : Below W.heap.size W w) (hr : Blk w (W.heap.size + 1) 79 (famCs f)) (hp : A.tmps.getD 4 undef = .pointer (some ⟨W.heap.size + 1, 0, none⟩)) (hx : A.tmps.getD 5 undef = .bool b) (hd : A.defers = [])
    (h : (b = true ∧ findF L id = some f ∧ f ∈ L) ∨ (b = false ∧ f = Fam.zero ∧ findF L id = none)) :
    bodyPost Tryz.prog Tryz.f66 (FindEnd L id W) Exit.ret A w := by
  refine bodyPost_ret (results_row_tmp rfl A.tmps w _ _ _ _ _ hp hx hr Tryz.underlying79 rfl (by kernel_rfl)) hd ⟨hb, ?_⟩
  rcases h with ⟨rfl, h1, h2⟩ | ⟨rfl, rfl, h1⟩
  · exact .inl ⟨f, h1, h2, rfl⟩
  · exact .inr ⟨h1, rfl⟩
set_option maxHeartbeats 1000000 in
set_option maxRecDepth 100000 in
theorem svc_find {B vb sb db k : Nat} {r : Ru} {z : SS} {v : Value} {W : World} (h : SW B vb sb db k r z v W) (id : Int) :
    Calls Tryz.prog 66 #[.pointer (some ⟨vb, 0, none⟩), .int .i64 id] W (FindEnd z.s.fams id W) := by
  have HST := Lib.hid (fun w (h : SW B vb sb db k r z v w) => (sx_state h.sx).mono fun _ _ h => got_as h)
  have hlen := h.sx.fit.len
  have H := Lib.hid h
  clear h
  generalize z.s.fams = L at *
  generalize z.s.clock = ck at *
  generalize z.s.next = nx at *
  unfold GotAs at HST
  have HFI := Lib.hid (fun B bx v w hr hc => find_index B bx v L id w hr (by omega) hc)
  clear hlen
  have hal := alloc2 W (.cells #[.int .i64 id] 3) (.cells (famCs Fam.zero) 79)
  have HAL := Lib.hid hal
  have H1 := Lib.hid (H.out.keep hal)
  have HI1 := Lib.hid ((Blk.new W 3 #[.int .i64 id]).alloc (.cells (famCs Fam.zero) 79))
  have hf1 : Blk ((W.alloc (.cells #[.int .i64 id] 3)).alloc (.cells (famCs Fam.zero) 79)) (W.heap.size + 1) 79 (famCs Fam.zero) := by
    have := Blk.new (W.alloc (.cells #[.int .i64 id] 3)) 79 (famCs Fam.zero)
    rw [show (W.alloc (.cells #[.int .i64 id] 3)).heap.size = W.heap.size + 1 by simp] at this
    exact this
  have HF1 := Lib.hid hf1
  clear hal hf1 H
  unfold famCs Fam.zero at HAL H1 HI1 HF1
  dsimp only at HAL H1 HI1 HF1
  obtain ⟨c0, c1, c2, c3, c4, hlt⟩ := H1.out.five
  go_enter Tryz.func66, Tryz.ntmps66
  go_wp2_with fail
  go_at_call 39
  refine (HST.out _ H1.out).mono ?_
  rintro e w1 ⟨a1, ac, rfl, hr, hb⟩
  have HB1 := Lib.hid (below_2 HAL.out hb)
  have HR1 := Lib.hid hr
  have HI2 := Lib.hid (HI1.out.below' hb)
  have HF2 := Lib.hid (HF1.out.below' hb)
  have hsf := st_fams ck nx a1 L.length ac
  clear hr hb H1 HI1 HF1 HAL c0 c1 c2 c3 c4 hlt HST
  go_wp2_with fail
  go_at_call 112
  refine (HFI.out _ _ _ _ HR1.out (HI2.out.cell 0)).mono ?_
  rintro e w2 ⟨hb, ⟨j, f, hj, hfd, rfl⟩ | ⟨hfd, rfl⟩⟩
  · have hjl := (List.getElem?_eq_some_iff.1 hj).1
    have hmem := List.mem_of_getElem? hj
    have hr2 := HR1.out.below hb
    obtain ⟨g, hga, _, ra⟩ := hr2.lit hjl
    subst hga
    have HB2 := Lib.hid (below_2 HB1.out hb)
    have HF3 := Lib.hid (HF2.out.below' hb)
    have HFD := Lib.hid hfd
    have HM := Lib.hid hmem
    obtain ⟨i, cl, su, scp, ge, ma, us, re, de⟩ := f
    obtain ⟨c0, c1, c2, c3, c4, c5, c6, c7, c8⟩ := ra.nine hj
    have h0 : (0 : Int) ≤ (j : Int) := by omega
    have h1 : (j : Int) < (L.length : Int) := by omega
    have hz := HF3.out.frozen
    obtain ⟨z0, z1, z2, z3, z4, z5, z6, z7, z8⟩ := fam_cells HF3.out
    clear hfd hmem hj ra hr2 hb HR1 HB1 HF2 HI2 HFI
    go_wp2_with fail
    obtain ⟨n1, n2⟩ := nine_sets (f0 := Fam.zero) HF3.out i cl su scp ge ma us re de
    exact find_end (HB2.out.grown n2 HB2.out.size (fun i hi => by cases hi; exact Nat.le_succ _)) n1 rfl rfl rfl (.inl ⟨rfl, HFD.out, HM.out⟩)
  · have HB2 := Lib.hid (below_2 HB1.out hb)
    have HF3 := Lib.hid (HF2.out.below' hb)
    have HFD := Lib.hid hfd
    have hz := HF3.out.frozen
    obtain ⟨z0, z1, z2, z3, z4, z5, z6, z7, z8⟩ := fam_cells HF3.out
    clear hfd hb HR1 HB1 HF2 HI2 HFI
    go_wp2_with fail
    obtain ⟨n1, n2⟩ := nine_sets (f0 := Fam.zero) HF3.out 0 ⟨#[]⟩ ⟨#[]⟩ ⟨#[]⟩ 0 0 0 ⟨#[]⟩ false
    exact find_end (HB2.out.grown n2 HB2.out.size (fun i hi => by cases hi; exact Nat.le_succ _)) n1 rfl rfl rfl (.inr ⟨rfl, rfl, HFD.out⟩)
end Go.Proofs.YtckohmhhcknmaaaGreatDoor

/-
  token.Read at an access token.
-/
namespace Go.Proofs.YtckohmhhcknmaaaGreatDoor
open Go.RowKit Go.Sort

set_option maxHeartbeats 8000000 in
set_option maxRecDepth 100000 in
theorem tokRead_2 (key : Int) (s : ByteArray) (W : World) (hs : s.size ≤ 1000) (hm : MaxL W) (hT : Tens W) (hv : ErrVars W) (x y z t : List UInt8) (hL : parts 46 s.data.toList = [[97], x, y, z, t]) :
    Calls Tryz.prog 48 #[.int .i64 key, .string s] W (TokGot W (tokR (fun B => tagL key B) [[97], x, y, z, t])) := by
  have H := Lib.hid (tokRead_start key s W hs hm hT hv)
  have hlen : ∀ w ∈ [[97], x, y, z, t], w.length ≤ 1000 := by rw [← hL]; exact parts_word_len 46 _ _ (by rw [size_data]; exact hs)
  rw [hL] at H
  have hx : (txt x).size ≤ 1000000 := by rw [txt_size]; have := hlen x (by simp); omega
  have hy : (txt y).size ≤ 1000000 := by rw [txt_size]; have := hlen y (by simp); omega
  have hz : (txt z).size ≤ 1000000 := by rw [txt_size]; have := hlen z (by simp); omega
  have ht : t.length ≤ 1000 := hlen t (by simp)
  obtain ⟨i0, hi, hz0, hz1, hz2⟩ := info_parts intInfo
  have e1 : ((txt [97]).toList == [97]) = true := by rw [toList_txt]; decide
  have lten := hT.lt
  clear hm hT hv hL hlen
  go_enter Tryz.func48, Tryz.ntmps48
  go_wp2_with fail
  go_at_call 93
  refine H.out.mono ?_
  rintro e w1 ⟨v, rfl, h⟩
  obtain ⟨g, cap, rfl, hcap, hmax, hg1, hg2, hrl, hcells, _, _, _, _, _⟩ := h.facts
  have HTK := Lib.hid (TK.start h hg1 hg2 2)
  have hc0 := hcells 0 (by simp)
  clear h hcells
  simp only [List.length_cons, List.length_nil, Nat.zero_add, Nat.reduceAdd, List.getD_cons_zero] at hc0 hcap
  generalize txt [97] = rr at *
  go_wp2_with fail
  have hB0 : w1.heap.size + 1 = (w1.alloc (.cells #[.int .i64 2, .int .i64 0, .int .i64 0, .int .i64 0] 104)).heap.size := by simp
  generalize w1.alloc (.cells #[.int .i64 2, .int .i64 0, .int .i64 0, .int .i64 0] 104) = w2 at *
  have n1 := HTK.out.ne1
  have n2 := HTK.out.ne2
  have n3 := HTK.out.ne3
  clear hc0 hg1 hg2
  generalize w1.heap.size = tb at *
  obtain ⟨hcs, ⟨r0, r1, r2, r3⟩, ⟨f0, f1, f2, f3⟩, ⟨k0, k1, k2, k3⟩, ⟨q0, q1, q2, q3⟩, lg, lt, lW⟩ := HTK.out.facts
  refine wp_loop_rounds 4 ?_
  have hc := hcs 1 (by simp)
  simp at hc
  clear hcs
  rw [rounds_succ]
  go_wp2_with fail
  go_at_call 94
  refine (number_c (txt x) _ hx HTK.out.tr.tens HTK.out.tr.errs).mono ?_
  rintro e wa0 ⟨rfl, hb⟩
  rw [data_txt]
  have HA0 := Lib.hid (HTK.out.keep' hb)
  clear r0 r1 r2 r3 f0 f1 f2 f3 k0 k1 k2 k3 q0 q1 q2 q3 lg lt lW
  clear hc hb
  obtain ⟨hcs, ⟨r0, r1, r2, r3⟩, ⟨f0, f1, f2, f3⟩, ⟨k0, k1, k2, k3⟩, ⟨q0, q1, q2, q3⟩, lg, lt, lW⟩ := HA0.out.facts
  cases hnx : numB x
  · clear hcs
    go_wp2_with fail
    rw [show tokR (fun B => tagL key B) [[97], x, y, z, t] = (3, 0, 0, 0, 0) from tokR_none (by simp [tokP, hnx])]
    exact tok_end (four_below HA0.out.tr.below (.int .i64 0) (.int .i64 0) (.int .i64 0) (.int .i64 0)) (four_sets HA0.out.tr.res (.int .i64 0) (.int .i64 0) (.int .i64 0) (.int .i64 0)) rfl rfl rfl
  · have HNx := Lib.hid hnx
    clear hnx
    have HCS := Lib.hid hcs
    clear hcs
    go_wp2_with
      (at_builtin; refine wpList_append_own _ rfl _ _ 22 rfl (tb + 1) 3 i0 (.int .i64 0) 1 8 Tryz.underlying22 hi hz0 hz1 hz2 rfl (by decide) _ 0 [] rfl (World.ownsRow_nil _ _ _ _) ⟨wa0.heap.size, 0, none⟩ 1 1 [.int .i64 (atoiN x)] rfl rfl (cell_one_new _ _ _) (fun u hu => by simp at hu; subst hu; rfl) (by unfold maxLen; omega) (by omega) (by have := HA0.out.hB; simp; omega) ?_; intro v0 wb0 hown' hgrow hnil
       have HO0 := Lib.hid hown'
       have HB0 := Lib.hid ((HA0.out.keep' ((Below.refl _ _).alloc (Nat.le_refl _) _)).grown hgrow (fun i hi => by cases hi))
       clear hown' hgrow hnil)
    clear HCS
    clear r0 r1 r2 r3 f0 f1 f2 f3 k0 k1 k2 k3 q0 q1 q2 q3 lg lt lW
    obtain ⟨hcs, ⟨r0, r1, r2, r3⟩, ⟨f0, f1, f2, f3⟩, ⟨k0, k1, k2, k3⟩, ⟨q0, q1, q2, q3⟩, lg, lt, lW⟩ := HB0.out.facts
    have hc := hcs 2 (by simp)
    simp at hc
    clear hcs
    rw [rounds_succ]
    go_wp2_with fail
    go_at_call 94
    refine (number_c (txt y) _ hy HB0.out.tr.tens HB0.out.tr.errs).mono ?_
    rintro e wa1 ⟨rfl, hb⟩
    rw [data_txt]
    have HA1 := Lib.hid (HB0.out.keep' hb)
    have hown := owns_keep HO0.out hb
    clear r0 r1 r2 r3 f0 f1 f2 f3 k0 k1 k2 k3 q0 q1 q2 q3 lg lt lW
    clear hc hb
    obtain ⟨hcs, ⟨r0, r1, r2, r3⟩, ⟨f0, f1, f2, f3⟩, ⟨k0, k1, k2, k3⟩, ⟨q0, q1, q2, q3⟩, lg, lt, lW⟩ := HA1.out.facts
    cases hny : numB y
    · clear hcs
      go_wp2_with fail
      rw [show tokR (fun B => tagL key B) [[97], x, y, z, t] = (3, 0, 0, 0, 0) from tokR_none (by simp [tokP, HNx.out, hny])]
      exact tok_end (four_below HA1.out.tr.below (.int .i64 0) (.int .i64 0) (.int .i64 0) (.int .i64 0)) (four_sets HA1.out.tr.res (.int .i64 0) (.int .i64 0) (.int .i64 0) (.int .i64 0)) rfl rfl rfl
    · have HNy := Lib.hid hny
      have hownB := hown.lt
      clear hny
      have HCS := Lib.hid hcs
      clear hcs
      go_wp2_with
        (at_builtin; refine wpList_append_own _ rfl _ _ 22 rfl (tb + 1) 3 i0 (.int .i64 0) 1 8 Tryz.underlying22 hi hz0 hz1 hz2 rfl (by decide) _ 1 [.int .i64 (atoiN x)] rfl (hown.alloc _) ⟨wa1.heap.size, 0, none⟩ 1 1 [.int .i64 (atoiN y)] rfl rfl (cell_one_new _ _ _) (fun u hu => by simp at hu; subst hu; rfl) (by unfold maxLen; omega) (by omega) (by have := HA1.out.hB; simp; omega) ?_; intro v1 wb1 hown' hgrow hnil
         have HO1 := Lib.hid hown'
         have HB1 := Lib.hid ((HA1.out.keep' ((Below.refl _ _).alloc (Nat.le_refl _) _)).grown hgrow (fun i hi => (hownB i hi).1))
         clear hown' hgrow hnil)
      clear HCS
      clear r0 r1 r2 r3 f0 f1 f2 f3 k0 k1 k2 k3 q0 q1 q2 q3 lg lt lW
      obtain ⟨hcs, ⟨r0, r1, r2, r3⟩, ⟨f0, f1, f2, f3⟩, ⟨k0, k1, k2, k3⟩, ⟨q0, q1, q2, q3⟩, lg, lt, lW⟩ := HB1.out.facts
      clear hownB
      have hc := hcs 3 (by simp)
      simp at hc
      clear hcs
      rw [rounds_succ]
      go_wp2_with fail
      go_at_call 94
      refine (number_c (txt z) _ hz HB1.out.tr.tens HB1.out.tr.errs).mono ?_
      rintro e wa2 ⟨rfl, hb⟩
      rw [data_txt]
      have HA2 := Lib.hid (HB1.out.keep' hb)
      have hown := owns_keep HO1.out hb
      clear r0 r1 r2 r3 f0 f1 f2 f3 k0 k1 k2 k3 q0 q1 q2 q3 lg lt lW
      clear hc hb
      obtain ⟨hcs, ⟨r0, r1, r2, r3⟩, ⟨f0, f1, f2, f3⟩, ⟨k0, k1, k2, k3⟩, ⟨q0, q1, q2, q3⟩, lg, lt, lW⟩ := HA2.out.facts
      cases hnz : numB z
      · clear hcs
        go_wp2_with fail
        rw [show tokR (fun B => tagL key B) [[97], x, y, z, t] = (3, 0, 0, 0, 0) from tokR_none (by simp [tokP, HNx.out, HNy.out, hnz])]
        exact tok_end (four_below HA2.out.tr.below (.int .i64 0) (.int .i64 0) (.int .i64 0) (.int .i64 0)) (four_sets HA2.out.tr.res (.int .i64 0) (.int .i64 0) (.int .i64 0) (.int .i64 0)) rfl rfl rfl
      · have HNz := Lib.hid hnz
        have hownB := hown.lt
        clear hnz
        have HCS := Lib.hid hcs
        clear hcs
        go_wp2_with
          (at_builtin; refine wpList_append_own _ rfl _ _ 22 rfl (tb + 1) 3 i0 (.int .i64 0) 1 8 Tryz.underlying22 hi hz0 hz1 hz2 rfl (by decide) _ 2 [.int .i64 (atoiN x), .int .i64 (atoiN y)] rfl (hown.alloc _) ⟨wa2.heap.size, 0, none⟩ 1 1 [.int .i64 (atoiN z)] rfl rfl (cell_one_new _ _ _) (fun u hu => by simp at hu; subst hu; rfl) (by unfold maxLen; omega) (by omega) (by have := HA2.out.hB; simp; omega) ?_; intro v2 wb2 hown' hgrow hnil
           have HO2 := Lib.hid hown'
           have HB2 := Lib.hid ((HA2.out.keep' ((Below.refl _ _).alloc (Nat.le_refl _) _)).grown hgrow (fun i hi => (hownB i hi).1))
           clear hown' hgrow hnil)
        clear HCS
        clear r0 r1 r2 r3 f0 f1 f2 f3 k0 k1 k2 k3 q0 q1 q2 q3 lg lt lW
        obtain ⟨hcs, ⟨r0, r1, r2, r3⟩, ⟨f0, f1, f2, f3⟩, ⟨k0, k1, k2, k3⟩, ⟨q0, q1, q2, q3⟩, lg, lt, lW⟩ := HB2.out.facts
        clear hownB
        rw [rounds_succ]
        have hc := hcs 4 (by simp)
        simp at hc
        clear hcs
        have hts := txt_size t
        have HTT := Lib.hid (data_txt t)
        have HTR1 := Lib.hid (fun (w : World) (hh : t.all (hexD.contains ·) = true) => (trim_set ⟨#[48, 49, 50, 51, 52, 53, 54, 55, 56, 57, 97, 98, 99, 100, 101, 102]⟩ (txt t) w (by omega) (by decide) (ascii_of_all (by decide))).1 (by rw [data_txt]; exact hh))
        have HTR2 := Lib.hid (fun (w : World) (hh : t.all (hexD.contains ·) = false) => (trim_set ⟨#[48, 49, 50, 51, 52, 53, 54, 55, 56, 57, 97, 98, 99, 100, 101, 102]⟩ (txt t) w (by omega) (by decide) (ascii_of_all (by decide))).2 (by rw [data_txt]; exact hh))
        generalize txt t = TT at *
        by_cases h16 : t.length = 16
        · have e16 : ((TT.size : Int) != 16) = false := by simp; omega
          have H16 := Lib.hid h16
          clear hts
          cases hhex : t.all (hexD.contains ·)
          · have HT := Lib.hid (fun w => HTR2.out w hhex)
            have HX := Lib.hid hhex
            clear hhex HTR1 HTR2
            go_wp2_with
              (go_at_call 46; refine (HT.out _).mono ?_; rintro e wc ⟨⟨z, rfl, hz⟩, hb⟩
               have HC := Lib.hid (HB2.out.keep' hb)
               clear r0 r1 r2 r3 f0 f1 f2 f3 k0 k1 k2 k3 q0 q1 q2 q3 lg lt lW
               clear hb
               obtain ⟨_, ⟨r0, r1, r2, r3⟩, ⟨f0, f1, f2, f3⟩, _, _, _, _, lW⟩ := HC.out.facts)
            rw [tokR_2 HNx.out HNy.out HNz.out, if_neg (tagB_no2 HX.out)]
            exact tok_end (four_below HC.out.tr.below (.int .i64 0) (.int .i64 0) (.int .i64 0) (.int .i64 0)) (four_sets HC.out.tr.res (.int .i64 0) (.int .i64 0) (.int .i64 0) (.int .i64 0)) rfl rfl rfl
          · have HT := Lib.hid (fun w => HTR1.out w hhex)
            have HX := Lib.hid hhex
            clear hhex HTR1 HTR2
            have hown := HO2.out
            have HOO := HO2
            go_wp2_with
              (go_at_call 46; refine (HT.out _).mono ?_; rintro e wc ⟨rfl, hb⟩
               have HC := Lib.hid (HB2.out.keep' hb)
               have HO := Lib.hid (owns_keep HOO.out hb)
               clear r0 r1 r2 r3 f0 f1 f2 f3 k0 k1 k2 k3 q0 q1 q2 q3 lg lt lW
               clear hb
               obtain ⟨hcs, ⟨r0, r1, r2, r3⟩, ⟨f0, f1, f2, f3⟩, ⟨k0, k1, k2, k3⟩, ⟨q0, q1, q2, q3⟩, lg, lt, lW⟩ := HC.out.facts
               clear hcs)
            rcases HO.out.2 with ⟨_, e0⟩ | ⟨gn, capn, cur, rfl, hgn, hbn, hn1, hn2, hn3, hn4⟩
            · cases e0
            have c0 := HO.out.cellAt 0 (by omega)
            have c1 := HO.out.cellAt 1 (by omega)
            have c2 := HO.out.cellAt 2 (by omega)
            simp at c0 c1 c2
            have lgn : gn < wc.heap.size := Blk.lt (t := 3) (cs := cur) hbn
            have gnt : tb ≠ gn := by omega
            have gnt' : gn ≠ tb := by omega
            clear hbn hn4
            have HTE := Lib.hid (TE.of_tk HC.out (by omega) lten)
            go_region
            go_wp2_with fail
            have HT4 : Hid (TE W tb #[.int .i64 2, .int .i64 (atoiN x), .int .i64 (atoiN y), .int .i64 (atoiN z)] (((wc.setCell ⟨tb, 1, none⟩ (.int .i64 (atoiN x))).setCell ⟨tb, 2, none⟩ (.int .i64 (atoiN y))).setCell ⟨tb, 3, none⟩ (.int .i64 (atoiN z))).drew) := Lib.hid (TE.drew (((HTE.out.set 1 (.int .i64 (atoiN x))).set 2 (.int .i64 (atoiN y))).set 3 (.int .i64 (atoiN z))))
            generalize (((wc.setCell ⟨tb, 1, none⟩ (.int .i64 (atoiN x))).setCell ⟨tb, 2, none⟩ (.int .i64 (atoiN y))).setCell ⟨tb, 3, none⟩ (.int .i64 (atoiN z))).drew = w4 at *
            clear r0 r1 r2 r3 f0 f1 f2 f3 k0 k1 k2 k3 q0 q1 q2 q3 lg lt lW HTE HC HO
            clear c0 c1 c2 lgn gnt gnt'
            have hrt := right_2 HNx.out HNy.out HNz.out
            have HBD := Lib.hid (token_body 2 (atoiN x) (atoiN y) (atoiN z) w4 HT4.out.tens hrt)
            unfold v4 at HBD
            have hbs := bodyS_size _ _ _ _ hrt
            clear hrt
            have HBE := Lib.hid (bodyS_2 HNx.out HNy.out HNz.out)
            have HTG := Lib.hid (fun w => mac_tagS key (bodyS 2 (atoiN x) (atoiN y) (atoiN z)) w (by omega))
            have hsz := tagS_size key (bodyS 2 (atoiN x) (atoiN y) (atoiN z))
            have hts2 : TT.size ≤ 1000000 := by have := congrArg List.length HTT.out; rw [size_data] at this; omega
            have HSM := Lib.hid (fun w => mac_same TT (tagS key (bodyS 2 (atoiN x) (atoiN y) (atoiN z))) w hts2 (by omega))
            have HEQ := Lib.hid (tag_eq key HTT.out HBE.out)
            clear hbs hsz hts2
            generalize bodyS 2 (atoiN x) (atoiN y) (atoiN z) = BS at *
            generalize tagS key BS = TG at *
            go_at_call 96
            refine HBD.out.mono ?_
            rintro e w5 ⟨rfl, hb5⟩
            have HT5 := Lib.hid (HT4.out.keep hb5)
            clear hb5
            go_wp2_with fail
            go_at_call 76
            refine (HTG.out _).mono ?_
            rintro e w6 ⟨rfl, hb6⟩
            have HT6 := Lib.hid (HT5.out.keep hb6)
            clear hb6
            go_wp2_with fail
            go_at_call 95
            refine (HSM.out _).mono ?_
            rintro e w7 ⟨rfl, hb7⟩
            have HT7 := Lib.hid (HT6.out.keep (same_below hb7))
            clear hb7
            obtain ⟨⟨r0, r1, r2, r3⟩, ⟨f0, f1, f2, f3⟩, ⟨k0, k1, k2, k3⟩, lW, lt⟩ := HT7.out.facts
            cases hq : decide (TT = TG)
            · have HQ := Lib.hid hq
              have hne := HEQ.out
              rw [hq] at hne
              clear hq
              have HNE := Lib.hid hne
              clear hne
              go_wp2_with fail
              rw [tokR_2 HNx.out HNy.out HNz.out, if_pos (tagB_yes H16.out HX.out), if_neg (by simpa using HNE.out)]
              exact tok_end (four_below HT7.out.below (.int .i64 0) (.int .i64 0) (.int .i64 0) (.int .i64 0)) (four_sets HT7.out.res (.int .i64 0) (.int .i64 0) (.int .i64 0) (.int .i64 0)) rfl rfl rfl
            · have HQ := Lib.hid hq
              have hne := HEQ.out
              rw [hq] at hne
              clear hq
              have HNE := Lib.hid hne
              clear hne
              go_wp2_with fail
              rw [tokR_2 HNx.out HNy.out HNz.out, if_pos (tagB_yes H16.out HX.out), if_pos (by simpa using HNE.out)]
              exact tok_end (four_below HT7.out.below _ _ _ _) (four_sets HT7.out.res _ _ _ _) rfl rfl rfl
        · have e16 : ((TT.size : Int) != 16) = true := by simp; omega
          clear hts
          have H16 := Lib.hid h16
          clear h16
          go_wp2_with fail
          rw [show tokR (fun B => tagL key B) [[97], x, y, z, t] = (3, 0, 0, 0, 0) from by rw [tokR_2 HNx.out HNy.out HNz.out, if_neg (tagB_no1 H16.out)]]
          exact tok_end (four_below HB2.out.tr.below (.int .i64 0) (.int .i64 0) (.int .i64 0) (.int .i64 0)) (four_sets HB2.out.tr.res (.int .i64 0) (.int .i64 0) (.int .i64 0) (.int .i64 0)) rfl rfl rfl
end Go.Proofs.YtckohmhhcknmaaaGreatDoor

/-
  token.Read: the token that any text is, or what is wrong with it.
-/
namespace Go.Proofs.YtckohmhhcknmaaaGreatDoor
open Go.RowKit Go.Sort

theorem token_read (key : Int) (s : ByteArray) (W : World) (hs : s.size ≤ 1000) (hm : MaxL W) (hT : Tens W) (hv : ErrVars W) :
    Calls Tryz.prog 48 #[.int .i64 key, .string s] W (TokGot W (tokR (fun B => tagL key B) (parts 46 s.data.toList))) := by
  by_cases h1 : (parts 46 s.data.toList).getD 0 [] = [97]
  · by_cases h2 : (parts 46 s.data.toList).length = 5
    · rcases e : parts 46 s.data.toList with _ | ⟨a, _ | ⟨b, _ | ⟨c, _ | ⟨d, _ | ⟨t, _ | ⟨u, r⟩⟩⟩⟩⟩⟩
      all_goals (rw [e] at h1 h2; simp at h1 h2)
      subst h1
      exact tokRead_2 key s W hs hm hT hv b c d t e
    · rw [tokR_none (tokP_len2 h1 h2)]
      exact tokRead_form key s W hs hm hT hv (.inr (.inl ⟨h1, h2⟩))
  · by_cases h3 : (parts 46 s.data.toList).getD 0 [] = [114]
    · by_cases h2 : (parts 46 s.data.toList).length = 4
      · rcases e : parts 46 s.data.toList with _ | ⟨a, _ | ⟨b, _ | ⟨c, _ | ⟨d, _ | ⟨u, r⟩⟩⟩⟩⟩
        all_goals (rw [e] at h3 h2; simp at h3 h2)
        subst h3
        exact tokRead_1 key s W hs hm hT hv b c d e
      · rw [tokR_none (tokP_len1 h3 h2)]
        exact tokRead_form key s W hs hm hT hv (.inr (.inr ⟨h3, h2⟩))
    · rw [tokR_none (tokP_kind h1 h3)]
      exact tokRead_form key s W hs hm hT hv (.inl ⟨h1, h3⟩)
end Go.Proofs.YtckohmhhcknmaaaGreatDoor

/-
  A service: live.
-/
namespace Go.Proofs.YtckohmhhcknmaaaGreatDoor
open Go.RowKit Go.Sort

/-- what live gives: the token as it was read, the family (none, or the one of its number), what is wrong -/
def liveF (s : St) (q : Int × Int × Int × Int × Int) : Fam := if q.1 ≠ 0 then Fam.zero else (findF s.fams q.2.2.1).getD Fam.zero
def liveE (r : Ru) (s : St) (q : Int × Int × Int × Int × Int) (kind : Int) : Int :=
  if q.1 ≠ 0 then q.1 else if q.2.1 ≠ kind then 1 else match findF s.fams q.2.2.1 with
    | none => 7
    | some f => if f.dead then 6 else if oldB r s.clock f then 10 else 0
def LiveGot (r : Ru) (s : St) (q : Int × Int × Int × Int × Int) (kind : Int) (W : World) (e : Ending) (w' : World) : Prop :=
  e = .returned (.tuple #[v4 q.2.1 q.2.2.1 q.2.2.2.1 q.2.2.2.2, famVal (liveF s q), errV (liveE r s q kind)]) ∧ Below W.heap.size W w'
theorem results_row2_tmp {P : Program} {fn : Func} {p q u : Tmp} {ty tz : TypeId} (h : fn.results = #[.cell p ty, .cell q tz, .tmp u]) (tmps : Array Value) (w : World) (g g2 : Nat) (t t2 : TypeId) (cs cs2 : Array Value) (d d2 : TypeDesc) (x : Value)
    (hp : tmps.getD p undef = .pointer (some ⟨g, 0, none⟩)) (hq : tmps.getD q undef = .pointer (some ⟨g2, 0, none⟩)) (hx : tmps.getD u undef = x) (hg : Blk w g t cs) (hg2 : Blk w g2 t2 cs2)
    (hu : P.underlying ty = some d) (hd : (match d with | .struct _ | .array _ _ => true | _ => false) = true) (hi : (P.info? ty).map (·.size) = some cs.size)
    (hu2 : P.underlying tz = some d2) (hd2 : (match d2 with | .struct _ | .array _ _ => true | _ => false) = true) (hi2 : (P.info? tz).map (·.size) = some cs2.size) :
    (results fn tmps).run P w = .ok (.tuple #[.agg cs, .agg cs2, x]) w := by
  have e : (results fn tmps).run P w = ((asAddr (tmps.getD p undef)).run P w).andThen fun a w₁ => ((loadVar ty a).run P w₁).andThen fun v w₂ => ((asAddr (tmps.getD q undef)).run P w₂).andThen fun b w₃ => ((loadVar tz b).run P w₃).andThen fun v' w₄ => .ok (.tuple #[v, v', tmps.getD u undef]) w₄ := by
    simp only [results, h]
    simp [Sem.run_bind, Result.andThen]
  rw [e, hp, hq, hx]
  simp only [asAddr, Sem.run_pure, Result.andThen]
  rw [run_loadVar_row w g t ty cs (0, 0) d hg hu hd hi]
  simp only
  rw [run_loadVar_row w g2 t2 tz cs2 (0, 0) d2 hg2 hu2 hd2 hi2]
theorem live_end {r : Ru} {s : St} {q : Int × Int × Int × Int × Int} {kind : Int} {W w : World} {A : Act} {a b c d e : Int} {f : Fam} (hb : Below W.heap.size W w) (ht : Blk w W.heap.size 104 #[.int .i64 a, .int .i64 b, .int .i64 c, .int .i64 d]) (hf : Blk w (W.heap.size + 1) 79 (famCs f))
    (hp : A.tmps.getD 6 undef = .pointer (some ⟨W.heap.size, 0, none⟩)) (hq : A.tmps.getD 7 undef = .pointer (some ⟨W.heap.size + 1, 0, none⟩)) (hx : A.tmps.getD 8 undef = errV e) (hd : A.defers = []) (h1 : q.2 = (a, b, c, d)) (h2 : f = liveF s q) (h3 : e = liveE r s q kind) :
    bodyPost Tryz.prog Tryz.f44 (LiveGot r s q kind W) Exit.ret A w := by
  refine bodyPost_ret (results_row2_tmp rfl A.tmps w _ _ _ _ _ _ _ _ _ hp hq hx ht hf Tryz.underlying104 rfl (by kernel_rfl) Tryz.underlying79 rfl (by kernel_rfl)) hd ⟨?_, hb⟩
  rw [h1, ← h2, ← h3]
  rfl
/-- four stores, and nine -/
theorem thirteen_sets {w : World} {g g2 : Nat} {T T2 : TypeId} {a0 b0 c0 d0 : Value} {f0 : Fam} (h : Blk w g T #[a0, b0, c0, d0]) (h2 : Blk w g2 T2 (famCs f0)) (hne : g ≠ g2) (a b c d : Int) (f : Fam) : ∃ w', w' = (((((((((((((w.setCell ⟨g, 0, none⟩ (.int .i64 a)).setCell ⟨g, 1, none⟩ (.int .i64 b)).setCell ⟨g, 2, none⟩ (.int .i64 c)).setCell ⟨g, 3, none⟩ (.int .i64 d)).setCell ⟨g2, 0, none⟩ (.int .i64 f.id)).setCell ⟨g2, 1, none⟩ (.string f.client)).setCell ⟨g2, 2, none⟩ (.string f.subject)).setCell ⟨g2, 3, none⟩ (.string f.scope)).setCell ⟨g2, 4, none⟩ (.int .i64 f.gen)).setCell ⟨g2, 5, none⟩ (.int .i64 f.made)).setCell ⟨g2, 6, none⟩ (.int .i64 f.used)).setCell ⟨g2, 7, none⟩ (.string f.request)).setCell ⟨g2, 8, none⟩ (.bool f.dead)) ∧
    Blk w' g T #[.int .i64 a, .int .i64 b, .int .i64 c, .int .i64 d] ∧ Blk w' g2 T2 (famCs f) ∧ ∀ {B : Nat} {W : World}, Below B W w → B ≤ g → B ≤ g2 → B ≤ w.heap.size → Below B W w' := by
  have e0 := h.put_ 0 (.int .i64 a) (cs' := #[.int .i64 a, b0, c0, d0]) rfl
  have e1 := e0.put_ 1 (.int .i64 b) (cs' := #[.int .i64 a, .int .i64 b, c0, d0]) rfl
  have e2 := e1.put_ 2 (.int .i64 c) (cs' := #[.int .i64 a, .int .i64 b, .int .i64 c, d0]) rfl
  have e3 := e2.put_ 3 (.int .i64 d) (cs' := #[.int .i64 a, .int .i64 b, .int .i64 c, .int .i64 d]) rfl
  have g0 := only_set1 w g ⟨g, 0, none⟩ rfl (.int .i64 a)
  have g1 := only_setCell g0 (p := ⟨g, 1, none⟩) (.inl rfl) (.int .i64 b)
  have g2' := only_setCell g1 (p := ⟨g, 2, none⟩) (.inl rfl) (.int .i64 c)
  have g3 := only_setCell g2' (p := ⟨g, 3, none⟩) (.inl rfl) (.int .i64 d)
  have hf3 := h2.grown g3 (by simpa using hne.symm)
  obtain ⟨n1, n2⟩ := nine_sets hf3 f.id f.client f.subject f.scope f.gen f.made f.used f.request f.dead
  refine ⟨_, rfl, e3.grown n2 (by simpa using hne), n1, fun hb h1 h2' h3 => ?_⟩
  have hb3 := hb.grown g3 h3 (fun i hi => by cases hi; exact h1)
  exact hb3.grown n2 (Nat.le_trans h3 g3.size) (fun i hi => by cases hi; exact h2')
theorem tok_cells {w : World} {g : Nat} {T : TypeId} {a b c d : Value} (h : Blk w g T #[a, b, c, d]) : w.cell? ⟨g, 0, none⟩ = some a ∧ w.cell? ⟨g, 1, none⟩ = some b ∧ w.cell? ⟨g, 2, none⟩ = some c ∧ w.cell? ⟨g, 3, none⟩ = some d := ⟨h.cell 0, h.cell 1, h.cell 2, h.cell 3⟩
set_option maxHeartbeats 4000000 in
set_option maxRecDepth 100000 in
theorem svc_live {B vb sb db k : Nat} {r : Ru} {z : SS} {v : Value} {W : World} (h : SW B vb sb db k r z v W) (t : ByteArray) (kind : Int) (ht : t.size ≤ 1000) :
    Calls Tryz.prog 44 #[.pointer (some ⟨vb, 0, none⟩), .string t, .int .i64 kind] W (LiveGot r z.s (tokOf r t) kind W) := by
  have HTR : Hid (∀ w, SW B vb sb db k r z v w → Calls Tryz.prog 48 #[.int .i64 r.key, .string t] w (TokGot w (tokOf r t))) := Lib.hid fun w h => token_read r.key t w ht h.sx.env.maxl h.sx.env.tens h.sx.env.errs
  have HFD := Lib.hid (fun w id (h : SW B vb sb db k r z v w) => svc_find h id)
  have HST := Lib.hid (fun w (h : SW B vb sb db k r z v w) => (sx_state h.sx).mono fun _ _ h => got_as h)
  have hfit := h.sx.fit
  have hru := ruB_parts h.right
  have H := Lib.hid h
  clear h
  generalize tokOf r t = q at *
  obtain ⟨qe, qk, qf, qg, qd⟩ := q
  generalize z.s = s at *
  obtain ⟨ck, nx, L⟩ := s
  unfold TokGot v4 at HTR
  unfold GotAs at HST
  dsimp only at *
  have hal := alloc2 W (.cells #[.int .i64 0, .int .i64 0, .int .i64 0, .int .i64 0] 104) (.cells (famCs Fam.zero) 79)
  have HAL := Lib.hid hal
  have H1 := Lib.hid (H.out.keep hal)
  have HT1 := Lib.hid ((Blk.new W 104 #[.int .i64 0, .int .i64 0, .int .i64 0, .int .i64 0]).alloc (.cells (famCs Fam.zero) 79))
  have hf1 : Blk ((W.alloc (.cells #[.int .i64 0, .int .i64 0, .int .i64 0, .int .i64 0] 104)).alloc (.cells (famCs Fam.zero) 79)) (W.heap.size + 1) 79 (famCs Fam.zero) := by
    have := Blk.new (W.alloc (.cells #[.int .i64 0, .int .i64 0, .int .i64 0, .int .i64 0] 104)) 79 (famCs Fam.zero)
    rw [show (W.alloc (.cells #[.int .i64 0, .int .i64 0, .int .i64 0, .int .i64 0] 104)).heap.size = W.heap.size + 1 by simp] at this
    exact this
  have HF1 := Lib.hid hf1
  clear hal hf1 H
  unfold famCs Fam.zero at HAL H1 HT1 HF1
  dsimp only at HAL H1 HT1 HF1
  obtain ⟨c0, c1, c2, c3, c4, hlt⟩ := H1.out.five
  go_enter Tryz.func44, Tryz.ntmps44
  go_wp2_with fail
  go_at_call 48
  refine (HTR.out _ H1.out).mono ?_
  rintro e w1 ⟨rfl, hb⟩
  have HB1 := Lib.hid (below_2 HAL.out hb)
  have H2 := Lib.hid (H1.out.keep hb)
  have HT2 := Lib.hid (HT1.out.below' hb)
  have HF2 := Lib.hid (HF1.out.below' hb)
  clear hb H1 HT1 HF1 HAL c0 c1 c2 c3 c4 hlt HTR
  by_cases hq : qe = 0
  · subst hq
    have e0 : errV 0 = .nilIface := errV_0
    rw [e0]
    clear e0
    obtain ⟨c0, c1, c2, c3, c4, hlt⟩ := H2.out.five
    have hal := (Below.refl w1.heap.size w1).alloc (Nat.le_refl _) (.cells #[.int .i64 qk, .int .i64 qf, .int .i64 qg, .int .i64 qd] 104)
    have H3 := Lib.hid (H2.out.keep hal)
    have HT3 := Lib.hid (HT2.out.below' hal)
    have HF3 := Lib.hid (HF2.out.below' hal)
    have HB3 := Lib.hid (below_2 HB1.out hal)
    have HV3 := Lib.hid (Blk.new w1 104 #[.int .i64 qk, .int .i64 qf, .int .i64 qg, .int .i64 qd])
    clear hal
    go_wp2_with fail
    go_at_call 66
    have hF2l := HF2.out.lt
    clear c0 c1 c2 c3 c4 hlt H2 HT2 HF2 HB1
    refine (HFD.out _ _ H3.out).mono ?_
    generalize hw3 : w1.alloc (.cells #[.int .i64 qk, .int .i64 qf, .int .i64 qg, .int .i64 qd] 104) = w3 at *
    have htb0 : W.heap.size + 1 < w1.heap.size := hF2l
    generalize hv : w1.heap.size = tb at *
    clear hw3 hv
    rintro e w4 ⟨hb, ⟨f, hfd, hmem, rfl⟩ | ⟨hfd, rfl⟩⟩
    · have H4 := Lib.hid (H3.out.keep hb)
      have HT4 := Lib.hid (HT3.out.below' hb)
      have HF4 := Lib.hid (HF3.out.below' hb)
      have HV4 := Lib.hid (HV3.out.below' hb)
      have HB4 := Lib.hid (below_2 HB3.out hb)
      have HFDD := Lib.hid hfd
      obtain ⟨_, _, gm, gu, _⟩ := famB_parts (hfit.fams f hmem)
      have HADU := Lib.hid (fun w => svc_add f.used r.idle w (by have := okN_iff.1 gu; omega) (by have := okN_iff.1 hru.2.1; omega))
      have HADM := Lib.hid (fun w => svc_add f.made r.life w (by have := okN_iff.1 gm; omega) (by have := okN_iff.1 hru.2.2.1; omega))
      clear hb hfd hmem H3 HT3 HF3 HV3 HB3 HFD gm gu
      obtain ⟨i, cl, su, scp, ge, ma, us, re, de⟩ := f
      unfold famVal famCs
      dsimp only at *
      obtain ⟨c0, c1, c2, c3, c4, hlt⟩ := H4.out.five
      go_wp2_with fail
      have hal := (Below.refl w4.heap.size w4).alloc (Nat.le_refl _) (.cells #[.int .i64 i, .string cl, .string su, .string scp, .int .i64 ge, .int .i64 ma, .int .i64 us, .string re, .bool de] 79)
      have HG4 := Lib.hid (Blk.new w4 79 #[.int .i64 i, .string cl, .string su, .string scp, .int .i64 ge, .int .i64 ma, .int .i64 us, .string re, .bool de])
      have H5 := Lib.hid (H4.out.keep hal)
      have HT4b := Lib.hid (HT4.out.below' hal)
      have HF4b := Lib.hid (HF4.out.below' hal)
      have HV4b := Lib.hid (HV4.out.below' hal)
      have HB4b := Lib.hid (below_2 HB4.out hal)
      have hfl := HF4.out.lt
      clear hal HT4 HF4 HV4 HB4 H4 c0 c1 c2 c3 c4 hlt
      go_at_call 39
      refine (HST.out _ H5.out).mono ?_
      generalize w4.alloc (.cells #[.int .i64 i, .string cl, .string su, .string scp, .int .i64 ge, .int .i64 ma, .int .i64 us, .string re, .bool de] 79) = w4b at *
      have hfb0 : W.heap.size + 1 < w4.heap.size := hfl
      generalize w4.heap.size = fb at *
      rintro e w5 ⟨a5, ac5, rfl, hr5, hb⟩
      have H6 := Lib.hid (H5.out.keep hb)
      have HT5 := Lib.hid (HT4b.out.below' hb)
      have HF5 := Lib.hid (HF4b.out.below' hb)
      have HV5 := Lib.hid (HV4b.out.below' hb)
      have HG5 := Lib.hid (HG4.out.below' hb)
      have HB5 := Lib.hid (below_2 HB4b.out hb)
      clear hr5 hb H5 HT4b HF4b HV4b HB4b HG4 HST
      have hcl := st_clock ck nx a5 L.length ac5
      obtain ⟨_, _, d2, d3, _, hlt⟩ := H6.out.five
      obtain ⟨v0, v1, v2, v3⟩ := tok_cells HV5.out
      obtain ⟨g0, g1, g2, g3, g4, g5, g6, g7, g8⟩ := fam_cells (i := i) (cl := cl) (su := su) (sc := scp) (ge := ge) (ma := ma) (us := us) (re := re) (de := de) HG5.out
      obtain ⟨t0, t1, t2, t3⟩ := tok_cells HT5.out
      have htz := HT5.out.frozen
      obtain ⟨z0, z1, z2, z3, z4, z5, z6, z7, z8⟩ := fam_cells (i := 0) (cl := ⟨#[]⟩) (su := ⟨#[]⟩) (sc := ⟨#[]⟩) (ge := 0) (ma := 0) (us := 0) (re := ⟨#[]⟩) (de := false) HF5.out
      have hz := HF5.out.frozen
      by_cases hk : qk = kind
      · have hk' : (qk != kind) = false := by simpa using hk
        have HK := Lib.hid hk
        clear hk
        cases de
        · by_cases hu : capN us r.idle < ck
          · have hu' : decide (capN us r.idle < ck) = true := decide_eq_true hu

            go_wp2_with fail
            go_quiet ((first
              | (go_at_call 43; exact Calls.quiet_of_same ((HADU.out _).mono fun _ _ h => ⟨h.1, h.2.symm⟩))
              | (go_at_call 43; exact Calls.quiet_of_same ((HADM.out _).mono fun _ _ h => ⟨h.1, h.2.symm⟩))))
            go_wp2_with fail

            have ntb0 : tb ≠ W.heap.size := by omega
            have ntb1 : tb ≠ W.heap.size + 1 := by omega
            have nfb0 : fb ≠ W.heap.size := by omega
            have nfb1 : fb ≠ W.heap.size + 1 := by omega
            go_region
            go_wp2_with fail
            obtain ⟨_, rfl, n1, n2, n3⟩ := thirteen_sets (f0 := Fam.zero) (HT5.out.drewN (nq + 1)) (HF5.out.drewN (nq + 1)) (by omega) qk qf qg qd ⟨i, cl, su, scp, ge, ma, us, re, false⟩
            exact live_end (r := r) (q := (0, qk, qf, qg, qd)) (s := ⟨ck, nx, L⟩) (kind := kind) (e := 10) (f := ⟨i, cl, su, scp, ge, ma, us, re, false⟩) (n3 (below_drewN HB5.out (nq + 1)) (Nat.le_refl _) (Nat.le_succ _) HB5.out.size) n1 n2 rfl rfl (by rw [errV_n (show (10 : Int) ≠ 0 by decide)]; rfl) rfl rfl (by unfold liveF; rw [if_neg (show ¬ (0 : Int) ≠ 0 by decide)]; first | rw [HFDD.out]; rfl | rw [HFDD.out]) (by unfold liveE; rw [if_neg (show ¬ (0 : Int) ≠ 0 by decide)]; rw [if_neg (by rw [HK.out]; exact fun h => h rfl), HFDD.out]; simp [oldB, hu])
          · have hu' : decide (capN us r.idle < ck) = false := decide_eq_false hu
            by_cases hm : capN ma r.life < ck
            · have hm' : decide (capN ma r.life < ck) = true := decide_eq_true hm

              go_wp2_with fail
              go_quiet ((first
                | (go_at_call 43; exact Calls.quiet_of_same ((HADU.out _).mono fun _ _ h => ⟨h.1, h.2.symm⟩))
                | (go_at_call 43; exact Calls.quiet_of_same ((HADM.out _).mono fun _ _ h => ⟨h.1, h.2.symm⟩))))
              go_wp2_with fail

              have ntb0 : tb ≠ W.heap.size := by omega
              have ntb1 : tb ≠ W.heap.size + 1 := by omega
              have nfb0 : fb ≠ W.heap.size := by omega
              have nfb1 : fb ≠ W.heap.size + 1 := by omega
              go_region
              go_wp2_with fail
              obtain ⟨_, rfl, n1, n2, n3⟩ := thirteen_sets (f0 := Fam.zero) (HT5.out.drewN (nq + 1)) (HF5.out.drewN (nq + 1)) (by omega) qk qf qg qd ⟨i, cl, su, scp, ge, ma, us, re, false⟩
              exact live_end (r := r) (q := (0, qk, qf, qg, qd)) (s := ⟨ck, nx, L⟩) (kind := kind) (e := 10) (f := ⟨i, cl, su, scp, ge, ma, us, re, false⟩) (n3 (below_drewN HB5.out (nq + 1)) (Nat.le_refl _) (Nat.le_succ _) HB5.out.size) n1 n2 rfl rfl (by rw [errV_n (show (10 : Int) ≠ 0 by decide)]; rfl) rfl rfl (by unfold liveF; rw [if_neg (show ¬ (0 : Int) ≠ 0 by decide)]; first | rw [HFDD.out]; rfl | rw [HFDD.out]) (by unfold liveE; rw [if_neg (show ¬ (0 : Int) ≠ 0 by decide)]; rw [if_neg (by rw [HK.out]; exact fun h => h rfl), HFDD.out]; simp [oldB, hm])
            · have hm' : decide (capN ma r.life < ck) = false := decide_eq_false hm

              go_wp2_with fail
              go_quiet ((first
                | (go_at_call 43; exact Calls.quiet_of_same ((HADU.out _).mono fun _ _ h => ⟨h.1, h.2.symm⟩))
                | (go_at_call 43; exact Calls.quiet_of_same ((HADM.out _).mono fun _ _ h => ⟨h.1, h.2.symm⟩))))
              go_wp2_with fail

              have ntb0 : tb ≠ W.heap.size := by omega
              have ntb1 : tb ≠ W.heap.size + 1 := by omega
              have nfb0 : fb ≠ W.heap.size := by omega
              have nfb1 : fb ≠ W.heap.size + 1 := by omega
              go_region
              go_wp2_with fail
              obtain ⟨_, rfl, n1, n2, n3⟩ := thirteen_sets (f0 := Fam.zero) (HT5.out.drewN (nq + 1)) (HF5.out.drewN (nq + 1)) (by omega) qk qf qg qd ⟨i, cl, su, scp, ge, ma, us, re, false⟩
              exact live_end (r := r) (q := (0, qk, qf, qg, qd)) (s := ⟨ck, nx, L⟩) (kind := kind) (e := 0) (f := ⟨i, cl, su, scp, ge, ma, us, re, false⟩) (n3 (below_drewN HB5.out (nq + 1)) (Nat.le_refl _) (Nat.le_succ _) HB5.out.size) n1 n2 rfl rfl rfl rfl rfl (by unfold liveF; rw [if_neg (show ¬ (0 : Int) ≠ 0 by decide)]; first | rw [HFDD.out]; rfl | rw [HFDD.out]) (by unfold liveE; rw [if_neg (show ¬ (0 : Int) ≠ 0 by decide)]; rw [if_neg (by rw [HK.out]; exact fun h => h rfl), HFDD.out]; simp [oldB, hu, hm])
        · go_wp2_with (first
            | (go_at_call 43; (with_reducible refine (HADU.out _).mono ?_); rintro e w' ⟨rfl, rfl⟩)
            | (go_at_call 43; (with_reducible refine (HADM.out _).mono ?_); rintro e w' ⟨rfl, rfl⟩))

          have ntb0 : tb ≠ W.heap.size := by omega
          have ntb1 : tb ≠ W.heap.size + 1 := by omega
          have nfb0 : fb ≠ W.heap.size := by omega
          have nfb1 : fb ≠ W.heap.size + 1 := by omega
          go_region
          go_wp2_with fail
          obtain ⟨_, rfl, n1, n2, n3⟩ := thirteen_sets (f0 := Fam.zero) HT5.out HF5.out (by omega) qk qf qg qd ⟨i, cl, su, scp, ge, ma, us, re, true⟩
          exact live_end (r := r) (q := (0, qk, qf, qg, qd)) (s := ⟨ck, nx, L⟩) (kind := kind) (e := 6) (f := ⟨i, cl, su, scp, ge, ma, us, re, true⟩) (below_dr (n3 HB5.out (Nat.le_refl _) (Nat.le_succ _) HB5.out.size)) n1.drew n2.drew rfl rfl (by rw [errV_n (show (6 : Int) ≠ 0 by decide)]; rfl) rfl rfl (by unfold liveF; rw [if_neg (show ¬ (0 : Int) ≠ 0 by decide)]; first | rw [HFDD.out]; rfl | rw [HFDD.out]) (by unfold liveE; rw [if_neg (show ¬ (0 : Int) ≠ 0 by decide)]; rw [if_neg (by rw [HK.out]; exact fun h => h rfl), HFDD.out]; rfl)
      · have hk' : (qk != kind) = true := by simpa using hk

        go_wp2_with (first
          | (go_at_call 43; (with_reducible refine (HADU.out _).mono ?_); rintro e w' ⟨rfl, rfl⟩)
          | (go_at_call 43; (with_reducible refine (HADM.out _).mono ?_); rintro e w' ⟨rfl, rfl⟩))

        have ntb0 : tb ≠ W.heap.size := by omega
        have ntb1 : tb ≠ W.heap.size + 1 := by omega
        have nfb0 : fb ≠ W.heap.size := by omega
        have nfb1 : fb ≠ W.heap.size + 1 := by omega
        go_region
        go_wp2_with fail
        obtain ⟨_, rfl, n1, n2, n3⟩ := thirteen_sets (f0 := Fam.zero) HT5.out HF5.out (by omega) qk qf qg qd ⟨i, cl, su, scp, ge, ma, us, re, de⟩
        exact live_end (r := r) (q := (0, qk, qf, qg, qd)) (s := ⟨ck, nx, L⟩) (kind := kind) (e := 1) (f := ⟨i, cl, su, scp, ge, ma, us, re, de⟩) (below_dr (n3 HB5.out (Nat.le_refl _) (Nat.le_succ _) HB5.out.size)) n1.drew n2.drew rfl rfl (by rw [errV_n (show (1 : Int) ≠ 0 by decide)]; rfl) rfl rfl (by unfold liveF; rw [if_neg (show ¬ (0 : Int) ≠ 0 by decide)]; first | rw [HFDD.out]; rfl | rw [HFDD.out]) (by unfold liveE; rw [if_neg (show ¬ (0 : Int) ≠ 0 by decide)]; rw [if_pos hk])
    · have H4 := Lib.hid (H3.out.keep hb)
      have HT4 := Lib.hid (HT3.out.below' hb)
      have HF4 := Lib.hid (HF3.out.below' hb)
      have HV4 := Lib.hid (HV3.out.below' hb)
      have HB4 := Lib.hid (below_2 HB3.out hb)
      have HFDD := Lib.hid hfd
      have HADU := Lib.hid (fun w => svc_add 0 r.idle w (by omega) (by have := okN_iff.1 hru.2.1; omega))
      have HADM := Lib.hid (fun w => svc_add 0 r.life w (by omega) (by have := okN_iff.1 hru.2.2.1; omega))
      clear hb hfd H3 HT3 HF3 HV3 HB3 HFD
      unfold famVal famCs Fam.zero
      dsimp only at *
      obtain ⟨c0, c1, c2, c3, c4, hlt⟩ := H4.out.five
      go_wp2_with fail
      have hal := (Below.refl w4.heap.size w4).alloc (Nat.le_refl _) (.cells #[.int .i64 0, .string ⟨#[]⟩, .string ⟨#[]⟩, .string ⟨#[]⟩, .int .i64 0, .int .i64 0, .int .i64 0, .string ⟨#[]⟩, .bool false] 79)
      have HG4 := Lib.hid (Blk.new w4 79 #[.int .i64 0, .string ⟨#[]⟩, .string ⟨#[]⟩, .string ⟨#[]⟩, .int .i64 0, .int .i64 0, .int .i64 0, .string ⟨#[]⟩, .bool false])
      have H5 := Lib.hid (H4.out.keep hal)
      have HT4b := Lib.hid (HT4.out.below' hal)
      have HF4b := Lib.hid (HF4.out.below' hal)
      have HV4b := Lib.hid (HV4.out.below' hal)
      have HB4b := Lib.hid (below_2 HB4.out hal)
      have hfl := HF4.out.lt
      clear hal HT4 HF4 HV4 HB4 H4 c0 c1 c2 c3 c4 hlt
      go_at_call 39
      refine (HST.out _ H5.out).mono ?_
      generalize w4.alloc (.cells #[.int .i64 0, .string ⟨#[]⟩, .string ⟨#[]⟩, .string ⟨#[]⟩, .int .i64 0, .int .i64 0, .int .i64 0, .string ⟨#[]⟩, .bool false] 79) = w4b at *
      have hfb0 : W.heap.size + 1 < w4.heap.size := hfl
      generalize w4.heap.size = fb at *
      rintro e w5 ⟨a5, ac5, rfl, hr5, hb⟩
      have H6 := Lib.hid (H5.out.keep hb)
      have HT5 := Lib.hid (HT4b.out.below' hb)
      have HF5 := Lib.hid (HF4b.out.below' hb)
      have HV5 := Lib.hid (HV4b.out.below' hb)
      have HG5 := Lib.hid (HG4.out.below' hb)
      have HB5 := Lib.hid (below_2 HB4b.out hb)
      clear hr5 hb H5 HT4b HF4b HV4b HB4b HG4 HST
      have hcl := st_clock ck nx a5 L.length ac5
      obtain ⟨_, _, d2, d3, _, hlt⟩ := H6.out.five
      obtain ⟨v0, v1, v2, v3⟩ := tok_cells HV5.out
      obtain ⟨g0, g1, g2, g3, g4, g5, g6, g7, g8⟩ := fam_cells (i := 0) (cl := ⟨#[]⟩) (su := ⟨#[]⟩) (sc := ⟨#[]⟩) (ge := 0) (ma := 0) (us := 0) (re := ⟨#[]⟩) (de := false) HG5.out
      obtain ⟨t0, t1, t2, t3⟩ := tok_cells HT5.out
      have htz := HT5.out.frozen
      obtain ⟨z0, z1, z2, z3, z4, z5, z6, z7, z8⟩ := fam_cells (i := 0) (cl := ⟨#[]⟩) (su := ⟨#[]⟩) (sc := ⟨#[]⟩) (ge := 0) (ma := 0) (us := 0) (re := ⟨#[]⟩) (de := false) HF5.out
      have hz := HF5.out.frozen
      by_cases hk : qk = kind
      · have hk' : (qk != kind) = false := by simpa using hk
        have HK := Lib.hid hk
        clear hk

        go_wp2_with (first
          | (go_at_call 43; (with_reducible refine (HADU.out _).mono ?_); rintro e w' ⟨rfl, rfl⟩)
          | (go_at_call 43; (with_reducible refine (HADM.out _).mono ?_); rintro e w' ⟨rfl, rfl⟩))

        have ntb0 : tb ≠ W.heap.size := by omega
        have ntb1 : tb ≠ W.heap.size + 1 := by omega
        have nfb0 : fb ≠ W.heap.size := by omega
        have nfb1 : fb ≠ W.heap.size + 1 := by omega
        go_region
        go_wp2_with fail
        obtain ⟨_, rfl, n1, n2, n3⟩ := thirteen_sets (f0 := Fam.zero) HT5.out HF5.out (by omega) qk qf qg qd Fam.zero
        exact live_end (r := r) (q := (0, qk, qf, qg, qd)) (s := ⟨ck, nx, L⟩) (kind := kind) (e := 7) (f := Fam.zero) (below_dr (n3 HB5.out (Nat.le_refl _) (Nat.le_succ _) HB5.out.size)) n1.drew n2.drew rfl rfl (by rw [errV_n (show (7 : Int) ≠ 0 by decide)]; rfl) rfl rfl (by unfold liveF; rw [if_neg (show ¬ (0 : Int) ≠ 0 by decide)]; first | rw [HFDD.out]; rfl | rw [HFDD.out]) (by unfold liveE; rw [if_neg (show ¬ (0 : Int) ≠ 0 by decide)]; rw [if_neg (by rw [HK.out]; exact fun h => h rfl), HFDD.out])
      · have hk' : (qk != kind) = true := by simpa using hk

        go_wp2_with (first
          | (go_at_call 43; (with_reducible refine (HADU.out _).mono ?_); rintro e w' ⟨rfl, rfl⟩)
          | (go_at_call 43; (with_reducible refine (HADM.out _).mono ?_); rintro e w' ⟨rfl, rfl⟩))

        have ntb0 : tb ≠ W.heap.size := by omega
        have ntb1 : tb ≠ W.heap.size + 1 := by omega
        have nfb0 : fb ≠ W.heap.size := by omega
        have nfb1 : fb ≠ W.heap.size + 1 := by omega
        go_region
        go_wp2_with fail
        obtain ⟨_, rfl, n1, n2, n3⟩ := thirteen_sets (f0 := Fam.zero) HT5.out HF5.out (by omega) qk qf qg qd Fam.zero
        exact live_end (r := r) (q := (0, qk, qf, qg, qd)) (s := ⟨ck, nx, L⟩) (kind := kind) (e := 1) (f := Fam.zero) (below_dr (n3 HB5.out (Nat.le_refl _) (Nat.le_succ _) HB5.out.size)) n1.drew n2.drew rfl rfl (by rw [errV_n (show (1 : Int) ≠ 0 by decide)]; rfl) rfl rfl (by unfold liveF; rw [if_neg (show ¬ (0 : Int) ≠ 0 by decide)]; first | rw [HFDD.out]; rfl | rw [HFDD.out]) (by unfold liveE; rw [if_neg (show ¬ (0 : Int) ≠ 0 by decide)]; rw [if_pos hk])
  · have e0 : errV qe = .iface 35 (.int .i64 qe) := errV_n hq
    rw [e0]
    clear e0
    obtain ⟨t0, t1, t2, t3⟩ := tok_cells HT2.out
    have htz := HT2.out.frozen
    obtain ⟨z0, z1, z2, z3, z4, z5, z6, z7, z8⟩ := fam_cells (i := 0) (cl := ⟨#[]⟩) (su := ⟨#[]⟩) (sc := ⟨#[]⟩) (ge := 0) (ma := 0) (us := 0) (re := ⟨#[]⟩) (de := false) HF2.out
    have hz := HF2.out.frozen
    have hw1 : W.heap.size + 1 < w1.heap.size := HF2.out.lt
    have hw0 : W.heap.size < w1.heap.size := HT2.out.lt
    go_wp2_with fail
    obtain ⟨_, rfl, n1, n2, n3⟩ := thirteen_sets (f0 := Fam.zero) HT2.out HF2.out (by omega) qk qf qg qd Fam.zero
    exact live_end ((n3 HB1.out (Nat.le_refl _) (Nat.le_succ _) (by omega)).alloc (by simp; omega) _) (n1.alloc _) (n2.alloc _) rfl rfl (by rw [errV_n hq]; rfl) rfl rfl (by unfold liveF; rw [if_pos hq]) (by unfold liveE; rw [if_pos hq])
end Go.Proofs.YtckohmhhcknmaaaGreatDoor
