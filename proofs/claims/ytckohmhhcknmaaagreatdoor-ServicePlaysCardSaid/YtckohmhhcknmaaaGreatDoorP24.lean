/-
  A service: Mint.
-/
import Derived.Test.YtckohmhhcknmaaaGreatDoorP23
import Derived.Test.YtckohmhhcknmaaaGreatDoorP21
namespace Go.Proofs.YtckohmhhcknmaaaGreatDoor
open Go.RowKit Go.Sort

/-- what Mint gives of what live gave -/
def mintV (r : Ru) (le : Int) (f : Fam) (qg ck : Int) : ByteArray × Int := if le ≠ 0 then (noneS, le) else if f.gen < qg then (noneS, 2) else if qg < f.gen then (noneS, 8) else (tokS r.key 2 f.id f.gen (capN ck r.access), 0)
theorem mintP_eq (r : Ru) (s : St) (t : ByteArray) : mintP r s t = mintV r (liveE r s (tokOf r t) 1) (liveF s (tokOf r t)) (tokOf r t).2.2.2.1 s.clock := by
  unfold mintP mintL mintV
  rw [liveR_e]
  by_cases h : liveE r s (tokOf r t) 1 ≠ 0
  · rw [if_pos h, if_pos h]
  · rw [if_neg h, if_neg h]
    obtain ⟨h1, h2, h3, _⟩ := liveR_yes (r := r) (s := s) (t := t) (kind := 1) (by simpa using h)
    rw [h1, h3]
def MintGot (W : World) (q : ByteArray × Int) (e : Ending) (w' : World) : Prop := e = .returned (.tuple #[.string q.1, errV q.2]) ∧ Below W.heap.size W w'
theorem right_two {a b c : Int} (ha : okN a = true) (hb : okN b = true) (hc : okN c = true) : rightN 2 a b c = true := by unfold rightN; rw [ha, hb, hc]; simp
theorem capN_ok {a b : Int} (ha : okN a = true) (hb : okN b = true) : okN (capN a b) = true := by
  obtain ⟨a0, a1⟩ := okN_iff.1 ha
  obtain ⟨b0, b1⟩ := okN_iff.1 hb
  refine okN_iff.2 ?_
  unfold capN
  split <;> omega
section
variable {B vb sb db k : Nat} {r : Ru} {z : SS} {v : Value} {W : World}
set_option maxHeartbeats 4000000 in
set_option maxRecDepth 100000 in
theorem svc_mint (h : SW B vb sb db k r z v W) (t : ByteArray) (ht : t.size ≤ 1000) :
    Calls Tryz.prog 25 #[.pointer (some ⟨vb, 0, none⟩), .string t] W (MintGot W (mintP r z.s t)) := by
  have HST := Lib.hid (fun w (h : SW B vb sb db k r z v w) => (sx_state h.sx).mono fun _ _ h => got_as h)
  have HL := Lib.hid (fun w (h : SW B vb sb db k r z v w) => svc_live h t 1 ht)
  rw [mintP_eq]
  have hfit := h.sx.fit
  have hru := ruB_parts h.right
  have hmem : liveE r z.s (tokOf r t) 1 = 0 → famB (liveF z.s (tokOf r t)) = true := fun hh => hfit.fams _ (liveR_yes hh).2.2.2.1
  have hck := hfit.clock
  have H1 := Lib.hid h
  unfold LiveGot v4 at HL
  unfold GotAs at HST
  clear h hfit
  generalize liveE r z.s (tokOf r t) 1 = le at *
  generalize liveF z.s (tokOf r t) = f at *
  generalize tokOf r t = q at *
  obtain ⟨qe, qk, qf, qg, qd⟩ := q
  obtain ⟨i, cl, su, scp, ge, ma, us, re, de⟩ := f
  unfold famVal famCs at HL
  dsimp only at HL
  dsimp only
  generalize z.s = s at *
  obtain ⟨ck, nx, L⟩ := s
  dsimp only at *
  have HAD := Lib.hid (fun w => svc_add ck r.access w (okN_iff.1 hck) (okN_iff.1 hru.2.2.2))
  go_enter Tryz.func25, Tryz.ntmps25
  go_wp2_with fail
  go_at_call 44
  refine (HL.out _ H1.out).mono ?_
  rintro e w1 ⟨rfl, hb⟩
  have H2 := Lib.hid (H1.out.keep hb)
  have HB1 := Lib.hid hb
  clear hb H1 HL
  have hal := alloc2 w1 (.cells #[.int .i64 qk, .int .i64 qf, .int .i64 qg, .int .i64 qd] 104) (.cells #[.int .i64 i, .string cl, .string su, .string scp, .int .i64 ge, .int .i64 ma, .int .i64 us, .string re, .bool de] 79)
  have HT3 := Lib.hid ((Blk.new w1 104 #[.int .i64 qk, .int .i64 qf, .int .i64 qg, .int .i64 qd]).alloc (.cells #[.int .i64 i, .string cl, .string su, .string scp, .int .i64 ge, .int .i64 ma, .int .i64 us, .string re, .bool de] 79))
  have hg : Blk ((w1.alloc (.cells #[.int .i64 qk, .int .i64 qf, .int .i64 qg, .int .i64 qd] 104)).alloc (.cells #[.int .i64 i, .string cl, .string su, .string scp, .int .i64 ge, .int .i64 ma, .int .i64 us, .string re, .bool de] 79)) (w1.heap.size + 1) 79 #[.int .i64 i, .string cl, .string su, .string scp, .int .i64 ge, .int .i64 ma, .int .i64 us, .string re, .bool de] := by
    have := Blk.new (w1.alloc (.cells #[.int .i64 qk, .int .i64 qf, .int .i64 qg, .int .i64 qd] 104)) 79 #[.int .i64 i, .string cl, .string su, .string scp, .int .i64 ge, .int .i64 ma, .int .i64 us, .string re, .bool de]
    rw [show (w1.alloc (.cells #[.int .i64 qk, .int .i64 qf, .int .i64 qg, .int .i64 qd] 104)).heap.size = w1.heap.size + 1 by simp] at this
    exact this
  have HG3 := Lib.hid hg
  have H3 := Lib.hid (H2.out.keep hal)
  have HB3 := Lib.hid (below_2 HB1.out hal)
  clear hal hg H2 HB1
  by_cases hle : le = 0
  · subst hle
    have e0 : errV 0 = .nilIface := errV_0
    rw [e0]
    clear e0
    have hfb := hmem rfl
    clear hmem
    by_cases h1 : ge < qg
    · have hq : mintV r 0 ⟨i, cl, su, scp, ge, ma, us, re, de⟩ qg ck = (noneS, 2) := by unfold mintV; rw [if_neg (by decide), if_pos h1]
      have HQ := Lib.hid hq
      clear hq HT3 HG3 H3
      go_wp2_with fail
      go_ret2
      rw [HQ.out]
      exact ⟨rfl, HB3.out⟩
    · by_cases h2 : qg < ge
      · have hq : mintV r 0 ⟨i, cl, su, scp, ge, ma, us, re, de⟩ qg ck = (noneS, 8) := by unfold mintV; rw [if_neg (by decide), if_neg h1, if_pos h2]
        have HQ := Lib.hid hq
        clear hq HT3 HG3 H3
        go_wp2_with fail
        go_ret2
        rw [HQ.out]
        exact ⟨rfl, HB3.out⟩
      · have hq : mintV r 0 ⟨i, cl, su, scp, ge, ma, us, re, de⟩ qg ck = (tokS r.key 2 i ge (capN ck r.access), 0) := by unfold mintV; rw [if_neg (by decide), if_neg h1, if_neg h2]
        have HQ := Lib.hid hq
        obtain ⟨p1, p2, _⟩ := famB_parts hfb
        have HA : Hid (∀ w, Tens w → Calls Tryz.prog 65 #[.int .i64 r.key, v4 2 i ge (capN ck r.access)] w fun e w' => e = .returned (.tuple #[.string (tokS r.key 2 i ge (capN ck r.access)), .nilIface]) ∧ Below w.heap.size w w') := Lib.hid fun w hT => token_write_yes r.key 2 i ge (capN ck r.access) w hT (right_two p1 p2 (capN_ok hck hru.2.2.2))
        unfold v4 at HA
        generalize tokS r.key 2 i ge (capN ck r.access) = tx at *
        generalize capN ck r.access = ce at *
        clear hq hfb p1 p2 hck hru
        go_wp2_with fail
        generalize (w1.alloc (.cells #[.int .i64 qk, .int .i64 qf, .int .i64 qg, .int .i64 qd] 104)).alloc (.cells #[.int .i64 i, .string cl, .string su, .string scp, .int .i64 ge, .int .i64 ma, .int .i64 us, .string re, .bool de] 79) = w3 at *
        have HSD := Lib.hid H3.out.drew
        have HGD := Lib.hid HG3.out.drew
        have HBD := Lib.hid (below_dr HB3.out)
        clear H3 HT3 HG3 HB3
        have HD : w3.drew.cell? ⟨vb, 0, none⟩ = some (.pointer (some ⟨sb, 0, none⟩)) ∧ w3.drew.cell? ⟨vb, 1, none⟩ = some (.int .i64 r.key) ∧ w3.drew.cell? ⟨vb, 4, none⟩ = some (.int .i64 r.access) ∧ w3.drew.cell? ⟨w1.heap.size + 1, 0, none⟩ = some (.int .i64 i) ∧ w3.drew.cell? ⟨w1.heap.size + 1, 4, none⟩ = some (.int .i64 ge) := ⟨HSD.out.five.1, HSD.out.five.2.1, HSD.out.five.2.2.2.2.1, HGD.out.cell 0, HGD.out.cell 4⟩
        go_region_held3 (fun w' => w'.cell? ⟨vb, 0, none⟩ = some (.pointer (some ⟨sb, 0, none⟩)) ∧ w'.cell? ⟨vb, 1, none⟩ = some (.int .i64 r.key) ∧ w'.cell? ⟨vb, 4, none⟩ = some (.int .i64 r.access) ∧ w'.cell? ⟨w1.heap.size + 1, 0, none⟩ = some (.int .i64 i) ∧ w'.cell? ⟨w1.heap.size + 1, 4, none⟩ = some (.int .i64 ge))
          (first
            | with_reducible assumption
            | with_reducible exact HD)
          (first
            | (go_at_call 43; (with_reducible refine (HAD.out _).mono ?_); rintro x' w2 ⟨rfl, rfl⟩)
            | (go_at_call 39; (with_reducible refine (HST.out _ HSD.out).mono ?_); rintro x' w2 ⟨a4, ac4, rfl, hr4, hb⟩
               have HS4 := Lib.hid (HSD.out.keep hb)
               have HG4 := Lib.hid (HGD.out.below' hb)
               have HB4 := Lib.hid (below_2 HBD.out hb)
               have hx2 : w2.cell? ⟨vb, 0, none⟩ = some (.pointer (some ⟨sb, 0, none⟩)) ∧ w2.cell? ⟨vb, 1, none⟩ = some (.int .i64 r.key) ∧ w2.cell? ⟨vb, 4, none⟩ = some (.int .i64 r.access) ∧ w2.cell? ⟨w1.heap.size + 1, 0, none⟩ = some (.int .i64 i) ∧ w2.cell? ⟨w1.heap.size + 1, 4, none⟩ = some (.int .i64 ge) := ⟨HS4.out.five.1, HS4.out.five.2.1, HS4.out.five.2.2.2.2.1, HG4.out.cell 0, HG4.out.cell 4⟩
               have hsc := st_clock ck nx a4 L.length ac4
               clear hr4 hb)
            | (go_at_call 65; (with_reducible refine (HA.out _ HS4.out.sx.env.tens).mono ?_); rintro x' w2 ⟨rfl, hb⟩
               have hend := below_2 HB4.out hb
               have hx5 : w2.cell? ⟨vb, 0, none⟩ = some (.pointer (some ⟨sb, 0, none⟩)) ∧ w2.cell? ⟨vb, 1, none⟩ = some (.int .i64 r.key) ∧ w2.cell? ⟨vb, 4, none⟩ = some (.int .i64 r.access) ∧ w2.cell? ⟨w1.heap.size + 1, 0, none⟩ = some (.int .i64 i) ∧ w2.cell? ⟨w1.heap.size + 1, 4, none⟩ = some (.int .i64 ge) := ⟨(HS4.out.keep hb).five.1, (HS4.out.keep hb).five.2.1, (HS4.out.keep hb).five.2.2.2.2.1, (HG4.out.below' hb).cell 0, (HG4.out.below' hb).cell 4⟩))
        go_wp2_with fail
        go_ret2
        rw [HQ.out]
        exact ⟨rfl, hend⟩
  · have e0 : errV le = .iface 35 (.int .i64 le) := errV_n hle
    have HE := Lib.hid e0
    rw [e0]
    have hq : mintV r le ⟨i, cl, su, scp, ge, ma, us, re, de⟩ qg ck = (noneS, le) := by unfold mintV; rw [if_pos hle]
    have HQ := Lib.hid hq
    clear e0 hq hle HT3 HG3 H3 hmem
    go_wp2_with fail
    go_ret2
    rw [HQ.out]
    refine ⟨?_, HB3.out⟩
    rw [HE.out]
    rfl
end
end Go.Proofs.YtckohmhhcknmaaaGreatDoor

/-
  A service: Rotate.
-/
namespace Go.Proofs.YtckohmhhcknmaaaGreatDoor
open Go.RowKit Go.Sort

theorem rotateP_eq (r : Ru) (s : St) (t request sc : ByteArray) : rotateP r s t request sc = if nameB request.data.toList = false then .say noneS 1 else rotateL r s ⟨liveE r s (tokOf r t) 1, (tokOf r t).2.2.2.1, 0, liveF s (tokOf r t)⟩ request sc := by
  unfold rotateP
  by_cases hn : nameB request.data.toList = false
  · rw [if_pos hn, if_pos hn]
  · rw [if_neg hn, if_neg hn]
    unfold rotateL
    rw [liveR_e]
    by_cases h : liveE r s (tokOf r t) 1 ≠ 0
    · rw [if_pos h, if_pos h]
    · rw [if_neg h, if_neg h]
      obtain ⟨h1, h2, h3, _⟩ := liveR_yes (r := r) (s := s) (t := t) (kind := 1) (by simpa using h)
      rw [h1, h3]
theorem texts_eq (a b : ByteArray) : (a.toList == b.toList) = decide (a.data.toList = b.data.toList) := by
  rw [ByteArray.toList_eq, ByteArray.toList_eq, Bool.eq_iff_iff]
  simp
theorem rotateL_0 (r : Ru) (s : St) (qg : Int) (f : Fam) (request sc : ByteArray) : rotateL r s ⟨0, qg, 0, f⟩ request sc = if f.gen < qg then .say noneS 2
        else if qg = f.gen - 1 ∧ request.data.toList = f.request.data.toList then .say (refreshS r f) 0
        else if qg < f.gen then .put (putEv (deadF f)) noneS 15
        else if scopeN sc.data.toList ≠ 0 then .say noneS (scopeN sc.data.toList)
        else if withB (leastL sc.data.toList) f.scope.data.toList = false then .say noneS 13
        else if f.gen = 1099511627776 then .say noneS 4
        else .put (putEv (turnF s f request sc)) (refreshS r (turnF s f request sc)) 0 := by
  unfold rotateL
  exact if_neg (fun h => h rfl)
theorem rotateL_e {r : Ru} {s : St} {qg le : Int} {f : Fam} {request sc : ByteArray} (h : le ≠ 0) : rotateL r s ⟨le, qg, 0, f⟩ request sc = .say noneS le := by
  unfold rotateL
  exact if_pos h
/-- how far a token's walk goes -/
theorem turn_ways (ge qg : Int) (a b : List UInt8) : ge < qg ∨ (¬ ge < qg ∧ qg = ge - 1 ∧ a = b) ∨ (¬ ge < qg ∧ qg = ge - 1 ∧ a ≠ b) ∨ (¬ ge < qg ∧ qg ≠ ge - 1 ∧ qg < ge) ∨ qg = ge := by
  by_cases h1 : ge < qg
  · exact .inl h1
  · by_cases h2 : qg = ge - 1
    · by_cases h3 : a = b
      · exact .inr (.inl ⟨h1, h2, h3⟩)
      · exact .inr (.inr (.inl ⟨h1, h2, h3⟩))
    · by_cases h3 : qg < ge
      · exact .inr (.inr (.inr (.inl ⟨h1, h2, h3⟩)))
      · exact .inr (.inr (.inr (.inr (by omega))))
section
variable {B vb sb db k : Nat} {r : Ru} {z : SS} {v : Value} {W : World}
set_option maxHeartbeats 4000000 in
set_option maxRecDepth 100000 in
theorem svc_rotate (h : SW B vb sb db k r z v W) (hk : k < 1000000) (t request sc : ByteArray) (ht : t.size ≤ 1000) (h2 : request.size ≤ 1000) (h3 : sc.size ≤ 1000) :
    Calls Tryz.prog 11 #[.pointer (some ⟨vb, 0, none⟩), .string t, .string request, .string sc] W (PlanS W B vb sb db k r z (rotateP r z.s t request sc)) := by
  have HN1 := Lib.hid (fun w => ev_name request w h2)
  have HLS := Lib.hid (fun w hm => scope_least_any sc w h3 hm)
  have HST := Lib.hid (fun w (h : SW B vb sb db k r z v w) => (sx_state h.sx).mono fun _ _ h => got_as h)
  have HL := Lib.hid (fun w (h : SW B vb sb db k r z v w) => svc_live h t 1 ht)
  rw [rotateP_eq]
  have hfit := h.sx.fit
  have hmem : liveE r z.s (tokOf r t) 1 = 0 → famB (liveF z.s (tokOf r t)) = true := fun hh => hfit.fams _ (liveR_yes hh).2.2.2.1
  have hck := hfit.clock
  have HPT := Lib.hid (fun w f (hf : f.short 1000) (h : SW B vb sb db k r z v w) => svc_put h hk f hf)
  have HRF := Lib.hid (fun w z' v' k f hi hg (h : SW B vb sb db k r z' v' w) => svc_refresh h f hi hg)
  have H := Lib.hid h
  unfold LiveGot v4 at HL
  unfold GotAs at HST
  clear h hfit
  rcases hn1 : nameB request.data.toList with _ | _
  · rw [if_pos rfl]
    rw [hn1] at HN1
    go_enter Tryz.func11, Tryz.ntmps11
    go_wp2_with fail
    go_at_call 12
    refine (HN1.out _).mono ?_
    rintro e w1 ⟨rfl, hb⟩
    have H1 := Lib.hid (H.out.keep hb)
    have HB1 := Lib.hid hb
    clear hb
    go_wp2_with fail
    go_ret2
    exact PlanS.say H1.out HB1.out _ (errV_n (by decide)).symm
  · rw [if_neg (by decide)]
    have HNN := Lib.hid hn1
    rw [hn1] at HN1
    clear hn1
    generalize liveE r z.s (tokOf r t) 1 = le at *
    generalize liveF z.s (tokOf r t) = f at *
    generalize tokOf r t = q at *
    obtain ⟨qe, qk, qf, qg, qd⟩ := q
    dsimp only at HL
    dsimp only
    go_enter Tryz.func11, Tryz.ntmps11
    go_wp2_with fail
    go_at_call 12
    refine (HN1.out _).mono ?_
    rintro e w1 ⟨rfl, hb⟩
    have H1 := Lib.hid (H.out.keep hb)
    have HB1 := Lib.hid hb
    clear hb HN1 H
    go_wp2_with fail
    go_at_call 44
    refine (HL.out _ H1.out).mono ?_
    rintro e w2 ⟨rfl, hb⟩
    have H2 := Lib.hid (H1.out.keep hb)
    have HB2 := Lib.hid (below_2 HB1.out hb)
    clear hb HL H1 HB1
    by_cases hle : le = 0
    · subst hle
      have e0 : errV 0 = .nilIface := errV_0
      rw [e0]
      clear e0
      have hfb := hmem rfl
      clear hmem
      have p2 := (famB_parts hfb).2.1
      have p1 := (famB_parts hfb).1
      obtain ⟨g0, g1⟩ := okN_iff.1 p2
      have HFB := Lib.hid hfb
      have HP2 := Lib.hid p2
      have HP1 := Lib.hid p1
      clear hfb p2 p1
      obtain ⟨i, cl, su, scp, ge, ma, us, re, de⟩ := f
      unfold famVal famCs
      dsimp only at *
      have hts := texts_eq request re
      rcases turn_ways ge qg request.data.toList re.data.toList with h1 | ⟨h1, h4, h5⟩ | ⟨h1, h4, h5⟩ | ⟨h1, h4, h5⟩ | h1
      · have hp : rotateL r z.s ⟨0, qg, 0, ⟨i, cl, su, scp, ge, ma, us, re, de⟩⟩ request sc = _ := (rotateL_0 r z.s qg ⟨i, cl, su, scp, ge, ma, us, re, de⟩ request sc).trans (if_pos h1)
        have HP := Lib.hid hp
        clear hp
        clear hts
        have hal := alloc2 w2 (.cells #[.int .i64 qk, .int .i64 qf, .int .i64 qg, .int .i64 qd] 104) (.cells #[.int .i64 i, .string cl, .string su, .string scp, .int .i64 ge, .int .i64 ma, .int .i64 us, .string re, .bool de] 79)
        have H3 := Lib.hid (H2.out.keep hal)
        have HB3 := Lib.hid (below_2 HB2.out hal)
        clear hal
        go_wp2_with fail
        go_ret2
        rw [HP.out]
        exact PlanS.say H3.out HB3.out _ (errV_n (by decide)).symm
      · have hp : rotateL r z.s ⟨0, qg, 0, ⟨i, cl, su, scp, ge, ma, us, re, de⟩⟩ request sc = _ := (rotateL_0 r z.s qg ⟨i, cl, su, scp, ge, ma, us, re, de⟩ request sc).trans ((if_neg h1).trans (if_pos ⟨h4, h5⟩))
        have HP := Lib.hid hp
        clear hp
        rw [decide_eq_true h5] at hts
        subst h4
        have hal := alloc2 w2 (.cells #[.int .i64 qk, .int .i64 qf, .int .i64 (ge - 1), .int .i64 qd] 104) (.cells #[.int .i64 i, .string cl, .string su, .string scp, .int .i64 ge, .int .i64 ma, .int .i64 us, .string re, .bool de] 79)
        have H3 := Lib.hid (H2.out.keep hal)
        have HB3 := Lib.hid (below_2 HB2.out hal)
        have HRF2 := Lib.hid (fun w h => HRF.out w z v k ⟨i, cl, su, scp, ge, ma, us, re, de⟩ HP1.out HP2.out h)
        unfold famVal famCs at HRF2
        dsimp only at HRF2
        generalize refreshS r ⟨i, cl, su, scp, ge, ma, us, re, de⟩ = X at *
        clear hal h5 HRF HPT
        go_wp2_with fail
        go_at_call 41
        refine (HRF2.out _ H3.out).mono ?_
        rintro e w4 ⟨rfl, hb⟩
        have H4 := Lib.hid (H3.out.keep hb)
        have HB4 := Lib.hid (below_2 HB3.out hb)
        clear hb H3 HB3
        go_wp2_with fail
        go_ret2
        rw [HP.out]
        exact PlanS.say H4.out HB4.out _ errV_0.symm
      · have hp : rotateL r z.s ⟨0, qg, 0, ⟨i, cl, su, scp, ge, ma, us, re, de⟩⟩ request sc = _ := (rotateL_0 r z.s qg ⟨i, cl, su, scp, ge, ma, us, re, de⟩ request sc).trans ((if_neg h1).trans ((if_neg (fun h => h5 h.2)).trans (if_pos (show qg < ge by omega))))
        have HP := Lib.hid hp
        clear hp
        rw [decide_eq_false h5] at hts
        subst h4
        clear h5
        have hal := alloc2 w2 (.cells #[.int .i64 qk, .int .i64 qf, .int .i64 (ge - 1), .int .i64 qd] 104) (.cells #[.int .i64 i, .string cl, .string su, .string scp, .int .i64 ge, .int .i64 ma, .int .i64 us, .string re, .bool true] 79)
        have H3 := Lib.hid (H2.out.keep hal)
        have HB3 := Lib.hid (below_2 HB2.out hal)
        have hsh : Fam.short ⟨i, cl, su, scp, ge, ma, us, re, true⟩ 1000 := fam_short (f := ⟨i, cl, su, scp, ge, ma, us, re, de⟩) HFB.out
        have HPT2 := Lib.hid (fun w h => HPT.out w _ hsh h)
        generalize hQ : addS z (putEv (deadF ⟨i, cl, su, scp, ge, ma, us, re, de⟩)) = Q at *
        have hQ2 : addS z (putEv ⟨i, cl, su, scp, ge, ma, us, re, true⟩) = Q := hQ
        rw [hQ2] at HPT2
        have HQ := Lib.hid hQ
        generalize putEv (deadF ⟨i, cl, su, scp, ge, ma, us, re, de⟩) = FE at *
        unfold famVal famCs at HPT2
        dsimp only at HPT2
        clear hal hsh hQ hQ2 H2 HB2 HFB HPT HRF HST HLS
        go_wp2_with fail
        go_at_call 40
        refine (HPT2.out _ H3.out).mono ?_
        rintro e w6 ⟨rfl, htw, v6, h6⟩
        have H6 := Lib.hid h6
        have HT6 := Lib.hid ((Two.of_below HB3.out).trans htw)
        clear htw h6 H3 HB3 HPT2
        by_cases hq : Q.2 = 0
        · have e0 : errV Q.2 = .nilIface := by rw [hq]; exact errV_0
          rw [e0]
          have HQ0 := Lib.hid hq
          clear e0 hq
          go_wp2_with fail
          go_ret2
          rw [HP.out]
          exact PlanS.good (by rw [HQ.out]; exact HQ0.out) HT6.out (by rw [HQ.out]; exact H6.out) _ (errV_n (by decide)).symm
        · have e0 : errV Q.2 = .iface 35 (.int .i64 Q.2) := errV_n hq
          have HE0 := Lib.hid e0
          rw [e0]
          have HQ0 := Lib.hid hq
          clear e0 hq
          go_wp2_with fail
          go_ret2
          rw [← HE0.out, ← HQ.out]
          rw [HP.out]
          exact PlanS.bad (by rw [HQ.out]; exact HQ0.out) HT6.out (by rw [HQ.out]; exact H6.out)
      · have hp : rotateL r z.s ⟨0, qg, 0, ⟨i, cl, su, scp, ge, ma, us, re, de⟩⟩ request sc = _ := (rotateL_0 r z.s qg ⟨i, cl, su, scp, ge, ma, us, re, de⟩ request sc).trans ((if_neg h1).trans ((if_neg (fun h => h4 h.1)).trans (if_pos h5)))
        have HP := Lib.hid hp
        clear hp
        clear hts
        have hal := alloc2 w2 (.cells #[.int .i64 qk, .int .i64 qf, .int .i64 qg, .int .i64 qd] 104) (.cells #[.int .i64 i, .string cl, .string su, .string scp, .int .i64 ge, .int .i64 ma, .int .i64 us, .string re, .bool true] 79)
        have H3 := Lib.hid (H2.out.keep hal)
        have HB3 := Lib.hid (below_2 HB2.out hal)
        have hsh : Fam.short ⟨i, cl, su, scp, ge, ma, us, re, true⟩ 1000 := fam_short (f := ⟨i, cl, su, scp, ge, ma, us, re, de⟩) HFB.out
        have HPT2 := Lib.hid (fun w h => HPT.out w _ hsh h)
        generalize hQ : addS z (putEv (deadF ⟨i, cl, su, scp, ge, ma, us, re, de⟩)) = Q at *
        have hQ2 : addS z (putEv ⟨i, cl, su, scp, ge, ma, us, re, true⟩) = Q := hQ
        rw [hQ2] at HPT2
        have HQ := Lib.hid hQ
        generalize putEv (deadF ⟨i, cl, su, scp, ge, ma, us, re, de⟩) = FE at *
        unfold famVal famCs at HPT2
        dsimp only at HPT2
        clear hal hsh hQ hQ2 H2 HB2 HFB HPT HRF HST HLS
        go_wp2_with fail
        go_at_call 40
        refine (HPT2.out _ H3.out).mono ?_
        rintro e w6 ⟨rfl, htw, v6, h6⟩
        have H6 := Lib.hid h6
        have HT6 := Lib.hid ((Two.of_below HB3.out).trans htw)
        clear htw h6 H3 HB3 HPT2
        by_cases hq : Q.2 = 0
        · have e0 : errV Q.2 = .nilIface := by rw [hq]; exact errV_0
          rw [e0]
          have HQ0 := Lib.hid hq
          clear e0 hq
          go_wp2_with fail
          go_ret2
          rw [HP.out]
          exact PlanS.good (by rw [HQ.out]; exact HQ0.out) HT6.out (by rw [HQ.out]; exact H6.out) _ (errV_n (by decide)).symm
        · have e0 : errV Q.2 = .iface 35 (.int .i64 Q.2) := errV_n hq
          have HE0 := Lib.hid e0
          rw [e0]
          have HQ0 := Lib.hid hq
          clear e0 hq
          go_wp2_with fail
          go_ret2
          rw [← HE0.out, ← HQ.out]
          rw [HP.out]
          exact PlanS.bad (by rw [HQ.out]; exact HQ0.out) HT6.out (by rw [HQ.out]; exact H6.out)
      · subst h1
        have n1 : ¬ qg < qg := by omega
        have n2 : ¬ (qg = qg - 1 ∧ request.data.toList = re.data.toList) := fun h => by have := h.1; omega
        have hp : rotateL r z.s ⟨0, qg, 0, ⟨i, cl, su, scp, qg, ma, us, re, de⟩⟩ request sc = _ := (rotateL_0 r z.s qg ⟨i, cl, su, scp, qg, ma, us, re, de⟩ request sc).trans ((if_neg n1).trans ((if_neg n2).trans (if_neg n1)))
        have HP := Lib.hid hp
        clear hp
        have h4 : qg ≠ qg - 1 := by omega
        clear hts n1 n2
        have hal := alloc2 w2 (.cells #[.int .i64 qk, .int .i64 qf, .int .i64 qg, .int .i64 qd] 104) (.cells #[.int .i64 i, .string cl, .string su, .string scp, .int .i64 qg, .int .i64 ma, .int .i64 us, .string re, .bool de] 79)
        have H3 := Lib.hid (H2.out.keep hal)
        have HB3 := Lib.hid (below_2 HB2.out hal)
        have hg : Blk ((w2.alloc (.cells #[.int .i64 qk, .int .i64 qf, .int .i64 qg, .int .i64 qd] 104)).alloc (.cells #[.int .i64 i, .string cl, .string su, .string scp, .int .i64 qg, .int .i64 ma, .int .i64 us, .string re, .bool de] 79)) (w2.heap.size + 1) 79 (famCs ⟨i, cl, su, scp, qg, ma, us, re, de⟩) := by
          have := Blk.new (w2.alloc (.cells #[.int .i64 qk, .int .i64 qf, .int .i64 qg, .int .i64 qd] 104)) 79 (famCs ⟨i, cl, su, scp, qg, ma, us, re, de⟩)
          rw [show (w2.alloc (.cells #[.int .i64 qk, .int .i64 qf, .int .i64 qg, .int .i64 qd] 104)).heap.size = w2.heap.size + 1 by simp] at this
          exact this
        have HG3 := Lib.hid hg
        have HD3 := Lib.hid hal
        clear hal hg
        go_wp2_with fail
        go_at_call 38
        refine (HLS.out _ H3.out.tm.2.1).mono ?_
        rintro e w3 ⟨rfl, hb⟩
        have H4 := Lib.hid (H3.out.keep hb)
        have HB4 := Lib.hid (below_2 HB3.out hb)
        have HG4 := Lib.hid (HG3.out.below' hb)
        have HD4 := Lib.hid (below_2 HD3.out hb)
        clear hb HLS H3 HB3 HG3 HD3
        by_cases hsn : scopeN sc.data.toList = 0
        · have e0 : errV (scopeN sc.data.toList) = .nilIface := by rw [hsn]; exact errV_0
          rw [e0]
          have hp := HP.out.trans (if_neg (fun h => h hsn))
          have HSN := Lib.hid hsn
          clear e0 hsn HP
          have HP := Lib.hid hp
          clear hp
          have hsb := fam_short HFB.out
          have HWI := Lib.hid (fun w (h : SW B vb sb db k r z v w) => scope_within (txt (leastL sc.data.toList)) scp w (by rw [txt_size_]; have := leastL_len sc.data.toList; omega) hsb.2.2.1 h.tm.2.1)
          obtain ⟨y0, y1, y2, y3, y4, y5, y6, y7, y8⟩ := fam_cells HG4.out
          have hgz := HG4.out.frozen
          clear hsb
          go_wp2_with fail
          go_at_call 45
          refine (HWI.out _ H4.out).mono ?_
          rintro e w4 ⟨rfl, hb⟩
          have H5 := Lib.hid (H4.out.keep hb)
          have HB5 := Lib.hid (below_2 HB4.out hb)
          have HG5 := Lib.hid (HG4.out.below' hb)
          have HD5 := Lib.hid (below_2 HD4.out hb)
          clear hb H4 HB4 HG4 HD4 HWI y0 y1 y2 y3 y4 y5 y6 y7 y8 hgz
          have etl : (txt (leastL sc.data.toList)).data.toList = leastL sc.data.toList := rfl
          rw [etl]
          clear etl
          rcases hwb : withB (leastL sc.data.toList) scp.data.toList with _ | _
          · have hp := HP.out.trans (if_pos hwb)
            clear HP
            have HP := Lib.hid hp
            clear hp hwb
            go_wp2_with fail
            go_ret2
            rw [HP.out]
            exact PlanS.say H5.out HB5.out _ (errV_n (by decide)).symm
          · have hp := HP.out.trans (if_neg (show ¬ withB (leastL sc.data.toList) scp.data.toList = false by rw [hwb]; decide))
            clear HP
            obtain ⟨y0, y1, y2, y3, y4, y5, y6, y7, y8⟩ := fam_cells HG5.out
            have hgz := HG5.out.frozen
            by_cases hmx : qg = 1099511627776
            · have HP := Lib.hid (hp.trans (if_pos hmx))
              clear hp hwb
              subst hmx
              go_wp2_with fail
              go_ret2
              rw [HP.out]
              exact PlanS.say H5.out HB5.out _ (errV_n (by decide)).symm
            · have HP := Lib.hid (hp.trans (if_neg hmx))
              clear hp hwb
              have hd6 := HD5.out.setCell (p := ⟨w2.heap.size + 1, 4, none⟩) (Nat.le_succ _) (.int .i64 (qg + 1))
              have HD6 := Lib.hid hd6
              have H6 := Lib.hid (H2.out.keep hd6)
              have HG6 := Lib.hid (HG5.out.put_ 4 (.int .i64 (qg + 1)) (cs' := famCs ⟨i, cl, su, scp, qg + 1, ma, us, re, de⟩) rfl)
              have HBW := Lib.hid (fun w (h : Below w2.heap.size w2 w) => below_2 HB2.out h)
              obtain ⟨c0, c1, c2, c3, c4, hlt⟩ := H5.out.five
              have hq1 : qg + 1 ≤ 1099511627776 := by omega
              clear hd6
              go_wp2_with fail
              go_at_call 39
              refine (HST.out _ H6.out).mono ?_
              rintro e w5 ⟨a5, ac5, rfl, hr5, hb⟩
              have HD7 := Lib.hid (below_2 HD6.out hb)
              have HG7 := Lib.hid (HG6.out.below' hb)
              have hsc := st_clock z.s.clock z.s.next a5 z.s.fams.length ac5
              clear hr5 hb HD6 H6 HG6 HD5 HG5 H5 HB5 y0 y1 y2 y3 y4 y5 y6 y7 y8 hgz c0 c1 c2 c3 c4 hlt
              obtain ⟨y0, y1, y2, y3, y4, y5, y6, y7, y8⟩ := fam_cells HG7.out
              have hgz := HG7.out.frozen
              obtain ⟨c0, c1, c2, c3, c4, hlt⟩ := (H2.out.keep HD7.out).five
              have hd8 := ((HD7.out.setCell (p := ⟨w2.heap.size + 1, 3, none⟩) (Nat.le_succ _) (.string (txt (leastL sc.data.toList)))).setCell (p := ⟨w2.heap.size + 1, 7, none⟩) (Nat.le_succ _) (.string request)).setCell (p := ⟨w2.heap.size + 1, 6, none⟩) (Nat.le_succ _) (.int .i64 z.s.clock)
              have H8 := Lib.hid (H2.out.keep hd8)
              have HB8 := Lib.hid (HBW.out _ hd8)
              have k3 := HG7.out.put_ 3 (.string (txt (leastL sc.data.toList))) (cs' := famCs ⟨i, cl, su, txt (leastL sc.data.toList), qg + 1, ma, us, re, de⟩) rfl
              have k7 := k3.put_ 7 (.string request) (cs' := famCs ⟨i, cl, su, txt (leastL sc.data.toList), qg + 1, ma, us, request, de⟩) rfl
              have HG8 := Lib.hid (k7.put_ 6 (.int .i64 z.s.clock) (cs' := famCs ⟨i, cl, su, txt (leastL sc.data.toList), qg + 1, ma, z.s.clock, request, de⟩) rfl)
              have hs0 : Fam.short ⟨i, cl, su, scp, qg, ma, us, re, de⟩ 1000 := fam_short HFB.out
              have hlst := leastL_len sc.data.toList
              have hrq := nameB_len HNN.out
              have hsh : Fam.short ⟨i, cl, su, txt (leastL sc.data.toList), qg + 1, ma, z.s.clock, request, de⟩ 1000 := by
                unfold Fam.short at hs0 ⊢
                dsimp only at hs0 ⊢
                rw [txt_size_]
                have e1 : request.size = request.data.toList.length := (size_data request).symm
                exact ⟨hs0.1, hs0.2.1, by omega, by omega⟩
              have HPT2 := Lib.hid (fun w h => HPT.out w _ hsh h)
              have HRF2 := Lib.hid (fun w z' v' k (h : SW B vb sb db k r z' v' w) => HRF.out w z' v' k ⟨i, cl, su, txt (leastL sc.data.toList), qg + 1, ma, z.s.clock, request, de⟩ HP1.out (okN_iff.2 ⟨show 0 ≤ qg + 1 by omega, hq1⟩) h)
              generalize hQ : addS z (putEv (turnF z.s ⟨i, cl, su, scp, qg, ma, us, re, de⟩ request sc)) = Q at *
              have hQ2 : addS z (putEv ⟨i, cl, su, txt (leastL sc.data.toList), qg + 1, ma, z.s.clock, request, de⟩) = Q := hQ
              rw [hQ2] at HPT2
              have HQ := Lib.hid hQ
              generalize hX : refreshS r (turnF z.s ⟨i, cl, su, scp, qg, ma, us, re, de⟩ request sc) = X at *
              have hX2 : refreshS r ⟨i, cl, su, txt (leastL sc.data.toList), qg + 1, ma, z.s.clock, request, de⟩ = X := hX
              rw [hX2] at HRF2
              generalize putEv (turnF z.s ⟨i, cl, su, scp, qg, ma, us, re, de⟩ request sc) = FE at *
              unfold famVal famCs at HPT2 HRF2
              dsimp only at HPT2 HRF2
              clear hd8 k3 k7 hs0 hlst hrq hsh hQ hQ2 hX hX2 HPT HRF HD7 HG7 HBW H2 HB2 HST HFB HP1 HP2 HNN
              go_wp2_with fail
              go_at_call 40
              refine (HPT2.out _ H8.out).mono ?_
              rintro e w6 ⟨rfl, htw, v6, h6⟩
              have H9 := Lib.hid h6
              have HT9 := Lib.hid ((Two.of_below HB8.out).trans htw)
              have HF9 := Lib.hid (HG8.out.two htw (H8.out.sx.apart HG8.out (by decide) (by decide)).1 (H8.out.sx.apart HG8.out (by decide) (by decide)).2)
              clear htw h6 HG8 H8 HB8 HPT2
              by_cases hq : Q.2 = 0
              · have e0 : errV Q.2 = .nilIface := by rw [hq]; exact errV_0
                rw [e0]
                have HQ0 := Lib.hid hq
                clear e0 hq y0 y1 y2 y3 y4 y5 y6 y7 y8 hgz c0 c1 c2 c3 c4 hlt
                obtain ⟨f0, f1, f2, f3, f4, f5, f6, f7, f8⟩ := fam_cells HF9.out
                go_wp2_with fail
                go_at_call 41
                refine (HRF2.out _ _ _ _ H9.out).mono ?_
                rintro e w7 ⟨rfl, hb⟩
                have H10 := Lib.hid (H9.out.keep hb)
                have HT10 := Lib.hid (HT9.out.trans (Two.of_below hb))
                clear hb H9 HT9 f0 f1 f2 f3 f4 f5 f6 f7 f8 HF9
                go_wp2_with fail
                go_ret2
                rw [HP.out]
                exact PlanS.good (by rw [HQ.out]; exact HQ0.out) HT10.out (by rw [HQ.out]; exact H10.out) _ errV_0.symm
              · have e0 : errV Q.2 = .iface 35 (.int .i64 Q.2) := errV_n hq
                have HE0 := Lib.hid e0
                rw [e0]
                have HQ0 := Lib.hid hq
                clear e0 hq y0 y1 y2 y3 y4 y5 y6 y7 y8 hgz c0 c1 c2 c3 c4 hlt
                go_wp2_with fail
                go_ret2
                rw [HP.out, ← HE0.out, ← HQ.out]
                exact PlanS.bad (by rw [HQ.out]; exact HQ0.out) HT9.out (by rw [HQ.out]; exact H9.out)
        · have e0 : errV (scopeN sc.data.toList) = .iface 35 (.int .i64 (scopeN sc.data.toList)) := errV_n hsn
          have HE0 := Lib.hid e0
          rw [e0]
          have hp := HP.out.trans (if_pos hsn)
          clear e0 hsn HP
          have HP := Lib.hid hp
          clear hp
          go_wp2_with fail
          go_ret2
          rw [HP.out]
          exact PlanS.say H4.out HB4.out _ HE0.out.symm
    · have e0 : errV le = .iface 35 (.int .i64 le) := errV_n hle
      have HE := Lib.hid e0
      rw [e0]
      have HP := Lib.hid (rotateL_e (r := r) (s := z.s) (qg := qg) (f := f) (request := request) (sc := sc) hle)
      obtain ⟨i, cl, su, scp, ge, ma, us, re, de⟩ := f
      unfold famVal famCs
      dsimp only at *
      have hal := alloc2 w2 (.cells #[.int .i64 qk, .int .i64 qf, .int .i64 qg, .int .i64 qd] 104) (.cells #[.int .i64 i, .string cl, .string su, .string scp, .int .i64 ge, .int .i64 ma, .int .i64 us, .string re, .bool de] 79)
      have H3 := Lib.hid (H2.out.keep hal)
      have HB3 := Lib.hid (below_2 HB2.out hal)
      clear e0 hle hal hmem
      go_wp2_with fail
      go_ret2
      rw [HP.out]
      exact PlanS.say H3.out HB3.out _ HE.out.symm
end
end Go.Proofs.YtckohmhhcknmaaaGreatDoor

/-
  A service: Sweep.
-/
namespace Go.Proofs.YtckohmhhcknmaaaGreatDoor
open Go.RowKit Go.Sort

def PlanI (W : World) (B vb sb db k : Nat) (r : Ru) (z : SS) (p : Plan Int) (e : Ending) (w' : World) : Prop :=
  e = .returned (.tuple #[.int .i64 (doPlan 0 z p).2.1, errV (doPlan 0 z p).2.2]) ∧ Two sb db W w' ∧ ∃ v', SW B vb sb db (k + 1) r (doPlan 0 z p).1 v' w'
theorem PlanI.say {W w : World} {B vb sb db k : Nat} {r : Ru} {z : SS} {v : Value} {t : Int} {c : Int} (h : SW B vb sb db k r z v w) (hb : Below W.heap.size W w) (u : Value) (hu : u = errV c) : PlanI W B vb sb db k r z (.say t c) (.returned (.tuple #[.int .i64 t, u])) w :=
  ⟨by rw [hu]; rfl, Two.of_below hb, v, h.later⟩
theorem PlanI.bad {W w : World} {B vb sb db k : Nat} {r : Ru} {z : SS} {v' : Value} {ev : Ev} {t : Int} {c : Int} (hc : (addS z ev).2 ≠ 0) (ht : Two sb db W w) (h : SW B vb sb db (k + 1) r (addS z ev).1 v' w) : PlanI W B vb sb db k r z (.put ev t c) (.returned (.tuple #[.int .i64 0, errV (addS z ev).2])) w := by
  have e : doPlan 0 z (.put ev t c) = ((addS z ev).1, 0, (addS z ev).2) := if_neg hc
  unfold PlanI
  rw [e]
  exact ⟨rfl, ht, v', h⟩
theorem PlanI.good {W w : World} {B vb sb db k : Nat} {r : Ru} {z : SS} {v' : Value} {ev : Ev} {t : Int} {c : Int} (hc : (addS z ev).2 = 0) (ht : Two sb db W w) (h : SW B vb sb db (k + 1) r (addS z ev).1 v' w) (u : Value) (hu : u = errV c) : PlanI W B vb sb db k r z (.put ev t c) (.returned (.tuple #[.int .i64 t, u])) w := by
  have e : doPlan 0 z (.put ev t c) = ((addS z ev).1, t, c) := if_pos hc
  unfold PlanI
  rw [e, hu]
  exact ⟨rfl, ht, v', h⟩
theorem find_past {p : Fam → Bool} {L : List Fam} {k : Nat} (h : ∀ j f, j < k → L[j]? = some f → p f = false) : L.find? p = (L.drop k).find? p := by
  induction k generalizing L with
  | zero => rfl
  | succ k ih =>
    cases L with
    | nil => rfl
    | cons g L =>
      rw [List.find?_cons, h 0 g (Nat.succ_pos _) rfl, List.drop_succ_cons]
      exact ih fun j f hj hf => h (j + 1) f (Nat.succ_lt_succ hj) (by simpa using hf)
theorem find_at {p : Fam → Bool} {L : List Fam} {k : Nat} {f : Fam} (h : ∀ j f, j < k → L[j]? = some f → p f = false) (hf : L[k]? = some f) (hp : p f = true) : L.find? p = some f := by
  have hlt := (List.getElem?_eq_some_iff.1 hf).1
  rw [find_past h, List.drop_eq_getElem_cons hlt, List.find?_cons, (List.getElem?_eq_some_iff.1 hf).2, hp]
theorem find_end_none {p : Fam → Bool} {L : List Fam} (h : ∀ j f, j < L.length → L[j]? = some f → p f = false) : L.find? p = none := by
  rw [find_past h, List.drop_length]
  rfl
def SwRel (W : World) (B vb sb db k : Nat) (r : Ru) (z : SS) (v : Value) (cb : Nat) (a1 : Option Addr) (ac : Nat) (i : Value) (w : World) : Prop :=
  ∃ j : Nat, j ≤ z.s.fams.length ∧ i = .int .i64 j ∧ Below W.heap.size W w ∧ SW B vb sb db k r z v w ∧ FRow w W.heap.size (.slice a1 z.s.fams.length ac) z.s.fams ∧ w.cell? ⟨cb, 0, none⟩ = some (.int .i64 z.s.clock) ∧
    ∀ m f, m < j → z.s.fams[m]? = some f → (f.dead || oldB r z.s.clock f) = false
section
variable {B vb sb db k : Nat} {r : Ru} {z : SS} {v : Value} {W : World}
set_option maxHeartbeats 4000000 in
set_option maxRecDepth 100000 in
theorem svc_sweep (h : SW B vb sb db k r z v W) (hk : k < 1000000) :
    Calls Tryz.prog 32 #[.pointer (some ⟨vb, 0, none⟩)] W (PlanI W B vb sb db k r z (sweepP r z.s)) := by
  have HST := Lib.hid (fun w (h : SW B vb sb db k r z v w) => (sx_state h.sx).mono fun _ _ h => got_as h)
  have hfit := h.sx.fit
  have hru := ruB_parts h.right
  have hlen := hfit.len
  have HA : Hid (∀ w id, SX B sb db k z v w → Calls Tryz.prog 42 #[.pointer (some ⟨sb, 0, none⟩), evVal (dropEv id)] w (DoneX w B sb db k (addS z (dropEv id)))) := Lib.hid fun w id h => sx_add h hk _ (by show Fam.zero.short 1000; unfold Fam.short Fam.zero; dsimp only; refine ⟨by decide, by decide, by decide, by decide⟩)
  obtain ⟨c0, c1, c2, c3, c4, hlt⟩ := h.five
  have H := Lib.hid h
  clear h
  go_enter Tryz.func32, Tryz.ntmps32
  go_wp2_with fail
  go_at_call 39
  refine (HST.out _ H.out).mono ?_
  rintro e w1 ⟨a1, ac, rfl, hr, hb⟩
  have H1 := Lib.hid (H.out.keep hb)
  have HB1 := Lib.hid hb
  have HR1 := Lib.hid hr
  clear hr hb c0 c1 c2 c3 c4 hlt H HST
  have hal := (Below.refl w1.heap.size w1).alloc (Nat.le_refl _) (.cells #[.int .i64 z.s.clock, .int .i64 z.s.next, .slice a1 z.s.fams.length ac] 39)
  have H2 := Lib.hid (H1.out.keep hal)
  have HB2 := Lib.hid (below_2 HB1.out hal)
  have HR2 := Lib.hid (HR1.out.below hal)
  have HC2 := Lib.hid ((Blk.new w1 39 #[.int .i64 z.s.clock, .int .i64 z.s.next, .slice a1 z.s.fams.length ac]).cell 0)
  have HSZ := Lib.hid HB1.out.size
  clear hal HB1 H1 HR1
  go_wp2_with fail
  generalize w1.alloc (.cells #[.int .i64 z.s.clock, .int .i64 z.s.next, .slice a1 z.s.fams.length ac] 39) = w2 at *
  generalize w1.heap.size = cb at *
  go_loopw [16] (fun i wr => SwRel W B vb sb db k r z v cb a1 ac i wr) (fun i _ => z.s.fams.length - (intOf i).toNat)
  case atStart => exact ⟨0, Nat.zero_le _, rfl, HB2.out, H2.out, HR2.out, HC2.out, fun j f hj => absurd hj (Nat.not_lt_zero _)⟩
  case round =>
    obtain ⟨j, hj, rfl, hb, hs, hr, hc, hno⟩ := hrel
    have HB := Lib.hid hb
    have HS := Lib.hid hs
    have HR3 := Lib.hid hr
    have HNO := Lib.hid hno
    have HCK := Lib.hid hc
    clear hb hs hr hc hno HR2 HC2 H2 HB2
    by_cases hlt : j < z.s.fams.length
    · obtain ⟨g, rfl, _, ra⟩ := HR3.out.lit hlt
      obtain ⟨f, hf⟩ : ∃ f, z.s.fams[j]? = some f := ⟨_, List.getElem?_eq_getElem hlt⟩
      have HF := Lib.hid hf
      obtain ⟨_, _, gm, gu, _⟩ := famB_parts (hfit.fams f (List.mem_of_getElem? hf))
      have HADU := Lib.hid (fun w => svc_add f.used r.idle w (by have := okN_iff.1 gu; omega) (by have := okN_iff.1 hru.2.1; omega))
      have HADM := Lib.hid (fun w => svc_add f.made r.life w (by have := okN_iff.1 gm; omega) (by have := okN_iff.1 hru.2.2.1; omega))
      have hold : (f.dead || oldB r z.s.clock f) = (f.dead || (decide (capN f.used r.idle < z.s.clock) || decide (capN f.made r.life < z.s.clock))) := rfl
      have HOL := Lib.hid hold
      obtain ⟨i, cl, su, scp, ge, ma, us, re, de⟩ := f
      obtain ⟨e0, e1, e2, e3, e4, e5, e6, e7, e8⟩ := ra.nine hf
      dsimp only at HADU HADM HOL
      have h0 : (0 : Int) ≤ (j : Int) := by omega
      have h1 : (j : Int) < (z.s.fams.length : Int) := by omega
      clear hf ra gm gu hold
      go_wp2_with fail
      have hal := (Below.refl wr.heap.size wr).alloc (Nat.le_refl _) (.cells #[.int .i64 i, .string cl, .string su, .string scp, .int .i64 ge, .int .i64 ma, .int .i64 us, .string re, .bool de] 79)
      have hg := Blk.new wr 79 #[.int .i64 i, .string cl, .string su, .string scp, .int .i64 ge, .int .i64 ma, .int .i64 us, .string re, .bool de]
      have HG4 := Lib.hid hg
      have HS4 := Lib.hid (HS.out.keep hal)
      have HB4 := Lib.hid (below_2 HB.out hal)
      have HR4 := Lib.hid (HR3.out.below hal)
      have hcl := World.block_lt_of_cell? wr _ HCK.out
      have HC4 := Lib.hid ((hal.cell (p := ⟨cb, 0, none⟩) hcl).trans HCK.out)
      have HA2 : Hid (∀ w, SX B sb db k z v w → Calls Tryz.prog 42 #[.pointer (some ⟨sb, 0, none⟩), .agg #[.int .i64 2, .int .i64 0, .string ⟨#[]⟩, .string ⟨#[]⟩, .string ⟨#[]⟩, .int .i64 0, .int .i64 0, .int .i64 0, .string ⟨#[]⟩, .bool false, .int .i64 i, .int .i64 0]] w (DoneX w B sb db k (addS z (dropEv i)))) := Lib.hid fun w h => HA.out w i h
      clear hal hg hcl HB HS HR3 HCK HA e0 e1 e2 e3 e4 e5 e6 e7 e8
      generalize wr.alloc (.cells #[.int .i64 i, .string cl, .string su, .string scp, .int .i64 ge, .int .i64 ma, .int .i64 us, .string re, .bool de] 79) = w4 at *
      generalize wr.heap.size = fb at *
      obtain ⟨d0, d1, d2, d3, d4, d5, d6, d7, d8⟩ := fam_cells HG4.out
      obtain ⟨c0, c1, c2, c3, c4, hvb⟩ := HS4.out.five
      have hck := HC4.out
      cases de
      · by_cases hu : capN us r.idle < z.s.clock
        · have hu' : decide (capN us r.idle < z.s.clock) = true := decide_eq_true hu
          have hp : sweepP r z.s = .put (dropEv i) i 0 := by
            unfold sweepP sweepF
            rw [find_at HNO.out HF.out (by rw [HOL.out]; simp [hu])]
          have HP := Lib.hid hp
          generalize hQ : addS z (dropEv i) = Q at *
          have HQ := Lib.hid hQ
          clear hp hQ HNO HF HR4 HOL
          go_wp2_with fail
          go_quiet ((first
            | (go_at_call 43; exact Calls.quiet_of_same ((HADU.out _).mono fun _ _ h => ⟨h.1, h.2.symm⟩))
            | (go_at_call 43; exact Calls.quiet_of_same ((HADM.out _).mono fun _ _ h => ⟨h.1, h.2.symm⟩))))
          go_wp2_with fail
          have hbd : Below w4.heap.size w4 (w4.drewN nq).drew := below_dr (below_drewN (Below.refl w4.heap.size w4) nq)
          have HSD := Lib.hid (HS4.out.keep hbd)
          have HGD := Lib.hid (HG4.out.below' hbd)
          have HBD := Lib.hid (below_2 HB4.out hbd)
          clear hbd HS4 HG4 HB4 d0 d1 d2 d3 d4 d5 d6 d7 d8 c0 c1 c2 c3 c4 hvb HC4
          generalize w4.drewN nq = w5 at *
          have HD : w5.drew.cell? ⟨vb, 0, none⟩ = some (.pointer (some ⟨sb, 0, none⟩)) ∧ w5.drew.cell? ⟨fb, 0, none⟩ = some (.int .i64 i) := ⟨HSD.out.five.1, HGD.out.cell 0⟩
          go_region_held3 (fun w' => w'.cell? ⟨vb, 0, none⟩ = some (.pointer (some ⟨sb, 0, none⟩)) ∧ w'.cell? ⟨fb, 0, none⟩ = some (.int .i64 i))
            (first
              | with_reducible assumption
              | with_reducible exact HD)
            (first
              | (go_at_call 42; (with_reducible refine (HA2.out _ HSD.out.sx).mono ?_); rintro x' w6 ⟨rfl, htw, v2, hsx⟩
                 have hend : PutX W B vb sb db k r Q (.returned (errV Q.2)) w6 := ⟨rfl, (Two.of_below HBD.out).trans htw, v2, HSD.out.two htw hsx⟩
                 have hx2 : w6.cell? ⟨vb, 0, none⟩ = some (.pointer (some ⟨sb, 0, none⟩)) ∧ w6.cell? ⟨fb, 0, none⟩ = some (.int .i64 i) := ⟨(HSD.out.two htw hsx).five.1, (HGD.out.two htw (HSD.out.sx.apart HGD.out (by decide) (by decide)).1 (HSD.out.sx.apart HGD.out (by decide) (by decide)).2).cell 0⟩))
          obtain ⟨-, htw, v6, h6⟩ := hend
          have H6 := Lib.hid h6
          have HT6 := Lib.hid htw
          clear h6 htw
          by_cases hq : Q.2 = 0
          · have e0 : errV Q.2 = .nilIface := by rw [hq]; exact errV_0
            rw [e0]
            have HQ0 := Lib.hid hq
            clear e0 hq
            go_wp2_with fail
            go_ret2
            rw [HP.out]
            exact PlanI.good (by rw [HQ.out]; exact HQ0.out) HT6.out (by rw [HQ.out]; exact H6.out) _ errV_0.symm
          · have e0 : errV Q.2 = .iface 35 (.int .i64 Q.2) := errV_n hq
            have HE0 := Lib.hid e0
            rw [e0]
            have HQ0 := Lib.hid hq
            clear e0 hq
            go_wp2_with fail
            go_ret2
            rw [HP.out, ← HE0.out, ← HQ.out]
            exact PlanI.bad (by rw [HQ.out]; exact HQ0.out) HT6.out (by rw [HQ.out]; exact H6.out)
        · have hu' : decide (capN us r.idle < z.s.clock) = false := decide_eq_false hu
          by_cases hm : capN ma r.life < z.s.clock
          · have hm' : decide (capN ma r.life < z.s.clock) = true := decide_eq_true hm
            have hp : sweepP r z.s = .put (dropEv i) i 0 := by
              unfold sweepP sweepF
              rw [find_at HNO.out HF.out (by rw [HOL.out]; simp [hm])]
            have HP := Lib.hid hp
            generalize hQ : addS z (dropEv i) = Q at *
            have HQ := Lib.hid hQ
            clear hp hQ HNO HF HR4 HOL
            go_wp2_with fail
            go_quiet ((first
              | (go_at_call 43; exact Calls.quiet_of_same ((HADU.out _).mono fun _ _ h => ⟨h.1, h.2.symm⟩))
              | (go_at_call 43; exact Calls.quiet_of_same ((HADM.out _).mono fun _ _ h => ⟨h.1, h.2.symm⟩))))
            go_wp2_with fail
            have hbd : Below w4.heap.size w4 (w4.drewN nq).drew := below_dr (below_drewN (Below.refl w4.heap.size w4) nq)
            have HSD := Lib.hid (HS4.out.keep hbd)
            have HGD := Lib.hid (HG4.out.below' hbd)
            have HBD := Lib.hid (below_2 HB4.out hbd)
            clear hbd HS4 HG4 HB4 d0 d1 d2 d3 d4 d5 d6 d7 d8 c0 c1 c2 c3 c4 hvb HC4
            generalize w4.drewN nq = w5 at *
            have HD : w5.drew.cell? ⟨vb, 0, none⟩ = some (.pointer (some ⟨sb, 0, none⟩)) ∧ w5.drew.cell? ⟨fb, 0, none⟩ = some (.int .i64 i) := ⟨HSD.out.five.1, HGD.out.cell 0⟩
            go_region_held3 (fun w' => w'.cell? ⟨vb, 0, none⟩ = some (.pointer (some ⟨sb, 0, none⟩)) ∧ w'.cell? ⟨fb, 0, none⟩ = some (.int .i64 i))
              (first
                | with_reducible assumption
                | with_reducible exact HD)
              (first
                | (go_at_call 42; (with_reducible refine (HA2.out _ HSD.out.sx).mono ?_); rintro x' w6 ⟨rfl, htw, v2, hsx⟩
                   have hend : PutX W B vb sb db k r Q (.returned (errV Q.2)) w6 := ⟨rfl, (Two.of_below HBD.out).trans htw, v2, HSD.out.two htw hsx⟩
                   have hx2 : w6.cell? ⟨vb, 0, none⟩ = some (.pointer (some ⟨sb, 0, none⟩)) ∧ w6.cell? ⟨fb, 0, none⟩ = some (.int .i64 i) := ⟨(HSD.out.two htw hsx).five.1, (HGD.out.two htw (HSD.out.sx.apart HGD.out (by decide) (by decide)).1 (HSD.out.sx.apart HGD.out (by decide) (by decide)).2).cell 0⟩))
            obtain ⟨-, htw, v6, h6⟩ := hend
            have H6 := Lib.hid h6
            have HT6 := Lib.hid htw
            clear h6 htw
            by_cases hq : Q.2 = 0
            · have e0 : errV Q.2 = .nilIface := by rw [hq]; exact errV_0
              rw [e0]
              have HQ0 := Lib.hid hq
              clear e0 hq
              go_wp2_with fail
              go_ret2
              rw [HP.out]
              exact PlanI.good (by rw [HQ.out]; exact HQ0.out) HT6.out (by rw [HQ.out]; exact H6.out) _ errV_0.symm
            · have e0 : errV Q.2 = .iface 35 (.int .i64 Q.2) := errV_n hq
              have HE0 := Lib.hid e0
              rw [e0]
              have HQ0 := Lib.hid hq
              clear e0 hq
              go_wp2_with fail
              go_ret2
              rw [HP.out, ← HE0.out, ← HQ.out]
              exact PlanI.bad (by rw [HQ.out]; exact HQ0.out) HT6.out (by rw [HQ.out]; exact H6.out)
          · have hm' : decide (capN ma r.life < z.s.clock) = false := decide_eq_false hm
            have hno : (false || oldB r z.s.clock ⟨i, cl, su, scp, ge, ma, us, re, false⟩) = false := by rw [HOL.out, hu', hm']; rfl
            have HNN := Lib.hid hno
            clear hno
            go_wp2_with fail
            go_quiet ((first
              | (go_at_call 43; exact Calls.quiet_of_same ((HADU.out _).mono fun _ _ h => ⟨h.1, h.2.symm⟩))
              | (go_at_call 43; exact Calls.quiet_of_same ((HADM.out _).mono fun _ _ h => ⟨h.1, h.2.symm⟩))))
            go_wp2_with fail
            have hbd : Below w4.heap.size w4 (w4.drewN nq) := below_drewN (Below.refl w4.heap.size w4) nq
            go_roundw
            case rel => exact ⟨j + 1, by omega, by go_num, below_2 HB4.out hbd, HS4.out.keep hbd, HR4.out.below hbd, (hbd.cell (p := ⟨cb, 0, none⟩) (World.block_lt_of_cell? w4 _ HC4.out)).trans HC4.out, fun m f hm hf => by
              by_cases e : m = j
              · subst e
                rw [HF.out] at hf
                cases hf
                exact HNN.out
              · exact HNO.out m f (by omega) hf⟩
            case measure => simp [intOf]; omega
      · have hp : sweepP r z.s = .put (dropEv i) i 0 := by
          unfold sweepP sweepF
          rw [find_at HNO.out HF.out (rfl)]
        have HP := Lib.hid hp
        generalize hQ : addS z (dropEv i) = Q at *
        have HQ := Lib.hid hQ
        clear hp hQ HNO HF HR4 HOL
        go_wp2_with fail
        go_quiet ((first
          | (go_at_call 43; exact Calls.quiet_of_same ((HADU.out _).mono fun _ _ h => ⟨h.1, h.2.symm⟩))
          | (go_at_call 43; exact Calls.quiet_of_same ((HADM.out _).mono fun _ _ h => ⟨h.1, h.2.symm⟩))))
        go_wp2_with fail
        have hbd : Below w4.heap.size w4 (w4.drewN nq).drew := below_dr (below_drewN (Below.refl w4.heap.size w4) nq)
        have HSD := Lib.hid (HS4.out.keep hbd)
        have HGD := Lib.hid (HG4.out.below' hbd)
        have HBD := Lib.hid (below_2 HB4.out hbd)
        clear hbd HS4 HG4 HB4 d0 d1 d2 d3 d4 d5 d6 d7 d8 c0 c1 c2 c3 c4 hvb HC4
        generalize w4.drewN nq = w5 at *
        have HD : w5.drew.cell? ⟨vb, 0, none⟩ = some (.pointer (some ⟨sb, 0, none⟩)) ∧ w5.drew.cell? ⟨fb, 0, none⟩ = some (.int .i64 i) := ⟨HSD.out.five.1, HGD.out.cell 0⟩
        go_region_held3 (fun w' => w'.cell? ⟨vb, 0, none⟩ = some (.pointer (some ⟨sb, 0, none⟩)) ∧ w'.cell? ⟨fb, 0, none⟩ = some (.int .i64 i))
          (first
            | with_reducible assumption
            | with_reducible exact HD)
          (first
            | (go_at_call 42; (with_reducible refine (HA2.out _ HSD.out.sx).mono ?_); rintro x' w6 ⟨rfl, htw, v2, hsx⟩
               have hend : PutX W B vb sb db k r Q (.returned (errV Q.2)) w6 := ⟨rfl, (Two.of_below HBD.out).trans htw, v2, HSD.out.two htw hsx⟩
               have hx2 : w6.cell? ⟨vb, 0, none⟩ = some (.pointer (some ⟨sb, 0, none⟩)) ∧ w6.cell? ⟨fb, 0, none⟩ = some (.int .i64 i) := ⟨(HSD.out.two htw hsx).five.1, (HGD.out.two htw (HSD.out.sx.apart HGD.out (by decide) (by decide)).1 (HSD.out.sx.apart HGD.out (by decide) (by decide)).2).cell 0⟩))
        obtain ⟨-, htw, v6, h6⟩ := hend
        have H6 := Lib.hid h6
        have HT6 := Lib.hid htw
        clear h6 htw
        by_cases hq : Q.2 = 0
        · have e0 : errV Q.2 = .nilIface := by rw [hq]; exact errV_0
          rw [e0]
          have HQ0 := Lib.hid hq
          clear e0 hq
          go_wp2_with fail
          go_ret2
          rw [HP.out]
          exact PlanI.good (by rw [HQ.out]; exact HQ0.out) HT6.out (by rw [HQ.out]; exact H6.out) _ errV_0.symm
        · have e0 : errV Q.2 = .iface 35 (.int .i64 Q.2) := errV_n hq
          have HE0 := Lib.hid e0
          rw [e0]
          have HQ0 := Lib.hid hq
          clear e0 hq
          go_wp2_with fail
          go_ret2
          rw [HP.out, ← HE0.out, ← HQ.out]
          exact PlanI.bad (by rw [HQ.out]; exact HQ0.out) HT6.out (by rw [HQ.out]; exact H6.out)
    · have hkn : j = z.s.fams.length := by omega
      have hp : sweepP r z.s = .say 0 8 := by
        unfold sweepP sweepF
        rw [find_end_none (fun m f hm hf => HNO.out m f (by omega) hf)]
      have HP := Lib.hid hp
      clear hp
      go_wp2_with fail
      go_ret2
      rw [HP.out]
      exact PlanI.say HS.out HB.out _ (errV_n (by decide)).symm
end
end Go.Proofs.YtckohmhhcknmaaaGreatDoor

/-
  rotorref's service: Kill.
-/
namespace Go.Proofs.YtckohmhhcknmaaaGreatDoor
open Go.RowKit Go.Sort

section
variable {W : World} {B qb rb : Nat} {r : Ru} {z : SS} {v : Value}
set_option maxHeartbeats 4000000 in
set_option maxRecDepth 100000 in
theorem rsv_kill (h : RV B qb rb r z v W) (hz : RZ r z) (id : Int) :
    Calls Tryz.prog 28 #[.pointer (some ⟨qb, 0, none⟩), .int .i64 id] W (RPlanU W B qb rb r z (killP z.s id)) := by
  have hfit := hz.fit
  have hlen := hfit.len
  have HPT := Lib.hid (fun w v f (hf : f.short 1000) (h : RV B qb rb r z v w) => rsv_put h hz.fit hz.lg f hf)
  obtain ⟨sa, sc, rfl⟩ := h.rr.slice
  obtain ⟨c0, c1, c2, c3, c4, hlt⟩ := h.five
  obtain ⟨d0, d1, d2, hlt2⟩ := h.three
  have H := Lib.hid h
  clear h
  go_enter Tryz.func28, Tryz.ntmps28
  go_wp2_with fail
  clear c0 c1 c2 c3 c4 hlt d0 d1 d2 hlt2
  go_loopw [16] (fun i wr => FmRel W B qb rb r z (.slice sa z.s.fams.length sc) (fun f => decide (f.id = id)) i wr) (fun i _ => z.s.fams.length - (intOf i).toNat)
  case atStart => exact ⟨0, Nat.zero_le _, rfl, Below.refl _ _, H.out, fun j f hj => absurd hj (Nat.not_lt_zero _)⟩
  case round =>
    obtain ⟨j, hj, rfl, hb, hs, hno⟩ := hrel
    have HB := Lib.hid hb
    have HS := Lib.hid hs
    have HNO := Lib.hid hno
    clear hb hs hno H
    by_cases hlt : j < z.s.fams.length
    · obtain ⟨g, rfl, _, ra⟩ := HS.out.rr.lit hlt
      obtain ⟨f, hf⟩ : ∃ f, z.s.fams[j]? = some f := ⟨_, List.getElem?_eq_getElem hlt⟩
      have HF := Lib.hid hf
      have hfb := hfit.fams f (List.mem_of_getElem? hf)
      have hsh : (deadF f).short 1000 := fam_short hfb
      have h0 : (0 : Int) ≤ (j : Int) := by omega
      have h1 : (j : Int) < (z.s.fams.length : Int) := by omega
      by_cases hid : f.id = id
      · have hfd : findF z.s.fams id = some f := find_at HNO.out hf (decide_eq_true hid)
        rcases hd : f.dead with _ | _
        · have hp : killP z.s id = .put (putEv (deadF f)) () 0 := by unfold killP; rw [hfd]; simp [hd]
          have HP := Lib.hid hp
          have HP2 := Lib.hid (fun w (h : RV B qb rb r z (.slice (some ⟨g, 0, none⟩) z.s.fams.length sc) w) => HPT.out w _ (deadF f) hsh h)
          generalize hQ : addS z (putEv (deadF f)) = Q at *
          have HQ := Lib.hid hQ
          generalize putEv (deadF f) = FE at *
          unfold famVal deadF at HP2
          obtain ⟨i, cl, su, scp, ge, ma, us, re, de⟩ := f
          unfold famCs at HP2
          obtain ⟨e0, e1, e2, e3, e4, e5, e6, e7, e8⟩ := ra.nine hf
          dsimp only at hid hd HP2
          subst hd
          subst hid
          clear hp hfd hf hfb hsh hQ ra HPT
          have hal := (Below.refl wr.heap.size wr).alloc (Nat.le_refl _) (.cells #[.int .i64 i, .string cl, .string su, .string scp, .int .i64 ge, .int .i64 ma, .int .i64 us, .string re, .bool true] 79)
          have H2 := Lib.hid (HS.out.keep hal)
          have HB2 := Lib.hid (below_2 HB.out hal)
          clear hal
          go_wp2_with fail
          go_at_call 59
          refine (HP2.out _ H2.out).mono ?_
          rintro e w3 ⟨rfl, hg, v3, h3⟩
          have H3 := Lib.hid h3
          have HG3 := Lib.hid (only_trans (only_of_below HB2.out _) hg)
          clear hg h3
          go_wp2_with fail
          go_ret
          rw [HP.out, ← HQ.out]
          exact RPlanU.put HG3.out (by rw [HQ.out]; exact H3.out)
        · have hp : killP z.s id = .say () 6 := by unfold killP; rw [hfd]; simp [hd]
          have HP := Lib.hid hp
          obtain ⟨i, cl, su, scp, ge, ma, us, re, de⟩ := f
          obtain ⟨e0, e1, e2, e3, e4, e5, e6, e7, e8⟩ := ra.nine hf
          dsimp only at hid hd
          subst hd
          subst hid
          have hal := (Below.refl wr.heap.size wr).alloc (Nat.le_refl _) (.cells #[.int .i64 i, .string cl, .string su, .string scp, .int .i64 ge, .int .i64 ma, .int .i64 us, .string re, .bool true] 79)
          have H2 := Lib.hid (HS.out.keep hal)
          have HB2 := Lib.hid (below_2 HB.out hal)
          clear hp hfd hf hfb hsh ra HPT hal
          go_wp2_with fail
          go_ret
          rw [HP.out]
          exact RPlanU.say H2.out HB2.out
      · obtain ⟨i, cl, su, scp, ge, ma, us, re, de⟩ := f
        obtain ⟨e0, e1, e2, e3, e4, e5, e6, e7, e8⟩ := ra.nine hf
        dsimp only at hid
        have HID := Lib.hid hid
        have hal := (Below.refl wr.heap.size wr).alloc (Nat.le_refl _) (.cells #[.int .i64 i, .string cl, .string su, .string scp, .int .i64 ge, .int .i64 ma, .int .i64 us, .string re, .bool de] 79)
        have H2 := Lib.hid (HS.out.keep hal)
        have HB2 := Lib.hid (below_2 HB.out hal)
        clear hf hfb hsh ra HPT hal
        go_wp2_with fail
        go_roundw
        case rel => exact ⟨j + 1, by omega, by go_num, HB2.out, H2.out, fun m f hm hf => by
          by_cases e : m = j
          · subst e
            rw [HF.out] at hf
            cases hf
            exact decide_eq_false HID.out
          · exact HNO.out m f (by omega) hf⟩
        case measure => simp [intOf]; omega
    · have hkn : j = z.s.fams.length := by omega
      have hp : killP z.s id = .say () 7 := by
        unfold killP
        rw [show findF z.s.fams id = none from find_end_none (fun m f hm hf => HNO.out m f (by omega) hf)]
      have HP := Lib.hid hp
      clear hp
      go_wp2_with fail
      go_ret
      rw [HP.out]
      exact RPlanU.say HS.out HB.out
end
end Go.Proofs.YtckohmhhcknmaaaGreatDoor
