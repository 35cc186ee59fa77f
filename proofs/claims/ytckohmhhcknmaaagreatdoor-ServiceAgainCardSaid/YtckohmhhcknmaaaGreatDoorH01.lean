/-
  What the last step of every statement wants: the row's post behind a call that left old memory as it was; a slice of structs opened. (After the guide's pages on small lemmas and structs.)
-/
import Derived.Test.YtckohmhhcknmaaaGreatDoorRows
import Derived.WalkKit
import Derived.ProofKit
import Derived.OpenShut
import Derived.Deep.DeepHandedRow
import Derived.Deep.Slices
import Derived.Deep.Fields
import Derived.ChangeSame
import Derived.Lib.LaidTab
import Derived.Lib.SmallJoins
import Derived.LaidLaws
import Derived.LaidHandle
import Derived.SizedLaws
import Derived.Test.YtckohmhhcknmaaaGreatDoorCards
import Derived.Test.YtckohmhhcknmaaaGreatDoorTie
import Derived.Test.YtckohmhhcknmaaaGreatDoorG23
import Derived.Test.YtckohmhhcknmaaaGreatDoorG13
namespace Go.Proofs.YtckohmhhcknmaaaGreatDoor
open Go.ChangeShapes Go.WideShapes Go.ChangeAt Go.RowKit Go.Deep

theorem own_knob : ownKnob Tryz.prog.godebug = none := by kernel_rfl
theorem laid_out : laidOutB Tryz.prog = true := by kernel_rfl

section
variable {H : Type} {enc : TypeId × Value → H} {P : Program}
theorem post_of_below {f : Func} {s : ChangeSpec} {apart fresh handsOn again : Bool} {W W' : World} {args : Array Value} {v : Value} {ds gs : List (DataW H)} {before pa pv : List MemPlace}
    (hW : DataW.Whole enc P f.params.toList s.vars apart W args.toList ds gs before)
    (hres : ∀ (b : Nat) (sp : Nat → Bool) (hd : Bool), DataW.TrodAll enc P W' b sp hd f.resultTypes.toList (v.resultList f.resultTypes.size) (s.fn H (ds ++ gs)).results [])
    (hargs : ∀ sp : Nat → Bool, (∀ p ∈ before, sp p.block = true) → DataW.TrodAll enc P W' 0 sp true f.params.toList args.toList (s.fn H (ds ++ gs)).args pa)
    (hvars : ∀ sp : Nat → Bool, (∀ p ∈ before, sp p.block = true) → DataW.TrodVars enc P W' sp s.vars (s.fn H (ds ++ gs)).vars pv)
    (hps : before = pa ++ pv) (hb : Below W.heap.size W W')
    (hok : ∀ (j : Nat) (t : TypeId) (r : Value), f.resultTypes[j]? = some t → (v.resultList f.resultTypes.size)[j]? = some r → Value.okWide P W' .any 0 t r) :
    s.post enc P f apart fresh handsOn again W args v W' := by
  have hlt : ∀ p ∈ before, p.block < W.heap.size := fun p hp => hW.lt p hp
  have hold : ∀ p ∈ before, (fun b => decide (b < W.heap.size)) p.block = true := fun p hp => by simpa using hlt p hp
  refine ⟨ds, gs, before, [], pa, pv, hW, hres _ _ _, hargs _ hold, hvars _ hold, World.keptBut_mono (fun p hp => ⟨hp, ?_⟩) (hb.frame (· ∈ before)), fun _ => ?_⟩
  · rw [hps, List.mem_append] at hp
    exact Or.inr hp
  · obtain ⟨_, _, _, _, _, hz, hn⟩ := hW
    refine ⟨hok, _, _, ([] ++ pa) ++ pv, ⟨[] ++ pa, pv, trodAll_append (hargs _ (fun _ _ => rfl)) (hres _ _ _), hvars _ (fun _ _ => rfl), rfl, ?_, ?_⟩, ?_⟩
    · intro b off hp
      have hin : MemPlace.cell b off ∈ before := by rw [hps]; simpa using hp
      rw [hb.frozen (hlt _ hin)]
      exact hz b off hin
    · intro ha
      have := hn ha
      rw [hps] at this
      simpa using this
    · intro p hp _
      rw [hps]
      simpa using hp
end

section
variable {H : Type} {enc : TypeId × Value → H} {P : Program} {w : World} {base : Nat} {spare : Nat → Bool} {held : Bool}
theorem open_slice_fields {t e : TypeId} {fs : Array Field} {fuel : Nat} {cs : List Value} {x : DataW H × List MemPlace} (ht : P.underlying t = some (.slice e)) (he : P.underlying e = some (.struct fs))
    (hone : oneCellFields P fs = true) (hC : P.cellsOf e = fs.size) (h : DataW.trod enc P w base spare held fuel t cs = some x) :
    (cs = [.slice none 0 0] ∧ x = (.nil, [])) ∨
    ∃ (a : Addr) (len cap m : Nat) (D : Nat → DataW H) (Pl : Nat → List MemPlace), cs = [.slice (some a) len cap] ∧ base ≤ a.block ∧ len ≤ cap ∧ cap ≤ maxLen ∧ m = (if spare a.block then cap else len) ∧
      x = (.slice ((List.range len).map D) ((List.range (m - len)).map fun j => D (len + j)), MemPlace.row a (m * fs.size) ++ (List.range m).flatMap Pl) ∧
      ∀ i, i < m → ∃ (ys : List (DataW H × List MemPlace)) (n : Nat), D i = .agg (ys.map (·.1)) ∧ Pl i = ys.flatMap (·.2) ∧ ys.length = fs.size ∧
        ∀ (j : Nat) (f : Field), fs[j]? = some f → ∃ (v : Value) (y : DataW H × List MemPlace), w.cell? (a.add (i * fs.size + j)) = some v ∧ ys[j]? = some y ∧ DataW.trod enc P w base spare held n f.type [v] = some y := by
  rcases open_slice ht h with h0 | ⟨a, len, cap, m, n, D, Pl, hcs, hb, hl, hm, hmm, hx, hi⟩
  · exact .inl h0
  · refine .inr ⟨a, len, cap, m, D, Pl, hcs, hb, hl, hm, hmm, by rw [hC] at hx; exact hx, fun i him => ?_⟩
    obtain ⟨cs', hc, ht'⟩ := hi i him
    rw [hC] at hc
    obtain ⟨ys, n', hn', hy, hlen, hyl, hf⟩ := DataW.trod_struct he ht'
    obtain ⟨_, hcl, hat⟩ := World.cells?_some hc
    simp only [Prod.mk.injEq] at hy
    refine ⟨ys, n', hy.1, hy.2, hyl, fun j f hj => ?_⟩
    obtain ⟨ho, hk⟩ := hone_of hone j f hj
    have hjl : j < fs.size := (Array.getElem?_eq_some_iff.1 hj).1
    have hcell := hat j hjl
    have hv : cs'[j]? = some (cs'[j]'(by omega)) := List.getElem?_eq_getElem (by omega)
    have h1 := hf j f hj
    rw [ho, hk] at h1
    have hone' : (cs'.drop j).take 1 = [cs'[j]'(by omega)] := by
      rw [List.drop_eq_getElem_cons (by omega)]
      rfl
    rw [hone'] at h1
    have hys : ys[j]? = some (ys[j]'(by omega)) := List.getElem?_eq_getElem (by omega)
    refine ⟨_, _, ?_, hys, h1.trans hys⟩
    rw [← Go.Deep.add_add, hcell, hv]
end

/-- a text that came in: its reach -/
theorem string_reach {H : Type} {enc : TypeId × Value → H} {P : Program} {W : World} {base : Nat} {sp : Nat → Bool} {held : Bool} {t : TypeId} {s : ByteArray} {d : DataW H} {p : List MemPlace} {ts : List TypeId} {ds : List (DataW H)} {j : Nat}
    (ht : P.underlying t = some .string) (h : DataW.Trod enc P W base sp held t (.string s) d p) (hwt : (DataW.weightsEach P ts ds).all (· ≤ reachBytes) = true) (hts : ts[j]? = some t) (hds : ds[j]? = some d) : s.size ≤ 140737488351232 ∧ d = .lit (.string s.data.toList) := by
  obtain ⟨fuel, hf⟩ := h
  obtain ⟨s', e, e2, _⟩ := DataW.trod_string ht hf
  simp only [Value.cells, List.cons.injEq, Value.string.injEq, and_true] at e
  subst e
  simp only [Prod.mk.injEq] at e2
  have e3 := e2.1
  subst e3
  have := sized_string hwt hts hds
  refine ⟨?_, rfl⟩
  have hz : s.data.toList.length = s.size := by cases s; simp [ByteArray.size]
  rw [hz] at this
  exact this
theorem cell_add {w : World} {a : Addr} {k : Nat} {v : Value} (h : w.cell? (a.add k) = some v) : w.cell? ⟨a.block, a.off + k, none⟩ = some v ∧ a.block < w.heap.size ∧ (k = 0 → a.spot = none) := by
  unfold Addr.add at h
  by_cases hk : k = 0
  · subst hk
    rw [if_pos rfl] at h
    have hs : a.spot = none := by
      cases e : a.spot with
      | none => rfl
      | some s => simp [World.cell?, e] at h; split at h <;> simp at h
    obtain ⟨b, o, sp⟩ := a
    simp only at hs
    subst hs
    refine ⟨h, ?_, fun _ => rfl⟩
    rcases Nat.lt_or_ge b w.heap.size with h' | h'
    · exact h'
    · simp [World.cell?, Array.getElem?_eq_none h'] at h
  · rw [if_neg hk] at h
    refine ⟨h, ?_, fun e => absurd e hk⟩
    rcases Nat.lt_or_ge a.block w.heap.size with h' | h'
    · exact h'
    · simp [World.cell?, Array.getElem?_eq_none h'] at h
/-- what a cell holds, as a number, a text, a bool -/
def cellInt : Option Value → Int | some (.int _ n) => n | _ => 0
def cellStr : Option Value → ByteArray | some (.string s) => s | _ => ByteArray.empty
def cellBool : Option Value → Bool | some (.bool b) => b | _ => false
end Go.Proofs.YtckohmhhcknmaaaGreatDoor

/-
  What the last step of every statement that is a card wants.
-/


/-
  ServiceAgain: the walk.
-/
namespace Go.Proofs.YtckohmhhcknmaaaGreatDoor
open Go.RowKit Go.Sort

def NumsAt (w : World) (g off n : Nat) : Prop := ∀ i, i < n → ∃ x : Int, w.cell? ⟨g, off + i, none⟩ = some (.int .i64 x)
def ruA (key : Int) : Ru := ⟨key, 100, 1000, 5⟩
/-- a round of the turns -/
def AgRel (W : World) (n : Nat) (key : Int) (vb sb db : Nat) (tv i : Value) (w : World) : Prop := ∃ (j k : Nat) (z : SS) (v : Value) (c : Int) (f : Fam), j ≤ n ∧ i = .int .i64 j ∧ tv = .string (tokS key 1 1 f.gen 0) ∧ AW W W.heap.size vb sb db k (ruA key) z v w ∧ Ag z c f ∧ c ≤ j ∧ f.gen ≤ j ∧ k ≤ 5 * j + 1 ∧ withB (leastL readW) f.scope.data.toList = true
/-- the state as it was, in cells of its own -/
structure WasAt (W : World) (vb sb db k : Nat) (r : Ru) (z : SS) (v : Value) (a : Option Addr) (c B wb : Nat) (w : World) : Prop where
  aw : AW W W.heap.size vb sb db k r z v w
  row : FRow w B (.slice a z.s.fams.length c) z.s.fams
  was : Blk w wb 39 #[.int .i64 z.s.clock, .int .i64 z.s.next, .slice a z.s.fams.length c]
section
variable {W w w' : World} {vb sb db k : Nat} {r : Ru} {z : SS} {v : Value} {a : Option Addr} {c B wb : Nat}
theorem WasAt.keep (h : WasAt W vb sb db k r z v a c B wb w) (hb : Below w.heap.size w w') : WasAt W vb sb db k r z v a c B wb w' := ⟨h.aw.keep hb, h.row.below hb, h.was.below' hb⟩
theorem WasAt.drew (h : WasAt W vb sb db k r z v a c B wb w) : WasAt W vb sb db k r z v a c B wb w.drew := h.keep (below_dr (Below.refl _ _))
theorem WasAt.tail (h : WasAt W vb sb db k r z v a c B wb w) : WasAt W vb sb db k r z v a c B wb w ∧ w.cell? ⟨wb, 0, none⟩ = some (.int .i64 z.s.clock) ∧ w.cell? ⟨wb, 1, none⟩ = some (.int .i64 z.s.next) ∧ w.cell? ⟨wb, 2, none⟩ = some (.slice a z.s.fams.length c) := ⟨h, h.was.cell 0, h.was.cell 1, h.was.cell 2⟩
theorem WasAt.state (h : WasAt W vb sb db k r z v a c B wb w) : Calls Tryz.prog 14 #[.pointer (some ⟨vb, 0, none⟩)] w (GotAs w z.s.clock z.s.next z.s.fams) := h.aw.state
theorem WasAt.same (h : WasAt W vb sb db k r z v a c B wb w) {B' : Nat} {a2 : Option Addr} {c2 : Nat} (hr : FRow w B' (.slice a2 z.s.fams.length c2) z.s.fams) : Calls Tryz.prog 15 #[.agg #[.int .i64 z.s.clock, .int .i64 z.s.next, .slice a z.s.fams.length c], .agg #[.int .i64 z.s.clock, .int .i64 z.s.next, .slice a2 z.s.fams.length c2]] w (SameGot w True) :=
  plain_same_ True B B' (.slice a z.s.fams.length c) (.slice a2 z.s.fams.length c2) z.s z.s w (fun _ => rfl) h.row hr (by have := h.aw.sw.sx.fit.len; omega)
end
/-- a round of those that ask once more -/
def AgRel2 (W : World) (k : Nat) (r : Ru) (vb sb db : Nat) (z : SS) (a : Option Addr) (c B wb : Nat) (i : Value) (w : World) : Prop := ∃ (m kk : Nat) (v : Value), m ≤ 3 ∧ i = .int .i64 m ∧ WasAt W vb sb db kk r z v a c B wb w ∧ kk ≤ k + m
set_option maxHeartbeats 8000000 in
set_option maxRecDepth 100000 in
theorem again_walk (W : World) (A : Option Addr) (g off cap n : Nat) (key times : Int) (q : ByteArray) (hn : n ≤ 40) (hq : q.size ≤ 60) (hA : n ≠ 0 → A = some ⟨g, off, none⟩ ∧ NumsAt W g off n ∧ g < W.heap.size) (hEnv : Env W.heap.size W) (het : ErrType W) :
    Calls Tryz.prog 3 #[.int .i64 key, .slice A n cap, .string q, .int .i64 times] W fun x w' => x = .returned (.bool true) ∧ Below W.heap.size W w' := by
  have heg := het.lt
  have HA := Lib.hid hA
  have HEN := Lib.hid hEnv
  have HET := Lib.hid het
  have hkin := pickN_in key (n := 1073741824) (by decide)
  have htm := pickN_in times (n := 4) (by decide)
  have HGY := Lib.hid (granted_yes hEnv (Nat.le_refl _) het heg)
  have HPK := Lib.hid (fun w => pick_30 key w)
  have HPT := Lib.hid (fun w => pick_4 times w)
  have HP4 := Lib.hid pick_4
  generalize pickN key 1073741824 = ky at *
  generalize pickN times 4 = p at *
  have hru : ruB (ruA ky) = true := by
    unfold ruB ruA
    dsimp only
    rw [okN_iff.2 ⟨by omega, by omega⟩]
    decide
  have HBG := Lib.hid (fun w (hb : Below W.heap.size W w) => begun_yes (B := W.heap.size) (r := ruA ky) (HEN.out.keep hb) hb.size hru)
  obtain ⟨f0, z0, d0, a0, g0, s0⟩ := Ag.grant (r := ruA ky) (cl := appS) (su := annS) (sc := bothS) (by decide) (by decide) s_bothW.1
  have hl0 : withB (leastL readW) f0.scope.data.toList = true := by rw [s0]; exact read_in_both
  have HG := Lib.hid (fun vb sb db v w (h : AW W W.heap.size vb sb db 0 (ruA ky) newS v w) => h.granted (by decide) (cl := ⟨#[97, 112, 112]⟩) (su := ⟨#[97, 110, 110]⟩) (sc := ⟨#[114, 101, 97, 100, 43, 119, 114, 105, 116, 101]⟩) (by decide) (by decide) (by decide) d0 errV_0)
  have HN1 := Lib.hid (fun w => ev_name q w (by omega))
  unfold ruA at HBG
  dsimp only at HBG
  clear hA hEnv het hkin hru d0 s0
  go_enter Tryz.func3, Tryz.ntmps3
  go_wp2_with fail
  go_at_call 6
  refine HGY.out.mono ?_
  rintro e w1 ⟨rfl, hb⟩
  have HB1 := Lib.hid hb
  clear hb HGY
  go_wp2_with fail
  go_at_call 8
  refine (HPK.out _).mono ?_
  rintro e w1' ⟨rfl, rfl⟩
  clear HPK
  go_wp2_with fail
  go_at_call 7
  refine (HBG.out _ HB1.out).mono ?_
  rintro e w2 ⟨vb, sb, db, v, rfl, hsw, hb, h1, h2, h3⟩
  have H1 := Lib.hid (show AW W W.heap.size vb sb db 0 (ruA ky) newS v w2 from ⟨hsw, below_2 HB1.out hb, Nat.le_trans HB1.out.size h1, Nat.le_trans HB1.out.size h2, Nat.le_trans HB1.out.size h3, HET.out, heg⟩)
  clear hsw hb HBG HB1 h1 h2 h3
  go_wp2_with fail
  go_at_call 9
  refine (HG.out _ _ _ _ _ H1.out).mono ?_
  rintro e w3 ⟨rfl, v3, h⟩
  have H3 := Lib.hid h
  clear h H1 HG
  have HR0 := Lib.hid (show AgRel W n ky vb sb db (.string (tokS ky 1 1 0 0)) (.int .i64 0) w3 from ⟨0, 1, z0, v3, 0, f0, Nat.zero_le _, rfl, by rw [g0], H3.out, a0, Int.le_refl _, by rw [g0]; exact Int.le_refl _, by decide, hl0⟩)
  clear H3 a0 g0 hl0
  have hkey : (ruA ky).key = ky := rfl
  rw [hkey]
  clear hkey
  go_wp2_with fail
  go_loopw [10, 12] (fun tv i wr => AgRel W n ky vb sb db tv i wr) (fun _ i _ => n - (intOf i).toNat)
  case atStart => exact HR0.out
  case round =>
    obtain ⟨j, k, z, v, c, f, hj, rfl, rfl, haw, hag, hc, hgn, hk, hw⟩ := hrel
    have HP := Lib.hid haw
    have HAG := Lib.hid hag
    have HW := Lib.hid hw
    have hfp := famB_parts hag.fb
    have hg0 := okN_iff.1 hfp.2.1
    have hc0 := hag.c0
    clear haw hag hw hfp HR0
    by_cases hlt : j < n
    · obtain ⟨rfl, hnum, hgl⟩ := HA.out (by omega)
      obtain ⟨x, hx⟩ := hnum j hlt
      have h0 : (0 : Int) ≤ (j : Int) := by omega
      have h1 : (j : Int) < (n : Int) := by omega
      have hx' : wr.cell? ⟨g, off + j, none⟩ = some (.int .i64 x) := (HP.out.below.cell (p := ⟨g, off + j, none⟩) hgl).trans hx
      have HPX := Lib.hid (fun w => HP4.out x w)
      have hpx := pickN_in x (n := 4) (by decide)
      generalize pickN x 4 = px at *
      have hl0 : (tokS ky 1 1 f.gen 0).size ≤ 1000 := Nat.le_trans (tokS_len (tok_one (by decide) (okN_iff.2 ⟨hg0.1, hg0.2⟩))) (by decide)
      clear hx hnum
      go_wp2_with fail
      go_at_call 8
      refine (HPX.out _).mono ?_
      rintro e w1 ⟨rfl, rfl⟩
      by_cases hp0 : px = 0
      · subst hp0
        obtain ⟨z', hd, hag'⟩ := HAG.out.tick (by omega)
        have HT := Lib.hid (fun w (h : AW W W.heap.size vb sb db k (ruA ky) z v w) => h.ticked (by omega) hd errV_0)
        have HAG2 := Lib.hid hag'
        clear hd hag'
        go_wp2_with fail
        go_at_call 10
        refine (HT.out _ HP.out).mono ?_
        rintro e w2 ⟨rfl, v', h⟩
        have HP2 := Lib.hid h
        clear h HP
        go_wp2_with fail
        go_roundw
        case rel => exact ⟨j + 1, k + 1, z', v', c + 1, f, by omega, by go_num, rfl, HP2.out, HAG2.out, by omega, by omega, by omega, HW.out⟩
        case measure => simp [intOf]; omega
      · rcases hnm : nameB q.data.toList with _ | _
        · have hd : doPlan noneS z (rotateP (ruA ky) z.s (tokS ky 1 1 f.gen 0) q readS) = (z, noneS, 1) := by
            unfold rotateP
            rw [if_pos hnm]
            rfl
          rw [hnm] at HN1
          have HRT := Lib.hid (fun w (h : AW W W.heap.size vb sb db k (ruA ky) z v w) => h.rotated (by omega) (q := q) (sc := readS) hl0 (by omega) (by decide) hd (errV_n (by decide)))
          generalize tokS ky 1 1 f.gen 0 = A0 at *
          unfold readS at HRT
          unfold noneS at HRT
          clear hd hnm
          go_wp2_with fail
          go_at_call 11
          refine (HRT.out _ HP.out).mono ?_
          rintro e w2 ⟨rfl, ⟨v2, h⟩, _⟩
          have HP2 := Lib.hid h
          clear h HP HRT
          go_wp2_with fail
          go_at_call 12
          refine (HN1.out _).mono ?_
          rintro e w3 ⟨rfl, hb⟩
          have HP3 := Lib.hid (HP2.out.keep hb)
          clear hb HP2
          go_wp2_with fail
          go_at_call 13
          refine (tell_no 1 _ HP3.out.et).mono ?_
          rintro e w4 ⟨rfl, hb⟩
          have HP4' := Lib.hid (HP3.out.keep hb)
          clear hb HP3
          go_wp2_with fail
          go_ret
          exact ⟨rfl, HP4'.out.below⟩
        · have hok1 : okN f.gen = true := okN_iff.2 ⟨hg0.1, hg0.2⟩
          have hok2 : okN (f.gen + 1) = true := okN_iff.2 ⟨by omega, by omega⟩
          obtain ⟨f', z', hd, hag', hg', hq', hs'⟩ := HAG.out.turn (r := ruA ky) (by show c ≤ 100; omega) (by show c ≤ 1000; omega) (by omega) (by omega) (q := q) (sc := readS) hnm s_readW.1 HW.out
          have hd2 : doPlan noneS z (rotateP (ruA ky) z.s (tokS ky 1 1 f.gen 0) q readS) = (z', tokS ky 1 1 (f.gen + 1) 0, 0) := hd
          have hd3 : doPlan noneS z' (rotateP (ruA ky) z'.s (tokS ky 1 1 f.gen 0) q writeS) = (z', tokS ky 1 1 (f.gen + 1) 0, 0) := by
            have := hag'.again (r := ruA ky) (by show c ≤ 100; omega) (by show c ≤ 1000; omega) (by omega) (g := f.gen) hok1 hg' (q := q) (sc := writeS) hnm hq'
            rw [hg'] at this
            exact this
          have hne := tok_apart (key := ky) (g := f.gen) (h := f.gen + 1) hok1 hok2 (by omega)
          have HAG2 := Lib.hid hag'
          have HG2 := Lib.hid hg'
          have HS2 := Lib.hid hs'
          rw [hnm] at HN1
          have HRT := Lib.hid (fun w (h : AW W W.heap.size vb sb db k (ruA ky) z v w) => h.rotated (by omega) (q := q) (sc := readS) hl0 (by omega) (by decide) hd2 errV_0)
          have HR2 := Lib.hid (fun w kk v (hkk : kk < 1000000) (h : AW W W.heap.size vb sb db kk (ruA ky) z' v w) => h.rotated hkk (q := q) (sc := writeS) hl0 (by omega) (by decide) hd3 errV_0)
          have hlen := hag'.s
          have hln : z'.s.fams.length ≤ 1000000 := by rw [hlen]; show 1 ≤ 1000000; decide
          generalize tokS ky 1 1 f.gen 0 = A0 at *
          generalize hD : tokS ky 1 1 (f.gen + 1) 0 = D0 at *
          have HD0 := Lib.hid hD
          have hab : (D0.toList == A0.toList) = false := by
            rw [texts_eq, decide_eq_false_iff_not]
            exact fun h => hne (by rw [← txt_data A0, ← txt_data D0, h])
          have hbb : (D0.toList == D0.toList) = true := by simp
          unfold readS at HRT
          unfold writeS at HR2
          clear hd hd2 hd3 hnm hag' hg' hq' hs' hne hlen hD
          go_wp2_with fail
          go_at_call 11
          refine (HRT.out _ HP.out).mono ?_
          rintro e w2 ⟨rfl, ⟨v2, h⟩, _⟩
          have HP2 := Lib.hid h
          clear h HP HRT
          go_wp2_with fail
          go_at_call 12
          refine (HN1.out _).mono ?_
          rintro e w3 ⟨rfl, hb⟩
          have HP3 := Lib.hid (HP2.out.keep hb)
          clear hb HP2
          go_wp2_with fail
          go_at_call 14
          refine HP3.out.state.mono ?_
          rintro e w4 ⟨a1, c1, rfl, hr, hb⟩
          have HR4 := Lib.hid hr
          have HP4' := Lib.hid (HP3.out.keep hb)
          clear hr hb HP3
          have HWA0 := Lib.hid (show WasAt W vb sb db (k + 1) (ruA ky) z' v2 a1 c1 w3.heap.size w4.heap.size (w4.alloc (.cells #[.int .i64 z'.s.clock, .int .i64 z'.s.next, .slice a1 z'.s.fams.length c1] 39)) from ⟨HP4'.out.keep ((Below.refl _ _).alloc (Nat.le_refl _) _), HR4.out.below ((Below.refl _ _).alloc (Nat.le_refl _) _), Blk.new w4 _ _⟩)
          clear HP4' HR4
          go_wp2_with fail
          generalize w4.alloc (.cells #[.int .i64 z'.s.clock, .int .i64 z'.s.next, .slice a1 z'.s.fams.length c1] 39) = w5 at *
          generalize w4.heap.size = wb at *
          generalize w3.heap.size = B4 at *
          go_loopw [16] (fun i wr => AgRel2 W (k + 1) (ruA ky) vb sb db z' a1 c1 B4 wb i wr) (fun i _ => 4 - (intOf i).toNat)
          case atStart => exact ⟨0, k + 1, v2, by decide, rfl, HWA0.out, by omega⟩
          case round =>
            obtain ⟨m, kk, v5, hm, rfl, hwa, hkk⟩ := hrel
            have HWA := Lib.hid hwa
            clear hwa HWA0
            go_wp2_with fail
            go_at_call 8
            refine (HPT.out _).mono ?_
            rintro e w6 ⟨rfl, rfl⟩
            by_cases hmp : (m : Int) < p
            · go_wp2_with fail
              go_at_call 11
              refine (HR2.out _ _ _ (by omega) HWA.out.aw).mono ?_
              rintro e w7 ⟨rfl, ⟨v7, h⟩, hrest⟩
              have HW7 := Lib.hid (show WasAt W vb sb db (kk + 1) (ruA ky) z' v7 a1 c1 B4 wb w7 from ⟨h, hrest.1 _ _ _ HWA.out.row, hrest.2 _ _ _ HWA.out.was (by decide) (by decide)⟩)
              clear h hrest HWA
              go_wp2_with fail
              go_roundw
              case rel => exact ⟨m + 1, kk + 1, v7, by omega, by go_num, HW7.out, by omega⟩
              case measure => simp [intOf]; omega
            · have HST := Lib.hid (fun w (h : WasAt W vb sb db kk (ruA ky) z' v5 a1 c1 B4 wb w) => h.state)
              have HSA := Lib.hid (fun w a2 c2 B' (h : WasAt W vb sb db kk (ruA ky) z' v5 a1 c1 B4 wb w) hr => h.same (a2 := a2) (c2 := c2) (B' := B') hr)
              have HD := WasAt.tail HWA.out.drew
              unfold GotAs at HST
              clear HWA
              go_wp2_with fail
              go_region_held3 (fun w' => WasAt W vb sb db kk (ruA ky) z' v5 a1 c1 B4 wb w' ∧ w'.cell? ⟨wb, 0, none⟩ = some (.int .i64 z'.s.clock) ∧ w'.cell? ⟨wb, 1, none⟩ = some (.int .i64 z'.s.next) ∧ w'.cell? ⟨wb, 2, none⟩ = some (.slice a1 z'.s.fams.length c1))
                (first
                  | with_reducible assumption
                  | with_reducible exact HD
                  | with_reducible exact WasAt.tail (WasAt.keep (And.left (by assumption)) (by assumption)))
                (first
                  | (go_at_call 14; (with_reducible refine (HST.out _ (And.left (by assumption))).mono ?_); rintro x' w7 ⟨a2, c2, rfl, hr2, hb1⟩)
                  | (go_at_call 15; (with_reducible refine (HSA.out _ _ _ _ (And.left (by assumption)) hr2).mono ?_); rintro x' w8 ⟨q9, rfl, hq9, hb2⟩; obtain rfl := hq9 trivial))
              go_wp2_with fail
              go_roundw
              case rel => exact ⟨j + 1, kk, z', v5, c, f', by omega, by go_num, by rw [HG2.out, HD0.out], WasAt.aw (And.left (by assumption)), HAG2.out, by omega, by have := HG2.out; omega, by omega, by rw [HS2.out]; exact read_in_read⟩
              case measure => simp [intOf]; omega
    · go_wp2_with fail
      go_ret
      exact ⟨rfl, HP.out.below⟩
set_option maxRecDepth 100000 in
theorem again_long (W : World) (A : Option Addr) (cap n : Nat) (key times : Int) (q : ByteArray) (hn0 : n ≤ 9223372036854775807) (hq0 : q.size ≤ 140737488355328) (h : 40 < n ∨ (n ≤ 40 ∧ 60 < q.size)) :
    Calls Tryz.prog 3 #[.int .i64 key, .slice A n cap, .string q, .int .i64 times] W fun x w' => x = .returned (.bool true) ∧ Below W.heap.size W w' := by
  rcases h with h | ⟨h, h2⟩
  · go_enter Tryz.func3, Tryz.ntmps3
    go_wp2_with fail
    go_ret
    exact ⟨rfl, Below.refl _ _⟩
  · go_enter Tryz.func3, Tryz.ntmps3
    go_wp2_with fail
    go_ret
    exact ⟨rfl, Below.refl _ _⟩
end Go.Proofs.YtckohmhhcknmaaaGreatDoor

/-
  Numbers in a slice that came in.
-/
namespace Go.Proofs.YtckohmhhcknmaaaGreatDoor
open Go.ChangeShapes Go.WideShapes Go.ChangeAt Go.RowKit Go.Deep

theorem cells_int_ : Tryz.prog.cellsOf 3 = 1 := by kernel_rfl
theorem nums_open {H : Type} {enc : TypeId × Value → H} {W : World} {a0 : Option Addr} {m cap : Nat} {d : DataW H} {p : List MemPlace} (h : DataW.Trod enc Tryz.prog W 0 (fun _ => true) true 22 (.slice a0 m cap) d p) :
    m ≤ 9223372036854775807 ∧ ∃ g off, (m ≠ 0 → a0 = some ⟨g, off, none⟩ ∧ NumsAt W g off m ∧ g < W.heap.size) := by
  obtain ⟨fuel, hf⟩ := h
  rcases open_ints Tryz.underlying22 Tryz.underlying3 cells_int_ hf with ⟨hcs, _⟩ | ⟨a, len', cap', zs, hcs, _, hl, hmx, hzl, _, hz, _⟩
  · simp only [Value.cells, List.cons.injEq, Value.slice.injEq, and_true] at hcs
    obtain ⟨rfl, rfl, rfl⟩ := hcs
    exact ⟨by omega, 0, 0, fun h => absurd rfl h⟩
  · simp only [Value.cells, List.cons.injEq, Value.slice.injEq, and_true] at hcs
    obtain ⟨rfl, rfl, rfl⟩ := hcs
    unfold maxLen at hmx
    have hlen : m ≤ zs.length := by
      rw [hzl]
      simp
      omega
    have hk : ∀ i, i < m → W.cell? ⟨a.block, a.off + i, none⟩ = some (.int .i64 (zs.getD i 0)) ∧ a.block < W.heap.size ∧ (i = 0 → a.spot = none) := fun i hi => cell_add (hz i (by omega))
    refine ⟨by omega, a.block, a.off, fun h0 => ⟨?_, fun i hi => ⟨_, (hk i hi).1⟩, (hk 0 (by omega)).2.1⟩⟩
    have := (hk 0 (by omega)).2.2 rfl
    cases a
    simp_all
theorem again_all (W : World) (A : Option Addr) (cap n : Nat) (key times : Int) (q : ByteArray) (hn0 : n ≤ 9223372036854775807) (hq0 : q.size ≤ 140737488355328) (hA : ∃ g off, (n ≠ 0 → A = some ⟨g, off, none⟩ ∧ NumsAt W g off n ∧ g < W.heap.size)) (hEnv : Env W.heap.size W) (het : ErrType W) :
    Calls Tryz.prog 3 #[.int .i64 key, .slice A n cap, .string q, .int .i64 times] W fun x w' => x = .returned (.bool true) ∧ Below W.heap.size W w' := by
  obtain ⟨g, off, hA⟩ := hA
  by_cases hn : n ≤ 40
  · by_cases hq : q.size ≤ 60
    · exact again_walk W A g off cap n key times q hn hq hA hEnv het
    · exact again_long W A cap n key times q hn0 hq0 (.inr ⟨hn, by omega⟩)
  · exact again_long W A cap n key times q hn0 hq0 (.inl (by omega))
end Go.Proofs.YtckohmhhcknmaaaGreatDoor
