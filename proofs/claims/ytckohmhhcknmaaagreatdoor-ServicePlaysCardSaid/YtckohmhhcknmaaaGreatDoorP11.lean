/-
  event.Apply: a state behind an event.
-/
import Derived.Test.YtckohmhhcknmaaaGreatDoorP10
import Derived.Deep.MidRow
import Derived.Laws.Rows
import Derived.Laws.StructEq
import Derived.Test.YtckohmhhcknmaaaGreatDoorP09
import Derived.Test.YtckohmhhcknmaaaGreatDoorP04
import Derived.Test.YtckohmhhcknmaaaGreatDoorP08
import Derived.BigQuiet
import Derived.Deep.QuietTactic
namespace Go.Proofs.YtckohmhhcknmaaaGreatDoor
open Go.RowKit Go.Sort

/-- a state's value: its slice lies at v -/
def stCs (s : St) (v : Value) : Array Value := #[.int .i64 s.clock, .int .i64 s.next, v]
def stVal (s : St) (v : Value) : Value := .agg (stCs s v)
/-- event.Apply under way: its state's cells, its event, its slice -/
structure AP (W : World) (cs : Array Value) (e : Ev) (v : Value) (b vb : Nat) (L : List Fam) (w : World) : Prop where
  below : Below W.heap.size W w
  big : W.heap.size ≤ b
  vbig : W.heap.size ≤ vb
  st : Blk w b 39 cs
  ev : Blk w (b + 1) 102 (evCs e)
  re : Blk w (b + 1 + 1) 39 #[.int .i64 0, .int .i64 0, .slice none 0 0]
  var : Blk w vb 37 #[v]
  row : FRow w W.heap.size v L

theorem Blk.put_ {w : World} {g : Nat} {T : TypeId} {cs cs' : Array Value} (h : Blk w g T cs) (i : Nat) (u : Value) (he : cs.setIfInBounds i u = cs') : Blk (w.setCell ⟨g, i, none⟩ u) g T cs' := by
  have := h.set_ i u
  rwa [he] at this
theorem FRow.slice {w : World} {B : Nat} {v : Value} {L : List Fam} (h : FRow w B v L) : ∃ a c, v = .slice a L.length c := by
  rcases h.parts with ⟨rfl, rfl⟩ | ⟨g, cap, rfl, _⟩
  · exact ⟨_, _, rfl⟩
  · exact ⟨_, _, rfl⟩
theorem FRow.apart {w : World} {B g : Nat} {v : Value} {L : List Fam} {T : TypeId} {cs : Array Value} (h : FRow w B v L) (hb : Blk w g T cs) (hT : 79 ≠ T) : v.ownBlock ≠ some g := by
  rcases h.block with ⟨rfl, rfl⟩ | ⟨g', cap, cur, rfl, _, hb', _⟩
  · simp [Value.ownBlock]
  · have := hb'.ne_ hb hT
    simpa [Value.ownBlock] using this
theorem only_set1 (w : World) (g : Nat) (p : Addr) (hp : p.block = g) (u : Value) : w.grownBy (w.setCell p u) (some g) := only_setCell (only_refl w (some g)) (.inl hp) u

section
variable {W : World} {cs : Array Value} {e : Ev} {v : Value} {b vb : Nat} {L : List Fam} {w w' : World}
theorem AP.keep (h : AP W cs e v b vb L w) (hb : Below w.heap.size w w') : AP W cs e v b vb L w' :=
  ⟨h.below.trans (hb.mono h.below.size), h.big, h.vbig, h.st.below' hb, h.ev.below' hb, h.re.below' hb, h.var.below' hb, h.row.below hb⟩
theorem AP.nvb (h : AP W cs e v b vb L w) : vb ≠ b ∧ vb ≠ b + 1 ∧ vb ≠ b + 1 + 1 := ⟨h.var.ne_ h.st (by decide), h.var.ne_ h.ev (by decide), h.var.ne_ h.re (by decide)⟩
/-- a cell of the state is set -/
theorem AP.set (h : AP W cs e v b vb L w) (i : Nat) (u : Value) {cs' : Array Value} (hc : cs.setIfInBounds i u = cs') : AP W cs' e v b vb L (w.setCell ⟨b, i, none⟩ u) := by
  obtain ⟨n1, n2, n3⟩ := h.nvb
  refine ⟨h.below.setCell h.big u, h.big, h.vbig, ?_, h.ev.far (by show b + 1 ≠ b; omega) u, h.re.far (by show b + 1 + 1 ≠ b; omega) u, h.var.far n1 u, h.row.kept (only_set1 w b ⟨b, i, none⟩ rfl u) (h.row.apart h.st (by decide))⟩
  rw [← hc]
  exact h.st.set_ i u
/-- the slice goes on in place -/
theorem AP.inRow {g : Nat} {cur : Array Value} (h : AP W cs e v b vb L w) (hblk : Blk w g 79 cur) (hg : W.heap.size ≤ g) {cur' : Array Value} {v' : Value} {L' : List Fam} (hv : v' = v) (hr : FRow (w.setRow g cur') W.heap.size v' L') : AP W cs e v' b vb L' (w.setRow g cur') := by
  subst hv
  have n := only_setRow w g cur'
  have hne : ∀ {g' T cs}, Blk w g' T cs → 79 ≠ T → some g' ≠ some g := fun hb hT => by
    have := hblk.ne_ hb hT
    simpa using Ne.symm this
  exact ⟨h.below.grown n h.below.size (fun k hk => by cases hk; exact hg), h.big, h.vbig, h.st.grown n (hne h.st (by decide)), h.ev.grown n (hne h.ev (by decide)), h.re.grown n (hne h.re (by decide)), h.var.grown n (hne h.var (by decide)), hr⟩
theorem AP.mid (h : AP W cs e v b vb L w) (hg : w.grownBy w' v.ownBlock) : Below W.heap.size W w' ∧ Blk w' b 39 cs ∧ Blk w' (b + 1) 102 (evCs e) ∧ Blk w' (b + 1 + 1) 39 #[.int .i64 0, .int .i64 0, .slice none 0 0] ∧ Blk w' vb 37 #[v] :=
  ⟨h.below.grown hg h.below.size (fun k hk => (h.row.lt k hk).1), h.st.grown hg (Ne.symm (h.row.apart h.st (by decide))), h.ev.grown hg (Ne.symm (h.row.apart h.ev (by decide))), h.re.grown hg (Ne.symm (h.row.apart h.re (by decide))), h.var.grown hg (Ne.symm (h.row.apart h.var (by decide)))⟩
/-- a call that hands back the slice, which is stored -/
theorem AP.go (h : AP W cs e v b vb L w) (hg : w.grownBy w' v.ownBlock) {v' : Value} {L' : List Fam} (hr : FRow w' W.heap.size v' L') : AP W cs e v' b vb L' (w'.setCell ⟨vb, 0, none⟩ v') := by
  obtain ⟨n1, n2, n3⟩ := h.nvb
  obtain ⟨k1, k2, k3, k4, k5⟩ := h.mid hg
  exact ⟨k1.setCell h.vbig v', h.big, h.vbig, k2.far (Ne.symm n1) v', k3.far (Ne.symm n2) v', k4.far (Ne.symm n3) v', k5.set_ 0 v', hr.kept (only_set1 w' vb ⟨vb, 0, none⟩ rfl v') (hr.apart k5 (by decide))⟩
theorem st_cells {k0 k1 k2 : Value} {T T' T'' : TypeId} {z0 z1 z2 : Value} {vb : Nat} {v : Value} (st : Blk w b T #[k0, k1, k2]) (re : Blk w (b + 1 + 1) T' #[z0, z1, z2]) (var : Blk w vb T'' #[v]) : w.cell? ⟨b, 0, none⟩ = some k0 ∧ w.cell? ⟨b, 1, none⟩ = some k1 ∧ w.cell? ⟨b, 2, none⟩ = some k2 ∧ w.cell? ⟨vb, 0, none⟩ = some v ∧
    w.cell? ⟨b + 1 + 1, 0, none⟩ = some z0 ∧ w.cell? ⟨b + 1 + 1, 1, none⟩ = some z1 ∧ w.cell? ⟨b + 1 + 1, 2, none⟩ = some z2 ∧ (∀ j, w.frozen? ⟨b, j, none⟩ = false) ∧ (∀ j, w.frozen? ⟨b + 1 + 1, j, none⟩ = false) ∧ (∀ j, w.frozen? ⟨vb, j, none⟩ = false) :=
  ⟨st.cell 0, st.cell 1, st.cell 2, var.cell 0, re.cell 0, re.cell 1, re.cell 2, st.frozen, re.frozen, var.frozen⟩
theorem AP.cells {k0 k1 k2 : Value} (h : AP W #[k0, k1, k2] e v b vb L w) : w.cell? ⟨b, 0, none⟩ = some k0 ∧ w.cell? ⟨b, 1, none⟩ = some k1 ∧ w.cell? ⟨b, 2, none⟩ = some k2 ∧ w.cell? ⟨vb, 0, none⟩ = some v ∧
    w.cell? ⟨b + 1 + 1, 0, none⟩ = some (.int .i64 0) ∧ w.cell? ⟨b + 1 + 1, 1, none⟩ = some (.int .i64 0) ∧ w.cell? ⟨b + 1 + 1, 2, none⟩ = some (.slice none 0 0) ∧ (∀ j, w.frozen? ⟨b, j, none⟩ = false) ∧ (∀ j, w.frozen? ⟨b + 1 + 1, j, none⟩ = false) ∧ (∀ j, w.frozen? ⟨vb, j, none⟩ = false) := st_cells h.st h.re h.var
end
/-- what event.Apply gives -/
def ApplyGot (W : World) (s' : St) (x : Ending) (w' : World) : Prop := ∃ v', x = .returned (stVal s' v') ∧ FRow w' W.heap.size v' s'.fams ∧ Below W.heap.size W w'
theorem apply_end {W w : World} {A : Act} {s' : St} {e : Ev} {v v0 : Value} {b vb : Nat} {ck nx : Int} (h : AP W #[.int .i64 ck, .int .i64 nx, v0] e v b vb s'.fams w) (h1 : ck = s'.clock) (h2 : nx = s'.next)
    (hp : A.tmps.getD 4 undef = .pointer (some ⟨b + 1 + 1, 0, none⟩)) (hd : A.defers = []) :
    bodyPost Tryz.prog Tryz.f54 (ApplyGot W s') Exit.ret A ((((w.setCell ⟨b, 2, none⟩ v).setCell ⟨b + 1 + 1, 0, none⟩ (.int .i64 ck)).setCell ⟨b + 1 + 1, 1, none⟩ (.int .i64 nx)).setCell ⟨b + 1 + 1, 2, none⟩ v) := by
  subst h1
  subst h2
  have k := h.set 2 v rfl
  have h1 := k.re.put_ 0 (.int .i64 s'.clock) (cs' := #[.int .i64 s'.clock, .int .i64 0, .slice none 0 0]) rfl
  have h2 := h1.put_ 1 (.int .i64 s'.next) (cs' := #[.int .i64 s'.clock, .int .i64 s'.next, .slice none 0 0]) rfl
  have hr := h2.put_ 2 v (cs' := stCs s' v) rfl
  have g1 := only_set1 (w.setCell ⟨b, 2, none⟩ v) (b + 1 + 1) ⟨b + 1 + 1, 0, none⟩ rfl (.int .i64 s'.clock)
  have g2 := only_setCell g1 (p := ⟨b + 1 + 1, 1, none⟩) (.inl rfl) (.int .i64 s'.next)
  have hg := only_setCell g2 (p := ⟨b + 1 + 1, 2, none⟩) (.inl rfl) v
  have hbig := h.big
  have hb := k.below.grown hg k.below.size (fun j hj => by cases hj; omega)
  have hrow := k.row.kept hg (k.row.apart k.re (by decide))
  generalize ((((w.setCell ⟨b, 2, none⟩ v).setCell ⟨b + 1 + 1, 0, none⟩ (.int .i64 s'.clock)).setCell ⟨b + 1 + 1, 1, none⟩ (.int .i64 s'.next)).setCell ⟨b + 1 + 1, 2, none⟩ v) = wz at *
  exact bodyPost_ret (results_cell_row rfl A.tmps wz _ _ _ (0, 0) _ hp hr Tryz.underlying39 rfl (by kernel_rfl)) hd ⟨v, rfl, hrow, hb⟩

/-- the cells behind a store of one family -/
theorem set_cells {L : List Fam} {f : Fam} {xs : List Value} {k c : Nat} (hx : xs.length = c * 9) (ht : xs.take (L.length * 9) = flat L) (hk : k < L.length) (hc : L.length ≤ c) :
    let c1 := xs.take (k * 9) ++ (famCs f).toList ++ xs.drop (k * 9 + (famCs f).toList.length)
    c1.length = c * 9 ∧ c1.take (L.length * 9) = flat (L.set k f) := by
  intro c1
  have hf : (famCs f).toList.length = 9 := rfl
  refine ⟨?_, ?_⟩
  · show (xs.take (k * 9) ++ (famCs f).toList ++ xs.drop (k * 9 + (famCs f).toList.length)).length = _
    simp only [List.length_append, List.length_take, List.length_drop, hf, hx]
    omega
  · have e0 : xs = flat L ++ xs.drop (L.length * 9) := by rw [← ht, List.take_append_drop]
    have e1 : xs.take (k * 9) = flat (L.take k) := by rw [flat_take, ← ht, List.take_take]; congr 1; omega
    have e2 : xs.drop (k * 9 + 9) = flat (L.drop (k + 1)) ++ xs.drop (L.length * 9) := by
      conv => lhs; rw [e0]
      rw [List.drop_append_of_le_length (by rw [flat_len]; omega), flat_drop, show (k + 1) * 9 = k * 9 + 9 by omega]
    have hl : (flat (L.take k) ++ (famCs f).toList ++ flat (L.drop (k + 1))).length = L.length * 9 := by
      simp only [List.length_append, flat_len, hf, List.length_take, List.length_drop]
      omega
    show (xs.take (k * 9) ++ (famCs f).toList ++ xs.drop (k * 9 + (famCs f).toList.length)).take (L.length * 9) = _
    rw [hf, e1, e2, ← List.append_assoc, ← hl, List.take_left, set_parts hk, flat_app, flat_cons, List.append_assoc]
theorem AP.store {W : World} {cs : Array Value} {e : Ev} {b vb g cap k : Nat} {L : List Fam} {w : World} {cur : Array Value} (h : AP W cs e (.slice (some ⟨g, 0, none⟩) L.length cap) b vb L w) (hBg : W.heap.size ≤ g) (hblk : Blk w g 79 cur) (hlc : L.length ≤ cap) (hm : cap ≤ 9223372036854775807) (hc : cur.size = cap * 9) (ht : cur.toList.take (L.length * 9) = flat L) (hk : k < L.length) (f : Fam) :
    AP W cs e (.slice (some ⟨g, 0, none⟩) L.length cap) b vb (L.set k f) (w.setCells g (k * 9) (famCs f).toList) := by
  obtain ⟨k1, k2⟩ := set_cells (f := f) (by rw [Array.length_toList]; exact hc) ht hk hlc
  rw [setCells_row hblk (by show k * 9 + 9 ≤ _; omega) (fun u hu => flat_one (L := [f]) (by simpa [flat] using hu))]
  have hr := FRow.of_block (L := L.set k f) hBg (hblk.row (new := (cur.toList.take (k * 9) ++ (famCs f).toList ++ cur.toList.drop (k * 9 + (famCs f).toList.length)).toArray)) (by rw [List.length_set]; exact hlc) hm (by rw [← Array.length_toList]; exact k1) (by rw [List.length_set]; exact k2)
  rw [List.length_set] at hr
  exact h.inRow hblk hBg rfl hr
theorem there_blk {w : World} {g o n : Nat} {T : TypeId} {cur : Array Value} (h : Blk w g T cur) (hf : o + n ≤ cur.size) : w.there g o n := fun j hj =>
  ⟨by rw [h.cell, Array.getElem?_eq_getElem (by omega)]; rfl, h.frozen _⟩

def allocs (W : World) (s : St) (e : Ev) (v : Value) : World := ((W.alloc (.cells (stCs s v) 39)).alloc (.cells (evCs e) 102)).alloc (.cells #[.int .i64 0, .int .i64 0, .slice none 0 0] 39)
theorem allocs_size (W : World) (s : St) (e : Ev) (v : Value) : (allocs W s e v).heap.size = W.heap.size + 3 := by simp [allocs]
theorem allocs_below (W : World) (s : St) (e : Ev) (v : Value) : Below W.heap.size W (allocs W s e v) :=
  (((Below.refl W.heap.size W).alloc (Nat.le_refl _) _).alloc (by simp) _).alloc (by simp; omega) _
theorem AP.start {W w1 : World} {s : St} {e : Ev} {v v1 : Value} {L : List Fam} (hr : FRow w1 (allocs W s e v).heap.size v1 L) (hb : Below (allocs W s e v).heap.size (allocs W s e v) w1) : AP W (stCs s v) e v1 W.heap.size w1.heap.size L (w1.alloc (.cells #[v1] 37)) := by
  have a1 : Blk (allocs W s e v) W.heap.size 39 (stCs s v) := ((Blk.new W _ _).alloc _).alloc _
  have a2 : Blk (allocs W s e v) (W.heap.size + 1) 102 (evCs e) := by
    have := (Blk.new (W.alloc (.cells (stCs s v) 39)) 102 (evCs e)).alloc (.cells #[.int .i64 0, .int .i64 0, .slice none 0 0] 39)
    simpa [allocs] using this
  have a3 : Blk (allocs W s e v) (W.heap.size + 1 + 1) 39 #[.int .i64 0, .int .i64 0, .slice none 0 0] := by
    have := Blk.new ((W.alloc (.cells (stCs s v) 39)).alloc (.cells (evCs e) 102)) 39 #[.int .i64 0, .int .i64 0, .slice none 0 0]
    simpa [allocs] using this
  have hs := allocs_size W s e v
  have hz := hb.size
  exact ⟨((allocs_below W s e v).trans (hb.mono (by omega))).alloc (by omega) _, Nat.le_refl _, by omega, (a1.below' hb).alloc _, (a2.below' hb).alloc _, (a3.below' hb).alloc _, Blk.new w1 _ _, (hr.below ((Below.refl _ _).alloc (Nat.le_refl _) _)).mono (by omega)⟩

set_option maxHeartbeats 8000000 in
set_option maxRecDepth 100000 in
theorem apply_set (B : Nat) (v : Value) (s : St) (e : Ev) (W : World) (h : FRow W B v s.fams) (hok : StOk s) (hid : okN e.fam.id = true) (hk : e.kind = 1) (hh : hasB s.fams e.fam.id = true) :
    Calls Tryz.prog 54 #[stVal s v, evVal e] W (ApplyGot W (applyS s e)) := by
  have HA := Lib.hid (fun B vb v w (h : FRow w B v s.fams) hv => fam_at B vb v s.fams e.fam.id w h hv hok.len hok.asc hok.ids hid)
  rw [hh] at HA
  have hap : applyS s e = ⟨s.clock, max s.next (e.fam.id + 1), s.fams.set (ahead s.fams e.fam.id) e.fam⟩ := by unfold applyS putL; rw [if_pos hk, if_pos hh]
  have hlt := hasB_lt hh
  generalize applyS s e = s' at *
  have HS := Lib.hid hap
  clear hap hh
  have HC := Lib.hid (fun w (h : FRow w B v s.fams) => fam_clone B v s.fams w h hok.len)
  have H0 := Lib.hid h
  have HK := Lib.hid hok
  clear h hok
  obtain ⟨k, ⟨i, cl, su, sc, ge, ma, us, re, de⟩, id, ti⟩ := e
  obtain ⟨ck, nx, L⟩ := s
  dsimp only at *
  subst hk
  have hin := okN_iff.1 hid
  unfold stVal stCs evVal evCs
  dsimp only
  go_enter Tryz.func54, Tryz.ntmps54
  go_wp2_with fail
  refine (HC.out (allocs W ⟨ck, nx, L⟩ ⟨1, ⟨i, cl, su, sc, ge, ma, us, re, de⟩, id, ti⟩ v) (H0.out.below (allocs_below _ _ _ _))).mono ?_
  rintro e w1 ⟨v1, rfl, hr1, hb1⟩
  obtain ⟨sa, sn, rfl⟩ := hr1.slice
  have HP := Lib.hid (AP.start hr1 hb1)
  obtain ⟨c0, c1, c2, c3, c4, c5, c6, c7, c8, c9, c10, c11⟩ := ev_cells HP.out.ev
  obtain ⟨m0, m1, m2, mv, r0, r1, r2, z0, z1, z2⟩ := HP.out.cells
  clear hr1 hb1 HC H0
  go_wp2_with fail
  go_at_call 102
  refine (HA.out _ _ _ _ HP.out.row (HP.out.var.cell 0)).mono ?_
  rintro e w2 ⟨rfl, hb⟩
  have HP2 := Lib.hid (HP.out.keep hb)
  clear hb c0 c1 c2 c3 c4 c5 c6 c7 c8 c9 c10 c11 m0 m1 m2 mv r0 r1 r2 z0 z1 z2
  generalize w1.heap.size = vb at *
  rcases HP2.out.row.block with ⟨_, hnil⟩ | ⟨g, cap, cur, he, hBg, hblk, hlc, hm, hc, ht⟩
  · rw [hnil] at hlt
    simp at hlt
  simp only [Value.slice.injEq, true_and] at he
  obtain ⟨rfl, rfl⟩ := he
  generalize ahead L i = k at *
  have hth : w2.there g (k * 9) (#[.int .i64 i, .string cl, .string su, .string sc, .int .i64 ge, .int .i64 ma, .int .i64 us, .string re, .bool de] : Array Value).size := there_blk hblk (by show k * 9 + 9 ≤ _; omega)
  have HP3 := Lib.hid (HP2.out.store hBg hblk hlc hm hc ht hlt ⟨i, cl, su, sc, ge, ma, us, re, de⟩)
  obtain ⟨c0, c1, c2, c3, c4, c5, c6, c7, c8, c9, c10, c11⟩ := ev_cells HP2.out.ev
  have mv := HP2.out.var.cell 0
  generalize hw3 : w2.setCells g (k * 9) _ = w3 at HP3
  have HW3 := Lib.hid (show w2.setCells g (k * 9) (#[.int .i64 i, .string cl, .string su, .string sc, .int .i64 ge, .int .i64 ma, .int .i64 us, .string re, .bool de] : Array Value).toList = w3 from hw3)
  obtain ⟨p0, p1, p2, p3, p4, p5, p6, p7, p8, p9, p10, p11⟩ := ev_cells HP3.out.ev
  obtain ⟨q0, q1, q2, qv, r0, r1, r2, z0, z1, z2⟩ := HP3.out.cells
  clear hw3 hblk hc ht hlc hm hBg
  have hsi : (Tryz.prog.info? 79).map (·.size) = some (#[.int .i64 i, .string cl, .string su, .string sc, .int .i64 ge, .int .i64 ma, .int .i64 us, .string re, .bool de] : Array Value).size := famSize
  have hsh : (#[.int .i64 i, .string cl, .string su, .string sc, .int .i64 ge, .int .i64 ma, .int .i64 us, .string re, .bool de] : Array Value).all (·.oneCell') = true := by simp [Value.oneCell']
  go_wp2_with (with_reducible refine wpList_store_mid ?sg 79 (.tmp 32) (.tmp 31) ?so g (k * 9) #[.int .i64 i, .string cl, .string su, .string sc, .int .i64 ge, .int .i64 ma, .int .i64 us, .string re, .bool de] ?sx ?sy hth hsi hsh ?_; (case so => rfl); go_loud (case sg => rfl); go_loud (case sx => simp [Act.eval]); go_loud (case sy => simp [Act.eval]); go_loud (rw [HW3.out]); clear c0 c1 c2 c3 c4 c5 c6 c7 c8 c9 c10 c11 mv)
  obtain rfl := HS.out
  exact apply_end (HP3.out.set 1 (.int .i64 (max nx (i + 1))) rfl) rfl rfl rfl rfl

set_option maxHeartbeats 8000000 in
set_option maxRecDepth 100000 in
theorem apply_new (B : Nat) (v : Value) (s : St) (e : Ev) (W : World) (h : FRow W B v s.fams) (hok : StOk s) (hid : okN e.fam.id = true) (hk : e.kind = 1) (hh : hasB s.fams e.fam.id = false) :
    Calls Tryz.prog 54 #[stVal s v, evVal e] W (ApplyGot W (applyS s e)) := by
  have HA := Lib.hid (fun B vb v w (h : FRow w B v s.fams) hv => fam_at B vb v s.fams e.fam.id w h hv hok.len hok.asc hok.ids hid)
  rw [hh] at HA
  have hap : applyS s e = ⟨s.clock, max s.next (e.fam.id + 1), s.fams.take (ahead s.fams e.fam.id) ++ e.fam :: s.fams.drop (ahead s.fams e.fam.id)⟩ := by unfold applyS putL; rw [if_pos hk, if_neg (by rw [hh]; decide)]
  have hlt := ahead_le s.fams e.fam.id
  generalize applyS s e = s' at *
  have HS := Lib.hid hap
  clear hap hh
  have HC := Lib.hid (fun w (h : FRow w B v s.fams) => fam_clone B v s.fams w h hok.len)
  have H0 := Lib.hid h
  have HK := Lib.hid hok
  clear h hok
  obtain ⟨k, ⟨i, cl, su, sc, ge, ma, us, re, de⟩, id, ti⟩ := e
  obtain ⟨ck, nx, L⟩ := s
  dsimp only at *
  subst hk
  have hin := okN_iff.1 hid
  unfold stVal stCs evVal evCs
  dsimp only
  go_enter Tryz.func54, Tryz.ntmps54
  go_wp2_with fail
  refine (HC.out (allocs W ⟨ck, nx, L⟩ ⟨1, ⟨i, cl, su, sc, ge, ma, us, re, de⟩, id, ti⟩ v) (H0.out.below (allocs_below _ _ _ _))).mono ?_
  rintro e w1 ⟨v1, rfl, hr1, hb1⟩
  obtain ⟨sa, sn, rfl⟩ := hr1.slice
  have HP := Lib.hid (AP.start hr1 hb1)
  obtain ⟨c0, c1, c2, c3, c4, c5, c6, c7, c8, c9, c10, c11⟩ := ev_cells HP.out.ev
  obtain ⟨m0, m1, m2, mv, r0, r1, r2, z0, z1, z2⟩ := HP.out.cells
  clear hr1 hb1 HC H0
  go_wp2_with fail
  go_at_call 102
  refine (HA.out _ _ _ _ HP.out.row (HP.out.var.cell 0)).mono ?_
  rintro e w2 ⟨rfl, hb⟩
  have HP2 := Lib.hid (HP.out.keep hb)
  clear hb c0 c1 c2 c3 c4 c5 c6 c7 c8 c9 c10 c11 m0 m1 m2 mv r0 r1 r2 z0 z1 z2
  generalize w1.heap.size = vb at *
  generalize ahead L i = k at *
  obtain ⟨c0, c1, c2, c3, c4, c5, c6, c7, c8, c9, c10, c11⟩ := ev_cells HP2.out.ev
  obtain ⟨m0, m1, m2, mv, r0, r1, r2, z0, z1, z2⟩ := HP2.out.cells
  go_wp2_with fail
  go_at_call 105
  refine (fam_insert W.heap.size w2.heap.size k _ L ⟨i, cl, su, sc, ge, ma, us, re, de⟩ _ (HP2.out.row.below ((Below.refl _ _).alloc (Nat.le_refl _) _)) hlt HK.out.len (by have := HP2.out.below.size; simp; omega) (Blk.new w2 _ _) (fun hx => by have := (HP2.out.row.lt _ hx).2; omega)).mono ?_
  rintro e w3 ⟨v3, rfl, hr3, hb3⟩
  have hpa := HP2.out.keep ((Below.refl _ _).alloc (Nat.le_refl _) (.cells (famCs ⟨i, cl, su, sc, ge, ma, us, re, de⟩) 79))
  have HP3 := Lib.hid (hpa.go hb3 hr3)
  have HM := Lib.hid (hpa.mid hb3)
  clear c0 c1 c2 c3 c4 c5 c6 c7 c8 c9 c10 c11 m0 m1 m2 mv r0 r1 r2 z0 z1 z2
  obtain ⟨c0, c1, c2, c3, c4, c5, c6, c7, c8, c9, c10, c11⟩ := ev_cells HM.out.2.2.1
  obtain ⟨m0, m1, m2, mv, r0, r1, r2, z0, z1, z2⟩ := st_cells HM.out.2.1 HM.out.2.2.2.1 HM.out.2.2.2.2
  obtain ⟨n1, n2, n3⟩ := HP2.out.nvb
  obtain ⟨sb, sl, sm, rfl⟩ : ∃ a n c, v3 = .slice a n c := by obtain ⟨a, c, hx⟩ := hr3.slice; exact ⟨_, _, _, hx⟩
  clear hpa hb3 hr3
  go_wp2_with fail
  obtain rfl := HS.out
  exact apply_end (HP3.out.set 1 (.int .i64 (max nx (i + 1))) rfl) rfl rfl rfl rfl

set_option maxHeartbeats 8000000 in
set_option maxRecDepth 100000 in
theorem apply_drop (B : Nat) (v : Value) (s : St) (e : Ev) (W : World) (h : FRow W B v s.fams) (hok : StOk s) (hid : okN e.id = true) (hk : e.kind = 2) (hh : hasB s.fams e.id = true) :
    Calls Tryz.prog 54 #[stVal s v, evVal e] W (ApplyGot W (applyS s e)) := by
  have HA := Lib.hid (fun B vb v w (h : FRow w B v s.fams) hv => fam_at B vb v s.fams e.id w h hv hok.len hok.asc hok.ids hid)
  rw [hh] at HA
  have hap : applyS s e = ⟨s.clock, s.next, s.fams.take (ahead s.fams e.id) ++ s.fams.drop (ahead s.fams e.id + 1)⟩ := by unfold applyS dropL; rw [if_neg (by omega), if_pos hk, if_pos hh]
  have hlt := hasB_lt hh
  have hlen := hok.len
  have hk1 : ¬ e.kind = 1 := by omega
  generalize applyS s e = s' at *
  have HS := Lib.hid hap
  clear hap hh
  have HC := Lib.hid (fun w (h : FRow w B v s.fams) => fam_clone B v s.fams w h hok.len)
  have H0 := Lib.hid h
  have HK := Lib.hid hok
  clear h hok
  obtain ⟨k, ⟨i, cl, su, sc, ge, ma, us, re, de⟩, id, ti⟩ := e
  obtain ⟨ck, nx, L⟩ := s
  dsimp only at *
  subst hk
  have hin := okN_iff.1 hid
  unfold stVal stCs evVal evCs
  dsimp only
  go_enter Tryz.func54, Tryz.ntmps54
  go_wp2_with fail
  refine (HC.out (allocs W ⟨ck, nx, L⟩ ⟨2, ⟨i, cl, su, sc, ge, ma, us, re, de⟩, id, ti⟩ v) (H0.out.below (allocs_below _ _ _ _))).mono ?_
  rintro e w1 ⟨v1, rfl, hr1, hb1⟩
  obtain ⟨sa, sn, rfl⟩ := hr1.slice
  have HP := Lib.hid (AP.start hr1 hb1)
  obtain ⟨c0, c1, c2, c3, c4, c5, c6, c7, c8, c9, c10, c11⟩ := ev_cells HP.out.ev
  obtain ⟨m0, m1, m2, mv, r0, r1, r2, z0, z1, z2⟩ := HP.out.cells
  clear hr1 hb1 HC H0
  go_wp2_with fail
  go_at_call 102
  refine (HA.out _ _ _ _ HP.out.row (HP.out.var.cell 0)).mono ?_
  rintro e w2 ⟨rfl, hb⟩
  have HP2 := Lib.hid (HP.out.keep hb)
  clear hb c0 c1 c2 c3 c4 c5 c6 c7 c8 c9 c10 c11 m0 m1 m2 mv r0 r1 r2 z0 z1 z2
  generalize w1.heap.size = vb at *
  generalize ahead L id = k at *
  obtain ⟨c0, c1, c2, c3, c4, c5, c6, c7, c8, c9, c10, c11⟩ := ev_cells HP2.out.ev
  obtain ⟨m0, m1, m2, mv, r0, r1, r2, z0, z1, z2⟩ := HP2.out.cells
  have hkw : wrap64 ((k : Int) + 1) = (k : Int) + 1 := IntWalk.wrap64_in _ (by omega)
  go_wp2_with fail
  go_at_call 106
  refine (fam_delete W.heap.size k _ L _ HP2.out.row hlt HK.out.len).mono ?_
  rintro e w3 ⟨v3, rfl, hr3, hb3⟩
  have HP3 := Lib.hid (HP2.out.go hb3 hr3)
  have HM := Lib.hid (HP2.out.mid hb3)
  clear c0 c1 c2 c3 c4 c5 c6 c7 c8 c9 c10 c11 m0 m1 m2 mv r0 r1 r2 z0 z1 z2
  obtain ⟨c0, c1, c2, c3, c4, c5, c6, c7, c8, c9, c10, c11⟩ := ev_cells HM.out.2.2.1
  obtain ⟨m0, m1, m2, mv, r0, r1, r2, z0, z1, z2⟩ := st_cells HM.out.2.1 HM.out.2.2.2.1 HM.out.2.2.2.2
  obtain ⟨n1, n2, n3⟩ := HP2.out.nvb
  obtain ⟨sb, sl, sm, rfl⟩ : ∃ a n c, v3 = .slice a n c := by obtain ⟨a, c, hx⟩ := hr3.slice; exact ⟨_, _, _, hx⟩
  clear hb3 hr3
  go_wp2_with fail
  obtain rfl := HS.out
  exact apply_end HP3.out rfl rfl rfl rfl

set_option maxHeartbeats 8000000 in
set_option maxRecDepth 100000 in
theorem apply_none (B : Nat) (v : Value) (s : St) (e : Ev) (W : World) (h : FRow W B v s.fams) (hok : StOk s) (hid : okN e.id = true) (hk : e.kind = 2) (hh : hasB s.fams e.id = false) :
    Calls Tryz.prog 54 #[stVal s v, evVal e] W (ApplyGot W (applyS s e)) := by
  have HA := Lib.hid (fun B vb v w (h : FRow w B v s.fams) hv => fam_at B vb v s.fams e.id w h hv hok.len hok.asc hok.ids hid)
  rw [hh] at HA
  have hap : applyS s e = s := by unfold applyS dropL; rw [if_neg (by omega), if_pos hk, if_neg (by rw [hh]; decide)]
  have hlt := ahead_le s.fams e.id
  have hlen := hok.len
  have hk1 : ¬ e.kind = 1 := by omega
  generalize applyS s e = s' at *
  have HS := Lib.hid hap
  clear hap hh
  have HC := Lib.hid (fun w (h : FRow w B v s.fams) => fam_clone B v s.fams w h hok.len)
  have H0 := Lib.hid h
  have HK := Lib.hid hok
  clear h hok
  obtain ⟨k, ⟨i, cl, su, sc, ge, ma, us, re, de⟩, id, ti⟩ := e
  obtain ⟨ck, nx, L⟩ := s
  dsimp only at *
  subst hk
  have hin := okN_iff.1 hid
  unfold stVal stCs evVal evCs
  dsimp only
  go_enter Tryz.func54, Tryz.ntmps54
  go_wp2_with fail
  refine (HC.out (allocs W ⟨ck, nx, L⟩ ⟨2, ⟨i, cl, su, sc, ge, ma, us, re, de⟩, id, ti⟩ v) (H0.out.below (allocs_below _ _ _ _))).mono ?_
  rintro e w1 ⟨v1, rfl, hr1, hb1⟩
  obtain ⟨sa, sn, rfl⟩ := hr1.slice
  have HP := Lib.hid (AP.start hr1 hb1)
  obtain ⟨c0, c1, c2, c3, c4, c5, c6, c7, c8, c9, c10, c11⟩ := ev_cells HP.out.ev
  obtain ⟨m0, m1, m2, mv, r0, r1, r2, z0, z1, z2⟩ := HP.out.cells
  clear hr1 hb1 HC H0
  go_wp2_with fail
  go_at_call 102
  refine (HA.out _ _ _ _ HP.out.row (HP.out.var.cell 0)).mono ?_
  rintro e w2 ⟨rfl, hb⟩
  have HP2 := Lib.hid (HP.out.keep hb)
  clear hb c0 c1 c2 c3 c4 c5 c6 c7 c8 c9 c10 c11 m0 m1 m2 mv r0 r1 r2 z0 z1 z2
  generalize w1.heap.size = vb at *
  obtain ⟨c0, c1, c2, c3, c4, c5, c6, c7, c8, c9, c10, c11⟩ := ev_cells HP2.out.ev
  obtain ⟨m0, m1, m2, mv, r0, r1, r2, z0, z1, z2⟩ := HP2.out.cells
  go_wp2_with fail
  obtain rfl := HS.out
  exact apply_end HP2.out rfl rfl rfl rfl

set_option maxHeartbeats 8000000 in
set_option maxRecDepth 100000 in
theorem apply_clock (B : Nat) (v : Value) (s : St) (e : Ev) (W : World) (h : FRow W B v s.fams) (hok : StOk s) (hk : e.kind = 3) :
    Calls Tryz.prog 54 #[stVal s v, evVal e] W (ApplyGot W (applyS s e)) := by
  have hap : applyS s e = ⟨e.time, s.next, s.fams⟩ := by unfold applyS; rw [if_neg (by omega), if_neg (by omega), if_pos hk]
  generalize applyS s e = s' at *
  have HS := Lib.hid hap
  have hid : okN 0 = true := by decide
  clear hap
  have HC := Lib.hid (fun w (h : FRow w B v s.fams) => fam_clone B v s.fams w h hok.len)
  have H0 := Lib.hid h
  have HK := Lib.hid hok
  clear h hok
  obtain ⟨k, ⟨i, cl, su, sc, ge, ma, us, re, de⟩, id, ti⟩ := e
  obtain ⟨ck, nx, L⟩ := s
  dsimp only at *
  subst hk
  have hin := okN_iff.1 hid
  unfold stVal stCs evVal evCs
  dsimp only
  go_enter Tryz.func54, Tryz.ntmps54
  go_wp2_with fail
  refine (HC.out (allocs W ⟨ck, nx, L⟩ ⟨3, ⟨i, cl, su, sc, ge, ma, us, re, de⟩, id, ti⟩ v) (H0.out.below (allocs_below _ _ _ _))).mono ?_
  rintro e w1 ⟨v1, rfl, hr1, hb1⟩
  obtain ⟨sa, sn, rfl⟩ := hr1.slice
  have HP := Lib.hid (AP.start hr1 hb1)
  obtain ⟨c0, c1, c2, c3, c4, c5, c6, c7, c8, c9, c10, c11⟩ := ev_cells HP.out.ev
  obtain ⟨m0, m1, m2, mv, r0, r1, r2, z0, z1, z2⟩ := HP.out.cells
  obtain ⟨n1, n2, n3⟩ := HP.out.nvb
  clear hr1 hb1 HC H0
  go_wp2_with fail
  obtain rfl := HS.out
  exact apply_end (HP.out.set 0 (.int .i64 ti) rfl) rfl rfl rfl rfl

set_option maxHeartbeats 8000000 in
set_option maxRecDepth 100000 in
theorem apply_other (B : Nat) (v : Value) (s : St) (e : Ev) (W : World) (h : FRow W B v s.fams) (hok : StOk s) (hk1 : ¬ e.kind = 1) (hk2 : ¬ e.kind = 2) (hk3 : ¬ e.kind = 3) :
    Calls Tryz.prog 54 #[stVal s v, evVal e] W (ApplyGot W (applyS s e)) := by
  have hap : applyS s e = s := by unfold applyS; rw [if_neg hk1, if_neg hk2, if_neg hk3]
  generalize applyS s e = s' at *
  have HS := Lib.hid hap
  have hid : okN 0 = true := by decide
  clear hap
  have HC := Lib.hid (fun w (h : FRow w B v s.fams) => fam_clone B v s.fams w h hok.len)
  have H0 := Lib.hid h
  have HK := Lib.hid hok
  clear h hok
  obtain ⟨k, ⟨i, cl, su, sc, ge, ma, us, re, de⟩, id, ti⟩ := e
  obtain ⟨ck, nx, L⟩ := s
  dsimp only at *
  have hx := hk1
  have hin := okN_iff.1 hid
  unfold stVal stCs evVal evCs
  dsimp only
  go_enter Tryz.func54, Tryz.ntmps54
  go_wp2_with fail
  refine (HC.out (allocs W ⟨ck, nx, L⟩ ⟨k, ⟨i, cl, su, sc, ge, ma, us, re, de⟩, id, ti⟩ v) (H0.out.below (allocs_below _ _ _ _))).mono ?_
  rintro e w1 ⟨v1, rfl, hr1, hb1⟩
  obtain ⟨sa, sn, rfl⟩ := hr1.slice
  have HP := Lib.hid (AP.start hr1 hb1)
  obtain ⟨c0, c1, c2, c3, c4, c5, c6, c7, c8, c9, c10, c11⟩ := ev_cells HP.out.ev
  obtain ⟨m0, m1, m2, mv, r0, r1, r2, z0, z1, z2⟩ := HP.out.cells
  clear hr1 hb1 HC H0
  go_wp2_with fail
  obtain rfl := HS.out
  exact apply_end HP.out rfl rfl rfl rfl

/-- event.Apply -/
theorem ev_apply (B : Nat) (v : Value) (s : St) (e : Ev) (W : World) (h : FRow W B v s.fams) (hok : StOk s) (h1 : e.kind = 1 → okN e.fam.id = true) (h2 : e.kind = 2 → okN e.id = true) :
    Calls Tryz.prog 54 #[stVal s v, evVal e] W (ApplyGot W (applyS s e)) := by
  by_cases hk1 : e.kind = 1
  · cases hh : hasB s.fams e.fam.id with
    | true => exact apply_set B v s e W h hok (h1 hk1) hk1 hh
    | false => exact apply_new B v s e W h hok (h1 hk1) hk1 hh
  · by_cases hk2 : e.kind = 2
    · cases hh : hasB s.fams e.id with
      | true => exact apply_drop B v s e W h hok (h2 hk2) hk2 hh
      | false => exact apply_none B v s e W h hok (h2 hk2) hk2 hh
    · by_cases hk3 : e.kind = 3
      · exact apply_clock B v s e W h hok hk3
      · exact apply_other B v s e W h hok hk1 hk2 hk3
theorem okN_one {e : Ev} (he : evB e = true) : e.kind = 1 → okN e.fam.id = true := fun hk => by
  rcases evB_kind he with ⟨_, _, _, hf⟩ | ⟨h1, _⟩ | ⟨h1, _⟩
  · exact (famB_parts hf).1
  · omega
  · omega
theorem okN_two {e : Ev} (he : evB e = true) : e.kind = 2 → okN e.id = true := fun hk => by
  rcases evB_kind he with ⟨h1, _⟩ | ⟨_, _, _, h2⟩ | ⟨h1, _⟩
  · omega
  · exact h2
  · omega
/-- what Apply gives, told apart -/
def GotAs (w0 : World) (ck nx : Int) (L : List Fam) (x : Ending) (w' : World) : Prop := ∃ a c, x = .returned (.agg #[.int .i64 ck, .int .i64 nx, .slice a L.length c]) ∧ FRow w' w0.heap.size (.slice a L.length c) L ∧ Below w0.heap.size w0 w'
theorem got_as {w0 : World} {s' : St} {x : Ending} {w' : World} (h : ApplyGot w0 s' x w') : GotAs w0 s'.clock s'.next s'.fams x w' := by
  obtain ⟨v, rfl, hr, hb⟩ := h
  obtain ⟨a, c, rfl⟩ := hr.slice
  exact ⟨a, c, rfl, hr, hb⟩
end Go.Proofs.YtckohmhhcknmaaaGreatDoor

/-
  plain.Same: are two states the same? It says so of the same ones.
-/
namespace Go.Proofs.YtckohmhhcknmaaaGreatDoor
open Go.RowKit Go.Sort

/-- two families held against each other -/
theorem fam_neq (f g : Fam) : ∃ q : Bool, (∀ w : World, (binOp .neq 79 (famVal f) (famVal g)).run Tryz.prog w = .ok (.bool q) w) ∧ (f = g → q = false) := by
  obtain ⟨i, cl, su, sc, ge, ma, us, re, de⟩ := f
  obtain ⟨i', cl', su', sc', ge', ma', us', re', de'⟩ := g
  refine ⟨!((i == i') && (cl.toList == cl'.toList) && (su.toList == su'.toList) && (sc.toList == sc'.toList) && (ge == ge') && (ma == ma') && (us == us') && (re.toList == re'.toList) && (de == de')), fun w => ?_, ?_⟩
  · unfold famVal famCs
    go_simp
    repeat' split
    all_goals simp [*]
  · intro h
    simp only [Fam.mk.injEq] at h
    obtain ⟨rfl, rfl, rfl, rfl, rfl, rfl, rfl, rfl, rfl⟩ := h
    simp
theorem FRow.lit {w : World} {B n c : Nat} {a : Option Addr} {L : List Fam} (h : FRow w B (.slice a n c) L) {k : Nat} (hk : k < L.length) : ∃ g, a = some ⟨g, 0, none⟩ ∧ n = L.length ∧ FRow w B (.slice (some ⟨g, 0, none⟩) L.length c) L := by
  rcases h.parts with ⟨e, rfl⟩ | ⟨g, cap, e, _⟩
  · simp at hk
  · simp only [Value.slice.injEq] at e
    obtain ⟨rfl, rfl, rfl⟩ := e
    exact ⟨g, rfl, rfl, h⟩

/-- true, where it must be -/
def SameGot (W : World) (p : Prop) (e : Ending) (w' : World) : Prop := ∃ q : Bool, e = .returned (.bool q) ∧ (p → q = true) ∧ Below W.heap.size W w'

set_option maxHeartbeats 4000000 in
set_option maxRecDepth 100000 in
theorem plain_same_ (S : Prop) (B B' : Nat) (va vb : Value) (sa sb : St) (W : World) (hS : S → sa = sb) (ha : FRow W B va sa.fams) (hb : FRow W B' vb sb.fams) (hl : sa.fams.length ≤ 1000000) :
    Calls Tryz.prog 15 #[stVal sa va, stVal sb vb] W (SameGot W S) := by
  have HS := Lib.hid hS
  clear hS
  obtain ⟨aa, ca, rfl⟩ := ha.slice
  obtain ⟨ab, cb, rfl⟩ := hb.slice
  obtain ⟨k1, n1, La⟩ := sa
  obtain ⟨k2, n2, Lb⟩ := sb
  dsimp only at *
  have hbe : Below W.heap.size W ((W.alloc (.cells #[.int .i64 k1, .int .i64 n1, .slice aa La.length ca] 39)).alloc (.cells #[.int .i64 k2, .int .i64 n2, .slice ab Lb.length cb] 39)) := ((Below.refl _ _).alloc (Nat.le_refl _) _).alloc (by simp) _
  have HA := Lib.hid (ha.below hbe)
  have HB := Lib.hid (hb.below hbe)
  have HE := Lib.hid hbe
  clear ha hb hbe
  unfold stVal stCs
  dsimp only
  by_cases h1 : k1 = k2
  · by_cases h2 : n1 = n2
    · by_cases h3 : La.length = Lb.length
      · subst h1 h2
        have HL := Lib.hid h3
        have h3' : ((La.length : Int) != (Lb.length : Int)) = false := by rw [h3]; simp
        clear h3
        go_enter Tryz.func15, Tryz.ntmps15
        go_wp2_with fail
        go_loopw [30] (fun i wr => ∃ k q : Nat, k ≤ La.length ∧ i = .int .i64 k ∧ wr = ((W.alloc (.cells #[.int .i64 k1, .int .i64 n1, .slice aa La.length ca] 39)).alloc (.cells #[.int .i64 k1, .int .i64 n1, .slice ab Lb.length cb] 39)).drewN q) (fun i _ => La.length - (intOf i).toNat)
        case atStart => exact ⟨0, 0, Nat.zero_le _, rfl, rfl⟩
        case round =>
          obtain ⟨k, q, hk, rfl, rfl⟩ := hrel
          by_cases hlt : k < La.length
          · have hlt' : k < Lb.length := by rw [← HL.out]; exact hlt
            obtain ⟨ga, rfl, _, ra⟩ := HA.out.lit hlt
            obtain ⟨gb, rfl, _, rb⟩ := HB.out.lit hlt'
            obtain ⟨f, hf⟩ : ∃ f, La[k]? = some f := ⟨_, List.getElem?_eq_getElem hlt⟩
            obtain ⟨g, hg⟩ : ∃ g, Lb[k]? = some g := ⟨_, List.getElem?_eq_getElem hlt'⟩
            obtain ⟨p, hp, hpe⟩ := fam_neq f g
            have hpp : p = true → ¬ S := by
              intro h e
              have e := HS.out e
              simp only [St.mk.injEq, true_and] at e
              rw [e, hg] at hf
              have := hpe (Option.some.inj hf).symm
              rw [h] at this
              cases this
            have HPP := Lib.hid hpp
            obtain ⟨i, cl, su, sc, ge, ma, us, re, de⟩ := f
            obtain ⟨i', cl', su', sc', ge', ma', us', re', de'⟩ := g
            obtain ⟨c0, c1, c2, c3, c4, c5, c6, c7, c8⟩ := ra.nine hf
            obtain ⟨d0, d1, d2, d3, d4, d5, d6, d7, d8⟩ := rb.nine hg
            unfold famVal famCs at hp
            dsimp only at hp
            have h0 : (0 : Int) ≤ (k : Int) := by omega
            have h1 : (k : Int) < (La.length : Int) := by omega
            have h1' : (k : Int) < (Lb.length : Int) := by omega
            clear hf hg hpe hpp ra rb
            go_wp2_with fail
            go_quiet (fail)
            cases p
            · go_wp2_with fail
              go_roundw
              case rel => exact ⟨k + 1, _, by omega, by go_num, rfl⟩
              case measure => simp [intOf]; omega
            · go_wp2_with fail
              go_ret
              exact ⟨_, rfl, fun e => absurd e (HPP.out (by first | rfl | trivial)), below_drewN HE.out _⟩
          · go_wp2_with fail
            go_ret
            exact ⟨_, rfl, fun _ => rfl, below_drewN HE.out _⟩
      · have h3' : ((La.length : Int) != (Lb.length : Int)) = true := by simp; omega
        have HX := Lib.hid (show ¬ S from fun e => h3 (congrArg (fun s : St => s.fams.length) (HS.out e)))
        subst h1 h2
        clear h3
        go_enter Tryz.func15, Tryz.ntmps15
        go_wp2_with fail
        go_ret
        exact ⟨_, rfl, fun e => absurd e HX.out, HE.out⟩
    · have HX := Lib.hid (show ¬ S from fun e => h2 (congrArg (fun s : St => s.next) (HS.out e)))
      subst h1
      go_enter Tryz.func15, Tryz.ntmps15
      go_wp2_with fail
      go_ret
      exact ⟨_, rfl, fun e => absurd e HX.out, HE.out⟩
  · have HX := Lib.hid (show ¬ S from fun e => h1 (congrArg (fun s : St => s.clock) (HS.out e)))
    go_enter Tryz.func15, Tryz.ntmps15
    go_wp2_with fail
    go_ret
    exact ⟨_, rfl, fun e => absurd e HX.out, HE.out⟩
end Go.Proofs.YtckohmhhcknmaaaGreatDoor

/-
  A store's block; its small methods: Log, Down, fail, State; slot.
-/
namespace Go.Proofs.YtckohmhhcknmaaaGreatDoor
open Go.RowKit Go.Sort

def storeCs (db : Nat) (s : St) (v : Value) (n f x : Int) (down : Bool) : Array Value := #[.pointer (some ⟨db, 0, none⟩), .int .i64 s.clock, .int .i64 s.next, v, .int .i64 n, .int .i64 f, .int .i64 x, .bool down]
/-- a store at a block -/
def StAt (w : World) (sb db : Nat) (s : St) (v : Value) (n f x : Int) (down : Bool) : Prop := Blk w sb 117 (storeCs db s v n f x down)
theorem StAt.cells {w : World} {sb db : Nat} {ck nx : Int} {L : List Fam} {v : Value} {n f x : Int} {down : Bool} (h : StAt w sb db ⟨ck, nx, L⟩ v n f x down) :
    w.cell? ⟨sb, 0, none⟩ = some (.pointer (some ⟨db, 0, none⟩)) ∧ w.cell? ⟨sb, 1, none⟩ = some (.int .i64 ck) ∧ w.cell? ⟨sb, 2, none⟩ = some (.int .i64 nx) ∧ w.cell? ⟨sb, 3, none⟩ = some v ∧ w.cell? ⟨sb, 4, none⟩ = some (.int .i64 n) ∧
    w.cell? ⟨sb, 5, none⟩ = some (.int .i64 f) ∧ w.cell? ⟨sb, 6, none⟩ = some (.int .i64 x) ∧ w.cell? ⟨sb, 7, none⟩ = some (.bool down) ∧ (∀ j, w.frozen? ⟨sb, j, none⟩ = false) ∧ sb < w.heap.size :=
  ⟨Blk.cell h 0, Blk.cell h 1, Blk.cell h 2, Blk.cell h 3, Blk.cell h 4, Blk.cell h 5, Blk.cell h 6, Blk.cell h 7, Blk.frozen h, Blk.lt h⟩

theorem two_cells {w : World} {g : Nat} {T : TypeId} {k0 k1 k2 : Value} (h : Blk w g T #[k0, k1, k2]) : w.cell? ⟨g, 0, none⟩ = some k0 ∧ w.cell? ⟨g, 1, none⟩ = some k1 ∧ w.cell? ⟨g, 2, none⟩ = some k2 := ⟨h.cell 0, h.cell 1, h.cell 2⟩
theorem store_log (sb db : Nat) (s : St) (v : Value) (n f x : Int) (down : Bool) (W : World) (h : StAt W sb db s v n f x down) (h0 : 0 ≤ f) (h1 : f ≤ x) (h2 : x ≤ 1000000) :
    Calls Tryz.prog 80 #[.pointer (some ⟨sb, 0, none⟩)] W fun e w' => e = .returned (.int .i64 (x - f)) ∧ Below W.heap.size W w' := by
  obtain ⟨ck, nx, L⟩ := s
  obtain ⟨c0, c1, c2, c3, c4, c5, c6, c7, z, hlt⟩ := h.cells
  clear h
  go_enter Tryz.func80, Tryz.ntmps80
  go_wp2_with fail
  go_quiet (fail)
  go_wp2_with fail
  go_ret
  exact ⟨rfl, below_drewN (Below.refl _ _) _⟩
theorem store_slot (n : Int) (W : World) (h0 : 0 ≤ n) (_ : n ≤ 1000001) : Calls Tryz.prog 70 #[.int .i64 n] W fun e w' => e = .returned (.int .i64 (slotAt (n % 2).toNat : Nat)) ∧ W = w' := by
  have h3 : n % 2 = 0 ∨ n % 2 = 1 := by omega
  have hr : n.tmod 2 = n % 2 := by exact Int.tmod_eq_emod_of_nonneg h0
  have hs : (slotAt (n % 2).toNat : Int) = 16 + n % 2 * 21 := by
    rcases h3 with h | h <;> rw [h] <;> decide
  rw [hs]
  have HR := Lib.hid hr
  go_enter Tryz.func70, Tryz.ntmps70
  go_wp2_with fail
  go_ret
  refine ⟨?_, rfl⟩
  show Ending.returned (Value.int _ _) = _
  congr 2
/-- fail: the power went off -/
theorem store_fail (sb db : Nat) (s : St) (v : Value) (n f x : Int) (down : Bool) (W : World) (h : StAt W sb db s v n f x down) :
    Calls Tryz.prog 73 #[.pointer (some ⟨sb, 0, none⟩), .iface 35 (.int .i64 14)] W fun e w' => e = .returned (.iface 35 (.int .i64 14)) ∧ StAt w' sb db s v n f x true ∧ W.grownBy w' (some sb) := by
  obtain ⟨ck, nx, L⟩ := s
  obtain ⟨c0, c1, c2, c3, c4, c5, c6, c7, z, hlt⟩ := h.cells
  have HS := Lib.hid (show StAt (W.setCell ⟨sb, 7, none⟩ (.bool true)) sb db ⟨ck, nx, L⟩ v n f x true from Blk.put_ h 7 (.bool true) rfl)
  have HG := Lib.hid (only_set1 W sb ⟨sb, 7, none⟩ rfl (.bool true))
  clear h
  cases down
  all_goals
    go_enter Tryz.func73, Tryz.ntmps73
    go_wp2_with fail
    go_ret
    exact ⟨rfl, HS.out, HG.out⟩
/-- State: a copy of what it has -/
theorem state_end {W w : World} {A : Act} {s : St} {v : Value} (hr : FRow w W.heap.size v s.fams) (h1 : v.ownBlock ≠ some W.heap.size) (h2 : v.ownBlock ≠ some (W.heap.size + 1)) (hb : Below W.heap.size W w)
    (h3 : Blk w W.heap.size 39 #[.int .i64 0, .int .i64 0, .slice none 0 0]) 
    (hp : A.tmps.getD 2 undef = .pointer (some ⟨W.heap.size, 0, none⟩)) (hd : A.defers = []) :
    bodyPost Tryz.prog Tryz.f39 (ApplyGot W s) Exit.ret A ((((w.setCell ⟨W.heap.size + 1, 2, none⟩ v).setCell ⟨W.heap.size, 0, none⟩ (.int .i64 s.clock)).setCell ⟨W.heap.size, 1, none⟩ (.int .i64 s.next)).setCell ⟨W.heap.size, 2, none⟩ v) := by
  have g0 := only_set1 w (W.heap.size + 1) ⟨W.heap.size + 1, 2, none⟩ rfl v
  have k3 := h3.grown g0 (by simp)
  have kr := hr.kept g0 h2
  have kb := hb.setCell (p := ⟨W.heap.size + 1, 2, none⟩) (Nat.le_succ _) v
  generalize w.setCell ⟨W.heap.size + 1, 2, none⟩ v = w1 at *
  have e1 := k3.put_ 0 (.int .i64 s.clock) (cs' := #[.int .i64 s.clock, .int .i64 0, .slice none 0 0]) rfl
  have e2 := e1.put_ 1 (.int .i64 s.next) (cs' := #[.int .i64 s.clock, .int .i64 s.next, .slice none 0 0]) rfl
  have e3 := e2.put_ 2 v (cs' := stCs s v) rfl
  have g1 := only_set1 w1 W.heap.size ⟨W.heap.size, 0, none⟩ rfl (.int .i64 s.clock)
  have g2 := only_setCell g1 (p := ⟨W.heap.size, 1, none⟩) (.inl rfl) (.int .i64 s.next)
  have g3 := only_setCell g2 (p := ⟨W.heap.size, 2, none⟩) (.inl rfl) v
  have kb3 := kb.grown g3 kb.size (fun j hj => by cases hj; exact Nat.le_refl _)
  have kr3 := kr.kept g3 h1
  generalize ((w1.setCell ⟨W.heap.size, 0, none⟩ (.int .i64 s.clock)).setCell ⟨W.heap.size, 1, none⟩ (.int .i64 s.next)).setCell ⟨W.heap.size, 2, none⟩ v = w2 at *
  exact bodyPost_ret (results_cell_row rfl A.tmps w2 _ _ _ (0, 0) _ hp e3 Tryz.underlying39 rfl (by kernel_rfl)) hd ⟨v, rfl, kr3, kb3⟩
set_option maxHeartbeats 1000000 in
theorem store_state (B sb db : Nat) (s : St) (v : Value) (n f x : Int) (down : Bool) (W : World) (h : StAt W sb db s v n f x down) (hr : FRow W B v s.fams) (hl : s.fams.length ≤ 1000000) :
    Calls Tryz.prog 39 #[.pointer (some ⟨sb, 0, none⟩)] W (ApplyGot W s) := by
  obtain ⟨sa, sc, rfl⟩ := hr.slice
  have hb0 := alloc2 W (.cells #[.int .i64 0, .int .i64 0, .slice none 0 0] 39) (.cells #[.int .i64 s.clock, .int .i64 s.next, .slice sa s.fams.length sc] 39)
  have HC := Lib.hid (fam_clone B _ s.fams _ (hr.below hb0) hl)
  have HB0 := Lib.hid hb0
  have a3 : Blk ((W.alloc (.cells #[.int .i64 0, .int .i64 0, .slice none 0 0] 39)).alloc (.cells #[.int .i64 s.clock, .int .i64 s.next, .slice sa s.fams.length sc] 39)) W.heap.size 39 #[.int .i64 0, .int .i64 0, .slice none 0 0] := (Blk.new W _ _).alloc _
  have a4 : Blk ((W.alloc (.cells #[.int .i64 0, .int .i64 0, .slice none 0 0] 39)).alloc (.cells #[.int .i64 s.clock, .int .i64 s.next, .slice sa s.fams.length sc] 39)) (W.heap.size + 1) 39 (stCs s (.slice sa s.fams.length sc)) := by
    have := Blk.new (W.alloc (.cells #[.int .i64 0, .int .i64 0, .slice none 0 0] 39)) 39 (stCs s (.slice sa s.fams.length sc))
    rw [show (W.alloc (.cells #[.int .i64 0, .int .i64 0, .slice none 0 0] 39)).heap.size = W.heap.size + 1 by simp] at this
    exact this
  have hsz : W.heap.size + 1 + 1 ≤ ((W.alloc (.cells #[.int .i64 0, .int .i64 0, .slice none 0 0] 39)).alloc (.cells #[.int .i64 s.clock, .int .i64 s.next, .slice sa s.fams.length sc] 39)).heap.size := by simp
  have A3 := Lib.hid a3
  have A4 := Lib.hid a4
  have HSZ := Lib.hid hsz
  obtain ⟨ck, nx, L⟩ := s
  dsimp only at *
  obtain ⟨c0, c1, c2, c3, c4, c5, c6, c7, z, hlt⟩ := h.cells
  clear h hr hb0 a3 a4 hsz
  go_enter Tryz.func39, Tryz.ntmps39
  go_wp2_with fail
  go_at_call 79
  refine HC.out.mono ?_
  rintro e w1 ⟨v1, rfl, hr1, hb1⟩
  have h3 := A3.out.below' hb1
  have h4 := A4.out.below' hb1
  obtain ⟨xa, xc, rfl⟩ := hr1.slice
  have HR := Lib.hid hr1
  have H3 := Lib.hid h3
  have H4 := Lib.hid h4
  have HB := Lib.hid (below_2 HB0.out hb1)
  obtain ⟨m0, m1, m2⟩ := two_cells h4
  have z3 := h3.frozen
  have z4 := h4.frozen
  have l3 := h3.cell 0
  have l4 := h3.cell 1
  have l5 := h3.cell 2
  clear hr1 hb1 h3 h4 HC A3 A4 HB0
  go_wp2_with fail
  have hz := HSZ.out
  exact state_end (s := ⟨ck, nx, L⟩) (HR.out.mono (by omega)) (fun he => by have := (HR.out.lt _ he).1; omega) (fun he => by have := (HR.out.lt _ he).1; omega) HB.out H3.out rfl rfl
end Go.Proofs.YtckohmhhcknmaaaGreatDoor

/-
  rotorref's store: its block; write, Cut, Open, Save.
-/
namespace Go.Proofs.YtckohmhhcknmaaaGreatDoor
open Go.RowKit Go.Sort

def refCs (z : SS) (v : Value) : Array Value := #[.int .i64 z.s.clock, .int .i64 z.s.next, v, .int .i64 z.log, .int .i64 z.writes, .bool z.off, .int .i64 z.left, .bool z.down]
def RAt (w : World) (rb : Nat) (z : SS) (v : Value) : Prop := Blk w rb 93 (refCs z v)
theorem RAt.cells {w : World} {rb : Nat} {ck nx : Int} {L : List Fam} {lg wr : Int} {off : Bool} {lf : Int} {dn : Bool} {v : Value} (h : RAt w rb ⟨⟨ck, nx, L⟩, lg, wr, off, lf, dn⟩ v) :
    w.cell? ⟨rb, 0, none⟩ = some (.int .i64 ck) ∧ w.cell? ⟨rb, 1, none⟩ = some (.int .i64 nx) ∧ w.cell? ⟨rb, 2, none⟩ = some v ∧ w.cell? ⟨rb, 3, none⟩ = some (.int .i64 lg) ∧ w.cell? ⟨rb, 4, none⟩ = some (.int .i64 wr) ∧
    w.cell? ⟨rb, 5, none⟩ = some (.bool off) ∧ w.cell? ⟨rb, 6, none⟩ = some (.int .i64 lf) ∧ w.cell? ⟨rb, 7, none⟩ = some (.bool dn) ∧ (∀ j, w.frozen? ⟨rb, j, none⟩ = false) ∧ rb < w.heap.size :=
  ⟨Blk.cell h 0, Blk.cell h 1, Blk.cell h 2, Blk.cell h 3, Blk.cell h 4, Blk.cell h 5, Blk.cell h 6, Blk.cell h 7, Blk.frozen h, Blk.lt h⟩
section
variable {w : World} {rb : Nat} {z : SS} {v : Value}
theorem RAt.drew (h : RAt w rb z v) : RAt w.drew rb z v := h
theorem RAt.down (h : RAt w rb z v) : RAt (w.setCell ⟨rb, 7, none⟩ (.bool true)) rb (downS z) v ∧ w.grownBy (w.setCell ⟨rb, 7, none⟩ (.bool true)) (some rb) :=
  ⟨Blk.put_ h 7 (.bool true) rfl, only_set1 w rb ⟨rb, 7, none⟩ rfl _⟩
theorem RAt.one (h : RAt w rb z v) : RAt ((w.setCell ⟨rb, 6, none⟩ (.int .i64 (wrap64 (z.left - 1)))).setCell ⟨rb, 4, none⟩ (.int .i64 (wrap64 (z.writes + 1)))) rb (oneS z) v ∧
    w.grownBy ((w.setCell ⟨rb, 6, none⟩ (.int .i64 (wrap64 (z.left - 1)))).setCell ⟨rb, 4, none⟩ (.int .i64 (wrap64 (z.writes + 1)))) (some rb) := by
  have e1 := Blk.put_ h 6 (.int .i64 (wrap64 (z.left - 1))) (cs' := refCs ⟨z.s, z.log, z.writes, z.off, wrap64 (z.left - 1), z.down⟩ v) rfl
  have g1 := only_set1 w rb ⟨rb, 6, none⟩ rfl (.int .i64 (wrap64 (z.left - 1)))
  exact ⟨Blk.put_ e1 4 (.int .i64 (wrap64 (z.writes + 1))) rfl, only_setCell g1 (p := ⟨rb, 4, none⟩) (.inl rfl) _⟩
theorem RAt.cut (h : RAt w rb z v) (n : Int) (b : Bool) (hb : b = decide (0 ≤ n)) : RAt ((w.setCell ⟨rb, 5, none⟩ (.bool b)).setCell ⟨rb, 6, none⟩ (.int .i64 n)) rb (cutS z n) v ∧ w.grownBy ((w.setCell ⟨rb, 5, none⟩ (.bool b)).setCell ⟨rb, 6, none⟩ (.int .i64 n)) (some rb) := by
  subst hb
  have e1 := Blk.put_ h 5 (.bool (decide (0 ≤ n))) (cs' := refCs ⟨z.s, z.log, z.writes, decide (0 ≤ n), z.left, z.down⟩ v) rfl
  have g1 := only_set1 w rb ⟨rb, 5, none⟩ rfl (.bool (decide (0 ≤ n)))
  exact ⟨Blk.put_ e1 6 (.int .i64 n) rfl, only_setCell g1 (p := ⟨rb, 6, none⟩) (.inl rfl) _⟩
theorem RAt.open_ (h : RAt w rb z v) : RAt ((w.setCell ⟨rb, 5, none⟩ (.bool false)).setCell ⟨rb, 7, none⟩ (.bool false)) rb (openS z) v ∧ w.grownBy ((w.setCell ⟨rb, 5, none⟩ (.bool false)).setCell ⟨rb, 7, none⟩ (.bool false)) (some rb) := by
  have e1 := Blk.put_ h 5 (.bool false) (cs' := refCs ⟨z.s, z.log, z.writes, false, z.left, z.down⟩ v) rfl
  have g1 := only_set1 w rb ⟨rb, 5, none⟩ rfl (.bool false)
  exact ⟨Blk.put_ e1 7 (.bool false) rfl, only_setCell g1 (p := ⟨rb, 7, none⟩) (.inl rfl) _⟩
theorem RAt.logged (h : RAt w rb z v) (n : Int) : RAt (w.setCell ⟨rb, 3, none⟩ (.int .i64 n)) rb (logS z n) v ∧ w.grownBy (w.setCell ⟨rb, 3, none⟩ (.int .i64 n)) (some rb) :=
  ⟨Blk.put_ h 3 (.int .i64 n) rfl, only_set1 w rb ⟨rb, 3, none⟩ rfl _⟩
end
/-- one write -/
theorem ref_write_on (rb : Nat) (z : SS) (v : Value) (W : World) (h : RAt W rb z v) (ho : offS z = false) :
    Calls Tryz.prog 69 #[.pointer (some ⟨rb, 0, none⟩)] W fun e w' => e = .returned (.bool true) ∧ RAt w' rb (oneS z) v ∧ W.grownBy w' (some rb) := by
  have HO := Lib.hid h.one
  obtain ⟨⟨ck, nx, L⟩, lg, wr, off, lf, dn⟩ := z
  obtain ⟨c0, c1, c2, c3, c4, c5, c6, c7, z, hlt⟩ := h.cells
  dsimp only at HO
  clear h
  cases off
  · clear ho
    go_enter Tryz.func69, Tryz.ntmps69
    go_wp2_with fail
    go_ret
    exact ⟨rfl, HO.out.1, HO.out.2⟩
  · have hl : (lf == 0) = false := by simpa [offS] using ho
    clear ho
    go_enter Tryz.func69, Tryz.ntmps69
    go_wp2_with fail
    go_ret
    exact ⟨rfl, HO.out.1, HO.out.2⟩
theorem ref_write_off (rb : Nat) (z : SS) (v : Value) (W : World) (h : RAt W rb z v) (ho : offS z = true) :
    Calls Tryz.prog 69 #[.pointer (some ⟨rb, 0, none⟩)] W fun e w' => e = .returned (.bool false) ∧ RAt w' rb (downS z) v ∧ W.grownBy w' (some rb) := by
  have HO := Lib.hid h.down
  obtain ⟨⟨ck, nx, L⟩, lg, wr, off, lf, dn⟩ := z
  obtain ⟨c0, c1, c2, c3, c4, c5, c6, c7, z, hlt⟩ := h.cells
  clear h
  cases off
  · cases ho
  · have hl : lf = 0 := by simpa [offS] using ho
    subst hl
    clear ho
    go_enter Tryz.func69, Tryz.ntmps69
    go_wp2_with fail
    go_ret
    exact ⟨rfl, HO.out.1, HO.out.2⟩
theorem ref_cut (rb : Nat) (z : SS) (v : Value) (n : Int) (W : World) (h : RAt W rb z v) :
    Calls Tryz.prog 36 #[.pointer (some ⟨rb, 0, none⟩), .int .i64 n] W fun e w' => e = .returned (.tuple #[]) ∧ RAt w' rb (cutS z n) v ∧ W.grownBy w' (some rb) := by
  have HO := Lib.hid (fun (w : World) (hw : RAt w rb z v) b hb => hw.cut n b hb)
  have H := Lib.hid h
  obtain ⟨⟨ck, nx, L⟩, lg, wr, off, lf, dn⟩ := z
  obtain ⟨c0, c1, c2, c3, c4, c5, c6, c7, z, hlt⟩ := h.cells
  clear h
  go_enter Tryz.func36, Tryz.ntmps36
  go_wp2_with fail
  go_end0
  exact ⟨rfl, (HO.out _ H.out _ (by simp)).1, (HO.out _ H.out _ (by simp)).2⟩
theorem ref_open (rb : Nat) (z : SS) (v : Value) (W : World) (h : RAt W rb z v) :
    Calls Tryz.prog 37 #[.pointer (some ⟨rb, 0, none⟩)] W fun e w' => e = .returned (.tuple #[]) ∧ RAt w' rb (openS z) v ∧ W.grownBy w' (some rb) := by
  have HO := Lib.hid (fun (w : World) (hw : RAt w rb z v) => hw.open_)
  have H := Lib.hid h
  obtain ⟨⟨ck, nx, L⟩, lg, wr, off, lf, dn⟩ := z
  obtain ⟨c0, c1, c2, c3, c4, c5, c6, c7, z, hlt⟩ := h.cells
  clear h
  go_enter Tryz.func37, Tryz.ntmps37
  go_wp2_with fail
  go_end0
  exact ⟨rfl, (HO.out _ H.out).1, (HO.out _ H.out).2⟩
/-- Save: so many writes -/
def RunRel (W : World) (rb : Nat) (z : SS) (v : Value) (n : Nat) (i : Value) (w : World) : Prop := ∃ k : Nat, k ≤ n ∧ i = .int .i64 k ∧ RAt w rb (manyS k z) v ∧ W.grownBy w (some rb) ∧ ∀ j, j < k → offS (manyS j z) = false
def RefDone (W : World) (rb : Nat) (r : SS × Int) (v : Value) (e : Ending) (w' : World) : Prop := e = .returned (.int .i64 r.2) ∧ RAt w' rb r.1 v ∧ W.grownBy w' (some rb)
set_option maxHeartbeats 4000000 in
theorem ref_save (rb : Nat) (z : SS) (v : Value) (B : Nat) (W : World) (h : RAt W rb z v) (hr : FRow W B v z.s.fams) (hl : z.s.fams.length ≤ 1000000) :
    Calls Tryz.prog 33 #[.pointer (some ⟨rb, 0, none⟩)] W (RefDone W rb (saveS z) v) := by
  obtain ⟨sa, sc, rfl⟩ := hr.slice
  clear hr
  rcases hd : z.down with _ | _
  · have HW := Lib.hid (fun j w h ho => ref_write_on rb (manyS j z) (.slice sa z.s.fams.length sc) w h ho)
    have HF := Lib.hid (fun j w h ho => ref_write_off rb (manyS j z) (.slice sa z.s.fams.length sc) w h ho)
    have HK := Lib.hid (fun j => manyS_keeps j z)
    have HY := Lib.hid (saveS_yes hd)
    have HN := Lib.hid (fun m => saveS_no (m := m) hd)
    have H := Lib.hid h
    obtain ⟨c0, c1, c2, c3, c4, c5, c6, c7, hz, hlt⟩ := h.cells
    rw [hd] at c7
    clear h hd
    generalize hn : z.s.fams.length = n at *
    clear hn
    go_enter Tryz.func33, Tryz.ntmps33
    go_wp2_with fail
    go_loopw [14] (fun i wr => RunRel W rb z (.slice sa n sc) (n + 1) i wr) (fun i _ => n + 1 - (intOf i).toNat)
    case atStart => exact ⟨0, Nat.zero_le _, rfl, H.out, only_refl _ _, fun j hj => absurd hj (Nat.not_lt_zero _)⟩
    case round =>
      obtain ⟨k, hk, rfl, hra, hg, hj⟩ := hrel
      have HR := Lib.hid hra
      have HG := Lib.hid hg
      have HJ := Lib.hid hj
      clear hra hg hj
      by_cases hlt2 : k < n + 1
      · rcases ho : offS (manyS k z) with _ | _
        · have HO := Lib.hid ho
          clear ho
          go_wp2_with fail
          go_at_call 69
          refine (HW.out k _ HR.out HO.out).mono ?_
          rintro e w1 ⟨rfl, hra, hg⟩
          have HR1 := Lib.hid (show RAt w1 rb (manyS (k + 1) z) (.slice sa n sc) from hra)
          have HG1 := Lib.hid (only_trans HG.out hg)
          clear hra hg
          go_wp2_with fail
          go_roundw
          case rel => exact ⟨k + 1, by omega, by go_num, HR1.out, HG1.out, fun j hj => by
            by_cases e : j = k
            · subst e; exact HO.out
            · exact HJ.out j (by omega)⟩
          case measure => simp [intOf]; omega
        · have HO := Lib.hid ho
          clear ho
          go_wp2_with fail
          go_at_call 69
          refine (HF.out k _ HR.out HO.out).mono ?_
          rintro e w1 ⟨rfl, hra, hg⟩
          have hsave := HN.out k (by
            obtain ⟨q, hq⟩ : ∃ q, n + 1 = k + (q + 1) := ⟨n - k, by omega⟩
            rw [hq, runS_many k (q + 1) z HJ.out]
            exact runS_no q HO.out)
          have HS := Lib.hid hsave
          have HR1 := Lib.hid hra
          have HG1 := Lib.hid (only_trans HG.out hg)
          clear hra hg hsave
          go_wp2_with fail
          go_ret
          rw [HS.out]
          exact ⟨rfl, HR1.out, HG1.out⟩
      · obtain rfl : k = n + 1 := by omega
        have hsave := HY.out (by
          have := runS_many (n + 1) 0 z HJ.out
          rw [Nat.add_zero] at this
          rw [this]
          rfl)
        have HS := Lib.hid hsave
        have hrl := (HR.out.logged 0)
        have HL := Lib.hid hrl
        have hfz := Blk.frozen HR.out
        have hc3 : wr.cell? ⟨rb, 3, none⟩ = some (.int .i64 (manyS (n + 1) z).log) := Blk.cell HR.out 3
        clear hsave hrl
        go_wp2_with fail
        go_ret
        rw [HS.out]
        exact ⟨rfl, HL.out.1, only_trans HG.out HL.out.2⟩
  · rw [saveS_down hd]
    have H := Lib.hid h
    obtain ⟨c0, c1, c2, c3, c4, c5, c6, c7, hz, hlt⟩ := h.cells
    rw [hd] at c7
    clear h hd
    go_enter Tryz.func33, Tryz.ntmps33
    go_wp2_with fail
    go_ret
    exact ⟨rfl, H.out, only_refl _ _⟩
end Go.Proofs.YtckohmhhcknmaaaGreatDoor
