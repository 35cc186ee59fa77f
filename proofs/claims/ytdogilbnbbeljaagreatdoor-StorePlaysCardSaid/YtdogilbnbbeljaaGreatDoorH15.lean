/-
  event.Apply: a state behind an event.
-/
import Derived.Test.YtdogilbnbbeljaaGreatDoorH14
import Derived.Deep.MidRow
import Derived.Laws.Rows
namespace Go.Proofs.YtdogilbnbbeljaaGreatDoor
open Go.RowKit Go.Sort

/-- a state's value: its slice lies at v -/
def stCs (s : St) (v : Value) : Array Value := #[.int .i64 s.clock, .int .i64 s.next, v]
def stVal (s : St) (v : Value) : Value := .agg (stCs s v)
/-- event.Apply under way: its state's cells, its event, its slice -/
structure AP (W : World) (cs : Array Value) (e : Ev) (v : Value) (b vb : Nat) (L : List Fam) (w : World) : Prop where
  below : Below W.heap.size W w
  big : W.heap.size ≤ b
  vbig : W.heap.size ≤ vb
  st : Blk w b 36 cs
  ev : Blk w (b + 1) 42 (evCs e)
  re : Blk w (b + 1 + 1) 36 #[.int .i64 0, .int .i64 0, .slice none 0 0]
  var : Blk w vb 34 #[v]
  row : FRow w W.heap.size v L

theorem Blk.put_ {w : World} {g : Nat} {T : TypeId} {cs cs' : Array Value} (h : Blk w g T cs) (i : Nat) (u : Value) (he : cs.setIfInBounds i u = cs') : Blk (w.setCell ⟨g, i, none⟩ u) g T cs' := by
  have := h.set_ i u
  rwa [he] at this
theorem FRow.slice {w : World} {B : Nat} {v : Value} {L : List Fam} (h : FRow w B v L) : ∃ a c, v = .slice a L.length c := by
  rcases h.parts with ⟨rfl, rfl⟩ | ⟨g, cap, rfl, _⟩
  · exact ⟨_, _, rfl⟩
  · exact ⟨_, _, rfl⟩
theorem FRow.apart {w : World} {B g : Nat} {v : Value} {L : List Fam} {T : TypeId} {cs : Array Value} (h : FRow w B v L) (hb : Blk w g T cs) (hT : 40 ≠ T) : v.ownBlock ≠ some g := by
  rcases h.block with ⟨rfl, rfl⟩ | ⟨g', cap, cur, rfl, _, hb', _⟩
  · simp [Value.ownBlock]
  · have := hb'.ne_ hb hT
    simpa [Value.ownBlock] using this
theorem only_set1 (w : World) (g : Nat) (p : Addr) (hp : p.block = g) (u : Value) : w.grownBy (w.setCell p u) (some g) := only_setCell (only_refl w (some g)) (.inl hp) u

section
variable {W : World} {cs : Array Value} {e : Ev} {v : Value} {b vb : Nat} {L : List Fam} {w w' : World}
theorem AP.keep (h : AP W cs e v b vb L w) (hb : Below w.heap.size w w') : AP W cs e v b vb L w' :=
  ⟨h.below.trans (hb.mono h.below.size), h.big, h.vbig, h.st.below' hb, h.ev.below' hb, h.re.below' hb, h.var.below' hb, h.row.below hb⟩
theorem AP.nvb (h : AP W cs e v b vb L w) : vb ≠ b ∧ vb ≠ b + 1 ∧ vb ≠ b + 1 + 1 := ⟨h.var.ne_ h.st (by decide), h.var.ne_ h.ev (by decide), h.var.ne_ h.re (by decide)⟩
/-- a cell of the state is set -/
theorem AP.set (h : AP W cs e v b vb L w) (i : Nat) (u : Value) {cs' : Array Value} (hc : cs.setIfInBounds i u = cs') : AP W cs' e v b vb L (w.setCell ⟨b, i, none⟩ u) := by
  obtain ⟨n1, n2, n3⟩ := h.nvb
  refine ⟨h.below.setCell h.big u, h.big, h.vbig, ?_, h.ev.far (by show b + 1 ≠ b; omega) u, h.re.far (by show b + 1 + 1 ≠ b; omega) u, h.var.far n1 u, h.row.kept (only_set1 w b ⟨b, i, none⟩ rfl u) (h.row.apart h.st (by decide))⟩
  rw [← hc]
  exact h.st.set_ i u
/-- the slice's variable is set -/
theorem AP.setVar (h : AP W cs e v b vb L w) {v' : Value} {L' : List Fam} (hr : FRow w W.heap.size v' L') : AP W cs e v' b vb L' (w.setCell ⟨vb, 0, none⟩ v') := by
  obtain ⟨n1, n2, n3⟩ := h.nvb
  refine ⟨h.below.setCell h.vbig v', h.big, h.vbig, h.st.far (Ne.symm n1) v', h.ev.far (Ne.symm n2) v', h.re.far (Ne.symm n3) v', ?_, hr.kept (only_set1 w vb ⟨vb, 0, none⟩ rfl v') (hr.apart h.var (by decide))⟩
  exact h.var.set_ 0 v'
/-- the slice goes on in place -/
theorem AP.inRow {g : Nat} {cur : Array Value} (h : AP W cs e v b vb L w) (hblk : Blk w g 40 cur) (hg : W.heap.size ≤ g) {cur' : Array Value} {v' : Value} {L' : List Fam} (hv : v' = v) (hr : FRow (w.setRow g cur') W.heap.size v' L') : AP W cs e v' b vb L' (w.setRow g cur') := by
  subst hv
  have n := only_setRow w g cur'
  have hne : ∀ {g' T cs}, Blk w g' T cs → 40 ≠ T → some g' ≠ some g := fun hb hT => by
    have := hblk.ne_ hb hT
    simpa using Ne.symm this
  exact ⟨h.below.grown n h.below.size (fun k hk => by cases hk; exact hg), h.big, h.vbig, h.st.grown n (hne h.st (by decide)), h.ev.grown n (hne h.ev (by decide)), h.re.grown n (hne h.re (by decide)), h.var.grown n (hne h.var (by decide)), hr⟩
theorem AP.mid (h : AP W cs e v b vb L w) (hg : w.grownBy w' v.ownBlock) : Below W.heap.size W w' ∧ Blk w' b 36 cs ∧ Blk w' (b + 1) 42 (evCs e) ∧ Blk w' (b + 1 + 1) 36 #[.int .i64 0, .int .i64 0, .slice none 0 0] ∧ Blk w' vb 34 #[v] :=
  ⟨h.below.grown hg h.below.size (fun k hk => (h.row.lt k hk).1), h.st.grown hg (Ne.symm (h.row.apart h.st (by decide))), h.ev.grown hg (Ne.symm (h.row.apart h.ev (by decide))), h.re.grown hg (Ne.symm (h.row.apart h.re (by decide))), h.var.grown hg (Ne.symm (h.row.apart h.var (by decide)))⟩
/-- a call that hands back the slice, which is stored -/
theorem AP.go (h : AP W cs e v b vb L w) (hg : w.grownBy w' v.ownBlock) {v' : Value} {L' : List Fam} (hr : FRow w' W.heap.size v' L') : AP W cs e v' b vb L' (w'.setCell ⟨vb, 0, none⟩ v') := by
  obtain ⟨n1, n2, n3⟩ := h.nvb
  obtain ⟨k1, k2, k3, k4, k5⟩ := h.mid hg
  exact ⟨k1.setCell h.vbig v', h.big, h.vbig, k2.far (Ne.symm n1) v', k3.far (Ne.symm n2) v', k4.far (Ne.symm n3) v', k5.set_ 0 v', hr.kept (only_set1 w' vb ⟨vb, 0, none⟩ rfl v') (hr.apart k5 (by decide))⟩
theorem st_cells {k0 k1 k2 : Value} {T T' T'' : TypeId} {z0 z1 z2 : Value} {vb : Nat} {v : Value} (st : Blk w b T #[k0, k1, k2]) (re : Blk w (b + 1 + 1) T' #[z0, z1, z2]) (var : Blk w vb T'' #[v]) : w.cell? ⟨b, 0, none⟩ = some k0 ∧ w.cell? ⟨b, 1, none⟩ = some k1 ∧ w.cell? ⟨b, 2, none⟩ = some k2 ∧ w.cell? ⟨vb, 0, none⟩ = some v ∧
    w.cell? ⟨b + 1 + 1, 0, none⟩ = some z0 ∧ w.cell? ⟨b + 1 + 1, 1, none⟩ = some z1 ∧ w.cell? ⟨b + 1 + 1, 2, none⟩ = some z2 ∧ (∀ j, w.frozen? ⟨b, j, none⟩ = false) ∧ (∀ j, w.frozen? ⟨b + 1 + 1, j, none⟩ = false) ∧ (∀ j, w.frozen? ⟨vb, j, none⟩ = false) :=
  ⟨st.cell 0, st.cell 1, st.cell 2, var.cell 0, re.cell 0, re.cell 1, re.cell 2, st.frozen, re.frozen, var.frozen⟩
theorem AP.cells {k0 k1 k2 : Value} (h : AP W #[k0, k1, k2] e v b vb L w) : w.cell? ⟨b, 0, none⟩ = some k0 ∧ w.cell? ⟨b, 1, none⟩ = some k1 ∧ w.cell? ⟨b, 2, none⟩ = some k2 ∧ w.cell? ⟨vb, 0, none⟩ = some v ∧
    w.cell? ⟨b + 1 + 1, 0, none⟩ = some (.int .i64 0) ∧ w.cell? ⟨b + 1 + 1, 1, none⟩ = some (.int .i64 0) ∧ w.cell? ⟨b + 1 + 1, 2, none⟩ = some (.slice none 0 0) ∧ (∀ j, w.frozen? ⟨b, j, none⟩ = false) ∧ (∀ j, w.frozen? ⟨b + 1 + 1, j, none⟩ = false) ∧ (∀ j, w.frozen? ⟨vb, j, none⟩ = false) := st_cells h.st h.re h.var
end
/-- what event.Apply gives -/
def ApplyGot (W : World) (s' : St) (x : Ending) (w' : World) : Prop := ∃ v', x = .returned (stVal s' v') ∧ FRow w' W.heap.size v' s'.fams ∧ Below W.heap.size W w'
theorem apply_end {W w : World} {A : Act} {s' : St} {e : Ev} {v v0 : Value} {b vb : Nat} {ck nx : Int} (h : AP W #[.int .i64 ck, .int .i64 nx, v0] e v b vb s'.fams w) (h1 : ck = s'.clock) (h2 : nx = s'.next)
    (hp : A.tmps.getD 4 undef = .pointer (some ⟨b + 1 + 1, 0, none⟩)) (hd : A.defers = []) :
    bodyPost Tryz.prog Tryz.f13 (ApplyGot W s') Exit.ret A ((((w.setCell ⟨b, 2, none⟩ v).setCell ⟨b + 1 + 1, 0, none⟩ (.int .i64 ck)).setCell ⟨b + 1 + 1, 1, none⟩ (.int .i64 nx)).setCell ⟨b + 1 + 1, 2, none⟩ v) := by
  subst h1
  subst h2
  have k := h.set 2 v rfl
  have h1 := k.re.put_ 0 (.int .i64 s'.clock) (cs' := #[.int .i64 s'.clock, .int .i64 0, .slice none 0 0]) rfl
  have h2 := h1.put_ 1 (.int .i64 s'.next) (cs' := #[.int .i64 s'.clock, .int .i64 s'.next, .slice none 0 0]) rfl
  have hr := h2.put_ 2 v (cs' := stCs s' v) rfl
  have g1 := only_set1 (w.setCell ⟨b, 2, none⟩ v) (b + 1 + 1) ⟨b + 1 + 1, 0, none⟩ rfl (.int .i64 s'.clock)
  have g2 := only_setCell g1 (p := ⟨b + 1 + 1, 1, none⟩) (.inl rfl) (.int .i64 s'.next)
  have hg := only_setCell g2 (p := ⟨b + 1 + 1, 2, none⟩) (.inl rfl) v
  have hbig := h.big
  have hb := k.below.grown hg k.below.size (fun j hj => by cases hj; omega)
  have hrow := k.row.kept hg (k.row.apart k.re (by decide))
  generalize ((((w.setCell ⟨b, 2, none⟩ v).setCell ⟨b + 1 + 1, 0, none⟩ (.int .i64 s'.clock)).setCell ⟨b + 1 + 1, 1, none⟩ (.int .i64 s'.next)).setCell ⟨b + 1 + 1, 2, none⟩ v) = wz at *
  exact bodyPost_ret (results_cell_row rfl A.tmps wz _ _ _ (0, 0) _ hp hr Tryz.underlying36 rfl (by kernel_rfl)) hd ⟨v, rfl, hrow, hb⟩

/-- the cells behind a store of one family -/
theorem set_cells {L : List Fam} {f : Fam} {xs : List Value} {k c : Nat} (hx : xs.length = c * 9) (ht : xs.take (L.length * 9) = flat L) (hk : k < L.length) (hc : L.length ≤ c) :
    let c1 := xs.take (k * 9) ++ (famCs f).toList ++ xs.drop (k * 9 + (famCs f).toList.length)
    c1.length = c * 9 ∧ c1.take (L.length * 9) = flat (L.set k f) := by
  intro c1
  have hf : (famCs f).toList.length = 9 := rfl
  refine ⟨?_, ?_⟩
  · show (xs.take (k * 9) ++ (famCs f).toList ++ xs.drop (k * 9 + (famCs f).toList.length)).length = _
    simp only [List.length_append, List.length_take, List.length_drop, hf, hx]
    omega
  · have e0 : xs = flat L ++ xs.drop (L.length * 9) := by rw [← ht, List.take_append_drop]
    have e1 : xs.take (k * 9) = flat (L.take k) := by rw [flat_take, ← ht, List.take_take]; congr 1; omega
    have e2 : xs.drop (k * 9 + 9) = flat (L.drop (k + 1)) ++ xs.drop (L.length * 9) := by
      conv => lhs; rw [e0]
      rw [List.drop_append_of_le_length (by rw [flat_len]; omega), flat_drop, show (k + 1) * 9 = k * 9 + 9 by omega]
    have hl : (flat (L.take k) ++ (famCs f).toList ++ flat (L.drop (k + 1))).length = L.length * 9 := by
      simp only [List.length_append, flat_len, hf, List.length_take, List.length_drop]
      omega
    show (xs.take (k * 9) ++ (famCs f).toList ++ xs.drop (k * 9 + (famCs f).toList.length)).take (L.length * 9) = _
    rw [hf, e1, e2, ← List.append_assoc, ← hl, List.take_left, set_parts hk, flat_app, flat_cons, List.append_assoc]
theorem AP.store {W : World} {cs : Array Value} {e : Ev} {b vb g cap k : Nat} {L : List Fam} {w : World} {cur : Array Value} (h : AP W cs e (.slice (some ⟨g, 0, none⟩) L.length cap) b vb L w) (hBg : W.heap.size ≤ g) (hblk : Blk w g 40 cur) (hlc : L.length ≤ cap) (hm : cap ≤ 9223372036854775807) (hc : cur.size = cap * 9) (ht : cur.toList.take (L.length * 9) = flat L) (hk : k < L.length) (f : Fam) :
    AP W cs e (.slice (some ⟨g, 0, none⟩) L.length cap) b vb (L.set k f) (w.setCells g (k * 9) (famCs f).toList) := by
  obtain ⟨k1, k2⟩ := set_cells (f := f) (by rw [Array.length_toList]; exact hc) ht hk hlc
  rw [setCells_row hblk (by show k * 9 + 9 ≤ _; omega) (fun u hu => flat_one (L := [f]) (by simpa [flat] using hu))]
  have hr := FRow.of_block (L := L.set k f) hBg (hblk.row (new := (cur.toList.take (k * 9) ++ (famCs f).toList ++ cur.toList.drop (k * 9 + (famCs f).toList.length)).toArray)) (by rw [List.length_set]; exact hlc) hm (by rw [← Array.length_toList]; exact k1) (by rw [List.length_set]; exact k2)
  rw [List.length_set] at hr
  exact h.inRow hblk hBg rfl hr
theorem there_blk {w : World} {g o n : Nat} {T : TypeId} {cur : Array Value} (h : Blk w g T cur) (hf : o + n ≤ cur.size) : w.there g o n := fun j hj =>
  ⟨by rw [h.cell, Array.getElem?_eq_getElem (by omega)]; rfl, h.frozen _⟩

def allocs (W : World) (s : St) (e : Ev) (v : Value) : World := ((W.alloc (.cells (stCs s v) 36)).alloc (.cells (evCs e) 42)).alloc (.cells #[.int .i64 0, .int .i64 0, .slice none 0 0] 36)
theorem allocs_size (W : World) (s : St) (e : Ev) (v : Value) : (allocs W s e v).heap.size = W.heap.size + 3 := by simp [allocs]
theorem allocs_below (W : World) (s : St) (e : Ev) (v : Value) : Below W.heap.size W (allocs W s e v) :=
  (((Below.refl W.heap.size W).alloc (Nat.le_refl _) _).alloc (by simp) _).alloc (by simp; omega) _
theorem AP.start {W w1 : World} {s : St} {e : Ev} {v v1 : Value} {L : List Fam} (hr : FRow w1 (allocs W s e v).heap.size v1 L) (hb : Below (allocs W s e v).heap.size (allocs W s e v) w1) : AP W (stCs s v) e v1 W.heap.size w1.heap.size L (w1.alloc (.cells #[v1] 34)) := by
  have a1 : Blk (allocs W s e v) W.heap.size 36 (stCs s v) := ((Blk.new W _ _).alloc _).alloc _
  have a2 : Blk (allocs W s e v) (W.heap.size + 1) 42 (evCs e) := by
    have := (Blk.new (W.alloc (.cells (stCs s v) 36)) 42 (evCs e)).alloc (.cells #[.int .i64 0, .int .i64 0, .slice none 0 0] 36)
    simpa [allocs] using this
  have a3 : Blk (allocs W s e v) (W.heap.size + 1 + 1) 36 #[.int .i64 0, .int .i64 0, .slice none 0 0] := by
    have := Blk.new ((W.alloc (.cells (stCs s v) 36)).alloc (.cells (evCs e) 42)) 36 #[.int .i64 0, .int .i64 0, .slice none 0 0]
    simpa [allocs] using this
  have hs := allocs_size W s e v
  have hz := hb.size
  exact ⟨((allocs_below W s e v).trans (hb.mono (by omega))).alloc (by omega) _, Nat.le_refl _, by omega, (a1.below' hb).alloc _, (a2.below' hb).alloc _, (a3.below' hb).alloc _, Blk.new w1 _ _, (hr.below ((Below.refl _ _).alloc (Nat.le_refl _) _)).mono (by omega)⟩

set_option maxHeartbeats 8000000 in
set_option maxRecDepth 100000 in
theorem apply_set (B : Nat) (v : Value) (s : St) (e : Ev) (W : World) (h : FRow W B v s.fams) (hok : StOk s) (hid : okN e.fam.id = true) (hk : e.kind = 1) (hh : hasB s.fams e.fam.id = true) :
    Calls Tryz.prog 13 #[stVal s v, evVal e] W (ApplyGot W (applyS s e)) := by
  have HA := Lib.hid (fun B vb v w (h : FRow w B v s.fams) hv => fam_at B vb v s.fams e.fam.id w h hv hok.len hok.asc hok.ids hid)
  rw [hh] at HA
  have hap : applyS s e = ⟨s.clock, max s.next (e.fam.id + 1), s.fams.set (ahead s.fams e.fam.id) e.fam⟩ := by unfold applyS putL; rw [if_pos hk, if_pos hh]
  have hlt := hasB_lt hh
  generalize applyS s e = s' at *
  have HS := Lib.hid hap
  clear hap hh
  have HC := Lib.hid (fun w (h : FRow w B v s.fams) => fam_clone B v s.fams w h hok.len)
  have H0 := Lib.hid h
  have HK := Lib.hid hok
  clear h hok
  obtain ⟨k, ⟨i, cl, su, sc, ge, ma, us, re, de⟩, id, ti⟩ := e
  obtain ⟨ck, nx, L⟩ := s
  dsimp only at *
  subst hk
  have hin := okN_iff.1 hid
  unfold stVal stCs evVal evCs
  dsimp only
  go_enter Tryz.func13, Tryz.ntmps13
  go_wp2_with fail
  refine (HC.out (allocs W ⟨ck, nx, L⟩ ⟨1, ⟨i, cl, su, sc, ge, ma, us, re, de⟩, id, ti⟩ v) (H0.out.below (allocs_below _ _ _ _))).mono ?_
  rintro e w1 ⟨v1, rfl, hr1, hb1⟩
  obtain ⟨sa, sn, rfl⟩ := hr1.slice
  have HP := Lib.hid (AP.start hr1 hb1)
  obtain ⟨c0, c1, c2, c3, c4, c5, c6, c7, c8, c9, c10, c11⟩ := ev_cells HP.out.ev
  obtain ⟨m0, m1, m2, mv, r0, r1, r2, z0, z1, z2⟩ := HP.out.cells
  clear hr1 hb1 HC H0
  go_wp2_with fail
  go_at_call 38
  refine (HA.out _ _ _ _ HP.out.row (HP.out.var.cell 0)).mono ?_
  rintro e w2 ⟨rfl, hb⟩
  have HP2 := Lib.hid (HP.out.keep hb)
  clear hb c0 c1 c2 c3 c4 c5 c6 c7 c8 c9 c10 c11 m0 m1 m2 mv r0 r1 r2 z0 z1 z2
  generalize w1.heap.size = vb at *
  rcases HP2.out.row.block with ⟨_, hnil⟩ | ⟨g, cap, cur, he, hBg, hblk, hlc, hm, hc, ht⟩
  · rw [hnil] at hlt
    simp at hlt
  simp only [Value.slice.injEq, true_and] at he
  obtain ⟨rfl, rfl⟩ := he
  generalize ahead L i = k at *
  have hth : w2.there g (k * 9) (#[.int .i64 i, .string cl, .string su, .string sc, .int .i64 ge, .int .i64 ma, .int .i64 us, .string re, .bool de] : Array Value).size := there_blk hblk (by show k * 9 + 9 ≤ _; omega)
  have HP3 := Lib.hid (HP2.out.store hBg hblk hlc hm hc ht hlt ⟨i, cl, su, sc, ge, ma, us, re, de⟩)
  obtain ⟨c0, c1, c2, c3, c4, c5, c6, c7, c8, c9, c10, c11⟩ := ev_cells HP2.out.ev
  have mv := HP2.out.var.cell 0
  generalize hw3 : w2.setCells g (k * 9) _ = w3 at HP3
  have HW3 := Lib.hid (show w2.setCells g (k * 9) (#[.int .i64 i, .string cl, .string su, .string sc, .int .i64 ge, .int .i64 ma, .int .i64 us, .string re, .bool de] : Array Value).toList = w3 from hw3)
  obtain ⟨p0, p1, p2, p3, p4, p5, p6, p7, p8, p9, p10, p11⟩ := ev_cells HP3.out.ev
  obtain ⟨q0, q1, q2, qv, r0, r1, r2, z0, z1, z2⟩ := HP3.out.cells
  clear hw3 hblk hc ht hlc hm hBg
  have hsi : (Tryz.prog.info? 40).map (·.size) = some (#[.int .i64 i, .string cl, .string su, .string sc, .int .i64 ge, .int .i64 ma, .int .i64 us, .string re, .bool de] : Array Value).size := famSize
  have hsh : (#[.int .i64 i, .string cl, .string su, .string sc, .int .i64 ge, .int .i64 ma, .int .i64 us, .string re, .bool de] : Array Value).all (·.oneCell') = true := by simp [Value.oneCell']
  go_wp2_with (with_reducible refine wpList_store_mid ?sg 40 (.tmp 32) (.tmp 31) ?so g (k * 9) #[.int .i64 i, .string cl, .string su, .string sc, .int .i64 ge, .int .i64 ma, .int .i64 us, .string re, .bool de] ?sx ?sy hth hsi hsh ?_; (case so => rfl); go_loud (case sg => rfl); go_loud (case sx => simp [Act.eval]); go_loud (case sy => simp [Act.eval]); go_loud (rw [HW3.out]); clear c0 c1 c2 c3 c4 c5 c6 c7 c8 c9 c10 c11 mv)
  obtain rfl := HS.out
  exact apply_end (HP3.out.set 1 (.int .i64 (max nx (i + 1))) rfl) rfl rfl rfl rfl

set_option maxHeartbeats 8000000 in
set_option maxRecDepth 100000 in
theorem apply_new (B : Nat) (v : Value) (s : St) (e : Ev) (W : World) (h : FRow W B v s.fams) (hok : StOk s) (hid : okN e.fam.id = true) (hk : e.kind = 1) (hh : hasB s.fams e.fam.id = false) :
    Calls Tryz.prog 13 #[stVal s v, evVal e] W (ApplyGot W (applyS s e)) := by
  have HA := Lib.hid (fun B vb v w (h : FRow w B v s.fams) hv => fam_at B vb v s.fams e.fam.id w h hv hok.len hok.asc hok.ids hid)
  rw [hh] at HA
  have hap : applyS s e = ⟨s.clock, max s.next (e.fam.id + 1), s.fams.take (ahead s.fams e.fam.id) ++ e.fam :: s.fams.drop (ahead s.fams e.fam.id)⟩ := by unfold applyS putL; rw [if_pos hk, if_neg (by rw [hh]; decide)]
  have hlt := ahead_le s.fams e.fam.id
  generalize applyS s e = s' at *
  have HS := Lib.hid hap
  clear hap hh
  have HC := Lib.hid (fun w (h : FRow w B v s.fams) => fam_clone B v s.fams w h hok.len)
  have H0 := Lib.hid h
  have HK := Lib.hid hok
  clear h hok
  obtain ⟨k, ⟨i, cl, su, sc, ge, ma, us, re, de⟩, id, ti⟩ := e
  obtain ⟨ck, nx, L⟩ := s
  dsimp only at *
  subst hk
  have hin := okN_iff.1 hid
  unfold stVal stCs evVal evCs
  dsimp only
  go_enter Tryz.func13, Tryz.ntmps13
  go_wp2_with fail
  refine (HC.out (allocs W ⟨ck, nx, L⟩ ⟨1, ⟨i, cl, su, sc, ge, ma, us, re, de⟩, id, ti⟩ v) (H0.out.below (allocs_below _ _ _ _))).mono ?_
  rintro e w1 ⟨v1, rfl, hr1, hb1⟩
  obtain ⟨sa, sn, rfl⟩ := hr1.slice
  have HP := Lib.hid (AP.start hr1 hb1)
  obtain ⟨c0, c1, c2, c3, c4, c5, c6, c7, c8, c9, c10, c11⟩ := ev_cells HP.out.ev
  obtain ⟨m0, m1, m2, mv, r0, r1, r2, z0, z1, z2⟩ := HP.out.cells
  clear hr1 hb1 HC H0
  go_wp2_with fail
  go_at_call 38
  refine (HA.out _ _ _ _ HP.out.row (HP.out.var.cell 0)).mono ?_
  rintro e w2 ⟨rfl, hb⟩
  have HP2 := Lib.hid (HP.out.keep hb)
  clear hb c0 c1 c2 c3 c4 c5 c6 c7 c8 c9 c10 c11 m0 m1 m2 mv r0 r1 r2 z0 z1 z2
  generalize w1.heap.size = vb at *
  generalize ahead L i = k at *
  obtain ⟨c0, c1, c2, c3, c4, c5, c6, c7, c8, c9, c10, c11⟩ := ev_cells HP2.out.ev
  obtain ⟨m0, m1, m2, mv, r0, r1, r2, z0, z1, z2⟩ := HP2.out.cells
  go_wp2_with fail
  go_at_call 41
  refine (fam_insert W.heap.size w2.heap.size k _ L ⟨i, cl, su, sc, ge, ma, us, re, de⟩ _ (HP2.out.row.below ((Below.refl _ _).alloc (Nat.le_refl _) _)) hlt HK.out.len (by have := HP2.out.below.size; simp; omega) (Blk.new w2 _ _) (fun hx => by have := (HP2.out.row.lt _ hx).2; omega)).mono ?_
  rintro e w3 ⟨v3, rfl, hr3, hb3⟩
  have hpa := HP2.out.keep ((Below.refl _ _).alloc (Nat.le_refl _) (.cells (famCs ⟨i, cl, su, sc, ge, ma, us, re, de⟩) 40))
  have HP3 := Lib.hid (hpa.go hb3 hr3)
  have HM := Lib.hid (hpa.mid hb3)
  clear c0 c1 c2 c3 c4 c5 c6 c7 c8 c9 c10 c11 m0 m1 m2 mv r0 r1 r2 z0 z1 z2
  obtain ⟨c0, c1, c2, c3, c4, c5, c6, c7, c8, c9, c10, c11⟩ := ev_cells HM.out.2.2.1
  obtain ⟨m0, m1, m2, mv, r0, r1, r2, z0, z1, z2⟩ := st_cells HM.out.2.1 HM.out.2.2.2.1 HM.out.2.2.2.2
  obtain ⟨n1, n2, n3⟩ := HP2.out.nvb
  obtain ⟨sb, sl, sm, rfl⟩ : ∃ a n c, v3 = .slice a n c := by obtain ⟨a, c, hx⟩ := hr3.slice; exact ⟨_, _, _, hx⟩
  clear hpa hb3 hr3
  go_wp2_with fail
  obtain rfl := HS.out
  exact apply_end (HP3.out.set 1 (.int .i64 (max nx (i + 1))) rfl) rfl rfl rfl rfl

set_option maxHeartbeats 8000000 in
set_option maxRecDepth 100000 in
theorem apply_drop (B : Nat) (v : Value) (s : St) (e : Ev) (W : World) (h : FRow W B v s.fams) (hok : StOk s) (hid : okN e.id = true) (hk : e.kind = 2) (hh : hasB s.fams e.id = true) :
    Calls Tryz.prog 13 #[stVal s v, evVal e] W (ApplyGot W (applyS s e)) := by
  have HA := Lib.hid (fun B vb v w (h : FRow w B v s.fams) hv => fam_at B vb v s.fams e.id w h hv hok.len hok.asc hok.ids hid)
  rw [hh] at HA
  have hap : applyS s e = ⟨s.clock, s.next, s.fams.take (ahead s.fams e.id) ++ s.fams.drop (ahead s.fams e.id + 1)⟩ := by unfold applyS dropL; rw [if_neg (by omega), if_pos hk, if_pos hh]
  have hlt := hasB_lt hh
  have hlen := hok.len
  have hk1 : ¬ e.kind = 1 := by omega
  generalize applyS s e = s' at *
  have HS := Lib.hid hap
  clear hap hh
  have HC := Lib.hid (fun w (h : FRow w B v s.fams) => fam_clone B v s.fams w h hok.len)
  have H0 := Lib.hid h
  have HK := Lib.hid hok
  clear h hok
  obtain ⟨k, ⟨i, cl, su, sc, ge, ma, us, re, de⟩, id, ti⟩ := e
  obtain ⟨ck, nx, L⟩ := s
  dsimp only at *
  subst hk
  have hin := okN_iff.1 hid
  unfold stVal stCs evVal evCs
  dsimp only
  go_enter Tryz.func13, Tryz.ntmps13
  go_wp2_with fail
  refine (HC.out (allocs W ⟨ck, nx, L⟩ ⟨2, ⟨i, cl, su, sc, ge, ma, us, re, de⟩, id, ti⟩ v) (H0.out.below (allocs_below _ _ _ _))).mono ?_
  rintro e w1 ⟨v1, rfl, hr1, hb1⟩
  obtain ⟨sa, sn, rfl⟩ := hr1.slice
  have HP := Lib.hid (AP.start hr1 hb1)
  obtain ⟨c0, c1, c2, c3, c4, c5, c6, c7, c8, c9, c10, c11⟩ := ev_cells HP.out.ev
  obtain ⟨m0, m1, m2, mv, r0, r1, r2, z0, z1, z2⟩ := HP.out.cells
  clear hr1 hb1 HC H0
  go_wp2_with fail
  go_at_call 38
  refine (HA.out _ _ _ _ HP.out.row (HP.out.var.cell 0)).mono ?_
  rintro e w2 ⟨rfl, hb⟩
  have HP2 := Lib.hid (HP.out.keep hb)
  clear hb c0 c1 c2 c3 c4 c5 c6 c7 c8 c9 c10 c11 m0 m1 m2 mv r0 r1 r2 z0 z1 z2
  generalize w1.heap.size = vb at *
  generalize ahead L id = k at *
  obtain ⟨c0, c1, c2, c3, c4, c5, c6, c7, c8, c9, c10, c11⟩ := ev_cells HP2.out.ev
  obtain ⟨m0, m1, m2, mv, r0, r1, r2, z0, z1, z2⟩ := HP2.out.cells
  have hkw : wrap64 ((k : Int) + 1) = (k : Int) + 1 := IntWalk.wrap64_in _ (by omega)
  go_wp2_with fail
  go_at_call 42
  refine (fam_delete W.heap.size k _ L _ HP2.out.row hlt HK.out.len).mono ?_
  rintro e w3 ⟨v3, rfl, hr3, hb3⟩
  have HP3 := Lib.hid (HP2.out.go hb3 hr3)
  have HM := Lib.hid (HP2.out.mid hb3)
  clear c0 c1 c2 c3 c4 c5 c6 c7 c8 c9 c10 c11 m0 m1 m2 mv r0 r1 r2 z0 z1 z2
  obtain ⟨c0, c1, c2, c3, c4, c5, c6, c7, c8, c9, c10, c11⟩ := ev_cells HM.out.2.2.1
  obtain ⟨m0, m1, m2, mv, r0, r1, r2, z0, z1, z2⟩ := st_cells HM.out.2.1 HM.out.2.2.2.1 HM.out.2.2.2.2
  obtain ⟨n1, n2, n3⟩ := HP2.out.nvb
  obtain ⟨sb, sl, sm, rfl⟩ : ∃ a n c, v3 = .slice a n c := by obtain ⟨a, c, hx⟩ := hr3.slice; exact ⟨_, _, _, hx⟩
  clear hb3 hr3
  go_wp2_with fail
  obtain rfl := HS.out
  exact apply_end HP3.out rfl rfl rfl rfl

set_option maxHeartbeats 8000000 in
set_option maxRecDepth 100000 in
theorem apply_none (B : Nat) (v : Value) (s : St) (e : Ev) (W : World) (h : FRow W B v s.fams) (hok : StOk s) (hid : okN e.id = true) (hk : e.kind = 2) (hh : hasB s.fams e.id = false) :
    Calls Tryz.prog 13 #[stVal s v, evVal e] W (ApplyGot W (applyS s e)) := by
  have HA := Lib.hid (fun B vb v w (h : FRow w B v s.fams) hv => fam_at B vb v s.fams e.id w h hv hok.len hok.asc hok.ids hid)
  rw [hh] at HA
  have hap : applyS s e = s := by unfold applyS dropL; rw [if_neg (by omega), if_pos hk, if_neg (by rw [hh]; decide)]
  have hlt := ahead_le s.fams e.id
  have hlen := hok.len
  have hk1 : ¬ e.kind = 1 := by omega
  generalize applyS s e = s' at *
  have HS := Lib.hid hap
  clear hap hh
  have HC := Lib.hid (fun w (h : FRow w B v s.fams) => fam_clone B v s.fams w h hok.len)
  have H0 := Lib.hid h
  have HK := Lib.hid hok
  clear h hok
  obtain ⟨k, ⟨i, cl, su, sc, ge, ma, us, re, de⟩, id, ti⟩ := e
  obtain ⟨ck, nx, L⟩ := s
  dsimp only at *
  subst hk
  have hin := okN_iff.1 hid
  unfold stVal stCs evVal evCs
  dsimp only
  go_enter Tryz.func13, Tryz.ntmps13
  go_wp2_with fail
  refine (HC.out (allocs W ⟨ck, nx, L⟩ ⟨2, ⟨i, cl, su, sc, ge, ma, us, re, de⟩, id, ti⟩ v) (H0.out.below (allocs_below _ _ _ _))).mono ?_
  rintro e w1 ⟨v1, rfl, hr1, hb1⟩
  obtain ⟨sa, sn, rfl⟩ := hr1.slice
  have HP := Lib.hid (AP.start hr1 hb1)
  obtain ⟨c0, c1, c2, c3, c4, c5, c6, c7, c8, c9, c10, c11⟩ := ev_cells HP.out.ev
  obtain ⟨m0, m1, m2, mv, r0, r1, r2, z0, z1, z2⟩ := HP.out.cells
  clear hr1 hb1 HC H0
  go_wp2_with fail
  go_at_call 38
  refine (HA.out _ _ _ _ HP.out.row (HP.out.var.cell 0)).mono ?_
  rintro e w2 ⟨rfl, hb⟩
  have HP2 := Lib.hid (HP.out.keep hb)
  clear hb c0 c1 c2 c3 c4 c5 c6 c7 c8 c9 c10 c11 m0 m1 m2 mv r0 r1 r2 z0 z1 z2
  generalize w1.heap.size = vb at *
  obtain ⟨c0, c1, c2, c3, c4, c5, c6, c7, c8, c9, c10, c11⟩ := ev_cells HP2.out.ev
  obtain ⟨m0, m1, m2, mv, r0, r1, r2, z0, z1, z2⟩ := HP2.out.cells
  go_wp2_with fail
  obtain rfl := HS.out
  exact apply_end HP2.out rfl rfl rfl rfl

set_option maxHeartbeats 8000000 in
set_option maxRecDepth 100000 in
theorem apply_clock (B : Nat) (v : Value) (s : St) (e : Ev) (W : World) (h : FRow W B v s.fams) (hok : StOk s) (hk : e.kind = 3) :
    Calls Tryz.prog 13 #[stVal s v, evVal e] W (ApplyGot W (applyS s e)) := by
  have hap : applyS s e = ⟨e.time, s.next, s.fams⟩ := by unfold applyS; rw [if_neg (by omega), if_neg (by omega), if_pos hk]
  generalize applyS s e = s' at *
  have HS := Lib.hid hap
  have hid : okN 0 = true := by decide
  clear hap
  have HC := Lib.hid (fun w (h : FRow w B v s.fams) => fam_clone B v s.fams w h hok.len)
  have H0 := Lib.hid h
  have HK := Lib.hid hok
  clear h hok
  obtain ⟨k, ⟨i, cl, su, sc, ge, ma, us, re, de⟩, id, ti⟩ := e
  obtain ⟨ck, nx, L⟩ := s
  dsimp only at *
  subst hk
  have hin := okN_iff.1 hid
  unfold stVal stCs evVal evCs
  dsimp only
  go_enter Tryz.func13, Tryz.ntmps13
  go_wp2_with fail
  refine (HC.out (allocs W ⟨ck, nx, L⟩ ⟨3, ⟨i, cl, su, sc, ge, ma, us, re, de⟩, id, ti⟩ v) (H0.out.below (allocs_below _ _ _ _))).mono ?_
  rintro e w1 ⟨v1, rfl, hr1, hb1⟩
  obtain ⟨sa, sn, rfl⟩ := hr1.slice
  have HP := Lib.hid (AP.start hr1 hb1)
  obtain ⟨c0, c1, c2, c3, c4, c5, c6, c7, c8, c9, c10, c11⟩ := ev_cells HP.out.ev
  obtain ⟨m0, m1, m2, mv, r0, r1, r2, z0, z1, z2⟩ := HP.out.cells
  obtain ⟨n1, n2, n3⟩ := HP.out.nvb
  clear hr1 hb1 HC H0
  go_wp2_with fail
  obtain rfl := HS.out
  exact apply_end (HP.out.set 0 (.int .i64 ti) rfl) rfl rfl rfl rfl

set_option maxHeartbeats 8000000 in
set_option maxRecDepth 100000 in
theorem apply_other (B : Nat) (v : Value) (s : St) (e : Ev) (W : World) (h : FRow W B v s.fams) (hok : StOk s) (hk1 : ¬ e.kind = 1) (hk2 : ¬ e.kind = 2) (hk3 : ¬ e.kind = 3) :
    Calls Tryz.prog 13 #[stVal s v, evVal e] W (ApplyGot W (applyS s e)) := by
  have hap : applyS s e = s := by unfold applyS; rw [if_neg hk1, if_neg hk2, if_neg hk3]
  generalize applyS s e = s' at *
  have HS := Lib.hid hap
  have hid : okN 0 = true := by decide
  clear hap
  have HC := Lib.hid (fun w (h : FRow w B v s.fams) => fam_clone B v s.fams w h hok.len)
  have H0 := Lib.hid h
  have HK := Lib.hid hok
  clear h hok
  obtain ⟨k, ⟨i, cl, su, sc, ge, ma, us, re, de⟩, id, ti⟩ := e
  obtain ⟨ck, nx, L⟩ := s
  dsimp only at *
  have hx := hk1
  have hin := okN_iff.1 hid
  unfold stVal stCs evVal evCs
  dsimp only
  go_enter Tryz.func13, Tryz.ntmps13
  go_wp2_with fail
  refine (HC.out (allocs W ⟨ck, nx, L⟩ ⟨k, ⟨i, cl, su, sc, ge, ma, us, re, de⟩, id, ti⟩ v) (H0.out.below (allocs_below _ _ _ _))).mono ?_
  rintro e w1 ⟨v1, rfl, hr1, hb1⟩
  obtain ⟨sa, sn, rfl⟩ := hr1.slice
  have HP := Lib.hid (AP.start hr1 hb1)
  obtain ⟨c0, c1, c2, c3, c4, c5, c6, c7, c8, c9, c10, c11⟩ := ev_cells HP.out.ev
  obtain ⟨m0, m1, m2, mv, r0, r1, r2, z0, z1, z2⟩ := HP.out.cells
  clear hr1 hb1 HC H0
  go_wp2_with fail
  obtain rfl := HS.out
  exact apply_end HP.out rfl rfl rfl rfl

/-- event.Apply -/
theorem ev_apply (B : Nat) (v : Value) (s : St) (e : Ev) (W : World) (h : FRow W B v s.fams) (hok : StOk s) (h1 : e.kind = 1 → okN e.fam.id = true) (h2 : e.kind = 2 → okN e.id = true) :
    Calls Tryz.prog 13 #[stVal s v, evVal e] W (ApplyGot W (applyS s e)) := by
  by_cases hk1 : e.kind = 1
  · cases hh : hasB s.fams e.fam.id with
    | true => exact apply_set B v s e W h hok (h1 hk1) hk1 hh
    | false => exact apply_new B v s e W h hok (h1 hk1) hk1 hh
  · by_cases hk2 : e.kind = 2
    · cases hh : hasB s.fams e.id with
      | true => exact apply_drop B v s e W h hok (h2 hk2) hk2 hh
      | false => exact apply_none B v s e W h hok (h2 hk2) hk2 hh
    · by_cases hk3 : e.kind = 3
      · exact apply_clock B v s e W h hok hk3
      · exact apply_other B v s e W h hok hk1 hk2 hk3
theorem okN_one {e : Ev} (he : evB e = true) : e.kind = 1 → okN e.fam.id = true := fun hk => by
  rcases evB_kind he with ⟨_, _, _, hf⟩ | ⟨h1, _⟩ | ⟨h1, _⟩
  · exact (famB_parts hf).1
  · omega
  · omega
theorem okN_two {e : Ev} (he : evB e = true) : e.kind = 2 → okN e.id = true := fun hk => by
  rcases evB_kind he with ⟨h1, _⟩ | ⟨_, _, _, h2⟩ | ⟨h1, _⟩
  · omega
  · exact h2
  · omega
/-- what Apply gives, told apart -/
def GotAs (w0 : World) (ck nx : Int) (L : List Fam) (x : Ending) (w' : World) : Prop := ∃ a c, x = .returned (.agg #[.int .i64 ck, .int .i64 nx, .slice a L.length c]) ∧ FRow w' w0.heap.size (.slice a L.length c) L ∧ Below w0.heap.size w0 w'
theorem got_as {w0 : World} {s' : St} {x : Ending} {w' : World} (h : ApplyGot w0 s' x w') : GotAs w0 s'.clock s'.next s'.fams x w' := by
  obtain ⟨v, rfl, hr, hb⟩ := h
  obtain ⟨a, c, rfl⟩ := hr.slice
  exact ⟨a, c, rfl, hr, hb⟩
end Go.Proofs.YtdogilbnbbeljaaGreatDoor
