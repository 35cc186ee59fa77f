/-
  The reference's Apply: a state behind an event.
-/
import Derived.Test.YtdogilbnbbeljaaGreatDoorH39
import Derived.Test.YtdogilbnbbeljaaGreatDoorH16
namespace Go.Proofs.YtdogilbnbbeljaaGreatDoor
open Go.RowKit Go.Sort

/-- the reference's Apply under way: its state's cells, its event, the row that it reads, the one that it makes -/
structure RP (W : World) (B : Nat) (cs : Array Value) (e : Ev) (v0 : Value) (Lf : List Fam) (v : Value) (L : List Fam) (w : World) : Prop where
  below : Below W.heap.size W w
  st : Blk w W.heap.size 36 cs
  ev : Blk w (W.heap.size + 1) 61 (evCs e)
  re : Blk w (W.heap.size + 1 + 1) 36 #[.int .i64 0, .int .i64 0, .slice none 0 0]
  var : Blk w (W.heap.size + 1 + 1 + 1) 34 #[v]
  row : FRow w (W.heap.size + 1 + 1 + 1 + 1) v L
  src : FRow w B v0 Lf
  low : ∀ g, v0.ownBlock = some g → g < W.heap.size

section
variable {W : World} {B : Nat} {cs : Array Value} {e : Ev} {v0 v : Value} {Lf L : List Fam} {w w' : World}
theorem RP.far (h : RP W B cs e v0 Lf v L w) {g : Nat} (hg : g ≤ W.heap.size + 1 + 1 + 1) : v.ownBlock ≠ some g := fun he => by have := (h.row.lt _ he).1; omega
theorem RP.near (h : RP W B cs e v0 Lf v L w) {g : Nat} (hg : W.heap.size ≤ g) : v0.ownBlock ≠ some g := fun he => by have := h.low _ he; omega
theorem RP.keep (h : RP W B cs e v0 Lf v L w) (hb : Below w.heap.size w w') : RP W B cs e v0 Lf v L w' :=
  ⟨h.below.trans (hb.mono h.below.size), h.st.below' hb, h.ev.below' hb, h.re.below' hb, h.var.below' hb, h.row.below hb, h.src.below hb, h.low⟩
/-- a cell of the state is set -/
theorem RP.set (h : RP W B cs e v0 Lf v L w) (i : Nat) (u : Value) {cs' : Array Value} (hc : cs.setIfInBounds i u = cs') : RP W B cs' e v0 Lf v L (w.setCell ⟨W.heap.size, i, none⟩ u) := by
  have hg := only_set1 w W.heap.size ⟨W.heap.size, i, none⟩ rfl u
  refine ⟨h.below.setCell (Nat.le_refl _) u, ?_, h.ev.far (by show W.heap.size + 1 ≠ W.heap.size; omega) u, h.re.far (by show W.heap.size + 1 + 1 ≠ W.heap.size; omega) u, h.var.far (by show W.heap.size + 1 + 1 + 1 ≠ W.heap.size; omega) u, h.row.kept hg (h.far (by omega)), h.src.kept hg (h.near (Nat.le_refl _)), h.low⟩
  rw [← hc]
  exact h.st.set_ i u
/-- the row's block is turned -/
theorem RP.turn (h : RP W B cs e v0 Lf v L w) (hg : w.grownBy w' v.ownBlock) {L' : List Fam} (hr : FRow w' (W.heap.size + 1 + 1 + 1 + 1) v L') : RP W B cs e v0 Lf v L' w' := by
  have hne : ∀ g, g ≤ W.heap.size + 1 + 1 + 1 → some g ≠ v.ownBlock := fun g hg => Ne.symm (h.far hg)
  refine ⟨h.below.grown hg h.below.size (fun k hk => by have := (h.row.lt k hk).1; omega), h.st.grown hg (hne _ (by omega)), h.ev.grown hg (hne _ (by omega)), h.re.grown hg (hne _ (by omega)), h.var.grown hg (hne _ (by omega)), hr, World.ownsRow.kept h.src hg ?_, h.low⟩
  rcases hv : v0.ownBlock with _ | g
  · exact .inl rfl
  · refine .inr fun he => ?_
    have := h.low g hv
    have := (h.row.lt g he.symm).1
    omega
/-- another row is stored -/
theorem RP.go (h : RP W B cs e v0 Lf v L w) (hg : w.grownBy w' v.ownBlock) {v' : Value} {L' : List Fam} (hr : FRow w' (W.heap.size + 1 + 1 + 1 + 1) v' L') : RP W B cs e v0 Lf v' L' (w'.setCell ⟨W.heap.size + 1 + 1 + 1, 0, none⟩ v') := by
  have hne : ∀ g, g ≤ W.heap.size + 1 + 1 + 1 → some g ≠ v.ownBlock := fun g hg => Ne.symm (h.far hg)
  have k1 := h.below.grown hg h.below.size (fun k hk => by have := (h.row.lt k hk).1; omega)
  have k2 := h.st.grown hg (hne _ (by omega))
  have k3 := h.ev.grown hg (hne _ (by omega))
  have k4 := h.re.grown hg (hne _ (by omega))
  have k5 := h.var.grown hg (hne _ (by omega))
  have k6 : FRow w' B v0 Lf := World.ownsRow.kept h.src hg (by
    rcases hv : v0.ownBlock with _ | g
    · exact .inl rfl
    · refine .inr fun he => ?_
      have := h.low g hv
      have := (h.row.lt g he.symm).1
      omega)
  have hs := only_set1 w' (W.heap.size + 1 + 1 + 1) ⟨W.heap.size + 1 + 1 + 1, 0, none⟩ rfl v'
  exact ⟨k1.setCell (by show W.heap.size ≤ W.heap.size + 1 + 1 + 1; omega) v', k2.far (by show W.heap.size ≠ W.heap.size + 1 + 1 + 1; omega) v', k3.far (by show W.heap.size + 1 ≠ W.heap.size + 1 + 1 + 1; omega) v', k4.far (by show W.heap.size + 1 + 1 ≠ W.heap.size + 1 + 1 + 1; omega) v', k5.set_ 0 v', hr.kept hs (fun he => by have := (hr.lt _ he).1; omega), k6.kept hs (h.near (by omega)), h.low⟩
theorem RP.cells {k0 k1 k2 : Value} (h : RP W B #[k0, k1, k2] e v0 Lf v L w) : w.cell? ⟨W.heap.size, 0, none⟩ = some k0 ∧ w.cell? ⟨W.heap.size, 1, none⟩ = some k1 ∧ w.cell? ⟨W.heap.size, 2, none⟩ = some k2 ∧ w.cell? ⟨W.heap.size + 1 + 1 + 1, 0, none⟩ = some v ∧
    w.cell? ⟨W.heap.size + 1 + 1, 0, none⟩ = some (.int .i64 0) ∧ w.cell? ⟨W.heap.size + 1 + 1, 1, none⟩ = some (.int .i64 0) ∧ w.cell? ⟨W.heap.size + 1 + 1, 2, none⟩ = some (.slice none 0 0) ∧ (∀ j, w.frozen? ⟨W.heap.size, j, none⟩ = false) ∧ (∀ j, w.frozen? ⟨W.heap.size + 1 + 1, j, none⟩ = false) ∧ (∀ j, w.frozen? ⟨W.heap.size + 1 + 1 + 1, j, none⟩ = false) :=
  st_cells h.st h.re h.var
theorem RP.lts (h : RP W B cs e v0 Lf v L w) : W.heap.size < w.heap.size ∧ W.heap.size + 1 < w.heap.size ∧ W.heap.size + 1 + 1 < w.heap.size ∧ W.heap.size + 1 + 1 + 1 < w.heap.size := ⟨h.st.lt, h.ev.lt, h.re.lt, h.var.lt⟩
end
def rallocs (W : World) (s : St) (e : Ev) (v : Value) : World := (((W.alloc (.cells (stCs s v) 36)).alloc (.cells (evCs e) 61)).alloc (.cells #[.int .i64 0, .int .i64 0, .slice none 0 0] 36)).alloc (.cells #[.slice none 0 0] 34)
theorem RP.start {W : World} {B : Nat} {s : St} {e : Ev} {v : Value} (hr : FRow W B v s.fams) : RP W B (stCs s v) e v s.fams (.slice none 0 0) [] (rallocs W s e v) := by
  have hb : Below W.heap.size W (rallocs W s e v) := ((((Below.refl W.heap.size W).alloc (Nat.le_refl _) _).alloc (by simp) _).alloc (by simp; omega) _).alloc (by simp; omega) _
  have a1 : Blk (rallocs W s e v) W.heap.size 36 (stCs s v) := (((Blk.new W _ _).alloc _).alloc _).alloc _
  have a2 : Blk (rallocs W s e v) (W.heap.size + 1) 61 (evCs e) := by
    have := ((Blk.new (W.alloc (.cells (stCs s v) 36)) 61 (evCs e)).alloc (.cells #[.int .i64 0, .int .i64 0, .slice none 0 0] 36)).alloc (.cells #[.slice none 0 0] 34)
    simpa [rallocs] using this
  have a3 : Blk (rallocs W s e v) (W.heap.size + 1 + 1) 36 #[.int .i64 0, .int .i64 0, .slice none 0 0] := by
    have := (Blk.new ((W.alloc (.cells (stCs s v) 36)).alloc (.cells (evCs e) 61)) 36 #[.int .i64 0, .int .i64 0, .slice none 0 0]).alloc (.cells #[.slice none 0 0] 34)
    simpa [rallocs] using this
  have a4 : Blk (rallocs W s e v) (W.heap.size + 1 + 1 + 1) 34 #[.slice none 0 0] := by
    have := Blk.new (((W.alloc (.cells (stCs s v) 36)).alloc (.cells (evCs e) 61)).alloc (.cells #[.int .i64 0, .int .i64 0, .slice none 0 0] 36)) 34 #[.slice none 0 0]
    simpa [rallocs] using this
  exact ⟨hb, a1, a2, a3, a4, FRow.nil _ _, hr.below hb, fun g hg => (hr.lt g hg).2⟩
theorem rp_end {W w : World} {A : Act} {B : Nat} {s' : St} {e : Ev} {v v0 vz : Value} {Lf : List Fam} {ck nx : Int} (h : RP W B #[.int .i64 ck, .int .i64 nx, vz] e v0 Lf v s'.fams w) (h1 : ck = s'.clock) (h2 : nx = s'.next)
    (hp : A.tmps.getD 4 undef = .pointer (some ⟨W.heap.size + 1 + 1, 0, none⟩)) (hd : A.defers = []) :
    bodyPost Tryz.prog Tryz.f45 (ApplyGot W s') Exit.ret A ((((w.setCell ⟨W.heap.size, 2, none⟩ v).setCell ⟨W.heap.size + 1 + 1, 0, none⟩ (.int .i64 ck)).setCell ⟨W.heap.size + 1 + 1, 1, none⟩ (.int .i64 nx)).setCell ⟨W.heap.size + 1 + 1, 2, none⟩ v) := by
  subst h1
  subst h2
  have k := h.set 2 v rfl
  have h1 := k.re.put_ 0 (.int .i64 s'.clock) (cs' := #[.int .i64 s'.clock, .int .i64 0, .slice none 0 0]) rfl
  have h2 := h1.put_ 1 (.int .i64 s'.next) (cs' := #[.int .i64 s'.clock, .int .i64 s'.next, .slice none 0 0]) rfl
  have hr := h2.put_ 2 v (cs' := stCs s' v) rfl
  have g1 := only_set1 (w.setCell ⟨W.heap.size, 2, none⟩ v) (W.heap.size + 1 + 1) ⟨W.heap.size + 1 + 1, 0, none⟩ rfl (.int .i64 s'.clock)
  have g2 := only_setCell g1 (p := ⟨W.heap.size + 1 + 1, 1, none⟩) (.inl rfl) (.int .i64 s'.next)
  have hg := only_setCell g2 (p := ⟨W.heap.size + 1 + 1, 2, none⟩) (.inl rfl) v
  have hb := k.below.grown hg k.below.size (fun j hj => by cases hj; omega)
  have hrow := k.row.kept hg (k.far (by omega))
  generalize ((((w.setCell ⟨W.heap.size, 2, none⟩ v).setCell ⟨W.heap.size + 1 + 1, 0, none⟩ (.int .i64 s'.clock)).setCell ⟨W.heap.size + 1 + 1, 1, none⟩ (.int .i64 s'.next)).setCell ⟨W.heap.size + 1 + 1, 2, none⟩ v) = wz at *
  exact bodyPost_ret (results_cell_row rfl A.tmps wz _ _ _ (0, 0) _ hp hr Tryz.underlying36 rfl (by kernel_rfl)) hd ⟨v, rfl, hrow.mono (by omega), hb⟩

theorem others_take {L : List Fam} {n : Int} {k : Nat} {f : Fam} (hf : L[k]? = some f) : others (L.take (k + 1)) n = others (L.take k) n ++ if f.id ≠ n then [f] else [] := by
  rw [List.take_add_one, hf]
  unfold others
  rw [List.filter_append]
  congr 1
  by_cases h : f.id = n
  · simp [h]
  · simp [h]

theorem FRow.app {w : World} {B : Nat} {v : Value} {L : List Fam} {f : Fam} (h : w.ownsRow B 40 9 v (L.length + 1) (flat L ++ (famCs f).toList)) : FRow w B v (L ++ [f]) := by
  unfold FRow
  rw [List.length_append, flat_app]
  have e : flat [f] = (famCs f).toList := by simp [flat]
  rw [e]
  exact h
theorem news_at {w : World} {g : Nat} {T : TypeId} {cs : Array Value} (h : Blk w g T cs) : ∀ j u, cs.toList[j]? = some u → w.cell? ((⟨g, 0, none⟩ : Addr).add j) = some u := by
  intro j u hj
  rw [Addr.add_lit, Nat.zero_add, h.cell j]
  rwa [Array.getElem?_toList] at hj
theorem row_slice {w : World} {B : Nat} {T : TypeId} {z n : Nat} {v : Value} {xs : List Value} (h : w.ownsRow B T z v n xs) : ∃ a m c, v = .slice a m c := by
  rcases h.2 with ⟨rfl, _⟩ | ⟨g, cap, cur, rfl, _⟩
  · exact ⟨_, _, _, rfl⟩
  · exact ⟨_, _, _, rfl⟩
def twice (w : World) (f : Fam) : World := (w.alloc (.cells (famCs f) 40)).alloc (.cells (famCs f) 40)
theorem RP.twice_ {W : World} {B : Nat} {cs : Array Value} {e : Ev} {v0 v : Value} {Lf L : List Fam} {w : World} (h : RP W B cs e v0 Lf v L w) (f : Fam) : RP W B cs e v0 Lf v L (twice w f) ∧ (twice w f).ownsRow (W.heap.size + 1 + 1 + 1 + 1) 40 9 v L.length (flat L) ∧
    (∀ j u, (famCs f).toList[j]? = some u → (twice w f).cell? ((⟨w.heap.size + 1, 0, none⟩ : Addr).add j) = some u) ∧ W.heap.size + 1 + 1 + 1 + 1 ≤ (twice w f).heap.size := by
  have k := h.keep (((Below.refl w.heap.size w).alloc (Nat.le_refl _) (.cells (famCs f) 40)).alloc (by simp) (.cells (famCs f) 40))
  refine ⟨k, k.row, ?_, by have := k.var.lt; show _ ≤ (twice w f).heap.size; unfold twice; omega⟩
  have hb := Blk.new (w.alloc (.cells (famCs f) 40)) 40 (famCs f)
  have := news_at hb
  simpa [twice] using this
def once (w : World) (f : Fam) : World := w.alloc (.cells (famCs f) 40)
theorem RP.once_ {W : World} {B : Nat} {cs : Array Value} {e : Ev} {v0 v : Value} {Lf L : List Fam} {w : World} (h : RP W B cs e v0 Lf v L w) (f : Fam) : RP W B cs e v0 Lf v L (once w f) ∧ (once w f).ownsRow (W.heap.size + 1 + 1 + 1 + 1) 40 9 v L.length (flat L) ∧
    (∀ j u, (famCs f).toList[j]? = some u → (once w f).cell? ((⟨w.heap.size, 0, none⟩ : Addr).add j) = some u) ∧ W.heap.size + 1 + 1 + 1 + 1 ≤ (once w f).heap.size := by
  have k := h.keep ((Below.refl w.heap.size w).alloc (Nat.le_refl _) (.cells (famCs f) 40))
  exact ⟨k, k.row, news_at (Blk.new w 40 (famCs f)), by have := k.var.lt; show _ ≤ (once w f).heap.size; unfold once; omega⟩
theorem RP.news {W : World} {B : Nat} {cs : Array Value} {e : Ev} {v : Value} {Lf L : List Fam} {w : World} {g cap : Nat} (h : RP W B cs e (.slice (some ⟨g, 0, none⟩) Lf.length cap) Lf v L w) : ∀ j u, (flat Lf)[j]? = some u → w.cell? ((⟨g, 0, none⟩ : Addr).add j) = some u := by
  intro j u hj
  have hjl := (List.getElem?_eq_some_iff.1 hj).1
  rw [flat_len] at hjl
  rcases h.src.parts with ⟨e, _⟩ | ⟨g', cap', e, _, _, _, _, _, _, hc⟩
  · simp at e
  · simp only [Value.slice.injEq, Option.some.injEq, Addr.mk.injEq, and_true, true_and] at e
    obtain ⟨rfl, rfl⟩ := e
    rw [Addr.add_lit, Nat.zero_add, hc j hjl, hj]
theorem fam_ones (f : Fam) : ∀ u ∈ (famCs f).toList, u.oneCell' = true := fun u hu => flat_one (L := [f]) (by simpa [flat] using hu)
theorem RP.after {W : World} {B : Nat} {cs : Array Value} {e : Ev} {v0 v : Value} {Lf L : List Fam} {w w' : World} (h : RP W B cs e v0 Lf v L w) (hg : w.grownBy w' v.ownBlock) : w'.cell? ⟨W.heap.size + 1 + 1 + 1, 0, none⟩ = some v ∧ w'.frozen? ⟨W.heap.size + 1 + 1 + 1, 0, none⟩ = false := by
  have k := h.var.grown hg (Ne.symm (h.far (by omega)))
  exact ⟨k.cell 0, k.frozen 0⟩
theorem RP.next {W : World} {B : Nat} {cs : Array Value} {e : Ev} {v0 v v' : Value} {Lf L : List Fam} {w w' : World} {f : Fam} (h : RP W B cs e v0 Lf v L w) (hg : w.grownBy w' v.ownBlock) (ho : w'.ownsRow (W.heap.size + 1 + 1 + 1 + 1) 40 9 v' (L.length + 1) (flat L ++ (famCs f).toList)) :
    RP W B cs e v0 Lf v' (L ++ [f]) (w'.setCell ⟨W.heap.size + 1 + 1 + 1, 0, none⟩ v') := h.go hg (FRow.app ho)
def RLoop (W : World) (B : Nat) (cs : Array Value) (e : Ev) (v0 : Value) (Lf : List Fam) (n : Int) (i : Value) (w : World) : Prop := ∃ (k : Nat) (v : Value), k ≤ Lf.length ∧ i = .int .i64 k ∧ RP W B cs e v0 Lf v (others (Lf.take k) n) w

set_option maxHeartbeats 8000000 in
set_option maxRecDepth 100000 in
theorem refapply_put (B : Nat) (v : Value) (s : St) (e : Ev) (W : World) (h : FRow W B v s.fams) (hok : StOk s) (hid : okN e.fam.id = true) (hk : e.kind = 1) :
    Calls Tryz.prog 45 #[stVal s v, evVal e] W (ApplyGot W (applyS s e)) := by
  have hap : applyS s e = ⟨s.clock, max s.next (e.fam.id + 1), putL s.fams e.fam⟩ := by unfold applyS; rw [if_pos hk]
  have HA := Lib.hid hok.asc
  have hin := okN_iff.1 hid
  obtain ⟨i0, hii, hz0, hz1, hz2⟩ := info_parts famInfo
  have hlen := hok.len
  generalize applyS s e = s' at *
  have HS := Lib.hid hap
  have H0 := Lib.hid (RP.start (e := e) h)
  have h0 := h
  clear hap h hok hid
  obtain ⟨sa, sc', rfl⟩ := h0.slice
  obtain ⟨k, ⟨i, cl, su, sc, ge, ma, us, re, de⟩, id, ti⟩ := e
  obtain ⟨ck, nx, L⟩ := s
  dsimp only at *
  subst hk
  clear h0
  unfold stVal stCs evVal evCs
  dsimp only
  go_enter Tryz.func45, Tryz.ntmps45
  go_wp2_with fail
  go_loopw [24] (fun i' wr => RLoop W B #[.int .i64 ck, .int .i64 nx, .slice sa L.length sc'] ⟨1, ⟨i, cl, su, sc, ge, ma, us, re, de⟩, id, ti⟩ (.slice sa L.length sc') L i i' wr) (fun i' _ => L.length - (intOf i').toNat)
  case atStart => exact ⟨0, _, Nat.zero_le _, rfl, H0.out⟩
  case round =>
    obtain ⟨k, v, hk, rfl, hp⟩ := hrel
    have HP := Lib.hid hp
    obtain ⟨va, vn, vc, rfl⟩ : ∃ a n c, v = .slice a n c := by obtain ⟨a, c, hx⟩ := hp.row.slice; exact ⟨_, _, _, hx⟩
    obtain ⟨m0, m1, m2, mv, r0, r1, r2, z0, z1, z2⟩ := hp.cells
    obtain ⟨c0, c1, c2, c3, c4, c5, c6, c7, c8, c9, c10, c11⟩ := ev_cells hp.ev
    obtain ⟨l0, l1, l2, l3⟩ := hp.lts
    clear hp
    by_cases hlt : k < L.length
    · obtain ⟨g, rfl, _, rs⟩ := HP.out.src.lit hlt
      obtain ⟨f, hf⟩ : ∃ f, L[k]? = some f := ⟨_, List.getElem?_eq_getElem hlt⟩
      have ho := others_take (n := i) hf
      obtain ⟨fi, fcl, fsu, fsc, fge, fma, fus, fre, fde⟩ := f
      obtain ⟨d0, d1, d2, d3, d4, d5, d6, d7, d8⟩ := rs.nine hf
      clear rs hf
      dsimp only at ho
      by_cases hne : fi = i
      · rw [if_neg (by simpa using hne), List.append_nil] at ho
        have HO := Lib.hid ho
        subst hne
        clear ho
        have HP1 := Lib.hid (HP.out.keep ((Below.refl wr.heap.size wr).alloc (Nat.le_refl _) (.cells (famCs ⟨fi, fcl, fsu, fsc, fge, fma, fus, fre, fde⟩) 40)))
        unfold famCs at HP1
        dsimp only at HP1
        go_wp2_with fail
        go_roundw
        case rel => exact ⟨k + 1, _, by omega, by go_num, by rw [HO.out]; exact HP1.out⟩
        case measure => simp [intOf]; omega
      · rw [if_pos hne] at ho
        have HO := Lib.hid ho
        clear ho
        obtain ⟨p1, p2, p3, p4⟩ := HP.out.twice_ ⟨fi, fcl, fsu, fsc, fge, fma, fus, fre, fde⟩
        have HP1 := Lib.hid p1
        have HW := Lib.hid p2
        have HN := Lib.hid p3
        have HON := Lib.hid (fam_ones ⟨fi, fcl, fsu, fsc, fge, fma, fus, fre, fde⟩)
        have HSZ := Lib.hid p4
        have hol := others_len (L.take k) i
        have htl : (L.take k).length ≤ L.length := by simp; omega
        clear p1 p2 p3 p4
        generalize others (L.take k) i = Lk at *
        unfold twice famCs at HP1 HW HN HSZ HON
        dsimp only at HP1 HW HN HSZ HON
        go_wp2_with
          (at_builtin; refine wpList_append_own _ rfl _ _ 34 rfl (W.heap.size + 1 + 1 + 1 + 1) 40 i0 (.agg (famCs Fam.zero)) 9 104 Tryz.underlying34 hii hz0 hz1 hz2 rfl (by decide) _ _ _ rfl HW.out ⟨wr.heap.size + 1, 0, none⟩ 1 1 _ rfl rfl HN.out HON.out (by unfold maxLen; omega) (by omega) HSZ.out ?_; intro v' w3 hown hgrow hnil
           have HG := Lib.hid hgrow
           have HX := Lib.hid hown
           obtain ⟨xa, xn, xc, rfl⟩ := row_slice hown
           obtain ⟨mw, zw⟩ := HP1.out.after hgrow
           clear hown hgrow hnil)
        go_roundw
        case rel => exact ⟨k + 1, _, by omega, by go_num, by rw [HO.out]; exact HP1.out.next HG.out HX.out⟩
        case measure => simp [intOf]; omega
    · obtain rfl : k = L.length := by omega
      rw [List.take_length] at HP
      have hol := others_len L i
      obtain ⟨p1, p2, p3, p4⟩ := HP.out.once_ ⟨i, cl, su, sc, ge, ma, us, re, de⟩
      have HP1 := Lib.hid p1
      have HW := Lib.hid p2
      have HN := Lib.hid p3
      have HON := Lib.hid (fam_ones ⟨i, cl, su, sc, ge, ma, us, re, de⟩)
      have HSZ := Lib.hid p4
      have HSO := Lib.hid (fun R hp hs => sorted_putL (R := R) HA.out (f := ⟨i, cl, su, sc, ge, ma, us, re, de⟩) hp hs)
      clear p1 p2 p3 p4
      dsimp only at HSO
      generalize others L i = Lk at *
      unfold once famCs at HP1 HW HN HSZ HON
      dsimp only at HP1 HW HN HSZ HON
      go_wp2_with
        (at_builtin; refine wpList_append_own _ rfl _ _ 34 rfl (W.heap.size + 1 + 1 + 1 + 1) 40 i0 (.agg (famCs Fam.zero)) 9 104 Tryz.underlying34 hii hz0 hz1 hz2 rfl (by decide) _ _ _ rfl HW.out ⟨wr.heap.size, 0, none⟩ 1 1 _ rfl rfl HN.out HON.out (by unfold maxLen; omega) (by omega) HSZ.out ?_; intro v' w3 hown hgrow hnil
         have HG := Lib.hid hgrow
         have HX := Lib.hid hown
         obtain ⟨xa, xn, xc, rfl⟩ := row_slice hown
         obtain ⟨mw, zw⟩ := HP1.out.after hgrow
         clear hown hgrow hnil)
      have HP4 := Lib.hid (RP.next (f := ⟨i, cl, su, sc, ge, ma, us, re, de⟩) HP1.out HG.out HX.out)
      go_at_call 68
      refine (fam_sort _ _ _ _ _ HP4.out.row (by rw [List.length_append]; simp; omega) (HP4.out.var.cell 0) (HP4.out.far (Nat.le_refl _))).mono ?_
      rintro x w5 ⟨rfl, R, hR1, hR2, hR3, hR4, hR5⟩
      have HP5 := Lib.hid (HP4.out.turn hR5 hR4)
      obtain rfl := HSO.out R hR1 hR2
      clear hR1 hR2 hR3 hR4 hR5 HP1 HP4 HW HN HON HSZ HSO HG HX m0 m1 m2 mv r0 r1 r2 z0 z1 z2 c0 c1 c2 c3 c4 c5 c6 c7 c8 c9 c10 c11 mw zw l0 l1 l2 l3
      obtain ⟨m0, m1, m2, mv, r0, r1, r2, z0, z1, z2⟩ := HP5.out.cells
      obtain ⟨c0, c1, c2, c3, c4, c5, c6, c7, c8, c9, c10, c11⟩ := ev_cells HP5.out.ev
      by_cases hle : nx ≤ i
      · go_wp2_with fail
        obtain rfl := HS.out
        exact rp_end (HP5.out.set 1 (.int .i64 (i + 1)) rfl) rfl (by show i + 1 = max nx (i + 1); omega) rfl rfl
      · go_wp2_with fail
        obtain rfl := HS.out
        exact rp_end HP5.out rfl (by show nx = max nx (i + 1); omega) rfl rfl

set_option maxHeartbeats 8000000 in
set_option maxRecDepth 100000 in
theorem refapply_drop (B : Nat) (v : Value) (s : St) (e : Ev) (W : World) (h : FRow W B v s.fams) (hok : StOk s) (hk : e.kind = 2) :
    Calls Tryz.prog 45 #[stVal s v, evVal e] W (ApplyGot W (applyS s e)) := by
  have hap : applyS s e = ⟨s.clock, s.next, others s.fams e.id⟩ := by rw [← dropL_others hok.asc]; unfold applyS; rw [if_neg (by omega), if_pos hk]
  obtain ⟨i0, hii, hz0, hz1, hz2⟩ := info_parts famInfo
  have hlen := hok.len
  generalize applyS s e = s' at *
  have HS := Lib.hid hap
  have H0 := Lib.hid (RP.start (e := e) h)
  have h0 := h
  clear hap h hok
  obtain ⟨sa, sc', rfl⟩ := h0.slice
  obtain ⟨k, ⟨i, cl, su, sc, ge, ma, us, re, de⟩, id, ti⟩ := e
  obtain ⟨ck, nx, L⟩ := s
  dsimp only at *
  subst hk
  clear h0
  unfold stVal stCs evVal evCs
  dsimp only
  go_enter Tryz.func45, Tryz.ntmps45
  go_wp2_with fail
  go_loopw [64] (fun i' wr => RLoop W B #[.int .i64 ck, .int .i64 nx, .slice sa L.length sc'] ⟨2, ⟨i, cl, su, sc, ge, ma, us, re, de⟩, id, ti⟩ (.slice sa L.length sc') L id i' wr) (fun i' _ => L.length - (intOf i').toNat)
  case atStart => exact ⟨0, _, Nat.zero_le _, rfl, H0.out⟩
  case round =>
    obtain ⟨k, v, hk, rfl, hp⟩ := hrel
    have HP := Lib.hid hp
    obtain ⟨va, vn, vc, rfl⟩ : ∃ a n c, v = .slice a n c := by obtain ⟨a, c, hx⟩ := hp.row.slice; exact ⟨_, _, _, hx⟩
    obtain ⟨m0, m1, m2, mv, r0, r1, r2, z0, z1, z2⟩ := hp.cells
    obtain ⟨c0, c1, c2, c3, c4, c5, c6, c7, c8, c9, c10, c11⟩ := ev_cells hp.ev
    obtain ⟨l0, l1, l2, l3⟩ := hp.lts
    clear hp
    by_cases hlt : k < L.length
    · obtain ⟨g, rfl, _, rs⟩ := HP.out.src.lit hlt
      obtain ⟨f, hf⟩ : ∃ f, L[k]? = some f := ⟨_, List.getElem?_eq_getElem hlt⟩
      have ho := others_take (n := id) hf
      obtain ⟨fi, fcl, fsu, fsc, fge, fma, fus, fre, fde⟩ := f
      obtain ⟨d0, d1, d2, d3, d4, d5, d6, d7, d8⟩ := rs.nine hf
      clear rs hf
      dsimp only at ho
      by_cases hne : fi = id
      · rw [if_neg (by simpa using hne), List.append_nil] at ho
        have HO := Lib.hid ho
        subst hne
        clear ho
        have HP1 := Lib.hid (HP.out.keep ((Below.refl wr.heap.size wr).alloc (Nat.le_refl _) (.cells (famCs ⟨fi, fcl, fsu, fsc, fge, fma, fus, fre, fde⟩) 40)))
        unfold famCs at HP1
        dsimp only at HP1
        go_wp2_with fail
        go_roundw
        case rel => exact ⟨k + 1, _, by omega, by go_num, by rw [HO.out]; exact HP1.out⟩
        case measure => simp [intOf]; omega
      · rw [if_pos hne] at ho
        have HO := Lib.hid ho
        clear ho
        obtain ⟨p1, p2, p3, p4⟩ := HP.out.twice_ ⟨fi, fcl, fsu, fsc, fge, fma, fus, fre, fde⟩
        have HP1 := Lib.hid p1
        have HW := Lib.hid p2
        have HN := Lib.hid p3
        have HON := Lib.hid (fam_ones ⟨fi, fcl, fsu, fsc, fge, fma, fus, fre, fde⟩)
        have HSZ := Lib.hid p4
        have hol := others_len (L.take k) id
        have htl : (L.take k).length ≤ L.length := by simp; omega
        clear p1 p2 p3 p4
        generalize others (L.take k) id = Lk at *
        unfold twice famCs at HP1 HW HN HSZ HON
        dsimp only at HP1 HW HN HSZ HON
        go_wp2_with
          (at_builtin; refine wpList_append_own _ rfl _ _ 34 rfl (W.heap.size + 1 + 1 + 1 + 1) 40 i0 (.agg (famCs Fam.zero)) 9 104 Tryz.underlying34 hii hz0 hz1 hz2 rfl (by decide) _ _ _ rfl HW.out ⟨wr.heap.size + 1, 0, none⟩ 1 1 _ rfl rfl HN.out HON.out (by unfold maxLen; omega) (by omega) HSZ.out ?_; intro v' w3 hown hgrow hnil
           have HG := Lib.hid hgrow
           have HX := Lib.hid hown
           obtain ⟨xa, xn, xc, rfl⟩ := row_slice hown
           obtain ⟨mw, zw⟩ := HP1.out.after hgrow
           clear hown hgrow hnil)
        go_roundw
        case rel => exact ⟨k + 1, _, by omega, by go_num, by rw [HO.out]; exact HP1.out.next HG.out HX.out⟩
        case measure => simp [intOf]; omega
    · obtain rfl : k = L.length := by omega
      rw [List.take_length] at HP
      go_wp2_with fail
      obtain rfl := HS.out
      exact rp_end HP.out rfl rfl rfl rfl
set_option maxHeartbeats 8000000 in
set_option maxRecDepth 100000 in
theorem refapply_clock (B : Nat) (v : Value) (s : St) (e : Ev) (W : World) (h : FRow W B v s.fams) (hok : StOk s) (hk : e.kind = 3) :
    Calls Tryz.prog 45 #[stVal s v, evVal e] W (ApplyGot W (applyS s e)) := by
  have hap : applyS s e = ⟨e.time, s.next, s.fams⟩ := by unfold applyS; rw [if_neg (by omega), if_neg (by omega), if_pos hk]
  obtain ⟨i0, hii, hz0, hz1, hz2⟩ := info_parts famInfo
  have hlen := hok.len
  generalize applyS s e = s' at *
  have HS := Lib.hid hap
  have H0 := Lib.hid (RP.start (e := e) h)
  have h0 := h
  clear hap h hok
  rcases h0.parts with ⟨rfl, hnil⟩ | ⟨g, cap, rfl, h1, h2, h3, h4, h5, h6, h7⟩
  · obtain ⟨k, ⟨i, cl, su, sc, ge, ma, us, re, de⟩, id, ti⟩ := e
    obtain ⟨ck, nx, L⟩ := s
    dsimp only at *
    subst hk hnil
    clear h0
    unfold stVal stCs evVal evCs
    dsimp only
    go_enter Tryz.func45, Tryz.ntmps45
    go_wp2_with fail
    obtain rfl := HS.out
    have hb : Blk ((((W.alloc (.cells #[.int .i64 ti, .int .i64 nx, .slice none 0 0] 36)).alloc (.cells #[.int .i64 3, .int .i64 i, .string cl, .string su, .string sc, .int .i64 ge, .int .i64 ma, .int .i64 us, .string re, .bool de, .int .i64 id, .int .i64 ti] 61)).alloc (.cells #[.int .i64 ti, .int .i64 nx, .slice none 0 0] 36)).alloc (.cells #[.slice none 0 0] 34)) (W.heap.size + 1 + 1) 36 #[.int .i64 ti, .int .i64 nx, .slice none 0 0] := by
      have := (Blk.new ((W.alloc (.cells #[.int .i64 ti, .int .i64 nx, .slice none 0 0] 36)).alloc (.cells #[.int .i64 3, .int .i64 i, .string cl, .string su, .string sc, .int .i64 ge, .int .i64 ma, .int .i64 us, .string re, .bool de, .int .i64 id, .int .i64 ti] 61)) 36 #[.int .i64 ti, .int .i64 nx, .slice none 0 0]).alloc (.cells #[.slice none 0 0] 34)
      simpa using this
    refine bodyPost_ret (results_cell_row rfl _ _ _ _ _ (0, 0) _ rfl hb Tryz.underlying36 rfl (by kernel_rfl)) rfl ?_
    exact ⟨.slice none 0 0, rfl, FRow.nil _ _, ((((Below.refl W.heap.size W).alloc (Nat.le_refl _) _).alloc (by simp) _).alloc (by simp; omega) _).alloc (by simp; omega) _⟩
  · obtain ⟨k, ⟨i, cl, su, sc, ge, ma, us, re, de⟩, id, ti⟩ := e
    obtain ⟨ck, nx, L⟩ := s
    dsimp only at *
    subst hk
    clear h0 h1 h2 h3 h4 h5 h6 h7
    have HN := Lib.hid (H0.out.news)
    have HW : Hid ((rallocs W ⟨ck, nx, L⟩ ⟨3, ⟨i, cl, su, sc, ge, ma, us, re, de⟩, id, ti⟩ (.slice (some ⟨g, 0, none⟩) L.length cap)).ownsRow (W.heap.size + 1 + 1 + 1 + 1) 40 9 (.slice none 0 0) 0 []) := Lib.hid (World.ownsRow_nil _ _ _ _)
    have HSZ : Hid (W.heap.size + 1 + 1 + 1 + 1 ≤ (rallocs W ⟨ck, nx, L⟩ ⟨3, ⟨i, cl, su, sc, ge, ma, us, re, de⟩, id, ti⟩ (.slice (some ⟨g, 0, none⟩) L.length cap)).heap.size) := Lib.hid (H0.out.var.lt)
    have HL := Lib.hid (flat_len L)
    have HP0 := H0
    unfold rallocs stCs evCs at HW HN HSZ HP0
    unfold stVal stCs evVal evCs
    dsimp only at HW HN HSZ HP0 ⊢
    go_enter Tryz.func45, Tryz.ntmps45
    go_wp2_with
      (at_builtin; refine wpList_append_own _ rfl _ _ 34 rfl (W.heap.size + 1 + 1 + 1 + 1) 40 i0 (.agg (famCs Fam.zero)) 9 104 Tryz.underlying34 hii hz0 hz1 hz2 rfl (by decide) _ _ _ rfl HW.out ⟨g, 0, none⟩ L.length cap (flat L) rfl HL.out HN.out (fun x hx => flat_one hx) (by unfold maxLen; omega) (by omega) HSZ.out ?_; intro v' w3 hown hgrow hnil
       have HG := Lib.hid hgrow
       have HX := Lib.hid hown
       obtain ⟨xa, xn, xc, rfl⟩ := row_slice hown
       have HP3 := Lib.hid (HP0.out.turn hgrow (FRow.nil _ _))
       obtain ⟨m0, m1, m2, mv, r0, r1, r2, z0, z1, z2⟩ := HP3.out.cells
       obtain ⟨c0, c1, c2, c3, c4, c5, c6, c7, c8, c9, c10, c11⟩ := ev_cells HP3.out.ev
       clear hown hgrow hnil)
    obtain rfl := HS.out
    have hr := HX.out
    rw [Nat.zero_add, List.nil_append] at hr
    exact rp_end ((HP0.out.go HG.out (L' := L) hr).set 0 (.int .i64 ti) rfl) rfl rfl rfl rfl

/-- the reference's Apply, of an event that may be -/
theorem ref_apply (B : Nat) (v : Value) (s : St) (e : Ev) (W : World) (h : FRow W B v s.fams) (hok : StOk s) (he : evB e = true) :
    Calls Tryz.prog 45 #[stVal s v, evVal e] W (ApplyGot W (applyS s e)) := by
  rcases evB_kind he with ⟨h1, _, _, hf⟩ | ⟨h1, _⟩ | ⟨h1, _⟩
  · exact refapply_put B v s e W h hok (famB_parts hf).1 h1
  · exact refapply_drop B v s e W h hok h1
  · exact refapply_clock B v s e W h hok h1
end Go.Proofs.YtdogilbnbbeljaaGreatDoor
