/-
  event.Read: what is known while it reads.
-/
import Derived.Test.YtklpmoimckblcaaGreatDoorEvReader
import Derived.Test.YtklpmoimckblcaaGreatDoorEvWrite2
import Derived.RegionTactic
import Derived.ChangeAlike
import Derived.Laws.ResultCell
namespace Go.Proofs.YtklpmoimckblcaaGreatDoor
open Go.RowKit Go.Sort

theorem results_row_tmp {P : Program} {fn : Func} {p u : Tmp} {ty : TypeId} (h : fn.results = #[.cell p ty, .tmp u]) (tmps : Array Value) (w : World) (g : Nat) (t : TypeId) (cs : Array Value) (d : TypeDesc) (x : Value)
    (hp : tmps.getD p undef = .pointer (some ⟨g, 0, none⟩)) (hx : tmps.getD u undef = x) (hg : Blk w g t cs)
    (hu : P.underlying ty = some d) (hd : (match d with | .struct _ | .array _ _ => true | _ => false) = true) (hi : (P.info? ty).map (·.size) = some cs.size) :
    (results fn tmps).run P w = .ok (.tuple #[.agg cs, x]) w := by
  rw [results_cell_tmp h, hp, hx]
  simp only [asAddr, Sem.run_pure, Result.andThen]
  rw [run_loadVar_row w g t ty cs (0, 0) d hg hu hd hi]

/-- what is known while event.Read reads: its reader, its result's block, its event's block -/
structure RE (W : World) (rb eb : Nat) (st : Rd) (e : Ev) (w : World) : Prop where
  rs : RS W rb st w
  res : Blk w W.heap.size 25 (evCs Ev.zero)
  ev : Blk w eb 25 (evCs e)
  n1 : W.heap.size < rb
  n2 : rb < eb
section
variable {W w w' : World} {rb eb : Nat} {st st' : Rd} {e e' : Ev}
theorem RE.keep (h : RE W rb eb st e w) (hb : Below w.heap.size w w') : RE W rb eb st e w' := ⟨h.rs.keep hb, h.res.below' hb, h.ev.below' hb, h.n1, h.n2⟩
theorem RE.turn (h : RE W rb eb st e w) (hr : RS W rb st' w') (hg : w.grownBy w' (some rb)) : RE W rb eb st' e w' :=
  ⟨hr, h.res.grown hg (by have := h.n1; simp; omega), h.ev.grown hg (by have := h.n2; simp; omega), h.n1, h.n2⟩
theorem RE.setBad (h : RE W rb eb st e w) (b : Bool) : RE W rb eb (st.1, b) e (w.setCell ⟨rb, 1, none⟩ (.bool b)) := h.turn (h.rs.setBad b) (only_setCell (only_refl w (some rb)) (.inl rfl) _)
theorem RE.put (h : RE W rb eb st e w) (hb : Blk w' eb 25 (evCs e')) (hg : w.grownBy w' (some eb)) : RE W rb eb st e' w' :=
  ⟨⟨h.rs.base, h.rs.errs0, below_of_only h.rs.below hg (by have := h.n1; have := h.n2; omega) h.rs.below.size, h.rs.le, h.rs.rd.other hg h.n2⟩, h.res.grown hg (by have := h.n1; have := h.n2; simp; omega), hb, h.n1, h.n2⟩
theorem RE.set (h : RE W rb eb st e w) (i : Nat) (u : Value) (he : (evCs e).setIfInBounds i u = evCs e') : RE W rb eb st e' (w.setCell ⟨eb, i, none⟩ u) :=
  h.put (by have := h.ev.set_ i u; rwa [he] at this) (only_setCell (only_refl w (some eb)) (.inl rfl) _)
theorem RE.frozen (h : RE W rb eb st e w) (i : Nat) : w.frozen? ⟨eb, i, none⟩ = false := h.ev.frozen i
/-- a family put into the event's block, cell by cell -/
theorem RE.fam {k id ti : Int} {f0 : Fam} (h : RE W rb eb st ⟨k, f0, id, ti⟩ w) (f : Fam) : RE W rb eb st ⟨k, f, id, ti⟩
    (((((((((w.setCell ⟨eb, 1, none⟩ (.int .i64 f.id)).setCell ⟨eb, 2, none⟩ (.string f.client)).setCell ⟨eb, 3, none⟩ (.string f.subject)).setCell ⟨eb, 4, none⟩ (.string f.scope)).setCell ⟨eb, 5, none⟩ (.int .i64 f.gen)).setCell ⟨eb, 6, none⟩ (.int .i64 f.made)).setCell ⟨eb, 7, none⟩ (.int .i64 f.used)).setCell ⟨eb, 8, none⟩ (.string f.request)).setCell ⟨eb, 9, none⟩ (.bool f.dead)) := by
  have h1 := h.set 1 (.int .i64 f.id) (e' := ⟨k, ⟨f.id, f0.client, f0.subject, f0.scope, f0.gen, f0.made, f0.used, f0.request, f0.dead⟩, id, ti⟩) rfl
  have h2 := h1.set 2 (.string f.client) (e' := ⟨k, ⟨f.id, f.client, f0.subject, f0.scope, f0.gen, f0.made, f0.used, f0.request, f0.dead⟩, id, ti⟩) rfl
  have h3 := h2.set 3 (.string f.subject) (e' := ⟨k, ⟨f.id, f.client, f.subject, f0.scope, f0.gen, f0.made, f0.used, f0.request, f0.dead⟩, id, ti⟩) rfl
  have h4 := h3.set 4 (.string f.scope) (e' := ⟨k, ⟨f.id, f.client, f.subject, f.scope, f0.gen, f0.made, f0.used, f0.request, f0.dead⟩, id, ti⟩) rfl
  have h5 := h4.set 5 (.int .i64 f.gen) (e' := ⟨k, ⟨f.id, f.client, f.subject, f.scope, f.gen, f0.made, f0.used, f0.request, f0.dead⟩, id, ti⟩) rfl
  have h6 := h5.set 6 (.int .i64 f.made) (e' := ⟨k, ⟨f.id, f.client, f.subject, f.scope, f.gen, f.made, f0.used, f0.request, f0.dead⟩, id, ti⟩) rfl
  have h7 := h6.set 7 (.int .i64 f.used) (e' := ⟨k, ⟨f.id, f.client, f.subject, f.scope, f.gen, f.made, f.used, f0.request, f0.dead⟩, id, ti⟩) rfl
  have h8 := h7.set 8 (.string f.request) (e' := ⟨k, ⟨f.id, f.client, f.subject, f.scope, f.gen, f.made, f.used, f.request, f0.dead⟩, id, ti⟩) rfl
  exact h8.set 9 (.bool f.dead) (e' := ⟨k, f, id, ti⟩) rfl
theorem RE.facts (h : RE W rb eb st e w) : (∀ i, w.cell? ⟨eb, i, none⟩ = (evCs e)[i]?) ∧ (∀ i, w.frozen? ⟨eb, i, none⟩ = false) ∧ (∀ i, w.cell? ⟨W.heap.size, i, none⟩ = (evCs Ev.zero)[i]?) ∧ (∀ i, w.frozen? ⟨W.heap.size, i, none⟩ = false) :=
  ⟨h.ev.cell, h.ev.frozen, h.res.cell, h.res.frozen⟩
/-- the reader's words -/
theorem RE.words (h : RE W rb eb st e w) : ∃ A cap, w.cell? ⟨rb, 0, none⟩ = some (.slice A st.1.length cap) ∧ w.cell? ⟨rb, 1, none⟩ = some (.bool st.2) ∧ w.frozen? ⟨rb, 1, none⟩ = false := by
  obtain ⟨⟨v, h1, g, o, cap, rfl, _⟩, _⟩ := h.rs.rd
  exact ⟨_, _, h1.cell 0, h1.cell 1, h1.frozen 1⟩
end
theorem RE.start {W w1 : World} {v : Value} {L : List (List UInt8)} (h0 : WB W W) (he : ErrVars W) (hs : ∀ x ∈ L, x.length ≤ 1000) (hr : Row w1 (W.heap.size + 1) v L) (hb : Below (W.heap.size + 1) (W.alloc (.cells (evCs Ev.zero) 25)) w1) :
    RE W w1.heap.size (w1.heap.size + 1) (L, false) Ev.zero ((w1.alloc (.cells #[v, .bool false] 66)).alloc (.cells (evCs Ev.zero) 25)) := by
  have hz : (W.alloc (.cells (evCs Ev.zero) 25)).heap.size = W.heap.size + 1 := by simp
  have b0 : Below W.heap.size W (W.alloc (.cells (evCs Ev.zero) 25)) := (Below.refl _ _).alloc (Nat.le_refl _) _
  have b1 : Below W.heap.size W w1 := b0.trans (hb.mono (by omega))
  have hlt : W.heap.size < w1.heap.size := by have := hb.size; rw [hz] at this; omega
  have b2 : Below w1.heap.size w1 ((w1.alloc (.cells #[v, .bool false] 66)).alloc (.cells (evCs Ev.zero) 25)) := alloc2 _ _ _
  obtain ⟨g, cap, rfl, h1, h2, h3, h4, _⟩ := hr.parts
  have hw : WordsOf w1 w1.heap.size (.slice (some ⟨g, 0, none⟩) L.length cap) L := ⟨g, 0, cap, rfl, h3, h4, h2, fun j hj => by rw [Nat.zero_add]; exact hr.cell j hj⟩
  refine ⟨⟨h0, he, b1.trans (b2.mono b1.size), Nat.le_of_lt hlt, ⟨⟨_, (Blk.new w1 _ _).alloc _, hw.below b2⟩, hs⟩⟩, ?_, ?_, hlt, Nat.lt_succ_self _⟩
  · have h5 := (Blk.new W 25 (evCs Ev.zero)).below hb (by omega)
    exact h5.below' b2
  · have h6 := Blk.new (w1.alloc (.cells #[.slice (some ⟨g, 0, none⟩) L.length cap, .bool false] 66)) 25 (evCs Ev.zero)
    simpa using h6
theorem textV_len {st : Rd} (h : ∀ x ∈ st.1, x.length ≤ 1000) : (txt (textV st)).size ≤ 1000 := by
  rw [txt_size]
  unfold textV unL
  split
  · simp
  · exact nextV_len h
theorem nextS_small {st : Rd} (h : ∀ x ∈ st.1, x.length ≤ 1000) : ∀ x ∈ (nextS st).1, x.length ≤ 1000 := by
  obtain ⟨ws, b⟩ := st
  cases ws with
  | nil => exact h
  | cons y r => exact fun x hx => h x (List.mem_cons_of_mem _ hx)
theorem famV_short {st : Rd} (h : ∀ x ∈ st.1, x.length ≤ 1000) : (famV st).short 1000 := by
  have a1 := nextS_small h
  have a2 := nextS_small (st := numS st) a1
  have a3 := nextS_small (st := textS (numS st)) a2
  have a4 := nextS_small (st := textS (textS (numS st))) a3
  have a5 := nextS_small (st := textS (textS (textS (numS st)))) a4
  have a6 := nextS_small (st := numS (textS (textS (textS (numS st))))) a5
  have a7 := nextS_small (st := numS (numS (textS (textS (textS (numS st)))))) a6
  exact ⟨textV_len (st := numS st) a1, textV_len (st := textS (numS st)) a2, textV_len (st := textS (textS (numS st))) a3, textV_len (st := numS (numS (numS (textS (textS (textS (numS st))))))) a7⟩
theorem zero_short : Fam.zero.short 1000 := by unfold Fam.zero; exact ⟨by decide, by decide, by decide, by decide⟩
theorem progE_short {st : Rd} (h : ∀ x ∈ st.1, x.length ≤ 1000) : (progE st).1.fam.short 1000 := by
  unfold progE
  split
  · exact famV_short (nextS_small h)
  · split
    · exact zero_short
    · split
      · exact zero_short
      · exact zero_short
/-- the event, and the error, of what the reader has read -/
def progRE (st : Rd) : Ev := if progB st then (progE st).1 else Ev.zero
def progRN (st : Rd) : Int := if progB st then 0 else 3
theorem prog_yes {st : Rd} (h1 : (progE st).2.2 = false) (h2 : (progE st).2.1.length = 0) (h3 : evB (progE st).1 = true) : progRE st = (progE st).1 ∧ progRN st = 0 := by
  have : progB st = true := by
    unfold progB
    rw [h1, h3, List.eq_nil_of_length_eq_zero h2]
    rfl
  unfold progRE progRN
  rw [if_pos this, if_pos this]
  exact ⟨rfl, rfl⟩
theorem prog_no {st : Rd} (h : (progE st).2.2 = true ∨ (progE st).2.1.length ≠ 0 ∨ evB (progE st).1 = false) : progRE st = Ev.zero ∧ progRN st = 3 := by
  have : ¬ progB st = true := by
    unfold progB
    rcases h with h | h | h
    · rw [h]; simp
    · have : ¬ (progE st).2.1 = [] := fun e => h (by rw [e]; rfl)
      simp [this]
    · rw [h]; simp
  unfold progRE progRN
  rw [if_neg this, if_neg this]
  exact ⟨rfl, rfl⟩
/-- what event.Read gives -/
def ReadGot (W : World) (e : Ev) (n : Int) (x : Ending) (w' : World) : Prop := x = .returned (.tuple #[evVal e, errV n]) ∧ Below W.heap.size W w'
theorem read_end {W w : World} {A : Act} {e : Ev} {n : Int} (hb : Below W.heap.size W w) (hr : Blk w W.heap.size 25 (evCs e))
    (hp : A.tmps.getD 2 undef = .pointer (some ⟨W.heap.size, 0, none⟩)) (hx : A.tmps.getD 3 undef = errV n) (hd : A.defers = []) :
    bodyPost Tryz.prog Tryz.f14 (ReadGot W e n) Exit.ret A w :=
  bodyPost_ret (results_row_tmp rfl A.tmps w _ _ _ _ _ hp hx hr Tryz.underlying25 rfl (by kernel_rfl)) hd ⟨rfl, hb⟩
/-- the result's block behind twelve stores -/
theorem Blk.at_ {w : World} {g : Nat} {T : TypeId} {cs cs' : Array Value} (h : Blk w g T cs) (i : Nat) (u : Value) (he : cs.setIfInBounds i u = cs') : Blk (w.setCell ⟨g, i, none⟩ u) g T cs' := by
  have := h.set_ i u
  rwa [he] at this
theorem res_sets {w : World} {g : Nat} {T : TypeId} {e e' : Ev} (h : Blk w g T (evCs e)) : Blk (((((((((((((w.setCell ⟨g, 0, none⟩ (.int .i64 e'.kind)).setCell ⟨g, 1, none⟩ (.int .i64 e'.fam.id)).setCell ⟨g, 2, none⟩ (.string e'.fam.client)).setCell ⟨g, 3, none⟩ (.string e'.fam.subject)).setCell ⟨g, 4, none⟩ (.string e'.fam.scope)).setCell ⟨g, 5, none⟩ (.int .i64 e'.fam.gen)).setCell ⟨g, 6, none⟩ (.int .i64 e'.fam.made)).setCell ⟨g, 7, none⟩ (.int .i64 e'.fam.used)).setCell ⟨g, 8, none⟩ (.string e'.fam.request)).setCell ⟨g, 9, none⟩ (.bool e'.fam.dead)).setCell ⟨g, 10, none⟩ (.int .i64 e'.id)).setCell ⟨g, 11, none⟩ (.int .i64 e'.time))) g T (evCs e') := by
  have h1 := h.at_ 0 (.int .i64 e'.kind) (cs' := evCs ⟨e'.kind, ⟨e.fam.id, e.fam.client, e.fam.subject, e.fam.scope, e.fam.gen, e.fam.made, e.fam.used, e.fam.request, e.fam.dead⟩, e.id, e.time⟩) rfl
  have h2 := h1.at_ 1 (.int .i64 e'.fam.id) (cs' := evCs ⟨e'.kind, ⟨e'.fam.id, e.fam.client, e.fam.subject, e.fam.scope, e.fam.gen, e.fam.made, e.fam.used, e.fam.request, e.fam.dead⟩, e.id, e.time⟩) rfl
  have h3 := h2.at_ 2 (.string e'.fam.client) (cs' := evCs ⟨e'.kind, ⟨e'.fam.id, e'.fam.client, e.fam.subject, e.fam.scope, e.fam.gen, e.fam.made, e.fam.used, e.fam.request, e.fam.dead⟩, e.id, e.time⟩) rfl
  have h4 := h3.at_ 3 (.string e'.fam.subject) (cs' := evCs ⟨e'.kind, ⟨e'.fam.id, e'.fam.client, e'.fam.subject, e.fam.scope, e.fam.gen, e.fam.made, e.fam.used, e.fam.request, e.fam.dead⟩, e.id, e.time⟩) rfl
  have h5 := h4.at_ 4 (.string e'.fam.scope) (cs' := evCs ⟨e'.kind, ⟨e'.fam.id, e'.fam.client, e'.fam.subject, e'.fam.scope, e.fam.gen, e.fam.made, e.fam.used, e.fam.request, e.fam.dead⟩, e.id, e.time⟩) rfl
  have h6 := h5.at_ 5 (.int .i64 e'.fam.gen) (cs' := evCs ⟨e'.kind, ⟨e'.fam.id, e'.fam.client, e'.fam.subject, e'.fam.scope, e'.fam.gen, e.fam.made, e.fam.used, e.fam.request, e.fam.dead⟩, e.id, e.time⟩) rfl
  have h7 := h6.at_ 6 (.int .i64 e'.fam.made) (cs' := evCs ⟨e'.kind, ⟨e'.fam.id, e'.fam.client, e'.fam.subject, e'.fam.scope, e'.fam.gen, e'.fam.made, e.fam.used, e.fam.request, e.fam.dead⟩, e.id, e.time⟩) rfl
  have h8 := h7.at_ 7 (.int .i64 e'.fam.used) (cs' := evCs ⟨e'.kind, ⟨e'.fam.id, e'.fam.client, e'.fam.subject, e'.fam.scope, e'.fam.gen, e'.fam.made, e'.fam.used, e.fam.request, e.fam.dead⟩, e.id, e.time⟩) rfl
  have h9 := h8.at_ 8 (.string e'.fam.request) (cs' := evCs ⟨e'.kind, ⟨e'.fam.id, e'.fam.client, e'.fam.subject, e'.fam.scope, e'.fam.gen, e'.fam.made, e'.fam.used, e'.fam.request, e.fam.dead⟩, e.id, e.time⟩) rfl
  have h10 := h9.at_ 9 (.bool e'.fam.dead) (cs' := evCs ⟨e'.kind, ⟨e'.fam.id, e'.fam.client, e'.fam.subject, e'.fam.scope, e'.fam.gen, e'.fam.made, e'.fam.used, e'.fam.request, e'.fam.dead⟩, e.id, e.time⟩) rfl
  have h11 := h10.at_ 10 (.int .i64 e'.id) (cs' := evCs ⟨e'.kind, ⟨e'.fam.id, e'.fam.client, e'.fam.subject, e'.fam.scope, e'.fam.gen, e'.fam.made, e'.fam.used, e'.fam.request, e'.fam.dead⟩, e'.id, e.time⟩) rfl
  have h12 := h11.at_ 11 (.int .i64 e'.time) (cs' := evCs ⟨e'.kind, ⟨e'.fam.id, e'.fam.client, e'.fam.subject, e'.fam.scope, e'.fam.gen, e'.fam.made, e'.fam.used, e'.fam.request, e'.fam.dead⟩, e'.id, e'.time⟩) rfl
  exact h12
theorem res_below {W w : World} {e' : Ev} (h : Below W.heap.size W w) : Below W.heap.size W (((((((((((((w.setCell ⟨W.heap.size, 0, none⟩ (.int .i64 e'.kind)).setCell ⟨W.heap.size, 1, none⟩ (.int .i64 e'.fam.id)).setCell ⟨W.heap.size, 2, none⟩ (.string e'.fam.client)).setCell ⟨W.heap.size, 3, none⟩ (.string e'.fam.subject)).setCell ⟨W.heap.size, 4, none⟩ (.string e'.fam.scope)).setCell ⟨W.heap.size, 5, none⟩ (.int .i64 e'.fam.gen)).setCell ⟨W.heap.size, 6, none⟩ (.int .i64 e'.fam.made)).setCell ⟨W.heap.size, 7, none⟩ (.int .i64 e'.fam.used)).setCell ⟨W.heap.size, 8, none⟩ (.string e'.fam.request)).setCell ⟨W.heap.size, 9, none⟩ (.bool e'.fam.dead)).setCell ⟨W.heap.size, 10, none⟩ (.int .i64 e'.id)).setCell ⟨W.heap.size, 11, none⟩ (.int .i64 e'.time))) :=
  (((((((((((h.setCell (Nat.le_refl _) _).setCell (Nat.le_refl _) _).setCell (Nat.le_refl _) _).setCell (Nat.le_refl _) _).setCell (Nat.le_refl _) _).setCell (Nat.le_refl _) _).setCell (Nat.le_refl _) _).setCell (Nat.le_refl _) _).setCell (Nat.le_refl _) _).setCell (Nat.le_refl _) _).setCell (Nat.le_refl _) _).setCell (Nat.le_refl _) _
end Go.Proofs.YtklpmoimckblcaaGreatDoor
