/-
  EventApplies: the walk.
-/
import Derived.Test.YtklpmoimckblcaaRefApply
import Derived.Test.YtklpmoimckblcaaRefMay2
import Derived.Test.YtklpmoimckblcaaEvShort
import Derived.Test.YtklpmoimckblcaaEvBackPure
import Derived.Test.YtklpmoimckblcaaRegionTail
namespace Go.Proofs.Ytklpmoimckblcaa
open Go.RowKit Go.Sort

/-- two states alike, and the events -/
structure EL (W : World) (g off : Nat) (E : List Ev) (k : Nat) (s : St) (va vb : Value) (w : World) : Prop where
  below : Below W.heap.size W w
  b1 : Blk w W.heap.size 25 (stCs s va)
  b2 : Blk w (W.heap.size + 1) 25 (stCs s vb)
  r1 : FRow w (W.heap.size + 1 + 1) va s.fams
  r2 : FRow w (W.heap.size + 1 + 1) vb s.fams
  ok : StOk s
  len : s.fams.length ≤ k
  ev : ∀ i e, E[i]? = some e → ∀ j, j < 12 → w.cell? ⟨g, off + i * 12 + j, none⟩ = (evCs e)[j]?
  lt : g < W.heap.size
theorem evs_below {w w' : World} {g off : Nat} {E : List Ev} (h : ∀ i e, E[i]? = some e → ∀ j, j < 12 → w.cell? ⟨g, off + i * 12 + j, none⟩ = (evCs e)[j]?) {B : Nat} (hb : Below B w w') (hg : g < B) :
    ∀ i e, E[i]? = some e → ∀ j, j < 12 → w'.cell? ⟨g, off + i * 12 + j, none⟩ = (evCs e)[j]? := fun i e he j hj => by
  rw [hb.cell (p := ⟨g, off + i * 12 + j, none⟩) hg]
  exact h i e he j hj
section
variable {W : World} {g off : Nat} {E : List Ev} {k : Nat} {s : St} {va vb : Value} {w w' : World}
theorem EL.keep (h : EL W g off E k s va vb w) (hb : Below w.heap.size w w') : EL W g off E k s va vb w' :=
  ⟨below_2 h.below hb, h.b1.below' hb, h.b2.below' hb, h.r1.below hb, h.r2.below hb, h.ok, h.len, evs_below h.ev hb (Nat.lt_of_lt_of_le h.lt h.below.size), h.lt⟩
theorem EL.later (h : EL W g off E k s va vb w) : EL W g off E (k + 1) s va vb w := ⟨h.below, h.b1, h.b2, h.r1, h.r2, h.ok, Nat.le_succ_of_le h.len, h.ev, h.lt⟩
theorem EL.nine (h : EL W g off E k s va vb w) {n : Nat} {kd i : Int} {cl su sc : ByteArray} {ge ma us : Int} {re : ByteArray} {de : Bool} {id ti : Int} (he : E[n]? = some ⟨kd, ⟨i, cl, su, sc, ge, ma, us, re, de⟩, id, ti⟩) :
    w.cell? ⟨g, off + n * 12, none⟩ = some (.int .i64 kd) ∧ w.cell? ⟨g, off + n * 12 + 1, none⟩ = some (.int .i64 i) ∧ w.cell? ⟨g, off + n * 12 + 2, none⟩ = some (.string cl) ∧ w.cell? ⟨g, off + n * 12 + 3, none⟩ = some (.string su) ∧ w.cell? ⟨g, off + n * 12 + 4, none⟩ = some (.string sc) ∧ w.cell? ⟨g, off + n * 12 + 5, none⟩ = some (.int .i64 ge) ∧
    w.cell? ⟨g, off + n * 12 + 6, none⟩ = some (.int .i64 ma) ∧ w.cell? ⟨g, off + n * 12 + 7, none⟩ = some (.int .i64 us) ∧ w.cell? ⟨g, off + n * 12 + 8, none⟩ = some (.string re) ∧ w.cell? ⟨g, off + n * 12 + 9, none⟩ = some (.bool de) ∧ w.cell? ⟨g, off + n * 12 + 10, none⟩ = some (.int .i64 id) ∧ w.cell? ⟨g, off + n * 12 + 11, none⟩ = some (.int .i64 ti) :=
  ⟨h.ev n _ he 0 (by decide), h.ev n _ he 1 (by decide), h.ev n _ he 2 (by decide), h.ev n _ he 3 (by decide), h.ev n _ he 4 (by decide), h.ev n _ he 5 (by decide), h.ev n _ he 6 (by decide), h.ev n _ he 7 (by decide), h.ev n _ he 8 (by decide), h.ev n _ he 9 (by decide), h.ev n _ he 10 (by decide), h.ev n _ he 11 (by decide)⟩
end
theorem two_cells {w : World} {g : Nat} {T : TypeId} {k0 k1 k2 : Value} (h : Blk w g T #[k0, k1, k2]) : w.cell? ⟨g, 0, none⟩ = some k0 ∧ w.cell? ⟨g, 1, none⟩ = some k1 ∧ w.cell? ⟨g, 2, none⟩ = some k2 := ⟨h.cell 0, h.cell 1, h.cell 2⟩
theorem okN_one {e : Ev} (he : evB e = true) : e.kind = 1 → okN e.fam.id = true := fun hk => by
  rcases evB_kind he with ⟨_, _, _, hf⟩ | ⟨h1, _⟩ | ⟨h1, _⟩
  · exact (famB_parts hf).1
  · omega
  · omega
theorem okN_two {e : Ev} (he : evB e = true) : e.kind = 2 → okN e.id = true := fun hk => by
  rcases evB_kind he with ⟨h1, _⟩ | ⟨_, _, _, h2⟩ | ⟨h1, _⟩
  · omega
  · exact h2
  · omega
theorem EL.start {W : World} {g off : Nat} {E : List Ev} (h : ∀ i e, E[i]? = some e → ∀ j, j < 12 → W.cell? ⟨g, off + i * 12 + j, none⟩ = (evCs e)[j]?) (hg : g < W.heap.size) :
    EL W g off E 0 ⟨0, 1, []⟩ (.slice none 0 0) (.slice none 0 0) ((W.alloc (.cells #[.int .i64 0, .int .i64 1, .slice none 0 0] 25)).alloc (.cells #[.int .i64 0, .int .i64 1, .slice none 0 0] 25)) := by
  have hb := alloc2 W (.cells #[.int .i64 0, .int .i64 1, .slice none 0 0] 25) (.cells #[.int .i64 0, .int .i64 1, .slice none 0 0] 25)
  refine ⟨hb, (Blk.new W _ _).alloc _, ?_, FRow.nil _ _, FRow.nil _ _, ⟨List.Pairwise.nil, fun f hf => by simp at hf, Nat.zero_le _⟩, Nat.le_refl _, evs_below h hb hg, hg⟩
  have := Blk.new (W.alloc (.cells #[.int .i64 0, .int .i64 1, .slice none 0 0] 25)) 25 #[.int .i64 0, .int .i64 1, .slice none 0 0]
  rw [show (W.alloc (.cells #[.int .i64 0, .int .i64 1, .slice none 0 0] 25)).heap.size = W.heap.size + 1 by simp] at this
  exact this
/-- the events' cells, when all else has turned -/
structure EN (W : World) (g off : Nat) (E : List Ev) (w : World) : Prop where
  ev : ∀ i e, E[i]? = some e → ∀ j, j < 12 → w.cell? ⟨g, off + i * 12 + j, none⟩ = (evCs e)[j]?
  lt : g < W.heap.size
theorem EL.en {W : World} {g off : Nat} {E : List Ev} {k : Nat} {s : St} {va vb : Value} {w : World} (h : EL W g off E k s va vb w) : EN W g off E w := ⟨h.ev, h.lt⟩
theorem EN.set {W : World} {g off : Nat} {E : List Ev} {w : World} (h : EN W g off E w) {p : Addr} (hp : W.heap.size ≤ p.block) (u : Value) : EN W g off E (w.setCell p u) :=
  ⟨fun i e he j hj => by rw [((Below.refl W.heap.size w).setCell hp u).cell (p := ⟨g, off + i * 12 + j, none⟩) h.lt]; exact h.ev i e he j hj, h.lt⟩
theorem EN.nine {W : World} {g off : Nat} {E : List Ev} {w : World} (h : EN W g off E w) {n : Nat} {kd i : Int} {cl su sc : ByteArray} {ge ma us : Int} {re : ByteArray} {de : Bool} {id ti : Int} (he : E[n]? = some ⟨kd, ⟨i, cl, su, sc, ge, ma, us, re, de⟩, id, ti⟩) :
    w.cell? ⟨g, off + n * 12, none⟩ = some (.int .i64 kd) ∧ w.cell? ⟨g, off + n * 12 + 1, none⟩ = some (.int .i64 i) ∧ w.cell? ⟨g, off + n * 12 + 2, none⟩ = some (.string cl) ∧ w.cell? ⟨g, off + n * 12 + 3, none⟩ = some (.string su) ∧ w.cell? ⟨g, off + n * 12 + 4, none⟩ = some (.string sc) ∧ w.cell? ⟨g, off + n * 12 + 5, none⟩ = some (.int .i64 ge) ∧
    w.cell? ⟨g, off + n * 12 + 6, none⟩ = some (.int .i64 ma) ∧ w.cell? ⟨g, off + n * 12 + 7, none⟩ = some (.int .i64 us) ∧ w.cell? ⟨g, off + n * 12 + 8, none⟩ = some (.string re) ∧ w.cell? ⟨g, off + n * 12 + 9, none⟩ = some (.bool de) ∧ w.cell? ⟨g, off + n * 12 + 10, none⟩ = some (.int .i64 id) ∧ w.cell? ⟨g, off + n * 12 + 11, none⟩ = some (.int .i64 ti) :=
  ⟨h.ev n _ he 0 (by decide), h.ev n _ he 1 (by decide), h.ev n _ he 2 (by decide), h.ev n _ he 3 (by decide), h.ev n _ he 4 (by decide), h.ev n _ he 5 (by decide), h.ev n _ he 6 (by decide), h.ev n _ he 7 (by decide), h.ev n _ he 8 (by decide), h.ev n _ he 9 (by decide), h.ev n _ he 10 (by decide), h.ev n _ he 11 (by decide)⟩
theorem EN.put {W : World} {g off : Nat} {E : List Ev} {w : World} (h : EN W g off E w) {b : Nat} (hb : W.heap.size ≤ b) (x y z : Value) : EN W g off E (((w.setCell ⟨b, 0, none⟩ x).setCell ⟨b, 1, none⟩ y).setCell ⟨b, 2, none⟩ z) := ((h.set hb x).set hb y).set hb z
theorem EL.put_ {W : World} {g off : Nat} {E : List Ev} {k : Nat} {s : St} {va vb : Value} {w : World} (h : EL W g off E k s va vb w) {ck nx : Int} {L : List Fam} {v1 v2 : Value} (hr1 : FRow w (W.heap.size + 1 + 1) v1 L) (hr2 : FRow w (W.heap.size + 1 + 1) v2 L) (hok : StOk ⟨ck, nx, L⟩) (hlen : L.length ≤ k + 1) :
    EL W g off E (k + 1) ⟨ck, nx, L⟩ v1 v2 ((((((w.setCell ⟨W.heap.size, 0, none⟩ (.int .i64 ck)).setCell ⟨W.heap.size, 1, none⟩ (.int .i64 nx)).setCell ⟨W.heap.size, 2, none⟩ v1).setCell ⟨W.heap.size + 1, 0, none⟩ (.int .i64 ck)).setCell ⟨W.heap.size + 1, 1, none⟩ (.int .i64 nx)).setCell ⟨W.heap.size + 1, 2, none⟩ v2) := by
  have a0 := h.b1.put_ 0 (.int .i64 ck) (cs' := #[.int .i64 ck, .int .i64 s.next, va]) rfl
  have a1 := a0.put_ 1 (.int .i64 nx) (cs' := #[.int .i64 ck, .int .i64 nx, va]) rfl
  have a2 := a1.put_ 2 v1 (cs' := stCs ⟨ck, nx, L⟩ v1) rfl
  have c0 := ((h.b2.far (p := ⟨W.heap.size, 0, none⟩) (by show W.heap.size + 1 ≠ W.heap.size; omega) (.int .i64 ck)).far (p := ⟨W.heap.size, 1, none⟩) (by show W.heap.size + 1 ≠ W.heap.size; omega) (.int .i64 nx)).far (p := ⟨W.heap.size, 2, none⟩) (by show W.heap.size + 1 ≠ W.heap.size; omega) v1
  have d0 := c0.put_ 0 (.int .i64 ck) (cs' := #[.int .i64 ck, .int .i64 s.next, vb]) rfl
  have d1 := d0.put_ 1 (.int .i64 nx) (cs' := #[.int .i64 ck, .int .i64 nx, vb]) rfl
  have d2 := d1.put_ 2 v2 (cs' := stCs ⟨ck, nx, L⟩ v2) rfl
  have e2 := ((a2.far (p := ⟨W.heap.size + 1, 0, none⟩) (by show W.heap.size ≠ W.heap.size + 1; omega) (.int .i64 ck)).far (p := ⟨W.heap.size + 1, 1, none⟩) (by show W.heap.size ≠ W.heap.size + 1; omega) (.int .i64 nx)).far (p := ⟨W.heap.size + 1, 2, none⟩) (by show W.heap.size ≠ W.heap.size + 1; omega) v2
  have g0 := only_set1 w W.heap.size ⟨W.heap.size, 0, none⟩ rfl (.int .i64 ck)
  have g1 := only_setCell g0 (p := ⟨W.heap.size, 1, none⟩) (.inl rfl) (.int .i64 nx)
  have g2 := only_setCell g1 (p := ⟨W.heap.size, 2, none⟩) (.inl rfl) v1
  have n := (h.en.put (b := W.heap.size) (Nat.le_refl _) (.int .i64 ck) (.int .i64 nx) v1).put (b := W.heap.size + 1) (Nat.le_succ _) (.int .i64 ck) (.int .i64 nx) v2
  have hb := ((h.below.setCell (p := ⟨W.heap.size, 0, none⟩) (Nat.le_refl _) (.int .i64 ck)).setCell (p := ⟨W.heap.size, 1, none⟩) (Nat.le_refl _) (.int .i64 nx)).setCell (p := ⟨W.heap.size, 2, none⟩) (Nat.le_refl _) v1
  have hb2 := ((hb.setCell (p := ⟨W.heap.size + 1, 0, none⟩) (Nat.le_succ _) (.int .i64 ck)).setCell (p := ⟨W.heap.size + 1, 1, none⟩) (Nat.le_succ _) (.int .i64 nx)).setCell (p := ⟨W.heap.size + 1, 2, none⟩) (Nat.le_succ _) v2
  have r1 := hr1.kept g2 (fun he => by have := (hr1.lt _ he).1; omega)
  have r2 := hr2.kept g2 (fun he => by have := (hr2.lt _ he).1; omega)
  generalize ((w.setCell ⟨W.heap.size, 0, none⟩ (.int .i64 ck)).setCell ⟨W.heap.size, 1, none⟩ (.int .i64 nx)).setCell ⟨W.heap.size, 2, none⟩ v1 = u at *
  have g3 := only_set1 u (W.heap.size + 1) ⟨W.heap.size + 1, 0, none⟩ rfl (.int .i64 ck)
  have g4 := only_setCell g3 (p := ⟨W.heap.size + 1, 1, none⟩) (.inl rfl) (.int .i64 nx)
  have g5 := only_setCell g4 (p := ⟨W.heap.size + 1, 2, none⟩) (.inl rfl) v2
  exact ⟨hb2, e2, d2, r1.kept g5 (fun he => by have := (r1.lt _ he).1; omega), r2.kept g5 (fun he => by have := (r2.lt _ he).1; omega), hok, hlen, n.ev, h.lt⟩
theorem EL.drew {W : World} {g off : Nat} {E : List Ev} {k : Nat} {s : St} {va vb : Value} {w : World} (h : EL W g off E k s va vb w) : EL W g off E k s va vb w.drew :=
  ⟨⟨h.below.os, h.below.tape, h.below.output, h.below.size, h.below.block⟩, h.b1, h.b2, h.r1, h.r2, h.ok, h.len, h.ev, h.lt⟩
theorem EL.frozen {W : World} {g off : Nat} {E : List Ev} {k : Nat} {s : St} {va vb : Value} {w : World} (h : EL W g off E k s va vb w) : (∀ j, w.frozen? ⟨W.heap.size, j, none⟩ = false) ∧ (∀ j, w.frozen? ⟨W.heap.size + 1, j, none⟩ = false) := ⟨h.b1.frozen, h.b2.frozen⟩
theorem EL.six {W : World} {g off : Nat} {E : List Ev} {k : Nat} {ck nx : Int} {L : List Fam} {va vb : Value} {w : World} (h : EL W g off E k ⟨ck, nx, L⟩ va vb w) :
    w.cell? ⟨W.heap.size, 0, none⟩ = some (.int .i64 ck) ∧ w.cell? ⟨W.heap.size, 1, none⟩ = some (.int .i64 nx) ∧ w.cell? ⟨W.heap.size, 2, none⟩ = some va ∧ w.cell? ⟨W.heap.size + 1, 0, none⟩ = some (.int .i64 ck) ∧ w.cell? ⟨W.heap.size + 1, 1, none⟩ = some (.int .i64 nx) ∧ w.cell? ⟨W.heap.size + 1, 2, none⟩ = some vb :=
  ⟨h.b1.cell 0, h.b1.cell 1, h.b1.cell 2, h.b2.cell 0, h.b2.cell 1, h.b2.cell 2⟩
theorem EL.size {W : World} {g off : Nat} {E : List Ev} {k : Nat} {s : St} {va vb : Value} {w : World} (h : EL W g off E k s va vb w) : W.heap.size + 1 + 1 ≤ w.heap.size := h.b2.lt
/-- the two states' cells, and the event's -/
def SixNine (W : World) (g off n : Nat) (ck nx : Int) (va vb : Value) (e : Ev) (w : World) : Prop :=
  w.cell? ⟨W.heap.size, 0, none⟩ = some (.int .i64 ck) ∧ w.cell? ⟨W.heap.size, 1, none⟩ = some (.int .i64 nx) ∧ w.cell? ⟨W.heap.size, 2, none⟩ = some va ∧ w.cell? ⟨W.heap.size + 1, 0, none⟩ = some (.int .i64 ck) ∧ w.cell? ⟨W.heap.size + 1, 1, none⟩ = some (.int .i64 nx) ∧ w.cell? ⟨W.heap.size + 1, 2, none⟩ = some vb ∧
    w.cell? ⟨g, off + n * 12, none⟩ = some (.int .i64 e.kind) ∧ w.cell? ⟨g, off + n * 12 + 1, none⟩ = some (.int .i64 e.fam.id) ∧ w.cell? ⟨g, off + n * 12 + 2, none⟩ = some (.string e.fam.client) ∧ w.cell? ⟨g, off + n * 12 + 3, none⟩ = some (.string e.fam.subject) ∧ w.cell? ⟨g, off + n * 12 + 4, none⟩ = some (.string e.fam.scope) ∧ w.cell? ⟨g, off + n * 12 + 5, none⟩ = some (.int .i64 e.fam.gen) ∧
    w.cell? ⟨g, off + n * 12 + 6, none⟩ = some (.int .i64 e.fam.made) ∧ w.cell? ⟨g, off + n * 12 + 7, none⟩ = some (.int .i64 e.fam.used) ∧ w.cell? ⟨g, off + n * 12 + 8, none⟩ = some (.string e.fam.request) ∧ w.cell? ⟨g, off + n * 12 + 9, none⟩ = some (.bool e.fam.dead) ∧ w.cell? ⟨g, off + n * 12 + 10, none⟩ = some (.int .i64 e.id) ∧ w.cell? ⟨g, off + n * 12 + 11, none⟩ = some (.int .i64 e.time)
theorem SixNine.of {W : World} {g off : Nat} {E : List Ev} {k : Nat} {ck nx : Int} {L : List Fam} {va vb : Value} {w : World} (h : EL W g off E k ⟨ck, nx, L⟩ va vb w) {n : Nat} {e : Ev} (he : E[n]? = some e) : SixNine W g off n ck nx va vb e w :=
  ⟨h.b1.cell 0, h.b1.cell 1, h.b1.cell 2, h.b2.cell 0, h.b2.cell 1, h.b2.cell 2, h.ev n _ he 0 (by decide), h.ev n _ he 1 (by decide), h.ev n _ he 2 (by decide), h.ev n _ he 3 (by decide), h.ev n _ he 4 (by decide), h.ev n _ he 5 (by decide), h.ev n _ he 6 (by decide), h.ev n _ he 7 (by decide), h.ev n _ he 8 (by decide), h.ev n _ he 9 (by decide), h.ev n _ he 10 (by decide), h.ev n _ he 11 (by decide)⟩
/-- what Apply gives, told apart -/
def GotAs (w0 : World) (ck nx : Int) (L : List Fam) (x : Ending) (w' : World) : Prop := ∃ a c, x = .returned (.agg #[.int .i64 ck, .int .i64 nx, .slice a L.length c]) ∧ FRow w' w0.heap.size (.slice a L.length c) L ∧ Below w0.heap.size w0 w'
theorem got_as {w0 : World} {s' : St} {x : Ending} {w' : World} (h : ApplyGot w0 s' x w') : GotAs w0 s'.clock s'.next s'.fams x w' := by
  obtain ⟨v, rfl, hr, hb⟩ := h
  obtain ⟨a, c, rfl⟩ := hr.slice
  exact ⟨a, c, rfl, hr, hb⟩
theorem applyS_ok {s : St} {e : Ev} (h : StOk s) (hn : s.fams.length ≤ 60) (he : evB e = true) : StOk (applyS s e) := by
  refine ⟨applyS_asc h.asc e, applyS_ids h.ids (okN_one he), ?_⟩
  have := applyS_len s e
  omega
def ARel (W : World) (g off : Nat) (E : List Ev) (i : Value) (w : World) : Prop := ∃ (k : Nat) (s : St) (va vb : Value), k ≤ E.length ∧ i = .int .i64 k ∧ EL W g off E k s va vb w

set_option linter.unusedSimpArgs false in
set_option maxHeartbeats 16000000 in
set_option maxRecDepth 100000 in
theorem applies_walk (W : World) (g off cap : Nat) (E : List Ev) (hE : E.length ≤ 60) (h : ∀ i e, E[i]? = some e → ∀ j, j < 12 → W.cell? ⟨g, off + i * 12 + j, none⟩ = (evCs e)[j]?) (hg : g < W.heap.size) (hs : ∀ e ∈ E, e.fam.len ≤ 1000000000000000) :
    Calls Try.prog 3 #[.slice (some ⟨g, off, none⟩) E.length cap] W fun x w' => x = .returned (.bool true) ∧ Below W.heap.size W w' := by
  have HS := Lib.hid hs
  have H0 := Lib.hid (EL.start h hg)
  clear h hs
  go_enter Try.func3, Try.ntmps3
  go_wp2_with fail
  go_loopw [5] (fun i wr => ARel W g off E i wr) (fun i _ => E.length - (intOf i).toNat)
  case atStart => exact ⟨0, _, _, _, Nat.zero_le _, rfl, H0.out⟩
  case round =>
    obtain ⟨k, s, va, vb, hk, rfl, hl⟩ := hrel
    have HL := Lib.hid hl
    clear hl H0
    by_cases hlt : k < E.length
    · obtain ⟨e, he⟩ : ∃ e, E[k]? = some e := ⟨_, List.getElem?_eq_getElem hlt⟩
      have HM := Lib.hid (fun w => law_short e w (HS.out e (List.mem_of_getElem? he)))
      have HH := Lib.hid (fun w => law_happens e w)
      have h0 : (0 : Int) ≤ (k : Int) := by omega
      have h1 : (k : Int) < (E.length : Int) := by omega
      by_cases hsh : e.fam.len ≤ 300
      · rw [decide_eq_true hsh] at HM
        have HY := Lib.hid (fun w => ref_may e w (by have := Fam.short_of hsh; unfold Fam.short at *; omega))
        rcases hb : evB e with _ | _
        · rw [hb] at HY
          have HE := Lib.hid he
          obtain ⟨kd, ⟨i, cl, su, sc, ge, ma, us, re, de⟩, id, ti⟩ := e
          obtain ⟨d0, d1, d2, d3, d4, d5, d6, d7, d8, d9, d10, d11⟩ := HL.out.nine he
          unfold evVal evCs at HM HH HY
          dsimp only at HM HH HY
          clear he hsh hb
          go_wp2_with fail
          go_at_call 4
          refine (HM.out _).mono ?_
          rintro x w1 ⟨rfl, hb⟩
          have HL1 := Lib.hid (HL.out.keep hb)
          clear hb HL HM d0 d1 d2 d3 d4 d5 d6 d7 d8 d9 d10 d11
          obtain ⟨d0, d1, d2, d3, d4, d5, d6, d7, d8, d9, d10, d11⟩ := HL1.out.nine HE.out
          go_wp2_with fail
          go_at_call 6
          refine (HH.out _).mono ?_
          rintro x w2 ⟨rfl, hb⟩
          have HL2 := Lib.hid (HL1.out.keep hb)
          clear hb HL1
          go_wp2_with fail
          go_at_call 5
          refine (HY.out _).mono ?_
          rintro x w3 ⟨rfl, hb⟩
          have HL3 := Lib.hid (HL2.out.keep hb)
          clear hb HL2 d0 d1 d2 d3 d4 d5 d6 d7 d8 d9 d10 d11
          go_wp2_with fail
          go_roundw
          case rel => exact ⟨k + 1, _, _, _, by omega, by go_num, HL3.out.later⟩
          case measure => simp [intOf]; omega
        · rw [hb] at HY
          have HB := Lib.hid hb
          have HE := Lib.hid he
          obtain ⟨kd, ⟨i, cl, su, sc, ge, ma, us, re, de⟩, id, ti⟩ := e
          obtain ⟨d0, d1, d2, d3, d4, d5, d6, d7, d8, d9, d10, d11⟩ := HL.out.nine he
          unfold evVal evCs at HM HH HY
          dsimp only at HM HH HY
          clear he hsh hb
          go_wp2_with fail
          go_at_call 4
          refine (HM.out _).mono ?_
          rintro x w1 ⟨rfl, hb⟩
          have HL1 := Lib.hid (HL.out.keep hb)
          clear hb HL HM d0 d1 d2 d3 d4 d5 d6 d7 d8 d9 d10 d11
          obtain ⟨d0, d1, d2, d3, d4, d5, d6, d7, d8, d9, d10, d11⟩ := HL1.out.nine HE.out
          go_wp2_with fail
          go_at_call 6
          refine (HH.out _).mono ?_
          rintro x w2 ⟨rfl, hb⟩
          have HL2 := Lib.hid (HL1.out.keep hb)
          clear hb HL1
          go_wp2_with fail
          go_at_call 5
          refine (HY.out _).mono ?_
          rintro x w3 ⟨rfl, hb⟩
          have HL3 := Lib.hid (HL2.out.keep hb)
          clear hb HL2 d0 d1 d2 d3 d4 d5 d6 d7 d8 d9 d10 d11
          go_wp2_with fail
          have hsl := HL3.out.r1.slice
          have hsl2 := HL3.out.r2.slice
          obtain ⟨aa, ca, rfl⟩ := hsl
          obtain ⟨ab, cb, rfl⟩ := hsl2
          have hln := HL3.out.len
          have hok2 := applyS_ok HL3.out.ok (by omega) HB.out
          have hln2 := applyS_len s ⟨kd, ⟨i, cl, su, sc, ge, ma, us, re, de⟩, id, ti⟩
          have HA : Hid (∀ w (v : Value), FRow w (W.heap.size + 1 + 1) v s.fams → Calls Try.prog 7 #[stVal s v, evVal ⟨kd, ⟨i, cl, su, sc, ge, ma, us, re, de⟩, id, ti⟩] w (GotAs w (applyS s ⟨kd, ⟨i, cl, su, sc, ge, ma, us, re, de⟩, id, ti⟩).clock (applyS s ⟨kd, ⟨i, cl, su, sc, ge, ma, us, re, de⟩, id, ti⟩).next (applyS s ⟨kd, ⟨i, cl, su, sc, ge, ma, us, re, de⟩, id, ti⟩).fams)) :=
            Lib.hid fun w v hr => (ev_apply _ v s _ w hr HL3.out.ok (okN_one HB.out) (okN_two HB.out)).mono fun _ _ h => got_as h
          have HR : Hid (∀ w (v : Value), FRow w (W.heap.size + 1 + 1) v s.fams → Calls Try.prog 8 #[stVal s v, evVal ⟨kd, ⟨i, cl, su, sc, ge, ma, us, re, de⟩, id, ti⟩] w (GotAs w (applyS s ⟨kd, ⟨i, cl, su, sc, ge, ma, us, re, de⟩, id, ti⟩).clock (applyS s ⟨kd, ⟨i, cl, su, sc, ge, ma, us, re, de⟩, id, ti⟩).next (applyS s ⟨kd, ⟨i, cl, su, sc, ge, ma, us, re, de⟩, id, ti⟩).fams)) :=
            Lib.hid fun w v hr => (ref_apply _ v s _ w hr HL3.out.ok HB.out).mono fun _ _ h => got_as h
          obtain ⟨ck, nx, L⟩ := s
          generalize applyS ⟨ck, nx, L⟩ ⟨kd, ⟨i, cl, su, sc, ge, ma, us, re, de⟩, id, ti⟩ = s' at *
          obtain ⟨ck', nx', L'⟩ := s'
          have HOK := Lib.hid hok2
          clear hok2 HH HY
          have HH := Lib.hid (fun w => law_happens ⟨kd, ⟨i, cl, su, sc, ge, ma, us, re, de⟩, id, ti⟩ w)
          unfold GotAs stVal stCs evVal evCs at HA HR
          unfold evVal evCs at HH
          dsimp only at HA HR HH hln hln2 HL3
          have HLD := HL3.out.drew
          have hsz := HLD.size
          refine wp_region_tail (SixNine W g off k ck nx (.slice aa L.length ca) (.slice ab L.length cb) ⟨kd, ⟨i, cl, su, sc, ge, ma, us, re, de⟩, id, ti⟩) [13, 14] (by kernel_rfl) ?_
          have HSD := SixNine.of HLD HE.out
          refine wpAnyT_take 5 (i := 0) (v := ?v0) rfl (by kernel_rfl) (by kernel_rfl) (by kernel_rfl) (by kernel_rfl) (by kernel_rfl) (fun _ _ _ h => h) (by rfl) ?hy0 (by assumption) ?rest0
          case hy0 => (intro w hSw; obtain ⟨s0, s1, s2, s3, s4, s5, s6, s7, s8, s9, s10, s11, s12, s13, s14, s15, s16, s17⟩ := hSw; go_simp; (try with_reducible rfl))
          simp only [Act.put, List.setIfInBounds_toArray, List.set_cons_zero, List.set_cons_succ]
          refine wpAnyT_take 5 (i := 1) (v := ?v1) rfl (by kernel_rfl) (by kernel_rfl) (by kernel_rfl) (by kernel_rfl) (by kernel_rfl) (fun _ _ _ h => h) (by rfl) ?hy1 (by assumption) ?rest1
          case hy1 => (intro w hSw; obtain ⟨s0, s1, s2, s3, s4, s5, s6, s7, s8, s9, s10, s11, s12, s13, s14, s15, s16, s17⟩ := hSw; go_simp; (try with_reducible rfl))
          simp only [Act.put, List.setIfInBounds_toArray, List.set_cons_zero, List.set_cons_succ]
          refine wpAnyT_take 5 (i := 2) (v := ?v2) rfl (by kernel_rfl) (by kernel_rfl) (by kernel_rfl) (by kernel_rfl) (by kernel_rfl) (fun _ _ _ h => h) (by rfl) ?hy2 (by assumption) ?rest2
          case hy2 => (intro w hSw; obtain ⟨s0, s1, s2, s3, s4, s5, s6, s7, s8, s9, s10, s11, s12, s13, s14, s15, s16, s17⟩ := hSw; go_simp; (try with_reducible rfl))
          simp only [Act.put, List.setIfInBounds_toArray, List.set_cons_zero, List.set_cons_succ]
          refine wpAnyT_take 5 (i := 3) (v := ?v3) rfl (by kernel_rfl) (by kernel_rfl) (by kernel_rfl) (by kernel_rfl) (by kernel_rfl) (fun _ _ _ h => h) (by rfl) ?hy3 (by assumption) ?rest3
          case hy3 => (intro w hSw; obtain ⟨s0, s1, s2, s3, s4, s5, s6, s7, s8, s9, s10, s11, s12, s13, s14, s15, s16, s17⟩ := hSw; go_simp; (try with_reducible rfl))
          simp only [Act.put, List.setIfInBounds_toArray, List.set_cons_zero, List.set_cons_succ]
          refine wpAnyT_take 5 (i := 4) (v := ?v4) rfl (by kernel_rfl) (by kernel_rfl) (by kernel_rfl) (by kernel_rfl) (by kernel_rfl) (fun _ _ _ h => h) (by rfl) ?hy4 (by assumption) ?rest4
          case hy4 => (intro w hSw; obtain ⟨s0, s1, s2, s3, s4, s5, s6, s7, s8, s9, s10, s11, s12, s13, s14, s15, s16, s17⟩ := hSw; go_simp; (try with_reducible rfl))
          simp only [Act.put, List.setIfInBounds_toArray, List.set_cons_zero, List.set_cons_succ]
          refine wpAnyT_take 5 (i := 6) (v := ?v6) rfl (by kernel_rfl) (by kernel_rfl) (by kernel_rfl) (by kernel_rfl) (by kernel_rfl) (fun _ _ _ h => h) (by rfl) ?hy6 (by assumption) ?rest6
          case hy6 => (intro w hSw; obtain ⟨s0, s1, s2, s3, s4, s5, s6, s7, s8, s9, s10, s11, s12, s13, s14, s15, s16, s17⟩ := hSw; go_simp; (try with_reducible rfl))
          simp only [Act.put, List.setIfInBounds_toArray, List.set_cons_zero, List.set_cons_succ]
          refine wpAnyT_take 5 (i := 7) (v := ?v7) rfl (by kernel_rfl) (by kernel_rfl) (by kernel_rfl) (by kernel_rfl) (by kernel_rfl) (fun _ _ _ h => h) (by rfl) ?hy7 (by assumption) ?rest7
          case hy7 => (intro w hSw; obtain ⟨s0, s1, s2, s3, s4, s5, s6, s7, s8, s9, s10, s11, s12, s13, s14, s15, s16, s17⟩ := hSw; go_simp; (try with_reducible rfl))
          simp only [Act.put, List.setIfInBounds_toArray, List.set_cons_zero, List.set_cons_succ]
          refine wpAnyT_take 5 (i := 8) (v := ?v8) rfl (by kernel_rfl) (by kernel_rfl) (by kernel_rfl) (by kernel_rfl) (by kernel_rfl) (fun _ _ _ h => h) (by rfl) ?hy8 (by assumption) ?rest8
          case hy8 => (intro w hSw; obtain ⟨s0, s1, s2, s3, s4, s5, s6, s7, s8, s9, s10, s11, s12, s13, s14, s15, s16, s17⟩ := hSw; go_simp; (try with_reducible rfl))
          simp only [Act.put, List.setIfInBounds_toArray, List.set_cons_zero, List.set_cons_succ]
          refine wpAnyT_take 5 (i := 9) (v := ?v9) rfl (by kernel_rfl) (by kernel_rfl) (by kernel_rfl) (by kernel_rfl) (by kernel_rfl) (fun _ _ _ h => h) (by rfl) ?hy9 (by assumption) ?rest9
          case hy9 => (intro w hSw; obtain ⟨s0, s1, s2, s3, s4, s5, s6, s7, s8, s9, s10, s11, s12, s13, s14, s15, s16, s17⟩ := hSw; go_simp; (try with_reducible rfl))
          simp only [Act.put, List.setIfInBounds_toArray, List.set_cons_zero, List.set_cons_succ]
          refine wpAnyT_take 5 (i := 10) (v := ?v10) rfl (by kernel_rfl) (by kernel_rfl) (by kernel_rfl) (by kernel_rfl) (by kernel_rfl) (fun _ _ _ h => h) (by rfl) ?hy10 (by assumption) ?rest10
          case hy10 => (intro w hSw; obtain ⟨s0, s1, s2, s3, s4, s5, s6, s7, s8, s9, s10, s11, s12, s13, s14, s15, s16, s17⟩ := hSw; go_simp; (try with_reducible rfl))
          simp only [Act.put, List.setIfInBounds_toArray, List.set_cons_zero, List.set_cons_succ]
          refine wpAnyT_one (i := 5) (by kernel_rfl) rfl ?_
          intro K5 hK5
          go_simp
          go_at_call 7
          refine (HA.out _ _ (EL.r1 HLD)).mono ?_
          rintro x w1 ⟨a1, c1, rfl, hr1, hb1⟩
          have hl1 := EL.keep HLD hb1
          have hr1 := hr1.mono hsz
          have HS1 := SixNine.of hl1 HE.out
          try dsimp only
          refine hK5.out _ _ (fun _ => HS1) ?_
          try simp only [Act.put, List.setIfInBounds_toArray, List.set_cons_zero, List.set_cons_succ]
          refine wpAnyT_one (i := 11) (by kernel_rfl) rfl ?_
          intro K11 hK11
          go_simp
          go_at_call 6
          refine (HH.out _).mono ?_
          rintro x w2 ⟨rfl, hb2⟩
          have hl2 := EL.keep hl1 hb2
          have hr12 := hr1.below hb2
          have hsz2 := hl2.size
          have HS2 := SixNine.of hl2 HE.out
          try dsimp only
          refine hK11.out _ _ (fun _ => HS2) ?_
          try simp only [Act.put, List.setIfInBounds_toArray, List.set_cons_zero, List.set_cons_succ]
          refine wpAnyT_one (i := 12) (by kernel_rfl) rfl ?_
          intro K12 hK12
          go_simp
          go_at_call 8
          refine (HR.out _ _ (EL.r2 hl2)).mono ?_
          rintro x w4 ⟨a2, c2, rfl, hr2, hb4⟩
          have hl4 := EL.keep hl2 hb4
          have hr14 := hr12.below hb4
          have hr2 := hr2.mono hsz2
          have HS4 := SixNine.of hl4 HE.out
          obtain ⟨p0, p1, p2, q0, q1, q2⟩ := hl4.six
          obtain ⟨f1, f2⟩ := hl4.frozen
          try dsimp only
          refine hK12.out _ _ (fun _ => HS4) ?_
          try simp only [Act.put, List.setIfInBounds_toArray, List.set_cons_zero, List.set_cons_succ]
          refine wpAnyT_one (i := 13) (by kernel_rfl) rfl ?_
          intro K13 hK13
          go_simp
          try dsimp only
          refine hK13.out _ _ (fun h => absurd h (by decide)) ?_
          try simp only [Act.put, List.setIfInBounds_toArray, List.set_cons_zero, List.set_cons_succ]
          refine wpAnyT_one (i := 14) (by kernel_rfl) rfl ?_
          intro K14 hK14
          go_simp
          try dsimp only
          refine hK14.out _ _ (fun h => absurd h (by decide)) ?_
          try simp only [Act.put, List.setIfInBounds_toArray, List.set_cons_zero, List.set_cons_succ]
          refine wpAnyT_done (by kernel_rfl) ?_ _
          have HX := Lib.hid (EL.put_ hl4 hr14 hr2 HOK.out (by omega))
          clear HLD HSD HS1 HS2 HS4 hl1 hl2 hl4 hr1 hr12 hr14 hr2 p0 p1 p2 q0 q1 q2 f1 f2 HA HR HH HL3
          generalize ((((((w4.setCell ⟨W.heap.size, 0, none⟩ (.int .i64 ck')).setCell ⟨W.heap.size, 1, none⟩ (.int .i64 nx')).setCell ⟨W.heap.size, 2, none⟩ (.slice a1 L'.length c1)).setCell ⟨W.heap.size + 1, 0, none⟩ (.int .i64 ck')).setCell ⟨W.heap.size + 1, 1, none⟩ (.int .i64 nx')).setCell ⟨W.heap.size + 1, 2, none⟩ (.slice a2 L'.length c2)) = w5 at *
          obtain ⟨m0, m1, m2, n0, n1, n2⟩ := HX.out.six
          have HSA := Lib.hid (plain_same _ _ _ _ ⟨ck', nx', L'⟩ ⟨ck', nx', L'⟩ w5 HX.out.r1 HX.out.r2 HOK.out.len)
          unfold stVal stCs at HSA
          dsimp only at HSA
          go_wp2_with fail
          go_at_call 9
          refine HSA.out.mono ?_
          rintro x w6 ⟨q, rfl, hq, hb⟩
          obtain rfl := hq (by first | rfl | trivial)
          have HX6 := Lib.hid (HX.out.keep hb)
          clear hb hq
          go_wp2_with fail
          go_roundw
          case rel => exact ⟨k + 1, _, _, _, by omega, by go_num, HX6.out⟩
          case measure => simp [intOf]; omega
      · rw [decide_eq_false hsh] at HM
        obtain ⟨kd, ⟨i, cl, su, sc, ge, ma, us, re, de⟩, id, ti⟩ := e
        obtain ⟨d0, d1, d2, d3, d4, d5, d6, d7, d8, d9, d10, d11⟩ := HL.out.nine he
        unfold evVal evCs at HM
        dsimp only at HM
        clear he hsh HH
        go_wp2_with fail
        go_at_call 4
        refine (HM.out _).mono ?_
        rintro x w1 ⟨rfl, hb⟩
        have HL1 := Lib.hid (HL.out.keep hb)
        clear hb HL HM d0 d1 d2 d3 d4 d5 d6 d7 d8 d9 d10 d11
        go_wp2_with fail
        go_roundw
        case rel => exact ⟨k + 1, _, _, _, by omega, by go_num, HL1.out.later⟩
        case measure => simp [intOf]; omega
    · go_wp2_with fail
      go_ret
      exact ⟨rfl, HL.out.below⟩

theorem applies_none (W : World) (a : Option Addr) (c : Nat) : Calls Try.prog 3 #[.slice a 0 c] W fun x w' => x = .returned (.bool true) ∧ Below W.heap.size W w' := by
  have hb := alloc2 W (.cells #[.int .i64 0, .int .i64 1, .slice none 0 0] 25) (.cells #[.int .i64 0, .int .i64 1, .slice none 0 0] 25)
  have HB := Lib.hid hb
  clear hb
  go_enter Try.func3, Try.ntmps3
  go_wp2_with fail
  refine wp_loop_rounds 1 ?_
  rw [rounds_succ]
  go_wp2_with fail
  go_ret
  exact ⟨rfl, HB.out⟩
theorem applies_long (W : World) (a : Option Addr) (n c : Nat) (h : 60 < n) (hn : n ≤ 9223372036854775807) : Calls Try.prog 3 #[.slice a n c] W fun x w' => x = .returned (.bool true) ∧ Below W.heap.size W w' := by
  go_enter Try.func3, Try.ntmps3
  go_wp2_with fail
  go_ret
  exact ⟨rfl, Below.refl _ _⟩
end Go.Proofs.Ytklpmoimckblcaa
