/-
  StoreCrashes: what lies in memory while it goes; its closure.
-/
import Derived.Test.YtdogilbnbbeljaaGreatDoorG37
import Derived.Test.YtdogilbnbbeljaaGreatDoorG38
namespace Go.Proofs.YtdogilbnbbeljaaGreatDoor
open Go.RowKit Go.Sort

/-- numbers of a slice that came in -/
def CutsAt (w : World) (cv : Value) (m : Nat) : Prop := ∃ (a : Option Addr) (cap : Nat), cv = .slice a m cap ∧ (m ≠ 0 → ∃ g off, a = some ⟨g, off, none⟩ ∧ ∀ i, i < m → ∃ z : Int, w.cell? ⟨g, off + i, none⟩ = some (.int .i64 z))
/-- what was done, one of a list -/
structure DoE where
  what : Int
  ev : Ev
def doCs (d : DoE) : Array Value := #[.int .i64 d.what, .int .i64 d.ev.kind, .int .i64 d.ev.fam.id, .string d.ev.fam.client, .string d.ev.fam.subject, .string d.ev.fam.scope, .int .i64 d.ev.fam.gen, .int .i64 d.ev.fam.made, .int .i64 d.ev.fam.used, .string d.ev.fam.request, .bool d.ev.fam.dead, .int .i64 d.ev.id, .int .i64 d.ev.time]
def DosAt (w : World) (g off : Nat) (E : List DoE) : Prop := ∀ i d, E[i]? = some d → ∀ j, j < 13 → w.cell? ⟨g, off + i * 13 + j, none⟩ = (doCs d)[j]?
/-- the walk's own blocks: the cuts, the disk's pointer, the state told, the next cut; and all that came in -/
structure CB (W : World) (g off : Nat) (E : List DoE) (m : Nat) (pb nb xb db : Nat) (cv : Value) (s : St) (v : Value) (j : Nat) (w : World) : Prop where
  cuts : Blk w W.heap.size 23 #[cv]
  ptr : Blk w pb 25 #[.pointer (some ⟨db, 0, none⟩)]
  now : Blk w nb 36 (stCs s v)
  row : FRow w W.heap.size v s.fams
  nxt : Blk w xb 3 #[.int .i64 j]
  below : Below W.heap.size W w
  hp : W.heap.size ≤ pb
  hn : W.heap.size ≤ nb
  hx : W.heap.size ≤ xb
  err : ErrType W
  eg : 0 < W.heap.size
  lcuts : CutsAt W cv m
  lcell : ∀ a cap, cv = .slice (some a) m cap → m ≠ 0 → a.block < W.heap.size
  ldos : E ≠ [] → DosAt W g off E ∧ g < W.heap.size
  jm : j ≤ m
  mm : m ≤ 30
section
variable {W w w' : World} {g off m : Nat} {E : List DoE} {pb nb xb db : Nat} {cv : Value} {s : St} {v : Value} {j : Nat}
theorem CB.keep (h : CB W g off E m pb nb xb db cv s v j w) (hb : Below w.heap.size w w') : CB W g off E m pb nb xb db cv s v j w' :=
  ⟨h.cuts.below' hb, h.ptr.below' hb, h.now.below' hb, h.row.below hb, h.nxt.below' hb, below_2 h.below hb, h.hp, h.hn, h.hx, h.err, h.eg, h.lcuts, h.lcell, h.ldos, h.jm, h.mm⟩
theorem CB.drew (h : CB W g off E m pb nb xb db cv s v j w) : CB W g off E m pb nb xb db cv s v j w.drew :=
  ⟨h.cuts, h.ptr, h.now, h.row, h.nxt, below_dr h.below, h.hp, h.hn, h.hx, h.err, h.eg, h.lcuts, h.lcell, h.ldos, h.jm, h.mm⟩
theorem CB.et (h : CB W g off E m pb nb xb db cv s v j w) : ErrType w := h.err.below h.below h.eg
/-- a store and its disk have turned -/
theorem CB.two {a b : Nat} {ca cb : Array Value} (h : CB W g off E m pb nb xb db cv s v j w) (k : Two a b w w') (ha : Blk w a 69 ca) (hb : Blk w b 28 cb) (h1 : W.heap.size ≤ a) (h2 : W.heap.size ≤ b) : CB W g off E m pb nb xb db cv s v j w' :=
  ⟨h.cuts.two k (h.cuts.ne_ ha (by decide)) (h.cuts.ne_ hb (by decide)), h.ptr.two k (h.ptr.ne_ ha (by decide)) (h.ptr.ne_ hb (by decide)), h.now.two k (h.now.ne_ ha (by decide)) (h.now.ne_ hb (by decide)), h.row.two k (h.row.apart ha (by decide)) (h.row.apart hb (by decide)), h.nxt.two k (h.nxt.ne_ ha (by decide)) (h.nxt.ne_ hb (by decide)),
   k.below h.below h.below.size h1 h2, h.hp, h.hn, h.hx, h.err, h.eg, h.lcuts, h.lcell, h.ldos, h.jm, h.mm⟩
/-- a state is told anew -/
theorem CB.tell (h : CB W g off E m pb nb xb db cv s v j w) (s' : St) {v' : Value} (hr : FRow w W.heap.size v' s'.fams) :
    CB W g off E m pb nb xb db cv s' v' j (((w.setCell ⟨nb, 0, none⟩ (.int .i64 s'.clock)).setCell ⟨nb, 1, none⟩ (.int .i64 s'.next)).setCell ⟨nb, 2, none⟩ v') ∧ w.grownBy (((w.setCell ⟨nb, 0, none⟩ (.int .i64 s'.clock)).setCell ⟨nb, 1, none⟩ (.int .i64 s'.next)).setCell ⟨nb, 2, none⟩ v') (some nb) := by
  obtain ⟨k1, k2⟩ := st_sets (c := .int .i64 s'.clock) (n := .int .i64 s'.next) (v := v') h.now
  refine ⟨⟨h.cuts.grown k2 (by simpa using h.cuts.ne_ h.now (by decide)), h.ptr.grown k2 (by simpa using h.ptr.ne_ h.now (by decide)), k1, hr.kept k2 (hr.apart h.now (by decide)), h.nxt.grown k2 (by simpa using h.nxt.ne_ h.now (by decide)),
    h.below.grown k2 h.below.size (fun i hi => by cases hi; exact h.hn), h.hp, h.hn, h.hx, h.err, h.eg, h.lcuts, h.lcell, h.ldos, h.jm, h.mm⟩, k2⟩
theorem CB.cell (h : CB W g off E m pb nb xb db cv s v j w) {i : Nat} {d : DoE} (hd : E[i]? = some d) (q : Nat) (hq : q < 13) : w.cell? ⟨g, off + i * 13 + q, none⟩ = (doCs d)[q]? := by
  have hne : E ≠ [] := by rintro rfl; simp at hd
  obtain ⟨h1, h2⟩ := h.ldos hne
  rw [h.below.cell (p := ⟨g, off + i * 13 + q, none⟩) h2]
  exact h1 i d hd q hq
end
theorem CB.start {W w : World} {g off m : Nat} {E : List DoE} {pb db : Nat} {cv : Value} (h1 : Blk w W.heap.size 23 #[cv]) (h2 : Blk w pb 25 #[.pointer (some ⟨db, 0, none⟩)]) (h3 : Below W.heap.size W w) (hp : W.heap.size ≤ pb) (he : ErrType W)
    (hc : CutsAt W cv m) (hl : ∀ a cap, cv = .slice (some a) m cap → m ≠ 0 → a.block < W.heap.size) (hd : E ≠ [] → DosAt W g off E ∧ g < W.heap.size) (hm : m ≤ 30) :
    CB W g off E m pb w.heap.size (w.heap.size + 1) db cv startS (.slice none 0 0) 0 ((w.alloc (.cells #[.int .i64 0, .int .i64 1, .slice none 0 0] 36)).alloc (.cells #[.int .i64 0] 3)) := by
  have e1 : Blk ((w.alloc (.cells #[.int .i64 0, .int .i64 1, .slice none 0 0] 36)).alloc (.cells #[.int .i64 0] 3)) (w.heap.size + 1) 3 #[.int .i64 0] := by
    have := Blk.new (w.alloc (.cells #[.int .i64 0, .int .i64 1, .slice none 0 0] 36)) 3 #[.int .i64 0]
    rw [show (w.alloc (.cells #[.int .i64 0, .int .i64 1, .slice none 0 0] 36)).heap.size = w.heap.size + 1 by simp] at this
    exact this
  have hs := h3.size
  exact ⟨(h1.alloc _).alloc _, (h2.alloc _).alloc _, (Blk.new w _ _).alloc _, FRow.nil _ _, e1, (h3.alloc hs _).alloc (by simp; omega) _, hp, hs, by omega, he, he.lt, hc, hl, hd, Nat.zero_le _, hm⟩
/-- the closure: the next cut, if there is one more -/
def CutTo (W0 w : World) (g off : Nat) (E : List DoE) (m pb nb xb db : Nat) (cv : Value) (s : St) (v : Value) (D : Dk) (e : Ending) (w' : World) : Prop :=
  e = .returned (.tuple #[]) ∧ ∃ (j : Nat) (k : Int), CB W0 g off E m pb nb xb db cv s v j w' ∧ DiskAt w' db (D.cutAt k) ∧ Two xb db w w'
theorem CB.next {W w : World} {g off m : Nat} {E : List DoE} {pb nb xb db : Nat} {cv : Value} {s : St} {v : Value} {j : Nat} (h : CB W g off E m pb nb xb db cv s v j w) (j' : Nat) (hj : j' ≤ m) (u : Int) (hu : u = (j' : Int)) :
    CB W g off E m pb nb xb db cv s v j' (w.setCell ⟨xb, 0, none⟩ (.int .i64 u)) ∧ w.grownBy (w.setCell ⟨xb, 0, none⟩ (.int .i64 u)) (some xb) := by
  subst hu
  have k1 := h.nxt.put_ 0 (.int .i64 j') (cs' := #[.int .i64 j']) rfl
  have k2 := only_set1 w xb ⟨xb, 0, none⟩ rfl (.int .i64 j')
  refine ⟨⟨h.cuts.grown k2 (by simpa using h.cuts.ne_ h.nxt (by decide)), h.ptr.grown k2 (by simpa using h.ptr.ne_ h.nxt (by decide)), h.now.grown k2 (by simpa using h.now.ne_ h.nxt (by decide)), h.row.kept k2 (h.row.apart h.nxt (by decide)), k1,
    h.below.grown k2 h.below.size (fun i hi => by cases hi; exact h.hx), h.hp, h.hn, h.hx, h.err, h.eg, h.lcuts, h.lcell, h.ldos, hj, h.mm⟩, k2⟩
theorem CB.disk {W w w' : World} {g off m : Nat} {E : List DoE} {pb nb xb db : Nat} {cv : Value} {s : St} {v : Value} {j : Nat} {cs : Array Value} (h : CB W g off E m pb nb xb db cv s v j w) (hd : Blk w db 28 cs) (hg : w.grownBy w' (some db)) (h1 : W.heap.size ≤ db) : CB W g off E m pb nb xb db cv s v j w' :=
  ⟨h.cuts.grown hg (by simpa using h.cuts.ne_ hd (by decide)), h.ptr.grown hg (by simpa using h.ptr.ne_ hd (by decide)), h.now.grown hg (by simpa using h.now.ne_ hd (by decide)), h.row.kept hg (h.row.apart hd (by decide)), h.nxt.grown hg (by simpa using h.nxt.ne_ hd (by decide)),
    h.below.grown hg h.below.size (fun i hi => by cases hi; exact h1), h.hp, h.hn, h.hx, h.err, h.eg, h.lcuts, h.lcell, h.ldos, h.jm, h.mm⟩
def PickGot (w : World) (e : Ending) (w' : World) : Prop := ∃ r : Int, e = .returned (.int .i64 r) ∧ w = w'
set_option maxRecDepth 100000 in
theorem pick_any (a : Int) (w : World) : Calls Tryz.prog 8 #[.int .i64 a, .int .i64 60] w (PickGot w) := by
  go_enter Tryz.func8, Tryz.ntmps8
  go_wp2_with fail
  go_ret
  exact ⟨_, rfl, rfl⟩
set_option maxHeartbeats 4000000 in
set_option maxRecDepth 100000 in
theorem cut_call {W w : World} {g off m : Nat} {E : List DoE} {pb nb xb db : Nat} {cv : Value} {s : St} {v : Value} {j : Nat} (h : CB W g off E m pb nb xb db cv s v j w) (D : Dk) (hd : DiskAt w db D) (hdb : W.heap.size ≤ db) :
    Calls Tryz.prog 7 #[.pointer (some ⟨xb, 0, none⟩), .pointer (some ⟨W.heap.size, 0, none⟩), .pointer (some ⟨pb, 0, none⟩)] w (CutTo W w g off E m pb nb xb db cv s v D) := by
  have H := Lib.hid h
  have HD := Lib.hid hd
  obtain ⟨ca, ccap, rfl, hc⟩ := h.lcuts
  have c0 : w.cell? ⟨xb, 0, none⟩ = some (.int .i64 j) := h.nxt.cell 0
  have c1 : w.cell? ⟨W.heap.size, 0, none⟩ = some (.slice ca m ccap) := h.cuts.cell 0
  have c2 : w.cell? ⟨pb, 0, none⟩ = some (.pointer (some ⟨db, 0, none⟩)) := h.ptr.cell 0
  have hz := h.nxt.frozen
  have hmm := h.mm
  have hjm := h.jm
  have HDC := Lib.hid (fun k w h => disk_cut db D k w h)
  by_cases hj : j < m
  · obtain ⟨cg, co, rfl, hcs⟩ := hc (by omega)
    obtain ⟨z, hz1⟩ := hcs j hj
    have hlt := h.lcell _ _ rfl (by omega)
    have c3 : w.cell? ⟨cg, co + j, none⟩ = some (.int .i64 z) := by
      rw [h.below.cell (p := ⟨cg, co + j, none⟩) hlt]
      exact hz1
    clear h hd hc hcs hz1 hlt
    have HP := Lib.hid (fun w => pick_any z w)
    have hj0 : (0 : Int) ≤ (j : Int) := by omega
    have hj1 : (j : Int) < (m : Int) := by omega
    go_enter Tryz.func7, Tryz.ntmps7
    go_wp2_with fail
    go_at_call 8
    refine (HP.out _).mono ?_
    rintro e w1 ⟨r, rfl, rfl⟩
    obtain ⟨hn1, hn2⟩ := H.out.next (j + 1) (by omega) ((j : Int) + 1) (by omega)
    have HN1 := Lib.hid hn1
    have HN2 := Lib.hid hn2
    have hd1 := HD.out.grown hn2 (by simpa using HD.out.at_.ne_ H.out.nxt (by decide))
    have HD1 := Lib.hid hd1
    have c2' : (w.setCell ⟨xb, 0, none⟩ (.int .i64 ((j : Int) + 1))).cell? ⟨pb, 0, none⟩ = some (.pointer (some ⟨db, 0, none⟩)) := hn1.ptr.cell 0
    clear hn1 hn2 hd1
    go_wp2_with fail
    go_at_call 9
    refine (HDC.out _ _ HD1.out).mono ?_
    rintro e w2 ⟨rfl, hd2, hg2⟩
    have HE := Lib.hid (HN1.out.disk HD1.out.at_ hg2 hdb)
    have HT := Lib.hid ((Two.of_one (b := db) HN2.out).trans (Two.of_two (a := xb) hg2))
    have HD2 := Lib.hid hd2
    clear hd2 hg2
    go_wp2_with fail
    go_end0
    exact ⟨rfl, j + 1, r, HE.out, HD2.out, HT.out⟩
  · have hj2 : ¬ (j : Int) < (m : Int) := by omega
    have hjn : decide ((j : Int) < (m : Int)) = false := decide_eq_false hj2
    clear h hd hc
    go_enter Tryz.func7, Tryz.ntmps7
    go_wp2_with fail
    go_at_call 9
    refine (HDC.out _ _ HD.out).mono ?_
    rintro e w2 ⟨rfl, hd2, hg2⟩
    have HE := Lib.hid (H.out.disk HD.out.at_ hg2 hdb)
    have HT := Lib.hid (Two.of_two (a := xb) hg2)
    have HD2 := Lib.hid hd2
    clear hd2 hg2
    go_wp2_with fail
    go_end0
    exact ⟨rfl, j, _, HE.out, HD2.out, HT.out⟩
/-- the store, when the closure has cut -/
theorem SO.cut2 {B sb db xb : Nat} {D : Dk} {n f x : Int} {s : St} {v u : Value} {w w' : World} (h : SO B sb db D n f x s v w) {k : Int} (hd : DiskAt w' db (D.cutAt k)) (ht : Two xb db w w') (hx : Blk w xb 3 #[u]) (hb : B ≤ xb) : SO B sb db (D.cutAt k) n f x s v w' := by
  obtain ⟨h1, h2, h3⟩ := h.sd.apart
  have hbl : Below B w w' := ht.below (Below.refl _ _) h.sd.big hb h.sd.bd
  have env := h.sd.env.keep hbl
  have row := h.sd.row.two ht (h.sd.row.apart hx (by decide)) h2
  have st := Blk.two h.sd.st ht (Blk.ne_ h.sd.st hx (by decide)) h3
  exact ⟨⟨env, st, hd, row, h.sd.bs, h.sd.bd⟩, ⟨env, hd, h.sd.bd, Nat.le_trans h.sd.big hbl.size, h.di.fits, h.di.fit, h.di.inv⟩⟩
/-- at the head of a round -/
def CrRel (W : World) (g off : Nat) (E : List DoE) (m pb nb xb db : Nat) (cv : Value) (sv i : Value) (w : World) : Prop :=
  ∃ (k j sb : Nat) (D : Dk) (n f x : Int) (s : St) (v v' : Value), k ≤ E.length ∧ i = .int .i64 k ∧ sv = .pointer (some ⟨sb, 0, none⟩) ∧ CB W g off E m pb nb xb db cv s v' j w ∧ SO W.heap.size sb db D n f x s v w ∧ n ≤ k ∧ x ≤ k
theorem CB.thirteen {W w : World} {g off m : Nat} {E : List DoE} {pb nb xb db : Nat} {cv : Value} {s : St} {v : Value} {j : Nat} (h : CB W g off E m pb nb xb db cv s v j w) {k : Nat} {wh kd i : Int} {cl su sc : ByteArray} {ge ma us : Int} {re : ByteArray} {de : Bool} {id ti : Int} (he : E[k]? = some ⟨wh, ⟨kd, ⟨i, cl, su, sc, ge, ma, us, re, de⟩, id, ti⟩⟩) :
    w.cell? ⟨g, off + k * 13, none⟩ = some (.int .i64 wh) ∧ w.cell? ⟨g, off + k * 13 + 1, none⟩ = some (.int .i64 kd) ∧ w.cell? ⟨g, off + k * 13 + 2, none⟩ = some (.int .i64 i) ∧ w.cell? ⟨g, off + k * 13 + 3, none⟩ = some (.string cl) ∧ w.cell? ⟨g, off + k * 13 + 4, none⟩ = some (.string su) ∧ w.cell? ⟨g, off + k * 13 + 5, none⟩ = some (.string sc) ∧ w.cell? ⟨g, off + k * 13 + 6, none⟩ = some (.int .i64 ge) ∧
    w.cell? ⟨g, off + k * 13 + 7, none⟩ = some (.int .i64 ma) ∧ w.cell? ⟨g, off + k * 13 + 8, none⟩ = some (.int .i64 us) ∧ w.cell? ⟨g, off + k * 13 + 9, none⟩ = some (.string re) ∧ w.cell? ⟨g, off + k * 13 + 10, none⟩ = some (.bool de) ∧ w.cell? ⟨g, off + k * 13 + 11, none⟩ = some (.int .i64 id) ∧ w.cell? ⟨g, off + k * 13 + 12, none⟩ = some (.int .i64 ti) :=
  ⟨h.cell he 0 (by decide), h.cell he 1 (by decide), h.cell he 2 (by decide), h.cell he 3 (by decide), h.cell he 4 (by decide), h.cell he 5 (by decide), h.cell he 6 (by decide), h.cell he 7 (by decide), h.cell he 8 (by decide), h.cell he 9 (by decide), h.cell he 10 (by decide), h.cell he 11 (by decide), h.cell he 12 (by decide)⟩
/-- the state that is told lies apart -/
theorem SO.now {B sb db nb : Nat} {D : Dk} {n f x : Int} {s : St} {v : Value} {w w' : World} {cs : Array Value} (h : SO B sb db D n f x s v w) (hg : w.grownBy w' (some nb)) (hn : Blk w nb 36 cs) (hb : B ≤ nb) : SO B sb db D n f x s v w' := by
  have hbl : Below B w w' := (Below.refl _ _).grown hg h.sd.big (fun i hi => by cases hi; exact hb)
  have env := h.sd.env.keep hbl
  have dk := h.sd.disk.grown hg (by simpa using Blk.ne_ h.sd.disk.at_ hn (by decide))
  exact ⟨⟨env, Blk.grown h.sd.st hg (by simpa using Blk.ne_ h.sd.st hn (by decide)), dk, h.sd.row.kept hg (h.sd.row.apart hn (by decide)), h.sd.bs, h.sd.bd⟩, ⟨env, dk, h.sd.bd, Nat.le_trans h.sd.big hbl.size, h.di.fits, h.di.fit, h.di.inv⟩⟩
/-- a round's own blocks: what is done, its family, the state behind it -/
structure RB (b B : Nat) (d : DoE) (s : St) (v : Value) (w : World) : Prop where
  do_ : Blk w b 44 (doCs d)
  fam : Blk w (b + 1) 40 (famCs d.ev.fam)
  beh : Blk w (b + 1 + 1) 36 (stCs s v)
  row : FRow w B v s.fams
section
variable {b B : Nat} {d : DoE} {s : St} {v : Value} {w w' : World}
theorem RB.start {W : World} {d : DoE} {s : St} {v : Value} (hr : FRow W B v s.fams) : RB W.heap.size B d s v (((W.alloc (.cells (doCs d) 44)).alloc (.cells (famCs d.ev.fam) 40)).alloc (.cells (stCs s v) 36)) ∧
    Below W.heap.size W (((W.alloc (.cells (doCs d) 44)).alloc (.cells (famCs d.ev.fam) 40)).alloc (.cells (stCs s v) 36)) := by
  have hb := alloc3 (W := W) (.cells (doCs d) 44) (.cells (famCs d.ev.fam) 40) (.cells (stCs s v) 36) (Below.refl _ _)
  refine ⟨⟨((Blk.new W _ _).alloc _).alloc _, ?_, ?_, hr.below hb⟩, hb⟩
  · have := (Blk.new (W.alloc (.cells (doCs d) 44)) 40 (famCs d.ev.fam)).alloc (.cells (stCs s v) 36)
    rw [show (W.alloc (.cells (doCs d) 44)).heap.size = W.heap.size + 1 by simp] at this
    exact this
  · have := Blk.new ((W.alloc (.cells (doCs d) 44)).alloc (.cells (famCs d.ev.fam) 40)) 36 (stCs s v)
    rw [show ((W.alloc (.cells (doCs d) 44)).alloc (.cells (famCs d.ev.fam) 40)).heap.size = W.heap.size + 1 + 1 by simp] at this
    exact this
theorem RB.keep (h : RB b B d s v w) (hb : Below w.heap.size w w') : RB b B d s v w' := ⟨h.do_.below' hb, h.fam.below' hb, h.beh.below' hb, h.row.below hb⟩
theorem RB.two {x y : Nat} {cx cy : Array Value} (h : RB b B d s v w) (k : Two x y w w') (hx : Blk w x 69 cx) (hy : Blk w y 28 cy) : RB b B d s v w' :=
  ⟨h.do_.two k (h.do_.ne_ hx (by decide)) (h.do_.ne_ hy (by decide)), h.fam.two k (h.fam.ne_ hx (by decide)) (h.fam.ne_ hy (by decide)), h.beh.two k (h.beh.ne_ hx (by decide)) (h.beh.ne_ hy (by decide)), h.row.two k (h.row.apart hx (by decide)) (h.row.apart hy (by decide))⟩
theorem RB.grown {x : Nat} {T : TypeId} {cx : Array Value} (h : RB b B d s v w) (k : w.grownBy w' (some x)) (hx : Blk w x T cx) (h1 : 44 ≠ T) (h2 : 40 ≠ T) (h3 : 36 ≠ T) : RB b B d s v w' :=
  ⟨h.do_.grown k (by simpa using h.do_.ne_ hx h1), h.fam.grown k (by simpa using h.fam.ne_ hx h2), h.beh.grown k (by simpa using h.beh.ne_ hx h3), h.row.kept k (h.row.apart hx h2)⟩
end
theorem RB.twelve {b B : Nat} {wh kd i : Int} {cl su sc : ByteArray} {ge ma us : Int} {re : ByteArray} {de : Bool} {id ti : Int} {s : St} {v : Value} {w : World} (h : RB b B ⟨wh, ⟨kd, ⟨i, cl, su, sc, ge, ma, us, re, de⟩, id, ti⟩⟩ s v w) :
    w.cell? ⟨b, 1, none⟩ = some (.int .i64 kd) ∧ w.cell? ⟨b, 2, none⟩ = some (.int .i64 i) ∧ w.cell? ⟨b, 3, none⟩ = some (.string cl) ∧ w.cell? ⟨b, 4, none⟩ = some (.string su) ∧ w.cell? ⟨b, 5, none⟩ = some (.string sc) ∧ w.cell? ⟨b, 6, none⟩ = some (.int .i64 ge) ∧
    w.cell? ⟨b, 7, none⟩ = some (.int .i64 ma) ∧ w.cell? ⟨b, 8, none⟩ = some (.int .i64 us) ∧ w.cell? ⟨b, 9, none⟩ = some (.string re) ∧ w.cell? ⟨b, 10, none⟩ = some (.bool de) ∧ w.cell? ⟨b, 11, none⟩ = some (.int .i64 id) ∧ w.cell? ⟨b, 12, none⟩ = some (.int .i64 ti) :=
  ⟨h.do_.cell 1, h.do_.cell 2, h.do_.cell 3, h.do_.cell 4, h.do_.cell 5, h.do_.cell 6, h.do_.cell 7, h.do_.cell 8, h.do_.cell 9, h.do_.cell 10, h.do_.cell 11, h.do_.cell 12⟩
/-- the state behind it is told -/
theorem RB.tell {b B : Nat} {d : DoE} {s : St} {v : Value} {w : World} (h : RB b B d s v w) (ck nx : Int) (L : List Fam) {v' : Value} (hr : FRow w B v' L) :
    RB b B d ⟨ck, nx, L⟩ v' (((w.setCell ⟨b + 1 + 1, 0, none⟩ (.int .i64 ck)).setCell ⟨b + 1 + 1, 1, none⟩ (.int .i64 nx)).setCell ⟨b + 1 + 1, 2, none⟩ v') ∧ w.grownBy (((w.setCell ⟨b + 1 + 1, 0, none⟩ (.int .i64 ck)).setCell ⟨b + 1 + 1, 1, none⟩ (.int .i64 nx)).setCell ⟨b + 1 + 1, 2, none⟩ v') (some (b + 1 + 1)) := by
  obtain ⟨k1, k2⟩ := st_sets (c := .int .i64 ck) (n := .int .i64 nx) (v := v') h.beh
  exact ⟨⟨h.do_.grown k2 (by simp; omega), h.fam.grown k2 (by simp), k1, hr.kept k2 (hr.apart h.beh (by decide))⟩, k2⟩
theorem CB.beh {W w w' : World} {g off m : Nat} {E : List DoE} {pb nb xb db q : Nat} {cv : Value} {s : St} {v : Value} {j : Nat} {cs : Array Value} (h : CB W g off E m pb nb xb db cv s v j w) (hg : w.grownBy w' (some q)) (hq : Blk w q 36 cs) (hne : nb ≠ q) (hB : W.heap.size ≤ q) : CB W g off E m pb nb xb db cv s v j w' :=
  ⟨h.cuts.grown hg (by simpa using h.cuts.ne_ hq (by decide)), h.ptr.grown hg (by simpa using h.ptr.ne_ hq (by decide)), h.now.grown hg (by simpa using hne), h.row.kept hg (h.row.apart hq (by decide)), h.nxt.grown hg (by simpa using h.nxt.ne_ hq (by decide)),
    h.below.grown hg h.below.size (fun i hi => by cases hi; exact hB), h.hp, h.hn, h.hx, h.err, h.eg, h.lcuts, h.lcell, h.ldos, h.jm, h.mm⟩
theorem DI.now {B db nb : Nat} {D : Dk} {n f x : Int} {s : St} {w w' : World} {cs : Array Value} (h : DI B db D n f x s w) (hg : w.grownBy w' (some nb)) (hn : Blk w nb 36 cs) (hb : B ≤ nb) : DI B db D n f x s w' := by
  have hbl : Below B w w' := (Below.refl _ _).grown hg h.big (fun i hi => by cases hi; exact hb)
  exact ⟨h.env.keep hbl, h.disk.grown hg (by simpa using Blk.ne_ h.disk.at_ hn (by decide)), h.bd, Nat.le_trans h.big hbl.size, h.fits, h.fit, h.inv⟩
theorem doCs_eq (wh kd i : Int) (cl su sc : ByteArray) (ge ma us : Int) (re : ByteArray) (de : Bool) (id ti : Int) : doCs ⟨wh, ⟨kd, ⟨i, cl, su, sc, ge, ma, us, re, de⟩, id, ti⟩⟩ = #[.int .i64 wh, .int .i64 kd, .int .i64 i, .string cl, .string su, .string sc, .int .i64 ge, .int .i64 ma, .int .i64 us, .string re, .bool de, .int .i64 id, .int .i64 ti] := rfl
theorem CB.so {W w w' : World} {g off m : Nat} {E : List DoE} {pb nb xb db sb : Nat} {cv : Value} {s s' : St} {v v' : Value} {j : Nat} {D : Dk} {n f x : Int} (h : CB W g off E m pb nb xb db cv s v j w) (hso : SO W.heap.size sb db D n f x s' v' w) (k : Two sb db w w') : CB W g off E m pb nb xb db cv s v j w' :=
  h.two k hso.sd.st hso.sd.disk.at_ hso.sd.bs hso.sd.bd
/-- the store, and one that was opened beside it -/
structure CS (W : World) (g off : Nat) (E : List DoE) (m pb nb xb db : Nat) (cv : Value) (ck nx : Int) (L : List Fam) (a : Option Addr) (c : Nat) (j sb sb2 : Nat) (D : Dk) (n f x : Int) (v v2 : Value) (w : World) : Prop where
  cb : CB W g off E m pb nb xb db cv ⟨ck, nx, L⟩ (.slice a L.length c) j w
  so : SO W.heap.size sb db D n f x ⟨ck, nx, L⟩ v w
  st : SO W.heap.size sb2 db D n f x ⟨ck, nx, L⟩ v2 w
section
variable {W w w' : World} {g off : Nat} {E : List DoE} {m pb nb xb db : Nat} {cv : Value} {ck nx : Int} {L : List Fam} {a : Option Addr} {c j sb sb2 : Nat} {D : Dk} {n f x : Int} {v v2 : Value}
theorem CS.keep (h : CS W g off E m pb nb xb db cv ck nx L a c j sb sb2 D n f x v v2 w) (hb : Below w.heap.size w w') : CS W g off E m pb nb xb db cv ck nx L a c j sb sb2 D n f x v v2 w' := ⟨h.cb.keep hb, h.so.keep hb, h.st.keep hb⟩
theorem CS.drew (h : CS W g off E m pb nb xb db cv ck nx L a c j sb sb2 D n f x v v2 w) : CS W g off E m pb nb xb db cv ck nx L a c j sb sb2 D n f x v v2 w.drew := ⟨h.cb.drew, h.so.drew, h.st.drew⟩
theorem CS.all (h : CS W g off E m pb nb xb db cv ck nx L a c j sb sb2 D n f x v v2 w) : CS W g off E m pb nb xb db cv ck nx L a c j sb sb2 D n f x v v2 w ∧ w.cell? ⟨nb, 0, none⟩ = some (.int .i64 ck) ∧ w.cell? ⟨nb, 1, none⟩ = some (.int .i64 nx) ∧ w.cell? ⟨nb, 2, none⟩ = some (.slice a L.length c) := ⟨h, h.cb.now.cell 0, h.cb.now.cell 1, h.cb.now.cell 2⟩
theorem CS.state1 (h : CS W g off E m pb nb xb db cv ck nx L a c j sb sb2 D n f x v v2 w) : Calls Tryz.prog 14 #[.pointer (some ⟨sb, 0, none⟩)] w (GotAs w ck nx L) :=
  (store_state W.heap.size sb db ⟨ck, nx, L⟩ v n f x false w h.so.sd.st h.so.sd.row (by have := h.so.di.fit.len; omega)).mono fun _ _ h => got_as h
theorem CS.state2 (h : CS W g off E m pb nb xb db cv ck nx L a c j sb sb2 D n f x v v2 w) : Calls Tryz.prog 14 #[.pointer (some ⟨sb2, 0, none⟩)] w (GotAs w ck nx L) :=
  (store_state W.heap.size sb2 db ⟨ck, nx, L⟩ v2 n f x false w h.st.sd.st h.st.sd.row (by have := h.so.di.fit.len; omega)).mono fun _ _ h => got_as h
theorem CS.same (h : CS W g off E m pb nb xb db cv ck nx L a c j sb sb2 D n f x v v2 w) {B' : Nat} {a1 : Option Addr} {c1 : Nat} (hr : FRow w B' (.slice a1 L.length c1) L) : Calls Tryz.prog 15 #[.agg #[.int .i64 ck, .int .i64 nx, .slice a1 L.length c1], .agg #[.int .i64 ck, .int .i64 nx, .slice a L.length c]] w (SameGot w True) :=
  plain_same_ True B' W.heap.size (.slice a1 L.length c1) (.slice a L.length c) ⟨ck, nx, L⟩ ⟨ck, nx, L⟩ w (fun _ => rfl) hr h.cb.row (by have := h.so.di.fit.len; dsimp only at this ⊢; omega)
end
end Go.Proofs.YtdogilbnbbeljaaGreatDoor
