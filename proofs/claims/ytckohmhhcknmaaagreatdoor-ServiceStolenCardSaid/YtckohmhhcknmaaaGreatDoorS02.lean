/-
  ServiceStolen: what is known of a service from outside, as it lies in memory.
-/
import Derived.Test.YtckohmhhcknmaaaGreatDoorG22
import Derived.Test.YtckohmhhcknmaaaGreatDoorS01
import Derived.Test.YtckohmhhcknmaaaGreatDoorG09
import Derived.StillTailTactics
import Derived.Test.YtckohmhhcknmaaaGreatDoorG20
namespace Go.Proofs.YtckohmhhcknmaaaGreatDoor
open Go.RowKit Go.Sort Go.Maps

noncomputable def ikey : KeyOf Tryz.prog 3 Int := intKey Tryz.underlying3
noncomputable def tkey : KeyOf Tryz.prog 9 ByteArray := textKey Tryz.underlying9
theorem FRow.map_ne {w : World} {B : Nat} {v : Value} {L : List Fam} {P : Program} {K : TypeId} {H : Type} {R : Value → Option (DataW H × List MemPlace)} {m n : Nat} {D : DataW H} (h : FRow w B v L) (hm : w.ownsMap P K R m n D) : v.ownBlock ≠ some m := by
  obtain ⟨es, clock, hb, _⟩ := hm
  rcases h.block with ⟨rfl, rfl⟩ | ⟨g', cap, cur, rfl, _, hb', _⟩
  · simp [Value.ownBlock]
  · simp only [Value.ownBlock]
    rintro ⟨rfl⟩
    unfold Blk at hb'
    rw [hb] at hb'
    cases hb'
theorem tokR_zero (T : List UInt8 → List UInt8) (ps : List (List UInt8)) : (tokR T ps).1 = 0 ∨ (tokR T ps).2 = (0, 0, 0, 0) := by
  unfold tokR
  split
  · exact .inr rfl
  · split
    · split
      · exact .inl rfl
      · exact .inr rfl
    · exact .inr rfl
theorem tok_id (r : Ru) (t : ByteArray) : okN (tokId r t) = true := by
  unfold tokId
  rcases tokR_zero (fun B => tagL r.key B) (parts 46 t.data.toList) with h | h
  · obtain ⟨a, b, c, d, e⟩ : ∃ b c d e, tokOf r t = (0, b, c, d, e) := ⟨_, _, _, _, Prod.ext h rfl⟩
    rw [e]
    exact (tokOf_back e).1.2.1
  · have e : (tokOf r t).2 = (0, 0, 0, 0) := h
    rw [e]
    decide
theorem int_key (x : Int) (h : okN x = true) : (Lit.int .i64 x).wf = true := by
  have := okN_iff.1 h
  have e1 : IntKind.i64.min = -9223372036854775808 := by decide
  have e2 : IntKind.i64.max = 9223372036854775807 := by decide
  show (decide (IntKind.i64.min ≤ x) && decide (x ≤ IntKind.i64.max)) = true
  rw [e1, e2, Bool.and_eq_true, decide_eq_true_eq, decide_eq_true_eq]
  omega
/-- a block that is none of a service's -/
structure Far (vb sb db : Nat) (v : Value) (m : Nat) : Prop where
  hv : vb ≠ m
  hs : sb ≠ m
  hd : db ≠ m
  hr : v.ownBlock ≠ some m
section
variable {W w w' : World} {B vb sb db k : Nat} {r : Ru} {z : SS} {v : Value} {m : Nat}
theorem SX.away (h : SX B sb db k z v w) (hg : w.grownBy w' (some m)) (hB : B ≤ m) (h1 : sb ≠ m) (h2 : db ≠ m) (h3 : v.ownBlock ≠ some m) : SX B sb db k z v w' := by
  obtain ⟨D, n, f, x, a1, a2, a3⟩ := h
  have hbl : Below B w w' := (Below.refl _ _).grown hg a1.big (fun i hi => by cases hi; exact hB)
  have env := a1.env.keep hbl
  have dk := a1.disk.grown hg (by simpa using h2)
  exact ⟨D, n, f, x, ⟨env, Blk.grown a1.st hg (by simpa using h1), dk, a1.row.kept hg h3, a1.bs, a1.bd⟩, ⟨env, dk, a1.bd, Nat.le_trans a1.big hbl.size, a2.fits, a2.fit, a2.inv⟩, a3⟩
theorem SW.away (h : SW B vb sb db k r z v w) (hg : w.grownBy w' (some m)) (hB : B ≤ m) (f : Far vb sb db v m) : SW B vb sb db k r z v w' := ⟨h.at_.grown hg (by simpa using f.hv), h.sx.away hg hB f.hs f.hd f.hr, h.right, h.bv⟩
theorem AW.away (h : AW W B vb sb db k r z v w) (hg : w.grownBy w' (some m)) (hB : B ≤ m) (hW : W.heap.size ≤ m) (f : Far vb sb db v m) : AW W B vb sb db k r z v w' :=
  ⟨h.sw.away hg hB f, h.below.grown hg h.below.size (fun i hi => by cases hi; exact hW), h.hv, h.hs, h.hd, h.err, h.eg⟩
theorem SW.far_blk {T : TypeId} {cs : Array Value} (h : SW B vb sb db k r z v w) (hb : Blk w m T cs) (h1 : 97 ≠ T) (h2 : 117 ≠ T) (h3 : 59 ≠ T) (h4 : 79 ≠ T) : Far vb sb db v m := by
  obtain ⟨⟨ca, ha⟩, cb, hc⟩ := h.sx.blocks
  exact ⟨h.at_.ne_ hb h1, ha.ne_ hb h2, hc.ne_ hb h3, h.sx.row.apart hb h4⟩
theorem SW.far_map {P : Program} {K : TypeId} {H : Type} {R : Value → Option (DataW H × List MemPlace)} {n : Nat} {D : DataW H} (h : SW B vb sb db k r z v w) (hb : w.ownsMap P K R m n D) : Far vb sb db v m := by
  obtain ⟨⟨ca, ha⟩, cb, hc⟩ := h.sx.blocks
  exact ⟨(ownsMap_ne hb h.at_).symm, (ownsMap_ne hb ha).symm, (ownsMap_ne hb hc).symm, h.sx.row.map_ne hb⟩
end
/-- what is known, in memory -/
structure HL (W : World) (hb vb sb db k m1 m2 m3 c : Nat) (r : Ru) (z : SS) (v tv : Value) (T : List ByteArray) (K : Kn) (w : World) : Prop where
  aw : AW W W.heap.size vb sb db k r z v w
  blk : Blk w hb 50 #[.pointer (some ⟨vb, 0, none⟩), tv, .map (some m1), .map (some m2), .map (some m3)]
  toks : TRow w W.heap.size tv T
  small : ∀ t ∈ T, t.size ≤ 100
  map1 : MapIB Tryz.prog 3 4 w m1 c K.stolen
  map2 : MapO Tryz.prog ikey 9 w m2 c K.scopes
  map3 : MapO Tryz.prog tkey 9 w m3 c K.taken
  d12 : m1 ≠ m2
  d13 : m1 ≠ m3
  d23 : m2 ≠ m3
  h0 : W.heap.size ≤ hb
  h1 : W.heap.size ≤ m1
  h2 : W.heap.size ≤ m2
  h3 : W.heap.size ≤ m3
  known : KnOk r z.s K
section
variable {W w w' : World} {hb vb sb db k m1 m2 m3 c : Nat} {r : Ru} {z : SS} {v tv : Value} {T : List ByteArray} {K : Kn}
theorem HL.keep (h : HL W hb vb sb db k m1 m2 m3 c r z v tv T K w) (b : Below w.heap.size w w') : HL W hb vb sb db k m1 m2 m3 c r z v tv T K w' :=
  ⟨h.aw.keep b, h.blk.below' b, h.toks.below b, h.small, h.map1.below b, h.map2.below b, h.map3.below b, h.d12, h.d13, h.d23, h.h0, h.h1, h.h2, h.h3, h.known⟩
theorem HL.drew (h : HL W hb vb sb db k m1 m2 m3 c r z v tv T K w) : HL W hb vb sb db k m1 m2 m3 c r z v tv T K w.drew := h.keep (below_dr (Below.refl _ _))
theorem HL.five (h : HL W hb vb sb db k m1 m2 m3 c r z v tv T K w) : w.cell? ⟨hb, 0, none⟩ = some (.pointer (some ⟨vb, 0, none⟩)) ∧ w.cell? ⟨hb, 1, none⟩ = some tv ∧ w.cell? ⟨hb, 2, none⟩ = some (.map (some m1)) ∧ w.cell? ⟨hb, 3, none⟩ = some (.map (some m2)) ∧ w.cell? ⟨hb, 4, none⟩ = some (.map (some m3)) :=
  ⟨h.blk.cell 0, h.blk.cell 1, h.blk.cell 2, h.blk.cell 3, h.blk.cell 4⟩
/-- the service has turned -/
theorem HL.two {k' : Nat} {z' : SS} {v' : Value} (h : HL W hb vb sb db k m1 m2 m3 c r z v tv T K w) (ht : Two sb db w w') (hs : SW W.heap.size vb sb db k' r z' v' w') (hk : KnOk r z'.s K) : HL W hb vb sb db k' m1 m2 m3 c r z' v' tv T K w' := by
  obtain ⟨⟨ca, ha⟩, cb, hc⟩ := h.aw.sw.sx.blocks
  exact ⟨h.aw.two ht hs, h.blk.two ht (h.blk.ne_ ha (by decide)) (h.blk.ne_ hc (by decide)), h.toks.two ht (h.toks.apart ha (by decide)) (h.toks.apart hc (by decide)), h.small,
    h.map1.two ht (h.map1.ne ha) (h.map1.ne hc), h.map2.two ht (h.map2.ne ha) (h.map2.ne hc), h.map3.two ht (h.map3.ne ha) (h.map3.ne hc), h.d12, h.d13, h.d23, h.h0, h.h1, h.h2, h.h3, hk⟩
/-- the first map has turned -/
theorem HL.put1 {K' : Kn} (h : HL W hb vb sb db k m1 m2 m3 c r z v tv T K w) (hg : w.grownBy w' (some m1)) (hm : MapIB Tryz.prog 3 4 w' m1 (c + 1) K'.stolen) (e2 : K'.scopes = K.scopes) (e3 : K'.taken = K.taken) (hk : KnOk r z.s K') : HL W hb vb sb db k m1 m2 m3 (c + 1) r z v tv T K' w' := by
  have f : Far vb sb db v m1 := by obtain ⟨D, a, _⟩ := h.map1; exact h.aw.sw.far_map a
  exact ⟨h.aw.away hg h.h1 h.h1 f, h.blk.grown hg (by simpa using (h.map1.ne h.blk).symm), h.toks.kept hg (h.map1.row_ne h.toks), h.small, hm, by rw [e2]; exact (h.map2.kept hg (by simpa using h.d12.symm)).mono (Nat.le_succ _), by rw [e3]; exact (h.map3.kept hg (by simpa using h.d13.symm)).mono (Nat.le_succ _), h.d12, h.d13, h.d23, h.h0, h.h1, h.h2, h.h3, hk⟩
theorem HL.put2 {K' : Kn} (h : HL W hb vb sb db k m1 m2 m3 c r z v tv T K w) (hg : w.grownBy w' (some m2)) (hm : MapO Tryz.prog ikey 9 w' m2 (c + 1) K'.scopes) (e2 : K'.stolen = K.stolen) (e3 : K'.taken = K.taken) (hk : KnOk r z.s K') : HL W hb vb sb db k m1 m2 m3 (c + 1) r z v tv T K' w' := by
  have f : Far vb sb db v m2 := by obtain ⟨D, a, _⟩ := h.map2; exact h.aw.sw.far_map a
  exact ⟨h.aw.away hg h.h2 h.h2 f, h.blk.grown hg (by simpa using (h.map2.ne h.blk).symm), h.toks.kept hg (h.map2.row_ne h.toks), h.small, by rw [e2]; exact (h.map1.kept hg (by simpa using h.d12)).mono (Nat.le_succ _), hm, by rw [e3]; exact (h.map3.kept hg (by simpa using h.d23.symm)).mono (Nat.le_succ _), h.d12, h.d13, h.d23, h.h0, h.h1, h.h2, h.h3, hk⟩
theorem HL.put3 {K' : Kn} (h : HL W hb vb sb db k m1 m2 m3 c r z v tv T K w) (hg : w.grownBy w' (some m3)) (hm : MapO Tryz.prog tkey 9 w' m3 (c + 1) K'.taken) (e2 : K'.stolen = K.stolen) (e3 : K'.scopes = K.scopes) (hk : KnOk r z.s K') : HL W hb vb sb db k m1 m2 m3 (c + 1) r z v tv T K' w' := by
  have f : Far vb sb db v m3 := by obtain ⟨D, a, _⟩ := h.map3; exact h.aw.sw.far_map a
  exact ⟨h.aw.away hg h.h3 h.h3 f, h.blk.grown hg (by simpa using (h.map3.ne h.blk).symm), h.toks.kept hg (h.map3.row_ne h.toks), h.small, by rw [e2]; exact (h.map1.kept hg (by simpa using h.d13)).mono (Nat.le_succ _), by rw [e3]; exact (h.map2.kept hg (by simpa using h.d23)).mono (Nat.le_succ _), hm, h.d12, h.d13, h.d23, h.h0, h.h1, h.h2, h.h3, hk⟩
/-- a block of the call's own has turned -/
theorem HL.aside {m : Nat} {t : TypeId} {cs : Array Value} (h : HL W hb vb sb db k m1 m2 m3 c r z v tv T K w) (hg : w.grownBy w' (some m)) (hm : Blk w m t cs) (hW : W.heap.size ≤ m) (e1 : 97 ≠ t) (e2 : 117 ≠ t) (e3 : 59 ≠ t) (e4 : 79 ≠ t) (e5 : 50 ≠ t) (e6 : 9 ≠ t) : HL W hb vb sb db k m1 m2 m3 c r z v tv T K w' :=
  ⟨h.aw.away hg hW hW (h.aw.sw.far_blk hm e1 e2 e3 e4), h.blk.grown hg (by simpa using h.blk.ne_ hm e5), h.toks.kept hg (h.toks.apart hm e6), h.small,
    h.map1.kept hg (by simpa using h.map1.ne hm), h.map2.kept hg (by simpa using h.map2.ne hm), h.map3.kept hg (by simpa using h.map3.ne hm), h.d12, h.d13, h.d23, h.h0, h.h1, h.h2, h.h3, h.known⟩
theorem four_turns {g : Nat} {t : TypeId} {a b c d : Value} (h : Blk w g t #[a, b, c, d]) (a' b' c' d' : Value) : ∃ w', w' = (((w.setCell ⟨g, 0, none⟩ a').setCell ⟨g, 1, none⟩ b').setCell ⟨g, 2, none⟩ c').setCell ⟨g, 3, none⟩ d' ∧ w.grownBy w' (some g) ∧ Blk w' g t #[a', b', c', d'] := by
  have e0 := h.put_ 0 a' (cs' := #[a', b, c, d]) rfl
  have e1 := e0.put_ 1 b' (cs' := #[a', b', c, d]) rfl
  have e2 := e1.put_ 2 c' (cs' := #[a', b', c', d]) rfl
  have e3 := e2.put_ 3 d' (cs' := #[a', b', c', d']) rfl
  have g0 := only_set1 w g ⟨g, 0, none⟩ rfl a'
  have g1 := only_setCell g0 (p := ⟨g, 1, none⟩) (.inl rfl) b'
  have g2 := only_setCell g1 (p := ⟨g, 2, none⟩) (.inl rfl) c'
  have g3 := only_setCell g2 (p := ⟨g, 3, none⟩) (.inl rfl) d'
  exact ⟨_, rfl, g3, e3⟩
/-- a text is given -/
theorem HL.given {tv' : Value} {x : ByteArray} (h : HL W hb vb sb db k m1 m2 m3 c r z v tv T K w) (hg : w.grownBy w' tv.ownBlock) (ho : w'.ownsRow W.heap.size 9 1 tv' (T.length + 1) (T.map Value.string ++ [.string x])) (hx : x.size ≤ 100) :
    HL W hb vb sb db k m1 m2 m3 c r z v tv' (T ++ [x]) K (w'.setCell ⟨hb, 1, none⟩ tv') := by
  have hro : TRow w' W.heap.size tv' (T ++ [x]) := TRow.app ho
  have hne : some hb ≠ tv.ownBlock := (h.toks.apart h.blk (by decide)).symm
  have hblk := h.blk.grown hg hne
  have aw1 : AW W W.heap.size vb sb db k r z v w' ∧ MapIB Tryz.prog 3 4 w' m1 c K.stolen ∧ MapO Tryz.prog ikey 9 w' m2 c K.scopes ∧ MapO Tryz.prog tkey 9 w' m3 c K.taken := by
    rcases hv : tv.ownBlock with _ | g
    · rw [hv] at hg
      have hbl : Below w.heap.size w w' := (Below.refl w.heap.size w).grown hg (Nat.le_refl _) (fun i hi => by cases hi)
      exact ⟨h.aw.keep hbl, h.map1.below hbl, h.map2.below hbl, h.map3.below hbl⟩
    · rcases h.toks.block with ⟨rfl, _⟩ | ⟨g', cap, cur, rfl, hgB, hgb, _⟩
      · simp [Value.ownBlock] at hv
      · have hm1 := h.map1.row_ne h.toks
        have hm2 := h.map2.row_ne h.toks
        have hm3 := h.map3.row_ne h.toks
        rw [hv] at hg hm1 hm2 hm3
        have hgg : g' = g := by simpa [Value.ownBlock] using hv
        subst hgg
        exact ⟨h.aw.away hg hgB hgB (h.aw.sw.far_blk hgb (by decide) (by decide) (by decide) (by decide)), h.map1.kept hg hm1.symm, h.map2.kept hg hm2.symm, h.map3.kept hg hm3.symm⟩
  obtain ⟨aw1, p1, p2, p3⟩ := aw1
  have hs : w'.grownBy (w'.setCell ⟨hb, 1, none⟩ tv') (some hb) := only_set1 w' hb ⟨hb, 1, none⟩ rfl tv'
  exact ⟨aw1.away hs h.h0 h.h0 (aw1.sw.far_blk hblk (by decide) (by decide) (by decide) (by decide)), hblk.put_ 1 tv' rfl, hro.kept hs (hro.apart hblk (by decide)), fun t ht => by
      rcases List.mem_append.1 ht with ht | ht
      · exact h.small t ht
      · rw [List.mem_singleton] at ht
        rw [ht]
        exact hx,
    p1.kept hs (by simpa using p1.ne hblk), p2.kept hs (by simpa using p2.ne hblk), p3.kept hs (by simpa using p3.ne hblk), h.d12, h.d13, h.d23, h.h0, h.h1, h.h2, h.h3, h.known⟩
/-- the service's calls -/
theorem HL.rotate (h : HL W hb vb sb db k m1 m2 m3 c r z v tv T K w) (hk : k < 1000000) (t q sc : ByteArray) (h1 : t.size ≤ 1000) (h2 : q.size ≤ 1000) (h3 : sc.size ≤ 1000) :
    Calls Tryz.prog 11 #[.pointer (some ⟨vb, 0, none⟩), .string t, .string q, .string sc] w fun e w' => ∃ (z' : SS) (got : ByteArray) (code : Int), Turned r z K t q (z', got, code) ∧ e = .returned (.tuple #[.string got, errV code]) ∧ (∃ v', HL W hb vb sb db (k + 1) m1 m2 m3 c r z' v' tv T K w') ∧ Rest w w' :=
  (svc_rotate h.aw.sw hk t q sc h1 h2 h3).mono fun _ _ ⟨he, ht, v', hs⟩ => ⟨_, _, _, rotate_law h.known h.aw.sw.sx.fit t q sc, he, ⟨v', h.two ht hs (h.known.step (rotate_law h.known h.aw.sw.sx.fit t q sc).step)⟩, h.aw.sw.rest ht⟩
theorem HL.grant (h : HL W hb vb sb db k m1 m2 m3 c r z v tv T K w) (hk : k < 1000000) (cl su sc : ByteArray) (h1 : cl.size ≤ 1000) (h2 : su.size ≤ 1000) (h3 : sc.size ≤ 1000) :
    Calls Tryz.prog 9 #[.pointer (some ⟨vb, 0, none⟩), .string cl, .string su, .string sc] w fun e w' => ∃ (z' : SS) (got : ByteArray) (code : Int), got.size ≤ 100 ∧ e = .returned (.tuple #[.string got, errV code]) ∧ (∃ v', HL W hb vb sb db (k + 1) m1 m2 m3 c r z' v' tv T K w') ∧ Rest w w' :=
  (svc_grant h.aw.sw hk cl su sc h1 h2 h3).mono fun _ _ ⟨he, ht, v', hs⟩ => ⟨_, _, _, (grant_law h.aw.sw.sx.fit cl su sc).2, he, ⟨v', h.two ht hs (h.known.step (grant_law h.aw.sw.sx.fit cl su sc).1)⟩, h.aw.sw.rest ht⟩
theorem HL.kill (h : HL W hb vb sb db k m1 m2 m3 c r z v tv T K w) (hk : k < 1000000) (id : Int) :
    Calls Tryz.prog 29 #[.pointer (some ⟨vb, 0, none⟩), .int .i64 id] w fun e w' => ∃ (z' : SS) (code : Int), e = .returned (errV code) ∧ (∃ v', HL W hb vb sb db (k + 1) m1 m2 m3 c r z' v' tv T K w') ∧ Rest w w' :=
  (svc_kill h.aw.sw hk id).mono fun _ _ ⟨he, ht, v', hs⟩ => ⟨_, _, he, ⟨v', h.two ht hs (h.known.step (kill_law h.aw.sw.sx.fit id))⟩, h.aw.sw.rest ht⟩
theorem HL.tick (h : HL W hb vb sb db k m1 m2 m3 c r z v tv T K w) (hk : k < 1000000) (n : Int) :
    Calls Tryz.prog 10 #[.pointer (some ⟨vb, 0, none⟩), .int .i64 n] w fun e w' => ∃ (z' : SS) (code : Int), e = .returned (errV code) ∧ (∃ v', HL W hb vb sb db (k + 1) m1 m2 m3 c r z' v' tv T K w') ∧ Rest w w' :=
  (svc_tick h.aw.sw hk n).mono fun _ _ ⟨he, ht, v', hs⟩ => ⟨_, _, he, ⟨v', h.two ht hs (h.known.step (tick_law h.aw.sw.sx.fit n))⟩, h.aw.sw.rest ht⟩
theorem HL.sweep (h : HL W hb vb sb db k m1 m2 m3 c r z v tv T K w) (hk : k < 1000000) :
    Calls Tryz.prog 32 #[.pointer (some ⟨vb, 0, none⟩)] w fun e w' => ∃ (z' : SS) (x code : Int), e = .returned (.tuple #[.int .i64 x, errV code]) ∧ (∃ v', HL W hb vb sb db (k + 1) m1 m2 m3 c r z' v' tv T K w') ∧ Rest w w' :=
  (svc_sweep h.aw.sw hk).mono fun _ _ ⟨he, ht, v', hs⟩ => ⟨_, _, _, he, ⟨v', h.two ht hs (h.known.step (sweep_law h.aw.sw.sx.fit))⟩, h.aw.sw.rest ht⟩
theorem Rest.below (hb : Below w.heap.size w w') : Rest w w' := ⟨fun _ _ _ h => h.below hb, fun _ _ _ h _ _ => h.below' hb⟩
theorem HL.mint (h : HL W hb vb sb db k m1 m2 m3 c r z v tv T K w) (t : ByteArray) (h1 : t.size ≤ 1000) :
    Calls Tryz.prog 25 #[.pointer (some ⟨vb, 0, none⟩), .string t] w fun e w' => ∃ (got : ByteArray) (code : Int), got.size ≤ 100 ∧ (code = 0 → K.stolen (tokId r t) = false) ∧ e = .returned (.tuple #[.string got, errV code]) ∧ HL W hb vb sb db k m1 m2 m3 c r z v tv T K w' ∧ Rest w w' :=
  (svc_mint h.aw.sw t h1).mono fun _ _ ⟨he, b⟩ => ⟨_, _, (mint_law h.known h.aw.sw.sx.fit h.aw.sw.right t).1, (mint_law h.known h.aw.sw.sx.fit h.aw.sw.right t).2, he, h.keep b, Rest.below b⟩
theorem HL.show (h : HL W hb vb sb db k m1 m2 m3 c r z v tv T K w) (t : ByteArray) (h1 : t.size ≤ 1000) :
    Calls Tryz.prog 27 #[.pointer (some ⟨vb, 0, none⟩), .string t] w fun e w' => ∃ (f : Fam) (code : Int), (code = 0 → K.stolen (tokId r t) = false) ∧ e = .returned (.tuple #[famVal f, errV code]) ∧ HL W hb vb sb db k m1 m2 m3 c r z v tv T K w' ∧ Rest w w' :=
  (svc_show h.aw.sw t h1).mono fun _ _ ⟨he, b⟩ => ⟨_, _, show_law h.known t, he, h.keep b, Rest.below b⟩
theorem HL.state (h : HL W hb vb sb db k m1 m2 m3 c r z v tv T K w) : Calls Tryz.prog 14 #[.pointer (some ⟨vb, 0, none⟩)] w (GotAs w z.s.clock z.s.next z.s.fams) := h.aw.state
end
end Go.Proofs.YtckohmhhcknmaaaGreatDoor

/-
  ServiceStolen: narrows: scopes only narrow; numbers are never given twice.
-/
namespace Go.Proofs.YtckohmhhcknmaaaGreatDoor
open Go.RowKit Go.Sort Go.Maps

/-- a state taken, and what is known -/
structure NarAt (W : World) (hb vb sb db k m1 m2 m3 c : Nat) (r : Ru) (z : SS) (v tv : Value) (T : List ByteArray) (K : Kn) (a : Option Addr) (ac B cb : Nat) (w : World) : Prop where
  hl : HL W hb vb sb db k m1 m2 m3 c r z v tv T K w
  st : Blk w cb 39 #[.int .i64 z.s.clock, .int .i64 z.s.next, .slice a z.s.fams.length ac]
  row : FRow w B (.slice a z.s.fams.length ac) z.s.fams
section
variable {W w w' : World} {hb vb sb db k m1 m2 m3 c : Nat} {r : Ru} {z : SS} {v tv : Value} {T : List ByteArray} {K : Kn} {a : Option Addr} {ac B cb : Nat}
theorem NarAt.keep (h : NarAt W hb vb sb db k m1 m2 m3 c r z v tv T K a ac B cb w) (b : Below w.heap.size w w') : NarAt W hb vb sb db k m1 m2 m3 c r z v tv T K a ac B cb w' := ⟨h.hl.keep b, h.st.below' b, h.row.below b⟩
theorem NarAt.put {K' : Kn} (h : NarAt W hb vb sb db k m1 m2 m3 c r z v tv T K a ac B cb w) (hg : w.grownBy w' (some m2)) (hm : MapO Tryz.prog ikey 9 w' m2 (c + 1) K'.scopes) (e2 : K'.stolen = K.stolen) (e3 : K'.taken = K.taken) (hk : KnOk r z.s K') : NarAt W hb vb sb db k m1 m2 m3 (c + 1) r z v tv T K' a ac B cb w' := by
  have hne : (Value.slice a z.s.fams.length ac).ownBlock ≠ some m2 := by obtain ⟨D, x, _⟩ := h.hl.map2; exact h.row.map_ne x
  exact ⟨h.hl.put2 hg hm e2 e3 hk, h.st.grown hg (by simpa using (h.hl.map2.ne h.st).symm), h.row.kept hg hne⟩
end
def NarRel (W : World) (hb vb sb db k m1 m2 m3 c : Nat) (r : Ru) (z : SS) (v tv : Value) (T : List ByteArray) (a : Option Addr) (ac B cb : Nat) (i : Value) (w : World) : Prop := ∃ (j c' : Nat) (K : Kn), j ≤ z.s.fams.length ∧ i = .int .i64 j ∧ c' ≤ c + j ∧ NarAt W hb vb sb db k m1 m2 m3 c' r z v tv T K a ac B cb w
theorem asc_lt {L : List Fam} (h : Asc L) : ∀ {i j : Nat} {f g : Fam}, L[i]? = some f → L[j]? = some g → i < j → f.id < g.id := by
  intro i j f g hi hj hij
  obtain ⟨h1, rfl⟩ := List.getElem?_eq_some_iff.1 hi
  obtain ⟨h2, rfl⟩ := List.getElem?_eq_some_iff.1 hj
  exact List.pairwise_iff_getElem.1 h i j h1 h2 hij
/-- what narrows comes to -/
def NarGot (W : World) (hb vb sb db k m1 m2 m3 c : Nat) (r : Ru) (z : SS) (v tv : Value) (T : List ByteArray) (e : Ending) (w' : World) : Prop := e = .returned (.bool true) ∧ ∃ c' K, c' ≤ c + 20 ∧ HL W hb vb sb db k m1 m2 m3 c' r z v tv T K w'
section
variable {W w : World} {hb vb sb db k m1 m2 m3 c : Nat} {r : Ru} {z : SS} {v tv : Value} {T : List ByteArray} {K : Kn}
set_option maxHeartbeats 4000000 in
set_option maxRecDepth 100000 in
theorem narrows_yes (h : HL W hb vb sb db k m1 m2 m3 c r z v tv T K w) (hc : c ≤ 1000000) :
    Calls Tryz.prog 51 #[.pointer (some ⟨hb, 0, none⟩)] w (NarGot W hb vb sb db k m1 m2 m3 c r z v tv T) := by
  have hfit := h.aw.sw.sx.fit
  have hlen := hfit.len
  have hmaxl := h.aw.sw.sx.env.maxl
  have HST := Lib.hid (fun w (h : HL W hb vb sb db k m1 m2 m3 c r z v tv T K w) => h.state)
  unfold GotAs at HST
  obtain ⟨c0, c1, c2, c3, c4⟩ := h.five
  have H := Lib.hid h
  clear h hmaxl
  go_enter Tryz.func51, Tryz.ntmps51
  go_wp2_with fail
  go_at_call 14
  refine (HST.out _ H.out).mono ?_
  rintro e w1 ⟨a, ac, rfl, hr, hb1⟩
  have hal := (Below.refl w1.heap.size w1).alloc (Nat.le_refl _) (.cells #[.int .i64 z.s.clock, .int .i64 z.s.next, .slice a z.s.fams.length ac] 39)
  have HN0 := Lib.hid (show NarAt W hb vb sb db k m1 m2 m3 c r z v tv T K a ac w.heap.size w1.heap.size (w1.alloc (.cells #[.int .i64 z.s.clock, .int .i64 z.s.next, .slice a z.s.fams.length ac] 39)) from ⟨(H.out.keep hb1).keep hal, Blk.new w1 _ _, hr.below hal⟩)
  clear hr hb1 hal H HST c0 c1 c2 c3 c4
  go_wp2_with fail
  generalize w1.alloc (.cells #[.int .i64 z.s.clock, .int .i64 z.s.next, .slice a z.s.fams.length ac] 39) = w2 at *
  generalize w1.heap.size = cb at *
  generalize w.heap.size = B at *
  go_loopw [4] (fun i wr => NarRel W hb vb sb db k m1 m2 m3 c r z v tv T a ac B cb i wr) (fun i _ => z.s.fams.length - (intOf i).toNat)
  case atStart => exact ⟨0, c, K, Nat.zero_le _, rfl, Nat.le_refl _, HN0.out⟩
  case round =>
    obtain ⟨j, c', K1, hj, rfl, hcc, hn⟩ := hrel
    have HN := Lib.hid hn
    clear hn HN0
    by_cases hlt : j < z.s.fams.length
    · obtain ⟨g, rfl, _, ra⟩ := HN.out.row.lit hlt
      obtain ⟨f, hf⟩ : ∃ f, z.s.fams[j]? = some f := ⟨_, List.getElem?_eq_getElem hlt⟩
      have hm := List.mem_of_getElem? hf
      have hpt := famB_parts (hfit.fams f hm)
      have hab := hfit.above f hm
      have hkey := int_key f.id hpt.1
      have hsl : f.scope.size ≤ 45 := by
        have := scopeB_len hpt.2.2.2.2.2.2.2
        rwa [size_data] at this
      have hnar := fun q (hq : K1.scopes f.id = some q) => HN.out.hl.known.narrow hm hq
      have HSEEN := Lib.hid (HN.out.hl.known.seen hfit hm)
      have HF := Lib.hid hf
      obtain ⟨i, cl, su, scp, ge, ma, us, re, de⟩ := f
      obtain ⟨e0, e1, e2, e3, e4, e5, e6, e7, e8⟩ := ra.nine hf
      obtain ⟨s0, s1, s2⟩ : wr.cell? ⟨cb, 0, none⟩ = some (.int .i64 z.s.clock) ∧ wr.cell? ⟨cb, 1, none⟩ = some (.int .i64 z.s.next) ∧ wr.cell? ⟨cb, 2, none⟩ = some (.slice (some ⟨g, 0, none⟩) z.s.fams.length ac) := ⟨HN.out.st.cell 0, HN.out.st.cell 1, HN.out.st.cell 2⟩
      dsimp only at hab hkey hsl hnar HSEEN
      have h0 : (0 : Int) ≤ (j : Int) := by omega
      have h1 : (j : Int) < (z.s.fams.length : Int) := by omega
      have HX := Lib.hid hnar
      clear hf hm hpt ra hnar
      go_wp2_with fail
      have hal := (Below.refl wr.heap.size wr).alloc (Nat.le_refl _) (.cells #[.int .i64 i, .string cl, .string su, .string scp, .int .i64 ge, .int .i64 ma, .int .i64 us, .string re, .bool de] 79)
      have HG2 := Lib.hid (Blk.new wr 79 #[.int .i64 i, .string cl, .string su, .string scp, .int .i64 ge, .int .i64 ma, .int .i64 us, .string re, .bool de])
      have HN2 := Lib.hid (HN.out.keep hal)
      clear hal HN e0 e1 e2 e3 e4 e5 e6 e7 e8 s0 s1 s2
      generalize wr.alloc (.cells #[.int .i64 i, .string cl, .string su, .string scp, .int .i64 ge, .int .i64 ma, .int .i64 us, .string re, .bool de] 79) = w2 at *
      generalize wr.heap.size = fb at *
      obtain ⟨d0, d1, d2, d3, d4, d5, d6, d7, d8⟩ := fam_cells HG2.out
      obtain ⟨c0, c1, c2, c3, c4⟩ := HN2.out.hl.five
      obtain ⟨s0, s1, s2⟩ : w2.cell? ⟨cb, 0, none⟩ = some (.int .i64 z.s.clock) ∧ w2.cell? ⟨cb, 1, none⟩ = some (.int .i64 z.s.next) ∧ w2.cell? ⟨cb, 2, none⟩ = some (.slice (some ⟨g, 0, none⟩) z.s.fams.length ac) := ⟨HN2.out.st.cell 0, HN2.out.st.cell 1, HN2.out.st.cell 2⟩
      have hlk : ∀ n, (Instr.lookup 46 (.map (some m2)) (.int .i64 i) true).run Tryz.prog (w2.drewN n) = .ok (.tuple #[.string ((K1.scopes i).getD ByteArray.empty), .bool (K1.scopes i).isSome]) (w2.drewN n) := fun n =>
        (show MapO Tryz.prog ikey 9 (w2.drewN n) m2 c' K1.scopes from HN2.out.hl.map2).look Tryz.underlying46 Tryz.underlying9 (by rfl) i hkey
      rcases hq : K1.scopes i with _ | q
      · rw [hq] at hlk
        simp only [Option.getD_none, Option.isSome_none] at hlk
        go_quiet (fail)
        have hbd : Below w2.heap.size w2 (w2.drewN nq).drew := below_dr (below_drewN (Below.refl w2.heap.size w2) nq)
        have HN3 := Lib.hid (HN2.out.keep hbd)
        have HG3 := Lib.hid (HG2.out.below' hbd)
        clear hbd HN2 HG2 hlk c0 c1 c2 c3 c4 d0 d1 d2 d3 d4 d5 d6 d7 d8 s0 s1 s2 HX hq
        go_wp2_with fail
        generalize w2.drewN nq = wq at *
        obtain ⟨c0, c1, c2, c3, c4⟩ := HN3.out.hl.five
        obtain ⟨d0, d1, d2, d3, d4, d5, d6, d7, d8⟩ := fam_cells HG3.out
        obtain ⟨w4, hput, hmap, hgm⟩ := HN3.out.hl.map2.put (T := 46) Tryz.underlying46 Tryz.underlying9 (by unfold maxLen; omega) i hkey scp (by unfold maxLen; omega) (K1.seen i scp).scopes (by simp [Kn.seen]) (fun y hy => by simp [Kn.seen, hy])
        have HP := Lib.hid hput
        have HN4 := Lib.hid (HN3.out.put (K' := K1.seen i scp) hgm hmap rfl rfl HSEEN.out)
        have HG4 := Lib.hid (HG3.out.grown hgm (by simpa using (HN3.out.hl.map2.ne HG3.out).symm))
        have hput' : (Instr.mapUpdate 46 (.map (some m2)) (.int .i64 i) (.string scp)).run Tryz.prog wq.drew = .ok () w4 := HP.out
        clear hput hmap hgm HN3 HG3
        go_still_tail 8, (by kernel_rfl)
        change wpList _ _ _ _ _ wq.drew
        go_wp2_with fail
        clear hput' HP c0 c1 c2 c3 c4 d0 d1 d2 d3 d4 d5 d6 d7 d8
        obtain ⟨d0, d1, d2, d3, d4, d5, d6, d7, d8⟩ := fam_cells HG4.out
        obtain ⟨s0, s1, s2⟩ : w4.cell? ⟨cb, 0, none⟩ = some (.int .i64 z.s.clock) ∧ w4.cell? ⟨cb, 1, none⟩ = some (.int .i64 z.s.next) ∧ w4.cell? ⟨cb, 2, none⟩ = some (.slice (some ⟨g, 0, none⟩) z.s.fams.length ac) := ⟨HN4.out.st.cell 0, HN4.out.st.cell 1, HN4.out.st.cell 2⟩
        have hge : decide (z.s.next ≤ i) = false := decide_eq_false (by omega)
        rcases j with _ | j
        · have hj0 : decide ((0 : Int) < ((0 : Nat) : Int)) = false := by decide
          go_quiet (fail)
          go_wp2_with fail
          go_roundw
          case rel => exact ⟨1, c' + 1, K1.seen i scp, by omega, by go_num, by omega, HN4.out.keep (below_drewN (Below.refl w4.heap.size w4) nq)⟩
          case measure => simp [intOf]; omega
        · have hj0 : decide ((0 : Int) < ((j + 1 : Nat) : Int)) = true := decide_eq_true (by omega)
          obtain ⟨pf, hpf⟩ : ∃ f, z.s.fams[j]? = some f := ⟨_, List.getElem?_eq_getElem (by omega)⟩
          have hlt2 : pf.id < i := asc_lt hfit.asc hpf HF.out (Nat.lt_succ_self j)
          have hge2 : decide (i ≤ pf.id) = false := decide_eq_false (by omega)
          obtain ⟨_, hgg, _, ra⟩ := HN4.out.row.lit (k := j) (by omega)
          obtain ⟨rfl⟩ : g = _ := by simpa using hgg
          obtain ⟨pi, pcl, psu, pscp, pge, pma, pus, pre, pde⟩ := pf
          obtain ⟨e0, e1, e2, e3, e4, e5, e6, e7, e8⟩ := ra.nine hpf
          dsimp only at hlt2 hge2
          have h2 : ((j + 1 : Nat) : Int) - 1 = (j : Int) := by omega
          have h3 : (0 : Int) ≤ (j : Int) := by omega
          have h4 : (j : Int) < (z.s.fams.length : Int) := by omega
          clear hgg ra hpf
          go_quiet (fail)
          go_wp2_with fail
          go_roundw
          case rel => exact ⟨j + 1 + 1, c' + 1, K1.seen i scp, by omega, by go_num, by omega, HN4.out.keep (below_drewN (Below.refl w4.heap.size w4) nq)⟩
          case measure => simp [intOf]; omega
      · rw [hq] at hlk
        simp only [Option.getD_some, Option.isSome_some] at hlk
        obtain ⟨hx1, hx2⟩ := HX.out q hq
        have HWI := Lib.hid (fun w hm => scope_within scp q w (by omega) hx2 hm)
        rw [hx1, withB_n hx1] at HWI
        go_quiet (fail)
        have hbd : Below w2.heap.size w2 (w2.drewN nq) := below_drewN (Below.refl w2.heap.size w2) nq
        have HN3' := Lib.hid (HN2.out.keep hbd)
        have HG3' := Lib.hid (HG2.out.below' hbd)
        clear hbd HN2 HG2 hlk c0 c1 c2 c3 c4 d0 d1 d2 d3 d4 d5 d6 d7 d8 s0 s1 s2 HX hq hx1
        generalize w2.drewN nq = w3 at *
        obtain ⟨d0, d1, d2, d3, d4, d5, d6, d7, d8⟩ := fam_cells HG3'.out
        go_wp2_with fail
        go_at_call 45
        refine (HWI.out _ HN3'.out.hl.aw.sw.sx.env.maxl).mono ?_
        rintro e wq ⟨rfl, hb2⟩
        have hbd : Below w3.heap.size w3 wq.drew := below_dr hb2
        have HN3 := Lib.hid (HN3'.out.keep hbd)
        have HG3 := Lib.hid (HG3'.out.below' hbd)
        have e0 : errV 0 = .nilIface := errV_0
        rw [e0]
        clear hbd hb2 HN3' HG3' d0 d1 d2 d3 d4 d5 d6 d7 d8 e0 HWI
        go_wp2_with fail
        obtain ⟨c0, c1, c2, c3, c4⟩ := HN3.out.hl.five
        obtain ⟨d0, d1, d2, d3, d4, d5, d6, d7, d8⟩ := fam_cells HG3.out
        obtain ⟨w4, hput, hmap, hgm⟩ := HN3.out.hl.map2.put (T := 46) Tryz.underlying46 Tryz.underlying9 (by unfold maxLen; omega) i hkey scp (by unfold maxLen; omega) (K1.seen i scp).scopes (by simp [Kn.seen]) (fun y hy => by simp [Kn.seen, hy])
        have HP := Lib.hid hput
        have HN4 := Lib.hid (HN3.out.put (K' := K1.seen i scp) hgm hmap rfl rfl HSEEN.out)
        have HG4 := Lib.hid (HG3.out.grown hgm (by simpa using (HN3.out.hl.map2.ne HG3.out).symm))
        have hput' : (Instr.mapUpdate 46 (.map (some m2)) (.int .i64 i) (.string scp)).run Tryz.prog wq.drew = .ok () w4 := HP.out
        clear hput hmap hgm HN3 HG3
        go_still_tail 8, (by kernel_rfl)
        change wpList _ _ _ _ _ wq.drew
        go_wp2_with fail
        clear hput' HP c0 c1 c2 c3 c4 d0 d1 d2 d3 d4 d5 d6 d7 d8
        obtain ⟨d0, d1, d2, d3, d4, d5, d6, d7, d8⟩ := fam_cells HG4.out
        obtain ⟨s0, s1, s2⟩ : w4.cell? ⟨cb, 0, none⟩ = some (.int .i64 z.s.clock) ∧ w4.cell? ⟨cb, 1, none⟩ = some (.int .i64 z.s.next) ∧ w4.cell? ⟨cb, 2, none⟩ = some (.slice (some ⟨g, 0, none⟩) z.s.fams.length ac) := ⟨HN4.out.st.cell 0, HN4.out.st.cell 1, HN4.out.st.cell 2⟩
        have hge : decide (z.s.next ≤ i) = false := decide_eq_false (by omega)
        rcases j with _ | j
        · have hj0 : decide ((0 : Int) < ((0 : Nat) : Int)) = false := by decide
          go_quiet (fail)
          go_wp2_with fail
          go_roundw
          case rel => exact ⟨1, c' + 1, K1.seen i scp, by omega, by go_num, by omega, HN4.out.keep (below_drewN (Below.refl w4.heap.size w4) nq)⟩
          case measure => simp [intOf]; omega
        · have hj0 : decide ((0 : Int) < ((j + 1 : Nat) : Int)) = true := decide_eq_true (by omega)
          obtain ⟨pf, hpf⟩ : ∃ f, z.s.fams[j]? = some f := ⟨_, List.getElem?_eq_getElem (by omega)⟩
          have hlt2 : pf.id < i := asc_lt hfit.asc hpf HF.out (Nat.lt_succ_self j)
          have hge2 : decide (i ≤ pf.id) = false := decide_eq_false (by omega)
          obtain ⟨_, hgg, _, ra⟩ := HN4.out.row.lit (k := j) (by omega)
          obtain ⟨rfl⟩ : g = _ := by simpa using hgg
          obtain ⟨pi, pcl, psu, pscp, pge, pma, pus, pre, pde⟩ := pf
          obtain ⟨e0, e1, e2, e3, e4, e5, e6, e7, e8⟩ := ra.nine hpf
          dsimp only at hlt2 hge2
          have h2 : ((j + 1 : Nat) : Int) - 1 = (j : Int) := by omega
          have h3 : (0 : Int) ≤ (j : Int) := by omega
          have h4 : (j : Int) < (z.s.fams.length : Int) := by omega
          clear hgg ra hpf
          go_quiet (fail)
          go_wp2_with fail
          go_roundw
          case rel => exact ⟨j + 1 + 1, c' + 1, K1.seen i scp, by omega, by go_num, by omega, HN4.out.keep (below_drewN (Below.refl w4.heap.size w4) nq)⟩
          case measure => simp [intOf]; omega
    · have hkn : j = z.s.fams.length := by omega
      obtain ⟨s0, s1, s2⟩ : wr.cell? ⟨cb, 0, none⟩ = some (.int .i64 z.s.clock) ∧ wr.cell? ⟨cb, 1, none⟩ = some (.int .i64 z.s.next) ∧ wr.cell? ⟨cb, 2, none⟩ = some (.slice a z.s.fams.length ac) := ⟨HN.out.st.cell 0, HN.out.st.cell 1, HN.out.st.cell 2⟩
      go_wp2_with fail
      go_ret
      exact ⟨rfl, c', K1, by omega, HN.out.hl⟩
end
end Go.Proofs.YtckohmhhcknmaaaGreatDoor

/-
  ServiceStolen: one of a few scopes, of a few requests; one of so many.
-/
namespace Go.Proofs.YtckohmhhcknmaaaGreatDoor
open Go.RowKit Go.Sort

set_option maxRecDepth 100000 in
theorem pick_n (x n : Int) (w : World) (h0 : 0 < n) (h1 : n ≤ 2000000000) : Calls Tryz.prog 8 #[.int .i64 x, .int .i64 n] w fun e w' => e = .returned (.int .i64 (pickN x n)) ∧ w = w' := by
  have h := pickN_in x (n := n) h0
  have hu : IntKind.u64.wrap n = n := IntWalk.u64_in _ (by omega)
  have hn : n ≠ 0 := by omega
  have e : IntKind.i64.wrap (pickN x n) = pickN x n := IntWalk.i64_in _ (by omega)
  unfold pickN at *
  generalize hy : IntKind.u64.wrap x = y at *
  have HY := Lib.hid hy
  have HE := Lib.hid e
  go_enter Tryz.func8, Tryz.ntmps8
  go_wp2_with fail
  go_ret
  refine ⟨?_, rfl⟩
  first
    | rfl
    | exact congrArg (fun z => Ending.returned (.int .i64 z)) HE.out
    | (rw [hu]; rfl)
    | (rw [hu]; exact congrArg (fun z => Ending.returned (.int .i64 z)) HE.out)
def reqs : List ByteArray := [⟨#[111, 110, 101]⟩, ⟨#[116, 119, 111]⟩, ⟨#[116, 104, 114, 101, 101]⟩]
def scps : List ByteArray := [⟨#[]⟩, ⟨#[114, 101, 97, 100]⟩, ⟨#[119, 114, 105, 116, 101]⟩, ⟨#[114, 101, 97, 100, 43, 119, 114, 105, 116, 101]⟩, ⟨#[108, 105, 115, 116]⟩, ⟨#[108, 105, 115, 116, 43, 114, 101, 97, 100, 43, 119, 114, 105, 116, 101]⟩]
def reqF (n : Int) : ByteArray := reqs.getD (pickN n 3).toNat ⟨#[]⟩
def scpF (n : Int) : ByteArray := scps.getD (pickN n 6).toNat ⟨#[]⟩
theorem reqF_size (n : Int) : (reqF n).size ≤ 20 := by
  have h := pickN_in n (n := 3) (by decide)
  unfold reqF
  generalize pickN n 3 = p at *
  have : p = 0 ∨ p = 1 ∨ p = 2 := by omega
  rcases this with rfl | rfl | rfl <;> decide
theorem scpF_size (n : Int) : (scpF n).size ≤ 20 := by
  have h := pickN_in n (n := 6) (by decide)
  unfold scpF
  generalize pickN n 6 = p at *
  have : p = 0 ∨ p = 1 ∨ p = 2 ∨ p = 3 ∨ p = 4 ∨ p = 5 := by omega
  rcases this with rfl | rfl | rfl | rfl | rfl | rfl <;> decide
set_option maxHeartbeats 1000000 in
set_option maxRecDepth 100000 in
theorem req_of (n : Int) (w : World) : Calls Tryz.prog 50 #[.int .i64 n] w fun e w' => e = .returned (.string (reqF n)) ∧ Below w.heap.size w w' := by
  have HP := Lib.hid (fun w => pick_n n 3 w (by decide) (by decide))
  have h := pickN_in n (n := 3) (by decide)
  unfold reqF
  generalize pickN n 3 = p at *
  have hp : p = 0 ∨ p = 1 ∨ p = 2 := by omega
  clear h
  rcases hp with rfl | rfl | rfl
  all_goals
    go_enter Tryz.func50, Tryz.ntmps50
    go_wp2_with
      (go_at_call 8; refine (HP.out _).mono ?_; rintro e w1 ⟨rfl, rfl⟩)
    go_ret
    exact ⟨rfl, (Below.refl _ _).alloc (Nat.le_refl _) _⟩
set_option maxHeartbeats 1000000 in
set_option maxRecDepth 100000 in
theorem scp_of (n : Int) (w : World) : Calls Tryz.prog 49 #[.int .i64 n] w fun e w' => e = .returned (.string (scpF n)) ∧ Below w.heap.size w w' := by
  have HP := Lib.hid (fun w => pick_n n 6 w (by decide) (by decide))
  have h := pickN_in n (n := 6) (by decide)
  unfold scpF
  generalize pickN n 6 = p at *
  have hp : p = 0 ∨ p = 1 ∨ p = 2 ∨ p = 3 ∨ p = 4 ∨ p = 5 := by omega
  clear h
  rcases hp with rfl | rfl | rfl | rfl | rfl | rfl
  all_goals
    go_enter Tryz.func49, Tryz.ntmps49
    go_wp2_with
      (go_at_call 8; refine (HP.out _).mono ?_; rintro e w1 ⟨rfl, rfl⟩)
    go_ret
    exact ⟨rfl, (Below.refl _ _).alloc (Nat.le_refl _) _⟩
end Go.Proofs.YtckohmhhcknmaaaGreatDoor

/-
  ServiceStolen: what asks comes to.
-/
namespace Go.Proofs.YtckohmhhcknmaaaGreatDoor
open Go.RowKit Go.Sort Go.Maps

/-- what asks comes to -/
def AskGot (W : World) (hb vb sb db k m1 m2 m3 c : Nat) (r : Ru) (T : List ByteArray) (e : Ending) (w' : World) : Prop :=
  e = .returned (.bool true) ∧ ∃ (k' c' : Nat) (z' : SS) (v' tv' : Value) (T' : List ByteArray) (K' : Kn), k' ≤ k + 1 ∧ c' ≤ c + 22 ∧ T'.length ≤ T.length + 1 ∧ HL W hb vb sb db k' m1 m2 m3 c' r z' v' tv' T' K' w'
theorem own_slice {w : World} {B : Nat} {T : TypeId} {z n : Nat} {v : Value} {xs : List Value} (h : w.ownsRow B T z v n xs) : ∃ a m c, v = .slice a m c := by
  rcases h.2 with ⟨rfl, _⟩ | ⟨g, cap, cur, rfl, _⟩
  · exact ⟨_, _, _, rfl⟩
  · exact ⟨_, _, _, rfl⟩
end Go.Proofs.YtckohmhhcknmaaaGreatDoor

/-
  ServiceStolen: asks: Grant.
-/
namespace Go.Proofs.YtckohmhhcknmaaaGreatDoor
open Go.RowKit Go.Sort Go.Maps

section
variable {W w : World} {hb vb sb db k m1 m2 m3 c : Nat} {r : Ru} {z : SS} {v tv : Value} {T : List ByteArray} {K : Kn}
set_option maxHeartbeats 16000000 in
set_option maxRecDepth 100000 in
theorem asks_0 (h : HL W hb vb sb db k m1 m2 m3 c r z v tv T K w) (hk : k < 1000000) (hc : c ≤ 900000) (hT : T.length ≤ 1000) (key ti n : Int) (sc : ByteArray) (hkey : r.key = key) :
    Calls Tryz.prog 16 #[.pointer (some ⟨hb, 0, none⟩), .int .i64 key, .agg #[.int .i64 0, .int .i64 ti, .int .i64 n, .string sc]] w (AskGot W hb vb sb db k m1 m2 m3 c r T) := by
  obtain ⟨ta, tc, rfl⟩ := h.toks.slice
  have hal := (Below.refl w.heap.size w).alloc (Nat.le_refl _) (.cells #[.int .i64 0, .int .i64 ti, .int .i64 n, .string sc] 53)
  have H0 := Lib.hid (h.keep hal)
  have HX0 := Lib.hid (Blk.new w 53 #[.int .i64 0, .int .i64 ti, .int .i64 n, .string sc])
  obtain ⟨c0, c1, c2, c3, c4⟩ := H0.out.five
  obtain ⟨x0, x1, x2, x3⟩ := tok_cells HX0.out
  have hto : ∀ t : ByteArray, tokR (fun B => tagL key B) (parts 46 t.data.toList) = tokOf r t := fun t => by unfold tokOf; rw [hkey]
  have HRD := Lib.hid (fun (t : ByteArray) (ht : t.size ≤ 100) w (h : HL W hb vb sb db k m1 m2 m3 c r z v (.slice ta T.length tc) T K w) => by
    have := token_read key t w (by omega) h.aw.sw.sx.env.maxl h.aw.sw.sx.env.tens h.aw.sw.sx.env.errs
    rw [hto] at this
    exact this)
  unfold TokGot v4 at HRD
  clear h hal hto hkey
  rcases Nat.eq_zero_or_pos T.length with h0 | h0
  · have hd0 : decide (0 < T.length) = false := decide_eq_false (by omega)
    go_enter Tryz.func16, Tryz.ntmps16
    go_wp2_with fail
    have HTT := Lib.hid (show (⟨#[]⟩ : ByteArray).size ≤ 100 by decide)
    have H1 := H0
    have HX1 := HX0
    clear H0 HX0 c0 c1 c2 c3 c4 x0 x1 x2 x3 hd0 h0
    generalize w.alloc (.cells #[.int .i64 0, .int .i64 ti, .int .i64 n, .string sc] 53) = w1 at *
    generalize w.heap.size = xb at *

    have HID := Lib.hid (show tokId r ⟨#[]⟩ = (tokOf r ⟨#[]⟩).2.2.1 from rfl)
    have HR2 := Lib.hid (HRD.out ⟨#[]⟩ HTT.out)
    generalize tokOf r ⟨#[]⟩ = tq at *
    obtain ⟨qe, qk, qf, qg, qd⟩ := tq
    dsimp only at HR2 HID
    go_at_call 48
    refine (HR2.out _ H1.out).mono ?_
    rintro e w2 ⟨rfl, hbd⟩
    have hal := (Below.refl w2.heap.size w2).alloc (Nat.le_refl _) (.cells #[.int .i64 qk, .int .i64 qf, .int .i64 qg, .int .i64 qd] 104)
    have H2 := Lib.hid ((H1.out.keep hbd).keep hal)
    have HX2 := Lib.hid ((HX1.out.below' hbd).below' hal)
    have HO2 := Lib.hid (Blk.new w2 104 #[.int .i64 qk, .int .i64 qf, .int .i64 qg, .int .i64 qd])
    have hob : W.heap.size ≤ w2.heap.size := (H1.out.keep hbd).aw.below.size
    clear hbd hal H1 HX1 HRD HR2
    obtain ⟨x0, x1, x2, x3⟩ := tok_cells HX2.out
    obtain ⟨o0, o1, o2, o3⟩ := tok_cells HO2.out
    obtain ⟨c0, c1, c2, c3, c4⟩ := H2.out.five
    go_wp2_with fail
    generalize w2.alloc (.cells #[.int .i64 qk, .int .i64 qf, .int .i64 qg, .int .i64 qd] 104) = w3 at *
    generalize w2.heap.size = ob at *

    have HSC := Lib.hid (fun x w => scp_of x w)
    have HRT := Lib.hid (fun x w (h : HL W hb vb sb db k m1 m2 m3 c r z v (.slice ta T.length tc) T K w) => h.grant hk ⟨#[97, 112, 112]⟩ ⟨#[97, 110, 110]⟩ (scpF x) (by decide) (by decide) (by have := scpF_size x; omega))
    have HD := H2.out.drew
    have HDX : Blk w3.drew xb 53 #[.int .i64 0, .int .i64 ti, .int .i64 n, .string sc] := HX2.out
    have HDO : Blk w3.drew ob 104 #[.int .i64 qk, .int .i64 qf, .int .i64 qg, .int .i64 qd] := HO2.out
    have HDC : w3.drew.cell? ⟨hb, 0, none⟩ = some (.pointer (some ⟨vb, 0, none⟩)) ∧ w3.drew.cell? ⟨xb, 2, none⟩ = some (.int .i64 n) := ⟨HD.five.1, HDX.cell 2⟩
    clear H2 HX2 HO2 x0 x1 x2 x3 o0 o1 o2 o3 c0 c1 c2 c3 c4
    go_region_held3 (fun w' => w'.cell? ⟨hb, 0, none⟩ = some (.pointer (some ⟨vb, 0, none⟩)) ∧ w'.cell? ⟨xb, 2, none⟩ = some (.int .i64 n))
      (first
        | with_reducible assumption
        | with_reducible exact HDC)
      (first
        | (go_at_call 49; (with_reducible refine (HSC.out _ _).mono ?_); rintro x' w5 ⟨rfl, hb5⟩
           have HA5 := HD.keep hb5
           have HX5 := HDX.below' hb5
           have HO5 := HDO.below' hb5
           have hc5 : w5.cell? ⟨hb, 0, none⟩ = some (.pointer (some ⟨vb, 0, none⟩)) ∧ w5.cell? ⟨xb, 2, none⟩ = some (.int .i64 n) := ⟨HA5.five.1, HX5.cell 2⟩)
        | (go_at_call 9; (with_reducible refine (HRT.out _ _ HA5).mono ?_); rintro x' w9 ⟨z6, got, code, hgs, rfl, ⟨v6, h6⟩, hrest⟩
           have HX6 := hrest.2 _ _ _ HX5 (by decide) (by decide)
           have HO6 := hrest.2 _ _ _ HO5 (by decide) (by decide)
           have hc6 : w9.cell? ⟨hb, 0, none⟩ = some (.pointer (some ⟨vb, 0, none⟩)) ∧ w9.cell? ⟨xb, 2, none⟩ = some (.int .i64 n) := ⟨h6.five.1, HX6.cell 2⟩))
    have HGS := Lib.hid hgs
    have H9 := Lib.hid h6
    have HX9 := Lib.hid HX6
    have HO9 := Lib.hid HO6
    clear HD HDX HDO HDC hb5 HA5 HX5 HO5 hc5 hgs h6 hrest HX6 HO6 hc6 HRT HSC
    go_wp2_with fail

    obtain ⟨x0, x1, x2, x3⟩ := tok_cells HX9.out
    go_quiet (fail)
    have hbd := below_drewN (Below.refl w9.heap.size w9) nq
    have HA := Lib.hid (H9.out.keep hbd)
    clear hbd H9 HX9 HO9 x0 x1 x2 x3 
    generalize w9.drewN nq = u at *
    rcases hge : got.toList.isEmpty with _ | _
    · obtain ⟨i0, hii, hz0, hz1, hz2⟩ := info_parts strInfo
      obtain ⟨c0, c1, c2, c3, c4⟩ := HA.out.five
      have hrow : u.ownsRow W.heap.size 9 1 (.slice ta T.length tc) T.length (T.map Value.string) := HA.out.toks
      have hWu := HA.out.aw.below.size
      have HA1 := Lib.hid (HA.out.keep ((Below.refl u.heap.size u).alloc (Nat.le_refl _) (.cells #[.string got] 9)))
      go_wp2_with
        (at_builtin; refine wpList_append_own _ rfl _ _ 48 rfl W.heap.size 9 i0 (.string ByteArray.empty) 1 16 Tryz.underlying48 hii hz0 hz1 hz2 rfl (by decide) _ _ _ rfl (hrow.alloc _) ⟨u.heap.size, 0, none⟩ 1 1 [.string got] rfl rfl (cell_one_new _ _ _) (fun x hx => by simp at hx; subst hx; rfl) (by unfold maxLen; omega) (by omega) (by simp; omega) ?_; intro v' wn hown hgrow hnil
         have HO := Lib.hid hown
         have HG := Lib.hid hgrow
         have hbk := HA1.out.blk.grown hgrow (HA1.out.toks.apart HA1.out.blk (by decide)).symm
         obtain ⟨xa, xn, xc, rfl⟩ := own_slice hown
         have mv : wn.cell? ⟨hb, 1, none⟩ = some (.slice ta T.length tc) := hbk.cell 1
         have mz := hbk.frozen
         clear hown hgrow hnil hrow)
      have HE := Lib.hid (HA1.out.given HG.out HO.out HGS.out)
      go_at_call 51
      refine (narrows_yes HE.out (by omega)).mono ?_
      rintro e wf ⟨rfl, cf, Kf, hcf, hf⟩
      have HF := Lib.hid hf
      clear hf
      go_wp2_with fail
      go_ret
      exact ⟨rfl, _, cf, _, _, _, _, Kf, Nat.le_refl _, by omega, by rw [List.length_append]; exact Nat.le_refl _, HF.out⟩
    · go_wp2_with fail
      go_at_call 51
      refine (narrows_yes HA.out (by omega)).mono ?_
      rintro e wf ⟨rfl, cf, Kf, hcf, hf⟩
      have HF := Lib.hid hf
      clear hf
      go_wp2_with fail
      go_ret
      exact ⟨rfl, _, cf, _, _, _, _, Kf, Nat.le_refl _, by omega, Nat.le_succ _, HF.out⟩
  · have hd0 : decide (0 < T.length) = true := decide_eq_true h0
    have HPK := Lib.hid (fun w => pick_n ti (T.length : Int) w (by omega) (by omega))
    have hp := pickN_in ti (n := (T.length : Int)) (by omega)
    obtain ⟨p, hpp⟩ : ∃ p : Nat, pickN ti (T.length : Int) = p := ⟨_, (Int.toNat_of_nonneg hp.1).symm⟩
    rw [hpp] at HPK hp
    obtain ⟨tt, htt⟩ : ∃ t, T[p]? = some t := ⟨_, List.getElem?_eq_getElem (by omega)⟩
    obtain ⟨tg, rfl, hcell⟩ := H0.out.toks.lit htt
    have HTT := Lib.hid (H0.out.small tt (List.mem_of_getElem? htt))
    obtain ⟨hp0, hp1⟩ := hp
    clear hpp htt
    go_enter Tryz.func16, Tryz.ntmps16
    go_wp2_with fail
    go_quiet ((go_at_call 8; exact Calls.quiet_of_same ((HPK.out _).mono fun _ _ h => ⟨h.1, h.2.symm⟩)))
    go_wp2_with fail
    have hbd : Below (w.alloc (.cells #[.int .i64 0, .int .i64 ti, .int .i64 n, .string sc] 53)).heap.size (w.alloc (.cells #[.int .i64 0, .int .i64 ti, .int .i64 n, .string sc] 53)) ((w.alloc (.cells #[.int .i64 0, .int .i64 ti, .int .i64 n, .string sc] 53)).drewN nq) := below_drewN (Below.refl _ _) nq
    have H1 := Lib.hid (H0.out.keep hbd)
    have HX1 := Lib.hid (HX0.out.below' hbd)
    clear H0 HX0 c0 c1 c2 c3 c4 x0 x1 x2 x3 hd0 h0 hcell hp0 hp1 HPK hbd
    generalize (w.alloc (.cells #[.int .i64 0, .int .i64 ti, .int .i64 n, .string sc] 53)).drewN nq = w1 at *
    generalize w.heap.size = xb at *

    have HID := Lib.hid (show tokId r tt = (tokOf r tt).2.2.1 from rfl)
    have HR2 := Lib.hid (HRD.out tt HTT.out)
    generalize tokOf r tt = tq at *
    obtain ⟨qe, qk, qf, qg, qd⟩ := tq
    dsimp only at HR2 HID
    go_at_call 48
    refine (HR2.out _ H1.out).mono ?_
    rintro e w2 ⟨rfl, hbd⟩
    have hal := (Below.refl w2.heap.size w2).alloc (Nat.le_refl _) (.cells #[.int .i64 qk, .int .i64 qf, .int .i64 qg, .int .i64 qd] 104)
    have H2 := Lib.hid ((H1.out.keep hbd).keep hal)
    have HX2 := Lib.hid ((HX1.out.below' hbd).below' hal)
    have HO2 := Lib.hid (Blk.new w2 104 #[.int .i64 qk, .int .i64 qf, .int .i64 qg, .int .i64 qd])
    have hob : W.heap.size ≤ w2.heap.size := (H1.out.keep hbd).aw.below.size
    clear hbd hal H1 HX1 HRD HR2
    obtain ⟨x0, x1, x2, x3⟩ := tok_cells HX2.out
    obtain ⟨o0, o1, o2, o3⟩ := tok_cells HO2.out
    obtain ⟨c0, c1, c2, c3, c4⟩ := H2.out.five
    go_wp2_with fail
    generalize w2.alloc (.cells #[.int .i64 qk, .int .i64 qf, .int .i64 qg, .int .i64 qd] 104) = w3 at *
    generalize w2.heap.size = ob at *

    have HSC := Lib.hid (fun x w => scp_of x w)
    have HRT := Lib.hid (fun x w (h : HL W hb vb sb db k m1 m2 m3 c r z v (.slice (some ⟨tg, 0, none⟩) T.length tc) T K w) => h.grant hk ⟨#[97, 112, 112]⟩ ⟨#[97, 110, 110]⟩ (scpF x) (by decide) (by decide) (by have := scpF_size x; omega))
    have HD := H2.out.drew
    have HDX : Blk w3.drew xb 53 #[.int .i64 0, .int .i64 ti, .int .i64 n, .string sc] := HX2.out
    have HDO : Blk w3.drew ob 104 #[.int .i64 qk, .int .i64 qf, .int .i64 qg, .int .i64 qd] := HO2.out
    have HDC : w3.drew.cell? ⟨hb, 0, none⟩ = some (.pointer (some ⟨vb, 0, none⟩)) ∧ w3.drew.cell? ⟨xb, 2, none⟩ = some (.int .i64 n) := ⟨HD.five.1, HDX.cell 2⟩
    clear H2 HX2 HO2 x0 x1 x2 x3 o0 o1 o2 o3 c0 c1 c2 c3 c4
    go_region_held3 (fun w' => w'.cell? ⟨hb, 0, none⟩ = some (.pointer (some ⟨vb, 0, none⟩)) ∧ w'.cell? ⟨xb, 2, none⟩ = some (.int .i64 n))
      (first
        | with_reducible assumption
        | with_reducible exact HDC)
      (first
        | (go_at_call 49; (with_reducible refine (HSC.out _ _).mono ?_); rintro x' w5 ⟨rfl, hb5⟩
           have HA5 := HD.keep hb5
           have HX5 := HDX.below' hb5
           have HO5 := HDO.below' hb5
           have hc5 : w5.cell? ⟨hb, 0, none⟩ = some (.pointer (some ⟨vb, 0, none⟩)) ∧ w5.cell? ⟨xb, 2, none⟩ = some (.int .i64 n) := ⟨HA5.five.1, HX5.cell 2⟩)
        | (go_at_call 9; (with_reducible refine (HRT.out _ _ HA5).mono ?_); rintro x' w9 ⟨z6, got, code, hgs, rfl, ⟨v6, h6⟩, hrest⟩
           have HX6 := hrest.2 _ _ _ HX5 (by decide) (by decide)
           have HO6 := hrest.2 _ _ _ HO5 (by decide) (by decide)
           have hc6 : w9.cell? ⟨hb, 0, none⟩ = some (.pointer (some ⟨vb, 0, none⟩)) ∧ w9.cell? ⟨xb, 2, none⟩ = some (.int .i64 n) := ⟨h6.five.1, HX6.cell 2⟩))
    have HGS := Lib.hid hgs
    have H9 := Lib.hid h6
    have HX9 := Lib.hid HX6
    have HO9 := Lib.hid HO6
    clear HD HDX HDO HDC hb5 HA5 HX5 HO5 hc5 hgs h6 hrest HX6 HO6 hc6 HRT HSC
    go_wp2_with fail

    obtain ⟨x0, x1, x2, x3⟩ := tok_cells HX9.out
    go_quiet (fail)
    have hbd := below_drewN (Below.refl w9.heap.size w9) nq
    have HA := Lib.hid (H9.out.keep hbd)
    clear hbd H9 HX9 HO9 x0 x1 x2 x3 
    generalize w9.drewN nq = u at *
    rcases hge : got.toList.isEmpty with _ | _
    · obtain ⟨i0, hii, hz0, hz1, hz2⟩ := info_parts strInfo
      obtain ⟨c0, c1, c2, c3, c4⟩ := HA.out.five
      have hrow : u.ownsRow W.heap.size 9 1 (.slice (some ⟨tg, 0, none⟩) T.length tc) T.length (T.map Value.string) := HA.out.toks
      have hWu := HA.out.aw.below.size
      have HA1 := Lib.hid (HA.out.keep ((Below.refl u.heap.size u).alloc (Nat.le_refl _) (.cells #[.string got] 9)))
      go_wp2_with
        (at_builtin; refine wpList_append_own _ rfl _ _ 48 rfl W.heap.size 9 i0 (.string ByteArray.empty) 1 16 Tryz.underlying48 hii hz0 hz1 hz2 rfl (by decide) _ _ _ rfl (hrow.alloc _) ⟨u.heap.size, 0, none⟩ 1 1 [.string got] rfl rfl (cell_one_new _ _ _) (fun x hx => by simp at hx; subst hx; rfl) (by unfold maxLen; omega) (by omega) (by simp; omega) ?_; intro v' wn hown hgrow hnil
         have HO := Lib.hid hown
         have HG := Lib.hid hgrow
         have hbk := HA1.out.blk.grown hgrow (HA1.out.toks.apart HA1.out.blk (by decide)).symm
         obtain ⟨xa, xn, xc, rfl⟩ := own_slice hown
         have mv : wn.cell? ⟨hb, 1, none⟩ = some (.slice (some ⟨tg, 0, none⟩) T.length tc) := hbk.cell 1
         have mz := hbk.frozen
         clear hown hgrow hnil hrow)
      have HE := Lib.hid (HA1.out.given HG.out HO.out HGS.out)
      go_at_call 51
      refine (narrows_yes HE.out (by omega)).mono ?_
      rintro e wf ⟨rfl, cf, Kf, hcf, hf⟩
      have HF := Lib.hid hf
      clear hf
      go_wp2_with fail
      go_ret
      exact ⟨rfl, _, cf, _, _, _, _, Kf, Nat.le_refl _, by omega, by rw [List.length_append]; exact Nat.le_refl _, HF.out⟩
    · go_wp2_with fail
      go_at_call 51
      refine (narrows_yes HA.out (by omega)).mono ?_
      rintro e wf ⟨rfl, cf, Kf, hcf, hf⟩
      have HF := Lib.hid hf
      clear hf
      go_wp2_with fail
      go_ret
      exact ⟨rfl, _, cf, _, _, _, _, Kf, Nat.le_refl _, by omega, Nat.le_succ _, HF.out⟩
end
end Go.Proofs.YtckohmhhcknmaaaGreatDoor
