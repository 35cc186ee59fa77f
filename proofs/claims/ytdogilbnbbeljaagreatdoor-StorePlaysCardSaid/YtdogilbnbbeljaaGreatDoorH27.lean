/-
  strconv.Atoi: its number, and whether it gives an error.
-/
import Derived.Test.YtdogilbnbbeljaaGreatDoorH25
import Derived.Lib.AtoiErrMem
import Derived.Test.YtdogilbnbbeljaaGreatDoorH17
import Derived.Test.YtdogilbnbbeljaaGreatDoorH26
import Derived.Test.YtdogilbnbbeljaaGreatDoorH05
namespace Go.Proofs.YtdogilbnbbeljaaGreatDoor
open Go.RowKit Go.Sort

/-- the library's two errors are there -/
def ErrVars (w : World) : Prop := (∃ tp p, w.cell? ⟨2, 0, none⟩ = some (.iface tp p)) ∧ (∃ tp p, w.cell? ⟨3, 0, none⟩ = some (.iface tp p))
theorem ErrVars.lt {w : World} (h : ErrVars w) : 2 < w.heap.size ∧ 3 < w.heap.size := by
  obtain ⟨⟨_, _, h1⟩, _, _, h2⟩ := h
  exact ⟨World.block_lt_of_cell? w _ h1, World.block_lt_of_cell? w _ h2⟩
theorem ErrVars.below {B : Nat} {w w' : World} (h : ErrVars w) (hb : Below B w w') (h1 : 2 < B) (h2 : 3 < B) : ErrVars w' := by
  obtain ⟨⟨a, b, e1⟩, c, d, e2⟩ := h
  exact ⟨⟨a, b, (hb.cell (p := ⟨2, 0, none⟩) h1).trans e1⟩, c, d, (hb.cell (p := ⟨3, 0, none⟩) h2).trans e2⟩
theorem ErrVars.below' {w w' : World} (h : ErrVars w) (hb : Below w.heap.size w w') : ErrVars w' := h.below hb h.lt.1 h.lt.2

theorem atoi_yes (s : ByteArray) (w : World) (hs : s.size ≤ 1000000) (h : atoiE s.data.toList = true) :
    Calls Tryz.prog 50 #[.string s] w fun e w' => e = .returned (.tuple #[.int .i64 (atoiN s.data.toList), .nilIface]) ∧ Below w.heap.size w w' := by
  unfold atoiE at h
  unfold atoiN
  rcases ha : Lib.atoiAll s.data.toList with v | _ | _
  · refine (Tryz.strconv_Atoi_ok s (by omega) v ha w).mono ?_
    rintro e w' ⟨rfl, hw⟩
    refine ⟨rfl, ?_⟩
    rcases hw with rfl | ⟨t, rfl⟩
    · exact Below.refl _ _
    · exact Lib.bytesWorld_below w _ t
  · rw [ha] at h; cases h
  · rw [ha] at h; cases h
def Failed (n : Int) (e : Ending) : Prop := ∃ te pe, e = .returned (.tuple #[.int .i64 n, .iface te pe])
theorem atoi_no (s : ByteArray) (w : World) (hs : s.size ≤ 1000000) (hv : ErrVars w) (h : atoiE s.data.toList = false) :
    Calls Tryz.prog 50 #[.string s] w fun e w' => Failed (atoiN s.data.toList) e ∧ Below w.heap.size w w' := by
  unfold atoiE at h
  unfold atoiN
  obtain ⟨⟨t1, p1, h1⟩, t2, p2, h2⟩ := hv
  rcases ha : Lib.atoiAll s.data.toList with v | _ | _
  · rw [ha] at h; cases h
  · refine (Tryz.strconv_Atoi_syntax s (by omega) ha _ w h1 (.inr ⟨_, _, rfl⟩)).mono ?_
    rintro e w' ⟨N, rfl, _, _, hb⟩
    exact ⟨⟨_, _, rfl⟩, hb⟩
  · refine (Tryz.strconv_Atoi_range s (by omega) ha _ w h2 (.inr ⟨_, _, rfl⟩)).mono ?_
    rintro e w' ⟨N, rfl, _, _, hb⟩
    exact ⟨⟨_, _, rfl⟩, hb⟩
/-- strconv.Itoa at any int -/
theorem itoa_any (x : Int) (h0 : -9223372036854775808 ≤ x) (h1 : x ≤ 9223372036854775807) (w : World) (hT : Tens w) :
    Calls Tryz.prog 33 #[.int .i64 x] w fun e w' => e = .returned (.string (itoS x)) ∧ Below w.heap.size w w' := by
  refine (Tryz.strconv_Itoa x h0 h1 w hT).mono ?_
  rintro e w' ⟨rfl, k, os, rfl⟩
  exact ⟨rfl, below_grown w k os⟩
theorem itoS_data (x : Int) : (itoS x).data.toList = Lib.itoa x := by simp [itoS]
theorem itoS_list (x : Int) : (itoS x).toList = Lib.itoa x := by rw [ByteArray.toList_eq]; exact itoS_data x
end Go.Proofs.YtdogilbnbbeljaaGreatDoor

/-
  The packages' variables, below all that a law makes; a store with its disk.
-/
namespace Go.Proofs.YtdogilbnbbeljaaGreatDoor
open Go.RowKit Go.Sort

/-- the packages' variables lie below B -/
structure Env (B : Nat) (w : World) : Prop where
  tens : Tens w
  maxl : MaxL w
  errs : ErrVars w
  gt : 4 < B
  gm : 1 < B
  g1 : 2 < B
  g2 : 3 < B
section
variable {B : Nat} {w w' : World}
theorem Env.start {W : World} (h : WB W W) (he : ErrVars W) : Env W.heap.size W := ⟨h.tens, h.maxl, he, h.tens.lt, h.maxl.lt, he.lt.1, he.lt.2⟩
theorem Env.keep (h : Env B w) (hb : Below B w w') : Env B w' := ⟨h.tens.below hb h.gt, h.maxl.below hb h.gm, h.errs.below hb h.g1 h.g2, h.gt, h.gm, h.g1, h.g2⟩
theorem Env.wb (h : Env B w) : WB w w := ⟨Below.refl _ _, h.tens, h.maxl⟩
theorem Env.new (h : Env B w) (hB : B ≤ w.heap.size) (hb : Below w.heap.size w w') : Env B w' := h.keep (hb.mono hB)
end

/-- a store at its block, over its disk -/
structure SD (B sb db : Nat) (D : Dk) (s : St) (v : Value) (n f x : Int) (down : Bool) (w : World) : Prop where
  env : Env B w
  st : StAt w sb db s v n f x down
  disk : DiskAt w db D
  row : FRow w B v s.fams
  bs : B ≤ sb
  bd : B ≤ db
section
variable {B sb db : Nat} {D D' : Dk} {s : St} {v : Value} {n f x : Int} {down : Bool} {w w' : World}
theorem SD.big (h : SD B sb db D s v n f x down w) : B ≤ w.heap.size := Nat.le_of_lt (Nat.lt_of_le_of_lt h.bs (Blk.lt h.st))
theorem SD.keep (h : SD B sb db D s v n f x down w) (hb : Below w.heap.size w w') : SD B sb db D s v n f x down w' := ⟨h.env.new h.big hb, Blk.below' h.st hb, h.disk.below hb, h.row.below hb, h.bs, h.bd⟩
theorem SD.apart (h : SD B sb db D s v n f x down w) : v.ownBlock ≠ some sb ∧ v.ownBlock ≠ some db ∧ sb ≠ db := ⟨h.row.apart h.st (by decide), h.row.apart h.disk.at_ (by decide), Blk.ne_ h.st h.disk.at_ (by decide)⟩
/-- the disk was written -/
theorem SD.wrote (h : SD B sb db D s v n f x down w) (hd : DiskAt w' db D') (hg : w.grownBy w' (some db)) : SD B sb db D' s v n f x down w' := by
  obtain ⟨h1, h2, h3⟩ := h.apart
  have hb : Below B w w' := (Below.refl B w).grown hg h.big (fun k hk => by cases hk; exact h.bd)
  exact ⟨h.env.keep hb, Blk.grown h.st hg (by simpa using h3), hd, h.row.kept hg h2, h.bs, h.bd⟩
/-- the store's block was written -/
theorem SD.noted (h : SD B sb db D s v n f x down w) {n' f' x' : Int} {down' : Bool} (hs : StAt w' sb db s v n' f' x' down') (hg : w.grownBy w' (some sb)) : SD B sb db D s v n' f' x' down' w' := by
  obtain ⟨h1, h2, h3⟩ := h.apart
  have hb : Below B w w' := (Below.refl B w).grown hg h.big (fun k hk => by cases hk; exact h.bs)
  exact ⟨h.env.keep hb, hs, h.disk.grown hg (by simpa using Ne.symm h3), h.row.kept hg h1, h.bs, h.bd⟩
theorem SD.cells {ck nx : Int} {L : List Fam} (h : SD B sb db D ⟨ck, nx, L⟩ v n f x down w) :
    w.cell? ⟨sb, 0, none⟩ = some (.pointer (some ⟨db, 0, none⟩)) ∧ w.cell? ⟨sb, 1, none⟩ = some (.int .i64 ck) ∧ w.cell? ⟨sb, 2, none⟩ = some (.int .i64 nx) ∧ w.cell? ⟨sb, 3, none⟩ = some v ∧ w.cell? ⟨sb, 4, none⟩ = some (.int .i64 n) ∧
    w.cell? ⟨sb, 5, none⟩ = some (.int .i64 f) ∧ w.cell? ⟨sb, 6, none⟩ = some (.int .i64 x) ∧ w.cell? ⟨sb, 7, none⟩ = some (.bool down) ∧ (∀ j, w.frozen? ⟨sb, j, none⟩ = false) ∧ sb < w.heap.size := h.st.cells
end
theorem SD.drew {B sb db : Nat} {D : Dk} {s : St} {v : Value} {n f x : Int} {down : Bool} {w : World} (h : SD B sb db D s v n f x down w) : SD B sb db D s v n f x down w.drew := ⟨⟨h.env.tens, h.env.maxl, h.env.errs, h.env.gt, h.env.gm, h.env.g1, h.env.g2⟩, h.st, ⟨h.disk.at_, h.disk.len⟩, h.row, h.bs, h.bd⟩
theorem SD.four {B sb db : Nat} {D : Dk} {ck nx : Int} {L : List Fam} {v : Value} {n f x : Int} {down : Bool} {w : World} (h : SD B sb db D ⟨ck, nx, L⟩ v n f x down w) :
    w.cell? ⟨sb, 1, none⟩ = some (.int .i64 ck) ∧ w.cell? ⟨sb, 2, none⟩ = some (.int .i64 nx) ∧ w.cell? ⟨sb, 3, none⟩ = some v ∧ w.cell? ⟨sb, 6, none⟩ = some (.int .i64 x) := ⟨Blk.cell h.st 1, Blk.cell h.st 2, Blk.cell h.st 3, Blk.cell h.st 6⟩
theorem SD.one {B sb db : Nat} {D : Dk} {s : St} {v : Value} {n f x : Int} {down : Bool} {w : World} (h : SD B sb db D s v n f x down w) : w.cell? ⟨sb, 0, none⟩ = some (.pointer (some ⟨db, 0, none⟩)) := Blk.cell h.st 0
/-- a saved slot is noted -/
theorem SD.number {B sb db : Nat} {D : Dk} {s : St} {v : Value} {n f x : Int} {w : World} (h : SD B sb db D s v n f x false w) (n' f' : Int) : SD B sb db D s v n' f' x false ((w.setCell ⟨sb, 4, none⟩ (.int .i64 n')).setCell ⟨sb, 5, none⟩ (.int .i64 f')) ∧ w.grownBy ((w.setCell ⟨sb, 4, none⟩ (.int .i64 n')).setCell ⟨sb, 5, none⟩ (.int .i64 f')) (some sb) := by
  have k1 := Blk.put_ h.st 4 (.int .i64 n') (cs' := storeCs db s v n' f x false) rfl
  have k2 := Blk.put_ k1 5 (.int .i64 f') (cs' := storeCs db s v n' f' x false) rfl
  have g1 := only_set1 w sb ⟨sb, 4, none⟩ rfl (.int .i64 n')
  have g2 := only_setCell g1 (p := ⟨sb, 5, none⟩) (.inl rfl) (.int .i64 f')
  exact ⟨h.noted k2 g2, g2⟩
theorem fam_short {f : Fam} (h : famB f = true) : f.short 1000 := by
  obtain ⟨_, _, _, _, h5, h6, h7, h8⟩ := famB_parts h
  have a := nameB_len h5
  have b := nameB_len h6
  have c := reqB_20 h7
  have d := scopeB_len h8
  rw [size_data] at a b c d
  exact ⟨by omega, by omega, by omega, by omega⟩
theorem itoaM_c (x : Int) (hx : okM x = true) (w : World) (hT : Tens w) : Calls Tryz.prog 33 #[.int .i64 x] w fun e w' => e = .returned (.string (itoS x)) ∧ Below w.heap.size w w' := by
  have h := okM_iff.1 hx
  refine (Tryz.strconv_Itoa x (by omega) (by omega) w hT).mono ?_
  rintro e w' ⟨rfl, k, os, rfl⟩
  exact ⟨rfl, below_grown w k os⟩
theorem nums_below {w w' : World} {B n : Nat} {e : TypeId} {v : Value} {xs : List Value} (h : w.ownsRow B e 1 v n xs) (hb : Below w.heap.size w w') : w'.ownsRow B e 1 v n xs :=
  h.kept (only_of_below hb (some w.heap.size)) (.inr (fun he => by have := (h.lt _ he).2; omega))
theorem ints_below {w w' : World} {g : Nat} {L : List Int} (h : IntsAt w g L) (hb : Below w.heap.size w w') : IntsAt w' g L := by
  intro j hj
  have h1 := h j hj
  have hlt : g < w.heap.size := World.block_lt_of_cell? w _ h1
  rw [hb.cell (p := ⟨g, j, none⟩) hlt]
  exact h1
/-- numbers turned into texts, one behind the other -/
structure TN (W : World) (g : Nat) (L : List Int) (k : Nat) (out : Value) (w : World) : Prop where
  below : Below W.heap.size W w
  ints : IntsAt w g L
  row : w.ownsRow W.heap.size 9 1 out k ((L.take k).map fun x => encStr (Lib.itoa x))
theorem TN.start {W : World} {g : Nat} {L : List Int} (hi : IntsAt W g L) : TN W g L 0 (.slice none 0 0) W := ⟨Below.refl _ _, hi, World.ownsRow_nil _ _ _ _⟩
theorem TN.call {W w w1 : World} {g k : Nat} {L : List Int} {out : Value} (h : TN W g L k out w) (hb : Below w.heap.size w w1) : TN W g L k out w1 := ⟨below_2 h.below hb, ints_below h.ints hb, nums_below h.row hb⟩
theorem TN.next {W w1 w3 : World} {g k : Nat} {L : List Int} {out v' : Value} {o : Obj} (hi : IntsAt W g L) (h : TN W g L k out w1) (hk : k < L.length) {y : Value} (hy : y = encStr (Lib.itoa (L.getD k 0)))
    (ho : w3.ownsRow W.heap.size 9 1 v' (k + 1) ((L.take k).map (fun x => encStr (Lib.itoa x)) ++ [y])) (hg : (w1.alloc o).grownBy w3 out.ownBlock) : TN W g L (k + 1) v' w3 := by
  have b1 : Below W.heap.size W (w1.alloc o) := h.below.alloc h.below.size o
  have b2 : Below W.heap.size W w3 := b1.grown hg b1.size fun i e => (h.row.lt i e).1
  refine ⟨b2, ints_below hi b2, ?_⟩
  have e : (L.take (k + 1)).map (fun x => encStr (Lib.itoa x)) = (L.take k).map (fun x => encStr (Lib.itoa x)) ++ [y] := by
    rw [List.take_add_one, List.getElem?_eq_getElem hk, List.map_append, hy]
    simp [List.getD, hk]
  rw [e]
  exact ho
theorem slot_lt (n : Int) : slotAt (n % 2).toNat + 21 ≤ 90 := slot_top n
end Go.Proofs.YtdogilbnbbeljaaGreatDoor

/-
  A slot that is read, in plain Lean: its words, its families one behind the other.
-/
namespace Go.Proofs.YtdogilbnbbeljaaGreatDoor

theorem st_apply_ok {s : St} {e : Ev} (h : StOk s) (hn : s.fams.length ≤ 60) (he : evB e = true) : StOk (applyS s e) := by
  refine ⟨applyS_asc h.asc e, applyS_ids h.ids ?_, ?_⟩
  · intro hk
    rcases evB_kind he with ⟨_, _, _, hf⟩ | ⟨h1, _⟩ | ⟨h1, _⟩
    · exact (famB_parts hf).1
    · omega
    · omega
  · have := applyS_len s e
    omega
theorem st_none (c d : Int) : StOk ⟨c, d, []⟩ := ⟨List.Pairwise.nil, fun f hf => by simp at hf, Nat.zero_le _⟩
section
variable {blk : Nat → List UInt8} {at_ : Nat} {s : St}
theorem famsR_zero : famsR blk at_ s 0 = some (s, []) := rfl
theorem famsR_some {n : Nat} {st : St} {all : List UInt8} (h : famsR blk at_ s n = some (st, all)) :
    famsR blk at_ s (n + 1) = if readB (blk (at_ + 1 + n)) && decide ((readE (blk (at_ + 1 + n))).kind = 1) then some (applyS st (readE (blk (at_ + 1 + n))), all ++ blk (at_ + 1 + n) ++ [10]) else none := by
  rw [famsR, h]
theorem famsR_stop {n m : Nat} (h : famsR blk at_ s n = none) (hm : n ≤ m) : famsR blk at_ s m = none := by
  induction m with
  | zero =>
    obtain rfl : n = 0 := by omega
    exact h
  | succ m ih =>
    rcases Nat.lt_or_ge m n with hlt | hge
    · obtain rfl : n = m + 1 := by omega
      exact h
    · rw [famsR, ih hge]
/-- the state behind some families, and their lines -/
theorem famsR_ok (hs : StOk s) (h0 : s.fams = []) (hb : ∀ k, (blk k).length ≤ 240) : ∀ (n : Nat), n ≤ 20 → ∀ (st : St) (all : List UInt8), famsR blk at_ s n = some (st, all) → StOk st ∧ st.fams.length ≤ n ∧ all.length ≤ 241 * n
  | 0, _, st, all, h => by
    rw [famsR_zero] at h
    obtain ⟨rfl, rfl⟩ := Prod.mk.inj (Option.some.inj h)
    exact ⟨hs, by rw [h0]; exact Nat.le_refl _, Nat.zero_le _⟩
  | n + 1, hn, st, all, h => by
    rcases e : famsR blk at_ s n with _ | ⟨st', all'⟩
    · rw [famsR_stop e (Nat.le_succ n)] at h
      cases h
    · obtain ⟨h1, h2, h3⟩ := famsR_ok hs h0 hb n (by omega) st' all' e
      rw [famsR_some e] at h
      split at h
      · rename_i hr
        rw [Bool.and_eq_true] at hr
        obtain ⟨rfl, rfl⟩ := Prod.mk.inj (Option.some.inj h)
        have h4 := applyS_len st' (readE (blk (at_ + 1 + n)))
        have h5 := hb (at_ + 1 + n)
        refine ⟨st_apply_ok h1 (by omega) (readE_may hr.1), by omega, ?_⟩
        rw [List.length_append, List.length_append, List.length_singleton]
        omega
      · cases h
end
section
variable (tg : Int → List UInt8 → List UInt8)
/-- a slot's words -/
def loadL (blk : Nat → List UInt8) (k : Nat) (L : List (List UInt8)) : Option (Int × Int × St) :=
  if (L.take 5).all numM && decide (atoiN (L.getD 4 []) ≤ 20) then
    match famsR blk (slotAt k) ⟨atoiN (L.getD 2 []), atoiN (L.getD 3 []), []⟩ (atoiN (L.getD 4 [])).toNat with
    | some (st, all) => if tg 1 all = L.getD 5 [] ∧ atoiN (L.getD 0 []) % 2 = (k : Int) then some (atoiN (L.getD 0 []), atoiN (L.getD 1 []), st) else none
    | none => none
  else none
theorem loadR_none {blk : Nat → List UInt8} {k : Nat} (h : openL tg (blk (slotAt k)) = none) : loadR tg blk k = none := by
  unfold loadR
  rw [h]
theorem loadR_len {blk : Nat → List UInt8} {k : Nat} {x : List UInt8} (h : openL tg (blk (slotAt k)) = some x) (hl : (parts 32 x).length ≠ 6) : loadR tg blk k = none := by
  unfold loadR
  rw [h]
  dsimp only
  split
  · rename_i e
    rw [e] at hl
    exact absurd rfl hl
  · rfl
theorem loadR_words {blk : Nat → List UInt8} {k : Nat} {x : List UInt8} (h : openL tg (blk (slotAt k)) = some x) (hl : (parts 32 x).length = 6) : loadR tg blk k = loadL tg blk k (parts 32 x) := by
  unfold loadR
  rw [h]
  dsimp only
  rcases hp : parts 32 x with _ | ⟨a, _ | ⟨b, _ | ⟨c, _ | ⟨d, _ | ⟨e, _ | ⟨t, _ | ⟨u, r⟩⟩⟩⟩⟩⟩⟩
  all_goals (rw [hp] at hl; try (exfalso; simp at hl; done))
  unfold loadL
  simp only [List.take_succ_cons, List.take_zero, List.all_cons, List.all_nil, Bool.and_true, Bool.and_assoc]
  rfl
end
end Go.Proofs.YtdogilbnbbeljaaGreatDoor

/-
  store.Store's load: what is known while a slot is read, and what load gives.
-/
namespace Go.Proofs.YtdogilbnbbeljaaGreatDoor
open Go.RowKit Go.Sort

/-- what load gives -/
def LoadGot (W : World) (o : Option (Int × Int × St)) (x : Ending) (w' : World) : Prop :=
  ∃ (a b : Int) (st : St) (v : Value) (ok : Bool), x = .returned (.tuple #[.int .i64 a, .int .i64 b, stVal st v, .bool ok]) ∧ FRow w' W.heap.size v st.fams ∧ Below W.heap.size W w' ∧ (match o with | some t => ok = true ∧ t = (a, b, st) | none => ok = false)
theorem results_load {P : Program} {fn : Func} {i j p u : Tmp} {ty : TypeId} (h : fn.results = #[.tmp i, .tmp j, .cell p ty, .tmp u]) (tmps : Array Value) (w : World) (g : Nat) (t : TypeId) (cs : Array Value) (d : TypeDesc) (x y z : Value)
    (h1 : tmps.getD i undef = x) (h2 : tmps.getD j undef = y) (hp : tmps.getD p undef = .pointer (some ⟨g, 0, none⟩)) (hz : tmps.getD u undef = z) (hg : Blk w g t cs)
    (hu : P.underlying ty = some d) (hd : (match d with | .struct _ | .array _ _ => true | _ => false) = true) (hi : (P.info? ty).map (·.size) = some cs.size) :
    (results fn tmps).run P w = .ok (.tuple #[x, y, .agg cs, z]) w := by
  have hl := run_loadVar_row w g t ty cs (0, 0) d hg hu hd hi
  rw [Array.getD_eq_getD_getElem?] at h1 h2 hp hz
  simp only [results, h]
  simp [Result.andThen, h1, h2, hp, hz, asAddr, hl]
/-- the result's state at its block -/
structure LD (W : World) (st : St) (u : Value) (w : World) : Prop where
  res : Blk w W.heap.size 36 (stCs st u)
  row : FRow w (W.heap.size + 1) u st.fams
  below : Below W.heap.size W w
section
variable {W w w' : World} {st st' : St} {u u' : Value}
theorem LD.start : LD W ⟨0, 0, []⟩ (.slice none 0 0) (W.alloc (.cells (stCs ⟨0, 0, []⟩ (.slice none 0 0)) 36)) := ⟨Blk.new W _ _, FRow.nil _ _, (Below.refl _ _).alloc (Nat.le_refl _) _⟩
theorem LD.keep (h : LD W st u w) (hb : Below w.heap.size w w') : LD W st u w' := ⟨h.res.below' hb, h.row.below hb, below_2 h.below hb⟩
theorem LD.drew (h : LD W st u w) : LD W st u w.drew := ⟨h.res, h.row, ⟨h.below.os, h.below.tape, h.below.output, h.below.size, h.below.block⟩⟩
theorem LD.cells {ck nx : Int} {L : List Fam} (h : LD W ⟨ck, nx, L⟩ u w) : w.cell? ⟨W.heap.size, 0, none⟩ = some (.int .i64 ck) ∧ w.cell? ⟨W.heap.size, 1, none⟩ = some (.int .i64 nx) ∧ w.cell? ⟨W.heap.size, 2, none⟩ = some u ∧ (∀ j, w.frozen? ⟨W.heap.size, j, none⟩ = false) ∧ W.heap.size < w.heap.size :=
  ⟨h.res.cell 0, h.res.cell 1, h.res.cell 2, h.res.frozen, h.res.lt⟩
/-- a state is stored -/
theorem LD.put (h : LD W st u w) (st' : St) {u' : Value} (hr : FRow w (W.heap.size + 1) u' st'.fams) :
    LD W st' u' (((w.setCell ⟨W.heap.size, 0, none⟩ (.int .i64 st'.clock)).setCell ⟨W.heap.size, 1, none⟩ (.int .i64 st'.next)).setCell ⟨W.heap.size, 2, none⟩ u') ∧ w.grownBy (((w.setCell ⟨W.heap.size, 0, none⟩ (.int .i64 st'.clock)).setCell ⟨W.heap.size, 1, none⟩ (.int .i64 st'.next)).setCell ⟨W.heap.size, 2, none⟩ u') (some W.heap.size) := by
  have e1 := h.res.put_ 0 (.int .i64 st'.clock) (cs' := #[.int .i64 st'.clock, .int .i64 st.next, u]) rfl
  have e2 := e1.put_ 1 (.int .i64 st'.next) (cs' := #[.int .i64 st'.clock, .int .i64 st'.next, u]) rfl
  have e3 := e2.put_ 2 u' (cs' := stCs st' u') rfl
  have g1 := only_set1 w W.heap.size ⟨W.heap.size, 0, none⟩ rfl (.int .i64 st'.clock)
  have g2 := only_setCell g1 (p := ⟨W.heap.size, 1, none⟩) (.inl rfl) (.int .i64 st'.next)
  have g3 := only_setCell g2 (p := ⟨W.heap.size, 2, none⟩) (.inl rfl) u'
  refine ⟨⟨e3, hr.kept g3 (fun he => ?_), h.below.grown g3 h.below.size (fun _ hj => by cases hj; exact Nat.le_refl _)⟩, g3⟩
  have := (hr.lt _ he).1
  omega
theorem LD.same (h : LD W st u w) : LD W st u (((w.setCell ⟨W.heap.size, 0, none⟩ (.int .i64 st.clock)).setCell ⟨W.heap.size, 1, none⟩ (.int .i64 st.next)).setCell ⟨W.heap.size, 2, none⟩ u) := (h.put st h.row).1
end
theorem load_end {W w : World} {A : Act} {st : St} {u : Value} {a b : Int} {ok : Bool} {o : Option (Int × Int × St)} (h : LD W st u w) (ho : match o with | some t => ok = true ∧ t = (a, b, st) | none => ok = false)
    (h4 : A.tmps.getD 4 undef = .int .i64 a) (h5 : A.tmps.getD 5 undef = .int .i64 b) (h6 : A.tmps.getD 6 undef = .pointer (some ⟨W.heap.size, 0, none⟩)) (h7 : A.tmps.getD 7 undef = .bool ok) (hd : A.defers = []) :
    bodyPost Tryz.prog Tryz.f27 (LoadGot W o) Exit.ret A w :=
  bodyPost_ret (results_load rfl A.tmps w _ _ _ _ _ _ _ h4 h5 h6 h7 h.res Tryz.underlying36 rfl (by kernel_rfl)) hd ⟨a, b, st, u, ok, rfl, h.row.mono (Nat.le_succ _), h.below, ho⟩
/-- numbers read from words, one behind the other -/
structure LN (W0 : World) (L : List (List UInt8)) (k : Nat) (out : Value) (w : World) : Prop where
  below : Below W0.heap.size W0 w
  row : w.ownsRow W0.heap.size 3 1 out k ((L.take k).map fun x => .int .i64 (atoiN x))
  nums : ∀ j, j < k → numM (L.getD j []) = true
theorem LN.start (W0 : World) (L : List (List UInt8)) : LN W0 L 0 (.slice none 0 0) W0 := ⟨Below.refl _ _, World.ownsRow_nil _ _ _ _, fun _ hj => absurd hj (Nat.not_lt_zero _)⟩
theorem LN.call {W0 w w1 : World} {L : List (List UInt8)} {k : Nat} {out : Value} (h : LN W0 L k out w) (hb : Below w.heap.size w w1) : LN W0 L k out w1 := ⟨below_2 h.below hb, nums_below h.row hb, h.nums⟩
theorem LN.next {W0 w1 w3 : World} {L : List (List UInt8)} {k : Nat} {out v' : Value} {o : Obj} (h : LN W0 L k out w1) (hk : k < L.length) (hn : numM (L.getD k []) = true) {y : Value} (hy : y = .int .i64 (atoiN (L.getD k [])))
    (ho : w3.ownsRow W0.heap.size 3 1 v' (k + 1) ((L.take k).map (fun x => .int .i64 (atoiN x)) ++ [y])) (hg : (w1.alloc o).grownBy w3 out.ownBlock) : LN W0 L (k + 1) v' w3 := by
  have b1 : Below W0.heap.size W0 (w1.alloc o) := h.below.alloc h.below.size o
  have b2 : Below W0.heap.size W0 w3 := b1.grown hg b1.size fun i e => (h.row.lt i e).1
  refine ⟨b2, ?_, fun j hj => ?_⟩
  · have e : (L.take (k + 1)).map (fun x => Value.int .i64 (atoiN x)) = (L.take k).map (fun x => .int .i64 (atoiN x)) ++ [y] := by
      rw [List.take_add_one, List.getElem?_eq_getElem hk, List.map_append, hy]
      simp [List.getD, hk]
    rw [e]
    exact ho
  · rcases Nat.lt_or_ge j k with h' | h'
    · exact h.nums j h'
    · obtain rfl : j = k := by omega
      exact hn
/-- the five numbers' cells -/
theorem LN.five {W0 w : World} {L : List (List UInt8)} {out : Value} (h : LN W0 L 5 out w) (hL : L.length = 6) : ∃ g cap, out = .slice (some ⟨g, 0, none⟩) 5 cap ∧ 5 ≤ cap ∧ W0.heap.size ≤ g ∧ g < w.heap.size ∧
    w.cell? ⟨g, 0, none⟩ = some (.int .i64 (atoiN (L.getD 0 []))) ∧ w.cell? ⟨g, 1, none⟩ = some (.int .i64 (atoiN (L.getD 1 []))) ∧ w.cell? ⟨g, 2, none⟩ = some (.int .i64 (atoiN (L.getD 2 []))) ∧ w.cell? ⟨g, 3, none⟩ = some (.int .i64 (atoiN (L.getD 3 []))) ∧ w.cell? ⟨g, 4, none⟩ = some (.int .i64 (atoiN (L.getD 4 []))) := by
  have ho := h.row
  have hc : ∀ j g cap, out = .slice (some ⟨g, 0, none⟩) 5 cap → j < 5 → w.cell? ⟨g, j, none⟩ = some (.int .i64 (atoiN (L.getD j []))) := by
    rintro j g cap rfl hj
    have := ho.cellAt j (by omega)
    rw [this]
    have e : (L.take 5)[j]? = some (L.getD j []) := by
      rw [List.getElem?_take, if_pos hj, List.getD_eq_getElem?_getD, List.getElem?_eq_getElem (by omega)]
      rfl
    rw [List.getElem?_map, e]
    rfl
  rcases ho.2 with ⟨_, h0⟩ | ⟨g, cap, cur, rfl, hB, hb, hn, hm, hcs, ht⟩
  · exact absurd h0 (by decide)
  · have hlt : g < w.heap.size := by
      rcases Nat.lt_or_ge g w.heap.size with h' | h'
      · exact h'
      · rw [Array.getElem?_eq_none h'] at hb; cases hb
    exact ⟨g, cap, rfl, hn, hB, hlt, hc 0 g cap rfl (by omega), hc 1 g cap rfl (by omega), hc 2 g cap rfl (by omega), hc 3 g cap rfl (by omega), hc 4 g cap rfl (by omega)⟩
end Go.Proofs.YtdogilbnbbeljaaGreatDoor
