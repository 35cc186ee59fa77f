/-
  strings.Builder: copyCheck, by hand (the shelf's contract does not lay over this seat).
-/
import Derived.Test.YtepjcdjpikbbjaaGreatDoorP28
import Derived.Lib.Builder
import Derived.Lib.AppendStr
import Derived.Laws.Externs
import Derived.Test.YtepjcdjpikbbjaaGreatDoorP01
import Derived.Test.YtepjcdjpikbbjaaGreatDoorP27
import Derived.Test.YtepjcdjpikbbjaaGreatDoorP03
import Derived.RangeFuncKeeps
namespace Go.Proofs.YtepjcdjpikbbjaaGreatDoor
open Go.RowKit Go.Sort Go.Lib

theorem bld_info : (Tryz.prog.info? 38).map (·.size) = some 2 := by kernel_rfl
theorem bld_lies : liesAt Tryz.prog Tryz.prog.depth 38 (2 / Tryz.prog.cellsOf 38) 0 38 1 = true := by kernel_rfl
set_option maxHeartbeats 1000000 in
set_option maxRecDepth 100000 in
theorem bld_fresh (w : World) (bb : Nat) (v : Value) (h : Blk w bb 38 #[.pointer none, v]) :
    Calls Tryz.prog 24 #[.pointer (some ⟨bb, 0, none⟩)] w fun e w' => e = .returned (.tuple #[]) ∧ w' = w.setCell ⟨bb, 0, none⟩ (.pointer (some ⟨bb, 0, none⟩)) := by
  obtain ⟨j, hj, hjs⟩ := Option.map_eq_some_iff.1 bld_info
  have hz : w.frozen? ⟨bb, 0, none⟩ = false := h.frozen 0
  have h0 : w.cell? ⟨bb, 0, none⟩ = some (.pointer none) := h.cell 0
  have hsh : w.shape? bb = some (38, 2) := by
    unfold Blk at h
    simp [World.shape?, h]
  go_enter Tryz.func24, Tryz.ntmps24
  go_wp2_with fail
  rw [Lib.run_to_unsafe w ⟨bb, 0, none⟩ Tryz.underlying35 Tryz.underlying126 hj (by rw [hjs]; decide) hsh (Nat.zero_lt_succ 1)]
  simp only [Result.andThen]
  rw [Oper.upon_value]
  go_wp2_with fail
  rw [run_callFunc_extern Tryz.func60 (by kernel_rfl) (by kernel_rfl) (by kernel_rfl) (e := Extern.AbiNoEscape.same) (by kernel_rfl)]
  rw [Lib.run_noEscape]
  simp only [Result.andThen]
  rw [Oper.upon_value]
  go_wp2_with fail
  rw [Lib.run_from_unsafe w ⟨bb, 0, none⟩ Tryz.underlying126 Tryz.underlying35 hj hsh bld_lies]
  simp only [Result.andThen]
  rw [Oper.upon_value]
  go_wp2_with fail
  go_end0
  exact ⟨rfl, rfl⟩
set_option maxHeartbeats 1000000 in
set_option maxRecDepth 100000 in
theorem bld_used (w : World) (bb : Nat) (v : Value) (h : Blk w bb 38 #[.pointer (some ⟨bb, 0, none⟩), v]) :
    Calls Tryz.prog 24 #[.pointer (some ⟨bb, 0, none⟩)] w fun e w' => e = .returned (.tuple #[]) ∧ w' = w := by
  obtain ⟨j, hj, hjs⟩ := Option.map_eq_some_iff.1 bld_info
  have h0 : w.cell? ⟨bb, 0, none⟩ = some (.pointer (some ⟨bb, 0, none⟩)) := h.cell 0
  go_enter Tryz.func24, Tryz.ntmps24
  go_wp2_with fail
  rw [Lib.run_neq_ptr_same w _ Tryz.underlying35 hj]
  go_wp2_with fail
  go_end0
  exact ⟨rfl, rfl⟩
theorem byte_info : (Tryz.prog.info? 5).map (fun i => (i.zero, i.size, i.bytes)) = some (some (.int .u8 0), 1, 1) := by kernel_rfl
end Go.Proofs.YtepjcdjpikbbjaaGreatDoor

/-
  The desk, where something that is not the desk's is turned: the loop's record, the iterator's box, a strings.Builder.
-/
namespace Go.Proofs.YtepjcdjpikbbjaaGreatDoor
open Go.RowKit Go.Sort Go.Lib

/-- of which blocks the desk's are -/
def deskB : Obj → Bool
  | .cells _ t _ => t == 32 || t == 122 || t == 112 || t == 65 || t == 95
  | _ => false
/-- what is the desk's lies as it lay -/
structure Far (w w' : World) : Prop where
  size : w.heap.size ≤ w'.heap.size
  block : ∀ (i : Nat) (o : Obj), w.heap[i]? = some o → deskB o = true → w'.heap[i]? = some o
section
variable {w w' : World}
theorem Blk.far_ {g : Nat} {t : TypeId} {cs : Array Value} (h : Blk w g t cs) (k : Far w w') (ht : deskB (.cells cs t (0, 0)) = true) : Blk w' g t cs := k.block g _ h ht
theorem Far.of_grown {l : Nat} (hg : w.grownBy w' (some l)) (hl : ∀ o, w.heap[l]? = some o → deskB o = false) : Far w w' :=
  ⟨hg.size, fun i o hi ho => by
    refine (hg.block i (Array.getElem?_eq_some_iff.1 hi).1 ?_).trans hi
    intro e
    cases e
    rw [hl o hi] at ho
    cases ho⟩
theorem FRow.far {B : Nat} {v : Value} {L : List Fam} (h : FRow w B v L) (k : Far w w') : FRow w' B v L := by
  obtain ⟨h1, h2⟩ := h
  refine ⟨h1, ?_⟩
  rcases h2 with h2 | ⟨g, cap, cur, h3, h4, hg, h5⟩
  · exact .inl h2
  · exact .inr ⟨g, cap, cur, h3, h4, k.block g _ hg rfl, h5⟩
theorem SX.far {B sb db k : Nat} {z : SS} {v : Value} (h : SX B sb db k z v w) (hf : Far w w') (hbl : Below B w w') : SX B sb db k z v w' := by
  obtain ⟨D, n, f, x, h1, h2, h3⟩ := h
  have env := h1.env.keep hbl
  have dk : DiskAt w' db D := ⟨h1.disk.at_.far_ hf rfl, h1.disk.len⟩
  exact ⟨D, n, f, x, ⟨env, Blk.far_ h1.st hf rfl, dk, h1.row.far hf, h1.bs, h1.bd⟩, ⟨env, dk, h1.bd, Nat.le_trans h1.big hbl.size, h2.fits, h2.fit, h2.inv⟩, h3⟩
theorem DKW.far {W : World} {xb vb sb db k : Nat} {r : Ru} {z : SS} {v : Value} (h : DKW W xb vb sb db k r z v w) (hf : Far w w') (hbl : Below W.heap.size w w') : DKW W xb vb sb db k r z v w' :=
  ⟨h.at_.far_ hf rfl, ⟨h.sw.at_.far_ hf rfl, h.sw.sx.far hf hbl, h.sw.right, h.sw.bv⟩, h.bx, h.below.trans hbl, h.err, h.eg⟩
theorem DKE.far {W : World} {xb k : Nat} {d : DS} (h : DKE W xb k d w) (hf : Far w w') (hbl : Below W.heap.size w w') : DKE W xb k d w' := by
  obtain ⟨vb, sb, db, v, h⟩ := h
  exact ⟨vb, sb, db, v, h.far hf hbl⟩
end
/-- a builder's blocks -/
def bldB : Obj → Bool
  | .cells _ t _ => t == 38 || t == 5
  | _ => false
structure FarB (w w' : World) : Prop where
  size : w.heap.size ≤ w'.heap.size
  block : ∀ (i : Nat) (o : Obj), w.heap[i]? = some o → bldB o = true → w'.heap[i]? = some o
theorem FarB.of_grown {w w' : World} {l : Nat} (hg : w.grownBy w' (some l)) (hl : ∀ o, w.heap[l]? = some o → bldB o = false) : FarB w w' :=
  ⟨hg.size, fun i o hi ho => by
    refine (hg.block i (Array.getElem?_eq_some_iff.1 hi).1 ?_).trans hi
    intro e
    cases e
    rw [hl o hi] at ho
    cases ho⟩
theorem FarB.of_stay {w w' : World} (h : StayD w w') : FarB w w' := ⟨h.size, fun i o hi ho => h.block i o hi (by
  cases o with
  | cells c t f =>
    simp only [bldB, Bool.or_eq_true, beq_iff_eq] at ho
    rcases ho with rfl | rfl <;> rfl
  | _ => rfl)⟩
theorem bld_far {B b : Nat} {p : Value} {bs : List Value} {w w' : World} (h : BuilderAt 38 5 B b p bs w) (hf : FarB w w') : BuilderAt 38 5 B b p bs w' := by
  obtain ⟨hB, v, hb, ⟨h1, h2⟩, hne⟩ := h
  refine ⟨hB, v, hf.block b _ hb rfl, ⟨h1, ?_⟩, hne⟩
  rcases h2 with h2 | ⟨g, cap, cur, h3, h4, hg, h5⟩
  · exact .inl h2
  · exact .inr ⟨g, cap, cur, h3, h4, hf.block g _ hg rfl, h5⟩
theorem bld_far' {B b : Nat} {bs : List Value} {w w' : World} (h : IsBuilder 38 5 B b bs w) (hf : FarB w w') : IsBuilder 38 5 B b bs w' := by
  rcases h with h | h
  · exact .inl (bld_far h hf)
  · exact .inr (bld_far h hf)
/-- what is a builder's alone is turned -/
structure OnlyB (w w' : World) : Prop where
  size : w.heap.size ≤ w'.heap.size
  block : ∀ (i : Nat) (o : Obj), w.heap[i]? = some o → bldB o = false → w'.heap[i]? = some o
theorem OnlyB.trans {a b c : World} (h : OnlyB a b) (k : OnlyB b c) : OnlyB a c := ⟨Nat.le_trans h.size k.size, fun i o hi ho => k.block i o (h.block i o hi ho) ho⟩
theorem OnlyB.refl (w : World) : OnlyB w w := ⟨Nat.le_refl _, fun _ _ h _ => h⟩
theorem OnlyB.set {w : World} {b : Nat} {cs : Array Value} {t : TypeId} (hb : w.heap[b]? = some (.cells cs t (0, 0))) (ht : bldB (.cells cs t (0, 0)) = true) (i : Nat) (v : Value) : OnlyB w (w.setCell ⟨b, i, none⟩ v) :=
  ⟨(KeepsWalks.setCell w ⟨b, i, none⟩ v).size, fun j o hj ho => by
    by_cases e : j = b
    · subst e
      rw [hb] at hj
      cases hj
      rw [ht] at ho
      cases ho
    · exact (Below.heap_setCell w _ v j e).trans hj⟩
theorem OnlyB.grown {w w' : World} {row : Option Nat} (hg : w.grownBy w' row) (hl : ∀ l o, row = some l → w.heap[l]? = some o → bldB o = true) : OnlyB w w' :=
  ⟨hg.size, fun i o hi ho => by
    refine (hg.block i (Array.getElem?_eq_some_iff.1 hi).1 ?_).trans hi
    intro e
    rw [hl i o e.symm hi] at ho
    cases ho⟩
theorem Far.of_bld {w w' : World} (h : OnlyB w w') : Far w w' := ⟨h.size, fun i o hi ho => h.block i o hi (by
  cases o with
  | cells c t f =>
    simp only [deskB, Bool.or_eq_true, beq_iff_eq] at ho
    rcases ho with (((rfl | rfl) | rfl) | rfl) | rfl <;> rfl
  | _ => rfl)⟩
/-- copyCheck: behind it the builder is used -/
theorem bld_check2 (B b : Nat) (bs : List Value) (w : World) (h : IsBuilder 38 5 B b bs w) :
    Calls Tryz.prog 24 #[.pointer (some ⟨b, 0, none⟩)] w fun e w' => e = .returned (.tuple #[]) ∧ BuilderAt 38 5 B b (.pointer (some ⟨b, 0, none⟩)) bs w' ∧ Below B w w' ∧ OnlyB w w' := by
  rcases h with h | h
  · obtain ⟨hB, v, hb, hr⟩ := id h
    refine (bld_fresh w b v hb).mono ?_
    rintro e w' ⟨rfl, rfl⟩
    exact ⟨rfl, h.used _, (Below.refl B w).setCell (p := ⟨b, 0, none⟩) hB _, OnlyB.set hb rfl _ _⟩
  · obtain ⟨hB, v, hb, hr⟩ := id h
    refine (bld_used w b v hb).mono ?_
    rintro e w' ⟨rfl, rfl⟩
    exact ⟨rfl, h, Below.refl B _, OnlyB.refl _⟩
set_option maxHeartbeats 2000000 in
set_option maxRecDepth 100000 in
theorem bld_write2 (B b : Nat) (bs : List Value) (s : ByteArray) (w : World) (h : IsBuilder 38 5 B b bs w) (hlen : bs.length + s.size ≤ 140737488355328) (hBw : B ≤ w.heap.size) :
    Calls Tryz.prog 10 #[.pointer (some ⟨b, 0, none⟩), .string s] w fun e w' => e = .returned (.tuple #[.int .i64 s.size, .nilIface]) ∧ IsBuilder 38 5 B b (bs ++ strCells s) w' ∧ Below B w w' ∧ OnlyB w w' := by
  obtain ⟨i0, hi, hz0, hz1, hz2⟩ := info_parts byte_info
  go_enter Tryz.func10, Tryz.ntmps10
  go_wp2_with fail
  go_at_call 24
  refine (bld_check2 B b bs _ h).mono ?_
  rintro e w1 ⟨rfl, h1, hb1, ho1⟩
  obtain ⟨hB, v, hbk, hown, hne⟩ := h1
  have c0 : w1.cell? ⟨b, 0, none⟩ = some (.pointer (some ⟨b, 0, none⟩)) := by rw [Lib.cell_of_heap hbk]; rfl
  have c1 : w1.cell? ⟨b, 1, none⟩ = some v := by rw [Lib.cell_of_heap hbk]; rfl
  go_wp2_with (at_builtin; refine Lib.wpList_append_own_string _ rfl _ _ 36 9 rfl B 5 i0 Tryz.underlying36 Tryz.underlying9 hi hz0 hz1 hz2 _ _ _ rfl hown s rfl ?c3 ?c4 ?c5 ?_)
  case c3 => unfold maxLen; omega
  case c4 => omega
  case c5 => have := hb1.size; omega
  intro v' w2 hown' hgrow _
  have hlt : b < w1.heap.size := (Array.getElem?_eq_some_iff.1 hbk).1
  have hb2 : w2.heap[b]? = some (.cells #[.pointer (some ⟨b, 0, none⟩), v] 38 (0, 0)) := (hgrow.block b hlt (fun e => hne e.symm)).trans hbk
  have d0 : w2.cell? ⟨b, 0, none⟩ = some (.pointer (some ⟨b, 0, none⟩)) := by rw [Lib.cell_of_heap hb2]; rfl
  have d1 : w2.cell? ⟨b, 1, none⟩ = some v := by rw [Lib.cell_of_heap hb2]; rfl
  have f1 : w2.frozen? ⟨b, 1, none⟩ = false := Lib.frozen_of_heap hb2 1
  have ho2 : OnlyB w1 w2 := OnlyB.grown hgrow (fun l o hl hlo => by
    rcases hown.2 with ⟨rfl, _⟩ | ⟨g, cap, cur, rfl, _, hg, _⟩
    · cases hl
    · have : g = l := by simpa [Value.ownBlock] using hl
      subst this
      rw [hg] at hlo
      cases hlo
      rfl)
  obtain ⟨ao, n', cap, rfl⟩ : ∃ ao n' cap, v' = .slice ao n' cap := by
    rcases hown'.2 with ⟨hv, _⟩ | ⟨g, cap, cur, hv, _⟩
    · exact ⟨_, _, _, hv⟩
    · exact ⟨_, _, _, hv⟩
  go_wp2_with fail
  go_ret2
  refine ⟨rfl, .inr ?_, ?_, (ho1.trans ho2).trans (OnlyB.set hb2 rfl _ _)⟩
  · exact Lib.BuilderAt.put (T := 38) (e := 5) hB hb2 (bs' := bs ++ Lib.strCells s) (by simpa [Lib.strCells_length] using hown') (by decide)
  · exact (hb1.grown hgrow (by have := hb1.size; omega) (fun k hk => (hown.lt k hk).1)).setCell (p := ⟨b, 1, none⟩) hB _
end Go.Proofs.YtepjcdjpikbbjaaGreatDoor

/-
  The desk in plain Lean: no answer is long.
-/
namespace Go.Proofs.YtepjcdjpikbbjaaGreatDoor
open Go.RowKit

theorem tok_len {key a b c d : Int} (h : rightN a b c d = true) : (tokS key a b c d).size ≤ 100 := by
  have h1 := bodyS_size a b c d h
  unfold tokS
  have h2 : (⟨#[46]⟩ : ByteArray).size = 1 := rfl
  have h3 := tagS_size key (bodyS a b c d)
  rw [ByteArray.size_append, ByteArray.size_append]
  omega
theorem fresh_len {r : Ru} {f : Fam} (h1 : okN f.id = true) (h2 : okN f.gen = true) : (refreshS r f).size ≤ 100 := tok_len (by unfold rightN; rw [h1, h2]; rfl)
/-- a text, not long -/
def nl (b : ByteArray) : Prop := b.size ≤ 100000
theorem nl_none : nl noneS := Nat.zero_le _
theorem nl_ito {x : Int} (h : okI x) : nl (itoS x) := by
  have e : itoS x = joinS [x] := rfl
  have := joinS_size (L := [x]) (by simp) (by simpa using h)
  rw [e]
  unfold nl
  omega
theorem nl_tok {key a b c d : Int} (h : rightN a b c d = true) : nl (tokS key a b c d) := Nat.le_trans (tok_len h) (by decide)
theorem put_ok {z : SS} {ev : Ev} (h : (addS z ev).2 = 0) : evB ev = true := by
  cases hv : evB ev
  · exfalso
    unfold addS at h
    split at h
    · exact absurd (show (6 : Int) = 0 from h) (by decide)
    · exact absurd (show (1 : Int) = 0 from h) (by decide)
  · rfl
theorem nl_plan {z : SS} {p : Plan ByteArray} (h : ∀ t c, p = .say t c → nl t) (k : ∀ ev t c, p = .put ev t c → evB ev = true → nl t) : nl (doPlan noneS z p).2.1 := by
  cases p with
  | say t c => exact h t c rfl
  | put ev t c =>
    by_cases h0 : (addS z ev).2 = 0
    · have : doPlan noneS z (.put ev t c) = ((addS z ev).1, t, c) := if_pos h0
      rw [this]
      exact k ev t c rfl (put_ok h0)
    · have : doPlan noneS z (.put ev t c) = ((addS z ev).1, noneS, (addS z ev).2) := if_neg h0
      rw [this]
      exact nl_none
theorem put_fam {f : Fam} (h : evB (putEv f) = true) : famB f = true := by
  unfold evB putEv at h
  simpa using h
theorem nl_put {r : Ru} {f : Fam} (h : evB (putEv f) = true) : nl (refreshS r f) := by
  obtain ⟨h1, h2, _⟩ := famB_parts (put_fam h)
  exact Nat.le_trans (fresh_len h1 h2) (by decide)
theorem live_ok {r : Ru} {s : St} (h : Fit s) (t : ByteArray) (kind : Int) : (liveR r s t kind).e ≠ 0 ∨ famB (liveR r s t kind).f = true := by
  unfold liveR
  split
  · rename_i h1
    exact .inl h1
  · split
    · exact .inl (by decide)
    · split
      · exact .inl (by decide)
      · rename_i f hf
        have hm : f ∈ s.fams := List.mem_of_find?_eq_some hf
        split
        · exact .inl (by decide)
        · split
          · exact .inl (by decide)
          · exact .inr (h.fams f hm)
theorem cap_ok {a b : Int} (ha : okN a = true) (hb : okN b = true) : okN (capN a b) = true := by
  rw [okN_iff] at *
  unfold capN
  split <;> omega
theorem nl_mint {r : Ru} {s : St} (h : Fit s) (hr : ruB r = true) (t : ByteArray) : nl (mintP r s t).1 := by
  unfold mintP mintL
  rcases live_ok h t 1 (r := r) with h0 | h0
  · rw [if_pos h0]
    exact nl_none
  · split
    · exact nl_none
    · split
      · exact nl_none
      · split
        · exact nl_none
        · obtain ⟨h1, h2, _⟩ := famB_parts h0
          have ha : okN r.access = true := by
            unfold ruB at hr
            simp only [Bool.and_eq_true] at hr
            exact hr.2
          exact nl_tok (by unfold rightN; rw [h1, h2, cap_ok h.clock ha]; rfl)
theorem nl_rotate {r : Ru} {z : SS} (h : Fit z.s) (t request sc : ByteArray) : nl (doPlan noneS z (rotateP r z.s t request sc)).2.1 := by
  refine nl_plan (fun x c e => ?_) (fun ev x c e he => ?_)
  · unfold rotateP rotateL at e
    rcases live_ok h t 1 (r := r) with h0 | h0
    · rw [if_pos h0] at e
      split at e <;> (cases e; exact nl_none)
    · obtain ⟨h1, h2, _⟩ := famB_parts h0
      (repeat' split at e) <;> first | (cases e; exact nl_none) | (cases e; exact Nat.le_trans (fresh_len h1 h2) (by decide)) | cases e
  · unfold rotateP rotateL at e
    (repeat' split at e) <;> first | (cases e; exact nl_none) | (cases e; exact nl_put he) | cases e
theorem nl_grant {r : Ru} {z : SS} (a b c : ByteArray) : nl (doPlan noneS z (grantP r z.s a b c)).2.1 := by
  refine nl_plan (fun x c e => ?_) (fun ev x c e he => ?_)
  · unfold grantP at e
    (repeat' split at e) <;> first | (cases e; exact nl_none) | cases e
  · unfold grantP at e
    (repeat' split at e) <;> first | (cases e; exact nl_put he) | cases e
theorem nl_fams {s : St} (h : Fit s) : nl (famsT s) := by
  have := fams_len h
  rw [← fams_join]
  exact this
theorem nl_show {r : Ru} {s : St} (h : Fit s) (t : ByteArray) : nl (famT (showP r s t).1) := Nat.le_trans (famT_size (show_fam h t)) (by decide)
theorem nl_least (l : List UInt8) : nl (wordS (txt (leastL l))) := Nat.le_trans (wordS_size _ (n := 45) (by rw [txt_size_]; exact leastL_len l) (by decide)) (by decide)
theorem nl_tag (key : Int) (l : List UInt8) : nl (txt (tagL key l)) := by
  unfold nl
  rw [txt_size_]
  unfold tagL
  rw [hexN_length]
  decide
theorem nl_log {x : Int} (h : okI x) (b : Bool) : nl (joinS [x] ++ ⟨#[32]⟩ ++ downS_ b) := by
  have h1 := joinS_size (L := [x]) (by simp) (by simpa using h)
  have h2 : (⟨#[32]⟩ : ByteArray).size = 1 := rfl
  have h3 : (downS_ b).size ≤ 5 := by cases b <;> decide
  unfold nl
  rw [ByteArray.size_append, ByteArray.size_append]
  omega
theorem okI_0 : okI 0 := ⟨by decide, by decide⟩
theorem nl_lit {b : ByteArray} (h : b.size ≤ 100000) : nl b := h
theorem ok_sweep {r : Ru} {z : SS} (h : Fit z.s) : okI (doPlan 0 z (sweepP r z.s)).2.1 := by
  unfold sweepP
  split
  · exact okI_0
  · rename_i f hf
    have hm : f ∈ z.s.fams := List.mem_of_find?_eq_some hf
    have := okI_of (famB_parts (h.fams f hm)).1
    unfold doPlan
    dsimp only
    split
    · exact this
    · exact okI_0
theorem nl_sweep {r : Ru} {z : SS} (h : Fit z.s) : nl (itoS (doPlan 0 z (sweepP r z.s)).2.1) := nl_ito (ok_sweep h)
theorem nl_cutN : nl (txt cutN) := nl_lit (by decide)
theorem nl_killN : nl (txt killN) := nl_lit (by decide)
theorem nl_newN : nl (txt newN) := nl_lit (by decide)
theorem nl_openN : nl (txt openN) := nl_lit (by decide)
theorem nl_saveN : nl (txt saveN) := nl_lit (by decide)
theorem nl_okS : nl ⟨#[111, 107]⟩ := nl_lit (by decide)
theorem nl_helpS : nl helpS := nl_lit (by decide)
structure DH (d : DS) : Prop where
  fit : Fit d.z.s
  ru : ruB d.r = true
  ok : okI d.z.writes
  lg : 0 ≤ d.z.log ∧ d.z.log ≤ 1000000
section
variable {d : DS} (H : DH d) (L : List (List UInt8))
include H
theorem nl_cutD : nl (cutD d L).2.1 := by
  obtain ⟨h, hr, hw, hg⟩ := H
  unfold cutD
  (repeat' split) <;> first | exact nl_none | exact nl_cutN
theorem nl_familiesD : nl (familiesD d L).2.1 := by
  obtain ⟨h, hr, hw, hg⟩ := H
  unfold familiesD
  split <;> first | exact nl_none | exact nl_fams h
theorem nl_grantD : nl (grantD d L).2.1 := by
  obtain ⟨h, hr, hw, hg⟩ := H
  unfold grantD
  split <;> first | exact nl_none | exact nl_grant _ _ _
theorem nl_helpD : nl (helpD d L).2.1 := by
  obtain ⟨h, hr, hw, hg⟩ := H
  unfold helpD
  split <;> first | exact nl_none | exact nl_helpS
theorem nl_killD : nl (killD d L).2.1 := by
  obtain ⟨h, hr, hw, hg⟩ := H
  unfold killD
  (repeat' split) <;> first | exact nl_none | exact nl_killN
theorem nl_leastD : nl (leastD d L).2.1 := by
  obtain ⟨h, hr, hw, hg⟩ := H
  unfold leastD
  split <;> first | exact nl_none | exact nl_least _
theorem nl_logD : nl (logD d L).2.1 := by
  obtain ⟨h, hr, hw, hg⟩ := H
  unfold logD
  split <;> first | exact nl_none | exact nl_log ⟨by omega, by omega⟩ _
theorem nl_mintD : nl (mintD d L).2.1 := by
  obtain ⟨h, hr, hw, hg⟩ := H
  unfold mintD
  split <;> first | exact nl_none | exact nl_mint h hr _
theorem nl_newD : nl (newD d L).2.1 := by
  obtain ⟨h, hr, hw, hg⟩ := H
  unfold newD
  (repeat' split) <;> first | exact nl_none | exact nl_newN
theorem nl_openD : nl (openD d L).2.1 := by
  obtain ⟨h, hr, hw, hg⟩ := H
  unfold openD
  split <;> first | exact nl_none | exact nl_openN
theorem nl_rotateD : nl (rotateD d L).2.1 := by
  obtain ⟨h, hr, hw, hg⟩ := H
  unfold rotateD
  split <;> first | exact nl_none | exact nl_rotate h _ _ _
theorem nl_saveD : nl (saveD d L).2.1 := by
  obtain ⟨h, hr, hw, hg⟩ := H
  unfold saveD
  split <;> first | exact nl_none | exact nl_saveN
theorem nl_showD : nl (showD d L).2.1 := by
  obtain ⟨h, hr, hw, hg⟩ := H
  unfold showD
  split <;> first | exact nl_none | exact nl_show h _
theorem nl_sweepD : nl (sweepD d L).2.1 := by
  obtain ⟨h, hr, hw, hg⟩ := H
  unfold sweepD
  split <;> first | exact nl_none | exact nl_sweep h
theorem nl_tagD : nl (tagD d L).2.1 := by
  obtain ⟨h, hr, hw, hg⟩ := H
  rcases L with _ | ⟨a, _ | ⟨b, _ | ⟨_, L⟩⟩⟩
  · exact nl_none
  · exact nl_none
  · show nl (if numE a = true then (d, txt (tagL (atoiN a) b), (0 : Int)) else bad d 3).2.1
    by_cases hn : numE a = true
    · rw [if_pos hn]
      exact nl_tag _ _
    · rw [if_neg hn]
      exact nl_none
  · exact nl_none
theorem nl_tickD (h' : Fit (tickD d L).1.z.s) : nl (tickD d L).2.1 := by
  obtain ⟨h, hr, hw, hg⟩ := H
  unfold tickD at h' ⊢
  split
  · split
    · rename_i hn
      dsimp only at h'
      rw [if_pos hn] at h'
      exact nl_ito (okI_of h'.clock)
    · exact nl_none
  · exact nl_none
theorem nl_tokenD : nl (tokenD d L).2.1 := by
  obtain ⟨h, hr, hw, hg⟩ := H
  unfold tokenD
  (repeat' split) <;> first | exact nl_none | (rename_i hh; exact nl_tok hh)
theorem nl_writesD : nl (writesD d L).2.1 := by
  obtain ⟨h, hr, hw, hg⟩ := H
  unfold writesD
  split <;> first | exact nl_none | exact nl_ito hw
theorem does_nl (n : List UInt8) (h' : Fit (doesD d n L).1.z.s) : nl (doesD d n L).2.1 := by
  unfold doesD at h' ⊢
  by_cases h_cut : n = cutN
  · simp only [if_pos h_cut] at h' ⊢
    exact nl_cutD H L
  simp only [if_neg h_cut] at h' ⊢
  by_cases h_families : n = familiesN
  · simp only [if_pos h_families] at h' ⊢
    exact nl_familiesD H L
  simp only [if_neg h_families] at h' ⊢
  by_cases h_grant : n = grantN
  · simp only [if_pos h_grant] at h' ⊢
    exact nl_grantD H L
  simp only [if_neg h_grant] at h' ⊢
  by_cases h_help : n = helpN
  · simp only [if_pos h_help] at h' ⊢
    exact nl_helpD H L
  simp only [if_neg h_help] at h' ⊢
  by_cases h_kill : n = killN
  · simp only [if_pos h_kill] at h' ⊢
    exact nl_killD H L
  simp only [if_neg h_kill] at h' ⊢
  by_cases h_least : n = leastN
  · simp only [if_pos h_least] at h' ⊢
    exact nl_leastD H L
  simp only [if_neg h_least] at h' ⊢
  by_cases h_log : n = logN
  · simp only [if_pos h_log] at h' ⊢
    exact nl_logD H L
  simp only [if_neg h_log] at h' ⊢
  by_cases h_mint : n = mintN
  · simp only [if_pos h_mint] at h' ⊢
    exact nl_mintD H L
  simp only [if_neg h_mint] at h' ⊢
  by_cases h_new : n = newN
  · simp only [if_pos h_new] at h' ⊢
    exact nl_newD H L
  simp only [if_neg h_new] at h' ⊢
  by_cases h_open : n = openN
  · simp only [if_pos h_open] at h' ⊢
    exact nl_openD H L
  simp only [if_neg h_open] at h' ⊢
  by_cases h_rotate : n = rotateN
  · simp only [if_pos h_rotate] at h' ⊢
    exact nl_rotateD H L
  simp only [if_neg h_rotate] at h' ⊢
  by_cases h_save : n = saveN
  · simp only [if_pos h_save] at h' ⊢
    exact nl_saveD H L
  simp only [if_neg h_save] at h' ⊢
  by_cases h_show : n = showN
  · simp only [if_pos h_show] at h' ⊢
    exact nl_showD H L
  simp only [if_neg h_show] at h' ⊢
  by_cases h_sweep : n = sweepN
  · simp only [if_pos h_sweep] at h' ⊢
    exact nl_sweepD H L
  simp only [if_neg h_sweep] at h' ⊢
  by_cases h_tagC : n = tagCN
  · simp only [if_pos h_tagC] at h' ⊢
    exact nl_tagD H L
  simp only [if_neg h_tagC] at h' ⊢
  by_cases h_tick : n = tickN
  · simp only [if_pos h_tick] at h' ⊢
    exact nl_tickD H L h'
  simp only [if_neg h_tick] at h' ⊢
  by_cases h_token : n = tokenN
  · simp only [if_pos h_token] at h' ⊢
    exact nl_tokenD H L
  simp only [if_neg h_token] at h' ⊢
  by_cases h_writes : n = writesN
  · simp only [if_pos h_writes] at h' ⊢
    exact nl_writesD H L
  simp only [if_neg h_writes] at h' ⊢
  exact nl_none
end
theorem line_nl {d : DS} (H : DH d) (l : List UInt8) (h' : Fit (lineD d l).1.z.s) : nl (lineD d l).2 := by
  unfold lineD at h' ⊢
  split
  · exact nl_okS
  · rename_i n L e
    rw [e] at h'
    have hn := does_nl H L n h'
    have hc := (does_sm d n L).ok
    unfold told
    dsimp only
    split
    · exact hn
    · have h1 := nl_ito hc
      have h2 : (⟨#[101, 114, 114, 111, 114, 32]⟩ : ByteArray).size = 6 := rfl
      have h3 := joinS_size (L := [(doesD d n L).2.2]) (by simp) (by simpa using hc)
      have e : itoS (doesD d n L).2.2 = joinS [(doesD d n L).2.2] := rfl
      unfold nl errS
      rw [ByteArray.size_append, e]
      omega
end Go.Proofs.YtepjcdjpikbbjaaGreatDoor

/-
  The desk's session: what holds between two lines.
-/
namespace Go.Proofs.YtepjcdjpikbbjaaGreatDoor
open Go.RowKit Go.Sort Go.Lib

def stD (pre : List (List UInt8)) : DS × ByteArray := pre.foldl stepD (ds0, noneS)
theorem stD_snoc (pre : List (List UInt8)) (x : List UInt8) : stD (pre ++ [x]) = ((lineD (stD pre).1 x).1, (stD pre).2 ++ ((lineD (stD pre).1 x).2 ++ ⟨#[10]⟩)) := by
  unfold stD
  rw [List.foldl_append]
  rfl
/-- a state that may be -/
structure DZ (d : DS) : Prop where
  fit : Fit d.z.s
  lg : 0 ≤ d.z.log ∧ d.z.log ≤ 1000000
  ru : ruB d.r = true
theorem DKE.dz {W w : World} {xb k : Nat} {d : DS} (h : DKE W xb k d w) (hk : k ≤ 1000000) : DZ d := by
  obtain ⟨vb, sb, db, v, h⟩ := h
  exact ⟨h.sw.sx.fit, by have := h.sw.sx.log_; omega, h.sw.right⟩
structure SessI (W : World) (bb B : Nat) (pre : List (List UInt8)) (w : World) : Prop where
  dk : DKE W W.heap.size pre.length (stD pre).1 w
  box : Blk w (W.heap.size + 1) 25 #[.pointer (some ⟨W.heap.size, 0, none⟩)]
  bld : IsBuilder 38 5 W.heap.size bb (strCells (stD pre).2) w
  seq : ∃ s, SeqAt B s w
  ok : okI (stD pre).1.z.writes
  sz : (stD pre).2.size ≤ 100001 * pre.length
  zs : ∀ p, p <+: pre → DZ (stD p).1
section
variable {W w w' : World} {bb B : Nat} {pre : List (List UInt8)}
theorem seqAt_kept {s : ByteArray} {row : Option Nat} (h : SeqAt B s w) (hg : w.grownBy w' row) (h0 : some B ≠ row) (h1 : some (B + 1) ≠ row) (h2 : some (B + 1 + 1) ≠ row) (h3 : some 4 ≠ row) : SeqAt B s w' := by
  obtain ⟨a, b, c, m, d⟩ := h
  exact ⟨a.grown hg h0, b.grown hg h1, c.grown hg h2, m, (World.cell?_of_block (hg.block _ (World.block_lt_of_cell? w _ d) h3)).trans d⟩
theorem SessI.odd {l : Nat} (h : SessI W bb B pre w) (hg : w.grownBy w' (some l)) (hl : W.heap.size ≤ l) (hG : 4 < W.heap.size) (ho : ∃ o : Obj, w.heap[l]? = some o ∧ o.isCells = false) : SessI W bb B pre w' := by
  have hod : ∀ o, w.heap[l]? = some o → o.isCells = false := fun o h1 => by
    obtain ⟨o', h2, h3⟩ := ho
    rw [h1] at h2
    cases h2
    exact h3
  have hne : ∀ {g : Nat} {t : TypeId} {cs : Array Value}, Blk w g t cs → some g ≠ some l := fun {g t cs} hb e => by
    cases e
    have := hod _ hb
    cases this
  have hf : Far w w' := Far.of_grown hg fun o h1 => by
    have := hod o h1
    cases o with
    | cells _ _ _ => cases this
    | _ => rfl
  have hfb : FarB w w' := FarB.of_grown hg fun o h1 => by
    have := hod o h1
    cases o with
    | cells _ _ _ => cases this
    | _ => rfl
  have hlt : l < w.heap.size := by
    obtain ⟨o, h1, _⟩ := ho
    exact (Array.getElem?_eq_some_iff.1 h1).1
  have hbl : Below W.heap.size w w' := (Below.refl _ w).grown hg (by omega) (fun k e => by cases e; exact hl)
  obtain ⟨s, hs⟩ := h.seq
  exact ⟨h.dk.far hf hbl, h.box.grown hg (hne h.box), bld_far' h.bld hfb, ⟨s, seqAt_kept hs hg (hne hs.s) (hne hs.sep) (hne hs.save) (by simp; omega)⟩, h.ok, h.sz, h.zs⟩
theorem SessI.turn (h : SessI W bb B pre w) (ht : SeqT B w w') (hl : W.heap.size ≤ B) (hG : 4 < W.heap.size) : SessI W bb B pre w' := by
  obtain ⟨⟨s, hs⟩, ⟨s', hs'⟩, hg⟩ := ht
  have hst : ∀ o, w.heap[B]? = some o → o = .cells #[.string s] 9 (0, 0) := fun o h1 => by
    unfold Blk at hs
    rw [hs] at h1
    exact (Option.some.inj h1).symm
  have hf : Far w w' := Far.of_grown hg fun o h1 => by rw [hst o h1]; rfl
  have hfb : FarB w w' := FarB.of_grown hg fun o h1 => by rw [hst o h1]; rfl
  have hlt := hs.lt
  have hbl : Below W.heap.size w w' := (Below.refl _ w).grown hg (by omega) (fun k e => by cases e; exact hl)
  obtain ⟨x, hx⟩ := h.seq
  obtain ⟨a, b, c, m, d⟩ := hx
  refine ⟨h.dk.far hf hbl, h.box.grown hg (by simpa using h.box.ne_ hs (by decide)), bld_far' h.bld hfb, ⟨s', hs', b.grown hg (by simp), c.grown hg (by simp; omega), m, (World.cell?_of_block (hg.block _ (World.block_lt_of_cell? w _ d) (by simp; omega))).trans d⟩, h.ok, h.sz, h.zs⟩
theorem SessI.keep (h : SessI W bb B pre w) (hb : Below w.heap.size w w') : SessI W bb B pre w' := by
  obtain ⟨vb, sb, db, v, hd⟩ := h.dk
  obtain ⟨s, hs⟩ := h.seq
  have hfb : FarB w w' := ⟨hb.size, fun i o hi _ => (hb.block i (Array.getElem?_eq_some_iff.1 hi).1).trans hi⟩
  exact ⟨⟨vb, sb, db, v, hd.keep hb⟩, h.box.below' hb, bld_far' h.bld hfb, ⟨s, hs.s.below' hb, hs.sep.below' hb, hs.save.below' hb, hs.max.below' hb⟩, h.ok, h.sz, h.zs⟩
/-- at the session's start -/
theorem SessI.start {w4 : World} {t : ByteArray} (hd : DKE W W.heap.size 0 ds0 w4) (hbx : Blk w4 (W.heap.size + 1) 25 #[.pointer (some ⟨W.heap.size, 0, none⟩)]) (hm : MaxL w4) :
    SessI W w4.heap.size (w4.heap.size + 1) [] (seqMem (w4.alloc (.cells #[.pointer none, .slice none 0 0] 38)) t) ∧ SeqAt (w4.heap.size + 1) t (seqMem (w4.alloc (.cells #[.pointer none, .slice none 0 0] 38)) t) ∧ W.heap.size ≤ w4.heap.size := by
  obtain ⟨vb, sb, db, v, hk⟩ := hd
  have hz := DKE.dz ⟨vb, sb, db, v, hk⟩ (by decide)
  have hle := hk.below.size
  have h1 : Below w4.heap.size w4 (w4.alloc (.cells #[.pointer none, .slice none 0 0] 38)) := (Below.refl _ _).alloc (Nat.le_refl _) _
  have hb : Below w4.heap.size w4 (seqMem (w4.alloc (.cells #[.pointer none, .slice none 0 0] 38)) t) := ((h1.alloc h1.size _).alloc (by simp; omega) _).alloc (by simp; omega) _
  have hbk : Blk (seqMem (w4.alloc (.cells #[.pointer none, .slice none 0 0] 38)) t) w4.heap.size 38 #[.pointer none, .slice none 0 0] := (((Blk.new w4 _ _).alloc _).alloc _).alloc _
  have hs0 : Blk (seqMem (w4.alloc (.cells #[.pointer none, .slice none 0 0] 38)) t) (w4.heap.size + 1) 9 #[.string t] := by
    have := ((Blk.new (w4.alloc (.cells #[.pointer none, .slice none 0 0] 38)) 9 #[.string t]).alloc (.cells #[.string ⟨#[10]⟩] 9)).alloc (.cells #[.int .i64 0] 3)
    simpa [seqMem] using this
  have hs1 : Blk (seqMem (w4.alloc (.cells #[.pointer none, .slice none 0 0] 38)) t) (w4.heap.size + 1 + 1) 9 #[.string ⟨#[10]⟩] := by
    have := (Blk.new ((w4.alloc (.cells #[.pointer none, .slice none 0 0] 38)).alloc (.cells #[.string t] 9)) 9 #[.string ⟨#[10]⟩]).alloc (.cells #[.int .i64 0] 3)
    simpa [seqMem] using this
  have hs2 : Blk (seqMem (w4.alloc (.cells #[.pointer none, .slice none 0 0] 38)) t) (w4.heap.size + 1 + 1 + 1) 3 #[.int .i64 0] := by
    have := Blk.new (((w4.alloc (.cells #[.pointer none, .slice none 0 0] 38)).alloc (.cells #[.string t] 9)).alloc (.cells #[.string ⟨#[10]⟩] 9)) 3 #[.int .i64 0]
    simpa [seqMem] using this
  have hsq : SeqAt (w4.heap.size + 1) t (seqMem (w4.alloc (.cells #[.pointer none, .slice none 0 0] 38)) t) := ⟨hs0, hs1, hs2, hm.below' hb⟩
  refine ⟨⟨⟨vb, sb, db, v, hk.keep hb⟩, hbx.below' hb, .inl ⟨hle, .slice none 0 0, hbk, World.ownsRow_nil _ _ _ _, by simp [Value.ownBlock]⟩, ⟨t, hsq⟩, newS_okI, Nat.zero_le _, ?_⟩, hsq, hle⟩
  intro p hp
  obtain rfl := List.prefix_nil.1 hp
  exact hz
/-- behind one more line -/
theorem SessI.next {w1 w2 : World} {x : List UInt8} (h : SessI W bb B pre w) (hk : pre.length < 1000000) (hG : 4 < W.heap.size)
    (hd : DKE W W.heap.size (pre.length + 1) (lineD (stD pre).1 x).1 w1) (hs : StayD w w1)
    (hb : IsBuilder 38 5 W.heap.size bb (strCells (stD pre).2 ++ strCells ((lineD (stD pre).1 x).2 ++ ⟨#[10]⟩)) w2) (hbl : Below W.heap.size w1 w2) (ho : OnlyB w1 w2) :
    SessI W bb B (pre ++ [x]) w2 ∧ KeepsOthers w w2 ∧ SeqK B w w2 := by
  have hd2 := hd.far (Far.of_bld ho) hbl
  have hz := h.zs pre (List.prefix_refl _)
  have hz2 := hd2.dz (by omega)
  have hnl : nl (lineD (stD pre).1 x).2 := line_nl ⟨hz.fit, hz.ru, h.ok, hz.lg⟩ x hz2.fit
  have hkeep : ∀ (i : Nat) (o : Obj), w.heap[i]? = some o → mutB o = false → bldB o = false → w2.heap[i]? = some o := fun i o h1 h2 h3 => ho.block i o (hs.block i o h1 h2) h3
  obtain ⟨s, hsq⟩ := h.seq
  obtain ⟨a, b, c, m, d⟩ := id hsq
  obtain ⟨vb, sb, db, v, hdk⟩ := h.dk
  obtain ⟨vb2, sb2, db2, v2, hdk2⟩ := id hd2
  have hgl : w2.heap[(4 : Nat)]? = w.heap[(4 : Nat)]? := (hdk2.below.block _ hG).trans (hdk.below.block _ hG).symm
  refine ⟨⟨?_, ?_, ?_, ⟨s, hkeep _ _ a rfl rfl, hkeep _ _ b rfl rfl, hkeep _ _ c rfl rfl, m, (World.cell?_of_block hgl).trans d⟩, ?_, ?_, ?_⟩, ⟨Nat.le_trans hs.size ho.size, fun i o h1 h2 => hkeep i o h1 (by cases o <;> first | rfl | cases h2) (by cases o <;> first | rfl | cases h2)⟩, ?_⟩
  · rw [stD_snoc, List.length_append]
    exact hd2
  · exact hkeep _ _ h.box rfl rfl
  · rw [stD_snoc]
    have e : strCells ((stD pre).2 ++ ((lineD (stD pre).1 x).2 ++ ⟨#[10]⟩)) = strCells (stD pre).2 ++ strCells ((lineD (stD pre).1 x).2 ++ ⟨#[10]⟩) := by
      rw [strCells_eq, strCells_eq, strCells_eq, ByteArray.data_append, Array.toList_append, byteCells_append]
    rw [e]
    exact hb
  · rw [stD_snoc]
    exact line_okI h.ok x
  · rw [stD_snoc]
    have h1 := h.sz
    have h2 : (⟨#[10]⟩ : ByteArray).size = 1 := rfl
    have h3 : (lineD (stD pre).1 x).2.size ≤ 100000 := hnl
    dsimp only
    rw [ByteArray.size_append, ByteArray.size_append, List.length_append, List.length_singleton]
    omega
  · intro p hp
    rcases List.prefix_concat_iff.1 hp with rfl | hp
    · rw [stD_snoc]
      exact hz2
    · exact h.zs p hp
  · rintro i o (rfl | rfl | rfl | rfl) h1 _
    · exact hkeep _ _ h1 (by unfold Blk at a; rw [a] at h1; cases h1; rfl) (by unfold Blk at a; rw [a] at h1; cases h1; rfl)
    · exact hkeep _ _ h1 (by unfold Blk at b; rw [b] at h1; cases h1; rfl) (by unfold Blk at b; rw [b] at h1; cases h1; rfl)
    · exact hkeep _ _ h1 (by unfold Blk at c; rw [c] at h1; cases h1; rfl) (by unfold Blk at c; rw [c] at h1; cases h1; rfl)
    · exact hgl.trans h1
end
end Go.Proofs.YtepjcdjpikbbjaaGreatDoor

/-
  The desk: a session.
-/
namespace Go.Proofs.YtepjcdjpikbbjaaGreatDoor
open Go.RowKit Go.Sort Go.Lib

attribute [local go_sem] Oper.semAt_some

theorem trim_l (l : List UInt8) : Lib.trimSuffix l [10] = trimNL l := by
  unfold trimNL Lib.trimSuffix
  by_cases h : l.getLast? = some 10
  · obtain ⟨a, rfl⟩ := List.getLast?_eq_some_iff.1 h
    have h2 : Lib.hasSuffix (a ++ [10]) [10] = true := by simp [Lib.hasSuffix]
    rw [if_pos h, if_pos h2]
    simp
  · have h2 : ¬ Lib.hasSuffix l [10] = true := by
      intro h3
      apply h
      obtain ⟨t, rfl⟩ := List.isSuffixOf_iff_suffix.1 h3
      simp
    rw [if_neg h, if_neg h2]
theorem trim_nl (s : ByteArray) : (⟨(Lib.trimSuffix s.data.toList [10]).toArray⟩ : ByteArray) = txt (trimNL s.data.toList) := by
  rw [trim_l]
  rfl
set_option maxHeartbeats 4000000 in
set_option maxRecDepth 100000 in
theorem session_x (W : World) (henv : Env W.heap.size W) (he : ErrType W) (hg : 1 < W.heap.size) (s : ByteArray) (hs : s.size ≤ 5000) :
    Calls Tryz.prog 5 #[.string s] W fun e w' => (e = .returned (.string (sessD s.data.toList)) ∧ ∀ p, p <+: linesL s.data.toList → DZ (stD p).1) ∧ Below W.heap.size W w' := by
  refine (callsIn_wide (n := 3)).1 ?_
  have HF := Lib.hid (first_fresh W henv he hg)
  have f1 : Fence.wide.fn 7 := trivial
  have f2 : Fence.wide.fn 9 := trivial
  have f3 : Fence.wide.fn 8 := trivial
  have f4 : Fence.wide.fn 12 := trivial
  have h1 : 1 ≤ 3 := by decide
  refine callsIn_of_wp_marks Tryz.func5 rfl trivial ?_ rfl
  simp only [Tryz.ntmps5, List.size_toArray, List.length_cons, List.length_nil, Nat.reduceAdd, Nat.reduceSub, Array.replicate_succ, Array.replicate_zero, List.push_toArray, List.append_toArray, List.nil_append, List.cons_append]
  have HT : Hid (∀ w, Calls Tryz.prog 9 #[.string s, .string ⟨#[10]⟩] w fun e w' => e = .returned (.string (txt (trimNL s.data.toList))) ∧ w' = w) := Lib.hid (fun w => by
    rw [← trim_nl]
    exact Tryz.strings_TrimSuffix s ⟨#[10]⟩ w (by omega))
  have hs2 : ¬ ((20000 : Int) < (s.size : Int)) := by omega
  gi_wp2_with (first
    | (gi_at_call 7; refine (callsIn_wide.2 (HF.out _)).mono ?_; rintro e w4 ⟨rfl, hd, hst⟩
       have hbx := (start_blocks W).2.1.stay hst rfl
       have hc := hbx.cell 0)
    | (gi_at_call 9; refine (callsIn_wide.2 (HT.out _)).mono ?_; rintro e w5 ⟨rfl, hw5⟩; obtain rfl := hw5.symm)
    | (gi_at_call 8; refine (callsIn_wide.2 (seq_made _ _)).mono ?_; rintro e w6 ⟨rfl, hq⟩))
  have hG : 4 < W.heap.size := henv.gm
  have hm4 : MaxL w4 := by
    obtain ⟨vb, sb, db, v, hk⟩ := hd
    exact hk.env.maxl
  obtain ⟨hI0, hsq, hle⟩ := SessI.start (t := txt (trimNL s.data.toList)) hd hbx hm4
  have hlen : (trimNL s.data.toList).length ≤ 5000 := by
    have h1 : s.data.toList.length = s.size := size_data _
    unfold trimNL
    split
    · rw [List.length_dropLast]; omega
    · omega
  have hqd : (txt (trimNL s.data.toList)).data.toList = trimNL s.data.toList := data_txt _
  have hsz : (txt (trimNL s.data.toList)).size ≤ 5000 := hlen
  have hll : linesL s.data.toList = parts 10 (txt (trimNL s.data.toList)).data.toList := by rw [hqd, lines_trim]
  have hpl : (parts 10 (txt (trimNL s.data.toList)).data.toList).length ≤ 5001 := by
    have := parts_len 10 (trimNL s.data.toList)
    rw [hqd]
    omega
  have hsd : sessD s.data.toList = (stD (parts 10 (txt (trimNL s.data.toList)).data.toList)).2 := by unfold sessD stD; rw [hll]
  generalize txt (trimNL s.data.toList) = t at *
  have hw6 : (seqMem (w4.alloc (.cells #[.pointer none, .slice none 0 0] 38)) t).heap.size = w4.heap.size + 4 := by unfold seqMem; simp
  refine wpIn_rangeFunc_told rfl h1 (gf := 56) (lb := #[.pointer (some ⟨w4.heap.size + 1 + 1, 0, none⟩), .pointer (some ⟨w4.heap.size + 1, 0, none⟩), .pointer (some ⟨w4.heap.size + 1 + 1 + 1, 0, none⟩)]) rfl trivial
    (enters_of Tryz.func56 (by kernel_rfl) rfl) (seq_told (3 - 1) (w4.heap.size + 1) (by decide) t _ (by omega) hsq (by omega)) rfl seqT_keeps (fun _ _ _ => seqK_trans) seqK_odd
    (SessI W w4.heap.size (w4.heap.size + 1)) (fun xs A A' l hA hg hl ho => hA.odd hg (by omega) hG ho) (fun pre A A' hA hT => hA.turn hT (by omega) hG) (fun W' _ hg => hI0.keep ⟨hg.os, hg.tape, hg.output, hg.size, fun k hk => hg.block k hk (by simp)⟩)
    (fun x => { tmps := #[.string s, undef, .string ⟨#[]⟩, .pointer (some ⟨W.heap.size + 1, 0, none⟩), .pointer (some ⟨w4.heap.size, 0, none⟩), .string (txt x), .string s, .int .i64 s.size, .bool false,
      .agg #[.pointer none, .pointer none, .pointer none, .int .i64 0, .int .i64 0, .int .i64 0, .int .i64 0], .pointer (some ⟨W.heap.size, 0, none⟩), .pointer (some ⟨W.heap.size, 0, none⟩), .slice (some ⟨W.heap.size + 1 + 1, 0, none⟩) 4 4, .string (txt newN), .string s, .string t, seqV (w4.heap.size + 1), .string (txt x), undef, undef, undef, undef, undef, undef], defers := [] }) ?assign ?body ?done
  case assign =>
    intro l x W' K hK
    gi_wp2
    exact hK
  case body =>
    intro l pre x W' hI hp
    have hpl2 : pre.length < 5001 := by
      have := hp.length_le
      rw [List.length_append, List.length_singleton] at this
      omega
    have hx : x.length ≤ 5000 := by
      have hm : x ∈ parts 10 t.data.toList := hp.subset (by simp)
      exact parts_word_len 10 _ 5000 (by rw [size_list]; exact hsz) x hm
    obtain ⟨vb, sb, db, v, hdk⟩ := hI.dk
    have hc := hI.box.cell 0
    have hz := hI.zs pre (List.prefix_refl _)
    have g1 : Fence.wide.fn 11 := trivial
    have g2 : Fence.wide.fn 10 := trivial
    obtain ⟨d', ans, hda⟩ : ∃ d' ans, lineD (stD pre).1 x = (d', ans) := ⟨_, _, rfl⟩
    have HL0 := desk_line hdk (by omega) hI.ok (fun n L => (does_sm _ n L).ok) (txt x) (by show x.length ≤ _; omega)
    have e0 : lineD ⟨(stD pre).1.r, (stD pre).1.z⟩ x = (d', ans) := hda
    unfold LineDone at HL0
    rw [data_txt, e0] at HL0
    have HL := Lib.hid HL0
    have HI := Lib.hid hI
    have hn7 : ∀ w7, DKE W W.heap.size (pre.length + 1) d' w7 → ans.size ≤ 100000 := fun w7 h7 => by
      have := line_nl (d := (stD pre).1) ⟨hz.fit, hz.ru, hI.ok, hz.lg⟩ x (by rw [hda]; exact (h7.dz (by omega)).fit)
      rw [hda] at this
      exact this
    have hsI := hI.sz
    have hGl : W.heap.size ≤ W'.heap.size := hdk.below.size
    have h10 : (⟨#[10]⟩ : ByteArray).size = 1 := rfl
    have hnx : ∀ w1 w2, DKE W W.heap.size (pre.length + 1) d' w1 → StayD W' w1 → IsBuilder 38 5 W.heap.size w4.heap.size (strCells (stD pre).2 ++ strCells (ans ++ ⟨#[10]⟩)) w2 → Below W.heap.size w1 w2 → OnlyB w1 w2 →
        SessI W w4.heap.size (w4.heap.size + 1) (pre ++ [x]) w2 ∧ KeepsOthers W' w2 ∧ SeqK (w4.heap.size + 1) W' w2 := fun w1 w2 a1 a2 a3 a4 a5 => HI.out.next (by omega) hG (by rw [hda]; exact a1) a2 (by rw [hda]; exact a3) a4 a5
    have HNX := Lib.hid hnx
    have HN7 := Lib.hid hn7
    clear hI hdk hz HL0 e0 hnx hn7
    gi_wp2_with (gi_at_call 11; refine (CallsIn.inRound l (callsIn_wide.2 HL.out)).mono ?_; rintro e w7 ⟨rfl, hd7, hst7⟩
                 have hq7 := HN7.out w7 hd7
                 have hadd := add_any ans ⟨#[10]⟩ (by omega)
                 have H7 := Lib.hid hd7
                 have HS7 := Lib.hid hst7
                 have hs7 := hst7.size
                 clear hd7 hst7)
    have HB7 := bld_far' HI.out.bld (FarB.of_stay HS7.out)
    have HW7 := bld_write2 W.heap.size w4.heap.size _ (ans ++ ⟨#[10]⟩) w7 HB7 (by rw [strCells_length, ByteArray.size_append]; omega) (by omega)
    refine (CallsIn.inRound l (callsIn_wide.2 HW7)).mono ?_
    rintro e w8 ⟨rfl, hb8, hbl8, ho8⟩
    have HN := Lib.hid (HNX.out w7 w8 H7.out HS7.out hb8 hbl8 ho8)
    clear hb8 hbl8 ho8 HW7 HB7
    gi_wp2
    exact ⟨HN.out.2.1, HN.out.2.2, HN.out.1⟩
  case done =>
    intro D W' hD hI hDk
    have hbw : IsBuilder 38 5 W.heap.size w4.heap.size (Lib.byteCells (stD (parts 10 t.data.toList)).2.data.toList) W' := hI.bld
    obtain ⟨vb, sb, db, v, hk⟩ := id hI.dk
    have hblt : w4.heap.size < W'.heap.size := by
      rcases hI.bld with h | h
      · exact h.lt
      · exact h.lt
    have hDb : some D ≠ some w4.heap.size := by
      intro e
      cases e
      rw [hw6] at hD
      omega
    have HBL := Lib.hid hk.below
    have HZ := Lib.hid hI.zs
    have HS := Lib.hid (Tryz.Builder_String_any_k W.heap.size w4.heap.size _ W' (IsBuilderF.of hbw) hk.below.size)
    clear hI hbw hk
    rw [← hll] at HZ
    rw [← hsd] at HS
    clear hsd hll hqd
    obtain ⟨y, hy⟩ : ∃ y, y = sessD s.data.toList := ⟨_, rfl⟩
    rw [← hy] at HS
    have HY := Lib.hid hy
    clear hy
    gi_wp2_with (gi_at_call 12; refine (callsIn_wide.2 HS.out).mono ?_; rintro e w8 ⟨rfl, _, hb8, hk8⟩)
    have hD8 : w8.heap[D]? = some (.deferred (some [])) := hk8 D _ hDk hDb (fun c fz e => by cases e)
    refine ⟨by simp, .inl ⟨_, _, rfl, run_takeDeferred hD8, ?_⟩⟩
    exact ⟨_, results_tmp rfl _ _ _, ⟨by rw [← HY.out]; rfl, HZ.out⟩, (HBL.out.trans hb8).trans (belowK_b (w := W) (Nat.le_refl _) w8 D _ _ (by omega) hD8 rfl rfl)⟩
end Go.Proofs.YtepjcdjpikbbjaaGreatDoor

/-
  DeskPieces: the walk of the law.
-/
namespace Go.Proofs.YtepjcdjpikbbjaaGreatDoor
open Go.RowKit Go.Sort Go.Lib

theorem uniq_ba : uniq [[98], [97]] = [[97], [98]] := (uniq_up _).ext (by unfold Up; decide) fun w => by
  rw [mem_uniq]
  simp [or_comm]
theorem parts_ba : parts 43 [98, 43, 97] = [[98], [97]] := by kernel_rfl
theorem scope_ba : scopeN [98, 43, 97] = 0 := by
  unfold scopeN
  rw [if_neg (by decide), parts_ba, uniq_ba]
  decide
theorem least_ba : leastL [98, 43, 97] = [97, 43, 98] := by
  unfold leastL scopeL
  rw [if_neg (by decide), if_pos scope_ba, parts_ba, uniq_ba]
  rfl
theorem line_ba : lineD ds0 [108, 101, 97, 115, 116, 32, 98, 43, 97] = (ds0, ⟨#[97, 43, 98]⟩) := by
  have e : wordsL [108, 101, 97, 115, 116, 32, 98, 43, 97] = [leastN, [98, 43, 97]] := by kernel_rfl
  have e2 : doesD ds0 leastN [[98, 43, 97]] = (ds0, wordS (txt (leastL [98, 43, 97])), scopeN [98, 43, 97]) := by kernel_rfl
  unfold lineD
  rw [e]
  show told (doesD ds0 leastN [[98, 43, 97]]) = _
  rw [e2, least_ba, scope_ba]
  rfl
theorem sess_small : sessD (⟨#[108, 101, 97, 115, 116, 32, 98, 43, 97, 10, 120, 10]⟩ : ByteArray).data.toList = ⟨#[97, 43, 98, 10, 101, 114, 114, 111, 114, 32, 51, 10]⟩ := by
  have e : linesL (⟨#[108, 101, 97, 115, 116, 32, 98, 43, 97, 10, 120, 10]⟩ : ByteArray).data.toList = [[108, 101, 97, 115, 116, 32, 98, 43, 97], [120]] := by kernel_rfl
  have e2 : lineD ds0 [120] = (ds0, ⟨#[101, 114, 114, 111, 114, 32, 51]⟩) := by kernel_rfl
  unfold sessD
  rw [e, List.foldl_cons, List.foldl_cons, List.foldl_nil]
  unfold stepD
  dsimp only
  rw [line_ba]
  dsimp only
  rw [e2]
  rfl
/-- a session, wherever it begins -/
theorem session_at {B : Nat} {w : World} (henv : Env B w) (he : ErrType w) (hB : B ≤ w.heap.size) (hg : 1 < B) (s : ByteArray) (hs : s.size ≤ 5000) :
    Calls Tryz.prog 5 #[.string s] w fun e w' => e = .returned (.string (sessD s.data.toList)) ∧ Below w.heap.size w w' :=
  (session_x w ⟨henv.tens, henv.maxl, henv.errs, henv.tens.lt, henv.maxl.lt, henv.errs.lt.1, henv.errs.lt.2⟩ he (Nat.lt_of_lt_of_le hg hB) s hs).mono fun _ _ h => ⟨h.1.1, h.2⟩
set_option maxHeartbeats 2000000 in
theorem pieces_true (W : World) (henv : Env W.heap.size W) (he : ErrType W) (hg : 1 < W.heap.size) (a b : ByteArray) (ha : a.size ≤ 4611686018427387904) (hb : b.size ≤ 4611686018427387903) :
    Calls Tryz.prog 4 #[.string a, .string b] W fun e w' => e = .returned (.bool true) ∧ Below W.heap.size W w' := by
  by_cases h : 2500 < a.size + b.size
  · have hh : (2500 : Int) < (a.size : Int) + (b.size : Int) := by omega
    clear h
    go_enter Tryz.func4, Tryz.ntmps4
    go_wp2_with fail
    all_goals first | (exfalso; omega) | (go_ret; exact ⟨rfl, Below.refl _ _⟩)
  · have hh : ¬ (2500 : Int) < (a.size : Int) + (b.size : Int) := by omega
    have h10 : (⟨#[10]⟩ : ByteArray).size = 1 := rfl
    have q1 := add_any a ⟨#[10]⟩ (by omega)
    have q2 := add_any (a ++ ⟨#[10]⟩) b (by rw [ByteArray.size_append]; omega)
    have HS := Lib.hid (fun (B : Nat) (w : World) (henv : Env B w) (he : ErrType w) (hB : B ≤ w.heap.size) (hg : 1 < B) (s : ByteArray) (hs : s.size ≤ 5000) => session_at henv he hB hg s hs)
    obtain ⟨r, hr⟩ := sess_pieces a.data.toList b.data.toList
    have e1 : (a ++ ⟨#[10]⟩ : ByteArray).data.toList = a.data.toList ++ [10] := by rw [ByteArray.data_append, Array.toList_append]
    have e2 : (a ++ ⟨#[10]⟩ ++ b : ByteArray).data.toList = a.data.toList ++ [10] ++ b.data.toList := by rw [ByteArray.data_append, Array.toList_append, e1]
    rw [← e2, ← e1] at hr
    have z1 : (a ++ ⟨#[10]⟩ : ByteArray).size ≤ 5000 := by rw [ByteArray.size_append]; omega
    have z2 : (a ++ ⟨#[10]⟩ ++ b : ByteArray).size ≤ 5000 := by rw [ByteArray.size_append, ByteArray.size_append]; omega
    have H1 := Lib.hid (session_at henv he (Nat.le_refl _) hg ⟨#[108, 101, 97, 115, 116, 32, 98, 43, 97, 10, 120, 10]⟩ (by decide))
    rw [sess_small] at H1
    have HE := Lib.hid (And.intro henv he)
    have HX := Lib.hid (fun w (hb : Below W.heap.size W w) => session_at (henv.keep hb) (he.below hb hg) hb.size hg (a ++ ⟨#[10]⟩) z1)
    have HY := Lib.hid (fun w (hb : Below W.heap.size W w) => session_at (henv.keep hb) (he.below hb hg) hb.size hg (a ++ ⟨#[10]⟩ ++ b) z2)
    generalize sessD (a ++ ⟨#[10]⟩ : ByteArray).data.toList = x at *
    generalize sessD (a ++ ⟨#[10]⟩ ++ b : ByteArray).data.toList = y at *
    have hsz : x.size ≤ y.size := by
      rw [← size_list x, ← size_list y, hr, List.length_append]
      omega
    have hex : y.extract 0 x.size = x := by
      apply ByteArray.ext
      rw [ByteArray.data_extract]
      apply Array.toList_inj.1
      rw [Array.toList_extract, hr, ← size_list x]
      simp
    have hsame : (x.toList == x.toList) = true := by simp
    clear hr e1 e2 henv he
    go_enter Tryz.func4, Tryz.ntmps4
    go_wp2_with fail
    go_at_call 5
    refine H1.out.mono ?_
    rintro e w1 ⟨rfl, hb1⟩
    dsimp only
    have HB1 := Lib.hid hb1
    clear hb1
    go_wp2_with fail
    go_at_call 5
    refine (HX.out _ HB1.out).mono ?_
    rintro e w2 ⟨rfl, hb2⟩
    dsimp only
    have HB2 := Lib.hid (below_2 HB1.out hb2)
    clear hb2
    go_wp2_with fail
    go_at_call 5
    refine (HY.out _ HB2.out).mono ?_
    rintro e w3 ⟨rfl, hb3⟩
    dsimp only
    have HB3 := Lib.hid (below_2 HB2.out hb3)
    clear hb3
    go_wp2_with fail
    all_goals first | (exfalso; omega) | (go_ret; exact ⟨rfl, HB3.out⟩)
end Go.Proofs.YtepjcdjpikbbjaaGreatDoor
