/-
  A region that draws its order and ends in operations that wait for all others (stores): a condition on the world that holds up to them lets the loads be taken first.
-/
import Derived.Test.YtdogilbnbbeljaaGreatDoorH02
import Derived.OrdersHeld
import Derived.Deep.RegionHeld3
import Derived.Test.YtdogilbnbbeljaaGreatDoorH27
import Derived.Test.YtdogilbnbbeljaaGreatDoorH22
import Derived.Test.YtdogilbnbbeljaaGreatDoorH03
namespace Go.Proofs.YtdogilbnbbeljaaGreatDoor
open Go

/-- j waits for i, directly or through others -/
def waitsOn (md : Region.Mode) (ops : Array Oper) (i : Nat) : Nat → Nat → Bool
  | 0, _ => false
  | n + 1, j => match ops[j]? with
    | some o => o.after.any fun e => Region.binds md e && (e.on == i || waitsOn md ops i n e.on)
    | none => false
/-- what is listed waits for nothing that is not -/
def Downed (md : Region.Mode) (ops : Array Oper) (listed : Array Bool) : Prop := ∀ (j : Nat) (o : Oper), ops[j]? = some o → listed.getD j false = true → ∀ e ∈ o.after, Region.binds md e = true → listed.getD e.on false = true
def downB (md : Region.Mode) (ops : Array Oper) (listed : Array Bool) : Bool := (List.range ops.size).all fun j => !listed.getD j false || match ops[j]? with
  | some o => o.after.all fun e => !Region.binds md e || listed.getD e.on false
  | none => true
theorem downB_spec {md : Region.Mode} {ops : Array Oper} {listed : Array Bool} (h : downB md ops listed = true) : Downed md ops listed := by
  intro j o ho hj e he hb
  have hlt : j < ops.size := (Array.getElem?_eq_some_iff.1 ho).1
  have h1 := List.all_eq_true.1 h j (List.mem_range.2 hlt)
  simp only [hj, ho, Bool.not_true, Bool.false_or] at h1
  have h2 := Array.all_eq_true_iff_forall_mem.1 h1 e he
  simpa [hb] using h2
theorem Downed.set {md : Region.Mode} {ops : Array Oper} {listed : Array Bool} (h : Downed md ops listed) {j : Nat} (hj : j ∈ Region.ready md ops listed) : Downed md ops (listed.setIfInBounds j true) := by
  intro k o ho hk e he hb
  obtain ⟨_, oj, hoj, hall⟩ := mem_ready.1 hj
  by_cases hkj : j = k
  · subst hkj
    rw [hoj] at ho
    obtain rfl := Option.some.inj ho
    exact getD_set_true (hall e he hb)
  · rw [getD_set_ne false hkj] at hk
    exact getD_set_true (h k o ho hk e he hb)
theorem waits_listed {md : Region.Mode} {ops : Array Oper} {listed : Array Bool} (h : Downed md ops listed) {i : Nat} : ∀ (n j : Nat), waitsOn md ops i n j = true → listed.getD j false = true → listed.getD i false = true
  | 0, _, hw, _ => by cases hw
  | n + 1, j, hw, hj => by
    unfold waitsOn at hw
    split at hw
    · rename_i o ho
      obtain ⟨e, he, hb⟩ := Array.any_eq_true'.1 hw
      simp only [Bool.and_eq_true, Bool.or_eq_true, beq_iff_eq] at hb
      have h1 := h j o ho hj e he hb.1
      rcases hb.2 with rfl | h2
      · exact h1
      · exact waits_listed h n e.on h2 h1
    · cases hw

section
variable {P : Program} {ops : Array Oper} {Q : Exit → Act → World → Prop} {md : Region.Mode} {S : World → Prop} {T : List Nat}
/-- whatever order is picked; S holds behind every operation that is not of the tail T -/
def wpAnyT (P : Program) (md : Region.Mode) (ops : Array Oper) (Q : Exit → Act → World → Prop) (S : World → Prop) (T : List Nat) : Nat → Array Bool → Act → World → Prop
  | 0, listed, a, w => Region.ready md ops listed = [] ∧ Q .normal a w
  | fuel + 1, listed, a, w =>
    (Region.ready md ops listed = [] → Q .normal a w) ∧
    ∀ i ∈ Region.ready md ops listed, wpOp P ops Q i (fun a' w' => (T.contains i = false → S w') ∧ wpAnyT P md ops Q S T fuel (listed.setIfInBounds i true) a' w') a w
theorem wpAny_of_tail : ∀ (fuel : Nat) (listed : Array Bool) (a : Act) (w : World), wpAnyT P md ops Q S T fuel listed a w → wpAny P md ops Q fuel listed a w
  | 0, _, _, _, h => h
  | fuel + 1, _, _, _, h => ⟨h.1, fun i hi => wpOp_mono (fun a' w' h' => wpAny_of_tail fuel _ a' w' h'.2) (h.2 i hi)⟩
theorem not_listed {i : Nat} {listed : Array Bool} (h : listed.getD i true = false) : listed.getD i false = false := by
  rcases Nat.lt_or_ge i listed.size with h' | h'
  · simp [h'] at h ⊢; exact h
  · simp [Array.getElem?_eq_none h']
theorem wpAnyT_first {i : Nat} {oi : Oper} {v : Value} (hi : ops[i]? = some oi) (hsel : ∀ (j : Nat) (o : Oper) cs b, ops[j]? = some o → o.op ≠ .select cs b)
    (hQ : ∀ c a w, Q (.panic c) (a.put oi.dst v) w → Q (.panic c) a w) (n : Nat) (hT : ∀ j, T.contains j = true → waitsOn md ops i n j = true) :
    ∀ (fuel : Nat) (listed : Array Bool) (a : Act) (w : World), Downed md ops listed →
      (∀ j oj, ops[j]? = some oj → j ≠ i → listed.getD j true = false → (∀ e ∈ oj.after, Region.binds md e = true → e.on ≠ i) → oi.apart ops oj = true) →
      i ∈ Region.ready md ops listed → YieldsIf P ops S oi v a → S w →
      wpAnyT P md ops Q S T fuel (listed.setIfInBounds i true) (a.put oi.dst v) w → wpAnyT P md ops Q S T (fuel + 1) listed a w := by
  intro fuel
  induction fuel with
  | zero =>
    intro listed a w _ _ hr hy hS H
    refine ⟨fun h => (by rw [h] at hr; cases hr), fun j hj => ?_⟩
    by_cases hji : j = i
    · subst hji; exact hy.wpOp hi hS ⟨fun _ => hS, H⟩
    · have := ready_mono hj hji
      rw [H.1] at this
      cases this
  | succ fuel ih =>
    intro listed a w hdown hfree hr hy hS H
    refine ⟨fun h => (by rw [h] at hr; cases hr), fun j hj => ?_⟩
    by_cases hji : j = i
    · subst hji; exact hy.wpOp hi hS ⟨fun _ => hS, H⟩
    · have h1 := H.2 j (ready_mono hj hji)
      have hdown' := hdown.set hj
      have hun := (mem_ready.1 hr).1
      have hnoT : T.contains j = false := by
        rcases hc : T.contains j with _ | _
        · rfl
        · have hw := hT j hc
          have hlj : (listed.setIfInBounds j true).getD j false = true := by
            have hlt : j < listed.size := by
              rcases Nat.lt_or_ge j listed.size with h' | h'
              · exact h'
              · have := (mem_ready.1 hj).1
                simp [Array.getElem?_eq_none h'] at this
            simp [hlt]
          have h2 := waits_listed hdown' n j hw hlj
          rw [getD_set_ne false hji, not_listed hun] at h2
          cases h2
      obtain ⟨hjun, oj, hoj, hall⟩ := mem_ready.1 hj
      have hnot : ∀ e ∈ oj.after, Region.binds md e = true → e.on ≠ i := fun e he hb heq => by
        have h1 := hall e he hb
        rw [heq, not_listed hun] at h1
        cases h1
      have h2 := wpOp_putIf hoj (hfree j oj hoj hji hjun hnot) (fun cs b => hsel i oi cs b hi) (fun cs b => hsel j oj cs b hoj) hQ hy h1
      have hfree' : ∀ k ok, ops[k]? = some ok → k ≠ i → (listed.setIfInBounds j true).getD k true = false →
          (∀ e ∈ ok.after, Region.binds md e = true → e.on ≠ i) → oi.apart ops ok = true := fun k ok hk hki hun hno => by
        refine hfree k ok hk hki ?_ hno
        by_cases hjk : j = k
        · subst hjk; exact hjun
        · rw [getD_set_ne true hjk] at hun; exact hun
      refine wpOp_mono (fun a' w' h3 => ⟨h3.2.1, ih (listed.setIfInBounds j true) a' w' hdown' hfree' (ready_mono hr (Ne.symm hji)) h3.1 (h3.2.1 hnoT) ?_⟩) h2
      rw [Array.setIfInBounds_comm _ _ hji]
      exact h3.2.2
/-- take number i first -/
theorem wpAnyT_take (n : Nat) {i : Nat} {oi : Oper} {v : Value} {fuel : Nat} {listed : Array Bool} {a : Act} {w : World} (hi : ops[i]? = some oi)
    (hs : Region.noSelect ops = true) (hf : Region.free md ops listed i = true) (hr : (Region.ready md ops listed).contains i = true) (hd : downB md ops listed = true) (hT : (T.all fun j => waitsOn md ops i n j) = true)
    (hQ : ∀ c a w, Q (.panic c) (a.put oi.dst v) w → Q (.panic c) a w) (hw : Region.wanted oi (yielded ops a.tmps) = true) (hy : ∀ w, S w → (execOp a.eval oi).run P w = .ok (.value v) w) (hS : S w)
    (h : wpAnyT P md ops Q S T fuel (listed.setIfInBounds i true) (a.put oi.dst v) w) : wpAnyT P md ops Q S T (fuel + 1) listed a w :=
  wpAnyT_first hi (Region.noSelect_spec hs) hQ n (fun j hj => List.all_eq_true.1 hT j (by simpa using hj)) fuel listed a w (downB_spec hd) (Region.free_spec hi hf) (by simpa using hr) (.inl ⟨hw, hy⟩) hS h
/-- take number i first, which is not wanted -/
theorem wpAnyT_skip (n : Nat) {i : Nat} {oi : Oper} {fuel : Nat} {listed : Array Bool} {a : Act} {w : World} (hi : ops[i]? = some oi)
    (hs : Region.noSelect ops = true) (hf : Region.free md ops listed i = true) (hr : (Region.ready md ops listed).contains i = true) (hd : downB md ops listed = true) (hT : (T.all fun j => waitsOn md ops i n j) = true)
    (hQ : ∀ c a w, Q (.panic c) (a.put oi.dst undef) w → Q (.panic c) a w) (hw : Region.wanted oi (yielded ops a.tmps) = false) (hS : S w)
    (h : wpAnyT P md ops Q S T fuel (listed.setIfInBounds i true) (a.put oi.dst undef) w) : wpAnyT P md ops Q S T (fuel + 1) listed a w :=
  wpAnyT_first hi (Region.noSelect_spec hs) hQ n (fun j hj => List.all_eq_true.1 hT j (by simpa using hj)) fuel listed a w (downB_spec hd) (Region.free_spec hi hf) (by simpa using hr) (.inr ⟨hw, rfl⟩) hS h
/-- one alone may come up -/
theorem wpAnyT_one {i : Nat} {oi : Oper} {fuel : Nat} {listed : Array Bool} {a : Act} {w : World} (hr : Region.ready md ops listed = [i]) (hi : ops[i]? = some oi)
    (h : ∀ K' : Act → World → Prop, Shut (∀ a w, (T.contains i = false → S w) → wpAnyT P md ops Q S T fuel (listed.setIfInBounds i true) a w → K' a w) → if Region.wanted oi (yielded ops a.tmps) = true then Oper.wp P oi a w K' Q else K' (a.put oi.dst undef) w) :
    wpAnyT P md ops Q S T (fuel + 1) listed a w := by
  refine ⟨fun h0 => (by rw [hr] at h0; cases h0), fun j hj => ?_⟩
  rw [hr, List.mem_singleton] at hj
  subst hj
  exact wpOp_step hi fun K' hK => h K' (fun a w h1 h2 => hK a w ⟨h1, h2⟩)
/-- either of two may come up -/
theorem wpAnyT_two {i j : Nat} {oi oj : Oper} {fuel : Nat} {listed : Array Bool} {a : Act} {w : World} (hr : Region.ready md ops listed = [i, j]) (hi : ops[i]? = some oi) (hj : ops[j]? = some oj)
    (h1 : ∀ K' : Act → World → Prop, Shut (∀ a w, (T.contains i = false → S w) → wpAnyT P md ops Q S T fuel (listed.setIfInBounds i true) a w → K' a w) → if Region.wanted oi (yielded ops a.tmps) = true then Oper.wp P oi a w K' Q else K' (a.put oi.dst undef) w)
    (h2 : ∀ K' : Act → World → Prop, Shut (∀ a w, (T.contains j = false → S w) → wpAnyT P md ops Q S T fuel (listed.setIfInBounds j true) a w → K' a w) → if Region.wanted oj (yielded ops a.tmps) = true then Oper.wp P oj a w K' Q else K' (a.put oj.dst undef) w) :
    wpAnyT P md ops Q S T (fuel + 1) listed a w := by
  refine ⟨fun h0 => (by rw [hr] at h0; cases h0), fun k hk => ?_⟩
  rw [hr, List.mem_cons, List.mem_singleton] at hk
  rcases hk with rfl | rfl
  · exact wpOp_step hi fun K' hK => h1 K' (fun a w h1 h2 => hK a w ⟨h1, h2⟩)
  · exact wpOp_step hj fun K' hK => h2 K' (fun a w h1 h2 => hK a w ⟨h1, h2⟩)
theorem wpAnyT_done {listed : Array Bool} {a : Act} {w : World} (hr : Region.ready md ops listed = []) (h : Q .normal a w) : ∀ fuel, wpAnyT P md ops Q S T fuel listed a w
  | 0 => ⟨hr, h⟩
  | _ + 1 => ⟨fun _ => h, by rw [hr]; simp⟩
theorem wp_region_tail (S : World → Prop) (T : List Nat) {id : Nat} {a : Act} {w : World} (hm : P.follows .mixedOrders = true) (h : wpAnyT P .any ops Q S T ops.size (Array.replicate ops.size false) a w.drew) : (Code.region id ops true).wp P Q a w :=
  wp_region_any hm (wpAny_of_tail _ _ _ _ h)
end
end Go.Proofs.YtdogilbnbbeljaaGreatDoor

/-
  store.Store's load: a slot that has no words, or not six.
-/
namespace Go.Proofs.YtdogilbnbbeljaaGreatDoor
open Go.RowKit Go.Sort

theorem slot_k (k : Nat) : slotAt ((k : Int) % 2).toNat = slotAt k := by
  unfold slotAt
  congr 2
  omega
theorem slot_k_top (k : Nat) : slotAt k + 21 ≤ 90 := by
  unfold slotAt
  omega
set_option maxHeartbeats 4000000 in
set_option maxRecDepth 100000 in
theorem load_bad (B sb db : Nat) (D : Dk) (s : St) (v : Value) (n f x : Int) (down : Bool) (W : World) (h : SD B sb db D s v n f x down W) (hf : D.fits) (k : Nat) (hk : k < 2) (l : List UInt8) (b : Bool) (hol : openL tagL (blkOf D (slotAt k)) = if b then some l else none) (hl0 : b = false → l = []) (hll : l.length ≤ 240) (hbad : b = false ∨ (parts 32 l).length ≠ 6) :
    Calls Tryz.prog 27 #[.pointer (some ⟨sb, 0, none⟩), .int .i64 k] W (LoadGot W none) := by
  have HS := Lib.hid h
  have H0 : Hid (LD W ⟨0, 0, []⟩ (.slice none 0 0) (W.alloc (.cells (stCs ⟨0, 0, []⟩ (.slice none 0 0)) 36))) := Lib.hid LD.start
  have HSL := Lib.hid (fun w => store_slot (k : Int) w (by omega) (by omega))
  rw [slot_k] at HSL
  have htop := slot_k_top k
  have HRD := Lib.hid (fun w hd => disk_read db D (slotAt k) w hd (by omega))
  have HOP := Lib.hid (fun w => store_opened (D.blk.getD (slotAt k) ByteArray.empty) w (by have := hf (slotAt k); omega))
  have HOP : Hid (∀ w, Calls Tryz.prog 48 #[.string (D.blk.getD (slotAt k) ByteArray.empty)] w fun e w' => e = .returned (.tuple #[.string (txt l), .bool b]) ∧ Below w.heap.size w w') := Lib.hid fun w => by
    have h1 := HOP.out w
    have h2 : openL tagL (D.blk.getD (slotAt k) ByteArray.empty).data.toList = if b then some l else none := hol
    rw [h2] at h1
    refine h1.mono ?_
    rintro e w' ⟨⟨x2, b2, rfl, h3⟩, hb⟩
    rcases b with _ | _
    · obtain ⟨rfl, rfl⟩ := h3
      rw [hl0 rfl]
      exact ⟨rfl, hb⟩
    · obtain ⟨rfl, rfl⟩ := h3
      exact ⟨rfl, hb⟩
  have HSP := Lib.hid (fun w hm => split_row 32 (txt l) w.heap.size w (by rw [txt_size_]; omega) hm (Nat.le_refl _))
  rw [data_txt] at HSP
  have hpl := parts_len 32 l
  generalize parts 32 l = L at *
  generalize txt l = tl at *
  generalize D.blk.getD (slotAt k) ByteArray.empty = blk at *
  obtain ⟨ck, nx, Ls⟩ := s
  obtain ⟨c0, c1, c2, c3, c4, c5, c6, c7, z, hlt⟩ := h.cells
  clear h hol hl0
  unfold stCs at H0
  dsimp only at H0
  go_enter Tryz.func27, Tryz.ntmps27
  go_wp2_with fail
  go_at_call 29
  refine (HSL.out _).mono ?_
  rintro e w1 ⟨rfl, rfl⟩
  go_wp2_with fail
  refine (HRD.out _ (HS.out.keep H0.out.below).disk).mono ?_
  rintro e w2 ⟨rfl, rfl⟩
  go_wp2_with fail
  go_at_call 48
  refine (HOP.out _).mono ?_
  rintro e w3 ⟨rfl, hb⟩
  have H3 := Lib.hid (H0.out.keep hb)
  clear hb
  go_wp2_with fail
  go_at_call 49
  refine (HSP.out _ (HS.out.keep H3.out.below).env.maxl).mono ?_
  rintro e w4 ⟨v4, rfl, ⟨g4, c4', rfl, -⟩, hb⟩
  have H4 := Lib.hid (H3.out.keep hb)
  clear hb H3 H0
  obtain ⟨m0, m1, m2, mz, mlt⟩ := H4.out.cells
  rcases hbad with rfl | hne
  · go_wp2_with fail
    go_region
    go_wp2_with fail
    exact load_end (LD.same H4.out).drew rfl rfl rfl rfl rfl rfl
  · have hne1 : ((L.length : Int) != 6) = true := by simpa using (by omega : ¬ (L.length : Int) = 6)
    cases b
    all_goals
      go_wp2_with fail
      go_region
      go_wp2_with fail
      exact load_end (LD.same H4.out).drew rfl rfl rfl rfl rfl rfl
end Go.Proofs.YtdogilbnbbeljaaGreatDoor

/-
  The event that the program reads out of a line's words is the one that the reference tries, in plain Lean.
-/
namespace Go.Proofs.YtdogilbnbbeljaaGreatDoor

theorem wordL_unL {d : List UInt8} : wordL (unL d) = d ↔ d ≠ [] := by
  unfold unL
  by_cases h : d = [95]
  · subst h; rw [if_pos rfl]; simp [wordL]
  · rw [if_neg h]
    unfold wordL
    by_cases h0 : d = []
    · subst h0; simp
    · rw [if_neg h0]; simp [h0]
theorem deadL_is {i : List UInt8} : deadL (decide (i = [49])) = i ↔ i = [48] ∨ i = [49] := by
  unfold deadL
  by_cases h : i = [49]
  · subst h; simp
  · simp only [h, decide_false, Bool.false_eq_true, if_false, or_false]
    exact eq_comm
theorem unL_of {l : List UInt8} (h : nameB l = true) : unL l = l := by
  unfold unL
  rw [if_neg]
  rintro rfl
  revert h
  decide
theorem famB_eq (a : Int) (b c d : ByteArray) (e f g : Int) (h : ByteArray) (i : Bool) : famB ⟨a, b, c, d, e, f, g, h, i⟩ = (okN a && okN e && okN f && okN g && nameB b.data.toList && nameB c.data.toList && reqB h.data.toList && scopeB d.data.toList) := rfl
theorem famV_nine (a b c d e f g h i : List UInt8) (r : List (List UInt8)) : famV (a :: b :: c :: d :: e :: f :: g :: h :: i :: r, false) = ⟨atoiN a, txt (unL b), txt (unL c), txt (unL d), atoiN e, atoiN f, atoiN g, txt (unL h), decide (i = [49])⟩ := rfl
theorem famS_nine (a b c d e f g h i : List UInt8) (r : List (List UInt8)) : famS (a :: b :: c :: d :: e :: f :: g :: h :: i :: r, false) = (r, ((((((((false || !numE a) || decide (b = [])) || decide (c = [])) || decide (d = [])) || !numE e) || !numE f) || !numE g) || decide (h = [])) || (!decide (i = [48]) && !decide (i = [49]))) := rfl
/-- fewer words than nine -/
theorem famS_few {r : List (List UInt8)} (h : r.length < 9) : (famS (r, false)).2 = true := by
  have e0 : numE [] = false := by decide
  rcases r with _ | ⟨a, _ | ⟨b, _ | ⟨c, _ | ⟨d, _ | ⟨e, _ | ⟨f, _ | ⟨g, _ | ⟨h, _ | ⟨i, r⟩⟩⟩⟩⟩⟩⟩⟩⟩
  all_goals first | (simp [famS, numS, textS, nextS, nextV, e0]; done) | (simp at h; omega)
theorem nine (a b c d e f g h i : List UInt8) :
    (progB ([112] :: [a, b, c, d, e, f, g, h, i], false) = (evB (cand ([112] :: [a, b, c, d, e, f, g, h, i])) && decide (evW (cand ([112] :: [a, b, c, d, e, f, g, h, i])) = [112] :: [a, b, c, d, e, f, g, h, i]))) ∧
    (progB ([112] :: [a, b, c, d, e, f, g, h, i], false) = true → (progE ([112] :: [a, b, c, d, e, f, g, h, i], false)).1 = cand ([112] :: [a, b, c, d, e, f, g, h, i])) := by
  have e1 : progE ([112] :: [a, b, c, d, e, f, g, h, i], false) = (⟨1, famV ([a, b, c, d, e, f, g, h, i], false), 0, 0⟩, famS ([a, b, c, d, e, f, g, h, i], false)) := rfl
  have e2 : cand ([112] :: [a, b, c, d, e, f, g, h, i]) = ⟨1, ⟨atoiN a, txt b, txt c, txt (unL d), atoiN e, atoiN f, atoiN g, txt (unL h), decide (i = [49])⟩, 0, 0⟩ := rfl
  have e3 : evW ⟨1, ⟨atoiN a, txt b, txt c, txt (unL d), atoiN e, atoiN f, atoiN g, txt (unL h), decide (i = [49])⟩, 0, 0⟩ = [[112], Lib.itoa (atoiN a), b, c, wordL (unL d), Lib.itoa (atoiN e), Lib.itoa (atoiN f), Lib.itoa (atoiN g), wordL (unL h), deadL (decide (i = [49]))] := by
    rw [evW_1 rfl]
    simp only [famW, data_txt]
  constructor
  · unfold progB
    rw [e1, e2, e3, famV_nine, famS_nine]
    dsimp only
    rw [evB_one, evB_one, famB_eq, famB_eq, data_txt, data_txt, data_txt, data_txt, data_txt, data_txt, nameB_un, nameB_un, Bool.eq_iff_iff]
    simp only [Bool.and_eq_true, Bool.not_eq_true', Bool.or_eq_false_iff, Bool.not_eq_false', decide_eq_true_eq, decide_eq_false_iff_not, Bool.false_or, List.cons.injEq, true_and, and_true, wordL_unL, deadL_is, Bool.and_eq_false_iff]
    constructor
    · rintro ⟨⟨⟨⟨⟨⟨⟨⟨⟨ha, hb⟩, hc⟩, hd⟩, he⟩, hf⟩, hg⟩, hh⟩, hi⟩, hX⟩
      refine ⟨hX, ?_⟩
      unfold numE at ha he hf hg
      simp only [Bool.and_eq_true, decide_eq_true_eq] at ha he hf hg
      refine ⟨ha.2, hd, he.2, hf.2, hg.2, hh, ?_⟩
      exact hi
    · rintro ⟨hX, ha, hd, he, hf, hg, hh, hi⟩
      refine ⟨⟨⟨⟨⟨⟨⟨⟨⟨?_, ?_⟩, ?_⟩, hd⟩, ?_⟩, ?_⟩, ?_⟩, hh⟩, ?_⟩, hX⟩
      · rw [numE_of hX.1.1.1.1.1.1.1]; simpa using ha
      · exact nameB_ne hX.1.1.1.2
      · exact nameB_ne hX.1.1.2
      · rw [numE_of hX.1.1.1.1.1.1.2]; simpa using he
      · rw [numE_of hX.1.1.1.1.1.2]; simpa using hf
      · rw [numE_of hX.1.1.1.1.2]; simpa using hg
      · rcases hi with hi | hi
        · exact .inl (by simp [hi])
        · exact .inr (by simp [hi])
  · intro hp
    unfold progB at hp
    rw [e1] at hp ⊢
    rw [e2, famV_nine] at *
    dsimp only at hp ⊢
    rw [evB_one, famB_eq] at hp
    simp only [Bool.and_eq_true, data_txt, nameB_un] at hp
    rw [unL_of hp.2.1.1.1.2, unL_of hp.2.1.1.2]
theorem cand_ten {ps : List (List UInt8)} (h : ps.length = 10) : evW (cand ps) = [112] :: famW (cand ps).fam := by
  rcases ps with _ | ⟨x, _ | ⟨a, _ | ⟨b, _ | ⟨c, _ | ⟨d, _ | ⟨e, _ | ⟨f, _ | ⟨g, _ | ⟨h, _ | ⟨i, _ | ⟨j, r⟩⟩⟩⟩⟩⟩⟩⟩⟩⟩⟩
  all_goals first | (simp at h; done) | rfl
theorem cand_odd {ps : List (List UInt8)} (h1 : ps.length ≠ 10) (h2 : ps.length ≠ 2) : cand ps = Ev.zero := by
  rcases ps with _ | ⟨x, _ | ⟨a, _ | ⟨b, _ | ⟨c, _ | ⟨d, _ | ⟨e, _ | ⟨f, _ | ⟨g, _ | ⟨h, _ | ⟨i, _ | ⟨j, r⟩⟩⟩⟩⟩⟩⟩⟩⟩⟩⟩
  all_goals first | (simp at h1 h2; done) | rfl
theorem no_cand {x : List UInt8} {r : List (List UInt8)} (h10 : x ≠ [112] ∨ r.length ≠ 9) (h2 : (x ≠ [100] ∧ x ≠ [99]) ∨ r.length ≠ 1) : (evB (cand (x :: r)) && decide (evW (cand (x :: r)) = x :: r)) = false := by
  by_cases hl : r.length = 9
  · have hx : x ≠ [112] := h10.resolve_right fun h => h hl
    rw [cand_ten (by simp [hl])]
    simp [Ne.symm hx]
  · by_cases hl1 : r.length = 1
    · obtain ⟨a, rfl⟩ := List.length_eq_one_iff.1 hl1
      obtain ⟨hx1, hx2⟩ := h2.resolve_right fun h => h rfl
      have : cand [x, a] = ⟨3, Fam.zero, 0, atoiN a⟩ := by
        show (if x = [100] then _ else _) = _
        rw [if_neg hx1]
      rw [this, evW_3 rfl]
      simp [Ne.symm hx2]
    · rw [cand_odd (by simp; omega) (by simp; omega), evB_zero]
      rfl
/-- what the program takes is what the reference takes -/
theorem prog_cand (ps : List (List UInt8)) : progB (ps, false) = (evB (cand ps) && decide (evW (cand ps) = ps)) ∧ (progB (ps, false) = true → (progE (ps, false)).1 = cand ps) := by
  rcases ps with _ | ⟨x, r⟩
  · exact ⟨by decide, fun h => absurd h (by decide)⟩
  · by_cases hp : x = [112]
    · subst hp
      by_cases hl : r.length = 9
      · rcases r with _ | ⟨a, _ | ⟨b, _ | ⟨c, _ | ⟨d, _ | ⟨e, _ | ⟨f, _ | ⟨g, _ | ⟨h, _ | ⟨i, _ | ⟨j, r⟩⟩⟩⟩⟩⟩⟩⟩⟩⟩
        all_goals first | (simp at hl; done) | exact nine _ _ _ _ _ _ _ _ _
      · have e0 : progB ([112] :: r, false) = false := by
          unfold progB
          rw [show progE ([112] :: r, false) = (⟨1, famV (r, false), 0, 0⟩, famS (r, false)) from rfl]
          by_cases h9 : r.length < 9
          · rw [famS_few h9]; rfl
          · rcases r with _ | ⟨a, _ | ⟨b, _ | ⟨c, _ | ⟨d, _ | ⟨e, _ | ⟨f, _ | ⟨g, _ | ⟨h, _ | ⟨i, _ | ⟨j, r⟩⟩⟩⟩⟩⟩⟩⟩⟩⟩
            all_goals first | (simp at hl h9; done) | (rw [famS_nine]; simp)
        rw [e0, no_cand (.inr hl) (.inl ⟨by decide, by decide⟩)]
        exact ⟨rfl, fun h => by cases h⟩
    · by_cases hd : x = [100]
      · subst hd
        have e1 : progE ([100] :: r, false) = (⟨2, Fam.zero, numV (r, false), 0⟩, numS (r, false)) := rfl
        by_cases hl : r.length = 1
        · obtain ⟨a, rfl⟩ := List.length_eq_one_iff.1 hl
          have e2 : cand [[100], a] = ⟨2, Fam.zero, atoiN a, 0⟩ := rfl
          constructor
          · unfold progB
            rw [e1, e2, evB_two, evW_2 rfl]
            show (!(false || !numE a) && decide (([] : List (List UInt8)) = []) && evB ⟨2, Fam.zero, atoiN a, 0⟩) = _
            rw [evB_two]
            have := okN_numE (l := a)
            simp only [Bool.false_or, Bool.not_not, decide_true, Bool.and_true, List.cons.injEq, true_and, and_true]
            rw [Bool.and_comm]
            exact this
          · intro _
            rw [e1, e2]
            rfl
        · have e0 : progB ([100] :: r, false) = false := by
            unfold progB
            rw [e1]
            rcases r with _ | ⟨a, _ | ⟨b, r⟩⟩
            · rfl
            · simp at hl
            · simp [numS, nextS]
          rw [e0, no_cand (.inl (by decide)) (.inr hl)]
          exact ⟨rfl, fun h => by cases h⟩
      · by_cases hc : x = [99]
        · subst hc
          have e1 : progE ([99] :: r, false) = (⟨3, Fam.zero, 0, numV (r, false)⟩, numS (r, false)) := rfl
          by_cases hl : r.length = 1
          · obtain ⟨a, rfl⟩ := List.length_eq_one_iff.1 hl
            have e2 : cand [[99], a] = ⟨3, Fam.zero, 0, atoiN a⟩ := rfl
            constructor
            · unfold progB
              rw [e1, e2, evB_three, evW_3 rfl]
              show (!(false || !numE a) && decide (([] : List (List UInt8)) = []) && evB ⟨3, Fam.zero, 0, atoiN a⟩) = _
              rw [evB_three]
              have := okN_numE (l := a)
              simp only [Bool.false_or, Bool.not_not, decide_true, Bool.and_true, List.cons.injEq, true_and, and_true]
              rw [Bool.and_comm]
              exact this
            · intro _
              rw [e1, e2]
              rfl
          · have e0 : progB ([99] :: r, false) = false := by
              unfold progB
              rw [e1]
              rcases r with _ | ⟨a, _ | ⟨b, r⟩⟩
              · rfl
              · simp at hl
              · simp [numS, nextS]
            rw [e0, no_cand (.inl (by decide)) (.inr hl)]
            exact ⟨rfl, fun h => by cases h⟩
        · have e0 : progB (x :: r, false) = false := by
            unfold progB progE
            show (!(if x = [112] then _ else if x = [100] then _ else if x = [99] then _ else _ : Ev × Rd).2.2 && _ && _) = false
            rw [if_neg hp, if_neg hd, if_neg hc]
            rfl
          rw [e0, no_cand (.inl hp) (.inl ⟨hd, hc⟩)]
          exact ⟨rfl, fun h => by cases h⟩
theorem prog_read (l : List UInt8) : progB (parts 32 l, false) = readB l ∧ (readB l = true → (progE (parts 32 l, false)).1 = readE l) := by
  obtain ⟨h1, h2⟩ := prog_cand (parts 32 l)
  refine ⟨h1, fun h => ?_⟩
  rw [h2 (by rw [h1]; exact h)]
  unfold readE
  rw [if_pos h]
end Go.Proofs.YtdogilbnbbeljaaGreatDoor
