/-
  What the reference makes of families is what the program makes: in order, the same ones.
-/
import Derived.Test.YtckohmhhcknmaaaGreatDoorP03
import Derived.Test.YtckohmhhcknmaaaGreatDoorP10
import Derived.Test.YtckohmhhcknmaaaGreatDoorP07
import Derived.Shelf.SlSortFuncK.WholeK
import Derived.Shelf.GgSortFunc.Tiny
import Derived.Test.YtckohmhhcknmaaaGreatDoorP11
import Derived.Maps.OwnOps
import Derived.Maps.OwnSet
import Derived.Maps.Views
import Derived.StringKeys
namespace Go.Proofs.YtckohmhhcknmaaaGreatDoor

theorem Asc.ext : ∀ {a b : List Fam}, Asc a → Asc b → (∀ f, f ∈ a ↔ f ∈ b) → a = b
  | [], [], _, _, _ => rfl
  | [], g :: b, _, _, h => absurd ((h g).2 (List.mem_cons_self ..)) (by simp)
  | f :: a, [], _, _, h => absurd ((h f).1 (List.mem_cons_self ..)) (by simp)
  | f :: a, g :: b, ha, hb, h => by
    obtain ⟨a1, a2⟩ := List.pairwise_cons.1 ha
    obtain ⟨b1, b2⟩ := List.pairwise_cons.1 hb
    have e : f = g := by
      rcases List.mem_cons.1 ((h f).1 (List.mem_cons_self ..)) with e | h1
      · exact e
      rcases List.mem_cons.1 ((h g).2 (List.mem_cons_self ..)) with e | h2
      · exact e.symm
      have := a1 _ h2
      have := b1 _ h1
      omega
    subst e
    rw [Asc.ext a2 b2]
    intro x
    constructor
    · intro hx
      rcases List.mem_cons.1 ((h x).1 (List.mem_cons_of_mem _ hx)) with rfl | h1
      · have := a1 _ hx
        omega
      · exact h1
    · intro hx
      rcases List.mem_cons.1 ((h x).2 (List.mem_cons_of_mem _ hx)) with rfl | h1
      · have := b1 _ hx
        omega
      · exact h1
/-- the other families than that one -/
def others (L : List Fam) (n : Int) : List Fam := L.filter fun f => decide (f.id ≠ n)
theorem mem_others {L : List Fam} {n : Int} {f : Fam} : f ∈ others L n ↔ f ∈ L ∧ f.id ≠ n := by
  unfold others
  rw [List.mem_filter, decide_eq_true_eq]
theorem others_asc {L : List Fam} (h : Asc L) (n : Int) : Asc (others L n) := h.sublist List.filter_sublist
theorem others_len (L : List Fam) (n : Int) : (others L n).length ≤ L.length := List.length_filter_le _ _
theorem mem_L {L : List Fam} (k : Nat) {f : Fam} : f ∈ L ↔ f ∈ L.take k ∨ f ∈ L.drop k := by
  rw [← List.mem_append, List.take_append_drop]
theorem mem_drop_one {L : List Fam} {n : Int} (hb : hasB L n = true) {f : Fam} (hne : f.id ≠ n) (h : f ∈ L.drop (ahead L n)) : f ∈ L.drop (ahead L n + 1) := by
  have hlt := hasB_lt hb
  rw [List.drop_eq_getElem_cons hlt] at h
  rw [hasB_some (List.getElem?_eq_getElem hlt), decide_eq_true_eq] at hb
  rcases List.mem_cons.1 h with rfl | h
  · exact absurd hb hne
  · exact h
theorem mem_dropL_iff {L : List Fam} (ha : Asc L) {n : Int} {f : Fam} : f ∈ dropL L n ↔ f ∈ L ∧ f.id ≠ n := by
  unfold dropL
  by_cases hb : hasB L n = true
  · rw [if_pos hb, List.mem_append]
    constructor
    · rintro (h | h)
      · have := take_below h
        exact ⟨List.mem_of_mem_take h, by omega⟩
      · have := drop_over ha hb h
        exact ⟨List.mem_of_mem_drop h, by omega⟩
    · rintro ⟨h, hne⟩
      rcases (mem_L (ahead L n)).1 h with h | h
      · exact .inl h
      · exact .inr (mem_drop_one hb hne h)
  · rw [if_neg hb]
    refine ⟨fun h => ⟨h, ?_⟩, fun h => h.1⟩
    rcases (mem_L (ahead L n)).1 h with h | h
    · have := take_below h
      omega
    · have := drop_over' ha (by simpa using hb) h
      omega
theorem dropL_others {L : List Fam} (ha : Asc L) (n : Int) : dropL L n = others L n :=
  (dropL_asc ha n).ext (others_asc ha n) fun f => by rw [mem_dropL_iff ha, mem_others]
theorem mem_putL_iff {L : List Fam} (ha : Asc L) {f g : Fam} : g ∈ putL L f ↔ g = f ∨ g ∈ L ∧ g.id ≠ f.id := by
  unfold putL
  by_cases hb : hasB L f.id = true
  · rw [if_pos hb, set_parts (hasB_lt hb), List.mem_append, List.mem_cons]
    constructor
    · rintro (h | rfl | h)
      · have := take_below h
        exact .inr ⟨List.mem_of_mem_take h, by omega⟩
      · exact .inl rfl
      · have := drop_over ha hb h
        exact .inr ⟨List.mem_of_mem_drop h, by omega⟩
    · rintro (rfl | ⟨h, hne⟩)
      · exact .inr (.inl rfl)
      · rcases (mem_L (ahead L f.id)).1 h with h | h
        · exact .inl h
        · exact .inr (.inr (mem_drop_one hb hne h))
  · rw [if_neg hb, List.mem_append, List.mem_cons]
    constructor
    · rintro (h | rfl | h)
      · have := take_below h
        exact .inr ⟨List.mem_of_mem_take h, by omega⟩
      · exact .inl rfl
      · have := drop_over' ha (by simpa using hb) h
        exact .inr ⟨List.mem_of_mem_drop h, by omega⟩
    · rintro (rfl | ⟨h, hne⟩)
      · exact .inr (.inl rfl)
      · rcases (mem_L (ahead L f.id)).1 h with h | h
        · exact .inl h
        · exact .inr (.inr h)
/-- no two of one number -/
theorem others_apart {L : List Fam} (ha : Asc L) (f : Fam) : (others L f.id ++ [f]).Pairwise fun a b => a.id ≠ b.id := by
  refine List.pairwise_append.2 ⟨(others_asc ha f.id).imp fun h => by omega, List.pairwise_singleton .., ?_⟩
  intro a h b hb
  rw [List.mem_singleton] at hb
  subst hb
  exact (mem_others.1 h).2
/-- the others and that one, put in order by number, are the row with that one put -/
theorem sorted_putL {L R : List Fam} (ha : Asc L) {f : Fam} (hp : R.Perm (others L f.id ++ [f])) (hs : R.Pairwise fun a b => a.id ≤ b.id) : R = putL L f := by
  have hne : R.Pairwise fun a b => a.id ≠ b.id := (hp.symm.pairwise_iff fun h => Ne.symm h).1 (others_apart ha f)
  have hR : Asc R := by
    refine (hs.and hne).imp ?_
    rintro a b ⟨h1, h2⟩
    omega
  refine hR.ext (putL_asc ha f) fun g => ?_
  rw [hp.mem_iff, List.mem_append, List.mem_singleton, mem_others, mem_putL_iff ha]
  exact Or.comm
end Go.Proofs.YtckohmhhcknmaaaGreatDoor

/-
  sort.Slice of families by number, as the reference's Apply calls it.
-/
namespace Go.Proofs.YtckohmhhcknmaaaGreatDoor
open Go.RowKit Go.Sort Go.Lib

instance : Inhabited Fam := ⟨Fam.zero⟩
def encF (f : Fam) : List Value := (famCs f).toList
def ltF (a b : Fam) : Bool := decide (a.id < b.id)
theorem swo_ltF : SWO ltF := ⟨fun x => by simp [ltF], fun x y z h1 h2 => by simp only [ltF, decide_eq_true_eq] at *; omega, fun x y z h1 h2 => by simp only [ltF, decide_eq_false_iff_not] at *; omega⟩
theorem flat_encF (L : List Fam) : flatK encF 9 L.toArray = (flat L).toArray := by
  refine ext_get! (by simp [flat_len]) fun t ht => ?_
  have ht' : t < L.length * 9 := by simpa using ht
  rw [get_flatK _ _ _ _ (by simpa using ht')]
  have hi : t / 9 < L.length := by omega
  have hj : t % 9 < 9 := by omega
  have hg := flat_get (List.getElem?_eq_getElem hi) (t % 9) hj
  rw [show t / 9 * 9 + t % 9 = t by omega] at hg
  have e1 : (L.toArray)[t / 9]! = L[t / 9] := by simp [hi]
  rw [e1]
  have e2 : (encF L[t / 9])[t % 9]! = ((famCs L[t / 9])[t % 9]?).getD default := by
    unfold encF
    rw [List.getElem!_eq_getElem?_getD, Array.getElem?_toList]
  rw [e2, ← hg]
  simp

/-- the reference's closure: it reads its variable and two families' numbers -/
theorem fam_less (blk c Bs size : Nat) (W : World) (G : Nat → Int) (hs : W.cell? ⟨Bs, 0, none⟩ = some (.slice (some ⟨blk, 0, none⟩) size c))
    (hc : ∀ t, t < size → W.cell? ⟨blk, t * 9, none⟩ = some (.int .i64 (G t))) (i j : Nat) (hi : i < size) (hj : j < size) :
    Calls Tryz.prog 155 #[.int .i64 i, .int .i64 j, .pointer (some ⟨Bs, 0, none⟩)] W fun e w' => e = .returned (.bool (decide (G i < G j))) ∧ ∃ q, w' = W.drewN q := by
  have ci := hc i hi
  have cj := hc j hj
  have h0 : (0 : Int) ≤ (i : Int) := by omega
  have h1 : (i : Int) < (size : Int) := by omega
  have h2 : (0 : Int) ≤ (j : Int) := by omega
  have h3 : (j : Int) < (size : Int) := by omega
  clear hc hi hj
  go_enter Tryz.func155, Tryz.ntmps155
  go_wp2_with fail
  go_quiet (fail)
  go_wp2_with fail
  go_ret
  exact ⟨rfl, nq, rfl⟩

noncomputable def rowT : TypeInfo := (Tryz.prog.info? 37).get (by kernel_rfl)
noncomputable def rowE : TypeInfo := (Tryz.prog.info? 79).get (by kernel_rfl)
theorem rowK (n : Nat) (h2 : 2 ≤ n) : Lib.swapperK n rowE 25 = 9 := by
  have a : rowE.hasPointers = true := by kernel_rfl
  have b : rowE.bytes = 104 := by kernel_rfl
  have c : (n == 0) = false := by simp; omega
  have d : (n == 1) = false := by simp; omega
  simp [Lib.swapperK, a, b, c, d]
theorem rowK0 : Lib.swapperK 0 rowE 25 = 1 := rfl
theorem rowK1 : Lib.swapperK 1 rowE 25 = 2 := rfl

theorem holds_fams {w : World} {B g cap : Nat} {L : List Fam} (h : FRow w B (.slice (some ⟨g, 0, none⟩) L.length cap) L) : HoldsK encF 9 w g 0 L.toArray := by
  unfold HoldsK
  rw [flat_encF]
  rcases h.parts with ⟨e, _⟩ | ⟨g', cap', e, h1, h2, h3, h4, h5, h6, h7⟩
  · simp at e
  · simp only [Value.slice.injEq, Option.some.injEq, Addr.mk.injEq, and_true, true_and] at e
    obtain ⟨rfl, rfl⟩ := e
    intro j hj
    have hj' : j < L.length * 9 := by simpa [flat_len] using hj
    rw [Nat.zero_add]
    refine ⟨?_, h5 j⟩
    rw [h7 j hj', List.getElem?_eq_getElem (by rw [flat_len]; exact hj')]
    simp [flat_len, hj']
theorem heap_put {w : World} {g n : Nat} {os : Array Obj} {cur : Array Value} {T : TypeId} (F : Array Value) (hb : Blk w g T cur) : Blk (grow (putRow id (Sort.ahead w n) g 0 F) os) g T (putCells id 0 F cur) := by
  have hg := hb.lt
  unfold Blk at *
  rw [heap_grow_old _ _ (by simpa using hg)]
  simp [putRow, mapBlock, Sort.ahead, Array.getElem?_modify, hb, onCells]
theorem only_put {w : World} {g n : Nat} {os : Array Obj} (F : Array Value) : w.grownBy (grow (putRow id (Sort.ahead w n) g 0 F) os) (some g) := by
  refine ⟨rfl, rfl, rfl, by simp, fun k hk hne => ?_⟩
  rw [heap_grow_old _ _ (by simpa using hk)]
  have : g ≠ k := fun e => hne (by rw [e])
  simp [putRow, mapBlock, Sort.ahead, Array.getElem?_modify, this]
theorem take_put (cur : Array Value) (xs : List Value) (h : xs.length ≤ cur.size) : (putCells id 0 xs.toArray cur).toList.take xs.length = xs := by
  apply List.ext_getElem?
  intro j
  by_cases hj : j < xs.length
  · rw [List.getElem?_take_of_lt hj, Array.getElem?_toList]
    simp [putCells, hj, show j < cur.size by omega]
  · rw [List.getElem?_take_eq_none (by omega), List.getElem?_eq_none (by omega)]
theorem only_grow (w : World) (os : Array Obj) (row : Option Nat) : w.grownBy (grow w os) row :=
  ⟨rfl, rfl, rfl, by simp, fun k hk _ => heap_grow_old _ _ hk⟩

theorem perm_whole {d d' : Array Fam} (h : PermIn 0 d.size d d') : d'.toList.Perm d.toList := by
  obtain ⟨h1, _, h3⟩ := h
  have e1 : d'.extract 0 d.size = d' := by rw [← h1]; exact Array.extract_size
  have e2 : d.extract 0 d.size = d := Array.extract_size
  rwa [e1, e2] at h3
theorem sorted_whole {d' : Array Fam} {n : Nat} (hn : d'.size = n) (h : SortedIn ltF 0 n d') : d'.toList.Pairwise fun a b => a.id ≤ b.id := by
  rw [List.pairwise_iff_getElem]
  intro i j hi hj hij
  have hi' : i < d'.size := by simpa using hi
  have hj' : j < d'.size := by simpa using hj
  have := h i j (Nat.zero_le _) hij (by omega)
  rw [getElem!_pos d' i hi', getElem!_pos d' j hj'] at this
  simp only [ltF, decide_eq_false_iff_not] at this
  simp only [Array.getElem_toList]
  omega

/-- what the sort leaves -/
def SortGot (w : World) (B : Nat) (v : Value) (L : List Fam) (e : Ending) (w' : World) : Prop :=
  e = .returned (.tuple #[]) ∧ ∃ R : List Fam, R.Perm L ∧ (R.Pairwise fun a b => a.id ≤ b.id) ∧ R.length = L.length ∧ FRow w' B v R ∧ w.grownBy w' v.ownBlock

theorem fam_sort_many (B vb g cap : Nat) (L : List Fam) (w : World) (h : FRow w B (.slice (some ⟨g, 0, none⟩) L.length cap) L) (h2 : 2 ≤ L.length) (hL : L.length ≤ 2000000) (hv : w.cell? ⟨vb, 0, none⟩ = some (.slice (some ⟨g, 0, none⟩) L.length cap)) (hne : vb ≠ g) :
    Calls Tryz.prog 154 #[.iface 37 (.slice (some ⟨g, 0, none⟩) L.length cap), .func (.func 155) #[] #[.pointer (some ⟨vb, 0, none⟩)]] w (SortGot w B (.slice (some ⟨g, 0, none⟩) L.length cap) L) := by
  have hH := holds_fams h
  have hvb := World.block_lt_of_cell? w _ hv
  obtain ⟨g', cap', cur, he, hBg, hblk, hlc, hm, hc, ht⟩ : ∃ g' cap' cur, Value.slice (some ⟨g, 0, none⟩) L.length cap = .slice (some ⟨g', 0, none⟩) L.length cap' ∧ B ≤ g' ∧ Blk w g' 79 cur ∧ L.length ≤ cap' ∧ cap' ≤ 9223372036854775807 ∧ cur.size = cap' * 9 ∧ cur.toList.take (L.length * 9) = flat L := by
    rcases h.block with ⟨e, _⟩ | h
    · simp at e
    · exact h
  simp only [Value.slice.injEq, Option.some.injEq, Addr.mk.injEq, and_true, true_and] at he
  obtain ⟨rfl, rfl⟩ := he
  have hless : LessReadsK Tryz.prog 155 #[.pointer (some ⟨vb, 0, none⟩)] encF 9 ltF g 0 L.toArray.size w := by
    intro m os dk hs i j hi hj
    have e : sortWorldK encF 9 w g 0 m dk os = putRowK encF 9 (grow (Sort.ahead w m) os) g 0 dk := by
      unfold sortWorldK; rw [putRowK_grow _ _ (Sort.ahead w m) _ g 0 _ hblk.lt]
    have hHg : HoldsK encF 9 (grow (Sort.ahead w m) os) g 0 L.toArray := holdsK_grow _ _ _ _ g 0 _ hblk.lt (holdsK_ahead _ _ _ _ _ _ _ hH)
    refine fam_less g cap vb L.toArray.size _ (fun t => dk[t]!.id) ?_ (fun t ht => ?_) i j hi hj
    · rw [e, cell?_putRowK_other _ _ _ g 0 dk _ (by exact hne), cell?_grow _ _ _ (by exact hvb)]
      simpa using hv
    · rw [e]
      have := ((holdsK_putRowK _ _ _ g 0 _ dk hHg hs).cell (i := t) (c := 0) (by omega) (by omega)).1
      rw [Nat.zero_add, Nat.add_zero] at this
      exact this
  have hsz : L.toArray.size = L.length := by simp
  have hcall := Any.sort_Slice_cells_sorted Tryz.sl6 37 79 rowT rowE (by kernel_rfl) (by kernel_rfl) (by kernel_rfl) (by kernel_rfl) 25 (fun _ => by kernel_rfl) encF 9 (fun _ => rfl) (by kernel_rfl) (fun _ => by kernel_rfl)
    (fun x u hu => flat_one (L := [x]) (by simpa [flat, encF] using hu)) ltF swo_ltF 155 _
    (enters_of Tryz.func155 (by kernel_rfl) rfl) g 0 cap L.toArray (by rw [hsz]; exact h2) (by rw [hsz]; omega) 229 (by rw [rowK _ (by rw [hsz]; exact h2)]; kernel_rfl) false
    (fun args W => run_callFunc_extern Tryz.func229 (by kernel_rfl) (by kernel_rfl) (by kernel_rfl) (e := Extern.ReflectliteSwapper.swap false) (by kernel_rfl) args W) w hless hH hblk.lt
  rw [hsz] at hcall
  refine hcall.mono ?_
  rintro e w' ⟨rfl, d', n, os, hp, hs, rfl⟩
  have hp' := perm_whole (d := L.toArray) (by rw [hsz]; exact hp)
  have hlen : d'.size = L.length := hp.1.trans hsz
  have hll : d'.toList.length = L.length := by simpa using hlen
  refine ⟨rfl, d'.toList, by simpa using hp', sorted_whole hlen hs, hll, ?_, ?_⟩
  · unfold putRowK
    rw [show d' = d'.toList.toArray from rfl, flat_encF]
    have hb := heap_put (n := n) (os := os) (flat d'.toList).toArray hblk
    rw [← hll]
    refine FRow.of_block hBg hb (by omega) hm (by simp [putCells, hc]) ?_
    rw [← flat_len]
    exact take_put cur _ (by rw [flat_len]; omega)
  · exact only_put _

theorem fam_sort (B vb : Nat) (v : Value) (L : List Fam) (w : World) (h : FRow w B v L) (hL : L.length ≤ 2000000) (hv : w.cell? ⟨vb, 0, none⟩ = some v) (hne : v.ownBlock ≠ some vb) :
    Calls Tryz.prog 154 #[.iface 37 v, .func (.func 155) #[] #[.pointer (some ⟨vb, 0, none⟩)]] w (SortGot w B v L) := by
  by_cases h2 : 2 ≤ L.length
  · rcases h.parts with ⟨rfl, rfl⟩ | ⟨g, cap, rfl, _⟩
    · simp at h2
    · exact fam_sort_many B vb g cap L w h h2 hL hv (by intro e; apply hne; simp [Value.ownBlock, e])
  · have hpw : L.Pairwise fun a b => a.id ≤ b.id := by
      rw [List.pairwise_iff_getElem]
      intro i j hi hj hij
      omega
    have hn : L.length = 0 ∨ L.length = 1 := by omega
    obtain ⟨p, c, hv'⟩ : ∃ p c, v = .slice p L.length c := by
      rcases h.parts with ⟨rfl, rfl⟩ | ⟨g, cap, rfl, _⟩
      · exact ⟨_, _, rfl⟩
      · exact ⟨_, _, rfl⟩
    rw [hv'] at h ⊢
    obtain ⟨f, hf⟩ : ∃ f, Tryz.prog.funcs.findIdx? (·.name == "internal/reflectlite" ++ ".Swapper$" ++ toString (swapperK L.length rowE 25)) = some f := by
      rcases hn with e | e
      · rw [e, rowK0]; exact ⟨221, by kernel_rfl⟩
      · rw [e, rowK1]; exact ⟨222, by kernel_rfl⟩
    refine (Any.sort_Slice_tiny Tryz.sl6 37 79 rowT rowE (by kernel_rfl) (by kernel_rfl) (by kernel_rfl) (by kernel_rfl) 25 (fun _ => by kernel_rfl) p L.length c (by omega) f hf (.func 155) #[] #[.pointer (some ⟨vb, 0, none⟩)] w).mono ?_
    rintro e w' ⟨rfl, os, rfl⟩
    refine ⟨rfl, L, List.Perm.refl _, hpw, rfl, ?_, only_grow w os _⟩
    exact h.kept (only_grow w os (some w.heap.size)) (fun e => by have := (h.lt _ e).2; omega)
end Go.Proofs.YtckohmhhcknmaaaGreatDoor

/-
  The reference's Apply: a state behind an event.
-/
namespace Go.Proofs.YtckohmhhcknmaaaGreatDoor
open Go.RowKit Go.Sort

/-- the reference's Apply under way: its state's cells, its event, the row that it reads, the one that it makes -/
structure RP (W : World) (B : Nat) (cs : Array Value) (e : Ev) (v0 : Value) (Lf : List Fam) (v : Value) (L : List Fam) (w : World) : Prop where
  below : Below W.heap.size W w
  st : Blk w W.heap.size 39 cs
  ev : Blk w (W.heap.size + 1) 137 (evCs e)
  re : Blk w (W.heap.size + 1 + 1) 39 #[.int .i64 0, .int .i64 0, .slice none 0 0]
  var : Blk w (W.heap.size + 1 + 1 + 1) 37 #[v]
  row : FRow w (W.heap.size + 1 + 1 + 1 + 1) v L
  src : FRow w B v0 Lf
  low : ∀ g, v0.ownBlock = some g → g < W.heap.size

section
variable {W : World} {B : Nat} {cs : Array Value} {e : Ev} {v0 v : Value} {Lf L : List Fam} {w w' : World}
theorem RP.far (h : RP W B cs e v0 Lf v L w) {g : Nat} (hg : g ≤ W.heap.size + 1 + 1 + 1) : v.ownBlock ≠ some g := fun he => by have := (h.row.lt _ he).1; omega
theorem RP.near (h : RP W B cs e v0 Lf v L w) {g : Nat} (hg : W.heap.size ≤ g) : v0.ownBlock ≠ some g := fun he => by have := h.low _ he; omega
theorem RP.keep (h : RP W B cs e v0 Lf v L w) (hb : Below w.heap.size w w') : RP W B cs e v0 Lf v L w' :=
  ⟨h.below.trans (hb.mono h.below.size), h.st.below' hb, h.ev.below' hb, h.re.below' hb, h.var.below' hb, h.row.below hb, h.src.below hb, h.low⟩
/-- a cell of the state is set -/
theorem RP.set (h : RP W B cs e v0 Lf v L w) (i : Nat) (u : Value) {cs' : Array Value} (hc : cs.setIfInBounds i u = cs') : RP W B cs' e v0 Lf v L (w.setCell ⟨W.heap.size, i, none⟩ u) := by
  have hg := only_set1 w W.heap.size ⟨W.heap.size, i, none⟩ rfl u
  refine ⟨h.below.setCell (Nat.le_refl _) u, ?_, h.ev.far (by show W.heap.size + 1 ≠ W.heap.size; omega) u, h.re.far (by show W.heap.size + 1 + 1 ≠ W.heap.size; omega) u, h.var.far (by show W.heap.size + 1 + 1 + 1 ≠ W.heap.size; omega) u, h.row.kept hg (h.far (by omega)), h.src.kept hg (h.near (Nat.le_refl _)), h.low⟩
  rw [← hc]
  exact h.st.set_ i u
/-- the row's block is turned -/
theorem RP.turn (h : RP W B cs e v0 Lf v L w) (hg : w.grownBy w' v.ownBlock) {L' : List Fam} (hr : FRow w' (W.heap.size + 1 + 1 + 1 + 1) v L') : RP W B cs e v0 Lf v L' w' := by
  have hne : ∀ g, g ≤ W.heap.size + 1 + 1 + 1 → some g ≠ v.ownBlock := fun g hg => Ne.symm (h.far hg)
  refine ⟨h.below.grown hg h.below.size (fun k hk => by have := (h.row.lt k hk).1; omega), h.st.grown hg (hne _ (by omega)), h.ev.grown hg (hne _ (by omega)), h.re.grown hg (hne _ (by omega)), h.var.grown hg (hne _ (by omega)), hr, World.ownsRow.kept h.src hg ?_, h.low⟩
  rcases hv : v0.ownBlock with _ | g
  · exact .inl rfl
  · refine .inr fun he => ?_
    have := h.low g hv
    have := (h.row.lt g he.symm).1
    omega
/-- another row is stored -/
theorem RP.go (h : RP W B cs e v0 Lf v L w) (hg : w.grownBy w' v.ownBlock) {v' : Value} {L' : List Fam} (hr : FRow w' (W.heap.size + 1 + 1 + 1 + 1) v' L') : RP W B cs e v0 Lf v' L' (w'.setCell ⟨W.heap.size + 1 + 1 + 1, 0, none⟩ v') := by
  have hne : ∀ g, g ≤ W.heap.size + 1 + 1 + 1 → some g ≠ v.ownBlock := fun g hg => Ne.symm (h.far hg)
  have k1 := h.below.grown hg h.below.size (fun k hk => by have := (h.row.lt k hk).1; omega)
  have k2 := h.st.grown hg (hne _ (by omega))
  have k3 := h.ev.grown hg (hne _ (by omega))
  have k4 := h.re.grown hg (hne _ (by omega))
  have k5 := h.var.grown hg (hne _ (by omega))
  have k6 : FRow w' B v0 Lf := World.ownsRow.kept h.src hg (by
    rcases hv : v0.ownBlock with _ | g
    · exact .inl rfl
    · refine .inr fun he => ?_
      have := h.low g hv
      have := (h.row.lt g he.symm).1
      omega)
  have hs := only_set1 w' (W.heap.size + 1 + 1 + 1) ⟨W.heap.size + 1 + 1 + 1, 0, none⟩ rfl v'
  exact ⟨k1.setCell (by show W.heap.size ≤ W.heap.size + 1 + 1 + 1; omega) v', k2.far (by show W.heap.size ≠ W.heap.size + 1 + 1 + 1; omega) v', k3.far (by show W.heap.size + 1 ≠ W.heap.size + 1 + 1 + 1; omega) v', k4.far (by show W.heap.size + 1 + 1 ≠ W.heap.size + 1 + 1 + 1; omega) v', k5.set_ 0 v', hr.kept hs (fun he => by have := (hr.lt _ he).1; omega), k6.kept hs (h.near (by omega)), h.low⟩
theorem RP.cells {k0 k1 k2 : Value} (h : RP W B #[k0, k1, k2] e v0 Lf v L w) : w.cell? ⟨W.heap.size, 0, none⟩ = some k0 ∧ w.cell? ⟨W.heap.size, 1, none⟩ = some k1 ∧ w.cell? ⟨W.heap.size, 2, none⟩ = some k2 ∧ w.cell? ⟨W.heap.size + 1 + 1 + 1, 0, none⟩ = some v ∧
    w.cell? ⟨W.heap.size + 1 + 1, 0, none⟩ = some (.int .i64 0) ∧ w.cell? ⟨W.heap.size + 1 + 1, 1, none⟩ = some (.int .i64 0) ∧ w.cell? ⟨W.heap.size + 1 + 1, 2, none⟩ = some (.slice none 0 0) ∧ (∀ j, w.frozen? ⟨W.heap.size, j, none⟩ = false) ∧ (∀ j, w.frozen? ⟨W.heap.size + 1 + 1, j, none⟩ = false) ∧ (∀ j, w.frozen? ⟨W.heap.size + 1 + 1 + 1, j, none⟩ = false) :=
  st_cells h.st h.re h.var
theorem RP.lts (h : RP W B cs e v0 Lf v L w) : W.heap.size < w.heap.size ∧ W.heap.size + 1 < w.heap.size ∧ W.heap.size + 1 + 1 < w.heap.size ∧ W.heap.size + 1 + 1 + 1 < w.heap.size := ⟨h.st.lt, h.ev.lt, h.re.lt, h.var.lt⟩
end
def rallocs (W : World) (s : St) (e : Ev) (v : Value) : World := (((W.alloc (.cells (stCs s v) 39)).alloc (.cells (evCs e) 137)).alloc (.cells #[.int .i64 0, .int .i64 0, .slice none 0 0] 39)).alloc (.cells #[.slice none 0 0] 37)
theorem RP.start {W : World} {B : Nat} {s : St} {e : Ev} {v : Value} (hr : FRow W B v s.fams) : RP W B (stCs s v) e v s.fams (.slice none 0 0) [] (rallocs W s e v) := by
  have hb : Below W.heap.size W (rallocs W s e v) := ((((Below.refl W.heap.size W).alloc (Nat.le_refl _) _).alloc (by simp) _).alloc (by simp; omega) _).alloc (by simp; omega) _
  have a1 : Blk (rallocs W s e v) W.heap.size 39 (stCs s v) := (((Blk.new W _ _).alloc _).alloc _).alloc _
  have a2 : Blk (rallocs W s e v) (W.heap.size + 1) 137 (evCs e) := by
    have := ((Blk.new (W.alloc (.cells (stCs s v) 39)) 137 (evCs e)).alloc (.cells #[.int .i64 0, .int .i64 0, .slice none 0 0] 39)).alloc (.cells #[.slice none 0 0] 37)
    simpa [rallocs] using this
  have a3 : Blk (rallocs W s e v) (W.heap.size + 1 + 1) 39 #[.int .i64 0, .int .i64 0, .slice none 0 0] := by
    have := (Blk.new ((W.alloc (.cells (stCs s v) 39)).alloc (.cells (evCs e) 137)) 39 #[.int .i64 0, .int .i64 0, .slice none 0 0]).alloc (.cells #[.slice none 0 0] 37)
    simpa [rallocs] using this
  have a4 : Blk (rallocs W s e v) (W.heap.size + 1 + 1 + 1) 37 #[.slice none 0 0] := by
    have := Blk.new (((W.alloc (.cells (stCs s v) 39)).alloc (.cells (evCs e) 137)).alloc (.cells #[.int .i64 0, .int .i64 0, .slice none 0 0] 39)) 37 #[.slice none 0 0]
    simpa [rallocs] using this
  exact ⟨hb, a1, a2, a3, a4, FRow.nil _ _, hr.below hb, fun g hg => (hr.lt g hg).2⟩
theorem rp_end {W w : World} {A : Act} {B : Nat} {s' : St} {e : Ev} {v v0 vz : Value} {Lf : List Fam} {ck nx : Int} (h : RP W B #[.int .i64 ck, .int .i64 nx, vz] e v0 Lf v s'.fams w) (h1 : ck = s'.clock) (h2 : nx = s'.next)
    (hp : A.tmps.getD 4 undef = .pointer (some ⟨W.heap.size + 1 + 1, 0, none⟩)) (hd : A.defers = []) :
    bodyPost Tryz.prog Tryz.f115 (ApplyGot W s') Exit.ret A ((((w.setCell ⟨W.heap.size, 2, none⟩ v).setCell ⟨W.heap.size + 1 + 1, 0, none⟩ (.int .i64 ck)).setCell ⟨W.heap.size + 1 + 1, 1, none⟩ (.int .i64 nx)).setCell ⟨W.heap.size + 1 + 1, 2, none⟩ v) := by
  subst h1
  subst h2
  have k := h.set 2 v rfl
  have h1 := k.re.put_ 0 (.int .i64 s'.clock) (cs' := #[.int .i64 s'.clock, .int .i64 0, .slice none 0 0]) rfl
  have h2 := h1.put_ 1 (.int .i64 s'.next) (cs' := #[.int .i64 s'.clock, .int .i64 s'.next, .slice none 0 0]) rfl
  have hr := h2.put_ 2 v (cs' := stCs s' v) rfl
  have g1 := only_set1 (w.setCell ⟨W.heap.size, 2, none⟩ v) (W.heap.size + 1 + 1) ⟨W.heap.size + 1 + 1, 0, none⟩ rfl (.int .i64 s'.clock)
  have g2 := only_setCell g1 (p := ⟨W.heap.size + 1 + 1, 1, none⟩) (.inl rfl) (.int .i64 s'.next)
  have hg := only_setCell g2 (p := ⟨W.heap.size + 1 + 1, 2, none⟩) (.inl rfl) v
  have hb := k.below.grown hg k.below.size (fun j hj => by cases hj; omega)
  have hrow := k.row.kept hg (k.far (by omega))
  generalize ((((w.setCell ⟨W.heap.size, 2, none⟩ v).setCell ⟨W.heap.size + 1 + 1, 0, none⟩ (.int .i64 s'.clock)).setCell ⟨W.heap.size + 1 + 1, 1, none⟩ (.int .i64 s'.next)).setCell ⟨W.heap.size + 1 + 1, 2, none⟩ v) = wz at *
  exact bodyPost_ret (results_cell_row rfl A.tmps wz _ _ _ (0, 0) _ hp hr Tryz.underlying39 rfl (by kernel_rfl)) hd ⟨v, rfl, hrow.mono (by omega), hb⟩

theorem others_take {L : List Fam} {n : Int} {k : Nat} {f : Fam} (hf : L[k]? = some f) : others (L.take (k + 1)) n = others (L.take k) n ++ if f.id ≠ n then [f] else [] := by
  rw [List.take_add_one, hf]
  unfold others
  rw [List.filter_append]
  congr 1
  by_cases h : f.id = n
  · simp [h]
  · simp [h]

theorem FRow.app {w : World} {B : Nat} {v : Value} {L : List Fam} {f : Fam} (h : w.ownsRow B 79 9 v (L.length + 1) (flat L ++ (famCs f).toList)) : FRow w B v (L ++ [f]) := by
  unfold FRow
  rw [List.length_append, flat_app]
  have e : flat [f] = (famCs f).toList := by simp [flat]
  rw [e]
  exact h
theorem news_at {w : World} {g : Nat} {T : TypeId} {cs : Array Value} (h : Blk w g T cs) : ∀ j u, cs.toList[j]? = some u → w.cell? ((⟨g, 0, none⟩ : Addr).add j) = some u := by
  intro j u hj
  rw [Addr.add_lit, Nat.zero_add, h.cell j]
  rwa [Array.getElem?_toList] at hj
theorem row_slice {w : World} {B : Nat} {T : TypeId} {z n : Nat} {v : Value} {xs : List Value} (h : w.ownsRow B T z v n xs) : ∃ a m c, v = .slice a m c := by
  rcases h.2 with ⟨rfl, _⟩ | ⟨g, cap, cur, rfl, _⟩
  · exact ⟨_, _, _, rfl⟩
  · exact ⟨_, _, _, rfl⟩
def twice (w : World) (f : Fam) : World := (w.alloc (.cells (famCs f) 79)).alloc (.cells (famCs f) 79)
theorem RP.twice_ {W : World} {B : Nat} {cs : Array Value} {e : Ev} {v0 v : Value} {Lf L : List Fam} {w : World} (h : RP W B cs e v0 Lf v L w) (f : Fam) : RP W B cs e v0 Lf v L (twice w f) ∧ (twice w f).ownsRow (W.heap.size + 1 + 1 + 1 + 1) 79 9 v L.length (flat L) ∧
    (∀ j u, (famCs f).toList[j]? = some u → (twice w f).cell? ((⟨w.heap.size + 1, 0, none⟩ : Addr).add j) = some u) ∧ W.heap.size + 1 + 1 + 1 + 1 ≤ (twice w f).heap.size := by
  have k := h.keep (((Below.refl w.heap.size w).alloc (Nat.le_refl _) (.cells (famCs f) 79)).alloc (by simp) (.cells (famCs f) 79))
  refine ⟨k, k.row, ?_, by have := k.var.lt; show _ ≤ (twice w f).heap.size; unfold twice; omega⟩
  have hb := Blk.new (w.alloc (.cells (famCs f) 79)) 79 (famCs f)
  have := news_at hb
  simpa [twice] using this
def once (w : World) (f : Fam) : World := w.alloc (.cells (famCs f) 79)
theorem RP.once_ {W : World} {B : Nat} {cs : Array Value} {e : Ev} {v0 v : Value} {Lf L : List Fam} {w : World} (h : RP W B cs e v0 Lf v L w) (f : Fam) : RP W B cs e v0 Lf v L (once w f) ∧ (once w f).ownsRow (W.heap.size + 1 + 1 + 1 + 1) 79 9 v L.length (flat L) ∧
    (∀ j u, (famCs f).toList[j]? = some u → (once w f).cell? ((⟨w.heap.size, 0, none⟩ : Addr).add j) = some u) ∧ W.heap.size + 1 + 1 + 1 + 1 ≤ (once w f).heap.size := by
  have k := h.keep ((Below.refl w.heap.size w).alloc (Nat.le_refl _) (.cells (famCs f) 79))
  exact ⟨k, k.row, news_at (Blk.new w 79 (famCs f)), by have := k.var.lt; show _ ≤ (once w f).heap.size; unfold once; omega⟩
theorem RP.news {W : World} {B : Nat} {cs : Array Value} {e : Ev} {v : Value} {Lf L : List Fam} {w : World} {g cap : Nat} (h : RP W B cs e (.slice (some ⟨g, 0, none⟩) Lf.length cap) Lf v L w) : ∀ j u, (flat Lf)[j]? = some u → w.cell? ((⟨g, 0, none⟩ : Addr).add j) = some u := by
  intro j u hj
  have hjl := (List.getElem?_eq_some_iff.1 hj).1
  rw [flat_len] at hjl
  rcases h.src.parts with ⟨e, _⟩ | ⟨g', cap', e, _, _, _, _, _, _, hc⟩
  · simp at e
  · simp only [Value.slice.injEq, Option.some.injEq, Addr.mk.injEq, and_true, true_and] at e
    obtain ⟨rfl, rfl⟩ := e
    rw [Addr.add_lit, Nat.zero_add, hc j hjl, hj]
theorem fam_ones (f : Fam) : ∀ u ∈ (famCs f).toList, u.oneCell' = true := fun u hu => flat_one (L := [f]) (by simpa [flat] using hu)
theorem RP.after {W : World} {B : Nat} {cs : Array Value} {e : Ev} {v0 v : Value} {Lf L : List Fam} {w w' : World} (h : RP W B cs e v0 Lf v L w) (hg : w.grownBy w' v.ownBlock) : w'.cell? ⟨W.heap.size + 1 + 1 + 1, 0, none⟩ = some v ∧ w'.frozen? ⟨W.heap.size + 1 + 1 + 1, 0, none⟩ = false := by
  have k := h.var.grown hg (Ne.symm (h.far (by omega)))
  exact ⟨k.cell 0, k.frozen 0⟩
theorem RP.next {W : World} {B : Nat} {cs : Array Value} {e : Ev} {v0 v v' : Value} {Lf L : List Fam} {w w' : World} {f : Fam} (h : RP W B cs e v0 Lf v L w) (hg : w.grownBy w' v.ownBlock) (ho : w'.ownsRow (W.heap.size + 1 + 1 + 1 + 1) 79 9 v' (L.length + 1) (flat L ++ (famCs f).toList)) :
    RP W B cs e v0 Lf v' (L ++ [f]) (w'.setCell ⟨W.heap.size + 1 + 1 + 1, 0, none⟩ v') := h.go hg (FRow.app ho)
def RLoop (W : World) (B : Nat) (cs : Array Value) (e : Ev) (v0 : Value) (Lf : List Fam) (n : Int) (i : Value) (w : World) : Prop := ∃ (k : Nat) (v : Value), k ≤ Lf.length ∧ i = .int .i64 k ∧ RP W B cs e v0 Lf v (others (Lf.take k) n) w

set_option maxHeartbeats 8000000 in
set_option maxRecDepth 100000 in
theorem refapply_put (B : Nat) (v : Value) (s : St) (e : Ev) (W : World) (h : FRow W B v s.fams) (hok : StOk s) (hid : okN e.fam.id = true) (hk : e.kind = 1) :
    Calls Tryz.prog 115 #[stVal s v, evVal e] W (ApplyGot W (applyS s e)) := by
  have hap : applyS s e = ⟨s.clock, max s.next (e.fam.id + 1), putL s.fams e.fam⟩ := by unfold applyS; rw [if_pos hk]
  have HA := Lib.hid hok.asc
  have hin := okN_iff.1 hid
  obtain ⟨i0, hii, hz0, hz1, hz2⟩ := info_parts famInfo
  have hlen := hok.len
  generalize applyS s e = s' at *
  have HS := Lib.hid hap
  have H0 := Lib.hid (RP.start (e := e) h)
  have h0 := h
  clear hap h hok hid
  obtain ⟨sa, sc', rfl⟩ := h0.slice
  obtain ⟨k, ⟨i, cl, su, sc, ge, ma, us, re, de⟩, id, ti⟩ := e
  obtain ⟨ck, nx, L⟩ := s
  dsimp only at *
  subst hk
  clear h0
  unfold stVal stCs evVal evCs
  dsimp only
  go_enter Tryz.func115, Tryz.ntmps115
  go_wp2_with fail
  go_loopw [24] (fun i' wr => RLoop W B #[.int .i64 ck, .int .i64 nx, .slice sa L.length sc'] ⟨1, ⟨i, cl, su, sc, ge, ma, us, re, de⟩, id, ti⟩ (.slice sa L.length sc') L i i' wr) (fun i' _ => L.length - (intOf i').toNat)
  case atStart => exact ⟨0, _, Nat.zero_le _, rfl, H0.out⟩
  case round =>
    obtain ⟨k, v, hk, rfl, hp⟩ := hrel
    have HP := Lib.hid hp
    obtain ⟨va, vn, vc, rfl⟩ : ∃ a n c, v = .slice a n c := by obtain ⟨a, c, hx⟩ := hp.row.slice; exact ⟨_, _, _, hx⟩
    obtain ⟨m0, m1, m2, mv, r0, r1, r2, z0, z1, z2⟩ := hp.cells
    obtain ⟨c0, c1, c2, c3, c4, c5, c6, c7, c8, c9, c10, c11⟩ := ev_cells hp.ev
    obtain ⟨l0, l1, l2, l3⟩ := hp.lts
    clear hp
    by_cases hlt : k < L.length
    · obtain ⟨g, rfl, _, rs⟩ := HP.out.src.lit hlt
      obtain ⟨f, hf⟩ : ∃ f, L[k]? = some f := ⟨_, List.getElem?_eq_getElem hlt⟩
      have ho := others_take (n := i) hf
      obtain ⟨fi, fcl, fsu, fsc, fge, fma, fus, fre, fde⟩ := f
      obtain ⟨d0, d1, d2, d3, d4, d5, d6, d7, d8⟩ := rs.nine hf
      clear rs hf
      dsimp only at ho
      by_cases hne : fi = i
      · rw [if_neg (by simpa using hne), List.append_nil] at ho
        have HO := Lib.hid ho
        subst hne
        clear ho
        have HP1 := Lib.hid (HP.out.keep ((Below.refl wr.heap.size wr).alloc (Nat.le_refl _) (.cells (famCs ⟨fi, fcl, fsu, fsc, fge, fma, fus, fre, fde⟩) 79)))
        unfold famCs at HP1
        dsimp only at HP1
        go_wp2_with fail
        go_roundw
        case rel => exact ⟨k + 1, _, by omega, by go_num, by rw [HO.out]; exact HP1.out⟩
        case measure => simp [intOf]; omega
      · rw [if_pos hne] at ho
        have HO := Lib.hid ho
        clear ho
        obtain ⟨p1, p2, p3, p4⟩ := HP.out.twice_ ⟨fi, fcl, fsu, fsc, fge, fma, fus, fre, fde⟩
        have HP1 := Lib.hid p1
        have HW := Lib.hid p2
        have HN := Lib.hid p3
        have HON := Lib.hid (fam_ones ⟨fi, fcl, fsu, fsc, fge, fma, fus, fre, fde⟩)
        have HSZ := Lib.hid p4
        have hol := others_len (L.take k) i
        have htl : (L.take k).length ≤ L.length := by simp; omega
        clear p1 p2 p3 p4
        generalize others (L.take k) i = Lk at *
        unfold twice famCs at HP1 HW HN HSZ HON
        dsimp only at HP1 HW HN HSZ HON
        go_wp2_with
          (at_builtin; refine wpList_append_own _ rfl _ _ 37 rfl (W.heap.size + 1 + 1 + 1 + 1) 79 i0 (.agg (famCs Fam.zero)) 9 104 Tryz.underlying37 hii hz0 hz1 hz2 rfl (by decide) _ _ _ rfl HW.out ⟨wr.heap.size + 1, 0, none⟩ 1 1 _ rfl rfl HN.out HON.out (by unfold maxLen; omega) (by omega) HSZ.out ?_; intro v' w3 hown hgrow hnil
           have HG := Lib.hid hgrow
           have HX := Lib.hid hown
           obtain ⟨xa, xn, xc, rfl⟩ := row_slice hown
           obtain ⟨mw, zw⟩ := HP1.out.after hgrow
           clear hown hgrow hnil)
        go_roundw
        case rel => exact ⟨k + 1, _, by omega, by go_num, by rw [HO.out]; exact HP1.out.next HG.out HX.out⟩
        case measure => simp [intOf]; omega
    · obtain rfl : k = L.length := by omega
      rw [List.take_length] at HP
      have hol := others_len L i
      obtain ⟨p1, p2, p3, p4⟩ := HP.out.once_ ⟨i, cl, su, sc, ge, ma, us, re, de⟩
      have HP1 := Lib.hid p1
      have HW := Lib.hid p2
      have HN := Lib.hid p3
      have HON := Lib.hid (fam_ones ⟨i, cl, su, sc, ge, ma, us, re, de⟩)
      have HSZ := Lib.hid p4
      have HSO := Lib.hid (fun R hp hs => sorted_putL (R := R) HA.out (f := ⟨i, cl, su, sc, ge, ma, us, re, de⟩) hp hs)
      clear p1 p2 p3 p4
      dsimp only at HSO
      generalize others L i = Lk at *
      unfold once famCs at HP1 HW HN HSZ HON
      dsimp only at HP1 HW HN HSZ HON
      go_wp2_with
        (at_builtin; refine wpList_append_own _ rfl _ _ 37 rfl (W.heap.size + 1 + 1 + 1 + 1) 79 i0 (.agg (famCs Fam.zero)) 9 104 Tryz.underlying37 hii hz0 hz1 hz2 rfl (by decide) _ _ _ rfl HW.out ⟨wr.heap.size, 0, none⟩ 1 1 _ rfl rfl HN.out HON.out (by unfold maxLen; omega) (by omega) HSZ.out ?_; intro v' w3 hown hgrow hnil
         have HG := Lib.hid hgrow
         have HX := Lib.hid hown
         obtain ⟨xa, xn, xc, rfl⟩ := row_slice hown
         obtain ⟨mw, zw⟩ := HP1.out.after hgrow
         clear hown hgrow hnil)
      have HP4 := Lib.hid (RP.next (f := ⟨i, cl, su, sc, ge, ma, us, re, de⟩) HP1.out HG.out HX.out)
      go_at_call 154
      refine (fam_sort _ _ _ _ _ HP4.out.row (by rw [List.length_append]; simp; omega) (HP4.out.var.cell 0) (HP4.out.far (Nat.le_refl _))).mono ?_
      rintro x w5 ⟨rfl, R, hR1, hR2, hR3, hR4, hR5⟩
      have HP5 := Lib.hid (HP4.out.turn hR5 hR4)
      obtain rfl := HSO.out R hR1 hR2
      clear hR1 hR2 hR3 hR4 hR5 HP1 HP4 HW HN HON HSZ HSO HG HX m0 m1 m2 mv r0 r1 r2 z0 z1 z2 c0 c1 c2 c3 c4 c5 c6 c7 c8 c9 c10 c11 mw zw l0 l1 l2 l3
      obtain ⟨m0, m1, m2, mv, r0, r1, r2, z0, z1, z2⟩ := HP5.out.cells
      obtain ⟨c0, c1, c2, c3, c4, c5, c6, c7, c8, c9, c10, c11⟩ := ev_cells HP5.out.ev
      by_cases hle : nx ≤ i
      · go_wp2_with fail
        obtain rfl := HS.out
        exact rp_end (HP5.out.set 1 (.int .i64 (i + 1)) rfl) rfl (by show i + 1 = max nx (i + 1); omega) rfl rfl
      · go_wp2_with fail
        obtain rfl := HS.out
        exact rp_end HP5.out rfl (by show nx = max nx (i + 1); omega) rfl rfl

set_option maxHeartbeats 8000000 in
set_option maxRecDepth 100000 in
theorem refapply_drop (B : Nat) (v : Value) (s : St) (e : Ev) (W : World) (h : FRow W B v s.fams) (hok : StOk s) (hk : e.kind = 2) :
    Calls Tryz.prog 115 #[stVal s v, evVal e] W (ApplyGot W (applyS s e)) := by
  have hap : applyS s e = ⟨s.clock, s.next, others s.fams e.id⟩ := by rw [← dropL_others hok.asc]; unfold applyS; rw [if_neg (by omega), if_pos hk]
  obtain ⟨i0, hii, hz0, hz1, hz2⟩ := info_parts famInfo
  have hlen := hok.len
  generalize applyS s e = s' at *
  have HS := Lib.hid hap
  have H0 := Lib.hid (RP.start (e := e) h)
  have h0 := h
  clear hap h hok
  obtain ⟨sa, sc', rfl⟩ := h0.slice
  obtain ⟨k, ⟨i, cl, su, sc, ge, ma, us, re, de⟩, id, ti⟩ := e
  obtain ⟨ck, nx, L⟩ := s
  dsimp only at *
  subst hk
  clear h0
  unfold stVal stCs evVal evCs
  dsimp only
  go_enter Tryz.func115, Tryz.ntmps115
  go_wp2_with fail
  go_loopw [64] (fun i' wr => RLoop W B #[.int .i64 ck, .int .i64 nx, .slice sa L.length sc'] ⟨2, ⟨i, cl, su, sc, ge, ma, us, re, de⟩, id, ti⟩ (.slice sa L.length sc') L id i' wr) (fun i' _ => L.length - (intOf i').toNat)
  case atStart => exact ⟨0, _, Nat.zero_le _, rfl, H0.out⟩
  case round =>
    obtain ⟨k, v, hk, rfl, hp⟩ := hrel
    have HP := Lib.hid hp
    obtain ⟨va, vn, vc, rfl⟩ : ∃ a n c, v = .slice a n c := by obtain ⟨a, c, hx⟩ := hp.row.slice; exact ⟨_, _, _, hx⟩
    obtain ⟨m0, m1, m2, mv, r0, r1, r2, z0, z1, z2⟩ := hp.cells
    obtain ⟨c0, c1, c2, c3, c4, c5, c6, c7, c8, c9, c10, c11⟩ := ev_cells hp.ev
    obtain ⟨l0, l1, l2, l3⟩ := hp.lts
    clear hp
    by_cases hlt : k < L.length
    · obtain ⟨g, rfl, _, rs⟩ := HP.out.src.lit hlt
      obtain ⟨f, hf⟩ : ∃ f, L[k]? = some f := ⟨_, List.getElem?_eq_getElem hlt⟩
      have ho := others_take (n := id) hf
      obtain ⟨fi, fcl, fsu, fsc, fge, fma, fus, fre, fde⟩ := f
      obtain ⟨d0, d1, d2, d3, d4, d5, d6, d7, d8⟩ := rs.nine hf
      clear rs hf
      dsimp only at ho
      by_cases hne : fi = id
      · rw [if_neg (by simpa using hne), List.append_nil] at ho
        have HO := Lib.hid ho
        subst hne
        clear ho
        have HP1 := Lib.hid (HP.out.keep ((Below.refl wr.heap.size wr).alloc (Nat.le_refl _) (.cells (famCs ⟨fi, fcl, fsu, fsc, fge, fma, fus, fre, fde⟩) 79)))
        unfold famCs at HP1
        dsimp only at HP1
        go_wp2_with fail
        go_roundw
        case rel => exact ⟨k + 1, _, by omega, by go_num, by rw [HO.out]; exact HP1.out⟩
        case measure => simp [intOf]; omega
      · rw [if_pos hne] at ho
        have HO := Lib.hid ho
        clear ho
        obtain ⟨p1, p2, p3, p4⟩ := HP.out.twice_ ⟨fi, fcl, fsu, fsc, fge, fma, fus, fre, fde⟩
        have HP1 := Lib.hid p1
        have HW := Lib.hid p2
        have HN := Lib.hid p3
        have HON := Lib.hid (fam_ones ⟨fi, fcl, fsu, fsc, fge, fma, fus, fre, fde⟩)
        have HSZ := Lib.hid p4
        have hol := others_len (L.take k) id
        have htl : (L.take k).length ≤ L.length := by simp; omega
        clear p1 p2 p3 p4
        generalize others (L.take k) id = Lk at *
        unfold twice famCs at HP1 HW HN HSZ HON
        dsimp only at HP1 HW HN HSZ HON
        go_wp2_with
          (at_builtin; refine wpList_append_own _ rfl _ _ 37 rfl (W.heap.size + 1 + 1 + 1 + 1) 79 i0 (.agg (famCs Fam.zero)) 9 104 Tryz.underlying37 hii hz0 hz1 hz2 rfl (by decide) _ _ _ rfl HW.out ⟨wr.heap.size + 1, 0, none⟩ 1 1 _ rfl rfl HN.out HON.out (by unfold maxLen; omega) (by omega) HSZ.out ?_; intro v' w3 hown hgrow hnil
           have HG := Lib.hid hgrow
           have HX := Lib.hid hown
           obtain ⟨xa, xn, xc, rfl⟩ := row_slice hown
           obtain ⟨mw, zw⟩ := HP1.out.after hgrow
           clear hown hgrow hnil)
        go_roundw
        case rel => exact ⟨k + 1, _, by omega, by go_num, by rw [HO.out]; exact HP1.out.next HG.out HX.out⟩
        case measure => simp [intOf]; omega
    · obtain rfl : k = L.length := by omega
      rw [List.take_length] at HP
      go_wp2_with fail
      obtain rfl := HS.out
      exact rp_end HP.out rfl rfl rfl rfl
set_option maxHeartbeats 8000000 in
set_option maxRecDepth 100000 in
theorem refapply_clock (B : Nat) (v : Value) (s : St) (e : Ev) (W : World) (h : FRow W B v s.fams) (hok : StOk s) (hk : e.kind = 3) :
    Calls Tryz.prog 115 #[stVal s v, evVal e] W (ApplyGot W (applyS s e)) := by
  have hap : applyS s e = ⟨e.time, s.next, s.fams⟩ := by unfold applyS; rw [if_neg (by omega), if_neg (by omega), if_pos hk]
  obtain ⟨i0, hii, hz0, hz1, hz2⟩ := info_parts famInfo
  have hlen := hok.len
  generalize applyS s e = s' at *
  have HS := Lib.hid hap
  have H0 := Lib.hid (RP.start (e := e) h)
  have h0 := h
  clear hap h hok
  rcases h0.parts with ⟨rfl, hnil⟩ | ⟨g, cap, rfl, h1, h2, h3, h4, h5, h6, h7⟩
  · obtain ⟨k, ⟨i, cl, su, sc, ge, ma, us, re, de⟩, id, ti⟩ := e
    obtain ⟨ck, nx, L⟩ := s
    dsimp only at *
    subst hk hnil
    clear h0
    unfold stVal stCs evVal evCs
    dsimp only
    go_enter Tryz.func115, Tryz.ntmps115
    go_wp2_with fail
    obtain rfl := HS.out
    have hb : Blk ((((W.alloc (.cells #[.int .i64 ti, .int .i64 nx, .slice none 0 0] 39)).alloc (.cells #[.int .i64 3, .int .i64 i, .string cl, .string su, .string sc, .int .i64 ge, .int .i64 ma, .int .i64 us, .string re, .bool de, .int .i64 id, .int .i64 ti] 137)).alloc (.cells #[.int .i64 ti, .int .i64 nx, .slice none 0 0] 39)).alloc (.cells #[.slice none 0 0] 37)) (W.heap.size + 1 + 1) 39 #[.int .i64 ti, .int .i64 nx, .slice none 0 0] := by
      have := (Blk.new ((W.alloc (.cells #[.int .i64 ti, .int .i64 nx, .slice none 0 0] 39)).alloc (.cells #[.int .i64 3, .int .i64 i, .string cl, .string su, .string sc, .int .i64 ge, .int .i64 ma, .int .i64 us, .string re, .bool de, .int .i64 id, .int .i64 ti] 137)) 39 #[.int .i64 ti, .int .i64 nx, .slice none 0 0]).alloc (.cells #[.slice none 0 0] 37)
      simpa using this
    refine bodyPost_ret (results_cell_row rfl _ _ _ _ _ (0, 0) _ rfl hb Tryz.underlying39 rfl (by kernel_rfl)) rfl ?_
    exact ⟨.slice none 0 0, rfl, FRow.nil _ _, ((((Below.refl W.heap.size W).alloc (Nat.le_refl _) _).alloc (by simp) _).alloc (by simp; omega) _).alloc (by simp; omega) _⟩
  · obtain ⟨k, ⟨i, cl, su, sc, ge, ma, us, re, de⟩, id, ti⟩ := e
    obtain ⟨ck, nx, L⟩ := s
    dsimp only at *
    subst hk
    clear h0 h1 h2 h3 h4 h5 h6 h7
    have HN := Lib.hid (H0.out.news)
    have HW : Hid ((rallocs W ⟨ck, nx, L⟩ ⟨3, ⟨i, cl, su, sc, ge, ma, us, re, de⟩, id, ti⟩ (.slice (some ⟨g, 0, none⟩) L.length cap)).ownsRow (W.heap.size + 1 + 1 + 1 + 1) 79 9 (.slice none 0 0) 0 []) := Lib.hid (World.ownsRow_nil _ _ _ _)
    have HSZ : Hid (W.heap.size + 1 + 1 + 1 + 1 ≤ (rallocs W ⟨ck, nx, L⟩ ⟨3, ⟨i, cl, su, sc, ge, ma, us, re, de⟩, id, ti⟩ (.slice (some ⟨g, 0, none⟩) L.length cap)).heap.size) := Lib.hid (H0.out.var.lt)
    have HL := Lib.hid (flat_len L)
    have HP0 := H0
    unfold rallocs stCs evCs at HW HN HSZ HP0
    unfold stVal stCs evVal evCs
    dsimp only at HW HN HSZ HP0 ⊢
    go_enter Tryz.func115, Tryz.ntmps115
    go_wp2_with
      (at_builtin; refine wpList_append_own _ rfl _ _ 37 rfl (W.heap.size + 1 + 1 + 1 + 1) 79 i0 (.agg (famCs Fam.zero)) 9 104 Tryz.underlying37 hii hz0 hz1 hz2 rfl (by decide) _ _ _ rfl HW.out ⟨g, 0, none⟩ L.length cap (flat L) rfl HL.out HN.out (fun x hx => flat_one hx) (by unfold maxLen; omega) (by omega) HSZ.out ?_; intro v' w3 hown hgrow hnil
       have HG := Lib.hid hgrow
       have HX := Lib.hid hown
       obtain ⟨xa, xn, xc, rfl⟩ := row_slice hown
       have HP3 := Lib.hid (HP0.out.turn hgrow (FRow.nil _ _))
       obtain ⟨m0, m1, m2, mv, r0, r1, r2, z0, z1, z2⟩ := HP3.out.cells
       obtain ⟨c0, c1, c2, c3, c4, c5, c6, c7, c8, c9, c10, c11⟩ := ev_cells HP3.out.ev
       clear hown hgrow hnil)
    obtain rfl := HS.out
    have hr := HX.out
    rw [Nat.zero_add, List.nil_append] at hr
    exact rp_end ((HP0.out.go HG.out (L' := L) hr).set 0 (.int .i64 ti) rfl) rfl rfl rfl rfl

/-- the reference's Apply, of an event that may be -/
theorem ref_apply (B : Nat) (v : Value) (s : St) (e : Ev) (W : World) (h : FRow W B v s.fams) (hok : StOk s) (he : evB e = true) :
    Calls Tryz.prog 115 #[stVal s v, evVal e] W (ApplyGot W (applyS s e)) := by
  rcases evB_kind he with ⟨h1, _, _, hf⟩ | ⟨h1, _⟩ | ⟨h1, _⟩
  · exact refapply_put B v s e W h hok (famB_parts hf).1 h1
  · exact refapply_drop B v s e W h hok h1
  · exact refapply_clock B v s e W h hok h1
end Go.Proofs.YtckohmhhcknmaaaGreatDoor

/-
  What the reference's loop over a scope's text knows, in plain Lean: the words that lie behind it, each once in their first order; whether one is long; the word under way.
-/
namespace Go.Proofs.YtckohmhhcknmaaaGreatDoor

/-- the words met so far, each once, in the order in which they came -/
def addNew (o : List (List UInt8)) (w : List UInt8) : List (List UInt8) := if o.contains w then o else o ++ [w]
def firsts (d : List (List UInt8)) : List (List UInt8) := d.foldl addNew []
theorem firsts_snoc (d : List (List UInt8)) (w : List UInt8) : firsts (d ++ [w]) = addNew (firsts d) w := by simp [firsts]
theorem firsts_spec : ∀ (n : Nat) (d : List (List UInt8)), d.length = n → (firsts d).Nodup ∧ (∀ w, w ∈ firsts d ↔ w ∈ d) ∧ (firsts d).length ≤ d.length
  | 0, d, h => by obtain rfl := List.eq_nil_of_length_eq_zero h; simp [firsts]
  | n + 1, d, h => by
    rcases List.eq_nil_or_concat d with rfl | ⟨r, x, rfl⟩
    · simp at h
    · rw [List.concat_eq_append] at h ⊢
      obtain ⟨h1, h2, h3⟩ := firsts_spec n r (by simpa using h)
      rw [firsts_snoc]
      unfold addNew
      by_cases hx : (firsts r).contains x = true
      · rw [if_pos hx]
        have hm : x ∈ r := (h2 x).1 (by simpa using hx)
        refine ⟨h1, fun w => ?_, by simp; omega⟩
        rw [h2 w, List.mem_append, List.mem_singleton]
        exact ⟨.inl, fun h => h.elim id fun e => e ▸ hm⟩
      · rw [if_neg hx]
        have hm : x ∉ firsts r := by simpa using hx
        refine ⟨?_, fun w => ?_, by simp; omega⟩
        · rw [List.nodup_append]
          refine ⟨h1, by simp, ?_⟩
          intro a ha b hb
          rw [List.mem_singleton] at hb
          subst hb
          rintro rfl
          exact hm ha
        · rw [List.mem_append, List.mem_append, h2 w]
/-- behind k bytes: the done words d (all may be), the word under way c (letters alone) -/
structure Front (s : List UInt8) (k : Nat) (d : List (List UInt8)) (c : List UInt8) : Prop where
  cuts : parts 43 (s.take k) = d ++ [c]
  ok : ∀ w ∈ d, okW w = true
  low : lowB c = true
theorem Front.start (s : List UInt8) : Front s 0 [] [] := ⟨by simp [parts], by simp, rfl⟩
theorem take_snoc' {s : List UInt8} {k : Nat} {x : UInt8} (h : s[k]? = some x) : s.take (k + 1) = s.take k ++ [x] := by
  rw [List.take_add_one, h]; rfl
theorem Front.seam {s : List UInt8} {k : Nat} {d : List (List UInt8)} {c : List UInt8} (h : Front s k d c) (hx : s[k]? = some 43) (hc : c ≠ []) : Front s (k + 1) (d ++ [c]) [] := by
  refine ⟨?_, ?_, rfl⟩
  · rw [take_snoc' hx, parts_seam, h.cuts]
  · intro w hw
    rcases List.mem_append.1 hw with hw | hw
    · exact h.ok w hw
    · rw [List.mem_singleton] at hw
      subst hw
      simp [okW, h.low, hc]
theorem Front.more {s : List UInt8} {k : Nat} {d : List (List UInt8)} {c : List UInt8} {x : UInt8} (h : Front s k d c) (hx : s[k]? = some x) (h1 : 97 ≤ x.toNat) (h2 : x.toNat ≤ 122) : Front s (k + 1) d (c ++ [x]) := by
  have hne : x ≠ 43 := by rintro rfl; simp at h1
  refine ⟨?_, h.ok, ?_⟩
  · rw [take_snoc' hx]
    exact parts_grow hne h.cuts
  · have := h.low
    simp only [lowB, List.all_append, Bool.and_eq_true] at this ⊢
    refine ⟨this, ?_⟩
    simp [h1, h2]
/-- a text whose beginning has a bad word behind a seam, or a byte that is no letter, is of another form -/
theorem bad_app {a b : List UInt8} (h : (parts 43 a).all okW = false) : (parts 43 (a ++ 43 :: b)).all okW = false := by
  rw [parts_app, List.all_append, h]; rfl
theorem Front.empty {s : List UInt8} {k : Nat} {d : List (List UInt8)} (h : Front s k d []) (hk : k = s.length ∨ s[k]? = some 43) : (parts 43 s).all okW = false := by
  have h0 : (parts 43 (s.take k)).all okW = false := by
    rw [h.cuts, List.all_append]
    simp [okW]
  rcases hk with rfl | hk
  · rwa [List.take_length] at h0
  · have hlt := (List.getElem?_eq_some_iff.1 hk).1
    have e : s = s.take k ++ 43 :: s.drop (k + 1) := by
      have hd := List.drop_eq_getElem_cons hlt
      rw [(List.getElem?_eq_some_iff.1 hk).2] at hd
      rw [← hd, List.take_append_drop]
    rw [e]
    exact bad_app h0
theorem parts_has {c x : UInt8} (hx : x ≠ c) : ∀ (l : List UInt8), x ∈ l → ∃ w ∈ parts c l, x ∈ w
  | [], h => by simp at h
  | y :: l, h => by
    by_cases hy : y = c
    · subst hy
      rw [parts_sep]
      rcases List.mem_cons.1 h with rfl | h
      · exact absurd rfl hx
      · obtain ⟨w, hw, hxw⟩ := parts_has hx l h
        exact ⟨w, List.mem_cons_of_mem _ hw, hxw⟩
    · rcases e : parts c l with _ | ⟨v, r⟩
      · exact absurd e (parts_ne c l)
      · rw [parts_cons hy e]
        rcases List.mem_cons.1 h with rfl | h
        · exact ⟨x :: v, by simp, by simp⟩
        · obtain ⟨w, hw, hxw⟩ := parts_has hx l h
          rw [e] at hw
          rcases List.mem_cons.1 hw with rfl | hw
          · exact ⟨y :: w, by simp, by simp [hxw]⟩
          · exact ⟨w, by simp [hw], hxw⟩
theorem bad_byte {s : List UInt8} {k : Nat} {x : UInt8} (hx : s[k]? = some x) (h43 : x ≠ 43) (h : ¬ (97 ≤ x.toNat ∧ x.toNat ≤ 122)) : (parts 43 s).all okW = false := by
  have hm : x ∈ s := List.mem_of_getElem? hx
  obtain ⟨w, hw, hxw⟩ := parts_has h43 s hm
  rw [List.all_eq_false]
  refine ⟨w, hw, ?_⟩
  intro hok
  simp only [okW, lowB, Bool.and_eq_true] at hok
  have := List.all_eq_true.1 hok.2 x hxw
  simp at this
  omega
/-- at the end all words may be -/
theorem Front.done {s : List UInt8} {d : List (List UInt8)} {c : List UInt8} (h : Front s s.length d c) (hc : c ≠ []) : parts 43 s = d ++ [c] ∧ (parts 43 s).all okW = true := by
  have h0 := h.cuts
  rw [List.take_length] at h0
  refine ⟨h0, ?_⟩
  rw [h0, List.all_append]
  simp only [Bool.and_eq_true]
  refine ⟨List.all_eq_true.2 h.ok, ?_⟩
  simp [okW, h.low, hc]
end Go.Proofs.YtckohmhhcknmaaaGreatDoor

/-
  A map that the call itself made, of texts to bools, told by a plain function.
-/
namespace Go.Proofs.YtckohmhhcknmaaaGreatDoor
open Go.RowKit Go.Maps Go.WideMaps

theorem plainElem_bool_inv {H : Type} {P : Program} {e : TypeId} (he : P.underlying e = some .bool) {v : Value} {z : DataW H × List MemPlace} (h : plainElem P e v = some z) : ∃ x : Bool, v = .bool x ∧ z = (.lit (.bool x), []) := by
  unfold plainElem at h
  cases v <;> simp_all
/-- block b is a map of at most n entries, texts (key type K) to bools (element type E), that tells f x at x -/
def MapSB (P : Program) (K E : TypeId) (w : World) (b n : Nat) (f : List UInt8 → Bool) : Prop :=
  ∃ D : DataW Unit, w.ownsMap P K (plainElem P E) b n D ∧ IsMap D ∧ ∀ x : List UInt8, D.atKey (.string x) (.lit (.bool false)) = .lit (.bool (f x))

section
variable {P : Program} {K E T : TypeId} {w w' : World} {b n : Nat} {f : List UInt8 → Bool}
theorem MapSB.made (w : World) : MapSB P K E (w.alloc (.map #[] 0)) w.heap.size 0 (fun _ => false) :=
  ⟨.map [], World.ownsMap_made w P K _, ⟨[], rfl⟩, fun x => by simp [DataW.atKey]⟩
theorem MapSB.kept (h : MapSB P K E w b n f) {row : Option Nat} (hg : w.grownBy w' row) (hne : some b ≠ row) : MapSB P K E w' b n f := by
  obtain ⟨D, h1, h2, h3⟩ := h
  exact ⟨D, h1.kept hg hne, h2, h3⟩
theorem MapSB.below (h : MapSB P K E w b n f) (hb : Below w.heap.size w w') : MapSB P K E w' b n f := h.kept (only_of_below hb none) (by simp)
theorem MapSB.alloc (h : MapSB P K E w b n f) (o : Obj) : MapSB P K E (w.alloc o) b n f := h.kept (World.grownBy_alloc w o none) (by simp)
theorem MapSB.drewN (h : MapSB P K E w b n f) (m : Nat) : MapSB P K E (w.drewN m) b n f := h
theorem MapSB.lt (h : MapSB P K E w b n f) : b < w.heap.size := by
  obtain ⟨D, h1, _⟩ := h
  exact h1.lt
theorem MapSB.mono (h : MapSB P K E w b n f) {m : Nat} (hm : n ≤ m) : MapSB P K E w b m f := by
  obtain ⟨D, h1, h2, h3⟩ := h
  exact ⟨D, h1.mono hm, h2, h3⟩
theorem MapSB.look (h : MapSB P K E w b n f) (ht : P.underlying T = some (.map K E)) (hk : P.underlying K = some .string) (he : P.underlying E = some .bool)
    (hz : (zeroValue E).run P w = .ok (.bool false) w) (x : List UInt8) (hx : x.length ≤ maxLen) :
    (Instr.lookup T (.map (some b)) (.string (txt x)) false).run P w = .ok (.bool (f x)) w := by
  obtain ⟨D, h1, h2, h3⟩ := h
  have hkey : keyOf P K (.string (txt x)) = some (.string x) := by
    rw [keyOf_string_mk hk (by rw [txt_size]; exact hx), data_txt]
  obtain ⟨v, ps, hrun, hv⟩ := h1.lookup (string_keyed hk) ht hz (plainElem_bool he false) hkey
  obtain ⟨y, rfl, hy⟩ := plainElem_bool_inv he hv
  simp only [Prod.mk.injEq] at hy
  have h4 := h3 x
  rw [hy.1] at h4
  have h6 : y = f x := by injection h4 with h4; injection h4
  rw [hrun, h6]
theorem MapSB.put (h : MapSB P K E w b n f) (ht : P.underlying T = some (.map K E)) (hk : P.underlying K = some .string) (he : P.underlying E = some .bool)
    (hn : n < maxLen) (x : List UInt8) (hx : x.length ≤ maxLen) (v : Bool) :
    ∃ w', (Instr.mapUpdate T (.map (some b)) (.string (txt x)) (.bool v)).run P w = .ok () w' ∧ MapSB P K E w' b (n + 1) (fun y => if y = x then v else f y) ∧ w.grownBy w' (some b) := by
  obtain ⟨D, h1, h2, h3⟩ := h
  have hkey : keyOf P K (.string (txt x)) = some (.string x) := by
    rw [keyOf_string_mk hk (by rw [txt_size]; exact hx), data_txt]
  obtain ⟨w', hrun, r1, r2⟩ := h1.update (string_keyed hk) ht hn hkey (plainElem_bool he v)
  refine ⟨w', hrun, ⟨_, r1, ?_, ?_⟩, r2⟩
  · obtain ⟨l, rfl⟩ := h2
    exact ⟨_, rfl⟩
  · intro y
    dsimp only
    by_cases e : y = x
    · subst e
      rw [if_pos rfl, atKey_put_same h2 (by simp [WideAt.IsKeyLit])]
    · rw [if_neg e, atKey_put_other (by simpa using e)]
      exact h3 y
end
end Go.Proofs.YtckohmhhcknmaaaGreatDoor
