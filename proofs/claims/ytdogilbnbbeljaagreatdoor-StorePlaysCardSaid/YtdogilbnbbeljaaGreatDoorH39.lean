/-
  sort.Slice of families by number, as the reference's Apply calls it.
-/
import Derived.Test.YtdogilbnbbeljaaGreatDoorH13
import Derived.Test.YtdogilbnbbeljaaGreatDoorH38
import Derived.Test.YtdogilbnbbeljaaGreatDoorH09
import Derived.Shelf.SlSortFuncK.WholeK
import Derived.Shelf.GgSortFunc.Tiny
namespace Go.Proofs.YtdogilbnbbeljaaGreatDoor
open Go.RowKit Go.Sort Go.Lib

instance : Inhabited Fam := ⟨Fam.zero⟩
def encF (f : Fam) : List Value := (famCs f).toList
def ltF (a b : Fam) : Bool := decide (a.id < b.id)
theorem swo_ltF : SWO ltF := ⟨fun x => by simp [ltF], fun x y z h1 h2 => by simp only [ltF, decide_eq_true_eq] at *; omega, fun x y z h1 h2 => by simp only [ltF, decide_eq_false_iff_not] at *; omega⟩
theorem flat_encF (L : List Fam) : flatK encF 9 L.toArray = (flat L).toArray := by
  refine ext_get! (by simp [flat_len]) fun t ht => ?_
  have ht' : t < L.length * 9 := by simpa using ht
  rw [get_flatK _ _ _ _ (by simpa using ht')]
  have hi : t / 9 < L.length := by omega
  have hj : t % 9 < 9 := by omega
  have hg := flat_get (List.getElem?_eq_getElem hi) (t % 9) hj
  rw [show t / 9 * 9 + t % 9 = t by omega] at hg
  have e1 : (L.toArray)[t / 9]! = L[t / 9] := by simp [hi]
  rw [e1]
  have e2 : (encF L[t / 9])[t % 9]! = ((famCs L[t / 9])[t % 9]?).getD default := by
    unfold encF
    rw [List.getElem!_eq_getElem?_getD, Array.getElem?_toList]
  rw [e2, ← hg]
  simp

/-- the reference's closure: it reads its variable and two families' numbers -/
theorem fam_less (blk c Bs size : Nat) (W : World) (G : Nat → Int) (hs : W.cell? ⟨Bs, 0, none⟩ = some (.slice (some ⟨blk, 0, none⟩) size c))
    (hc : ∀ t, t < size → W.cell? ⟨blk, t * 9, none⟩ = some (.int .i64 (G t))) (i j : Nat) (hi : i < size) (hj : j < size) :
    Calls Tryz.prog 69 #[.int .i64 i, .int .i64 j, .pointer (some ⟨Bs, 0, none⟩)] W fun e w' => e = .returned (.bool (decide (G i < G j))) ∧ ∃ q, w' = W.drewN q := by
  have ci := hc i hi
  have cj := hc j hj
  have h0 : (0 : Int) ≤ (i : Int) := by omega
  have h1 : (i : Int) < (size : Int) := by omega
  have h2 : (0 : Int) ≤ (j : Int) := by omega
  have h3 : (j : Int) < (size : Int) := by omega
  clear hc hi hj
  go_enter Tryz.func69, Tryz.ntmps69
  go_wp2_with fail
  go_quiet (fail)
  go_wp2_with fail
  go_ret
  exact ⟨rfl, nq, rfl⟩

noncomputable def rowT : TypeInfo := (Tryz.prog.info? 34).get (by kernel_rfl)
noncomputable def rowE : TypeInfo := (Tryz.prog.info? 40).get (by kernel_rfl)
theorem rowK (n : Nat) (h2 : 2 ≤ n) : Lib.swapperK n rowE 25 = 9 := by
  have a : rowE.hasPointers = true := by kernel_rfl
  have b : rowE.bytes = 104 := by kernel_rfl
  have c : (n == 0) = false := by simp; omega
  have d : (n == 1) = false := by simp; omega
  simp [Lib.swapperK, a, b, c, d]
theorem rowK0 : Lib.swapperK 0 rowE 25 = 1 := rfl
theorem rowK1 : Lib.swapperK 1 rowE 25 = 2 := rfl

theorem holds_fams {w : World} {B g cap : Nat} {L : List Fam} (h : FRow w B (.slice (some ⟨g, 0, none⟩) L.length cap) L) : HoldsK encF 9 w g 0 L.toArray := by
  unfold HoldsK
  rw [flat_encF]
  rcases h.parts with ⟨e, _⟩ | ⟨g', cap', e, h1, h2, h3, h4, h5, h6, h7⟩
  · simp at e
  · simp only [Value.slice.injEq, Option.some.injEq, Addr.mk.injEq, and_true, true_and] at e
    obtain ⟨rfl, rfl⟩ := e
    intro j hj
    have hj' : j < L.length * 9 := by simpa [flat_len] using hj
    rw [Nat.zero_add]
    refine ⟨?_, h5 j⟩
    rw [h7 j hj', List.getElem?_eq_getElem (by rw [flat_len]; exact hj')]
    simp [flat_len, hj']
theorem heap_put {w : World} {g n : Nat} {os : Array Obj} {cur : Array Value} {T : TypeId} (F : Array Value) (hb : Blk w g T cur) : Blk (grow (putRow id (Sort.ahead w n) g 0 F) os) g T (putCells id 0 F cur) := by
  have hg := hb.lt
  unfold Blk at *
  rw [heap_grow_old _ _ (by simpa using hg)]
  simp [putRow, mapBlock, Sort.ahead, Array.getElem?_modify, hb, onCells]
theorem only_put {w : World} {g n : Nat} {os : Array Obj} (F : Array Value) : w.grownBy (grow (putRow id (Sort.ahead w n) g 0 F) os) (some g) := by
  refine ⟨rfl, rfl, rfl, by simp, fun k hk hne => ?_⟩
  rw [heap_grow_old _ _ (by simpa using hk)]
  have : g ≠ k := fun e => hne (by rw [e])
  simp [putRow, mapBlock, Sort.ahead, Array.getElem?_modify, this]
theorem take_put (cur : Array Value) (xs : List Value) (h : xs.length ≤ cur.size) : (putCells id 0 xs.toArray cur).toList.take xs.length = xs := by
  apply List.ext_getElem?
  intro j
  by_cases hj : j < xs.length
  · rw [List.getElem?_take_of_lt hj, Array.getElem?_toList]
    simp [putCells, hj, show j < cur.size by omega]
  · rw [List.getElem?_take_eq_none (by omega), List.getElem?_eq_none (by omega)]
theorem only_grow (w : World) (os : Array Obj) (row : Option Nat) : w.grownBy (grow w os) row :=
  ⟨rfl, rfl, rfl, by simp, fun k hk _ => heap_grow_old _ _ hk⟩

theorem perm_whole {d d' : Array Fam} (h : PermIn 0 d.size d d') : d'.toList.Perm d.toList := by
  obtain ⟨h1, _, h3⟩ := h
  have e1 : d'.extract 0 d.size = d' := by rw [← h1]; exact Array.extract_size
  have e2 : d.extract 0 d.size = d := Array.extract_size
  rwa [e1, e2] at h3
theorem sorted_whole {d' : Array Fam} {n : Nat} (hn : d'.size = n) (h : SortedIn ltF 0 n d') : d'.toList.Pairwise fun a b => a.id ≤ b.id := by
  rw [List.pairwise_iff_getElem]
  intro i j hi hj hij
  have hi' : i < d'.size := by simpa using hi
  have hj' : j < d'.size := by simpa using hj
  have := h i j (Nat.zero_le _) hij (by omega)
  rw [getElem!_pos d' i hi', getElem!_pos d' j hj'] at this
  simp only [ltF, decide_eq_false_iff_not] at this
  simp only [Array.getElem_toList]
  omega

/-- what the sort leaves -/
def SortGot (w : World) (B : Nat) (v : Value) (L : List Fam) (e : Ending) (w' : World) : Prop :=
  e = .returned (.tuple #[]) ∧ ∃ R : List Fam, R.Perm L ∧ (R.Pairwise fun a b => a.id ≤ b.id) ∧ R.length = L.length ∧ FRow w' B v R ∧ w.grownBy w' v.ownBlock

theorem fam_sort_many (B vb g cap : Nat) (L : List Fam) (w : World) (h : FRow w B (.slice (some ⟨g, 0, none⟩) L.length cap) L) (h2 : 2 ≤ L.length) (hL : L.length ≤ 2000000) (hv : w.cell? ⟨vb, 0, none⟩ = some (.slice (some ⟨g, 0, none⟩) L.length cap)) (hne : vb ≠ g) :
    Calls Tryz.prog 68 #[.iface 34 (.slice (some ⟨g, 0, none⟩) L.length cap), .func (.func 69) #[] #[.pointer (some ⟨vb, 0, none⟩)]] w (SortGot w B (.slice (some ⟨g, 0, none⟩) L.length cap) L) := by
  have hH := holds_fams h
  have hvb := World.block_lt_of_cell? w _ hv
  obtain ⟨g', cap', cur, he, hBg, hblk, hlc, hm, hc, ht⟩ : ∃ g' cap' cur, Value.slice (some ⟨g, 0, none⟩) L.length cap = .slice (some ⟨g', 0, none⟩) L.length cap' ∧ B ≤ g' ∧ Blk w g' 40 cur ∧ L.length ≤ cap' ∧ cap' ≤ 9223372036854775807 ∧ cur.size = cap' * 9 ∧ cur.toList.take (L.length * 9) = flat L := by
    rcases h.block with ⟨e, _⟩ | h
    · simp at e
    · exact h
  simp only [Value.slice.injEq, Option.some.injEq, Addr.mk.injEq, and_true, true_and] at he
  obtain ⟨rfl, rfl⟩ := he
  have hless : LessReadsK Tryz.prog 69 #[.pointer (some ⟨vb, 0, none⟩)] encF 9 ltF g 0 L.toArray.size w := by
    intro m os dk hs i j hi hj
    have e : sortWorldK encF 9 w g 0 m dk os = putRowK encF 9 (grow (Sort.ahead w m) os) g 0 dk := by
      unfold sortWorldK; rw [putRowK_grow _ _ (Sort.ahead w m) _ g 0 _ hblk.lt]
    have hHg : HoldsK encF 9 (grow (Sort.ahead w m) os) g 0 L.toArray := holdsK_grow _ _ _ _ g 0 _ hblk.lt (holdsK_ahead _ _ _ _ _ _ _ hH)
    refine fam_less g cap vb L.toArray.size _ (fun t => dk[t]!.id) ?_ (fun t ht => ?_) i j hi hj
    · rw [e, cell?_putRowK_other _ _ _ g 0 dk _ (by exact hne), cell?_grow _ _ _ (by exact hvb)]
      simpa using hv
    · rw [e]
      have := ((holdsK_putRowK _ _ _ g 0 _ dk hHg hs).cell (i := t) (c := 0) (by omega) (by omega)).1
      rw [Nat.zero_add, Nat.add_zero] at this
      exact this
  have hsz : L.toArray.size = L.length := by simp
  have hcall := Any.sort_Slice_cells_sorted Tryz.sl6 34 40 rowT rowE (by kernel_rfl) (by kernel_rfl) (by kernel_rfl) (by kernel_rfl) 25 (fun _ => by kernel_rfl) encF 9 (fun _ => rfl) (by kernel_rfl) (fun _ => by kernel_rfl)
    (fun x u hu => flat_one (L := [x]) (by simpa [flat, encF] using hu)) ltF swo_ltF 69 _
    (enters_of Tryz.func69 (by kernel_rfl) rfl) g 0 cap L.toArray (by rw [hsz]; exact h2) (by rw [hsz]; omega) 126 (by rw [rowK _ (by rw [hsz]; exact h2)]; kernel_rfl) false
    (fun args W => run_callFunc_extern Tryz.func126 (by kernel_rfl) (by kernel_rfl) (by kernel_rfl) (e := Extern.ReflectliteSwapper.swap false) (by kernel_rfl) args W) w hless hH hblk.lt
  rw [hsz] at hcall
  refine hcall.mono ?_
  rintro e w' ⟨rfl, d', n, os, hp, hs, rfl⟩
  have hp' := perm_whole (d := L.toArray) (by rw [hsz]; exact hp)
  have hlen : d'.size = L.length := hp.1.trans hsz
  have hll : d'.toList.length = L.length := by simpa using hlen
  refine ⟨rfl, d'.toList, by simpa using hp', sorted_whole hlen hs, hll, ?_, ?_⟩
  · unfold putRowK
    rw [show d' = d'.toList.toArray from rfl, flat_encF]
    have hb := heap_put (n := n) (os := os) (flat d'.toList).toArray hblk
    rw [← hll]
    refine FRow.of_block hBg hb (by omega) hm (by simp [putCells, hc]) ?_
    rw [← flat_len]
    exact take_put cur _ (by rw [flat_len]; omega)
  · exact only_put _

theorem fam_sort (B vb : Nat) (v : Value) (L : List Fam) (w : World) (h : FRow w B v L) (hL : L.length ≤ 2000000) (hv : w.cell? ⟨vb, 0, none⟩ = some v) (hne : v.ownBlock ≠ some vb) :
    Calls Tryz.prog 68 #[.iface 34 v, .func (.func 69) #[] #[.pointer (some ⟨vb, 0, none⟩)]] w (SortGot w B v L) := by
  by_cases h2 : 2 ≤ L.length
  · rcases h.parts with ⟨rfl, rfl⟩ | ⟨g, cap, rfl, _⟩
    · simp at h2
    · exact fam_sort_many B vb g cap L w h h2 hL hv (by intro e; apply hne; simp [Value.ownBlock, e])
  · have hpw : L.Pairwise fun a b => a.id ≤ b.id := by
      rw [List.pairwise_iff_getElem]
      intro i j hi hj hij
      omega
    have hn : L.length = 0 ∨ L.length = 1 := by omega
    obtain ⟨p, c, hv'⟩ : ∃ p c, v = .slice p L.length c := by
      rcases h.parts with ⟨rfl, rfl⟩ | ⟨g, cap, rfl, _⟩
      · exact ⟨_, _, rfl⟩
      · exact ⟨_, _, rfl⟩
    rw [hv'] at h ⊢
    obtain ⟨f, hf⟩ : ∃ f, Tryz.prog.funcs.findIdx? (·.name == "internal/reflectlite" ++ ".Swapper$" ++ toString (swapperK L.length rowE 25)) = some f := by
      rcases hn with e | e
      · rw [e, rowK0]; exact ⟨118, by kernel_rfl⟩
      · rw [e, rowK1]; exact ⟨119, by kernel_rfl⟩
    refine (Any.sort_Slice_tiny Tryz.sl6 34 40 rowT rowE (by kernel_rfl) (by kernel_rfl) (by kernel_rfl) (by kernel_rfl) 25 (fun _ => by kernel_rfl) p L.length c (by omega) f hf (.func 69) #[] #[.pointer (some ⟨vb, 0, none⟩)] w).mono ?_
    rintro e w' ⟨rfl, os, rfl⟩
    refine ⟨rfl, L, List.Perm.refl _, hpw, rfl, ?_, only_grow w os _⟩
    exact h.kept (only_grow w os (some w.heap.size)) (fun e => by have := (h.lt _ e).2; omega)
end Go.Proofs.YtdogilbnbbeljaaGreatDoor
