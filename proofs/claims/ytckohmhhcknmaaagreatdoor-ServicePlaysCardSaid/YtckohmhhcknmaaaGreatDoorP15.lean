/-
  store.Store's Save: the slot that is not in force is written, its head last.
-/
import Derived.Test.YtckohmhhcknmaaaGreatDoorP14
import Derived.Test.YtckohmhhcknmaaaGreatDoorP13
import Derived.Deep.RegionHeld3
import Derived.Deep.AppendLies
import Derived.Test.YtckohmhhcknmaaaGreatDoorP03
namespace Go.Proofs.YtckohmhhcknmaaaGreatDoor
open Go.RowKit Go.Sort

/-- what Save gives -/
def SaveGot (at_ : Nat) (W : World) (B sb db : Nat) (D : Dk) (s : St) (v : Value) (n f x : Int) (e : Ending) (w' : World) : Prop :=
  ∃ (ok : Bool) (D' : Dk), SaveOut D at_ s.fams (txt (headL tagL (n + 1) x s)) D' ok ∧ Two sb db W w' ∧
    ((ok = true ∧ e = .returned .nilIface ∧ SD B sb db D' s v (n + 1) x x false w') ∨ (ok = false ∧ e = .returned (.iface 35 (.int .i64 14)) ∧ SD B sb db D' s v n f x true w'))
def SvRel (at_ : Nat) (W : World) (B sb db : Nat) (D : Dk) (s : St) (v : Value) (n f x : Int) (all i : Value) (w : World) : Prop :=
  ∃ m : Nat, m ≤ s.fams.length ∧ i = .int .i64 m ∧ all = .string (txt (allL (s.fams.take m))) ∧ SD B sb db (famD D at_ s.fams m) s v n f x false w ∧ Two sb db W w ∧ ∀ j, j < m → offB (famD D at_ s.fams j) = false
def NumRel (W : World) (g : Nat) (L : List Int) (out i : Value) (wr : World) : Prop := ∃ k : Nat, k ≤ L.length ∧ i = .int .i64 k ∧ TN W g L k out wr
theorem nums_ok {ck nx n x : Int} {L : List Fam} (h : Fit ⟨ck, nx, L⟩) (h0 : 0 ≤ n) (h1 : n < 1000000) (h2 : 0 ≤ x) (h3 : x ≤ 1000000) : ∀ y ∈ [n + 1, x, ck, nx, (L.length : Int)], okM y = true := by
  intro y hy
  have hl : L.length ≤ 20 := h.len
  simp only [List.mem_cons, List.not_mem_nil, or_false] at hy
  rcases hy with rfl | rfl | rfl | rfl | rfl
  · exact okM_iff.2 (by omega)
  · exact okM_iff.2 (by omega)
  · exact okN_M h.clock
  · exact h.next
  · exact okM_iff.2 (by omega)
theorem Two.of_drew {a b : Nat} (w : World) : Two a b w w.drew := ⟨rfl, rfl, rfl, Nat.le_refl _, fun _ _ _ _ => rfl⟩
theorem head_len {n f : Int} {s : St} (h : Fit s) (hn : okM n = true) (hf : okM f = true) : (glue 32 (headW tagL n f s (allL s.fams))).length ≤ 200 ∧ (headL tagL n f s).length ≤ 240 := by
  have hl := h.len
  have a := itoaM_len hn
  have b := itoaM_len hf
  have c := itoaM_len (okN_M h.clock)
  have d := itoaM_len h.next
  have e := itoaM_len (x := (s.fams.length : Int)) (okM_iff.2 (by omega))
  have t := tag_ok.len 1 (allL s.fams)
  have g := glue_sum 32 (headW tagL n f s (allL s.fams))
  simp only [headW, List.map_cons, List.map_nil, List.sum_cons, List.sum_nil] at g
  refine ⟨by unfold headW; omega, ?_⟩
  unfold headL
  rw [sealL_len]
  unfold headW
  omega
theorem off_iff {D : Dk} (h : offB D = true) : D.cut = true ∧ D.left = 0 := by
  unfold offB at h
  simpa using h
theorem all_next {L : List Fam} {m : Nat} {f : Fam} (h : L[m]? = some f) : allL (L.take (m + 1)) = allL (L.take m) ++ (evL (putEv f) ++ [10]) := by
  rw [List.take_add_one, h, Option.toList_some, allL_snoc, List.append_assoc]
theorem all_len {L : List Fam} (h : ∀ f ∈ L, famB f = true) : (allL L).length ≤ 181 * L.length := by
  induction L with
  | nil => simp [allL]
  | cons f L ih =>
    have h1 := evL_len (putEv_may (h f (List.mem_cons_self ..)))
    have h2 := ih fun g hg => h g (List.mem_cons_of_mem _ hg)
    have e : allL (f :: L) = (evL (putEv f) ++ [10]) ++ allL L := rfl
    rw [e, List.length_append, List.length_append, List.length_cons, List.length_cons]
    simp only [List.length_nil]
    omega
set_option maxHeartbeats 16000000 in
set_option maxRecDepth 100000 in
theorem store_save (B sb db : Nat) (D : Dk) (s : St) (v : Value) (n f x : Int) (W : World) (h : SD B sb db D s v n f x false W) (hf : D.fits) (hfit : Fit s) (h0 : 0 ≤ n) (h1 : n < 1000000) (h2 : 0 ≤ x) (h3 : x ≤ 1000000) :
    Calls Tryz.prog 34 #[.pointer (some ⟨sb, 0, none⟩)] W (SaveGot (slotAt ((n + 1) % 2).toNat) W B sb db D s v n f x) := by
  obtain ⟨i0, hii, hz0, hz1, hz2⟩ := info_parts strInfo
  have hL := hfit.len
  have htop := slot_top (n + 1)
  have HSL := Lib.hid (fun w => store_slot (n + 1) w (by omega) (by omega))
  have HF := Lib.hid hf
  have HI := Lib.hid hfit
  have H0 : Hid (SvRel (slotAt ((n + 1) % 2).toNat) W B sb db D s v n f x (.string ⟨#[]⟩) (.int .i64 0) W) := Lib.hid ⟨0, Nat.zero_le _, rfl, rfl, h, Two.refl _ _ _, fun j hj => absurd hj (Nat.not_lt_zero _)⟩
  obtain ⟨sa, sc, rfl⟩ := h.row.slice
  obtain ⟨ck, nx, L⟩ := s
  dsimp only at *
  obtain ⟨c0, c1, c2, c3, c4, c5, c6, c7, z, hlt⟩ := h.cells
  have hn1 : wrap64 (n + 1) = n + 1 := IntWalk.wrap64_in _ (by omega)
  clear h hf hfit
  generalize slotAt ((n + 1) % 2).toNat = at_ at *
  go_enter Tryz.func34, Tryz.ntmps34
  go_wp2_with fail
  go_at_call 70
  refine (HSL.out _).mono ?_
  rintro e w1 ⟨rfl, rfl⟩
  go_wp2_with fail
  go_loopw [5, 33] (fun all i wr => SvRel at_ W B sb db D ⟨ck, nx, L⟩ (.slice sa L.length sc) n f x all i wr) (fun _ i _ => L.length - (intOf i).toNat)
  case atStart => exact H0.out
  case round =>
    obtain ⟨m, hm, rfl, rfl, hsd, htw, hon⟩ := hrel
    have HS := Lib.hid hsd
    have HT := Lib.hid htw
    have HN := Lib.hid hon
    dsimp only at hm HS HN
    clear hsd htw hon c0 c1 c2 c3 c4 c5 c6 c7 z hlt
    obtain ⟨c0, c1, c2, c3, c4, c5, c6, c7, z, hlt⟩ := HS.out.cells
    have hal := all_len (L := L.take m) (fun f hf => HI.out.fams f (List.mem_of_mem_take hf))
    have htk : (L.take m).length ≤ 20 := by rw [List.length_take]; omega
    have hz : (txt (allL (L.take m))).size ≤ 4000 := by rw [txt_size_]; omega
    by_cases hlt2 : m < L.length
    · obtain ⟨g, rfl, _, rs⟩ := HS.out.row.lit hlt2
      obtain ⟨fm, hfm⟩ : ∃ fm, L[m]? = some fm := ⟨_, List.getElem?_eq_getElem hlt2⟩
      have hfB := HI.out.fams fm (List.mem_of_getElem? hfm)
      have HW := Lib.hid (fun w (hw : WB w w) => ev_write_yes (putEv fm) w (fam_short hfB) hw (putEv_may hfB))
      have hll := evL_len (putEv_may hfB)
      have hxs : (txt (evL (putEv fm))).size ≤ 180 := by rw [txt_size_]; exact hll
      have HAN := Lib.hid (all_next hfm)
      have hfd : famD D at_ L (m + 1) = (famD D at_ L m).put (at_ + 1 + m) (txt (evL (putEv fm))) := by
        rw [famD, List.getD_eq_getElem?_getD, hfm]
        rfl
      have HFD := Lib.hid hfd
      have hap : txt (allL (L.take m)) ++ (txt (evL (putEv fm)) ++ ⟨#[10]⟩) = txt (allL (L.take (m + 1))) := by
        rw [HAN.out, ← txt_app, ← txt_app]
        rfl
      have HAP := Lib.hid hap
      have hat : ((at_ + 1 + m : Nat) : Int) = (at_ : Int) + 1 + (m : Int) := by omega
      have HFM := Lib.hid (show Below wr.heap.size wr (wr.alloc (.cells (famCs fm) 79)) from (Below.refl _ _).alloc (Nat.le_refl _) _)
      generalize txt (evL (putEv fm)) = xl at *
      clear hap hfd hal HAN hll
      have HON := Lib.hid (fun w hd h => disk_write db (famD D at_ L m) (at_ + 1 + m) xl w hd (by omega) (by omega) h)
      have HOF := Lib.hid (fun w hd h1 h2 => disk_write_off db (famD D at_ L m) ((at_ + 1 + m : Nat) : Int) xl w hd (by omega) (by omega) (by omega) h1 h2)
      rw [hat] at HON HOF
      unfold putEv at HW
      obtain ⟨i, cl, su, sc', ge, ma, us, re, de⟩ := fm
      obtain ⟨d0, d1, d2, d3, d4, d5, d6, d7, d8⟩ := rs.nine hfm
      unfold evVal evCs at HW
      unfold famCs at HFM
      dsimp only at HW HFM
      clear rs hfm hfB hat
      go_wp2_with fail
      have HS1 := Lib.hid (HS.out.keep HFM.out)
      have HT1 := Lib.hid (HT.out.trans (Two.of_below HFM.out))
      go_at_call 71
      refine (HW.out _ HS1.out.env.wb).mono ?_
      rintro e w2 ⟨rfl, hb⟩
      have HS2 := Lib.hid (HS1.out.keep hb)
      have HT2 := Lib.hid (HT1.out.trans (Two.of_below hb))
      clear hb HS1 HT1 HW HFM c0 c1 c2 c3 c4 c5 c6 c7 z hlt d0 d1 d2 d3 d4 d5 d6 d7 d8
      obtain ⟨c0, c1, c2, c3, c4, c5, c6, c7, z, hlt⟩ := HS2.out.cells
      go_wp2_with fail
      go_at_call 72
      rcases hoff : offB (famD D at_ L m) with _ | _
      · refine (HON.out _ HS2.out.disk hoff).mono ?_
        rintro e w3 ⟨rfl, hd, hg⟩
        have HS3 := Lib.hid (HS2.out.wrote hd hg)
        have HT3 := Lib.hid (HT2.out.trans (Two.of_two hg))
        have HOO := Lib.hid hoff
        clear hd hg HS2 HT2 HON HOF hoff c0 c1 c2 c3 c4 c5 c6 c7 z hlt
        go_wp2_with fail
        refine ⟨⟨m + 1, by show m + 1 ≤ L.length; omega, by go_num, by rw [HAP.out], by rw [HFD.out]; exact HS3.out, HT3.out, fun j hj => ?_⟩, by simp [intOf]; omega⟩
        rcases Nat.lt_or_ge j m with hjm | hjm
        · exact HN.out j hjm
        · obtain rfl : j = m := by omega
          exact HOO.out
      · obtain ⟨q1, q2⟩ := off_iff hoff
        refine (HOF.out _ HS2.out.disk q1 q2).mono ?_
        rintro e w3 ⟨rfl, rfl⟩
        have HOO := Lib.hid hoff
        clear HON HOF hoff q1 q2
        go_wp2_with fail
        refine (store_fail sb db ⟨ck, nx, L⟩ _ n f x false _ HS2.out.st).mono ?_
        rintro e w4 ⟨rfl, hs4, hg4⟩
        have HS4 := Lib.hid (HS2.out.noted hs4 hg4)
        have HT4 := Lib.hid (HT2.out.trans (Two.of_one hg4))
        clear hs4 hg4
        go_wp2_with fail
        go_ret
        exact ⟨false, _, .inr ⟨rfl, m, hm, HN.out, HOO.out, rfl⟩, HT4.out, .inr ⟨rfl, rfl, HS4.out⟩⟩
    · obtain rfl : m = L.length := by omega
      rw [List.take_length] at hz ⊢
      have HSD := HS.out.drew
      have HB5 := Lib.hid (show Below wr.drew.heap.size wr.drew (wr.drew.alloc (.cells #[.int .i64 (n + 1), .int .i64 x, .int .i64 ck, .int .i64 nx, .int .i64 (L.length : Int)] 3)) from (Below.refl _ _).alloc (Nat.le_refl _) _)
      have HC := SD.four HSD
      have HC5 := SD.four (HSD.keep HB5.out)
      go_wp2_with fail
      go_region_held3 (fun w' => w'.cell? ⟨sb, 1, none⟩ = some (.int .i64 ck) ∧ w'.cell? ⟨sb, 2, none⟩ = some (.int .i64 nx) ∧ w'.cell? ⟨sb, 3, none⟩ = some (.slice sa L.length sc) ∧ w'.cell? ⟨sb, 6, none⟩ = some (.int .i64 x))
        (first
          | with_reducible assumption
          | with_reducible exact HC
          | with_reducible exact HC5
          | exact HC5)
        (fail)
      have HW5 := Lib.hid (show Below wr.heap.size wr (wr.alloc (.cells #[.int .i64 (n + 1), .int .i64 x, .int .i64 ck, .int .i64 nx, .int .i64 (L.length : Int)] 3)) from (Below.refl _ _).alloc (Nat.le_refl _) _)
      have HSD5 : Hid (SD B sb db (famD D at_ L L.length) ⟨ck, nx, L⟩ (.slice sa L.length sc) n f x false (wr.alloc (.cells #[.int .i64 (n + 1), .int .i64 x, .int .i64 ck, .int .i64 nx, .int .i64 (L.length : Int)] 3)).drew) := Lib.hid (HS.out.keep HW5.out).drew
      have HT5 : Hid (Two sb db W (wr.alloc (.cells #[.int .i64 (n + 1), .int .i64 x, .int .i64 ck, .int .i64 nx, .int .i64 (L.length : Int)] 3)).drew) := Lib.hid ((HT.out.trans (Two.of_below HW5.out)).trans (Two.of_drew _))
      have HI6 : Hid (IntsAt (wr.alloc (.cells #[.int .i64 (n + 1), .int .i64 x, .int .i64 ck, .int .i64 nx, .int .i64 (L.length : Int)] 3)).drew wr.heap.size [n + 1, x, ck, nx, (L.length : Int)]) := Lib.hid (ints_new wr 3 [n + 1, x, ck, nx, (L.length : Int)])
      have HNN : Hid (∀ y ∈ [n + 1, x, ck, nx, (L.length : Int)], okM y = true) := Lib.hid (nums_ok HI.out h0 h1 h2 h3)
      clear HSD HB5 HC HC5 HS HT HW5 c0 c1 c2 c3 c4 c5 c6 c7 z hlt
      have hl5 : [n + 1, x, ck, nx, (L.length : Int)].length = 5 := rfl
      go_wp2_with fail
      generalize (wr.alloc (.cells #[.int .i64 (n + 1), .int .i64 x, .int .i64 ck, .int .i64 nx, .int .i64 (L.length : Int)] 3)).drew = w5 at *
      generalize wr.heap.size = g5 at *
      go_loopw [11, 87] (fun out i wr' => NumRel w5 g5 [n + 1, x, ck, nx, (L.length : Int)] out i wr') (fun _ i _ => 5 - (intOf i).toNat)
      case atStart => exact ⟨0, Nat.zero_le _, rfl, TN.start HI6.out⟩
      case round =>
        obtain ⟨k, hk, rfl, ht⟩ := hrel
        have HTN := Lib.hid ht
        clear ht
        generalize hL5 : [n + 1, x, ck, nx, (L.length : Int)] = L5 at *
        have HL5 := Lib.hid hL5
        clear hL5
        by_cases hlt5 : k < 5
        · have hc := HTN.out.ints k (by omega)
          have hok : okM (L5.getD k 0) = true := HNN.out _ (by rw [List.getD_eq_getElem?_getD, List.getElem?_eq_getElem (by omega)]; exact List.getElem_mem (by omega))
          have HX := Lib.hid (show encStr (Lib.itoa (L5.getD k 0)) = .string (itoS (L5.getD k 0)) from rfl)
          generalize hx : L5.getD k 0 = xk at *
          have HXX := Lib.hid hx
          have HIT := Lib.hid (fun w hT => itoaM_c xk hok w hT)
          clear hx hok
          generalize itoS xk = y at *
          go_wp2_with fail
          go_at_call 74
          refine (HIT.out _ (HSD5.out.keep HTN.out.below).env.tens).mono ?_
          rintro e w6 ⟨rfl, hb⟩
          have HT1 := Lib.hid (HTN.out.call hb)
          have hrow := HT1.out.row
          have hB2 := HT1.out.below.size
          clear hb hc
          go_wp2_with
            (at_builtin; refine wpList_append_own _ rfl _ _ 48 rfl w5.heap.size 9 i0 (.string ByteArray.empty) 1 16 Tryz.underlying48 hii hz0 hz1 hz2 rfl (by decide) _ _ _ rfl (hrow.alloc _) ⟨w6.heap.size, 0, none⟩ 1 1 [.string y] rfl rfl (cell_one_new _ _ _) (fun x hx => by simp at hx; subst hx; rfl) (by unfold maxLen; omega) (by omega) (by simp; omega) ?_; intro v' w7 hown hgrow hnil
             have HO := Lib.hid hown
             have HG := Lib.hid hgrow
             clear hown hgrow hnil hrow)
          go_roundw
          case rel => exact ⟨k + 1, by omega, by go_num, TN.next HI6.out HT1.out (by omega) (by rw [HXX.out]; exact HX.out.symm) HO.out HG.out⟩
          case measure => simp [intOf]; omega
        · obtain rfl : k = 5 := by omega
          have hrow := HTN.out.row
          rw [List.take_of_length_le (by omega)] at hrow
          have hb0 := HTN.out.below
          have HC0 := SD.one (HSD5.out.keep hb0).drew
          have HTG := Lib.hid (fun w => mac_tag 1 (txt (allL L)) w (by omega))
          rw [data_txt] at HTG
          have hgs : (⟨(tagL 1 (allL L)).toArray⟩ : ByteArray) = txt (tagL 1 (allL L)) := rfl
          rw [hgs] at HTG
          have hwl := head_len (n := n + 1) (f := x) (s := ⟨ck, nx, L⟩) HI.out (okM_iff.2 (by omega)) (okM_iff.2 (by omega))
          have hwds : L5.map (fun x => encStr (Lib.itoa x)) ++ [.string (txt (tagL 1 (allL L)))] = (headW tagL (n + 1) x ⟨ck, nx, L⟩ (allL L)).map encStr := by
            rw [← HL5.out]
            rfl
          have HWD := Lib.hid hwds
          have hsz5 := hb0.size
          clear hwds hgs
          have HROW : Hid (∀ (w8 : World) (g8 cap8 : Nat), w8.ownsRow w5.heap.size 9 1 (.slice (some ⟨g8, 0, none⟩) (5 + 1) cap8) (5 + 1) (L5.map (fun x => encStr (Lib.itoa x)) ++ [.string (txt (tagL 1 (allL L)))]) → Row w8 w5.heap.size (.slice (some ⟨g8, 0, none⟩) (5 + 1) cap8) (headW tagL (n + 1) x ⟨ck, nx, L⟩ (allL L))) := Lib.hid (fun w8 g8 cap8 ho => by
            rw [HWD.out] at ho
            exact row_of_owns ho (by simp [headW]))
          have HSE := Lib.hid (fun w v h => store_sealed w5.heap.size v (headW tagL (n + 1) x ⟨ck, nx, L⟩ (allL L)) w h (by simp [headW]) (by have := hwl.1; exact Nat.le_trans this (by decide)))
          have hhd : txt (sealL tagL (glue 32 (headW tagL (n + 1) x ⟨ck, nx, L⟩ (allL L)))) = txt (headL tagL (n + 1) x ⟨ck, nx, L⟩) := rfl
          rw [hhd] at HSE
          have hhs : (txt (headL tagL (n + 1) x ⟨ck, nx, L⟩)).size ≤ 240 := by rw [txt_size_]; exact hwl.2
          have hbd : Below w5.heap.size w5 wr.drew := ⟨hb0.os, hb0.tape, hb0.output, hb0.size, hb0.block⟩
          have hrd : wr.drew.ownsRow w5.heap.size 9 1 u11 5 (L5.map (fun x => encStr (Lib.itoa x))) := hrow
          clear hhd hwl HWD
          generalize (headW tagL (n + 1) x ⟨ck, nx, L⟩ (allL L)) = words at *
          generalize hgt : txt (tagL 1 (allL L)) = tg at *
          generalize txt (allL L) = al at *
          generalize hhe : txt (headL tagL (n + 1) x ⟨ck, nx, L⟩) = hd at HSE hhs
          have HHD := Lib.hid hhe
          clear hhe
          rcases hoff : offB (famD D at_ L L.length) with _ | _
          · have HWR := Lib.hid (fun w h => disk_write db (famD D at_ L L.length) at_ hd w h (by omega) hhs hoff)
            have HOO := Lib.hid hoff
            clear hoff hhs
            go_wp2_with fail
            go_region_held3 (fun w' => w'.cell? ⟨sb, 0, none⟩ = some (.pointer (some ⟨db, 0, none⟩)))
              (first
                | with_reducible assumption
                | with_reducible exact HC0
                | with_reducible exact SD.one (SD.keep HSD5.out hb9)
                | with_reducible exact SD.one (SD.keep HSD5.out hb8)
                | with_reducible exact SD.one (SD.keep HSD5.out hba)
                | with_reducible exact SD.one (SD.keep HSD5.out hbt)
                | with_reducible exact SD.one hs10)
              (first
                | (go_at_call 76; with_reducible refine (HTG.out _).mono ?_; rintro e wt ⟨rfl, hb⟩
                   have hbt := below_2 hbd hb
                   have hrt := nums_below hrd hb
                   have hba := Below.alloc hbt hbt.size (.cells #[.string tg] 9)
                   have hra := hrt.alloc (.cells #[.string tg] 9)
                   have hza := hba.size)
                | (refine step_append_lies _ rfl _ _ 48 rfl w5.heap.size 9 i0 (.string ByteArray.empty) 1 16 Tryz.underlying48 hii hz0 hz1 hz2 rfl (by decide) _ _ _ rfl hra ⟨wt.heap.size, 0, none⟩ 1 1 [.string tg] rfl rfl (cell_one_new _ _ _) (fun x hx => by simp at hx; subst hx; rfl) (by decide) (by unfold maxLen; omega) (by omega) hza _ rfl ?_; intro g8 cap8 w8 hown hgrow hat8 hlt8
                   have hr8 := HROW.out w8 g8 cap8 hown
                   have hb8 := Below.grown hba hgrow hba.size (fun i e => (World.ownsRow.lt hra i e).1)
                   clear hown hgrow hat8 hlt8)
                | (go_at_call 75; with_reducible refine (HSE.out _ _ hr8).mono ?_; rintro e w9 ⟨rfl, hb⟩
                   have hb9 := below_2 hb8 hb)
                | (go_at_call 72; with_reducible refine (HWR.out _ (SD.disk (SD.keep HSD5.out hb9))).mono ?_; rintro e w10 ⟨rfl, hd10, hg10⟩
                   have hs10 := SD.wrote (SD.keep HSD5.out hb9) hd10 hg10))
            have HS10 := Lib.hid hs10
            have HT10 := Lib.hid ((HT5.out.trans (Two.of_below hb9)).trans (Two.of_two hg10))
            obtain ⟨c0, c1, c2, c3, c4, c5, c6, c7, z, hlt⟩ := HS10.out.cells
            clear hs10 hd10 hg10 hb9 hr8 hb8 hza hra hba hrt hbt hrd hbd hrow hb0 HC0 hsz5
            go_wp2_with fail
            go_ret
            obtain ⟨k1, k2⟩ := HS10.out.number (n + 1) x
            have e := HHD.out
            subst e
            refine ⟨true, _, .inl ⟨rfl, fun m hm => ?_, rfl⟩, HT10.out.trans (Two.of_one k2), .inl ⟨rfl, rfl, k1⟩⟩
            rcases Nat.lt_or_ge m L.length with hml | hml
            · exact HN.out m hml
            · obtain rfl : m = L.length := Nat.le_antisymm hm hml
              exact HOO.out
          · obtain ⟨q1, q2⟩ := off_iff hoff
            have HWR := Lib.hid (fun w h => disk_write_off db (famD D at_ L L.length) (at_ : Int) hd w h (by omega) (by omega) hhs q1 q2)
            have HOO := Lib.hid hoff
            clear hoff hhs q1 q2
            go_wp2_with fail
            go_region_held3 (fun w' => w'.cell? ⟨sb, 0, none⟩ = some (.pointer (some ⟨db, 0, none⟩)))
              (first
                | with_reducible assumption
                | with_reducible exact HC0
                | with_reducible exact SD.one (SD.keep HSD5.out hb9)
                | with_reducible exact SD.one (SD.keep HSD5.out hb8)
                | with_reducible exact SD.one (SD.keep HSD5.out hba)
                | with_reducible exact SD.one (SD.keep HSD5.out hbt))
              (first
                | (go_at_call 76; with_reducible refine (HTG.out _).mono ?_; rintro e wt ⟨rfl, hb⟩
                   have hbt := below_2 hbd hb
                   have hrt := nums_below hrd hb
                   have hba := Below.alloc hbt hbt.size (.cells #[.string tg] 9)
                   have hra := hrt.alloc (.cells #[.string tg] 9)
                   have hza := hba.size)
                | (refine step_append_lies _ rfl _ _ 48 rfl w5.heap.size 9 i0 (.string ByteArray.empty) 1 16 Tryz.underlying48 hii hz0 hz1 hz2 rfl (by decide) _ _ _ rfl hra ⟨wt.heap.size, 0, none⟩ 1 1 [.string tg] rfl rfl (cell_one_new _ _ _) (fun x hx => by simp at hx; subst hx; rfl) (by decide) (by unfold maxLen; omega) (by omega) hza _ rfl ?_; intro g8 cap8 w8 hown hgrow hat8 hlt8
                   have hr8 := HROW.out w8 g8 cap8 hown
                   have hb8 := Below.grown hba hgrow hba.size (fun i e => (World.ownsRow.lt hra i e).1)
                   clear hown hgrow hat8 hlt8)
                | (go_at_call 75; with_reducible refine (HSE.out _ _ hr8).mono ?_; rintro e w9 ⟨rfl, hb⟩
                   have hb9 := below_2 hb8 hb)
                | (go_at_call 72; with_reducible refine (HWR.out _ (SD.disk (SD.keep HSD5.out hb9))).mono ?_; rintro e w10 ⟨rfl, rfl⟩))
            have HS9 := Lib.hid (HSD5.out.keep hb9)
            have HT9 := Lib.hid (HT5.out.trans (Two.of_below hb9))
            clear hb9 hr8 hb8 hza hra hba hrt hbt hrd hbd hrow hb0 HC0 hsz5
            obtain ⟨c0, c1, c2, c3, c4, c5, c6, c7, z, hlt⟩ := HS9.out.cells
            go_wp2_with fail
            refine (store_fail sb db ⟨ck, nx, L⟩ _ n f x false _ HS9.out.st).mono ?_
            rintro e w11 ⟨rfl, hs4, hg4⟩
            have HS11 := Lib.hid (HS9.out.noted hs4 hg4)
            have HT11 := Lib.hid (HT9.out.trans (Two.of_one hg4))
            clear hs4 hg4
            go_wp2_with fail
            go_ret
            exact ⟨false, _, .inr ⟨rfl, L.length, Nat.le_refl _, HN.out, HOO.out, rfl⟩, HT11.out, .inr ⟨rfl, rfl, HS11.out⟩⟩
end Go.Proofs.YtckohmhhcknmaaaGreatDoor

/-
  The event that the program reads out of a line's words is the one that the reference tries, in plain Lean.
-/
namespace Go.Proofs.YtckohmhhcknmaaaGreatDoor

theorem wordL_unL {d : List UInt8} : wordL (unL d) = d ↔ d ≠ [] := by
  unfold unL
  by_cases h : d = [95]
  · subst h; rw [if_pos rfl]; simp [wordL]
  · rw [if_neg h]
    unfold wordL
    by_cases h0 : d = []
    · subst h0; simp
    · rw [if_neg h0]; simp [h0]
theorem deadL_is {i : List UInt8} : deadL (decide (i = [49])) = i ↔ i = [48] ∨ i = [49] := by
  unfold deadL
  by_cases h : i = [49]
  · subst h; simp
  · simp only [h, decide_false, Bool.false_eq_true, if_false, or_false]
    exact eq_comm
theorem unL_of {l : List UInt8} (h : nameB l = true) : unL l = l := by
  unfold unL
  rw [if_neg]
  rintro rfl
  revert h
  decide
theorem famB_eq (a : Int) (b c d : ByteArray) (e f g : Int) (h : ByteArray) (i : Bool) : famB ⟨a, b, c, d, e, f, g, h, i⟩ = (okN a && okN e && okN f && okN g && nameB b.data.toList && nameB c.data.toList && reqB h.data.toList && scopeB d.data.toList) := rfl
theorem famV_nine (a b c d e f g h i : List UInt8) (r : List (List UInt8)) : famV (a :: b :: c :: d :: e :: f :: g :: h :: i :: r, false) = ⟨atoiN a, txt (unL b), txt (unL c), txt (unL d), atoiN e, atoiN f, atoiN g, txt (unL h), decide (i = [49])⟩ := rfl
theorem famS_nine (a b c d e f g h i : List UInt8) (r : List (List UInt8)) : famS (a :: b :: c :: d :: e :: f :: g :: h :: i :: r, false) = (r, ((((((((false || !numE a) || decide (b = [])) || decide (c = [])) || decide (d = [])) || !numE e) || !numE f) || !numE g) || decide (h = [])) || (!decide (i = [48]) && !decide (i = [49]))) := rfl
/-- fewer words than nine -/
theorem famS_few {r : List (List UInt8)} (h : r.length < 9) : (famS (r, false)).2 = true := by
  have e0 : numE [] = false := by decide
  rcases r with _ | ⟨a, _ | ⟨b, _ | ⟨c, _ | ⟨d, _ | ⟨e, _ | ⟨f, _ | ⟨g, _ | ⟨h, _ | ⟨i, r⟩⟩⟩⟩⟩⟩⟩⟩⟩
  all_goals first | (simp [famS, numS, textS, nextS, nextV, e0]; done) | (simp at h; omega)
theorem nine (a b c d e f g h i : List UInt8) :
    (progB ([112] :: [a, b, c, d, e, f, g, h, i], false) = (evB (cand ([112] :: [a, b, c, d, e, f, g, h, i])) && decide (evW (cand ([112] :: [a, b, c, d, e, f, g, h, i])) = [112] :: [a, b, c, d, e, f, g, h, i]))) ∧
    (progB ([112] :: [a, b, c, d, e, f, g, h, i], false) = true → (progE ([112] :: [a, b, c, d, e, f, g, h, i], false)).1 = cand ([112] :: [a, b, c, d, e, f, g, h, i])) := by
  have e1 : progE ([112] :: [a, b, c, d, e, f, g, h, i], false) = (⟨1, famV ([a, b, c, d, e, f, g, h, i], false), 0, 0⟩, famS ([a, b, c, d, e, f, g, h, i], false)) := rfl
  have e2 : cand ([112] :: [a, b, c, d, e, f, g, h, i]) = ⟨1, ⟨atoiN a, txt b, txt c, txt (unL d), atoiN e, atoiN f, atoiN g, txt (unL h), decide (i = [49])⟩, 0, 0⟩ := rfl
  have e3 : evW ⟨1, ⟨atoiN a, txt b, txt c, txt (unL d), atoiN e, atoiN f, atoiN g, txt (unL h), decide (i = [49])⟩, 0, 0⟩ = [[112], Lib.itoa (atoiN a), b, c, wordL (unL d), Lib.itoa (atoiN e), Lib.itoa (atoiN f), Lib.itoa (atoiN g), wordL (unL h), deadL (decide (i = [49]))] := by
    rw [evW_1 rfl]
    simp only [famW, data_txt]
  constructor
  · unfold progB
    rw [e1, e2, e3, famV_nine, famS_nine]
    dsimp only
    rw [evB_one, evB_one, famB_eq, famB_eq, data_txt, data_txt, data_txt, data_txt, data_txt, data_txt, nameB_un, nameB_un, Bool.eq_iff_iff]
    simp only [Bool.and_eq_true, Bool.not_eq_true', Bool.or_eq_false_iff, Bool.not_eq_false', decide_eq_true_eq, decide_eq_false_iff_not, Bool.false_or, List.cons.injEq, true_and, and_true, wordL_unL, deadL_is, Bool.and_eq_false_iff]
    constructor
    · rintro ⟨⟨⟨⟨⟨⟨⟨⟨⟨ha, hb⟩, hc⟩, hd⟩, he⟩, hf⟩, hg⟩, hh⟩, hi⟩, hX⟩
      refine ⟨hX, ?_⟩
      unfold numE at ha he hf hg
      simp only [Bool.and_eq_true, decide_eq_true_eq] at ha he hf hg
      refine ⟨ha.2, hd, he.2, hf.2, hg.2, hh, ?_⟩
      exact hi
    · rintro ⟨hX, ha, hd, he, hf, hg, hh, hi⟩
      refine ⟨⟨⟨⟨⟨⟨⟨⟨⟨?_, ?_⟩, ?_⟩, hd⟩, ?_⟩, ?_⟩, ?_⟩, hh⟩, ?_⟩, hX⟩
      · rw [numE_of hX.1.1.1.1.1.1.1]; simpa using ha
      · exact nameB_ne hX.1.1.1.2
      · exact nameB_ne hX.1.1.2
      · rw [numE_of hX.1.1.1.1.1.1.2]; simpa using he
      · rw [numE_of hX.1.1.1.1.1.2]; simpa using hf
      · rw [numE_of hX.1.1.1.1.2]; simpa using hg
      · rcases hi with hi | hi
        · exact .inl (by simp [hi])
        · exact .inr (by simp [hi])
  · intro hp
    unfold progB at hp
    rw [e1] at hp ⊢
    rw [e2, famV_nine] at *
    dsimp only at hp ⊢
    rw [evB_one, famB_eq] at hp
    simp only [Bool.and_eq_true, data_txt, nameB_un] at hp
    rw [unL_of hp.2.1.1.1.2, unL_of hp.2.1.1.2]
theorem cand_ten {ps : List (List UInt8)} (h : ps.length = 10) : evW (cand ps) = [112] :: famW (cand ps).fam := by
  rcases ps with _ | ⟨x, _ | ⟨a, _ | ⟨b, _ | ⟨c, _ | ⟨d, _ | ⟨e, _ | ⟨f, _ | ⟨g, _ | ⟨h, _ | ⟨i, _ | ⟨j, r⟩⟩⟩⟩⟩⟩⟩⟩⟩⟩⟩
  all_goals first | (simp at h; done) | rfl
theorem cand_odd {ps : List (List UInt8)} (h1 : ps.length ≠ 10) (h2 : ps.length ≠ 2) : cand ps = Ev.zero := by
  rcases ps with _ | ⟨x, _ | ⟨a, _ | ⟨b, _ | ⟨c, _ | ⟨d, _ | ⟨e, _ | ⟨f, _ | ⟨g, _ | ⟨h, _ | ⟨i, _ | ⟨j, r⟩⟩⟩⟩⟩⟩⟩⟩⟩⟩⟩
  all_goals first | (simp at h1 h2; done) | rfl
theorem no_cand {x : List UInt8} {r : List (List UInt8)} (h10 : x ≠ [112] ∨ r.length ≠ 9) (h2 : (x ≠ [100] ∧ x ≠ [99]) ∨ r.length ≠ 1) : (evB (cand (x :: r)) && decide (evW (cand (x :: r)) = x :: r)) = false := by
  by_cases hl : r.length = 9
  · have hx : x ≠ [112] := h10.resolve_right fun h => h hl
    rw [cand_ten (by simp [hl])]
    simp [Ne.symm hx]
  · by_cases hl1 : r.length = 1
    · obtain ⟨a, rfl⟩ := List.length_eq_one_iff.1 hl1
      obtain ⟨hx1, hx2⟩ := h2.resolve_right fun h => h rfl
      have : cand [x, a] = ⟨3, Fam.zero, 0, atoiN a⟩ := by
        show (if x = [100] then _ else _) = _
        rw [if_neg hx1]
      rw [this, evW_3 rfl]
      simp [Ne.symm hx2]
    · rw [cand_odd (by simp; omega) (by simp; omega), evB_zero]
      rfl
/-- what the program takes is what the reference takes -/
theorem prog_cand (ps : List (List UInt8)) : progB (ps, false) = (evB (cand ps) && decide (evW (cand ps) = ps)) ∧ (progB (ps, false) = true → (progE (ps, false)).1 = cand ps) := by
  rcases ps with _ | ⟨x, r⟩
  · exact ⟨by decide, fun h => absurd h (by decide)⟩
  · by_cases hp : x = [112]
    · subst hp
      by_cases hl : r.length = 9
      · rcases r with _ | ⟨a, _ | ⟨b, _ | ⟨c, _ | ⟨d, _ | ⟨e, _ | ⟨f, _ | ⟨g, _ | ⟨h, _ | ⟨i, _ | ⟨j, r⟩⟩⟩⟩⟩⟩⟩⟩⟩⟩
        all_goals first | (simp at hl; done) | exact nine _ _ _ _ _ _ _ _ _
      · have e0 : progB ([112] :: r, false) = false := by
          unfold progB
          rw [show progE ([112] :: r, false) = (⟨1, famV (r, false), 0, 0⟩, famS (r, false)) from rfl]
          by_cases h9 : r.length < 9
          · rw [famS_few h9]; rfl
          · rcases r with _ | ⟨a, _ | ⟨b, _ | ⟨c, _ | ⟨d, _ | ⟨e, _ | ⟨f, _ | ⟨g, _ | ⟨h, _ | ⟨i, _ | ⟨j, r⟩⟩⟩⟩⟩⟩⟩⟩⟩⟩
            all_goals first | (simp at hl h9; done) | (rw [famS_nine]; simp)
        rw [e0, no_cand (.inr hl) (.inl ⟨by decide, by decide⟩)]
        exact ⟨rfl, fun h => by cases h⟩
    · by_cases hd : x = [100]
      · subst hd
        have e1 : progE ([100] :: r, false) = (⟨2, Fam.zero, numV (r, false), 0⟩, numS (r, false)) := rfl
        by_cases hl : r.length = 1
        · obtain ⟨a, rfl⟩ := List.length_eq_one_iff.1 hl
          have e2 : cand [[100], a] = ⟨2, Fam.zero, atoiN a, 0⟩ := rfl
          constructor
          · unfold progB
            rw [e1, e2, evB_two, evW_2 rfl]
            show (!(false || !numE a) && decide (([] : List (List UInt8)) = []) && evB ⟨2, Fam.zero, atoiN a, 0⟩) = _
            rw [evB_two]
            have := okN_numE (l := a)
            simp only [Bool.false_or, Bool.not_not, decide_true, Bool.and_true, List.cons.injEq, true_and, and_true]
            rw [Bool.and_comm]
            exact this
          · intro _
            rw [e1, e2]
            rfl
        · have e0 : progB ([100] :: r, false) = false := by
            unfold progB
            rw [e1]
            rcases r with _ | ⟨a, _ | ⟨b, r⟩⟩
            · rfl
            · simp at hl
            · simp [numS, nextS]
          rw [e0, no_cand (.inl (by decide)) (.inr hl)]
          exact ⟨rfl, fun h => by cases h⟩
      · by_cases hc : x = [99]
        · subst hc
          have e1 : progE ([99] :: r, false) = (⟨3, Fam.zero, 0, numV (r, false)⟩, numS (r, false)) := rfl
          by_cases hl : r.length = 1
          · obtain ⟨a, rfl⟩ := List.length_eq_one_iff.1 hl
            have e2 : cand [[99], a] = ⟨3, Fam.zero, 0, atoiN a⟩ := rfl
            constructor
            · unfold progB
              rw [e1, e2, evB_three, evW_3 rfl]
              show (!(false || !numE a) && decide (([] : List (List UInt8)) = []) && evB ⟨3, Fam.zero, 0, atoiN a⟩) = _
              rw [evB_three]
              have := okN_numE (l := a)
              simp only [Bool.false_or, Bool.not_not, decide_true, Bool.and_true, List.cons.injEq, true_and, and_true]
              rw [Bool.and_comm]
              exact this
            · intro _
              rw [e1, e2]
              rfl
          · have e0 : progB ([99] :: r, false) = false := by
              unfold progB
              rw [e1]
              rcases r with _ | ⟨a, _ | ⟨b, r⟩⟩
              · rfl
              · simp at hl
              · simp [numS, nextS]
            rw [e0, no_cand (.inl (by decide)) (.inr hl)]
            exact ⟨rfl, fun h => by cases h⟩
        · have e0 : progB (x :: r, false) = false := by
            unfold progB progE
            show (!(if x = [112] then _ else if x = [100] then _ else if x = [99] then _ else _ : Ev × Rd).2.2 && _ && _) = false
            rw [if_neg hp, if_neg hd, if_neg hc]
            rfl
          rw [e0, no_cand (.inl hp) (.inl ⟨hd, hc⟩)]
          exact ⟨rfl, fun h => by cases h⟩
theorem prog_read (l : List UInt8) : progB (parts 32 l, false) = readB l ∧ (readB l = true → (progE (parts 32 l, false)).1 = readE l) := by
  obtain ⟨h1, h2⟩ := prog_cand (parts 32 l)
  refine ⟨h1, fun h => ?_⟩
  rw [h2 (by rw [h1]; exact h)]
  unfold readE
  rw [if_pos h]
end Go.Proofs.YtckohmhhcknmaaaGreatDoor

/-
  event's reader: next, num, text.
-/
namespace Go.Proofs.YtckohmhhcknmaaaGreatDoor
open Go.RowKit Go.Sort

/-- v is a slice that holds these words, beside the block rb -/
def WordsOf (w : World) (rb : Nat) (v : Value) (ws : List (List UInt8)) : Prop :=
  ∃ g o cap, v = .slice (some ⟨g, o, none⟩) ws.length cap ∧ ws.length ≤ cap ∧ cap ≤ 9223372036854775807 ∧ g < rb ∧ ∀ j, j < ws.length → w.cell? ⟨g, o + j, none⟩ = some (.string (txt (ws.getD j [])))
theorem WordsOf.below {w w' : World} {rb : Nat} {v : Value} {ws : List (List UInt8)} (h : WordsOf w rb v ws) (hb : Below w.heap.size w w') : WordsOf w' rb v ws := by
  obtain ⟨g, o, cap, rfl, h1, h2, h3, h4⟩ := h
  refine ⟨g, o, cap, rfl, h1, h2, h3, fun j hj => ?_⟩
  have hc := h4 j hj
  rw [hb.cell (p := ⟨g, o + j, none⟩) (World.block_lt_of_cell? w _ hc)]
  exact hc
theorem WordsOf.set {w : World} {rb i : Nat} {v u : Value} {ws : List (List UInt8)} (h : WordsOf w rb v ws) : WordsOf (w.setCell ⟨rb, i, none⟩ u) rb v ws := by
  obtain ⟨g, o, cap, rfl, h1, h2, h3, h4⟩ := h
  refine ⟨g, o, cap, rfl, h1, h2, h3, fun j hj => ?_⟩
  rw [World.cell?_setCell_other _ _ _ _ (by simp <;> omega)]
  exact h4 j hj
theorem WordsOf.other {w w' : World} {rb eb : Nat} {v : Value} {ws : List (List UInt8)} (h : WordsOf w rb v ws) (hg : w.grownBy w' (some eb)) (he : rb ≤ eb) : WordsOf w' rb v ws := by
  obtain ⟨g, o, cap, rfl, h1, h2, h3, h4⟩ := h
  refine ⟨g, o, cap, rfl, h1, h2, h3, fun j hj => ?_⟩
  have hc := h4 j hj
  have hb := hg.block g (World.block_lt_of_cell? w _ hc) (by simp; omega)
  rw [← hc]
  simp only [World.cell?, hb]
/-- a reader's block -/
structure RdAt (w : World) (rb : Nat) (st : Rd) : Prop where
  ex : ∃ v, Blk w rb 235 #[v, .bool st.2] ∧ WordsOf w rb v st.1
  small : ∀ x ∈ st.1, x.length ≤ 1000
theorem RdAt.below {w w' : World} {rb : Nat} {st : Rd} (h : RdAt w rb st) (hb : Below w.heap.size w w') : RdAt w' rb st := by
  obtain ⟨⟨v, h1, h2⟩, h3⟩ := h
  exact ⟨⟨v, h1.below' hb, h2.below hb⟩, h3⟩
theorem RdAt.other {w w' : World} {rb eb : Nat} {st : Rd} (h : RdAt w rb st) (hg : w.grownBy w' (some eb)) (he : rb < eb) : RdAt w' rb st := by
  obtain ⟨⟨v, h1, h2⟩, h3⟩ := h
  exact ⟨⟨v, h1.grown hg (by simp; omega), h2.other hg (by omega)⟩, h3⟩
theorem RdAt.bad {w : World} {rb : Nat} {st : Rd} (h : RdAt w rb st) (b : Bool) : RdAt (w.setCell ⟨rb, 1, none⟩ (.bool b)) rb (st.1, b) := by
  obtain ⟨⟨v, h1, h2⟩, h3⟩ := h
  exact ⟨⟨v, h1.set_ 1 (.bool b), h2.set⟩, h3⟩
theorem RdAt.cut {W : World} {rb g o o' cap' : Nat} {v : Value} {x : List UInt8} {r : List (List UInt8)} {b : Bool} (hB : Blk W rb 235 #[v, .bool b]) (h3 : g < rb)
    (h4 : ∀ j, j < (x :: r).length → W.cell? ⟨g, o + j, none⟩ = some (.string (txt ((x :: r).getD j [])))) (hs : ∀ y ∈ x :: r, y.length ≤ 1000) (hc : r.length ≤ cap') (hm : cap' ≤ 9223372036854775807) (ho : r.length = 0 ∨ o' = o + 1) :
    RdAt (W.setCell ⟨rb, 0, none⟩ (.slice (some ⟨g, o', none⟩) r.length cap')) rb (r, b) := by
  refine ⟨⟨_, hB.set_ 0 _, g, o', cap', rfl, hc, hm, h3, fun j hj => ?_⟩, fun y hy => hs y (List.mem_cons_of_mem _ hy)⟩
  rw [World.cell?_setCell_other _ _ _ _ (by simp <;> omega)]
  have e : o' = o + 1 := ho.resolve_left (by have : j < r.length := hj; omega)
  have := h4 (j + 1) (by simpa using hj)
  rw [e, show o + 1 + j = o + (j + 1) by omega, this]
  rfl
theorem nextV_len {st : Rd} (h : ∀ x ∈ st.1, x.length ≤ 1000) : (nextV st).length ≤ 1000 := by
  obtain ⟨ws, b⟩ := st
  cases ws with
  | nil => simp [nextV]
  | cons x r => exact h x (by simp)

set_option maxHeartbeats 1000000 in
theorem rd_next (rb : Nat) (st : Rd) (W : World) (h : RdAt W rb st) :
    Calls Tryz.prog 141 #[.pointer (some ⟨rb, 0, none⟩)] W fun e w' => e = .returned (.string (txt (nextV st))) ∧ RdAt w' rb (nextS st) ∧ W.grownBy w' (some rb) := by
  obtain ⟨ws, b⟩ := st
  have HH := Lib.hid h
  obtain ⟨⟨v, hB, hW⟩, hs⟩ := h
  dsimp only at hB hW hs
  have c0 := hB.cell 0
  have c1 := hB.cell 1
  have f0 := hB.frozen 0
  have f1 := hB.frozen 1
  have hlt := hB.lt
  have HB := Lib.hid hB
  clear hB
  cases ws with
  | nil =>
    obtain ⟨g, o, cap, rfl, h1, h2, h3, h4⟩ := hW
    have HG := Lib.hid (only_setCell (only_refl W (some rb)) (p := ⟨rb, 1, none⟩) (.inl rfl) (.bool true))
    have HR := Lib.hid (HH.out.bad true)
    clear h4
    go_enter Tryz.func141, Tryz.ntmps141
    go_wp2_with fail
    go_ret
    exact ⟨rfl, HR.out, HG.out⟩
  | cons x r =>
    obtain ⟨g, o, cap, rfl, h1, h2, h3, h4⟩ := hW
    have hc : W.cell? ⟨g, o, none⟩ = some (.string (txt x)) := by simpa using h4 0 (by simp)
    have HC := Lib.hid h4
    have hl : r.length + 1 ≤ cap := h1
    clear h4 h1
    go_enter Tryz.func141, Tryz.ntmps141
    go_wp2_with fail
    · go_ret
      exact ⟨rfl, RdAt.cut HB.out h3 HC.out hs (by omega) (by omega) (.inl (by omega)), only_setCell (only_refl W (some rb)) (.inl rfl) _⟩
    · go_ret
      exact ⟨rfl, RdAt.cut HB.out h3 HC.out hs (by omega) (by omega) (.inr rfl), only_setCell (only_refl W (some rb)) (.inl rfl) _⟩

/-- what is known while a reader reads -/
structure RS (W : World) (rb : Nat) (st : Rd) (w : World) : Prop where
  base : WB W W
  errs0 : ErrVars W
  below : Below W.heap.size W w
  le : W.heap.size ≤ rb
  rd : RdAt w rb st
section
variable {W w w' : World} {rb : Nat} {st st' : Rd}
theorem RS.wb (h : RS W rb st w) : WB W w := h.base.keep h.below
theorem RS.errs (h : RS W rb st w) : ErrVars w := h.errs0.below' h.below
theorem RS.keep (h : RS W rb st w) (hb : Below w.heap.size w w') : RS W rb st w' := ⟨h.base, h.errs0, below_2 h.below hb, h.le, h.rd.below hb⟩
theorem RS.turn (h : RS W rb st w) (hr : RdAt w' rb st') (hg : w.grownBy w' (some rb)) : RS W rb st' w' := ⟨h.base, h.errs0, below_of_only h.below hg h.le h.below.size, h.le, hr⟩
theorem RS.setBad (h : RS W rb st w) (b : Bool) : RS W rb (st.1, b) (w.setCell ⟨rb, 1, none⟩ (.bool b)) := h.turn (h.rd.bad b) (only_setCell (only_refl w (some rb)) (.inl rfl) _)
theorem RS.cells (h : RS W rb st w) : w.cell? ⟨rb, 1, none⟩ = some (.bool st.2) ∧ w.frozen? ⟨rb, 1, none⟩ = false ∧ rb < w.heap.size := by
  obtain ⟨⟨v, h1, _⟩, _⟩ := h.rd
  exact ⟨h1.cell 1, h1.frozen 1, h1.lt⟩
end
theorem rs_next {W w : World} {rb : Nat} {st : Rd} (h : RS W rb st w) :
    Calls Tryz.prog 141 #[.pointer (some ⟨rb, 0, none⟩)] w fun e w' => e = .returned (.string (txt (nextV st))) ∧ RS W rb (nextS st) w' ∧ w.grownBy w' (some rb) :=
  (rd_next rb st w h.rd).mono fun _ _ ⟨h1, h2, h3⟩ => ⟨h1, h.turn h2 h3, h3⟩
theorem itoa_list (n : Int) (x : List UInt8) : ((itoS n).toList == (txt x).toList) = decide (Lib.itoa n = x) := by
  rw [itoS_list, toList_txt, Bool.eq_iff_iff]
  simp
theorem rd_same (st : Rd) : (st.1, st.2 || false) = st := by
  obtain ⟨a, b⟩ := st
  simp
theorem rd_true (st : Rd) : (st.1, st.2 || true) = (st.1, true) := by simp

set_option maxHeartbeats 2000000 in
theorem rs_num {W w : World} {rb : Nat} {st : Rd} (h : RS W rb st w) :
    Calls Tryz.prog 142 #[.pointer (some ⟨rb, 0, none⟩)] w fun e w' => e = .returned (.int .i64 (numV st)) ∧ RS W rb (numS st) w' ∧ w.grownBy w' (some rb) := by
  have hz : (txt (nextV st)).size ≤ 1000000 := by rw [txt_size]; have := nextV_len h.rd.small; omega
  have HN := Lib.hid (rs_next h)
  have hS : numS st = ((nextS st).1, (nextS st).2 || !numE (nextV st)) := rfl
  have hV : numV st = atoiN (nextV st) := rfl
  have hE' : numE (nextV st) = (atoiE (nextV st) && decide (Lib.itoa (atoiN (nextV st)) = nextV st)) := rfl
  rw [hE'] at hS
  rw [hV]
  have hbd := atoiN_bounds (nextV st)
  have hl := itoa_list (atoiN (nextV st)) (nextV st)
  have hdat : (txt (nextV st)).data.toList = nextV st := data_txt _
  have HAY := fun w (h : atoiE (nextV st) = true) => atoi_yes (txt (nextV st)) w hz (by rw [hdat]; exact h)
  have HAN := fun w hv (h : atoiE (nextV st) = false) => atoi_no (txt (nextV st)) w hz hv (by rw [hdat]; exact h)
  have HIT := Lib.hid (fun w hT => itoa_any (atoiN (nextV st)) hbd.1 hbd.2 w hT)
  rw [hdat] at HAY HAN
  clear hE' hV hdat h hbd
  generalize numS st = st2 at *
  generalize hx : nextV st = x at *
  generalize hy : txt x = y at *
  generalize hn : atoiN x = n at *
  generalize nextS st = st1 at *
  generalize itoS n = z at *
  cases hE : atoiE x
  · have HA := Lib.hid (fun w hv => HAN w hv hE)
    rw [hE, Bool.false_and, Bool.not_false, rd_true] at hS
    clear HAY HAN hl hE hx hy hn
    have HST := Lib.hid hS
    clear hS
    go_enter Tryz.func142, Tryz.ntmps142
    go_wp2_with fail
    go_at_call 141
    refine HN.out.mono ?_
    rintro e w1 ⟨rfl, h1, hg⟩
    have H1 := Lib.hid h1
    have HG := Lib.hid hg
    clear h1 hg
    go_wp2_with fail
    go_at_call 99
    refine (HA.out _ H1.out.errs).mono ?_
    rintro e w2 ⟨⟨te, pe, rfl⟩, hb⟩
    have H2 := Lib.hid (H1.out.keep hb)
    have HG2 := Lib.hid (only_below HG.out hb)
    clear hb
    obtain ⟨k1, k2, k3⟩ := H2.out.cells
    go_wp2_with fail
    go_ret
    refine ⟨rfl, ?_, only_setCell HG2.out (.inl rfl) _⟩
    rw [HST.out]
    exact H2.out.setBad true
  · have HA := Lib.hid (fun w => HAY w hE)
    rw [hE, Bool.true_and] at hS
    clear HAY HAN hE hx hy hn
    cases hq : decide (Lib.itoa n = x)
    · rw [hq, Bool.not_false, rd_true] at hS
      rw [hq] at hl
      have HST := Lib.hid hS
      clear hS hq
      go_enter Tryz.func142, Tryz.ntmps142
      go_wp2_with fail
      go_at_call 141
      refine HN.out.mono ?_
      rintro e w1 ⟨rfl, h1, hg⟩
      have H1 := Lib.hid h1
      have HG := Lib.hid hg
      clear h1 hg
      go_wp2_with fail
      go_at_call 99
      refine (HA.out _).mono ?_
      rintro e w2 ⟨rfl, hb⟩
      have H2 := Lib.hid (H1.out.keep hb)
      have HG2 := Lib.hid (only_below HG.out hb)
      clear hb
      go_wp2_with fail
      go_at_call 74
      refine (HIT.out _ H2.out.wb.tens).mono ?_
      rintro e w3 ⟨rfl, hb⟩
      have H3 := Lib.hid (H2.out.keep hb)
      have HG3 := Lib.hid (only_below HG2.out hb)
      clear hb
      obtain ⟨k1, k2, k3⟩ := H3.out.cells
      go_wp2_with fail
      go_ret
      refine ⟨rfl, ?_, only_setCell HG3.out (.inl rfl) _⟩
      rw [HST.out]
      exact H3.out.setBad true
    · rw [hq, Bool.not_true, rd_same] at hS
      rw [hq] at hl
      have HST := Lib.hid hS
      clear hS hq
      go_enter Tryz.func142, Tryz.ntmps142
      go_wp2_with fail
      go_at_call 141
      refine HN.out.mono ?_
      rintro e w1 ⟨rfl, h1, hg⟩
      have H1 := Lib.hid h1
      have HG := Lib.hid hg
      clear h1 hg
      go_wp2_with fail
      go_at_call 99
      refine (HA.out _).mono ?_
      rintro e w2 ⟨rfl, hb⟩
      have H2 := Lib.hid (H1.out.keep hb)
      have HG2 := Lib.hid (only_below HG.out hb)
      clear hb
      go_wp2_with fail
      go_at_call 74
      refine (HIT.out _ H2.out.wb.tens).mono ?_
      rintro e w3 ⟨rfl, hb⟩
      have H3 := Lib.hid (H2.out.keep hb)
      have HG3 := Lib.hid (only_below HG2.out hb)
      clear hb
      go_wp2_with fail
      go_ret
      refine ⟨rfl, ?_, HG3.out⟩
      rw [HST.out]
      exact H3.out

theorem under_list (x : List UInt8) : ((txt x).toList == [95]) = decide (x = [95]) := by
  rw [toList_txt, Bool.eq_iff_iff]
  simp
theorem none_list (x : List UInt8) : (txt x).toList.isEmpty = decide (x = []) := by
  rw [toList_txt]
  cases x <;> simp
set_option maxHeartbeats 2000000 in
theorem rs_text {W w : World} {rb : Nat} {st : Rd} (h : RS W rb st w) :
    Calls Tryz.prog 143 #[.pointer (some ⟨rb, 0, none⟩)] w fun e w' => e = .returned (.string (txt (textV st))) ∧ RS W rb (textS st) w' ∧ w.grownBy w' (some rb) := by
  have HN := Lib.hid (rs_next h)
  have hS : textS st = ((nextS st).1, (nextS st).2 || decide (nextV st = [])) := rfl
  have hV : textV st = unL (nextV st) := rfl
  have e1 := under_list (nextV st)
  have e2 := none_list (nextV st)
  rw [hV]
  clear hV h
  generalize textS st = st2 at *
  generalize hx : nextV st = x at *
  generalize hst1 : nextS st = st1 at *
  by_cases h95 : x = [95]
  · have hu : txt (unL x) = ⟨#[]⟩ := by unfold unL; rw [if_pos h95]; rfl
    have h0 : decide (x = []) = false := by rw [h95]; rfl
    rw [h0, rd_same] at hS
    rw [show decide (x = [95]) = true by simpa using h95] at e1
    have HU := Lib.hid hu
    have HST := Lib.hid hS
    clear hu hS h0 hx hst1 h95 e2
    generalize txt x = y at *
    go_enter Tryz.func143, Tryz.ntmps143
    go_wp2_with fail
    go_at_call 141
    refine HN.out.mono ?_
    rintro e w1 ⟨rfl, h1, hg⟩
    have H1 := Lib.hid h1
    have HG := Lib.hid hg
    clear h1 hg
    go_wp2_with fail
    go_ret
    refine ⟨by rw [HU.out]; rfl, ?_, HG.out⟩
    rw [HST.out]
    exact H1.out
  · have hu : txt (unL x) = txt x := by unfold unL; rw [if_neg h95]
    rw [show decide (x = [95]) = false by simpa using h95] at e1
    generalize decide (x = []) = b0 at *
    have HU := Lib.hid hu
    have HST := Lib.hid hS
    clear hu hS hx hst1 h95
    generalize txt (unL x) = u at *
    generalize txt x = y at *
    obtain ⟨ws, b1⟩ := st1
    cases b1
    all_goals
      go_enter Tryz.func143, Tryz.ntmps143
      go_wp2_with fail
      go_at_call 141
      refine HN.out.mono ?_
      rintro e w1 ⟨rfl, h1, hg⟩
      have H1 := Lib.hid h1
      have HG := Lib.hid hg
      clear h1 hg
      obtain ⟨k1, k2, k3⟩ := H1.out.cells
      dsimp only at k1
      go_wp2_with fail
      go_ret
    · refine ⟨by rw [HU.out]; rfl, ?_, only_setCell HG.out (.inl rfl) _⟩
      rw [HST.out]
      exact H1.out.setBad _
    · refine ⟨by rw [HU.out]; rfl, ?_, only_setCell HG.out (.inl rfl) _⟩
      rw [HST.out]
      exact H1.out.setBad _
end Go.Proofs.YtckohmhhcknmaaaGreatDoor
