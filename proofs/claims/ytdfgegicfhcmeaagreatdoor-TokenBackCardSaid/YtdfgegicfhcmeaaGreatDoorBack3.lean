/-
  The walk of the statement TokenBack: the token is one.
-/
import Derived.Test.YtdfgegicfhcmeaaGreatDoorBack2
namespace Go.Proofs.YtdfgegicfhcmeaaGreatDoor
open Go.RowKit Go.Sort

/-- what the token's text is, and what another digit makes of it -/
structure First (key a b c d : Int) (X : ByteArray) (L : List UInt8) : Prop where
  text : X = txt L
  min : 17 ≤ L.length
  max : L.length ≤ 100
  write : ∀ w, TL w w → Calls Tryz.prog 6 #[.int .i64 key, v4 a b c d] w fun e w' => e = .returned (.tuple #[.string X, .nilIface]) ∧ Below w.heap.size w w'
  read : ∀ w, TL w w → Calls Tryz.prog 7 #[.int .i64 key, .string X] w fun e w' => e = .returned (.tuple #[v4 a b c d, .nilIface]) ∧ Below w.heap.size w w'
  other : ∀ p q : Nat, p < 16 → q < 16 → L[L.length - 1 - p]? ≠ some (dig q) → ∀ w, TL w w → Calls Tryz.prog 7 #[.int .i64 key, .string (txt (L.set (L.length - 1 - p) (dig q)))] w fun e w' => e = .returned (.tuple #[v4 0 0 0 0, .iface 33 (.int .i64 5)]) ∧ Below w.heap.size w w'
theorem first_ (key a b c d : Int) (hr : rightN a b c d = true) : ∃ X L, First key a b c d X L := by
  have hok := right_ok.1 hr
  have hsz := bodyS_size a b c d hr
  have hbl : (bodyL a b c d).length ≤ 70 := by
    rw [bodyS_L (hok.1.imp (·.1) (·.1))] at hsz
    exact hsz
  have htag := tagB_tagL key (bodyL a b c d)
  have htl := tagB_len htag
  have hlen : (bodyL a b c d ++ 46 :: tagL key (bodyL a b c d)).length = (bodyL a b c d).length + 17 := by simp [htl]
  have hother : ∀ p q : Nat, p < 16 → q < 16 → (bodyL a b c d ++ 46 :: tagL key (bodyL a b c d))[(bodyL a b c d).length + 17 - 1 - p]? ≠ some (dig q) →
      tokR (fun B => tagL key B) (parts 46 ((bodyL a b c d ++ 46 :: tagL key (bodyL a b c d)).set ((bodyL a b c d).length + 17 - 1 - p) (dig q))) = (5, 0, 0, 0, 0) := by
    intro p q hp hq hne
    have e : (bodyL a b c d).length + 17 - 1 - p = (bodyL a b c d).length + 1 + (15 - p) := by omega
    rw [e] at hne ⊢
    rw [get_back] at hne
    obtain ⟨t1, t2⟩ := tag_set htag (i := 15 - p) (by omega) (dig_hex q hq) hne
    rw [set_back, tokR_text hok t1, if_neg t2]
  refine ⟨txt (bodyL a b c d ++ 46 :: tagL key (bodyL a b c d)), _, rfl, by rw [hlen]; omega, by rw [hlen]; omega, fun w h => ?_, fun w h => ?_, fun p q hp hq hne w h => ?_⟩
  · have h1 := token_write_yes key a b c d w h.tens hr
    rw [tokS_L hok] at h1
    exact h1
  · have h1 := token_read key (txt (bodyL a b c d ++ 46 :: tagL key (bodyL a b c d))) w (by show (bodyL a b c d ++ 46 :: tagL key (bodyL a b c d)).length ≤ 1000; rw [hlen]; omega) h.maxl h.tens h.errs
    rw [data_txt, tokR_text hok htag, if_pos rfl] at h1
    exact h1
  · rw [hlen] at hne ⊢
    have h1 := token_read key (txt ((bodyL a b c d ++ 46 :: tagL key (bodyL a b c d)).set ((bodyL a b c d).length + 17 - 1 - p) (dig q))) w (by show (List.set _ _ _).length ≤ 1000; rw [List.length_set, hlen]; omega) h.maxl h.tens h.errs
    rw [data_txt, hother p q hp hq hne] at h1
    exact h1

theorem conv_sat (w : World) (o : Obj) (e : TypeId) (X : ByteArray) (L : List UInt8) (hX : X = txt L) (hs : L.length ≤ 100) :
    BSat (Lib.bytesWorld (w.alloc o) e X) (w.heap.size + 1) (w.heap.size + 1) (grownCap (w.alloc o) X.size 0 e) L ∧ X.size = L.length ∧ Below w.heap.size w (Lib.bytesWorld (w.alloc o) e X) := by
  have hl : X.size = L.length := by rw [hX]; rfl
  obtain ⟨g, cap, hv, h⟩ := BS.conv (w.alloc o) e X (by omega)
  have hz : (w.alloc o).heap.size = w.heap.size + 1 := by simp
  rw [hz] at hv h
  simp only [Value.slice.injEq, Option.some.injEq, Addr.mk.injEq, and_true] at hv
  obtain ⟨rfl, -, rfl⟩ := hv
  have hd : X.data.toList = L := by rw [hX, data_txt]
  rw [hd] at h
  have hb0 : Below w.heap.size w (w.alloc o) := (Below.refl _ _).alloc (Nat.le_refl _) o
  have hb1 := below_conv (w.alloc o) e X
  exact ⟨h, hl, hb0.trans (hb1.mono hb0.size)⟩
/-- what is known while the bytes are under way -/
structure TY (W : World) (B g cap : Nat) (L : List UInt8) (w : World) : Prop where
  tl : TL W w
  bs : BSat w B g cap L
  new : W.heap.size ≤ g
theorem TY.set {W w : World} {B g cap : Nat} {L : List UInt8} (h : TY W B g cap L w) (h0 : TL W W) (i : Nat) (hi : i < L.length) (c : UInt8) : TY W B g cap (L.set i c) (w.setCell ⟨g, i, none⟩ (.int .u8 (c.toNat : Int))) :=
  ⟨h0.keep (below_of_only h.tl.below (only_setCell (only_refl w (some g)) (.inl rfl) _) h.new h.tl.below.size), h.bs.set i hi c, h.new⟩
theorem TY.keep {W w w' : World} {B g cap : Nat} {L : List UInt8} (h : TY W B g cap L w) (hb : Below w.heap.size w w') : TY W B g cap L w' := ⟨h.tl.keep hb, h.bs.below hb, h.new⟩

set_option maxHeartbeats 8000000 in
set_option maxRecDepth 100000 in
theorem tokBack_yes (key a b c d : Int) (s : ByteArray) (at_ dg : Int) (W : World) (hs : s.size ≤ 150) (hr : rightN a b c d = true) (h : TL W W) :
    Calls Tryz.prog 3 #[.int .i64 key, v4 a b c d, .string s, .int .i64 at_, .int .i64 dg] W fun e w' => e = .returned (.bool true) ∧ Below W.heap.size W w' := by
  obtain ⟨X, L, hf⟩ := first_ key a b c d hr
  obtain ⟨n, a2, b2, c2, d2, h2⟩ := second key s hs
  have HS := Lib.hid h2
  have HF := Lib.hid hf
  have H0 := Lib.hid h
  have H := Lib.hid (TB.start h a b c d)
  have hconv := fun w => Lib.run_convert_string_bytes (P := Tryz.prog) w 9 31 5 X Tryz.underlying9 Tryz.underlying31 Tryz.underlying5
  clear h h2 hf hr
  by_cases hn : n = 0
  all_goals
    unfold v4
    go_enter Tryz.func3, Tryz.ntmps3
    go_wp2_with fail
    go_at_call 5
    refine (summed_yes _).mono ?_
    rintro e w1 ⟨rfl, hb⟩
    have H1 := Lib.hid (H.out.keep hb)
    clear hb
    obtain ⟨c0, c1, c2, c3⟩ := H1.out.cells
    go_wp2_with fail
    go_at_call 6
    refine (HF.out.write _ H1.out.tl.self).mono ?_
    rintro e w2 ⟨rfl, hb⟩
    have H2 := Lib.hid (H1.out.keep hb)
    clear hb c0 c1 c2 c3
    obtain ⟨c0, c1, c2, c3⟩ := H2.out.cells
    go_wp2_with fail
    go_at_call 7
    refine (HF.out.read _ H2.out.tl.self).mono ?_
    rintro e w3 ⟨rfl, hb⟩
    have H3 := Lib.hid (H2.out.keep hb)
    clear hb c0 c1 c2 c3
    obtain ⟨c0, c1, c2, c3⟩ := H3.out.cells
    have hlt := H3.out.blk.lt
    unfold v4
    go_wp2_with fail
    obtain ⟨hbs, hXl, hb4⟩ := conv_sat w3 (.cells #[.int .i64 a, .int .i64 b, .int .i64 c, .int .i64 d] 23) 5 X L HF.out.text HF.out.max
    have H4 : Hid (TY W (w3.heap.size + 1) (w3.heap.size + 1) (grownCap (w3.alloc (.cells #[.int .i64 a, .int .i64 b, .int .i64 c, .int .i64 d] 23)) X.size 0 5) L (Lib.bytesWorld (w3.alloc (.cells #[.int .i64 a, .int .i64 b, .int .i64 c, .int .i64 d] 23)) 5 X)) := Lib.hid ⟨H3.out.tl.keep hb4, hbs, by omega⟩
    clear hb4 hbs c0 c1 c2 c3 hconv
    generalize grownCap (w3.alloc (.cells #[.int .i64 a, .int .i64 b, .int .i64 c, .int .i64 d] 23)) X.size 0 5 = cap at *
    generalize Lib.bytesWorld (w3.alloc (.cells #[.int .i64 a, .int .i64 b, .int .i64 c, .int .i64 d] 23)) 5 X = w4 at *
    generalize w3.heap.size + 1 = g at *
    rw [hXl]
    clear hXl
    have hmin := HF.out.min
    have hmax := HF.out.max
    go_at_call 8
    refine (pick_c at_ _).mono ?_
    rintro e w5 ⟨⟨p, hp, rfl⟩, rfl⟩
    go_wp2_with fail
    go_at_call 8
    refine (pick_c dg _).mono ?_
    rintro e w6 ⟨⟨q, hq, rfl⟩, rfl⟩
    have hix := hex_index q hq
    obtain ⟨k, hk, hkl, hkp⟩ : ∃ k : Nat, wrap64 (wrap64 ((L.length : Int) - 1) - (p : Int)) = (k : Int) ∧ k < L.length ∧ k = L.length - 1 - p :=
      ⟨L.length - 1 - p, by rw [IntWalk.wrap64_in ((L.length : Int) - 1) (by omega), IntWalk.wrap64_in _ (by omega)]; omega, by omega, rfl⟩
    have hcell := H4.out.bs.bytes k hkl
    have hfro := (H4.out.bs.cells k (Nat.lt_of_lt_of_le hkl H4.out.bs.le)).2
    have HKP := Lib.hid hkp
    clear hkp
    have HGET := Lib.hid (List.getElem?_eq_getElem hkl)
    generalize L[k] = cur at *
    by_cases hcq : cur = dig q
    · have hne : ((cur.toNat : Int) != ((dig q).toNat : Int)) = false := by rw [hcq]; simp
      clear hcq
      go_wp2_with fail
      go_at_call 7
      refine (HS.out.read _ H4.out.tl.self).mono ?_
      rintro e w5 ⟨rfl, hb⟩
      have H5 := Lib.hid (H4.out.keep hb)
      clear hb
      unfold v4
      first
        | (have e0 : errV n = .nilIface := if_pos hn
           rw [e0])
        | (have e0 : errV n = .iface 33 (.int .i64 n) := if_neg hn
           rw [e0])
      clear e0
      go_wp2_with fail
      first
        | (go_ret
           exact ⟨rfl, (H5.out.tl.keep ((Below.refl _ _).alloc (Nat.le_refl _) _)).below⟩)
        | (have H6 := Lib.hid (H5.out.keep ((Below.refl _ _).alloc (Nat.le_refl _) (.cells #[.int .i64 a2, .int .i64 b2, .int .i64 c2, .int .i64 d2] 23)))
           go_at_call 6
           refine (HS.out.write hn _ H6.out.tl.self).mono ?_
           rintro e w6 ⟨rfl, hb⟩
           have H7 := Lib.hid (H6.out.keep hb)
           clear hb
           go_wp2_with fail
           go_ret
           exact ⟨by simp, H7.out.tl.below⟩)
    · have hne : ((cur.toNat : Int) != ((dig q).toNat : Int)) = true := by
        simp only [bne_iff_ne, ne_eq]
        intro e
        exact hcq (UInt8.toNat_inj.1 (by omega))
      have HNE := Lib.hid (show L[L.length - 1 - p]? ≠ some (dig q) by rw [← HKP.out, HGET.out]; simpa using hcq)
      clear hcq
      have hset := H4.out.set H0.out k hkl (dig q)
      have hstr := hset.bs.string
      rw [List.length_set] at hstr
      have H5 := Lib.hid hset
      clear hset
      have HOT := Lib.hid (HF.out.other p q hp hq HNE.out)
      have HEQ := Lib.hid (show txt (L.set k (dig q)) = txt (L.set (L.length - 1 - p) (dig q)) by rw [HKP.out])
      generalize txt (L.set (L.length - 1 - p) (dig q)) = x2 at *
      rw [HEQ.out] at hstr
      go_wp2_with fail
      generalize w4.setCell ⟨g, k, none⟩ (.int .u8 ((dig q).toNat : Int)) = w5 at *
      clear hstr
      go_at_call 7
      refine (HOT.out _ H5.out.tl.self).mono ?_
      rintro e w6 ⟨rfl, hb⟩
      have H6 := Lib.hid (H5.out.keep hb)
      clear hb
      unfold v4
      go_wp2_with fail
      have H6' := Lib.hid (H6.out.keep ((Below.refl _ _).alloc (Nat.le_refl _) (.cells #[.int .i64 0, .int .i64 0, .int .i64 0, .int .i64 0] 23)))
      go_at_call 9
      refine (tell_no 5 _ H6'.out.tl.et).mono ?_
      rintro e w7 ⟨rfl, hb⟩
      have H7 := Lib.hid (H6'.out.keep hb)
      clear hb
      go_wp2_with fail
      go_at_call 7
      refine (HS.out.read _ H7.out.tl.self).mono ?_
      rintro e w8 ⟨rfl, hb⟩
      have H8 := Lib.hid (H7.out.keep hb)
      clear hb
      unfold v4
      first
        | (have e0 : errV n = .nilIface := if_pos hn
           rw [e0])
        | (have e0 : errV n = .iface 33 (.int .i64 n) := if_neg hn
           rw [e0])
      clear e0
      go_wp2_with fail
      first
        | (go_ret
           exact ⟨rfl, (H8.out.tl.keep ((Below.refl _ _).alloc (Nat.le_refl _) _)).below⟩)
        | (have H9 := Lib.hid (H8.out.keep ((Below.refl _ _).alloc (Nat.le_refl _) (.cells #[.int .i64 a2, .int .i64 b2, .int .i64 c2, .int .i64 d2] 23)))
           go_at_call 6
           refine (HS.out.write hn _ H9.out.tl.self).mono ?_
           rintro e w9 ⟨rfl, hb⟩
           have H10 := Lib.hid (H9.out.keep hb)
           clear hb
           go_wp2_with fail
           go_ret
           exact ⟨by simp, H10.out.tl.below⟩)
theorem tokBack_all (key a b c d : Int) (s : ByteArray) (at_ dg : Int) (W : World) (hs : s.size ≤ 140737488355328) (h : TL W W) :
    Calls Tryz.prog 3 #[.int .i64 key, .agg #[.int .i64 a, .int .i64 b, .int .i64 c, .int .i64 d], .string s, .int .i64 at_, .int .i64 dg] W fun e w' => e = .returned (.bool true) ∧ Below W.heap.size W w' := by
  by_cases hl : 150 < s.size
  · exact tokBack_long key a b c d s at_ dg W hl hs
  · cases hr : rightN a b c d
    · exact tokBack_no key a b c d s at_ dg W (by omega) hr h
    · exact tokBack_yes key a b c d s at_ dg W (by omega) hr h
end Go.Proofs.YtdfgegicfhcmeaaGreatDoor
