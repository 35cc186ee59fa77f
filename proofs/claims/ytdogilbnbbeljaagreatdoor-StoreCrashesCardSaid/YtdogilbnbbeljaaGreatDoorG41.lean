/-
  StoreCrashes: the walk.
-/
import Derived.Test.YtdogilbnbbeljaaGreatDoorG39
namespace Go.Proofs.YtdogilbnbbeljaaGreatDoor
open Go.RowKit Go.Sort

set_option maxHeartbeats 16000000 in
set_option maxRecDepth 100000 in
theorem crash_walk (W : World) (A : Option Addr) (g off cap : Nat) (E : List DoE) (m : Nat) (cv : Value) (hE : E.length ≤ 60) (hm : m ≤ 30) (hA : E ≠ [] → A = some ⟨g, off, none⟩) (hdos : E ≠ [] → DosAt W g off E ∧ g < W.heap.size)
    (hc : CutsAt W cv m) (hcl : ∀ a cap, cv = .slice (some a) m cap → m ≠ 0 → a.block < W.heap.size) (hEnv : Env W.heap.size W) (het : ErrType W) (hs : ∀ d ∈ E, d.ev.fam.len ≤ 1000000000000000) :
    Calls Tryz.prog 3 #[.slice A E.length cap, cv] W fun x w' => x = .returned (.bool true) ∧ Below W.heap.size W w' := by
  obtain ⟨ca, ccap, rfl, hc⟩ := hc
  have HC := Lib.hid hc
  have HA := Lib.hid hA
  have HS := Lib.hid hs
  have HCL := Lib.hid hcl
  have HD := Lib.hid hdos
  have HEN := Lib.hid hEnv
  have HET := Lib.hid het
  clear hA hc hcl hdos hEnv het hs
  go_enter Tryz.func3, Tryz.ntmps3
  go_wp2_with fail
  go_at_call 5
  have HB0 := Lib.hid (show Below W.heap.size W (W.alloc (.cells #[.slice ca m ccap] 23)) from (Below.refl _ _).alloc (Nat.le_refl _) _)
  have HE0 := Lib.hid (HEN.out.keep HB0.out)
  refine (kept_yes W.heap.size _ HE0.out HB0.out.size).mono ?_
  rintro e w1 ⟨rfl, hb⟩
  have HB1 := Lib.hid (below_2 HB0.out hb)
  have HC1 := Lib.hid ((Blk.new W 23 #[.slice ca m ccap]).below' hb)
  have HE1 := Lib.hid (HEN.out.keep HB1.out)
  clear hb
  go_wp2_with fail
  go_at_call 6
  have hb2 : Below w1.heap.size w1 ((w1.alloc (.cells Tryz.zeroCells28 28)).alloc (.cells #[.pointer (some ⟨w1.heap.size, 0, none⟩)] 25)) := alloc2 w1 _ _
  have HDI := Lib.hid ((DI.new HE1.out HB1.out.size).keep (w' := (w1.alloc (.cells Tryz.zeroCells28 28)).alloc (.cells #[.pointer (some ⟨w1.heap.size, 0, none⟩)] 25)) ((Below.refl _ _).alloc (Nat.le_refl _) _))
  refine (di_open HDI.out).mono ?_
  rintro e w2 ⟨sb, v, rfl, hso, hsb, hb⟩
  have hp2 : Blk ((w1.alloc (.cells Tryz.zeroCells28 28)).alloc (.cells #[.pointer (some ⟨w1.heap.size, 0, none⟩)] 25)) (w1.heap.size + 1) 25 #[.pointer (some ⟨w1.heap.size, 0, none⟩)] := by
    have := Blk.new (w1.alloc (.cells Tryz.zeroCells28 28)) 25 #[.pointer (some ⟨w1.heap.size, 0, none⟩)]
    rw [show (w1.alloc (.cells Tryz.zeroCells28 28)).heap.size = w1.heap.size + 1 by simp] at this
    exact this
  have HP2 := Lib.hid (hp2.below' hb)
  have HC2 := Lib.hid ((HC1.out.below' hb2).below' hb)
  have HB2 := Lib.hid (below_2 (below_2 HB1.out hb2) hb)
  have HSO := Lib.hid hso
  have hs1 : W.heap.size ≤ w1.heap.size := HB1.out.size
  have hdw : w1.heap.size < w2.heap.size := by have := HDI.out.disk.at_.lt; have := hb.size; omega
  have HSB := Lib.hid (Nat.le_trans (Nat.le_trans hs1 hb2.size) hsb)
  have HCB := Lib.hid (CB.start (E := E) (g := g) (off := off) HC2.out HP2.out HB2.out (by omega) HET.out ⟨ca, ccap, rfl, HC.out⟩ HCL.out HD.out hm)
  have HSO2 := Lib.hid (HSO.out.keep (alloc2 w2 (.cells #[.int .i64 0, .int .i64 1, .slice none 0 0] 36) (.cells #[.int .i64 0] 3)))
  clear hso hb hb2 hp2 hsb HP2 HC2 HSO HDI HC1 HE0 HB0 HE1
  go_wp2_with fail
  go_at_call 7
  refine (cut_call HCB.out _ HSO2.out.di.disk hs1).mono ?_
  rintro e w3 ⟨rfl, j, kc, hcb, hdd, htw⟩
  go_wp2_with fail
  have HSO3 := Lib.hid (HSO2.out.cut2 hdd htw HCB.out.nxt HCB.out.hx)
  have HCB3 := Lib.hid hcb
  clear hcb hdd htw HSO2 HCB
  go_loopw [6, 11] (fun sv i wr => CrRel W g off E m (w1.heap.size + 1) w2.heap.size (w2.heap.size + 1) w1.heap.size (.slice ca m ccap) sv i wr) (fun _ i _ => E.length - (intOf i).toNat)
  case atStart => exact ⟨0, j, sb, _, 0, 0, 0, startS, v, _, Nat.zero_le _, rfl, rfl, HCB3.out, HSO3.out, by decide, by decide⟩
  case round =>
    obtain ⟨k, j, sb, D, n, f, x, s, v, v', hk, rfl, rfl, hcb, hso, hnk, hxk⟩ := hrel
    have HCB := Lib.hid hcb
    have HSO := Lib.hid hso
    clear hcb hso HSO3 HCB3 HSB HC HCL HD
    by_cases hlt : k < E.length
    · obtain rfl := HA.out (by rintro rfl; simp at hlt)
      obtain ⟨e, he⟩ : ∃ e, E[k]? = some e := ⟨_, List.getElem?_eq_getElem hlt⟩
      have hbig := HS.out e (List.mem_of_getElem? he)
      have h0 : (0 : Int) ≤ (k : Int) := by omega
      have h1 : (k : Int) < (E.length : Int) := by omega
      by_cases hsh : e.ev.fam.len ≤ 300
      · obtain ⟨wh, kd, ⟨i, cl, su, sc, ge, ma, us, re, de⟩, id, ti⟩ := e
        have hshort := Fam.short_of (f := ⟨i, cl, su, sc, ge, ma, us, re, de⟩) (n := 1000) (by unfold Fam.len at hsh ⊢; dsimp only at hsh ⊢; omega)
        have HSH := Lib.hid hshort
        obtain ⟨d0, d1, d2, d3, d4, d5, d6, d7, d8, d9, d10, d11, d12⟩ := HCB.out.thirteen he
        have HE := Lib.hid he
        clear he hshort
        unfold Fam.len at hsh hbig
        dsimp only at hsh hbig
        obtain ⟨ck, nx, L⟩ := s
        obtain ⟨na, nc, rfl⟩ := HCB.out.row.slice
        obtain ⟨m0, m1, m2⟩ := two_cells HCB.out.now
        dsimp only at HCB
        have hzn := HCB.out.now.frozen
        have pd : wr.cell? ⟨w1.heap.size + 1, 0, none⟩ = some (.pointer (some ⟨w1.heap.size, 0, none⟩)) := HCB.out.ptr.cell 0
        have hpl : w1.heap.size + 1 < wr.heap.size := HCB.out.ptr.lt
        have hnl : w2.heap.size < wr.heap.size := HCB.out.now.lt
        dsimp only at m0 m1 m2
        by_cases hw : wh = 1
        · subst hw
          go_wp2_with fail
          go_at_call 10
          obtain ⟨hrb, hbb⟩ := RB.start (d := ⟨1, kd, ⟨i, cl, su, sc, ge, ma, us, re, de⟩, id, ti⟩) HCB.out.row
          have HC1 := Lib.hid (HCB.out.keep hbb)
          have HS1 := Lib.hid (HSO.out.keep hbb)
          have HR1 := Lib.hid hrb
          clear hrb hbb
          refine (so_save HS1.out (by omega)).mono ?_
          rintro e w4 ⟨htw, ⟨rfl, D', hso⟩ | ⟨rfl, D', hdi⟩⟩
          · have HC4 := Lib.hid (HC1.out.so HS1.out htw)
            have HR4 := Lib.hid (HR1.out.two htw HS1.out.sd.st HS1.out.sd.disk.at_)
            have HS4 := Lib.hid hso
            clear htw hso HC1 HS1 HR1 HCB HSO m0 m1 m2 hzn pd hpl hnl

            obtain ⟨q0, q1, q2⟩ := two_cells HR4.out.beh
            have hzn := HC4.out.now.frozen
            obtain ⟨m0, m1, m2⟩ := two_cells HC4.out.now
            dsimp only at m0 m1 m2 q0 q1 q2
            go_wp2_with fail
            go_at_call 12
            refine (tell_nil _).mono ?_
            rintro e w5 ⟨rfl, rfl⟩
            obtain ⟨ht1, ht2⟩ := HC4.out.tell ⟨ck, nx, L⟩ HR4.out.row
            have HC5 := Lib.hid ht1
            have HS5 := Lib.hid (HS4.out.now ht2 HC4.out.now HC4.out.hn)
            dsimp only at HC5 HS5
            have pd5 : (((w4.setCell ⟨w2.heap.size, 0, none⟩ (.int .i64 ck)).setCell ⟨w2.heap.size, 1, none⟩ (.int .i64 nx)).setCell ⟨w2.heap.size, 2, none⟩ (.slice na L.length nc)).cell? ⟨w1.heap.size + 1, 0, none⟩ = some (.pointer (some ⟨w1.heap.size, 0, none⟩)) := HC5.out.ptr.cell 0
            clear ht1 ht2 HC4 HR4 HS4
            go_wp2_with fail
            generalize (((w4.setCell ⟨w2.heap.size, 0, none⟩ (.int .i64 ck)).setCell ⟨w2.heap.size, 1, none⟩ (.int .i64 nx)).setCell ⟨w2.heap.size, 2, none⟩ (.slice na L.length nc)) = w5 at *
            clear pd5 m0 m1 m2 q0 q1 q2 hzn
            go_at_call 6
            refine (di_open HS5.out.di).mono ?_
            rintro e w6 ⟨sb9, v9, rfl, hso2, hsb2, hb⟩
            have hcs : CS W g off E m (w1.heap.size + 1) w2.heap.size (w2.heap.size + 1) w1.heap.size (.slice ca m ccap) ck nx L na nc j sb sb9 D' (n + 1) x x v v9 w6 := ⟨HC5.out.keep hb, HS5.out.keep hb, hso2⟩
            have HD := CS.all hcs.drew
            have HT2 := Lib.hid (fun w (h : CS W g off E m (w1.heap.size + 1) w2.heap.size (w2.heap.size + 1) w1.heap.size (.slice ca m ccap) ck nx L na nc j sb sb9 D' (n + 1) x x v v9 w) => h.state2)
            have HT1 := Lib.hid (fun w (h : CS W g off E m (w1.heap.size + 1) w2.heap.size (w2.heap.size + 1) w1.heap.size (.slice ca m ccap) ck nx L na nc j sb sb9 D' (n + 1) x x v v9 w) => h.state1)
            clear hso2 hb HC5 HS5 hcs
            go_wp2_with fail
            go_region_held3 (fun w' => CS W g off E m (w1.heap.size + 1) w2.heap.size (w2.heap.size + 1) w1.heap.size (.slice ca m ccap) ck nx L na nc j sb sb9 D' (n + 1) x x v v9 w' ∧ w'.cell? ⟨w2.heap.size, 0, none⟩ = some (.int .i64 ck) ∧ w'.cell? ⟨w2.heap.size, 1, none⟩ = some (.int .i64 nx) ∧ w'.cell? ⟨w2.heap.size, 2, none⟩ = some (.slice na L.length nc))
              (first
                | with_reducible assumption
                | with_reducible exact HD
                | with_reducible exact CS.all (CS.keep (And.left (by assumption)) (by assumption)))
              (first
                | (go_at_call 14; (with_reducible refine (HT2.out _ (And.left (by assumption))).mono ?_); rintro x' w7 ⟨a1, c1, rfl, hr1, hb1⟩)
                | (go_at_call 14; (with_reducible refine (HT1.out _ (And.left (by assumption))).mono ?_); rintro x' w9 ⟨a2, c2, rfl, hr2, hb2⟩)
                | (go_at_call 15; (with_reducible refine (CS.same (And.left (by assumption)) hr2).mono ?_); rintro x' w5 ⟨q, rfl, hq, hb5⟩; obtain rfl := hq trivial)
                | (go_at_call 15; (with_reducible refine (CS.same (And.left (by assumption)) hr1).mono ?_); rintro x' w5 ⟨q, rfl, hq, hb5⟩; obtain rfl := hq trivial))
            go_wp2_with fail
            go_roundw
            case rel => exact ⟨k + 1, j, sb, D', (n + 1), x, x, ⟨ck, nx, L⟩, v, _, by omega, by go_num, rfl, CS.cb (And.left (by assumption)), CS.so (And.left (by assumption)), by omega, by omega⟩
            case measure => simp [intOf]; omega
          · have HC4 := Lib.hid (HC1.out.so HS1.out htw)
            have HR4 := Lib.hid (HR1.out.two htw HS1.out.sd.st HS1.out.sd.disk.at_)
            have HDI4 := Lib.hid hdi
            clear htw hdi HC1 HS1 HR1 HCB HSO m0 m1 m2 hzn pd hpl hnl

            have pd4 : w4.cell? ⟨w1.heap.size + 1, 0, none⟩ = some (.pointer (some ⟨w1.heap.size, 0, none⟩)) := HC4.out.ptr.cell 0
            go_wp2_with fail
            go_at_call 12
            refine (tell_no 14 _ HC4.out.et).mono ?_
            rintro e w5 ⟨rfl, hb⟩
            have HC5 := Lib.hid (HC4.out.keep hb)
            have HR5 := Lib.hid (HR4.out.keep hb)
            have HDI5 := Lib.hid (HDI4.out.keep hb)
            have pd5 : w5.cell? ⟨w1.heap.size + 1, 0, none⟩ = some (.pointer (some ⟨w1.heap.size, 0, none⟩)) := HC5.out.ptr.cell 0
            clear hb HC4 HR4 HDI4 pd4
            go_wp2_with fail
            go_at_call 9
            refine (disk_cut _ _ (-1) _ HDI5.out.disk).mono ?_
            rintro e w6 ⟨rfl, hd, hg⟩
            have HC6 := Lib.hid (HC5.out.disk HDI5.out.disk.at_ hg HDI5.out.bd)
            have HR6 := Lib.hid (HR5.out.grown hg HDI5.out.disk.at_ (by decide) (by decide) (by decide))
            have HDI6 := Lib.hid (HDI5.out.cut hd hg)
            have pd6 : w6.cell? ⟨w1.heap.size + 1, 0, none⟩ = some (.pointer (some ⟨w1.heap.size, 0, none⟩)) := HC6.out.ptr.cell 0
            clear hd hg HC5 HR5 HDI5 pd5
            go_wp2_with fail
            go_at_call 6
            refine (di_open HDI6.out).mono ?_
            rintro e w7 ⟨sb2, v2, rfl, hso2, hsb2, hb⟩
            have HS7 := Lib.hid hso2
            have HC7 := Lib.hid (HC6.out.keep hb)
            have HR7 := Lib.hid (HR6.out.keep hb)
            have HB7 := Lib.hid HC7.out.below.size
            clear hso2 hb hsb2 HC6 HR6 HDI6 pd6
            go_wp2_with fail
            go_at_call 14
            refine ((store_state W.heap.size sb2 w1.heap.size ⟨ck, nx, L⟩ v2 n f x false w7 HS7.out.sd.st HS7.out.sd.row (by have := HS7.out.di.fit.len; omega)).mono fun _ _ h => got_as h).mono ?_
            rintro e w8 ⟨a3, c3, rfl, hr3, hb⟩
            have HS8 := Lib.hid (HS7.out.keep hb)
            have HC8 := Lib.hid (HC7.out.keep hb)
            have HR8 := Lib.hid (HR7.out.keep hb)
            have HW3 := Lib.hid hr3
            clear hr3 hb HS7 HC7 HR7
            dsimp only at HW3
            obtain ⟨m0, m1, m2⟩ := two_cells HC8.out.now
            have hnl8 : w2.heap.size < w8.heap.size := HC8.out.now.lt
            dsimp only at m0 m1 m2
            go_wp2_with fail
            go_at_call 15
            have hb9 : Below w8.heap.size w8 (w8.alloc (.cells #[.int .i64 ck, .int .i64 nx, .slice a3 L.length c3] 36)) := (Below.refl _ _).alloc (Nat.le_refl _) _
            have HI9 := Lib.hid (Blk.new w8 36 #[.int .i64 ck, .int .i64 nx, .slice a3 L.length c3])
            have HS9 := Lib.hid (HS8.out.keep hb9)
            have HC9 := Lib.hid (HC8.out.keep hb9)
            have HW9 := Lib.hid (HW3.out.below hb9)
            clear hb9 HS8 HC8 HR8 HW3 m0 m1 m2 hnl8
            refine (plain_same_ True w7.heap.size W.heap.size (.slice a3 L.length c3) (.slice na L.length nc) ⟨ck, nx, L⟩ ⟨ck, nx, L⟩ _ (fun _ => rfl) HW9.out HC9.out.row (by have := HS9.out.di.fit.len; dsimp only at this ⊢; omega)).mono ?_
            rintro e w10 ⟨q, rfl, hq, hb⟩
            obtain rfl := hq trivial
            have HI10 := Lib.hid (HI9.out.below' hb)
            have HS10 := Lib.hid (HS9.out.keep hb)
            have HC10 := Lib.hid (HC9.out.keep hb)
            have HW10 := Lib.hid (HW9.out.below hb)
            clear hb hq HI9 HS9 HC9 HW9
            obtain ⟨q0, q1, q2⟩ := two_cells HI10.out
            have hzn := HC10.out.now.frozen
            obtain ⟨m0, m1, m2⟩ := two_cells HC10.out.now
            dsimp only at m0 m1 m2
            have hw78 : W.heap.size ≤ w7.heap.size := HB7.out
            obtain ⟨ht1, ht2⟩ := HC10.out.tell ⟨ck, nx, L⟩ (HW10.out.mono hw78)
            have HC11 := Lib.hid ht1
            have HS11 := Lib.hid (HS10.out.now ht2 HC10.out.now HC10.out.hn)
            dsimp only at HC11 HS11
            clear ht1 ht2 HC10 HS10 HI10 HW10
            go_wp2_with fail
            generalize (((w10.setCell ⟨w2.heap.size, 0, none⟩ (.int .i64 ck)).setCell ⟨w2.heap.size, 1, none⟩ (.int .i64 nx)).setCell ⟨w2.heap.size, 2, none⟩ (.slice a3 L.length c3)) = w11 at *
            clear m0 m1 m2 q0 q1 q2 hzn
            go_at_call 7
            refine (cut_call HC11.out _ HS11.out.di.disk hs1).mono ?_
            rintro e w12 ⟨rfl, j2, kc2, hcb, hdd, htw⟩
            have HS5 := Lib.hid (HS11.out.cut2 hdd htw HC11.out.nxt HC11.out.hx)
            have HC5 := Lib.hid hcb
            have pd5 : w12.cell? ⟨w1.heap.size + 1, 0, none⟩ = some (.pointer (some ⟨w1.heap.size, 0, none⟩)) := HC5.out.ptr.cell 0
            clear hcb hdd htw HS11 HC11
            go_wp2_with fail
            clear pd5
            go_at_call 6
            refine (di_open HS5.out.di).mono ?_
            rintro e w6 ⟨sb9, v9, rfl, hso2, hsb2, hb⟩
            have hcs : CS W g off E m (w1.heap.size + 1) w2.heap.size (w2.heap.size + 1) w1.heap.size (.slice ca m ccap) ck nx L a3 c3 j2 sb2 sb9 ((D'.cutAt (-1)).cutAt kc2) n f x v2 v9 w6 := ⟨HC5.out.keep hb, HS5.out.keep hb, hso2⟩
            have HD := CS.all hcs.drew
            have HT2 := Lib.hid (fun w (h : CS W g off E m (w1.heap.size + 1) w2.heap.size (w2.heap.size + 1) w1.heap.size (.slice ca m ccap) ck nx L a3 c3 j2 sb2 sb9 ((D'.cutAt (-1)).cutAt kc2) n f x v2 v9 w) => h.state2)
            have HT1 := Lib.hid (fun w (h : CS W g off E m (w1.heap.size + 1) w2.heap.size (w2.heap.size + 1) w1.heap.size (.slice ca m ccap) ck nx L a3 c3 j2 sb2 sb9 ((D'.cutAt (-1)).cutAt kc2) n f x v2 v9 w) => h.state1)
            clear hso2 hb HC5 HS5 hcs
            go_wp2_with fail
            go_region_held3 (fun w' => CS W g off E m (w1.heap.size + 1) w2.heap.size (w2.heap.size + 1) w1.heap.size (.slice ca m ccap) ck nx L a3 c3 j2 sb2 sb9 ((D'.cutAt (-1)).cutAt kc2) n f x v2 v9 w' ∧ w'.cell? ⟨w2.heap.size, 0, none⟩ = some (.int .i64 ck) ∧ w'.cell? ⟨w2.heap.size, 1, none⟩ = some (.int .i64 nx) ∧ w'.cell? ⟨w2.heap.size, 2, none⟩ = some (.slice a3 L.length c3))
              (first
                | with_reducible assumption
                | with_reducible exact HD
                | with_reducible exact CS.all (CS.keep (And.left (by assumption)) (by assumption)))
              (first
                | (go_at_call 14; (with_reducible refine (HT2.out _ (And.left (by assumption))).mono ?_); rintro x' w7 ⟨a1, c1, rfl, hr1, hb1⟩)
                | (go_at_call 14; (with_reducible refine (HT1.out _ (And.left (by assumption))).mono ?_); rintro x' w9 ⟨a2, c2, rfl, hr2, hb2⟩)
                | (go_at_call 15; (with_reducible refine (CS.same (And.left (by assumption)) hr2).mono ?_); rintro x' w5 ⟨q, rfl, hq, hb5⟩; obtain rfl := hq trivial)
                | (go_at_call 15; (with_reducible refine (CS.same (And.left (by assumption)) hr1).mono ?_); rintro x' w5 ⟨q, rfl, hq, hb5⟩; obtain rfl := hq trivial))
            go_wp2_with fail
            go_roundw
            case rel => exact ⟨k + 1, j2, sb2, ((D'.cutAt (-1)).cutAt kc2), n, f, x, ⟨ck, nx, L⟩, v2, _, by omega, by go_num, rfl, CS.cb (And.left (by assumption)), CS.so (And.left (by assumption)), by omega, by omega⟩
            case measure => simp [intOf]; omega
        · have HOK := Lib.hid HSO.out.di.fit.ok
          have HLE := Lib.hid HCB.out.below.size
          go_wp2_with fail
          go_at_call 11
          obtain ⟨hrb, hbb⟩ := RB.start (d := ⟨wh, ⟨kd, ⟨i, cl, su, sc, ge, ma, us, re, de⟩, id, ti⟩⟩) HCB.out.row
          have HC1 := Lib.hid (HCB.out.keep hbb)
          have HS1 := Lib.hid (HSO.out.keep hbb)
          have HR1 := Lib.hid hrb
          clear hrb hbb
          have hadd := so_add HS1.out (by omega) (by omega) ⟨kd, ⟨i, cl, su, sc, ge, ma, us, re, de⟩, id, ti⟩ HSH.out
          unfold evVal evCs at hadd
          dsimp only at hadd
          refine hadd.mono ?_
          clear hadd
          rintro e w4 ⟨htw, ⟨rfl, hev, hlen, D', n', f', v', hso, hn'⟩ | ⟨cc, hcc, rfl, D', hso⟩ | ⟨rfl, hev, D', n', f', hdi, hn'⟩⟩
          · have HC4 := Lib.hid (HC1.out.so HS1.out htw)
            have HR4 := Lib.hid (HR1.out.two htw HS1.out.sd.st HS1.out.sd.disk.at_)
            have HS4 := Lib.hid hso
            clear htw hso HC1 HS1 HR1 HCB HSO m0 m1 m2 hzn pd hpl

            have HEV := Lib.hid hev
            clear hev
            have HAP : Hid (∀ w (v : Value), FRow w W.heap.size v L → Calls Tryz.prog 13 #[stVal ⟨ck, nx, L⟩ v, evVal ⟨kd, ⟨i, cl, su, sc, ge, ma, us, re, de⟩, id, ti⟩] w (GotAs w (applyS ⟨ck, nx, L⟩ ⟨kd, ⟨i, cl, su, sc, ge, ma, us, re, de⟩, id, ti⟩).clock (applyS ⟨ck, nx, L⟩ ⟨kd, ⟨i, cl, su, sc, ge, ma, us, re, de⟩, id, ti⟩).next (applyS ⟨ck, nx, L⟩ ⟨kd, ⟨i, cl, su, sc, ge, ma, us, re, de⟩, id, ti⟩).fams)) :=
              Lib.hid fun w v hr => (ev_apply W.heap.size v ⟨ck, nx, L⟩ ⟨kd, ⟨i, cl, su, sc, ge, ma, us, re, de⟩, id, ti⟩ w hr HOK.out (okN_one HEV.out) (okN_two HEV.out)).mono fun _ _ h => got_as h
            generalize applyS ⟨ck, nx, L⟩ ⟨kd, ⟨i, cl, su, sc, ge, ma, us, re, de⟩, id, ti⟩ = s2 at *
            obtain ⟨ck2, nx2, L2⟩ := s2
            unfold GotAs stVal stCs evVal evCs at HAP
            dsimp only at HAP

            go_wp2_with fail
            go_at_call 12
            refine (tell_nil _).mono ?_
            rintro e w5 ⟨rfl, rfl⟩

            obtain ⟨m0, m1, m2⟩ := two_cells HC4.out.now
            obtain ⟨e1, e2, e3, e4, e5, e6, e7, e8, e9, e10, e11, e12⟩ := HR4.out.twelve
            dsimp only at m0 m1 m2
            go_wp2_with fail
            go_at_call 13
            refine (HAP.out _ _ HC4.out.row).mono ?_
            rintro e w6 ⟨a3, c3, rfl, hr3, hb⟩
            have HC6 := Lib.hid (HC4.out.keep hb)
            have HR6 := Lib.hid (HR4.out.keep hb)
            have HS6 := Lib.hid (HS4.out.keep hb)
            have HW6 := Lib.hid (hr3.mono (Nat.le_trans HC4.out.below.size (Nat.le_refl _)))
            clear hr3 hb HAP HC4 HR4 HS4 m0 m1 m2 e1 e2 e3 e4 e5 e6 e7 e8 e9 e10 e11 e12
            have hzb := HR6.out.beh.frozen
            obtain ⟨q0, q1, q2⟩ := two_cells HR6.out.beh
            dsimp only at q0 q1 q2
            obtain ⟨ht1, ht2⟩ := HR6.out.tell ck2 nx2 L2 HW6.out
            have HR4 := Lib.hid ht1
            have hbw : W.heap.size ≤ wr.heap.size + 1 + 1 := by have := HLE.out; omega
            have HC4 := Lib.hid (HC6.out.beh ht2 HR6.out.beh (by omega) hbw)
            have HS4 := Lib.hid (HS6.out.now ht2 HR6.out.beh hbw)
            clear ht1 ht2 HC6 HR6 HS6 HW6 hbw

            go_wp2_with fail
            generalize (((w6.setCell ⟨wr.heap.size + 1 + 1, 0, none⟩ (.int .i64 ck2)).setCell ⟨wr.heap.size + 1 + 1, 1, none⟩ (.int .i64 nx2)).setCell ⟨wr.heap.size + 1 + 1, 2, none⟩ (.slice a3 L2.length c3)) = w4b at *
            clear q0 q1 q2 hzb
            obtain ⟨q0, q1, q2⟩ := two_cells HR4.out.beh
            have hzn := HC4.out.now.frozen
            obtain ⟨m0, m1, m2⟩ := two_cells HC4.out.now
            dsimp only at m0 m1 m2 q0 q1 q2
            go_at_call 12
            refine (tell_nil _).mono ?_
            rintro e w5 ⟨rfl, rfl⟩
            obtain ⟨ht1, ht2⟩ := HC4.out.tell ⟨ck2, nx2, L2⟩ HR4.out.row
            have HC5 := Lib.hid ht1
            have HS5 := Lib.hid (HS4.out.now ht2 HC4.out.now HC4.out.hn)
            dsimp only at HC5 HS5
            have pd5 : (((w4b.setCell ⟨w2.heap.size, 0, none⟩ (.int .i64 ck2)).setCell ⟨w2.heap.size, 1, none⟩ (.int .i64 nx2)).setCell ⟨w2.heap.size, 2, none⟩ (.slice a3 L2.length c3)).cell? ⟨w1.heap.size + 1, 0, none⟩ = some (.pointer (some ⟨w1.heap.size, 0, none⟩)) := HC5.out.ptr.cell 0
            clear ht1 ht2 HC4 HR4 HS4
            go_wp2_with fail
            generalize (((w4b.setCell ⟨w2.heap.size, 0, none⟩ (.int .i64 ck2)).setCell ⟨w2.heap.size, 1, none⟩ (.int .i64 nx2)).setCell ⟨w2.heap.size, 2, none⟩ (.slice a3 L2.length c3)) = w5 at *
            clear pd5 m0 m1 m2 q0 q1 q2 hzn
            go_at_call 6
            refine (di_open HS5.out.di).mono ?_
            rintro e w6 ⟨sb9, v9, rfl, hso2, hsb2, hb⟩
            have hcs : CS W g off E m (w1.heap.size + 1) w2.heap.size (w2.heap.size + 1) w1.heap.size (.slice ca m ccap) ck2 nx2 L2 a3 c3 j sb sb9 D' n' f' (x + 1) v' v9 w6 := ⟨HC5.out.keep hb, HS5.out.keep hb, hso2⟩
            have HD := CS.all hcs.drew
            have HT2 := Lib.hid (fun w (h : CS W g off E m (w1.heap.size + 1) w2.heap.size (w2.heap.size + 1) w1.heap.size (.slice ca m ccap) ck2 nx2 L2 a3 c3 j sb sb9 D' n' f' (x + 1) v' v9 w) => h.state2)
            have HT1 := Lib.hid (fun w (h : CS W g off E m (w1.heap.size + 1) w2.heap.size (w2.heap.size + 1) w1.heap.size (.slice ca m ccap) ck2 nx2 L2 a3 c3 j sb sb9 D' n' f' (x + 1) v' v9 w) => h.state1)
            clear hso2 hb HC5 HS5 hcs
            go_wp2_with fail
            go_region_held3 (fun w' => CS W g off E m (w1.heap.size + 1) w2.heap.size (w2.heap.size + 1) w1.heap.size (.slice ca m ccap) ck2 nx2 L2 a3 c3 j sb sb9 D' n' f' (x + 1) v' v9 w' ∧ w'.cell? ⟨w2.heap.size, 0, none⟩ = some (.int .i64 ck2) ∧ w'.cell? ⟨w2.heap.size, 1, none⟩ = some (.int .i64 nx2) ∧ w'.cell? ⟨w2.heap.size, 2, none⟩ = some (.slice a3 L2.length c3))
              (first
                | with_reducible assumption
                | with_reducible exact HD
                | with_reducible exact CS.all (CS.keep (And.left (by assumption)) (by assumption)))
              (first
                | (go_at_call 14; (with_reducible refine (HT2.out _ (And.left (by assumption))).mono ?_); rintro x' w7 ⟨a1, c1, rfl, hr1, hb1⟩)
                | (go_at_call 14; (with_reducible refine (HT1.out _ (And.left (by assumption))).mono ?_); rintro x' w9 ⟨a2, c2, rfl, hr2, hb2⟩)
                | (go_at_call 15; (with_reducible refine (CS.same (And.left (by assumption)) hr2).mono ?_); rintro x' w5 ⟨q, rfl, hq, hb5⟩; obtain rfl := hq trivial)
                | (go_at_call 15; (with_reducible refine (CS.same (And.left (by assumption)) hr1).mono ?_); rintro x' w5 ⟨q, rfl, hq, hb5⟩; obtain rfl := hq trivial))
            go_wp2_with fail
            go_roundw
            case rel => exact ⟨k + 1, j, sb, D', n', f', (x + 1), ⟨ck2, nx2, L2⟩, v', _, by omega, by go_num, rfl, CS.cb (And.left (by assumption)), CS.so (And.left (by assumption)), by omega, by omega⟩
            case measure => simp [intOf]; omega
          · have HC4 := Lib.hid (HC1.out.so HS1.out htw)
            have HR4 := Lib.hid (HR1.out.two htw HS1.out.sd.st HS1.out.sd.disk.at_)
            have HS4 := Lib.hid hso
            clear htw hso HC1 HS1 HR1 HCB HSO m0 m1 m2 hzn pd hpl hnl
            clear HOK HLE HSH
            rcases hcc with rfl | rfl
            · go_wp2_with fail
              go_at_call 12
              refine (tell_no 1 _ HC4.out.et).mono ?_
              rintro e w5 ⟨rfl, hb⟩
              have HC5 := Lib.hid (HC4.out.keep hb)
              have HS5 := Lib.hid (HS4.out.keep hb)
              clear hb HC4 HS4 HR4
              go_wp2_with fail
              go_at_call 12
              refine (tell_no 1 _ HC5.out.et).mono ?_
              rintro e w6 ⟨rfl, hb⟩
              have HC6 := Lib.hid (HC5.out.keep hb)
              have HS6 := Lib.hid (HS5.out.keep hb)
              clear hb HC5 HS5
              go_wp2_with fail
              go_at_call 12
              refine (tell_no 1 _ HC6.out.et).mono ?_
              rintro e w7 ⟨rfl, hb⟩
              have HC5 := Lib.hid (HC6.out.keep hb)
              have HS5 := Lib.hid (HS6.out.keep hb)
              have pd5 : w7.cell? ⟨w1.heap.size + 1, 0, none⟩ = some (.pointer (some ⟨w1.heap.size, 0, none⟩)) := HC5.out.ptr.cell 0
              clear hb HC6 HS6
              go_wp2_with fail
              clear pd5
              go_at_call 6
              refine (di_open HS5.out.di).mono ?_
              rintro e w6 ⟨sb9, v9, rfl, hso2, hsb2, hb⟩
              have hcs : CS W g off E m (w1.heap.size + 1) w2.heap.size (w2.heap.size + 1) w1.heap.size (.slice ca m ccap) ck nx L na nc j sb sb9 D' n f x v v9 w6 := ⟨HC5.out.keep hb, HS5.out.keep hb, hso2⟩
              have HD := CS.all hcs.drew
              have HT2 := Lib.hid (fun w (h : CS W g off E m (w1.heap.size + 1) w2.heap.size (w2.heap.size + 1) w1.heap.size (.slice ca m ccap) ck nx L na nc j sb sb9 D' n f x v v9 w) => h.state2)
              have HT1 := Lib.hid (fun w (h : CS W g off E m (w1.heap.size + 1) w2.heap.size (w2.heap.size + 1) w1.heap.size (.slice ca m ccap) ck nx L na nc j sb sb9 D' n f x v v9 w) => h.state1)
              clear hso2 hb HC5 HS5 hcs
              go_wp2_with fail
              go_region_held3 (fun w' => CS W g off E m (w1.heap.size + 1) w2.heap.size (w2.heap.size + 1) w1.heap.size (.slice ca m ccap) ck nx L na nc j sb sb9 D' n f x v v9 w' ∧ w'.cell? ⟨w2.heap.size, 0, none⟩ = some (.int .i64 ck) ∧ w'.cell? ⟨w2.heap.size, 1, none⟩ = some (.int .i64 nx) ∧ w'.cell? ⟨w2.heap.size, 2, none⟩ = some (.slice na L.length nc))
                (first
                  | with_reducible assumption
                  | with_reducible exact HD
                  | with_reducible exact CS.all (CS.keep (And.left (by assumption)) (by assumption)))
                (first
                  | (go_at_call 14; (with_reducible refine (HT2.out _ (And.left (by assumption))).mono ?_); rintro x' w7 ⟨a1, c1, rfl, hr1, hb1⟩)
                  | (go_at_call 14; (with_reducible refine (HT1.out _ (And.left (by assumption))).mono ?_); rintro x' w9 ⟨a2, c2, rfl, hr2, hb2⟩)
                  | (go_at_call 15; (with_reducible refine (CS.same (And.left (by assumption)) hr2).mono ?_); rintro x' w5 ⟨q, rfl, hq, hb5⟩; obtain rfl := hq trivial)
                  | (go_at_call 15; (with_reducible refine (CS.same (And.left (by assumption)) hr1).mono ?_); rintro x' w5 ⟨q, rfl, hq, hb5⟩; obtain rfl := hq trivial))
              go_wp2_with fail
              go_roundw
              case rel => exact ⟨k + 1, j, sb, D', n, f, x, ⟨ck, nx, L⟩, v, _, by omega, by go_num, rfl, CS.cb (And.left (by assumption)), CS.so (And.left (by assumption)), by omega, by omega⟩
              case measure => simp [intOf]; omega
            · go_wp2_with fail
              go_at_call 12
              refine (tell_no 12 _ HC4.out.et).mono ?_
              rintro e w5 ⟨rfl, hb⟩
              have HC5 := Lib.hid (HC4.out.keep hb)
              have HS5 := Lib.hid (HS4.out.keep hb)
              clear hb HC4 HS4 HR4
              go_wp2_with fail
              go_at_call 12
              refine (tell_no 12 _ HC5.out.et).mono ?_
              rintro e w6 ⟨rfl, hb⟩
              have HC6 := Lib.hid (HC5.out.keep hb)
              have HS6 := Lib.hid (HS5.out.keep hb)
              clear hb HC5 HS5
              go_wp2_with fail
              go_at_call 12
              refine (tell_no 12 _ HC6.out.et).mono ?_
              rintro e w7 ⟨rfl, hb⟩
              have HC5 := Lib.hid (HC6.out.keep hb)
              have HS5 := Lib.hid (HS6.out.keep hb)
              have pd5 : w7.cell? ⟨w1.heap.size + 1, 0, none⟩ = some (.pointer (some ⟨w1.heap.size, 0, none⟩)) := HC5.out.ptr.cell 0
              clear hb HC6 HS6
              go_wp2_with fail
              clear pd5
              go_at_call 6
              refine (di_open HS5.out.di).mono ?_
              rintro e w6 ⟨sb9, v9, rfl, hso2, hsb2, hb⟩
              have hcs : CS W g off E m (w1.heap.size + 1) w2.heap.size (w2.heap.size + 1) w1.heap.size (.slice ca m ccap) ck nx L na nc j sb sb9 D' n f x v v9 w6 := ⟨HC5.out.keep hb, HS5.out.keep hb, hso2⟩
              have HD := CS.all hcs.drew
              have HT2 := Lib.hid (fun w (h : CS W g off E m (w1.heap.size + 1) w2.heap.size (w2.heap.size + 1) w1.heap.size (.slice ca m ccap) ck nx L na nc j sb sb9 D' n f x v v9 w) => h.state2)
              have HT1 := Lib.hid (fun w (h : CS W g off E m (w1.heap.size + 1) w2.heap.size (w2.heap.size + 1) w1.heap.size (.slice ca m ccap) ck nx L na nc j sb sb9 D' n f x v v9 w) => h.state1)
              clear hso2 hb HC5 HS5 hcs
              go_wp2_with fail
              go_region_held3 (fun w' => CS W g off E m (w1.heap.size + 1) w2.heap.size (w2.heap.size + 1) w1.heap.size (.slice ca m ccap) ck nx L na nc j sb sb9 D' n f x v v9 w' ∧ w'.cell? ⟨w2.heap.size, 0, none⟩ = some (.int .i64 ck) ∧ w'.cell? ⟨w2.heap.size, 1, none⟩ = some (.int .i64 nx) ∧ w'.cell? ⟨w2.heap.size, 2, none⟩ = some (.slice na L.length nc))
                (first
                  | with_reducible assumption
                  | with_reducible exact HD
                  | with_reducible exact CS.all (CS.keep (And.left (by assumption)) (by assumption)))
                (first
                  | (go_at_call 14; (with_reducible refine (HT2.out _ (And.left (by assumption))).mono ?_); rintro x' w7 ⟨a1, c1, rfl, hr1, hb1⟩)
                  | (go_at_call 14; (with_reducible refine (HT1.out _ (And.left (by assumption))).mono ?_); rintro x' w9 ⟨a2, c2, rfl, hr2, hb2⟩)
                  | (go_at_call 15; (with_reducible refine (CS.same (And.left (by assumption)) hr2).mono ?_); rintro x' w5 ⟨q, rfl, hq, hb5⟩; obtain rfl := hq trivial)
                  | (go_at_call 15; (with_reducible refine (CS.same (And.left (by assumption)) hr1).mono ?_); rintro x' w5 ⟨q, rfl, hq, hb5⟩; obtain rfl := hq trivial))
              go_wp2_with fail
              go_roundw
              case rel => exact ⟨k + 1, j, sb, D', n, f, x, ⟨ck, nx, L⟩, v, _, by omega, by go_num, rfl, CS.cb (And.left (by assumption)), CS.so (And.left (by assumption)), by omega, by omega⟩
              case measure => simp [intOf]; omega
          · have HC4 := Lib.hid (HC1.out.so HS1.out htw)
            have HR4 := Lib.hid (HR1.out.two htw HS1.out.sd.st HS1.out.sd.disk.at_)
            have HDI4 := Lib.hid hdi
            clear htw hdi HC1 HS1 HR1 HCB HSO m0 m1 m2 hzn pd hpl

            have HEV := Lib.hid hev
            clear hev
            have HAP : Hid (∀ w (v : Value), FRow w W.heap.size v L → Calls Tryz.prog 13 #[stVal ⟨ck, nx, L⟩ v, evVal ⟨kd, ⟨i, cl, su, sc, ge, ma, us, re, de⟩, id, ti⟩] w (GotAs w (applyS ⟨ck, nx, L⟩ ⟨kd, ⟨i, cl, su, sc, ge, ma, us, re, de⟩, id, ti⟩).clock (applyS ⟨ck, nx, L⟩ ⟨kd, ⟨i, cl, su, sc, ge, ma, us, re, de⟩, id, ti⟩).next (applyS ⟨ck, nx, L⟩ ⟨kd, ⟨i, cl, su, sc, ge, ma, us, re, de⟩, id, ti⟩).fams)) :=
              Lib.hid fun w v hr => (ev_apply W.heap.size v ⟨ck, nx, L⟩ ⟨kd, ⟨i, cl, su, sc, ge, ma, us, re, de⟩, id, ti⟩ w hr HOK.out (okN_one HEV.out) (okN_two HEV.out)).mono fun _ _ h => got_as h
            generalize applyS ⟨ck, nx, L⟩ ⟨kd, ⟨i, cl, su, sc, ge, ma, us, re, de⟩, id, ti⟩ = s2 at *
            obtain ⟨ck2, nx2, L2⟩ := s2
            unfold GotAs stVal stCs evVal evCs at HAP
            dsimp only at HAP

            go_wp2_with fail
            go_at_call 12
            refine (tell_no 14 _ HC4.out.et).mono ?_
            rintro e w5 ⟨rfl, hb⟩
            have HC4 := Lib.hid (HC4.out.keep hb)
            have HR4 := Lib.hid (HR4.out.keep hb)
            have HDI4 := Lib.hid (HDI4.out.keep hb)
            clear hb
            go_wp2_with fail
            go_at_call 12
            refine (tell_no 14 _ HC4.out.et).mono ?_
            rintro e w5b ⟨rfl, hb⟩
            have HC4 := Lib.hid (HC4.out.keep hb)
            have HR4 := Lib.hid (HR4.out.keep hb)
            have HDI4 := Lib.hid (HDI4.out.keep hb)
            clear hb

            obtain ⟨m0, m1, m2⟩ := two_cells HC4.out.now
            obtain ⟨e1, e2, e3, e4, e5, e6, e7, e8, e9, e10, e11, e12⟩ := HR4.out.twelve
            dsimp only at m0 m1 m2
            go_wp2_with fail
            go_at_call 13
            refine (HAP.out _ _ HC4.out.row).mono ?_
            rintro e w6 ⟨a3, c3, rfl, hr3, hb⟩
            have HC6 := Lib.hid (HC4.out.keep hb)
            have HR6 := Lib.hid (HR4.out.keep hb)
            have HDI6 := Lib.hid (HDI4.out.keep hb)
            have HW6 := Lib.hid (hr3.mono (Nat.le_trans HC4.out.below.size (Nat.le_refl _)))
            clear hr3 hb HAP HC4 HR4 HDI4 m0 m1 m2 e1 e2 e3 e4 e5 e6 e7 e8 e9 e10 e11 e12
            have hzb := HR6.out.beh.frozen
            obtain ⟨q0, q1, q2⟩ := two_cells HR6.out.beh
            dsimp only at q0 q1 q2
            obtain ⟨ht1, ht2⟩ := HR6.out.tell ck2 nx2 L2 HW6.out
            have HR4 := Lib.hid ht1
            have hbw : W.heap.size ≤ wr.heap.size + 1 + 1 := by have := HLE.out; omega
            have HC4 := Lib.hid (HC6.out.beh ht2 HR6.out.beh (by omega) hbw)
            have HDI4 := Lib.hid (HDI6.out.now ht2 HR6.out.beh hbw)
            clear ht1 ht2 HC6 HR6 HDI6 HW6 hbw

            go_wp2_with fail
            generalize (((w6.setCell ⟨wr.heap.size + 1 + 1, 0, none⟩ (.int .i64 ck2)).setCell ⟨wr.heap.size + 1 + 1, 1, none⟩ (.int .i64 nx2)).setCell ⟨wr.heap.size + 1 + 1, 2, none⟩ (.slice a3 L2.length c3)) = w4b at *
            clear q0 q1 q2 hzb
            have pd4 : w4b.cell? ⟨w1.heap.size + 1, 0, none⟩ = some (.pointer (some ⟨w1.heap.size, 0, none⟩)) := HC4.out.ptr.cell 0
            go_at_call 12
            refine (tell_no 14 _ HC4.out.et).mono ?_
            rintro e w5 ⟨rfl, hb⟩
            have HC5 := Lib.hid (HC4.out.keep hb)
            have HR5 := Lib.hid (HR4.out.keep hb)
            have HDI5 := Lib.hid (HDI4.out.keep hb)
            have pd5 : w5.cell? ⟨w1.heap.size + 1, 0, none⟩ = some (.pointer (some ⟨w1.heap.size, 0, none⟩)) := HC5.out.ptr.cell 0
            clear hb HC4 HR4 HDI4 pd4
            go_wp2_with fail
            go_at_call 9
            refine (disk_cut _ _ (-1) _ HDI5.out.disk).mono ?_
            rintro e w6 ⟨rfl, hd, hg⟩
            have HC6 := Lib.hid (HC5.out.disk HDI5.out.disk.at_ hg HDI5.out.bd)
            have HR6 := Lib.hid (HR5.out.grown hg HDI5.out.disk.at_ (by decide) (by decide) (by decide))
            have HDI6 := Lib.hid (HDI5.out.cut hd hg)
            have pd6 : w6.cell? ⟨w1.heap.size + 1, 0, none⟩ = some (.pointer (some ⟨w1.heap.size, 0, none⟩)) := HC6.out.ptr.cell 0
            clear hd hg HC5 HR5 HDI5 pd5
            go_wp2_with fail
            go_at_call 6
            refine (di_open HDI6.out).mono ?_
            rintro e w7 ⟨sb2, v2, rfl, hso2, hsb2, hb⟩
            have HS7 := Lib.hid hso2
            have HC7 := Lib.hid (HC6.out.keep hb)
            have HR7 := Lib.hid (HR6.out.keep hb)
            have HB7 := Lib.hid HC7.out.below.size
            clear hso2 hb hsb2 HC6 HR6 HDI6 pd6
            go_wp2_with fail
            go_at_call 14
            refine ((store_state W.heap.size sb2 w1.heap.size ⟨ck, nx, L⟩ v2 n' f' x false w7 HS7.out.sd.st HS7.out.sd.row (by have := HS7.out.di.fit.len; omega)).mono fun _ _ h => got_as h).mono ?_
            rintro e w8 ⟨a3, c3, rfl, hr3, hb⟩
            have HS8 := Lib.hid (HS7.out.keep hb)
            have HC8 := Lib.hid (HC7.out.keep hb)
            have HR8 := Lib.hid (HR7.out.keep hb)
            have HW3 := Lib.hid hr3
            clear hr3 hb HS7 HC7 HR7
            dsimp only at HW3
            obtain ⟨m0, m1, m2⟩ := two_cells HC8.out.now
            have hnl8 : w2.heap.size < w8.heap.size := HC8.out.now.lt
            dsimp only at m0 m1 m2
            go_wp2_with fail
            go_at_call 15
            have hb9 : Below w8.heap.size w8 (w8.alloc (.cells #[.int .i64 ck, .int .i64 nx, .slice a3 L.length c3] 36)) := (Below.refl _ _).alloc (Nat.le_refl _) _
            have HI9 := Lib.hid (Blk.new w8 36 #[.int .i64 ck, .int .i64 nx, .slice a3 L.length c3])
            have HS9 := Lib.hid (HS8.out.keep hb9)
            have HC9 := Lib.hid (HC8.out.keep hb9)
            have HW9 := Lib.hid (HW3.out.below hb9)
            clear hb9 HS8 HC8 HR8 HW3 m0 m1 m2 hnl8
            refine (plain_same_ True w7.heap.size W.heap.size (.slice a3 L.length c3) (.slice na L.length nc) ⟨ck, nx, L⟩ ⟨ck, nx, L⟩ _ (fun _ => rfl) HW9.out HC9.out.row (by have := HS9.out.di.fit.len; dsimp only at this ⊢; omega)).mono ?_
            rintro e w10 ⟨q, rfl, hq, hb⟩
            obtain rfl := hq trivial
            have HI10 := Lib.hid (HI9.out.below' hb)
            have HS10 := Lib.hid (HS9.out.keep hb)
            have HC10 := Lib.hid (HC9.out.keep hb)
            have HW10 := Lib.hid (HW9.out.below hb)
            clear hb hq HI9 HS9 HC9 HW9
            obtain ⟨q0, q1, q2⟩ := two_cells HI10.out
            have hzn := HC10.out.now.frozen
            obtain ⟨m0, m1, m2⟩ := two_cells HC10.out.now
            dsimp only at m0 m1 m2
            have hw78 : W.heap.size ≤ w7.heap.size := HB7.out
            obtain ⟨ht1, ht2⟩ := HC10.out.tell ⟨ck, nx, L⟩ (HW10.out.mono hw78)
            have HC11 := Lib.hid ht1
            have HS11 := Lib.hid (HS10.out.now ht2 HC10.out.now HC10.out.hn)
            dsimp only at HC11 HS11
            clear ht1 ht2 HC10 HS10 HI10 HW10
            go_wp2_with fail
            generalize (((w10.setCell ⟨w2.heap.size, 0, none⟩ (.int .i64 ck)).setCell ⟨w2.heap.size, 1, none⟩ (.int .i64 nx)).setCell ⟨w2.heap.size, 2, none⟩ (.slice a3 L.length c3)) = w11 at *
            clear m0 m1 m2 q0 q1 q2 hzn
            go_at_call 7
            refine (cut_call HC11.out _ HS11.out.di.disk hs1).mono ?_
            rintro e w12 ⟨rfl, j2, kc2, hcb, hdd, htw⟩
            have HS5 := Lib.hid (HS11.out.cut2 hdd htw HC11.out.nxt HC11.out.hx)
            have HC5 := Lib.hid hcb
            have pd5 : w12.cell? ⟨w1.heap.size + 1, 0, none⟩ = some (.pointer (some ⟨w1.heap.size, 0, none⟩)) := HC5.out.ptr.cell 0
            clear hcb hdd htw HS11 HC11
            go_wp2_with fail
            clear pd5
            go_at_call 6
            refine (di_open HS5.out.di).mono ?_
            rintro e w6 ⟨sb9, v9, rfl, hso2, hsb2, hb⟩
            have hcs : CS W g off E m (w1.heap.size + 1) w2.heap.size (w2.heap.size + 1) w1.heap.size (.slice ca m ccap) ck nx L a3 c3 j2 sb2 sb9 ((D'.cutAt (-1)).cutAt kc2) n' f' x v2 v9 w6 := ⟨HC5.out.keep hb, HS5.out.keep hb, hso2⟩
            have HD := CS.all hcs.drew
            have HT2 := Lib.hid (fun w (h : CS W g off E m (w1.heap.size + 1) w2.heap.size (w2.heap.size + 1) w1.heap.size (.slice ca m ccap) ck nx L a3 c3 j2 sb2 sb9 ((D'.cutAt (-1)).cutAt kc2) n' f' x v2 v9 w) => h.state2)
            have HT1 := Lib.hid (fun w (h : CS W g off E m (w1.heap.size + 1) w2.heap.size (w2.heap.size + 1) w1.heap.size (.slice ca m ccap) ck nx L a3 c3 j2 sb2 sb9 ((D'.cutAt (-1)).cutAt kc2) n' f' x v2 v9 w) => h.state1)
            clear hso2 hb HC5 HS5 hcs
            go_wp2_with fail
            go_region_held3 (fun w' => CS W g off E m (w1.heap.size + 1) w2.heap.size (w2.heap.size + 1) w1.heap.size (.slice ca m ccap) ck nx L a3 c3 j2 sb2 sb9 ((D'.cutAt (-1)).cutAt kc2) n' f' x v2 v9 w' ∧ w'.cell? ⟨w2.heap.size, 0, none⟩ = some (.int .i64 ck) ∧ w'.cell? ⟨w2.heap.size, 1, none⟩ = some (.int .i64 nx) ∧ w'.cell? ⟨w2.heap.size, 2, none⟩ = some (.slice a3 L.length c3))
              (first
                | with_reducible assumption
                | with_reducible exact HD
                | with_reducible exact CS.all (CS.keep (And.left (by assumption)) (by assumption)))
              (first
                | (go_at_call 14; (with_reducible refine (HT2.out _ (And.left (by assumption))).mono ?_); rintro x' w7 ⟨a1, c1, rfl, hr1, hb1⟩)
                | (go_at_call 14; (with_reducible refine (HT1.out _ (And.left (by assumption))).mono ?_); rintro x' w9 ⟨a2, c2, rfl, hr2, hb2⟩)
                | (go_at_call 15; (with_reducible refine (CS.same (And.left (by assumption)) hr2).mono ?_); rintro x' w5 ⟨q, rfl, hq, hb5⟩; obtain rfl := hq trivial)
                | (go_at_call 15; (with_reducible refine (CS.same (And.left (by assumption)) hr1).mono ?_); rintro x' w5 ⟨q, rfl, hq, hb5⟩; obtain rfl := hq trivial))
            go_wp2_with fail
            go_roundw
            case rel => exact ⟨k + 1, j2, sb2, ((D'.cutAt (-1)).cutAt kc2), n', f', x, ⟨ck, nx, L⟩, v2, _, by omega, by go_num, rfl, CS.cb (And.left (by assumption)), CS.so (And.left (by assumption)), by omega, by omega⟩
            case measure => simp [intOf]; omega
      · obtain ⟨wh, kd, ⟨i, cl, su, sc, ge, ma, us, re, de⟩, id, ti⟩ := e
        obtain ⟨d0, d1, d2, d3, d4, d5, d6, d7, d8, d9, d10, d11, d12⟩ := HCB.out.thirteen he
        have HE := Lib.hid he
        clear he
        unfold Fam.len at hsh hbig
        dsimp only at hsh hbig
        have hal := alloc2 wr (.cells #[.int .i64 wh, .int .i64 kd, .int .i64 i, .string cl, .string su, .string sc, .int .i64 ge, .int .i64 ma, .int .i64 us, .string re, .bool de, .int .i64 id, .int .i64 ti] 44) (.cells #[.int .i64 i, .string cl, .string su, .string sc, .int .i64 ge, .int .i64 ma, .int .i64 us, .string re, .bool de] 40)
        have HA := Lib.hid hal
        clear hal
        go_wp2_with fail
        go_roundw
        case rel => exact ⟨k + 1, j, sb, D, n, f, x, s, v, v', by omega, by go_num, rfl, HCB.out.keep HA.out, HSO.out.keep HA.out, by omega, by omega⟩
        case measure => simp [intOf]; omega
    · go_wp2_with fail
      go_ret
      exact ⟨rfl, HCB.out.below⟩
set_option maxRecDepth 100000 in
theorem crash_long (W : World) (a b : Option Addr) (n c m d : Nat) (h : 60 < n ∨ 30 < m) (hn : n ≤ 9223372036854775807) (hm : m ≤ 9223372036854775807) :
    Calls Tryz.prog 3 #[.slice a n c, .slice b m d] W fun x w' => x = .returned (.bool true) ∧ Below W.heap.size W w' := by
  have hb : Below W.heap.size W (W.alloc (.cells #[.slice b m d] 23)) := (Below.refl _ _).alloc (Nat.le_refl _) _
  have HB := Lib.hid hb
  clear hb
  by_cases h1 : 60 < n
  · clear h
    go_enter Tryz.func3, Tryz.ntmps3
    go_wp2_with fail
    go_ret
    exact ⟨rfl, HB.out⟩
  · have h2 : 30 < m := by omega
    have h1' : n ≤ 60 := by omega
    clear h h1
    go_enter Tryz.func3, Tryz.ntmps3
    go_wp2_with fail
    go_ret
    exact ⟨rfl, HB.out⟩
end Go.Proofs.YtdogilbnbbeljaaGreatDoor
