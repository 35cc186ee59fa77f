/-
  The desk's commands: kill.
-/
import Derived.Test.YtepjcdjpikbbjaaGreatDoorU00
import Derived.Test.YtepjcdjpikbbjaaGreatDoorU33
import Derived.Test.YtepjcdjpikbbjaaGreatDoorU40
import Derived.Test.YtepjcdjpikbbjaaGreatDoorU43
set_option maxHeartbeats 8000000
set_option maxRecDepth 100000
namespace Go.Proofs.YtepjcdjpikbbjaaGreatDoor
open Go.Proofs.Tryz
open Go.RowKit Go.Sort
section
variable {W w:World} {xb vb sb db k:Nat} {r:Ru} {z:SS} {v:Value}
theorem A5 (h:bP W xb vb sb db k r z v w) (hk:k<1000000) (g off c:Nat) (L:List (List UInt8)) (hw:eN w g off L) (hl: ∀ x∈L,x.length≤5000):
  Calls prog 66 #[.pointer (some ⟨xb,0,none⟩),.slice (some ⟨g,off,none⟩) L.length c] w (dh W w xb k (iH ⟨r,z⟩ L)):=by
 obtain⟨⟩:=gT hk hw hl
 by_cases hL:L.length=1
 ·rcases L with _|⟨a,_|⟨_,L⟩⟩
  ·exact absurd hL (by simp)
  ·clear hL
   have HWT:=zH hw;have d0:=hw.2 0 a rfl;have l0:=hl a (by simp);simp only[Nat.add_zero,List.length_cons,List.length_nil,Nat.zero_add]at*;clear hw hl;have H:=zH h;rcases hn:aC a with _|_
   ·have hcut:iH ⟨r,z⟩ [a]=bad ⟨r,z⟩ 3:=by show(if aC a=true then _ else _)=_;rw[hn];rfl
    rw[hcut];have HN:=zH (fun w (h:bP W xb vb sb db k r z v w)=>gE (ah a) w (by rw[av];omega) h.env.tens h.env.errs h.et h.elt (by rw[ak];exact hn));unfold cG at HN;obtain⟨c0,c1,c2,c3,c4,c5,c6,hlt⟩:=h.seven;clear hcut hn h hk;go_enter Tryz.func66,Tryz.ntmps66;go_wp2_with fail;go_at_call 17;refine(aY _ 1 c w).mono ?_;rintro e w0 ⟨rfl,rfl⟩;go_wp2_with fail;have HSD:bP W xb vb sb db k r z v w.drew∧w.drew.cell? ⟨g,off,none⟩=some (.string (ah a)):=⟨H.out.drew,d0⟩;have HBD:=zH (au (Below.refl w.heap.size w));clear c0 c1 c2 c3 c4 c5 c6 hlt d0;refine aR (fun w'=>bP W xb vb sb db k r z v w'∧w'.cell? ⟨g,off,none⟩=some (.string (ah a))) [8,9] kR ?_;refine aa 16 (i:=0) (v:= ?v0_15) rfl kR kR kR kR kR (fun _ _ _ h=>h) (by rfl) ?hy0_15 HSD ?rest0_15
    case hy0_15=>(intro w hSw;obtain⟨c0,c1,c2,c3,c4,c5,c6,hlt⟩:=bP.seven (And.left hSw);obtain⟨_,HD⟩:=hSw;go_simp;(try with_reducible rfl))
    simp only[Act.put];refine aa 16 (i:=1) (v:= ?v1_16) rfl kR kR kR kR kR (fun _ _ _ h=>h) (by rfl) ?hy1_16 HSD ?rest1_16
    case hy1_16=>(intro w hSw;obtain⟨c0,c1,c2,c3,c4,c5,c6,hlt⟩:=bP.seven (And.left hSw);obtain⟨_,HD⟩:=hSw;go_simp;(try with_reducible rfl))
    simp only[Act.put];refine aa 16 (i:=2) (v:= ?v2_17) rfl kR kR kR kR kR (fun _ _ _ h=>h) (by rfl) ?hy2_17 HSD ?rest2_17
    case hy2_17=>(intro w hSw;obtain⟨c0,c1,c2,c3,c4,c5,c6,hlt⟩:=bP.seven (And.left hSw);obtain⟨_,HD⟩:=hSw;go_simp;(try with_reducible rfl))
    simp only[Act.put];refine aa 16 (i:=3) (v:= ?v3_18) rfl kR kR kR kR kR (fun _ _ _ h=>h) (by rfl) ?hy3_18 HSD ?rest3_18
    case hy3_18=>(intro w hSw;obtain⟨c0,c1,c2,c3,c4,c5,c6,hlt⟩:=bP.seven (And.left hSw);obtain⟨_,HD⟩:=hSw;go_simp;(try with_reducible rfl))
    simp only[Act.put];refine aa 16 (i:=4) (v:= ?v4_19) rfl kR kR kR kR kR (fun _ _ _ h=>h) (by rfl) ?hy4_19 HSD ?rest4_19
    case hy4_19=>(intro w hSw;obtain⟨c0,c1,c2,c3,c4,c5,c6,hlt⟩:=bP.seven (And.left hSw);obtain⟨_,HD⟩:=hSw;go_simp;(try with_reducible rfl))
    simp only[Act.put];refine aa 16 (i:=5) (v:= ?v5_20) rfl kR kR kR kR kR (fun _ _ _ h=>h) (by rfl) ?hy5_20 HSD ?rest5_20
    case hy5_20=>(intro w hSw;obtain⟨c0,c1,c2,c3,c4,c5,c6,hlt⟩:=bP.seven (And.left hSw);obtain⟨_,HD⟩:=hSw;go_simp;(try with_reducible rfl))
    simp only[Act.put];refine aa 16 (i:=6) (v:= ?v6_21) rfl kR kR kR kR kR (fun _ _ _ h=>h) (by rfl) ?hy6_21 HSD ?rest6_21
    case hy6_21=>(intro w hSw;obtain⟨c0,c1,c2,c3,c4,c5,c6,hlt⟩:=bP.seven (And.left hSw);obtain⟨_,HD⟩:=hSw;go_simp;(try with_reducible rfl))
    simp only[Act.put];refine ai (i:=7) kR rfl ?_;intro K7 hK7;go_simp;go_at_call 18;refine(HN.out _ HSD.1).mono ?_;rintro x' w2 ⟨rfl,hb⟩;dsimp only;exact⟨rfl,H.out.thrown (ae HBD.out hb) dC⟩
   ·have hyes:iH ⟨r,z⟩ [a]=(⟨r,(ar () z (eF z.s (ab a))).1⟩,ah gA,(ar () z (eF z.s (ab a))).2.2):=by show(if aC a=true then _ else _)=_;rw[hn];rfl
    rw[hyes];have HN:=zH (fun w (h:bP W xb vb sb db k r z v w)=>eL (ah a) w (by rw[av];omega) h.env.tens (by rw[ak];exact hn));rw[ak]at HN;generalize ab a=n at*;obtain⟨c0,c1,c2,c3,c4,c5,c6,hlt⟩:=h.seven;have HC:=zH (fun w (h:bP W xb vb sb db k r z v w)=>(El h.sw hk n));clear hk;unfold iR at HC;generalize ar () z (eF z.s n)=Q at*;clear hyes hn h;go_enter Tryz.func66,Tryz.ntmps66;go_wp2_with fail;go_at_call 17;refine(aY _ 1 c w).mono ?_;rintro e w0 ⟨rfl,rfl⟩;go_wp2_with fail;have HSD:bP W xb vb sb db k r z v w.drew∧w.drew.cell? ⟨g,off,none⟩=some (.string (ah a)):=⟨H.out.drew,d0⟩;have HBD:=zH (au (Below.refl w.heap.size w));clear c0 c1 c2 c3 c4 c5 c6 hlt d0;refine aR (fun w'=>bP W xb vb sb db k r z v w'∧w'.cell? ⟨g,off,none⟩=some (.string (ah a))) [8,9] kR ?_;refine aa 16 (i:=0) (v:= ?v0_22) rfl kR kR kR kR kR (fun _ _ _ h=>h) (by rfl) ?hy0_22 HSD ?rest0_22
    case hy0_22=>(intro w hSw;obtain⟨c0,c1,c2,c3,c4,c5,c6,hlt⟩:=bP.seven (And.left hSw);obtain⟨_,HD⟩:=hSw;go_simp;(try with_reducible rfl))
    simp only[Act.put];refine aa 16 (i:=1) (v:= ?v1_23) rfl kR kR kR kR kR (fun _ _ _ h=>h) (by rfl) ?hy1_23 HSD ?rest1_23
    case hy1_23=>(intro w hSw;obtain⟨c0,c1,c2,c3,c4,c5,c6,hlt⟩:=bP.seven (And.left hSw);obtain⟨_,HD⟩:=hSw;go_simp;(try with_reducible rfl))
    simp only[Act.put];refine aa 16 (i:=2) (v:= ?v2_24) rfl kR kR kR kR kR (fun _ _ _ h=>h) (by rfl) ?hy2_24 HSD ?rest2_24
    case hy2_24=>(intro w hSw;obtain⟨c0,c1,c2,c3,c4,c5,c6,hlt⟩:=bP.seven (And.left hSw);obtain⟨_,HD⟩:=hSw;go_simp;(try with_reducible rfl))
    simp only[Act.put];refine aa 16 (i:=3) (v:= ?v3_25) rfl kR kR kR kR kR (fun _ _ _ h=>h) (by rfl) ?hy3_25 HSD ?rest3_25
    case hy3_25=>(intro w hSw;obtain⟨c0,c1,c2,c3,c4,c5,c6,hlt⟩:=bP.seven (And.left hSw);obtain⟨_,HD⟩:=hSw;go_simp;(try with_reducible rfl))
    simp only[Act.put];refine aa 16 (i:=4) (v:= ?v4_26) rfl kR kR kR kR kR (fun _ _ _ h=>h) (by rfl) ?hy4_26 HSD ?rest4_26
    case hy4_26=>(intro w hSw;obtain⟨c0,c1,c2,c3,c4,c5,c6,hlt⟩:=bP.seven (And.left hSw);obtain⟨_,HD⟩:=hSw;go_simp;(try with_reducible rfl))
    simp only[Act.put];refine aa 16 (i:=5) (v:= ?v5_27) rfl kR kR kR kR kR (fun _ _ _ h=>h) (by rfl) ?hy5_27 HSD ?rest5_27
    case hy5_27=>(intro w hSw;obtain⟨c0,c1,c2,c3,c4,c5,c6,hlt⟩:=bP.seven (And.left hSw);obtain⟨_,HD⟩:=hSw;go_simp;(try with_reducible rfl))
    simp only[Act.put];refine aa 16 (i:=6) (v:= ?v6_28) rfl kR kR kR kR kR (fun _ _ _ h=>h) (by rfl) ?hy6_28 HSD ?rest6_28
    case hy6_28=>(intro w hSw;obtain⟨c0,c1,c2,c3,c4,c5,c6,hlt⟩:=bP.seven (And.left hSw);obtain⟨_,HD⟩:=hSw;go_simp;(try with_reducible rfl))
    simp only[Act.put];refine ai (i:=7) kR rfl ?_;intro K7 hK7;go_simp;go_at_call 18;refine(HN.out _ HSD.1).mono ?_;rintro x' w2 ⟨rfl,hb⟩;dsimp only;have hs2:bP W xb vb sb db k r z v w2∧w2.cell? ⟨g,off,none⟩=some (.string (ah a)):=⟨HSD.1.keep hb,by rw[hb.cell (p:=⟨g,off,none⟩) (World.block_lt_of_cell? _ _ HSD.2)];exact HSD.2⟩;have HB2:=zH (ae HBD.out hb);refine hK7.out _ _ (fun _=>hs2) ?_
    try simp only[Act.put]
    clear HSD HBD hb;refine ai (i:=8) kR rfl ?_;intro K8 hK8;go_simp;go_at_call 125;refine(HC.out _ hs2.1).mono ?_;rintro x' w3 ⟨he,htw,v3,hs⟩;have h3:=hs2.1.two htw hs;have HD3:=zH h3.1;have HST:=zH ((bt.of_below HB2.out).trans h3.2);clear hs htw h3 hs2 HB2
    by_cases hq:Q.2.2=0
    ·rw[hq,cH]at he
     subst he;have HQ0:=zH hq;clear hq
     try dsimp only
     refine hK8.out _ _ (fun h=>absurd h dC) ?_
     try simp only[Act.put]
     refine ai (i:=9) kR rfl ?_;intro K9 hK9;go_simp;go_at_call 20;refine(bR _).mono ?_;rintro x' w4 ⟨rfl,rfl⟩
     try dsimp only
     refine hK9.out _ _ (fun h=>absurd h dC) ?_;refine aX kR ?_ _;go_wp2_with fail;go_ret;exact⟨.inl ⟨HQ0.out,rfl⟩,⟨vb,sb,db,_,HD3.out⟩,HST.out⟩
    ·rw[aP hq]at he
     subst he;have HQ0:=zH hq;clear hq;have HMN:=zH (cS Q.2.2 w3 HD3.out.et);unfold cG at HMN
     try dsimp only
     refine hK8.out _ _ (fun h=>absurd h dC) ?_
     try simp only[Act.put]
     refine ai (i:=9) kR rfl ?_;intro K9 hK9;go_simp;go_at_call 20;refine HMN.out.mono ?_;rintro x' w4 ⟨rfl,hb⟩;dsimp only;exact⟨rfl,.inr ⟨HQ0.out,rfl⟩,⟨vb,sb,db,_,(HD3.out.keep hb)⟩,HST.out.trans (bt.of_below hb)⟩
  ·exact absurd hL (by simp)
 ·have hbad:iH ⟨r,z⟩ L=bad ⟨r,z⟩ 3:=by
   unfold iH;split
   ·exact absurd rfl hL
   ·rfl
  rw[hbad];have HM:=zH (cO (some ⟨g,off,none⟩) L.length c 1 w h.et (by simpa using(show(L.length:Int)≠1 by omega)));have H:=zH h;clear h hw hl hL hbad hk;unfold cG at HM;go_enter Tryz.func66,Tryz.ntmps66;go_wp2_with fail;go_at_call 17;refine HM.out.mono ?_;rintro e w0 ⟨rfl,hb⟩;dsimp only;exact⟨rfl,H.out.thrown hb dC⟩
end
section
variable {W w:World} {mb hb qb rb:Nat} {r:Ru} {z:SS} {v:Value}
theorem yK (h:iL W mb hb qb rb r z v w) (hz:RZ r z) (hwr:cP z.writes) (g off c:Nat) (L:List (List UInt8)) (hw:iF w g off L) (hl: ∀ x∈L,x.length≤5000):
  Calls prog 15 #[.pointer (some ⟨hb,0,none⟩),.string ⟨#[104,101,108,112]⟩,.slice (some ⟨g,off,none⟩) L.length c] w (bw W w mb hb (jY ⟨r,z⟩ L)):=by
 by_cases hL:L.length=0
 ·rcases L with _|⟨_,L⟩
  ·clear hL
   obtain⟨⟩:=ey hw hl hwr;obtain⟨wcs,hwb⟩:=hw.1
   show Calls prog 15 #[.pointer (some ⟨hb,0,none⟩),.string ⟨#[104,101,108,112]⟩,.slice (some ⟨g,off,none⟩) 0 c] w (bw W w mb hb (jY ⟨r,z⟩ []))
   have HWR:=zH hwr;clear hw hl hwr;have hal:=(Below.refl w.heap.size w).alloc (Nat.le_refl _) (.cells #[.slice (some ⟨g,off,none⟩) 0 c] 34);have H0:=zH (h.keep hal);have hfc:=H0.out.forms;have hlk:(Instr.lookup 87 (.map (some mb)) (.string ⟨#[104,101,108,112]⟩) true).run prog _=.ok (.tuple #[.string ⟨#[]⟩,.bool true]) _:=H0.out.look je dC;have HBX:=zH (aj.new w 34 #[.slice (some ⟨g,off,none⟩) 0 c]);have HWB:=zH (hwb.below' hal);clear hwb;have HAL:=zH hal;have HZ:=zH hz;clear h hal hz;have hmf: ∀ (fn:Fn) (first cap:Array Value) (w:World),(Instr.makeFunc fn first cap).run prog w=.ok (.func fn first cap) w:=fun _ _ _ _=>rfl
   go_enter Tryz.func15,Tryz.ntmps15;go_wp2_with fail;refine wp_loop_rounds 1 ?_;generalize w.alloc (.cells #[.slice (some ⟨g,off,none⟩) 0 c] 34)=w0 at*;have HNS:=zH (NS.nil w0);clear hfc hlk;have HH:=zH (H0.out.keep HNS.out.bl);have HB:=zH (ae HAL.out HNS.out.bl);have HBX:=zH (HBX.out.below' HNS.out.bl);have HWB:=zH (HWB.out.below' HNS.out.bl);have hbx:=HBX.out.cell 0;have hh:=HH.out.at_.cell 0;obtain⟨s0,s1,s2,s3,s4,slt⟩:=HH.out.rv.five;rw[rounds_succ];go_wp2_with fail;go_ret2;exact kB (r:=r) (z:=z) HH.out HB.out (Below.refl _ _) xf xf 0 (fun _=>rfl)
  ·exact absurd hL (by simp)
 ·refine(cF h je dC _ L.length (some ⟨g,off,none⟩) c rfl (fun F hF=>by cases (show some _=some F from hF);simpa using fun e=>hL e.symm)).mono ?_
  rintro e w' ⟨rfl,hb⟩;refine cf (d:=⟨r,z⟩) (h.keep hb) hb dC ?_;rcases L with _|⟨_,L⟩
  ·exact absurd rfl hL
  ·rfl
end
section
variable {W w:World} {mb hb qb rb:Nat} {r:Ru} {z:SS} {v:Value}
theorem yH (h:iL W mb hb qb rb r z v w) (hz:RZ r z) (hwr:cP z.writes) (g off c:Nat) (L:List (List UInt8)) (hw:iF w g off L) (hl: ∀ x∈L,x.length≤5000):
  Calls prog 15 #[.pointer (some ⟨hb,0,none⟩),.string ⟨#[107,105,108,108]⟩,.slice (some ⟨g,off,none⟩) L.length c] w (bw W w mb hb (iH ⟨r,z⟩ L)):=by
 by_cases hL:L.length=1
 ·rcases L with _|⟨a,_|⟨_,L⟩⟩
  ·exact absurd hL (by simp)
  ·clear hL
   have d0:w.cell? ⟨g,off,none⟩=some (.string (ah a)):=hw.2 0 a rfl;have l0:=hl a (by simp);obtain⟨⟩:=ey hw hl hwr;obtain⟨wcs,hwb⟩:=hw.1
   show Calls prog 15 #[.pointer (some ⟨hb,0,none⟩),.string ⟨#[107,105,108,108]⟩,.slice (some ⟨g,off,none⟩) 1 c] w (bw W w mb hb (iH ⟨r,z⟩ [a]))
   have HWR:=zH hwr;clear hw hl hwr;have hal:=(Below.refl w.heap.size w).alloc (Nat.le_refl _) (.cells #[.slice (some ⟨g,off,none⟩) 1 c] 34);have H0:=zH (h.keep hal);have d0:=(hal.cell (p:=⟨g,off,none⟩) (World.block_lt_of_cell? _ _ d0)).trans d0;have D0:=zH d0;have hfc:=H0.out.forms;have hlk:(Instr.lookup 87 (.map (some mb)) (.string ⟨#[107,105,108,108]⟩) true).run prog _=.ok (.tuple #[.string ⟨#[110]⟩,.bool true]) _:=H0.out.look gA dC;obtain⟨i0,hii,hz0,hz1,hz2⟩:=info_parts kq;have HBX:=zH (aj.new w 34 #[.slice (some ⟨g,off,none⟩) 1 c]);have HWB:=zH (hwb.below' hal);clear hwb;have HAL:=zH hal;have HZ:=zH hz;clear h hal hz;have hmf: ∀ (fn:Fn) (first cap:Array Value) (w:World),(Instr.makeFunc fn first cap).run prog w=.ok (.func fn first cap) w:=fun _ _ _ _=>rfl
   go_enter Tryz.func15,Tryz.ntmps15;go_wp2_with fail;refine wp_loop_rounds 2 ?_;generalize w.alloc (.cells #[.slice (some ⟨g,off,none⟩) 1 c] 34)=w0 at*;have HNS:=zH (NS.nil w0);clear hfc hlk;rw[rounds_succ];go_wp2_with fail;go_at_call 31;rcases hn0:aC a with _|_
   ·refine(ju a l0 hn0 (H0.out.keep HNS.out.bl)).mono ?_
    rintro e wn ⟨rfl,hbn⟩;have HQ:=zH (HNS.out.keep hbn);clear hbn;go_wp2_with fail;go_ret2;exact cf (d:=⟨r,z⟩) (H0.out.keep HQ.out.bl) (ae HAL.out HQ.out.bl) dC (by simp[iH,hn0])
   refine(gj a l0 hn0 (H0.out.keep HNS.out.bl)).mono ?_;rintro e v0 ⟨rfl,hbn⟩;dsimp only;have HK0:=zH (HNS.out.keep hbn);clear hbn;have hrow:=HK0.out.own;have hsz:=HK0.out.bl.size
   go_wp2_with
    (at_builtin;refine wpList_append_own _ rfl _ _ 88 rfl w0.heap.size 3 i0 (.int .i64 0) 1 8 underlying88 hii hz0 hz1 hz2 rfl dC _ _ _ rfl (hrow.alloc _) ⟨v0.heap.size,0,none⟩ 1 1 [.int .i64 (ab a)] rfl rfl (cell_one_new _ _ _) (fun x hx=>by simp at hx;subst hx;rfl) (by unfold maxLen;simp) (by simp) (by simp;omega) ?_;intro y0 x0 hown hgrow hnil
     have HM0:=zH (HK0.out.app hown hgrow);clear hown hgrow hnil hrow hsz)
   obtain⟨ng,nc,rfl,hng,hnc⟩:=HM0.out.cells (by simp);have n0:=hnc 0 (ab a) rfl;clear hnc;have d0:=(HM0.out.bl.cell (p:=⟨g,off,none⟩) (World.block_lt_of_cell? _ _ D0.out)).trans D0.out;have HH:=zH (H0.out.keep HM0.out.bl);have HB:=zH (ae HAL.out HM0.out.bl);have HBX:=zH (HBX.out.below' HM0.out.bl);have HWB:=zH (HWB.out.below' HM0.out.bl);have hbx:=HBX.out.cell 0;have hh:=HH.out.at_.cell 0;obtain⟨s0,s1,s2,s3,s4,slt⟩:=HH.out.rv.five;rw[rounds_succ];go_wp2_with fail;go_at_call 40;refine(CO HH.out.rv HZ.out (ab a)).mono ?_;rintro e w8 ⟨rfl,hg,v8,hr⟩;have hy:iH ⟨r,z⟩ [a]=(⟨r,(ar () z (eF z.s (ab a))).1⟩,ah gA,(ar () z (eF z.s (ab a))).2.2):=by simp[iH,hn0]
   generalize ar () z (eF z.s (ab a))=P at*;obtain⟨z8,t8,c8⟩:=P;dsimp only at hr hy ⊢;have HT:=zH (iY (w:=w) HH.out HB.out hg hr);clear hg hr;go_wp2_with fail;go_ret2
   try rw[hy]
   exact HT.out _ _ c8 (fun _=>rfl)
  ·exact absurd hL (by simp)
 ·refine(cF h gA dC _ L.length (some ⟨g,off,none⟩) c rfl (fun F hF=>by cases (show some _=some F from hF);simpa using fun e=>hL e.symm)).mono ?_
  rintro e w' ⟨rfl,hb⟩;refine cf (d:=⟨r,z⟩) (h.keep hb) hb dC ?_;rcases L with _|⟨a,_|⟨_,L⟩⟩
  ·rfl
  ·exact absurd rfl hL
  ·rfl
end
section
variable {W w:World} {mb hb qb rb:Nat} {r:Ru} {z:SS} {v:Value}
theorem Bx (h:iL W mb hb qb rb r z v w) (hz:RZ r z) (hwr:cP z.writes) (g off c:Nat) (L:List (List UInt8)) (hw:iF w g off L) (hl: ∀ x∈L,x.length≤5000):
  Calls prog 15 #[.pointer (some ⟨hb,0,none⟩),.string ⟨#[116,97,103]⟩,.slice (some ⟨g,off,none⟩) L.length c] w (bw W w mb hb (mF ⟨r,z⟩ L)):=by
 by_cases hL:L.length=2
 ·rcases L with _|⟨a,_|⟨b,_|⟨_,L⟩⟩⟩
  ·exact absurd hL (by simp)
  ·exact absurd hL (by simp)
  ·clear hL
   have d0:w.cell? ⟨g,off,none⟩=some (.string (ah a)):=hw.2 0 a rfl;have l0:=hl a (by simp);have d1:w.cell? ⟨g,off+1,none⟩=some (.string (ah b)):=hw.2 1 b rfl;have l1:=hl b (by simp);obtain⟨⟩:=ey hw hl hwr;obtain⟨wcs,hwb⟩:=hw.1
   show Calls prog 15 #[.pointer (some ⟨hb,0,none⟩),.string ⟨#[116,97,103]⟩,.slice (some ⟨g,off,none⟩) 2 c] w (bw W w mb hb (mF ⟨r,z⟩ [a,b]))
   have HWR:=zH hwr;clear hw hl hwr;have hal:=(Below.refl w.heap.size w).alloc (Nat.le_refl _) (.cells #[.slice (some ⟨g,off,none⟩) 2 c] 34);have H0:=zH (h.keep hal);have d0:=(hal.cell (p:=⟨g,off,none⟩) (World.block_lt_of_cell? _ _ d0)).trans d0;have D0:=zH d0;have d1:=(hal.cell (p:=⟨g,off+1,none⟩) (World.block_lt_of_cell? _ _ d1)).trans d1;have D1:=zH d1;have hfc:=H0.out.forms;have hlk:(Instr.lookup 87 (.map (some mb)) (.string ⟨#[116,97,103]⟩) true).run prog _=.ok (.tuple #[.string ⟨#[110,119]⟩,.bool true]) _:=H0.out.look jp dC;obtain⟨i0,hii,hz0,hz1,hz2⟩:=info_parts kq;have HBX:=zH (aj.new w 34 #[.slice (some ⟨g,off,none⟩) 2 c]);have HWB:=zH (hwb.below' hal);clear hwb;have HAL:=zH hal;have HZ:=zH hz;clear h hal hz;have hmf: ∀ (fn:Fn) (first cap:Array Value) (w:World),(Instr.makeFunc fn first cap).run prog w=.ok (.func fn first cap) w:=fun _ _ _ _=>rfl
   go_enter Tryz.func15,Tryz.ntmps15;go_wp2_with fail;refine wp_loop_rounds 3 ?_;generalize w.alloc (.cells #[.slice (some ⟨g,off,none⟩) 2 c] 34)=w0 at*;have HNS:=zH (NS.nil w0);clear hfc hlk;rw[rounds_succ];go_wp2_with fail;go_at_call 31;rcases hn0:aC a with _|_
   ·refine(ju a l0 hn0 (H0.out.keep HNS.out.bl)).mono ?_
    rintro e wn ⟨rfl,hbn⟩;have HQ:=zH (HNS.out.keep hbn);clear hbn;go_wp2_with fail;go_ret2;exact cf (d:=⟨r,z⟩) (H0.out.keep HQ.out.bl) (ae HAL.out HQ.out.bl) dC (by simp[mF,hn0])
   refine(gj a l0 hn0 (H0.out.keep HNS.out.bl)).mono ?_;rintro e v0 ⟨rfl,hbn⟩;dsimp only;have HK0:=zH (HNS.out.keep hbn);clear hbn;have hrow:=HK0.out.own;have hsz:=HK0.out.bl.size
   go_wp2_with
    (at_builtin;refine wpList_append_own _ rfl _ _ 88 rfl w0.heap.size 3 i0 (.int .i64 0) 1 8 underlying88 hii hz0 hz1 hz2 rfl dC _ _ _ rfl (hrow.alloc _) ⟨v0.heap.size,0,none⟩ 1 1 [.int .i64 (ab a)] rfl rfl (cell_one_new _ _ _) (fun x hx=>by simp at hx;subst hx;rfl) (by unfold maxLen;simp) (by simp) (by simp;omega) ?_;intro y0 x0 hown hgrow hnil
     have HM0:=zH (HK0.out.app hown hgrow);clear hown hgrow hnil hrow hsz)
   have d1:=(HM0.out.bl.cell (p:=⟨g,off+1,none⟩) (World.block_lt_of_cell? _ _ D1.out)).trans D1.out;rw[rounds_succ];go_wp2_with fail;obtain⟨ng,nc,rfl,hng,hnc⟩:=HM0.out.cells (by simp);have n0:=hnc 0 (ab a) rfl;clear hnc;have d0:=(HM0.out.bl.cell (p:=⟨g,off,none⟩) (World.block_lt_of_cell? _ _ D0.out)).trans D0.out;have d1:=(HM0.out.bl.cell (p:=⟨g,off+1,none⟩) (World.block_lt_of_cell? _ _ D1.out)).trans D1.out;have HH:=zH (H0.out.keep HM0.out.bl);have HB:=zH (ae HAL.out HM0.out.bl);have HBX:=zH (HBX.out.below' HM0.out.bl);have HWB:=zH (HWB.out.below' HM0.out.bl);have hbx:=HBX.out.cell 0;have hh:=HH.out.at_.cell 0;obtain⟨s0,s1,s2,s3,s4,slt⟩:=HH.out.rv.five;rw[rounds_succ];have hy:mF ⟨r,z⟩ [a,b]=(⟨r,z⟩,ah (aQ (ab a) b),0):=by simp[mF,hn0]
   have HHd:=zH HH.out.drew;have HBd:=zH (au HB.out);have HD:(x0:World).drew.cell? ⟨ng,0,none⟩=some (.int .i64 (ab a))∧(x0:World).drew.cell? ⟨w.heap.size,0,none⟩=some (.slice (some ⟨g,off,none⟩) 2 c)∧(x0:World).drew.cell? ⟨g,off+1,none⟩=some (.string (ah b)):=⟨n0,hbx,d1⟩;have HHD:=zH HD;go_wp2_with fail
   go_region_held3 (fun w'=>w'.cell? ⟨ng,0,none⟩=some (.int .i64 (ab a))∧w'.cell? ⟨w.heap.size,0,none⟩=some (.slice (some ⟨g,off,none⟩) 2 c)∧w'.cell? ⟨g,off+1,none⟩=some (.string (ah b)))
    (first
     |with_reducible assumption
     |with_reducible exact HD)
    (first
     |(go_at_call 48;(with_reducible refine(Aa (ab a) (ah b) _ (by have:(ah b).size=b.length:=rfl;omega) HHd.out.rv.tab).mono ?_);rintro x' w8 ⟨rfl,hb8⟩
       have hs8:w8.cell? ⟨ng,0,none⟩=some (.int .i64 (ab a))∧w8.cell? ⟨w.heap.size,0,none⟩=some (.slice (some ⟨g,off,none⟩) 2 c)∧w8.cell? ⟨g,off+1,none⟩=some (.string (ah b)):=⟨aB HHD.out.1 hb8,aB HHD.out.2.1 hb8,aB HHD.out.2.2 hb8⟩))
   have HT:=zH (kB (w:=w) HHd.out HBd.out hb8);clear hb8 hs8;go_wp2_with fail;go_ret2
   try rw[hy]
   exact HT.out _ _ 0 (fun _=>by rw[ak];rfl)
  ·exact absurd hL (by simp)
 ·refine(cF h jp dC _ L.length (some ⟨g,off,none⟩) c rfl (fun F hF=>by cases (show some _=some F from hF);simpa using fun e=>hL e.symm)).mono ?_
  rintro e w' ⟨rfl,hb⟩;refine cf (d:=⟨r,z⟩) (h.keep hb) hb dC ?_;rcases L with _|⟨a,_|⟨b,_|⟨_,L⟩⟩⟩
  ·rfl
  ·rfl
  ·exact absurd rfl hL
  ·rfl
end
end Go.Proofs.YtepjcdjpikbbjaaGreatDoor
