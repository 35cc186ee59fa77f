/-
  The desk's commands: cut.
-/
import Derived.Test.YtepjcdjpikbbjaaGreatDoorU00
import Derived.Test.YtepjcdjpikbbjaaGreatDoorU33
set_option maxHeartbeats 16000000
set_option maxRecDepth 100000
namespace Go.Proofs.YtepjcdjpikbbjaaGreatDoor
open Go.Proofs.Tryz
open Go.RowKit Go.Sort
section
variable {W w:World} {xb vb sb db k:Nat} {r:Ru} {z:SS} {v:Value}
theorem EY (h:bP W xb vb sb db k r z v w) (hk:k<1000000) (g off c:Nat) (L:List (List UInt8)) (hw:eN w g off L) (hl: ∀ x∈L,x.length≤5000):
  Calls prog 62 #[.pointer (some ⟨xb,0,none⟩),.slice (some ⟨g,off,none⟩) L.length c] w (dh W w xb k (lp ⟨r,z⟩ L)):=by
 obtain⟨⟩:=gT hk hw hl
 by_cases hL:L.length=1
 ·rcases L with _|⟨a,_|⟨_,L⟩⟩
  ·exact absurd hL (by simp)
  ·clear hL
   have HWT:=zH hw;have d0:=hw.2 0 a rfl;have l0:=hl a (by simp);simp only[Nat.add_zero,List.length_cons,List.length_nil,Nat.zero_add]at*;clear hw hl;have H:=zH h;rcases hn:aC a with _|_
   ·have hcut:lp ⟨r,z⟩ [a]=bad ⟨r,z⟩ 3:=by show(if aC a=true then _ else _)=_;rw[hn];rfl
    rw[hcut];have HN:=zH (fun w (h:bP W xb vb sb db k r z v w)=>gE (ah a) w (by rw[av];omega) h.env.tens h.env.errs h.et h.elt (by rw[ak];exact hn));unfold cG at HN;obtain⟨c0,c1,c2,c3,c4,c5,c6,hlt⟩:=h.seven;clear hcut hn h hk;go_enter Tryz.func62,Tryz.ntmps62;go_wp2_with fail;go_at_call 17;refine(aY _ 1 c w).mono ?_;rintro e w0 ⟨rfl,rfl⟩;go_wp2_with fail;have HSD:bP W xb vb sb db k r z v w.drew∧w.drew.cell? ⟨g,off,none⟩=some (.string (ah a)):=⟨H.out.drew,d0⟩;have HBD:=zH (au (Below.refl w.heap.size w));clear c0 c1 c2 c3 c4 c5 c6 hlt d0;refine aR (fun w'=>bP W xb vb sb db k r z v w'∧w'.cell? ⟨g,off,none⟩=some (.string (ah a))) [8] kR ?_;refine aa 16 (i:=0) (v:= ?v0_1) rfl kR kR kR kR kR (fun _ _ _ h=>h) (by rfl) ?hy0_1 HSD ?rest0_1
    case hy0_1=>(intro w hSw;obtain⟨c0,c1,c2,c3,c4,c5,c6,hlt⟩:=bP.seven (And.left hSw);obtain⟨_,HD⟩:=hSw;go_simp;(try with_reducible rfl))
    simp only[Act.put];refine aa 16 (i:=1) (v:= ?v1_2) rfl kR kR kR kR kR (fun _ _ _ h=>h) (by rfl) ?hy1_2 HSD ?rest1_2
    case hy1_2=>(intro w hSw;obtain⟨c0,c1,c2,c3,c4,c5,c6,hlt⟩:=bP.seven (And.left hSw);obtain⟨_,HD⟩:=hSw;go_simp;(try with_reducible rfl))
    simp only[Act.put];refine aa 16 (i:=2) (v:= ?v2_3) rfl kR kR kR kR kR (fun _ _ _ h=>h) (by rfl) ?hy2_3 HSD ?rest2_3
    case hy2_3=>(intro w hSw;obtain⟨c0,c1,c2,c3,c4,c5,c6,hlt⟩:=bP.seven (And.left hSw);obtain⟨_,HD⟩:=hSw;go_simp;(try with_reducible rfl))
    simp only[Act.put];refine aa 16 (i:=3) (v:= ?v3_4) rfl kR kR kR kR kR (fun _ _ _ h=>h) (by rfl) ?hy3_4 HSD ?rest3_4
    case hy3_4=>(intro w hSw;obtain⟨c0,c1,c2,c3,c4,c5,c6,hlt⟩:=bP.seven (And.left hSw);obtain⟨_,HD⟩:=hSw;go_simp;(try with_reducible rfl))
    simp only[Act.put];refine aa 16 (i:=4) (v:= ?v4_5) rfl kR kR kR kR kR (fun _ _ _ h=>h) (by rfl) ?hy4_5 HSD ?rest4_5
    case hy4_5=>(intro w hSw;obtain⟨c0,c1,c2,c3,c4,c5,c6,hlt⟩:=bP.seven (And.left hSw);obtain⟨_,HD⟩:=hSw;go_simp;(try with_reducible rfl))
    simp only[Act.put];refine aa 16 (i:=5) (v:= ?v5_6) rfl kR kR kR kR kR (fun _ _ _ h=>h) (by rfl) ?hy5_6 HSD ?rest5_6
    case hy5_6=>(intro w hSw;obtain⟨c0,c1,c2,c3,c4,c5,c6,hlt⟩:=bP.seven (And.left hSw);obtain⟨_,HD⟩:=hSw;go_simp;(try with_reducible rfl))
    simp only[Act.put];refine aa 16 (i:=6) (v:= ?v6_7) rfl kR kR kR kR kR (fun _ _ _ h=>h) (by rfl) ?hy6_7 HSD ?rest6_7
    case hy6_7=>(intro w hSw;obtain⟨c0,c1,c2,c3,c4,c5,c6,hlt⟩:=bP.seven (And.left hSw);obtain⟨_,HD⟩:=hSw;go_simp;(try with_reducible rfl))
    simp only[Act.put];refine ai (i:=7) kR rfl ?_;intro K7 hK7;go_simp;go_at_call 18;refine(HN.out _ HSD.1).mono ?_;rintro x' w2 ⟨rfl,hb⟩;dsimp only;exact⟨rfl,H.out.thrown (ae HBD.out hb) dC⟩
   ·have hyes:lp ⟨r,z⟩ [a]=(⟨r,wK z (ab a)⟩,ah jQ,0):=by show(if aC a=true then _ else _)=_;rw[hn];rfl
    rw[hyes];have HN:=zH (fun w (h:bP W xb vb sb db k r z v w)=>eL (ah a) w (by rw[av];omega) h.env.tens (by rw[ak];exact hn));rw[ak]at HN;generalize ab a=n at*;obtain⟨c0,c1,c2,c3,c4,c5,c6,hlt⟩:=h.seven;have HC:=zH (fun w (h:bP W xb vb sb db k r z v w)=>CW h.sw.sx n);clear hyes hn h;go_enter Tryz.func62,Tryz.ntmps62;go_wp2_with fail;go_at_call 17;refine(aY _ 1 c w).mono ?_;rintro e w0 ⟨rfl,rfl⟩;go_wp2_with fail;have HSD:bP W xb vb sb db k r z v w.drew∧w.drew.cell? ⟨g,off,none⟩=some (.string (ah a)):=⟨H.out.drew,d0⟩;have HBD:=zH (au (Below.refl w.heap.size w));clear c0 c1 c2 c3 c4 c5 c6 hlt d0;refine aR (fun w'=>bP W xb vb sb db k r z v w'∧w'.cell? ⟨g,off,none⟩=some (.string (ah a))) [8] kR ?_;refine aa 16 (i:=0) (v:= ?v0_8) rfl kR kR kR kR kR (fun _ _ _ h=>h) (by rfl) ?hy0_8 HSD ?rest0_8
    case hy0_8=>(intro w hSw;obtain⟨c0,c1,c2,c3,c4,c5,c6,hlt⟩:=bP.seven (And.left hSw);obtain⟨_,HD⟩:=hSw;go_simp;(try with_reducible rfl))
    simp only[Act.put];refine aa 16 (i:=1) (v:= ?v1_9) rfl kR kR kR kR kR (fun _ _ _ h=>h) (by rfl) ?hy1_9 HSD ?rest1_9
    case hy1_9=>(intro w hSw;obtain⟨c0,c1,c2,c3,c4,c5,c6,hlt⟩:=bP.seven (And.left hSw);obtain⟨_,HD⟩:=hSw;go_simp;(try with_reducible rfl))
    simp only[Act.put];refine aa 16 (i:=2) (v:= ?v2_10) rfl kR kR kR kR kR (fun _ _ _ h=>h) (by rfl) ?hy2_10 HSD ?rest2_10
    case hy2_10=>(intro w hSw;obtain⟨c0,c1,c2,c3,c4,c5,c6,hlt⟩:=bP.seven (And.left hSw);obtain⟨_,HD⟩:=hSw;go_simp;(try with_reducible rfl))
    simp only[Act.put];refine aa 16 (i:=3) (v:= ?v3_11) rfl kR kR kR kR kR (fun _ _ _ h=>h) (by rfl) ?hy3_11 HSD ?rest3_11
    case hy3_11=>(intro w hSw;obtain⟨c0,c1,c2,c3,c4,c5,c6,hlt⟩:=bP.seven (And.left hSw);obtain⟨_,HD⟩:=hSw;go_simp;(try with_reducible rfl))
    simp only[Act.put];refine aa 16 (i:=4) (v:= ?v4_12) rfl kR kR kR kR kR (fun _ _ _ h=>h) (by rfl) ?hy4_12 HSD ?rest4_12
    case hy4_12=>(intro w hSw;obtain⟨c0,c1,c2,c3,c4,c5,c6,hlt⟩:=bP.seven (And.left hSw);obtain⟨_,HD⟩:=hSw;go_simp;(try with_reducible rfl))
    simp only[Act.put];refine aa 16 (i:=5) (v:= ?v5_13) rfl kR kR kR kR kR (fun _ _ _ h=>h) (by rfl) ?hy5_13 HSD ?rest5_13
    case hy5_13=>(intro w hSw;obtain⟨c0,c1,c2,c3,c4,c5,c6,hlt⟩:=bP.seven (And.left hSw);obtain⟨_,HD⟩:=hSw;go_simp;(try with_reducible rfl))
    simp only[Act.put];refine aa 16 (i:=6) (v:= ?v6_14) rfl kR kR kR kR kR (fun _ _ _ h=>h) (by rfl) ?hy6_14 HSD ?rest6_14
    case hy6_14=>(intro w hSw;obtain⟨c0,c1,c2,c3,c4,c5,c6,hlt⟩:=bP.seven (And.left hSw);obtain⟨_,HD⟩:=hSw;go_simp;(try with_reducible rfl))
    simp only[Act.put];refine ai (i:=7) kR rfl ?_;intro K7 hK7;go_simp;go_at_call 18;refine(HN.out _ HSD.1).mono ?_;rintro x' w2 ⟨rfl,hb⟩;dsimp only;have hs2:bP W xb vb sb db k r z v w2∧w2.cell? ⟨g,off,none⟩=some (.string (ah a)):=⟨HSD.1.keep hb,by rw[hb.cell (p:=⟨g,off,none⟩) (World.block_lt_of_cell? _ _ HSD.2)];exact HSD.2⟩;have HB2:=zH (ae HBD.out hb);refine hK7.out _ _ (fun _=>hs2) ?_
    try simp only[Act.put]
    clear HSD HBD hb;refine ai (i:=8) kR rfl ?_;intro K8 hK8;go_simp;go_at_call 119;refine(HC.out _ hs2.1).mono ?_;rintro x' w3 ⟨rfl,hs,hg⟩;have h3:=hs2.1.two (dH.of_two hg) (hs2.1.sw.two (dH.of_two hg) hs);have HE:=zH (show dh W w xb k (⟨r,wK z n⟩,ah jQ,0) (.returned (.string (ah jQ))) w3 from⟨.inl ⟨rfl,rfl⟩,⟨vb,sb,db,_,h3.1.later⟩,(bt.of_below HB2.out).trans h3.2⟩);clear hs hg h3 hs2 HB2
    try dsimp only
    refine hK8.out _ _ (fun h=>absurd h dC) ?_;refine aX kR ?_ _;go_wp2_with fail;go_ret;exact HE.out
  ·exact absurd hL (by simp)
 ·have hbad:lp ⟨r,z⟩ L=bad ⟨r,z⟩ 3:=by
   unfold lp;split
   ·exact absurd rfl hL
   ·rfl
  rw[hbad];have HM:=zH (cO (some ⟨g,off,none⟩) L.length c 1 w h.et (by simpa using(show(L.length:Int)≠1 by omega)));have H:=zH h;clear h hw hl hL hbad hk;unfold cG at HM;go_enter Tryz.func62,Tryz.ntmps62;go_wp2_with fail;go_at_call 17;refine HM.out.mono ?_;rintro e w0 ⟨rfl,hb⟩;dsimp only;exact⟨rfl,H.out.thrown hb dC⟩
end
section
variable {W w:World} {xb vb sb db k:Nat} {r:Ru} {z:SS} {v:Value}
theorem EL (h:bP W xb vb sb db k r z v w) (hk:k<1000000) (g off c:Nat) (L:List (List UInt8)) (hw:eN w g off L) (hl: ∀ x∈L,x.length≤5000):
  Calls prog 75 #[.pointer (some ⟨xb,0,none⟩),.slice (some ⟨g,off,none⟩) L.length c] w (dh W w xb k (mF ⟨r,z⟩ L)):=by
 obtain⟨⟩:=gT hk hw hl
 by_cases hL:L.length=2
 ·rcases L with _|⟨a,_|⟨b,_|⟨_,L⟩⟩⟩
  ·exact absurd hL (by simp)
  ·exact absurd hL (by simp)
  ·clear hL
   have HWT:=zH hw;have d0:=hw.2 0 a rfl;have d1:=hw.2 1 b rfl;have l0:=hl a (by simp);have l1:=hl b (by simp);simp only[Nat.add_zero,List.length_cons,List.length_nil,Nat.zero_add,Nat.reduceAdd]at*;clear hw hl;have H:=zH h;rcases hn:aC a with _|_
   ·have hcut:mF ⟨r,z⟩ [a,b]=bad ⟨r,z⟩ 3:=by show(if aC a=true then _ else _)=_;rw[hn];rfl
    rw[hcut];have HN:=zH (fun w (h:bP W xb vb sb db k r z v w)=>gE (ah a) w (by rw[av];omega) h.env.tens h.env.errs h.et h.elt (by rw[ak];exact hn));unfold cG at HN;clear hcut hn h hk;go_enter Tryz.func75,Tryz.ntmps75;go_wp2_with fail;go_at_call 17;refine(aY _ 2 c w).mono ?_;rintro e w0 ⟨rfl,rfl⟩;go_wp2_with fail;have HSD:bP W xb vb sb db k r z v w.drew∧w.drew.cell? ⟨g,off,none⟩=some (.string (ah a))∧w.drew.cell? ⟨g,off+1,none⟩=some (.string (ah b)):=⟨H.out.drew,d0,d1⟩;have HBD:=zH (au (Below.refl w.heap.size w));clear d0 d1;refine aR (fun w'=>bP W xb vb sb db k r z v w'∧w'.cell? ⟨g,off,none⟩=some (.string (ah a))∧w'.cell? ⟨g,off+1,none⟩=some (.string (ah b))) [7,8] kR ?_;refine aa 16 (i:=0) (v:= ?v0_43) rfl kR kR kR kR kR (fun _ _ _ h=>h) (by rfl) ?hy0_43 HSD ?rest0_43
    case hy0_43=>(intro w hSw;obtain⟨_,HD,HE⟩:=hSw;go_simp;(try with_reducible rfl))
    simp only[Act.put];refine aa 16 (i:=1) (v:= ?v1_44) rfl kR kR kR kR kR (fun _ _ _ h=>h) (by rfl) ?hy1_44 HSD ?rest1_44
    case hy1_44=>(intro w hSw;obtain⟨_,HD,HE⟩:=hSw;go_simp;(try with_reducible rfl))
    simp only[Act.put];refine aa 16 (i:=2) (v:= ?v2_45) rfl kR kR kR kR kR (fun _ _ _ h=>h) (by rfl) ?hy2_45 HSD ?rest2_45
    case hy2_45=>(intro w hSw;obtain⟨_,HD,HE⟩:=hSw;go_simp;(try with_reducible rfl))
    simp only[Act.put];refine aa 16 (i:=4) (v:= ?v4_46) rfl kR kR kR kR kR (fun _ _ _ h=>h) (by rfl) ?hy4_46 HSD ?rest4_46
    case hy4_46=>(intro w hSw;obtain⟨_,HD,HE⟩:=hSw;go_simp;(try with_reducible rfl))
    simp only[Act.put];refine aa 16 (i:=5) (v:= ?v5_47) rfl kR kR kR kR kR (fun _ _ _ h=>h) (by rfl) ?hy5_47 HSD ?rest5_47
    case hy5_47=>(intro w hSw;obtain⟨_,HD,HE⟩:=hSw;go_simp;(try with_reducible rfl))
    simp only[Act.put];refine aa 16 (i:=6) (v:= ?v6_48) rfl kR kR kR kR kR (fun _ _ _ h=>h) (by rfl) ?hy6_48 HSD ?rest6_48
    case hy6_48=>(intro w hSw;obtain⟨_,HD,HE⟩:=hSw;go_simp;(try with_reducible rfl))
    simp only[Act.put];refine ai (i:=3) kR rfl ?_;intro K7 hK7;go_simp;go_at_call 18;refine(HN.out _ HSD.1).mono ?_;rintro x' w2 ⟨rfl,hb⟩;dsimp only;exact⟨rfl,H.out.thrown (ae HBD.out hb) dC⟩
   ·have hyes:mF ⟨r,z⟩ [a,b]=(⟨r,z⟩,ah (aQ (ab a) b),0):=by show(if aC a=true then _ else _)=_;rw[hn];rfl
    rw[hyes];have HN:=zH (fun w (h:bP W xb vb sb db k r z v w)=>eL (ah a) w (by rw[av];omega) h.env.tens (by rw[ak];exact hn));rw[ak]at HN;generalize ab a=n at*;have HTG:=zH (fun w=>me n (ah b) w (by rw[av];omega));rw[ak]at HTG;have hgs:(⟨(aQ n b).toArray⟩:ByteArray)=ah (aQ n b):=rfl;rw[hgs]at HTG;clear hyes hn h hk hgs;generalize ah (aQ n b)=tg at*;go_enter Tryz.func75,Tryz.ntmps75;go_wp2_with fail;go_at_call 17;refine(aY _ 2 c w).mono ?_;rintro e w0 ⟨rfl,rfl⟩;go_wp2_with fail;have HSD:bP W xb vb sb db k r z v w.drew∧w.drew.cell? ⟨g,off,none⟩=some (.string (ah a))∧w.drew.cell? ⟨g,off+1,none⟩=some (.string (ah b)):=⟨H.out.drew,d0,d1⟩;have HBD:=zH (au (Below.refl w.heap.size w));clear d0 d1;refine aR (fun w'=>bP W xb vb sb db k r z v w'∧w'.cell? ⟨g,off,none⟩=some (.string (ah a))∧w'.cell? ⟨g,off+1,none⟩=some (.string (ah b))) [7,8] kR ?_;refine aa 16 (i:=0) (v:= ?v0_49) rfl kR kR kR kR kR (fun _ _ _ h=>h) (by rfl) ?hy0_49 HSD ?rest0_49
    case hy0_49=>(intro w hSw;obtain⟨_,HD,HE⟩:=hSw;go_simp;(try with_reducible rfl))
    simp only[Act.put];refine aa 16 (i:=1) (v:= ?v1_50) rfl kR kR kR kR kR (fun _ _ _ h=>h) (by rfl) ?hy1_50 HSD ?rest1_50
    case hy1_50=>(intro w hSw;obtain⟨_,HD,HE⟩:=hSw;go_simp;(try with_reducible rfl))
    simp only[Act.put];refine aa 16 (i:=2) (v:= ?v2_51) rfl kR kR kR kR kR (fun _ _ _ h=>h) (by rfl) ?hy2_51 HSD ?rest2_51
    case hy2_51=>(intro w hSw;obtain⟨_,HD,HE⟩:=hSw;go_simp;(try with_reducible rfl))
    simp only[Act.put];refine aa 16 (i:=4) (v:= ?v4_52) rfl kR kR kR kR kR (fun _ _ _ h=>h) (by rfl) ?hy4_52 HSD ?rest4_52
    case hy4_52=>(intro w hSw;obtain⟨_,HD,HE⟩:=hSw;go_simp;(try with_reducible rfl))
    simp only[Act.put];refine aa 16 (i:=5) (v:= ?v5_53) rfl kR kR kR kR kR (fun _ _ _ h=>h) (by rfl) ?hy5_53 HSD ?rest5_53
    case hy5_53=>(intro w hSw;obtain⟨_,HD,HE⟩:=hSw;go_simp;(try with_reducible rfl))
    simp only[Act.put];refine aa 16 (i:=6) (v:= ?v6_54) rfl kR kR kR kR kR (fun _ _ _ h=>h) (by rfl) ?hy6_54 HSD ?rest6_54
    case hy6_54=>(intro w hSw;obtain⟨_,HD,HE⟩:=hSw;go_simp;(try with_reducible rfl))
    simp only[Act.put];refine ai (i:=3) kR rfl ?_;intro K7 hK7;go_simp;go_at_call 18;refine(HN.out _ HSD.1).mono ?_;rintro x' w2 ⟨rfl,hb⟩;dsimp only;have hw2:=HWT.out.drew.keep hb;have hs2:bP W xb vb sb db k r z v w2∧w2.cell? ⟨g,off,none⟩=some (.string (ah a))∧w2.cell? ⟨g,off+1,none⟩=some (.string (ah b)):=⟨HSD.1.keep hb,hw2.two_⟩;have HB2:=zH (ae HBD.out hb);refine hK7.out _ _ (fun _=>hs2) ?_
    try simp only[Act.put]
    clear HSD HBD hb hw2;refine ai (i:=7) kR rfl ?_;intro K8 hK8;go_simp;go_at_call 107;refine(HTG.out _).mono ?_;rintro x' w3 ⟨rfl,hb⟩;have HB3:=zH (ae HB2.out hb);clear hb hs2 HB2
    try dsimp only
    refine hK8.out _ _ (fun h=>absurd h dC) ?_
    try simp only[Act.put]
    refine ai (i:=8) kR rfl ?_;intro K9 hK9;go_simp
    try dsimp only
    refine hK9.out _ _ (fun h=>absurd h dC) ?_;refine aX kR ?_ _;go_wp2_with fail;go_ret;exact H.out.told HB3.out tg
  ·exact absurd hL (by simp)
 ·have hbad:mF ⟨r,z⟩ L=bad ⟨r,z⟩ 3:=by
   unfold mF;split
   ·exact absurd rfl hL
   ·rfl
  rw[hbad];have HM:=zH (cO (some ⟨g,off,none⟩) L.length c 2 w h.et (by simpa using(show(L.length:Int)≠2 by omega)));have H:=zH h;clear h hw hl hL hbad hk;unfold cG at HM;go_enter Tryz.func75,Tryz.ntmps75;go_wp2_with fail;go_at_call 17;refine HM.out.mono ?_;rintro e w0 ⟨rfl,hb⟩;dsimp only;exact⟨rfl,H.out.thrown hb dC⟩
theorem Cj (h:bP W xb vb sb db k r z v w) (hk:k<1000000) (g off c:Nat) (L:List (List UInt8)) (hw:eN w g off L) (hl: ∀ x∈L,x.length≤5000):
  Calls prog 72 #[.pointer (some ⟨xb,0,none⟩),.slice (some ⟨g,off,none⟩) L.length c] w (dh W w xb k (jI ⟨r,z⟩ L)):=by
 obtain⟨⟩:=gT hk hw hl
 by_cases hL:L.length=0
 ·obtain rfl:L=[]:=List.eq_nil_of_length_eq_zero hL
  clear hL hw hl;simp only[List.length_nil];have H:=zH h;have HC:=zH (FH h.sw.sx hk);unfold qI at HC;have hD:jI ⟨r,z⟩ []=(⟨r,(df z).1⟩,ah gG,(df z).2):=rfl;rw[hD];clear hD;generalize df z=Q at*;obtain⟨z9,code⟩:=Q;dsimp only at HC ⊢;obtain⟨c0,c1,c2,c3,c4,c5,c6,hlt⟩:=h.seven;clear h hk
  by_cases hq:code=0
  ·subst hq
   rw[cH]at HC;go_enter Tryz.func72,Tryz.ntmps72;go_wp2_with fail;go_at_call 17;refine(aY _ 0 c w).mono ?_;rintro e w0 ⟨rfl,rfl⟩;go_wp2_with fail;go_at_call 132;refine HC.out.mono ?_;rintro x' w3 ⟨rfl,htw,v3,hs⟩;dsimp only;have h3:=H.out.two htw (H.out.sw.two htw hs);have HD3:=zH h3.1;have HST:=zH h3.2;clear htw hs h3 HC c0 c1 c2 c3 c4 c5 c6 hlt;go_wp2_with fail;go_at_call 20;refine(bR _).mono ?_;rintro x' w4 ⟨rfl,rfl⟩;go_wp2_with fail;go_ret;exact⟨.inl ⟨rfl,rfl⟩,⟨vb,sb,db,_,HD3.out⟩,HST.out⟩
  ·rw[aP hq]at HC
   have HQ0:=zH hq;clear hq;go_enter Tryz.func72,Tryz.ntmps72;go_wp2_with fail;go_at_call 17;refine(aY _ 0 c w).mono ?_;rintro e w0 ⟨rfl,rfl⟩;go_wp2_with fail;go_at_call 132;refine HC.out.mono ?_;rintro x' w3 ⟨rfl,htw,v3,hs⟩;dsimp only;have h3:=H.out.two htw (H.out.sw.two htw hs);have HD3:=zH h3.1;have HST:=zH h3.2;clear htw hs h3 HC c0 c1 c2 c3 c4 c5 c6 hlt;go_wp2_with fail;go_at_call 20;refine(cS code _ HD3.out.et).mono ?_;rintro x' w4 ⟨rfl,hb⟩;dsimp only;exact⟨rfl,.inr ⟨HQ0.out,rfl⟩,⟨vb,sb,db,_,(HD3.out.keep hb)⟩,HST.out.trans (bt.of_below hb)⟩
 ·have hbad:jI ⟨r,z⟩ L=bad ⟨r,z⟩ 3:=by
   unfold jI;split
   ·exact absurd rfl hL
   ·rfl
  rw[hbad];have HM:=zH (cO (some ⟨g,off,none⟩) L.length c 0 w h.et (by simpa using(show(L.length:Int)≠0 by omega)));have H:=zH h;clear h hw hl hL hbad hk;unfold cG at HM;go_enter Tryz.func72,Tryz.ntmps72;go_wp2_with fail;go_at_call 17;refine HM.out.mono ?_;rintro e w0 ⟨rfl,hb⟩;dsimp only;exact⟨rfl,H.out.thrown hb dC⟩
end
theorem nP (a:List UInt8) (n:Int) (hn:Lib.index [114,97] a=n) (w:World) (hm:dt w):Calls prog 58 #[.string ⟨#[114,97]⟩,.string (ah a)] w fun e w'=>e=.returned (.int .i64 n)∧w=w':=by
 obtain⟨m,hm⟩:=hm;refine(Tryz.strings_Index ⟨#[114,97]⟩ (ah a) m w dC hm).mono ?_;rintro e w' ⟨rfl,rfl⟩;rw[ak];exact⟨by rw[show(⟨#[114,97]⟩:ByteArray).data.toList=[114,97]from rfl,hn],rfl⟩
section
variable {W w:World} {xb vb sb db k:Nat} {r:Ru} {z:SS} {v:Value}
theorem zL (h:bP W xb vb sb db k r z v w) (hk:k<1000000) (g off c:Nat) (L:List (List UInt8)) (hw:eN w g off L) (hl: ∀ x∈L,x.length≤5000):
  Calls prog 77 #[.pointer (some ⟨xb,0,none⟩),.slice (some ⟨g,off,none⟩) L.length c] w (dh W w xb k (dT ⟨r,z⟩ L)):=by
 obtain⟨⟩:=gT hk hw hl
 by_cases hL:L.length=4
 ·rcases L with _|⟨a,_|⟨b,_|⟨c_,_|⟨e_,_|⟨_,L⟩⟩⟩⟩⟩
  ·exact absurd hL (by simp)
  ·exact absurd hL (by simp)
  ·exact absurd hL (by simp)
  ·exact absurd hL (by simp)
  ·clear hL
   have HWT:=zH hw;have d0:=hw.2 0 a rfl;have d1:=hw.2 1 b rfl;have d2:=hw.2 2 c_ rfl;have d3:=hw.2 3 e_ rfl;have l0:=hl a (by simp);have l1:=hl b (by simp);have l2:=hl c_ (by simp);have l3:=hl e_ (by simp);simp only[Nat.add_zero,List.length_cons,List.length_nil,Nat.zero_add,Nat.reduceAdd]at*;clear hw hl;have H:=zH h;have hD:dT ⟨r,z⟩ [a,b,c_,e_]=(if fL a≠0∧(aC b&&aC c_&&aC e_)=true then(if bN (fL a) (ab b) (ab c_) (ab e_)=true then(⟨r,z⟩,jT r.key (fL a) (ab b) (ab c_) (ab e_),0)else bad ⟨r,z⟩ 1)else bad ⟨r,z⟩ 3):=rfl;have HDD:=zH hD;clear hD;obtain⟨c0,c1,c2,c3,c4,c5,c6,hlt⟩:=h.seven;have HM:=zH (cS 3 w h.et);have hml:=h.env.maxl;clear h hk
   by_cases ha:a.length=1
   ·obtain⟨x,rfl⟩:=List.length_eq_one_iff.1 ha
    clear ha
    by_cases h1:x=114
    ·subst h1
     have hkn:fL [114]=1:=rfl;have hdd:=HDD.out;rw[hkn]at hdd;have HDK:=zH hdd;clear hdd HDD;have HIX:=zH (nP [114] 0 dC w hml);clear hml hkn;go_enter Tryz.func77,Tryz.ntmps77;go_wp2_with fail;go_at_call 17;refine(aY _ 4 c w).mono ?_;rintro e w0 ⟨rfl,rfl⟩;go_wp2_with fail;go_at_call 58;refine HIX.out.mono ?_;rintro x' w1 ⟨rfl,rfl⟩;dsimp only;go_wp2_with fail;have HSD:Below w.heap.size w w.drew:=au (Below.refl w.heap.size w);clear c0 c1 c2 c3 c4 c5 c6 hlt d0 d1 d2 d3;refine aR (fun w'=>Below w.heap.size w w') [] kR ?_;refine aa 16 (i:=0) (v:= ?v0_14) rfl kR kR kR kR kR (fun _ _ _ h=>h) (by rfl) ?hy0_14 HSD ?rest0_14
     case hy0_14=>(intro w hSw;go_simp;(try with_reducible rfl))
     simp only[Act.put];refine aa 16 (i:=1) (v:= ?v1_15) rfl kR kR kR kR kR (fun _ _ _ h=>h) (by rfl) ?hy1_15 HSD ?rest1_15
     case hy1_15=>(intro w hSw;go_simp;(try with_reducible rfl))
     simp only[Act.put];refine aa 16 (i:=2) (v:= ?v2_16) rfl kR kR kR kR kR (fun _ _ _ h=>h) (by rfl) ?hy2_16 HSD ?rest2_16
     case hy2_16=>(intro w hSw;go_simp;(try with_reducible rfl))
     simp only[Act.put];refine aa 16 (i:=3) (v:= ?v3_17) rfl kR kR kR kR kR (fun _ _ _ h=>h) (by rfl) ?hy3_17 HSD ?rest3_17
     case hy3_17=>(intro w hSw;go_simp;(try with_reducible rfl))
     simp only[Act.put];refine aa 16 (i:=4) (v:= ?v4_18) rfl kR kR kR kR kR (fun _ _ _ h=>h) (by rfl) ?hy4_18 HSD ?rest4_18
     case hy4_18=>(intro w hSw;have c3:=(bP.seven (H.out.keep hSw)).2.2.2.1;go_simp;(try with_reducible rfl))
     simp only[Act.put];refine aa 16 (i:=5) (v:= ?v5_19) rfl kR kR kR kR kR (fun _ _ _ h=>h) (by rfl) ?hy5_19 HSD ?rest5_19
     case hy5_19=>(intro w hSw;go_simp;(try with_reducible rfl))
     simp only[Act.put];refine aa 16 (i:=6) (v:= ?v6_20) rfl kR kR kR kR kR (fun _ _ _ h=>h) (by rfl) ?hy6_20 HSD ?rest6_20
     case hy6_20=>(intro w hSw;go_simp;(try with_reducible rfl))
     simp only[Act.put];refine aa 16 (i:=7) (v:= ?v7_21) rfl kR kR kR kR kR (fun _ _ _ h=>h) (by rfl) ?hy7_21 HSD ?rest7_21
     case hy7_21=>(intro w hSw;go_simp;(try with_reducible rfl))
     simp only[Act.put];refine aa 16 (i:=8) (v:= ?v8_22) rfl kR kR kR kR kR (fun _ _ _ h=>h) (by rfl) ?hy8_22 HSD ?rest8_22
     case hy8_22=>(intro w hSw;have d1:=(eN.four (HWT.out.keep hSw)).2.1;go_simp;(try with_reducible rfl))
     simp only[Act.put];refine aa 16 (i:=10) (v:= ?v10_23) rfl kR kR kR kR kR (fun _ _ _ h=>h) (by rfl) ?hy10_23 HSD ?rest10_23
     case hy10_23=>(intro w hSw;go_simp;(try with_reducible rfl))
     simp only[Act.put];refine aa 16 (i:=11) (v:= ?v11_24) rfl kR kR kR kR kR (fun _ _ _ h=>h) (by rfl) ?hy11_24 HSD ?rest11_24
     case hy11_24=>(intro w hSw;go_simp;(try with_reducible rfl))
     simp only[Act.put];refine aa 16 (i:=12) (v:= ?v12_25) rfl kR kR kR kR kR (fun _ _ _ h=>h) (by rfl) ?hy12_25 HSD ?rest12_25
     case hy12_25=>(intro w hSw;have d2:=(eN.four (HWT.out.keep hSw)).2.2.1;go_simp;(try with_reducible rfl))
     simp only[Act.put];refine aa 16 (i:=14) (v:= ?v14_26) rfl kR kR kR kR kR (fun _ _ _ h=>h) (by rfl) ?hy14_26 HSD ?rest14_26
     case hy14_26=>(intro w hSw;go_simp;(try with_reducible rfl))
     simp only[Act.put];refine aa 16 (i:=15) (v:= ?v15_27) rfl kR kR kR kR kR (fun _ _ _ h=>h) (by rfl) ?hy15_27 HSD ?rest15_27
     case hy15_27=>(intro w hSw;go_simp;(try with_reducible rfl))
     simp only[Act.put];refine aa 16 (i:=16) (v:= ?v16_28) rfl kR kR kR kR kR (fun _ _ _ h=>h) (by rfl) ?hy16_28 HSD ?rest16_28
     case hy16_28=>(intro w hSw;have d3:=(eN.four (HWT.out.keep hSw)).2.2.2;go_simp;(try with_reducible rfl))
     simp only[Act.put];refine ai (i:=9) kR rfl ?_;intro K9 hK9;go_simp;go_at_call 18;rcases hn1:aC b with _|_
     ·refine(gE (ah b) _ (by rw[av];omega) (H.out.keep HSD).env.tens (H.out.keep HSD).env.errs (H.out.keep HSD).et (H.out.keep HSD).elt (by rw[ak];exact hn1)).mono ?_
      rintro x' w2 ⟨rfl,hb⟩;dsimp only;have hno: ¬ ((1:Int)≠0∧(aC b&&aC c_&&aC e_)=true):=by simp[hn1]
      rw[HDK.out,if_neg hno];exact⟨rfl,H.out.thrown (ae HSD hb) dC⟩
     have hy1:=eL (ah b) _ (by rw[av];omega) (H.out.keep HSD).env.tens (by rw[ak];exact hn1);rw[ak]at hy1;refine hy1.mono ?_;rintro x' w3 ⟨rfl,hb1⟩;dsimp only;have hB1:=ae HSD hb1;clear hy1;refine hK9.out _ _ (fun _=>hB1) ?_
     try simp only[Act.put]
     refine ai (i:=13) kR rfl ?_;intro K13 hK13;go_simp;go_at_call 18;rcases hn2:aC c_ with _|_
     ·refine(gE (ah c_) _ (by rw[av];omega) (H.out.keep hB1).env.tens (H.out.keep hB1).env.errs (H.out.keep hB1).et (H.out.keep hB1).elt (by rw[ak];exact hn2)).mono ?_
      rintro x' w2 ⟨rfl,hb⟩;dsimp only;have hno: ¬ ((1:Int)≠0∧(aC b&&aC c_&&aC e_)=true):=by simp[hn2]
      rw[HDK.out,if_neg hno];exact⟨rfl,H.out.thrown (ae hB1 hb) dC⟩
     have hy2:=eL (ah c_) _ (by rw[av];omega) (H.out.keep hB1).env.tens (by rw[ak];exact hn2);rw[ak]at hy2;refine hy2.mono ?_;rintro x' w4 ⟨rfl,hb2⟩;dsimp only;have hB2:=ae hB1 hb2;clear hy2;refine hK13.out _ _ (fun _=>hB2) ?_
     try simp only[Act.put]
     refine ai (i:=17) kR rfl ?_;intro K17 hK17;go_simp;go_at_call 18;rcases hn3:aC e_ with _|_
     ·refine(gE (ah e_) _ (by rw[av];omega) (H.out.keep hB2).env.tens (H.out.keep hB2).env.errs (H.out.keep hB2).et (H.out.keep hB2).elt (by rw[ak];exact hn3)).mono ?_
      rintro x' w2 ⟨rfl,hb⟩;dsimp only;have hno: ¬ ((1:Int)≠0∧(aC b&&aC c_&&aC e_)=true):=by simp[hn3]
      rw[HDK.out,if_neg hno];exact⟨rfl,H.out.thrown (ae hB2 hb) dC⟩
     have hy3:=eL (ah e_) _ (by rw[av];omega) (H.out.keep hB2).env.tens (by rw[ak];exact hn3);rw[ak]at hy3;refine hy3.mono ?_;rintro x' w5 ⟨rfl,hb3⟩;dsimp only;have hB3:=ae hB2 hb3;clear hy3;refine hK17.out _ _ (fun _=>hB3) ?_
     try simp only[Act.put]
     refine aa 16 (i:=18) (v:= ?v18_29) rfl kR kR kR kR kR (fun _ _ _ h=>h) (by rfl) ?hy18_29 hB3 ?rest18_29
     case hy18_29=>(intro w hSw;go_simp;(try with_reducible rfl))
     simp only[Act.put];have hyes:(1:Int)≠0∧(aC b&&aC c_&&aC e_)=true:=⟨by decide,by rw[hn1,hn2,hn3];rfl⟩;have HY:=zH hyes;clear hyes;rcases hr:bN 1 (ab b) (ab c_) (ab e_)with _|_
     ·have HR:=zH hr
      have HTW:=zH (lJ r.key 1 (ab b) (ab c_) (ab e_) w5 hr);clear hr;unfold v4 at HTW;rw[aP (show(1:Int)≠0 by decide)]at HTW;refine ai (i:=19) kR rfl ?_;intro K19 hK19;go_simp;go_at_call 136;refine HTW.out.mono ?_;rintro x' w7 ⟨rfl,hb7⟩;dsimp only;have hB7:=ae hB3 hb7;have HB7:=zH hB7;refine hK19.out _ _ (fun _=>hB7) ?_
      try simp only[Act.put]
      refine aa 16 (i:=20) (v:= ?v20_30) rfl kR kR kR kR kR (fun _ _ _ h=>h) (by rfl) ?hy20_30 hB7 ?rest20_30
      case hy20_30=>(intro w hSw;go_simp;(try with_reducible rfl))
      simp only[Act.put];refine aa 16 (i:=21) (v:= ?v21_31) rfl kR kR kR kR kR (fun _ _ _ h=>h) (by rfl) ?hy21_31 hB7 ?rest21_31
      case hy21_31=>(intro w hSw;go_simp;(try with_reducible rfl))
      simp only[Act.put];refine aa 16 (i:=22) (v:= ?v22_32) rfl kR kR kR kR kR (fun _ _ _ h=>h) (by rfl) ?hy22_32 hB7 ?rest22_32
      case hy22_32=>(intro w hSw;go_simp;(try with_reducible rfl))
      simp only[Act.put];refine aa 16 (i:=23) (v:= ?v23_33) rfl kR kR kR kR kR (fun _ _ _ h=>h) (by rfl) ?hy23_33 hB7 ?rest23_33
      case hy23_33=>(intro w hSw;go_simp;(try with_reducible rfl))
      simp only[Act.put];refine aa 16 (i:=24) (v:= ?v24_34) rfl kR kR kR kR kR (fun _ _ _ h=>h) (by rfl) ?hy24_34 hB7 ?rest24_34
      case hy24_34=>(intro w hSw;go_simp;(try with_reducible rfl))
      simp only[Act.put];refine aX kR ?_ _;clear hB7 hb7 HTW;go_wp2_with fail;go_at_call 20;refine(cS 1 _ (H.out.keep HB7.out).et).mono ?_;rintro x' w8 ⟨rfl,hb⟩;dsimp only;rw[HDK.out,if_pos HY.out,if_neg (by rw[HR.out];decide)];exact⟨rfl,H.out.thrown (ae HB7.out hb) dC⟩
     ·have HR:=zH hr
      have HTW:=zH (fp r.key 1 (ab b) (ab c_) (ab e_) w5 (H.out.keep hB3).env.tens hr);clear hr;unfold v4 at HTW;refine ai (i:=19) kR rfl ?_;intro K19 hK19;go_simp;go_at_call 136;refine HTW.out.mono ?_;rintro x' w7 ⟨rfl,hb7⟩;dsimp only;have hB7:=ae hB3 hb7;have HB7:=zH hB7;refine hK19.out _ _ (fun _=>hB7) ?_
      try simp only[Act.put]
      refine aa 16 (i:=20) (v:= ?v20_35) rfl kR kR kR kR kR (fun _ _ _ h=>h) (by rfl) ?hy20_35 hB7 ?rest20_35
      case hy20_35=>(intro w hSw;go_simp;(try with_reducible rfl))
      simp only[Act.put];refine aa 16 (i:=21) (v:= ?v21_36) rfl kR kR kR kR kR (fun _ _ _ h=>h) (by rfl) ?hy21_36 hB7 ?rest21_36
      case hy21_36=>(intro w hSw;go_simp;(try with_reducible rfl))
      simp only[Act.put];refine aa 16 (i:=22) (v:= ?v22_37) rfl kR kR kR kR kR (fun _ _ _ h=>h) (by rfl) ?hy22_37 hB7 ?rest22_37
      case hy22_37=>(intro w hSw;go_simp;(try with_reducible rfl))
      simp only[Act.put];refine aa 16 (i:=23) (v:= ?v23_38) rfl kR kR kR kR kR (fun _ _ _ h=>h) (by rfl) ?hy23_38 hB7 ?rest23_38
      case hy23_38=>(intro w hSw;go_simp;(try with_reducible rfl))
      simp only[Act.put];refine aa 16 (i:=24) (v:= ?v24_39) rfl kR kR kR kR kR (fun _ _ _ h=>h) (by rfl) ?hy24_39 hB7 ?rest24_39
      case hy24_39=>(intro w hSw;go_simp;(try with_reducible rfl))
      simp only[Act.put];refine aX kR ?_ _;clear hB7 hb7 HTW;go_wp2_with fail;go_at_call 20;refine(bR _).mono ?_;rintro x' w8 ⟨rfl,rfl⟩;dsimp only;go_wp2_with fail;go_ret;rw[HDK.out,if_pos HY.out,if_pos HR.out];exact H.out.told HB7.out _
    ·by_cases h2:x=97
     ·subst h2
      have hkn:fL [97]=2:=rfl;have hdd:=HDD.out;rw[hkn]at hdd;have HDK:=zH hdd;clear hdd HDD;have HIX:=zH (nP [97] 1 dC w hml);clear hml hkn;go_enter Tryz.func77,Tryz.ntmps77;go_wp2_with fail;go_at_call 17;refine(aY _ 4 c w).mono ?_;rintro e w0 ⟨rfl,rfl⟩;go_wp2_with fail;go_at_call 58;refine HIX.out.mono ?_;rintro x' w1 ⟨rfl,rfl⟩;dsimp only;go_wp2_with fail;have HSD:Below w.heap.size w w.drew:=au (Below.refl w.heap.size w);clear c0 c1 c2 c3 c4 c5 c6 hlt d0 d1 d2 d3;refine aR (fun w'=>Below w.heap.size w w') [] kR ?_;refine aa 16 (i:=0) (v:= ?v0_40) rfl kR kR kR kR kR (fun _ _ _ h=>h) (by rfl) ?hy0_40 HSD ?rest0_40
      case hy0_40=>(intro w hSw;go_simp;(try with_reducible rfl))
      simp only[Act.put];refine aa 16 (i:=1) (v:= ?v1_41) rfl kR kR kR kR kR (fun _ _ _ h=>h) (by rfl) ?hy1_41 HSD ?rest1_41
      case hy1_41=>(intro w hSw;go_simp;(try with_reducible rfl))
      simp only[Act.put];refine aa 16 (i:=2) (v:= ?v2_42) rfl kR kR kR kR kR (fun _ _ _ h=>h) (by rfl) ?hy2_42 HSD ?rest2_42
      case hy2_42=>(intro w hSw;go_simp;(try with_reducible rfl))
      simp only[Act.put];refine aa 16 (i:=3) (v:= ?v3_43) rfl kR kR kR kR kR (fun _ _ _ h=>h) (by rfl) ?hy3_43 HSD ?rest3_43
      case hy3_43=>(intro w hSw;go_simp;(try with_reducible rfl))
      simp only[Act.put];refine aa 16 (i:=4) (v:= ?v4_44) rfl kR kR kR kR kR (fun _ _ _ h=>h) (by rfl) ?hy4_44 HSD ?rest4_44
      case hy4_44=>(intro w hSw;have c3:=(bP.seven (H.out.keep hSw)).2.2.2.1;go_simp;(try with_reducible rfl))
      simp only[Act.put];refine aa 16 (i:=5) (v:= ?v5_45) rfl kR kR kR kR kR (fun _ _ _ h=>h) (by rfl) ?hy5_45 HSD ?rest5_45
      case hy5_45=>(intro w hSw;go_simp;(try with_reducible rfl))
      simp only[Act.put];refine aa 16 (i:=6) (v:= ?v6_46) rfl kR kR kR kR kR (fun _ _ _ h=>h) (by rfl) ?hy6_46 HSD ?rest6_46
      case hy6_46=>(intro w hSw;go_simp;(try with_reducible rfl))
      simp only[Act.put];refine aa 16 (i:=7) (v:= ?v7_47) rfl kR kR kR kR kR (fun _ _ _ h=>h) (by rfl) ?hy7_47 HSD ?rest7_47
      case hy7_47=>(intro w hSw;go_simp;(try with_reducible rfl))
      simp only[Act.put];refine aa 16 (i:=8) (v:= ?v8_48) rfl kR kR kR kR kR (fun _ _ _ h=>h) (by rfl) ?hy8_48 HSD ?rest8_48
      case hy8_48=>(intro w hSw;have d1:=(eN.four (HWT.out.keep hSw)).2.1;go_simp;(try with_reducible rfl))
      simp only[Act.put];refine aa 16 (i:=10) (v:= ?v10_49) rfl kR kR kR kR kR (fun _ _ _ h=>h) (by rfl) ?hy10_49 HSD ?rest10_49
      case hy10_49=>(intro w hSw;go_simp;(try with_reducible rfl))
      simp only[Act.put];refine aa 16 (i:=11) (v:= ?v11_50) rfl kR kR kR kR kR (fun _ _ _ h=>h) (by rfl) ?hy11_50 HSD ?rest11_50
      case hy11_50=>(intro w hSw;go_simp;(try with_reducible rfl))
      simp only[Act.put];refine aa 16 (i:=12) (v:= ?v12_51) rfl kR kR kR kR kR (fun _ _ _ h=>h) (by rfl) ?hy12_51 HSD ?rest12_51
      case hy12_51=>(intro w hSw;have d2:=(eN.four (HWT.out.keep hSw)).2.2.1;go_simp;(try with_reducible rfl))
      simp only[Act.put];refine aa 16 (i:=14) (v:= ?v14_52) rfl kR kR kR kR kR (fun _ _ _ h=>h) (by rfl) ?hy14_52 HSD ?rest14_52
      case hy14_52=>(intro w hSw;go_simp;(try with_reducible rfl))
      simp only[Act.put];refine aa 16 (i:=15) (v:= ?v15_53) rfl kR kR kR kR kR (fun _ _ _ h=>h) (by rfl) ?hy15_53 HSD ?rest15_53
      case hy15_53=>(intro w hSw;go_simp;(try with_reducible rfl))
      simp only[Act.put];refine aa 16 (i:=16) (v:= ?v16_54) rfl kR kR kR kR kR (fun _ _ _ h=>h) (by rfl) ?hy16_54 HSD ?rest16_54
      case hy16_54=>(intro w hSw;have d3:=(eN.four (HWT.out.keep hSw)).2.2.2;go_simp;(try with_reducible rfl))
      simp only[Act.put];refine ai (i:=9) kR rfl ?_;intro K9 hK9;go_simp;go_at_call 18;rcases hn1:aC b with _|_
      ·refine(gE (ah b) _ (by rw[av];omega) (H.out.keep HSD).env.tens (H.out.keep HSD).env.errs (H.out.keep HSD).et (H.out.keep HSD).elt (by rw[ak];exact hn1)).mono ?_
       rintro x' w2 ⟨rfl,hb⟩;dsimp only;have hno: ¬ ((2:Int)≠0∧(aC b&&aC c_&&aC e_)=true):=by simp[hn1]
       rw[HDK.out,if_neg hno];exact⟨rfl,H.out.thrown (ae HSD hb) dC⟩
      have hy1:=eL (ah b) _ (by rw[av];omega) (H.out.keep HSD).env.tens (by rw[ak];exact hn1);rw[ak]at hy1;refine hy1.mono ?_;rintro x' w3 ⟨rfl,hb1⟩;dsimp only;have hB1:=ae HSD hb1;clear hy1;refine hK9.out _ _ (fun _=>hB1) ?_
      try simp only[Act.put]
      refine ai (i:=13) kR rfl ?_;intro K13 hK13;go_simp;go_at_call 18;rcases hn2:aC c_ with _|_
      ·refine(gE (ah c_) _ (by rw[av];omega) (H.out.keep hB1).env.tens (H.out.keep hB1).env.errs (H.out.keep hB1).et (H.out.keep hB1).elt (by rw[ak];exact hn2)).mono ?_
       rintro x' w2 ⟨rfl,hb⟩;dsimp only;have hno: ¬ ((2:Int)≠0∧(aC b&&aC c_&&aC e_)=true):=by simp[hn2]
       rw[HDK.out,if_neg hno];exact⟨rfl,H.out.thrown (ae hB1 hb) dC⟩
      have hy2:=eL (ah c_) _ (by rw[av];omega) (H.out.keep hB1).env.tens (by rw[ak];exact hn2);rw[ak]at hy2;refine hy2.mono ?_;rintro x' w4 ⟨rfl,hb2⟩;dsimp only;have hB2:=ae hB1 hb2;clear hy2;refine hK13.out _ _ (fun _=>hB2) ?_
      try simp only[Act.put]
      refine ai (i:=17) kR rfl ?_;intro K17 hK17;go_simp;go_at_call 18;rcases hn3:aC e_ with _|_
      ·refine(gE (ah e_) _ (by rw[av];omega) (H.out.keep hB2).env.tens (H.out.keep hB2).env.errs (H.out.keep hB2).et (H.out.keep hB2).elt (by rw[ak];exact hn3)).mono ?_
       rintro x' w2 ⟨rfl,hb⟩;dsimp only;have hno: ¬ ((2:Int)≠0∧(aC b&&aC c_&&aC e_)=true):=by simp[hn3]
       rw[HDK.out,if_neg hno];exact⟨rfl,H.out.thrown (ae hB2 hb) dC⟩
      have hy3:=eL (ah e_) _ (by rw[av];omega) (H.out.keep hB2).env.tens (by rw[ak];exact hn3);rw[ak]at hy3;refine hy3.mono ?_;rintro x' w5 ⟨rfl,hb3⟩;dsimp only;have hB3:=ae hB2 hb3;clear hy3;refine hK17.out _ _ (fun _=>hB3) ?_
      try simp only[Act.put]
      refine aa 16 (i:=18) (v:= ?v18_55) rfl kR kR kR kR kR (fun _ _ _ h=>h) (by rfl) ?hy18_55 hB3 ?rest18_55
      case hy18_55=>(intro w hSw;go_simp;(try with_reducible rfl))
      simp only[Act.put];have hyes:(2:Int)≠0∧(aC b&&aC c_&&aC e_)=true:=⟨by decide,by rw[hn1,hn2,hn3];rfl⟩;have HY:=zH hyes;clear hyes;rcases hr:bN 2 (ab b) (ab c_) (ab e_)with _|_
      ·have HR:=zH hr
       have HTW:=zH (lJ r.key 2 (ab b) (ab c_) (ab e_) w5 hr);clear hr;unfold v4 at HTW;rw[aP (show(1:Int)≠0 by decide)]at HTW;refine ai (i:=19) kR rfl ?_;intro K19 hK19;go_simp;go_at_call 136;refine HTW.out.mono ?_;rintro x' w7 ⟨rfl,hb7⟩;dsimp only;have hB7:=ae hB3 hb7;have HB7:=zH hB7;refine hK19.out _ _ (fun _=>hB7) ?_
       try simp only[Act.put]
       refine aa 16 (i:=20) (v:= ?v20_56) rfl kR kR kR kR kR (fun _ _ _ h=>h) (by rfl) ?hy20_56 hB7 ?rest20_56
       case hy20_56=>(intro w hSw;go_simp;(try with_reducible rfl))
       simp only[Act.put];refine aa 16 (i:=21) (v:= ?v21_57) rfl kR kR kR kR kR (fun _ _ _ h=>h) (by rfl) ?hy21_57 hB7 ?rest21_57
       case hy21_57=>(intro w hSw;go_simp;(try with_reducible rfl))
       simp only[Act.put];refine aa 16 (i:=22) (v:= ?v22_58) rfl kR kR kR kR kR (fun _ _ _ h=>h) (by rfl) ?hy22_58 hB7 ?rest22_58
       case hy22_58=>(intro w hSw;go_simp;(try with_reducible rfl))
       simp only[Act.put];refine aa 16 (i:=23) (v:= ?v23_59) rfl kR kR kR kR kR (fun _ _ _ h=>h) (by rfl) ?hy23_59 hB7 ?rest23_59
       case hy23_59=>(intro w hSw;go_simp;(try with_reducible rfl))
       simp only[Act.put];refine aa 16 (i:=24) (v:= ?v24_60) rfl kR kR kR kR kR (fun _ _ _ h=>h) (by rfl) ?hy24_60 hB7 ?rest24_60
       case hy24_60=>(intro w hSw;go_simp;(try with_reducible rfl))
       simp only[Act.put];refine aX kR ?_ _;clear hB7 hb7 HTW;go_wp2_with fail;go_at_call 20;refine(cS 1 _ (H.out.keep HB7.out).et).mono ?_;rintro x' w8 ⟨rfl,hb⟩;dsimp only;rw[HDK.out,if_pos HY.out,if_neg (by rw[HR.out];decide)];exact⟨rfl,H.out.thrown (ae HB7.out hb) dC⟩
      ·have HR:=zH hr
       have HTW:=zH (fp r.key 2 (ab b) (ab c_) (ab e_) w5 (H.out.keep hB3).env.tens hr);clear hr;unfold v4 at HTW;refine ai (i:=19) kR rfl ?_;intro K19 hK19;go_simp;go_at_call 136;refine HTW.out.mono ?_;rintro x' w7 ⟨rfl,hb7⟩;dsimp only;have hB7:=ae hB3 hb7;have HB7:=zH hB7;refine hK19.out _ _ (fun _=>hB7) ?_
       try simp only[Act.put]
       refine aa 16 (i:=20) (v:= ?v20_61) rfl kR kR kR kR kR (fun _ _ _ h=>h) (by rfl) ?hy20_61 hB7 ?rest20_61
       case hy20_61=>(intro w hSw;go_simp;(try with_reducible rfl))
       simp only[Act.put];refine aa 16 (i:=21) (v:= ?v21_62) rfl kR kR kR kR kR (fun _ _ _ h=>h) (by rfl) ?hy21_62 hB7 ?rest21_62
       case hy21_62=>(intro w hSw;go_simp;(try with_reducible rfl))
       simp only[Act.put];refine aa 16 (i:=22) (v:= ?v22_63) rfl kR kR kR kR kR (fun _ _ _ h=>h) (by rfl) ?hy22_63 hB7 ?rest22_63
       case hy22_63=>(intro w hSw;go_simp;(try with_reducible rfl))
       simp only[Act.put];refine aa 16 (i:=23) (v:= ?v23_64) rfl kR kR kR kR kR (fun _ _ _ h=>h) (by rfl) ?hy23_64 hB7 ?rest23_64
       case hy23_64=>(intro w hSw;go_simp;(try with_reducible rfl))
       simp only[Act.put];refine aa 16 (i:=24) (v:= ?v24_65) rfl kR kR kR kR kR (fun _ _ _ h=>h) (by rfl) ?hy24_65 hB7 ?rest24_65
       case hy24_65=>(intro w hSw;go_simp;(try with_reducible rfl))
       simp only[Act.put];refine aX kR ?_ _;clear hB7 hb7 HTW;go_wp2_with fail;go_at_call 20;refine(bR _).mono ?_;rintro x' w8 ⟨rfl,rfl⟩;dsimp only;go_wp2_with fail;go_ret;rw[HDK.out,if_pos HY.out,if_pos HR.out];exact H.out.told HB7.out _
     ·have hkn:fL [x]=0:=by unfold fL;rw[if_neg (by simpa using h1),if_neg (by simpa using h2)]
      have hno: ¬ (fL [x]≠0∧(aC b&&aC c_&&aC e_)=true):=by simp[hkn]
      have hdd:=HDD.out;rw[if_neg hno]at hdd;rw[hdd];clear hdd HDD;have HIX:=zH (nP [x] (-1) (by simp[Lib.index,List.isPrefixOf,h1,h2]) w hml);clear hml hkn hno h1 h2;go_enter Tryz.func77,Tryz.ntmps77;go_wp2_with fail;go_at_call 17;refine(aY _ 4 c w).mono ?_;rintro e w0 ⟨rfl,rfl⟩;go_wp2_with fail;go_at_call 58;refine HIX.out.mono ?_;rintro x' w1 ⟨rfl,rfl⟩;dsimp only;go_wp2_with fail;go_at_call 20;refine HM.out.mono ?_;rintro x' w2 ⟨rfl,hb⟩;dsimp only;exact⟨rfl,H.out.thrown hb dC⟩
   ·have hkn:fL a=0:=by unfold fL;rw[if_neg (by rintro rfl;exact ha rfl),if_neg (by rintro rfl;exact ha rfl)]
    have hno: ¬ (fL a≠0∧(aC b&&aC c_&&aC e_)=true):=by simp[hkn]
    have hdd:=HDD.out;rw[if_neg hno]at hdd;rw[hdd];clear hdd HDD;have HIX:=zH (nP a _ rfl w hml);have hsz:((ah a).size:Int)≠1:=by rw[av];omega
    have hd1:(((ah a).size:Int) != 1)=true:=by simpa using hsz
    clear hml hkn hno ha hsz;go_enter Tryz.func77,Tryz.ntmps77;go_wp2_with fail;go_at_call 17;refine(aY _ 4 c w).mono ?_;rintro e w0 ⟨rfl,rfl⟩;go_wp2_with fail;go_at_call 58;refine HIX.out.mono ?_;rintro x' w1 ⟨rfl,rfl⟩;dsimp only;go_wp2_with fail;go_at_call 20;refine HM.out.mono ?_;rintro x' w2 ⟨rfl,hb⟩;dsimp only;exact⟨rfl,H.out.thrown hb dC⟩
  ·exact absurd hL (by simp)
 ·have hbad:dT ⟨r,z⟩ L=bad ⟨r,z⟩ 3:=by
   unfold dT;split
   ·exact absurd rfl hL
   ·rfl
  rw[hbad];have HM:=zH (cO (some ⟨g,off,none⟩) L.length c 4 w h.et (by simpa using(show(L.length:Int)≠4 by omega)));have H:=zH h;clear h hw hl hL hbad hk;unfold cG at HM;go_enter Tryz.func77,Tryz.ntmps77;go_wp2_with fail;go_at_call 17;refine HM.out.mono ?_;rintro e w0 ⟨rfl,hb⟩;dsimp only;exact⟨rfl,H.out.thrown hb dC⟩
end
end Go.Proofs.YtepjcdjpikbbjaaGreatDoor
