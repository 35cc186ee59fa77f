/-
  The desk's commands: tick, mint.
-/
import Derived.Test.YtepjcdjpikbbjaaGreatDoorU00
import Derived.Test.YtepjcdjpikbbjaaGreatDoorU33
import Derived.Test.YtepjcdjpikbbjaaGreatDoorU01
import Derived.Maps.OwnOps
import Derived.Maps.OwnSet
import Derived.Maps.Views
import Derived.StringKeys
import Derived.Test.YtepjcdjpikbbjaaGreatDoorU40
import Derived.Test.YtepjcdjpikbbjaaGreatDoorU43
import Derived.Test.YtepjcdjpikbbjaaGreatDoorU41
set_option maxHeartbeats 8000000
set_option maxRecDepth 100000
namespace Go.Proofs.YtepjcdjpikbbjaaGreatDoor
open Go.Proofs.Tryz
open Go.RowKit Go.Sort
section
variable {W w:World} {xb vb sb db k:Nat} {r:Ru} {z:SS} {v:Value}
theorem Cg (h:bP W xb vb sb db k r z v w) (hk:k<1000000) (g off c:Nat) (L:List (List UInt8)) (hw:eN w g off L) (hl: ∀ x∈L,x.length≤5000):
  Calls prog 76 #[.pointer (some ⟨xb,0,none⟩),.slice (some ⟨g,off,none⟩) L.length c] w (dh W w xb k (gS ⟨r,z⟩ L)):=by
 obtain⟨⟩:=gT hk hw hl
 by_cases hL:L.length=1
 ·rcases L with _|⟨a,_|⟨_,L⟩⟩
  ·exact absurd hL (by simp)
  ·clear hL
   have HWT:=zH hw;have d0:=hw.2 0 a rfl;have l0:=hl a (by simp);simp only[Nat.add_zero,List.length_cons,List.length_nil,Nat.zero_add]at*;clear hw hl;have H:=zH h;rcases hn:aC a with _|_
   ·have hcut:gS ⟨r,z⟩ [a]=bad ⟨r,z⟩ 3:=by show(if aC a=true then _ else _)=_;rw[hn];rfl
    rw[hcut];have HN:=zH (fun w (h:bP W xb vb sb db k r z v w)=>gE (ah a) w (by rw[av];omega) h.env.tens h.env.errs h.et h.elt (by rw[ak];exact hn));unfold cG at HN;obtain⟨c0,c1,c2,c3,c4,c5,c6,hlt⟩:=h.seven;clear hcut hn h hk;go_enter Tryz.func76,Tryz.ntmps76;go_wp2_with fail;go_at_call 17;refine(aY _ 1 c w).mono ?_;rintro e w0 ⟨rfl,rfl⟩;go_wp2_with fail;have HSD:bP W xb vb sb db k r z v w.drew∧w.drew.cell? ⟨g,off,none⟩=some (.string (ah a)):=⟨H.out.drew,d0⟩;have HBD:=zH (au (Below.refl w.heap.size w));clear c0 c1 c2 c3 c4 c5 c6 hlt d0;refine aR (fun w'=>bP W xb vb sb db k r z v w'∧w'.cell? ⟨g,off,none⟩=some (.string (ah a))) [8,9] kR ?_;refine aa 16 (i:=0) (v:= ?v0_29) rfl kR kR kR kR kR (fun _ _ _ h=>h) (by rfl) ?hy0_29 HSD ?rest0_29
    case hy0_29=>(intro w hSw;obtain⟨c0,c1,c2,c3,c4,c5,c6,hlt⟩:=bP.seven (And.left hSw);obtain⟨_,HD⟩:=hSw;go_simp;(try with_reducible rfl))
    simp only[Act.put];refine aa 16 (i:=1) (v:= ?v1_30) rfl kR kR kR kR kR (fun _ _ _ h=>h) (by rfl) ?hy1_30 HSD ?rest1_30
    case hy1_30=>(intro w hSw;obtain⟨c0,c1,c2,c3,c4,c5,c6,hlt⟩:=bP.seven (And.left hSw);obtain⟨_,HD⟩:=hSw;go_simp;(try with_reducible rfl))
    simp only[Act.put];refine aa 16 (i:=2) (v:= ?v2_31) rfl kR kR kR kR kR (fun _ _ _ h=>h) (by rfl) ?hy2_31 HSD ?rest2_31
    case hy2_31=>(intro w hSw;obtain⟨c0,c1,c2,c3,c4,c5,c6,hlt⟩:=bP.seven (And.left hSw);obtain⟨_,HD⟩:=hSw;go_simp;(try with_reducible rfl))
    simp only[Act.put];refine aa 16 (i:=3) (v:= ?v3_32) rfl kR kR kR kR kR (fun _ _ _ h=>h) (by rfl) ?hy3_32 HSD ?rest3_32
    case hy3_32=>(intro w hSw;obtain⟨c0,c1,c2,c3,c4,c5,c6,hlt⟩:=bP.seven (And.left hSw);obtain⟨_,HD⟩:=hSw;go_simp;(try with_reducible rfl))
    simp only[Act.put];refine aa 16 (i:=4) (v:= ?v4_33) rfl kR kR kR kR kR (fun _ _ _ h=>h) (by rfl) ?hy4_33 HSD ?rest4_33
    case hy4_33=>(intro w hSw;obtain⟨c0,c1,c2,c3,c4,c5,c6,hlt⟩:=bP.seven (And.left hSw);obtain⟨_,HD⟩:=hSw;go_simp;(try with_reducible rfl))
    simp only[Act.put];refine aa 16 (i:=5) (v:= ?v5_34) rfl kR kR kR kR kR (fun _ _ _ h=>h) (by rfl) ?hy5_34 HSD ?rest5_34
    case hy5_34=>(intro w hSw;obtain⟨c0,c1,c2,c3,c4,c5,c6,hlt⟩:=bP.seven (And.left hSw);obtain⟨_,HD⟩:=hSw;go_simp;(try with_reducible rfl))
    simp only[Act.put];refine aa 16 (i:=6) (v:= ?v6_35) rfl kR kR kR kR kR (fun _ _ _ h=>h) (by rfl) ?hy6_35 HSD ?rest6_35
    case hy6_35=>(intro w hSw;obtain⟨c0,c1,c2,c3,c4,c5,c6,hlt⟩:=bP.seven (And.left hSw);obtain⟨_,HD⟩:=hSw;go_simp;(try with_reducible rfl))
    simp only[Act.put];refine ai (i:=7) kR rfl ?_;intro K7 hK7;go_simp;go_at_call 18;refine(HN.out _ HSD.1).mono ?_;rintro x' w2 ⟨rfl,hb⟩;dsimp only;exact⟨rfl,H.out.thrown (ae HBD.out hb) dC⟩
   ·have hyes:gS ⟨r,z⟩ [a]=(⟨r,(ar () z (dY z.s (ab a))).1⟩,aL (ar () z (dY z.s (ab a))).1.s.clock,(ar () z (dY z.s (ab a))).2.2):=by show(if aC a=true then _ else _)=_;rw[hn];rfl
    rw[hyes];have HN:=zH (fun w (h:bP W xb vb sb db k r z v w)=>eL (ah a) w (by rw[av];omega) h.env.tens (by rw[ak];exact hn));rw[ak]at HN;generalize ab a=n at*;obtain⟨c0,c1,c2,c3,c4,c5,c6,hlt⟩:=h.seven;have HC:=zH (fun w (h:bP W xb vb sb db k r z v w)=>(CN h.sw hk n));clear hk;unfold iR at HC;generalize ar () z (dY z.s n)=Q at*;clear hyes hn h;go_enter Tryz.func76,Tryz.ntmps76;go_wp2_with fail;go_at_call 17;refine(aY _ 1 c w).mono ?_;rintro e w0 ⟨rfl,rfl⟩;go_wp2_with fail;have HSD:bP W xb vb sb db k r z v w.drew∧w.drew.cell? ⟨g,off,none⟩=some (.string (ah a)):=⟨H.out.drew,d0⟩;have HBD:=zH (au (Below.refl w.heap.size w));clear c0 c1 c2 c3 c4 c5 c6 hlt d0;refine aR (fun w'=>bP W xb vb sb db k r z v w'∧w'.cell? ⟨g,off,none⟩=some (.string (ah a))) [8,9] kR ?_;refine aa 16 (i:=0) (v:= ?v0_36) rfl kR kR kR kR kR (fun _ _ _ h=>h) (by rfl) ?hy0_36 HSD ?rest0_36
    case hy0_36=>(intro w hSw;obtain⟨c0,c1,c2,c3,c4,c5,c6,hlt⟩:=bP.seven (And.left hSw);obtain⟨_,HD⟩:=hSw;go_simp;(try with_reducible rfl))
    simp only[Act.put];refine aa 16 (i:=1) (v:= ?v1_37) rfl kR kR kR kR kR (fun _ _ _ h=>h) (by rfl) ?hy1_37 HSD ?rest1_37
    case hy1_37=>(intro w hSw;obtain⟨c0,c1,c2,c3,c4,c5,c6,hlt⟩:=bP.seven (And.left hSw);obtain⟨_,HD⟩:=hSw;go_simp;(try with_reducible rfl))
    simp only[Act.put];refine aa 16 (i:=2) (v:= ?v2_38) rfl kR kR kR kR kR (fun _ _ _ h=>h) (by rfl) ?hy2_38 HSD ?rest2_38
    case hy2_38=>(intro w hSw;obtain⟨c0,c1,c2,c3,c4,c5,c6,hlt⟩:=bP.seven (And.left hSw);obtain⟨_,HD⟩:=hSw;go_simp;(try with_reducible rfl))
    simp only[Act.put];refine aa 16 (i:=3) (v:= ?v3_39) rfl kR kR kR kR kR (fun _ _ _ h=>h) (by rfl) ?hy3_39 HSD ?rest3_39
    case hy3_39=>(intro w hSw;obtain⟨c0,c1,c2,c3,c4,c5,c6,hlt⟩:=bP.seven (And.left hSw);obtain⟨_,HD⟩:=hSw;go_simp;(try with_reducible rfl))
    simp only[Act.put];refine aa 16 (i:=4) (v:= ?v4_40) rfl kR kR kR kR kR (fun _ _ _ h=>h) (by rfl) ?hy4_40 HSD ?rest4_40
    case hy4_40=>(intro w hSw;obtain⟨c0,c1,c2,c3,c4,c5,c6,hlt⟩:=bP.seven (And.left hSw);obtain⟨_,HD⟩:=hSw;go_simp;(try with_reducible rfl))
    simp only[Act.put];refine aa 16 (i:=5) (v:= ?v5_41) rfl kR kR kR kR kR (fun _ _ _ h=>h) (by rfl) ?hy5_41 HSD ?rest5_41
    case hy5_41=>(intro w hSw;obtain⟨c0,c1,c2,c3,c4,c5,c6,hlt⟩:=bP.seven (And.left hSw);obtain⟨_,HD⟩:=hSw;go_simp;(try with_reducible rfl))
    simp only[Act.put];refine aa 16 (i:=6) (v:= ?v6_42) rfl kR kR kR kR kR (fun _ _ _ h=>h) (by rfl) ?hy6_42 HSD ?rest6_42
    case hy6_42=>(intro w hSw;obtain⟨c0,c1,c2,c3,c4,c5,c6,hlt⟩:=bP.seven (And.left hSw);obtain⟨_,HD⟩:=hSw;go_simp;(try with_reducible rfl))
    simp only[Act.put];refine ai (i:=7) kR rfl ?_;intro K7 hK7;go_simp;go_at_call 18;refine(HN.out _ HSD.1).mono ?_;rintro x' w2 ⟨rfl,hb⟩;dsimp only;have hs2:bP W xb vb sb db k r z v w2∧w2.cell? ⟨g,off,none⟩=some (.string (ah a)):=⟨HSD.1.keep hb,by rw[hb.cell (p:=⟨g,off,none⟩) (World.block_lt_of_cell? _ _ HSD.2)];exact HSD.2⟩;have HB2:=zH (ae HBD.out hb);refine hK7.out _ _ (fun _=>hs2) ?_
    try simp only[Act.put]
    clear HSD HBD hb;refine ai (i:=8) kR rfl ?_;intro K8 hK8;go_simp;go_at_call 135;refine(HC.out _ hs2.1).mono ?_;rintro x' w3 ⟨he,htw,v3,hs⟩;have h3:=hs2.1.two htw hs;have HD3:=zH h3.1;have HST:=zH ((bt.of_below HB2.out).trans h3.2);clear hs htw h3 hs2 HB2
    by_cases hq:Q.2.2=0
    ·rw[hq,cH]at he
     subst he;have HQ0:=zH hq;clear hq
     try dsimp only
     refine hK8.out _ _ (fun h=>absurd h dC) ?_
     try simp only[Act.put]
     refine ai (i:=9) kR rfl ?_;intro K9 hK9;go_simp;go_at_call 20;refine(bR _).mono ?_;rintro x' w4 ⟨rfl,rfl⟩
     try dsimp only
     refine hK9.out _ _ (fun h=>absurd h dC) ?_;refine aX kR ?_ _;obtain⟨y0,y1,y2,y3,y4,y5,y6,ylt⟩:=HD3.out.seven;have HS3:=zH ((tH HD3.out.sw).mono fun _ _ h=>fG h);unfold iS at HS3;have HIT:=zH (fun w hT=>hU Q.1.s.clock HD3.out.sw.sx.fit.clock w hT);go_wp2_with fail;go_at_call 120;refine HS3.out.mono ?_;rintro x' w5 ⟨a1,ac,rfl,hr,hb⟩;dsimp only;have hsf:=jk Q.1.s.clock Q.1.s.next a1 Q.1.s.fams.length ac;have HD5:=zH (HD3.out.keep hb);have HST5:=zH (HST.out.trans (bt.of_below hb));clear hr hb y0 y1 y2 y3 y4 y5 y6 ylt HS3;go_wp2_with fail;go_at_call 26;refine(HIT.out _ HD5.out.env.tens).mono ?_;rintro x' w6 ⟨rfl,hb6⟩;have HB6:=zH hb6;clear hb6;go_wp2_with fail;go_ret;exact⟨.inl ⟨HQ0.out,rfl⟩,⟨vb,sb,db,_,HD5.out.keep HB6.out⟩,HST5.out.trans (bt.of_below HB6.out)⟩
    ·rw[aP hq]at he
     subst he;have HQ0:=zH hq;clear hq;have HMN:=zH (cS Q.2.2 w3 HD3.out.et);unfold cG at HMN
     try dsimp only
     refine hK8.out _ _ (fun h=>absurd h dC) ?_
     try simp only[Act.put]
     refine ai (i:=9) kR rfl ?_;intro K9 hK9;go_simp;go_at_call 20;refine HMN.out.mono ?_;rintro x' w4 ⟨rfl,hb⟩;dsimp only;exact⟨rfl,.inr ⟨HQ0.out,rfl⟩,⟨vb,sb,db,_,(HD3.out.keep hb)⟩,HST.out.trans (bt.of_below hb)⟩
  ·exact absurd hL (by simp)
 ·have hbad:gS ⟨r,z⟩ L=bad ⟨r,z⟩ 3:=by
   unfold gS;split
   ·exact absurd rfl hL
   ·rfl
  rw[hbad];have HM:=zH (cO (some ⟨g,off,none⟩) L.length c 1 w h.et (by simpa using(show(L.length:Int)≠1 by omega)));have H:=zH h;clear h hw hl hL hbad hk;unfold cG at HM;go_enter Tryz.func76,Tryz.ntmps76;go_wp2_with fail;go_at_call 17;refine HM.out.mono ?_;rintro e w0 ⟨rfl,hb⟩;dsimp only;exact⟨rfl,H.out.thrown hb dC⟩
theorem Bc (h:bP W xb vb sb db k r z v w) (hk:k<1000000) (g off c:Nat) (L:List (List UInt8)) (hw:eN w g off L) (hl: ∀ x∈L,x.length≤5000):
  Calls prog 69 #[.pointer (some ⟨xb,0,none⟩),.slice (some ⟨g,off,none⟩) L.length c] w (dh W w xb k (jM ⟨r,z⟩ L)):=by
 obtain⟨⟩:=gT hk hw hl
 by_cases hL:L.length=1
 ·rcases L with _|⟨a,_|⟨_,L⟩⟩
  ·exact absurd hL (by simp)
  ·clear hL
   have HWT:=zH hw;have d0:=hw.2 0 a rfl;have l0:=hl a (by simp);simp only[Nat.add_zero,List.length_cons,List.length_nil,Nat.zero_add]at*;clear hw hl;have H:=zH h;have HC:=zH (fun w (h:bP W xb vb sb db k r z v w)=>Dx h.sw (ah a) (by rw[av];exact l0));unfold Am at HC;have hD:jM ⟨r,z⟩ [a]=(⟨r,z⟩,jL r z.s (ah a)):=rfl;rw[hD];clear hD;generalize jL r z.s (ah a)=Q at*;obtain⟨got,code⟩:=Q;dsimp only at HC ⊢;obtain⟨c0,c1,c2,c3,c4,c5,c6,hlt⟩:=h.seven;clear h hk
   by_cases hq:code=0
   ·subst hq
    rw[cH]at HC;go_enter Tryz.func69,Tryz.ntmps69;go_wp2_with fail;go_at_call 17;refine(aY _ 1 c w).mono ?_;rintro e w0 ⟨rfl,rfl⟩;go_wp2_with fail;have HSD:=H.out.drew;have HBD:=zH (au (Below.refl w.heap.size w));have HD:w.drew.cell? ⟨xb,2,none⟩=some (.pointer (some ⟨vb,0,none⟩))∧w.drew.cell? ⟨g,off,none⟩=some (.string (ah a)):=⟨HSD.call,HWT.out.drew.one⟩;clear c0 c1 c2 c3 c4 c5 c6 hlt d0
    go_region_held3 (fun w'=>w'.cell? ⟨xb,2,none⟩=some (.pointer (some ⟨vb,0,none⟩))∧w'.cell? ⟨g,off,none⟩=some (.string (ah a)))
     (first
      |with_reducible assumption
      |with_reducible exact HD)
     (first
      |(go_at_call 130;(with_reducible refine(HC.out _ HSD).mono ?_);rintro x' w3 ⟨rfl,hb⟩
        have hx3:w3.cell? ⟨xb,2,none⟩=some (.pointer (some ⟨vb,0,none⟩))∧w3.cell? ⟨g,off,none⟩=some (.string (ah a)):=⟨(HSD.keep hb).call,(HWT.out.drew.keep hb).one⟩))
    have HB3:=zH (ae HBD.out hb);clear hb hx3 HD HSD HBD HC;go_wp2_with fail;go_at_call 20;refine(bR _).mono ?_;rintro x' w4 ⟨rfl,rfl⟩;go_wp2_with fail;go_ret;exact H.out.told HB3.out got
   ·rw[aP hq]at HC
    have HQ0:=zH hq;clear hq;go_enter Tryz.func69,Tryz.ntmps69;go_wp2_with fail;go_at_call 17;refine(aY _ 1 c w).mono ?_;rintro e w0 ⟨rfl,rfl⟩;go_wp2_with fail;have HSD:=H.out.drew;have HBD:=zH (au (Below.refl w.heap.size w));have HD:w.drew.cell? ⟨xb,2,none⟩=some (.pointer (some ⟨vb,0,none⟩))∧w.drew.cell? ⟨g,off,none⟩=some (.string (ah a)):=⟨HSD.call,HWT.out.drew.one⟩;clear c0 c1 c2 c3 c4 c5 c6 hlt d0
    go_region_held3 (fun w'=>w'.cell? ⟨xb,2,none⟩=some (.pointer (some ⟨vb,0,none⟩))∧w'.cell? ⟨g,off,none⟩=some (.string (ah a)))
     (first
      |with_reducible assumption
      |with_reducible exact HD)
     (first
      |(go_at_call 130;(with_reducible refine(HC.out _ HSD).mono ?_);rintro x' w3 ⟨rfl,hb⟩
        have hx3:w3.cell? ⟨xb,2,none⟩=some (.pointer (some ⟨vb,0,none⟩))∧w3.cell? ⟨g,off,none⟩=some (.string (ah a)):=⟨(HSD.keep hb).call,(HWT.out.drew.keep hb).one⟩))
    have HB3:=zH (ae HBD.out hb);clear hb hx3 HD HSD HBD HC;go_wp2_with fail;go_at_call 20;refine(cS code _ (H.out.keep HB3.out).et).mono ?_;rintro x' w4 ⟨rfl,hb⟩;dsimp only;exact⟨rfl,H.out.thrown (ae HB3.out hb) HQ0.out⟩
  ·exact absurd hL (by simp)
 ·have hbad:jM ⟨r,z⟩ L=bad ⟨r,z⟩ 3:=by
   unfold jM;split
   ·exact absurd rfl hL
   ·rfl
  rw[hbad];have HM:=zH (cO (some ⟨g,off,none⟩) L.length c 1 w h.et (by simpa using(show(L.length:Int)≠1 by omega)));have H:=zH h;clear h hw hl hL hbad hk;unfold cG at HM;go_enter Tryz.func69,Tryz.ntmps69;go_wp2_with fail;go_at_call 17;refine HM.out.mono ?_;rintro e w0 ⟨rfl,hb⟩;dsimp only;exact⟨rfl,H.out.thrown hb dC⟩
end
open Go.Maps Go.WideMaps
noncomputable def Hw (xb:Nat) (v:Value):Option (DataW Unit×List MemPlace):=
 open Classical in
 if v=.nilFunc then some (.lit (.int .i64 (-1)),[])
 else if h: ∃ n:Nat,v=.func (.func n) #[.pointer (some ⟨xb,0,none⟩)] #[]then some (.lit (.int .i64 ((Classical.choose h:Nat):Int)),[])else none
theorem Gn (xb:Nat):Hw xb .nilFunc=some (.lit (.int .i64 (-1)),[]):=by unfold Hw;rw[if_pos rfl]
theorem IA (xb n:Nat):Hw xb (.func (.func n) #[.pointer (some ⟨xb,0,none⟩)] #[])=some (.lit (.int .i64 n),[]):=by
 have h: ∃ m:Nat,(Value.func (.func n) #[.pointer (some ⟨xb,0,none⟩)] #[])=.func (.func m) #[.pointer (some ⟨xb,0,none⟩)] #[]:=⟨n,rfl⟩;unfold Hw;rw[if_neg (by simp),dif_pos h];have e:=Classical.choose_spec h;have e2:n=Classical.choose h:=by injection e with e1;injection e1
 exact congrArg (fun m:Nat=>some ((DataW.lit (.int .i64 (m:Int)):DataW Unit),([]:List MemPlace))) e2.symm
theorem GT {xb:Nat} {v:Value} {z:DataW Unit×List MemPlace} (h:Hw xb v=some z):(v=.nilFunc∧z.1=.lit (.int .i64 (-1)))∨ ∃ n:Nat,v=.func (.func n) #[.pointer (some ⟨xb,0,none⟩)] #[]∧z.1=.lit (.int .i64 n):=by
 unfold Hw at h;split at h
 ·rename_i e
  cases h;exact .inl ⟨e,rfl⟩
 ·split at h
  ·rename_i e
   cases h;exact .inr ⟨Classical.choose e,Classical.choose_spec e,rfl⟩
  ·cases h
def dV (P:Program) (K xb:TypeId) (w:World) (b n:Nat) (f:List UInt8→Int):Prop:=
 ∃ D:DataW Unit,w.ownsMap P K (Hw xb) b n D∧IsMap D∧ ∀ x:List UInt8,D.atKey (.string x) (.lit (.int .i64 (-1)))=.lit (.int .i64 (f x))
section
variable {P:Program} {K xb T E:TypeId} {w w':World} {b n:Nat} {f:List UInt8→Int}
theorem dV.made (w:World):dV P K xb (w.alloc (.map #[] 0)) w.heap.size 0 (fun _=> -1):=
 ⟨.map [],World.ownsMap_made w P K _,⟨[],rfl⟩,fun x=>by simp[DataW.atKey]⟩
theorem dV.kept (h:dV P K xb w b n f) {row:Option Nat} (hg:w.grownBy w' row) (hne:some b≠row):dV P K xb w' b n f:=by
 obtain⟨D,h1,h2,h3⟩:=h;exact⟨D,h1.kept hg hne,h2,h3⟩
theorem dV.below (h:dV P K xb w b n f) (hb:Below w.heap.size w w'):dV P K xb w' b n f:=h.kept (aG hb none) (by simp)
theorem dV.alloc (h:dV P K xb w b n f) (o:Obj):dV P K xb (w.alloc o) b n f:=h.kept (World.grownBy_alloc w o none) (by simp)
theorem dV.drewN (h:dV P K xb w b n f) (m:Nat):dV P K xb (w.drewN m) b n f:=h
theorem dV.lt (h:dV P K xb w b n f):b<w.heap.size:=by
 obtain⟨D,h1,_⟩:=h;exact h1.lt
theorem dV.mono (h:dV P K xb w b n f) {m:Nat} (hm:n≤m):dV P K xb w b m f:=by
 obtain⟨D,h1,h2,h3⟩:=h;exact⟨D,h1.mono hm,h2,h3⟩
theorem dV.look (h:dV P K xb w b n f) (ht:P.underlying T=some (.map K E)) (hk:P.underlying K=some .string)
  (hz:(zeroValue E).run P w=.ok .nilFunc w) (x:List UInt8) (hx:x.length≤maxLen):
  ∃ v,(Instr.lookup T (.map (some b)) (.string (ah x)) false).run P w=.ok v w∧((v=.nilFunc∧f x= -1)∨ ∃ m:Nat,v=.func (.func m) #[.pointer (some ⟨xb,0,none⟩)] #[]∧f x=m):=by
 obtain⟨D,h1,h2,h3⟩:=h
 have hkey:keyOf P K (.string (ah x))=some (.string x):=by
  rw[keyOf_string_mk hk (by rw[av];exact hx),ak]
 obtain⟨v,ps,hrun,hv⟩:=h1.lookup (string_keyed hk) ht hz (Gn xb) hkey;refine⟨v,hrun,?_⟩;have h4:=h3 x;rcases GT hv with⟨e,hy⟩|⟨m,e,hy⟩
 ·refine .inl ⟨e,?_⟩
  rw[h4]at hy;injection hy with hy
  injection hy
 ·refine .inr ⟨m,e,?_⟩
  rw[h4]at hy;injection hy with hy
  injection hy
theorem dV.put (h:dV P K xb w b n f) (ht:P.underlying T=some (.map K E)) (hk:P.underlying K=some .string)
  (hn:n<maxLen) (x:List UInt8) (hx:x.length≤maxLen) (v:Nat):
  ∃ w',(Instr.mapUpdate T (.map (some b)) (.string (ah x)) (.func (.func v) #[.pointer (some ⟨xb,0,none⟩)] #[])).run P w=.ok () w'∧dV P K xb w' b (n+1) (fun y=>if y=x then(v:Int)else f y)∧w.grownBy w' (some b):=by
 obtain⟨D,h1,h2,h3⟩:=h
 have hkey:keyOf P K (.string (ah x))=some (.string x):=by
  rw[keyOf_string_mk hk (by rw[av];exact hx),ak]
 obtain⟨w',hrun,r1,r2⟩:=h1.update (string_keyed hk) ht hn hkey (IA xb v);refine⟨w',hrun,⟨_,r1,?_,?_⟩,r2⟩
 ·obtain⟨l,rfl⟩:=h2
  exact⟨_,rfl⟩
 ·intro y
  dsimp only
  by_cases e:y=x
  ·subst e
   rw[if_pos rfl,atKey_put_same h2 (by simp[WideAt.IsKeyLit])]
  ·rw[if_neg e,atKey_put_other (by simpa using e)]
   exact h3 y
end
theorem BM {w:World} {B B' s s' n n':Nat} {e e':TypeId} {v v':Value} {xs xs':List Value} (h:w.ownsRow B e s v n xs) (h':w.ownsRow B' e' s' v' n' xs') (hne:e≠e') {g:Nat} (hv:v.ownBlock=some g):v'.ownBlock≠some g:=by
 intro hv';rcases h.2 with⟨rfl,_⟩|⟨g1,c1,u1,rfl,_,h1,_⟩
 ·simp[Value.ownBlock]at hv
 ·rcases h'.2 with⟨rfl,_⟩|⟨g2,c2,u2,rfl,_,h2,_⟩
  ·simp[Value.ownBlock]at hv'
  ·simp only[Value.ownBlock,Option.some.injEq]at hv hv'
   obtain rfl:g1=g:=by simpa using hv
   obtain rfl:g2=g1:=by simpa using hv'
   rw[h1]at h2;simp only[Option.some.injEq,Obj.cells.injEq]at h2;exact hne h2.2.1
theorem Gz (w:World) (o:Obj) (T:TypeId) (a b:Int):aJ ((w.alloc o).alloc (.cells #[.int .i64 a,.int .i64 b] T)) (w.heap.size+1) [a,b]:=by
 have h:=eI (w.alloc o) T [a,b];simpa using h
theorem Ih (s:St):((mM s).take 1).map encStr=[.string (cg [s.clock,s.next])]:=by
 show[encStr (cg [s.clock,s.next]).data.toList]=_
 rw[oF]
theorem IT (s:St) {k:Nat} {f:an} (h:s.fams[k]?=some f):encStr ((mM s).getD (k+1) [])=.string (iE f):=by
 unfold mM;rw[List.getD_cons_succ,List.getD_eq_getElem?_getD,List.getElem?_map,h];exact oF _
section
variable {W w:World} {xb vb sb db k:Nat} {r:Ru} {z:SS} {v:Value}
theorem sV (h:bP W xb vb sb db k r z v w) (hk:k<1000000) (g off c:Nat) (L:List (List UInt8)) (hw:eN w g off L) (hl: ∀ x∈L,x.length≤5000):
  Calls prog 63 #[.pointer (some ⟨xb,0,none⟩),.slice (some ⟨g,off,none⟩) L.length c] w (dh W w xb k (cX ⟨r,z⟩ L)):=by
 obtain⟨⟩:=gT hk hw hl
 by_cases hL:L.length=0
 ·obtain rfl:L=[]:=List.eq_nil_of_length_eq_zero hL
  clear hL hw hl;simp only[List.length_nil];have H:=zH h;have hD:cX ⟨r,z⟩ []=(⟨r,z⟩,vO z.s,0):=rfl;rw[hD,←tv];obtain⟨i0,hii,hz0,hz1,hz2⟩:=info_parts ms;have HST:=zH ((tH h.sw).mono fun _ _ h=>fG h);unfold iS at HST;have hfit:=h.sw.sx.fit;have hlen:=hfit.len;have HLEN:=zH (wL hfit);have HFA:=zH hfit.fams;have hT:(mM z.s).length=z.s.fams.length+1:=by simp[mM]
  have HJ:=zH (fun g w hw hi=>lY g [z.s.clock,z.s.next] w hw hi (by simp) (by simp) (by
   have h1:=jj hfit.clock;have h2:=bO.1 hfit.next;intro x hx;simp only[List.mem_cons,List.not_mem_nil,or_false]at hx;rcases hx with rfl|rfl
   ·exact h1
   ·exact⟨by omega,by omega⟩))
  simp only[List.length_cons,List.length_nil,Nat.zero_add,Nat.reduceAdd]at HJ;have HT0:=zH (Ih z.s);have HT1:=zH (fun k f hf=>IT z.s (k:=k) (f:=f) hf);obtain⟨c0,c1,c2,c3,c4,c5,c6,hlt⟩:=h.seven;clear h hk hD hfit;generalize mM z.s=T at*;generalize z.s.fams=L at*;generalize z.s.clock=ck at*;generalize z.s.next=nx at*;generalize cg [ck,nx]=jn at*;go_enter Tryz.func63,Tryz.ntmps63;go_wp2_with fail;go_at_call 17;refine(aY _ 0 c w).mono ?_;rintro e w0 ⟨rfl,rfl⟩;go_wp2_with fail;go_at_call 120;refine HST.out.mono ?_;rintro x' w1 ⟨a1,ac,rfl,hr,hb⟩;dsimp only;have HR1:=zH hr;have HB1:=zH hb;have HD1:=zH (H.out.keep hb);clear hr hb HST c0 c1 c2 c3 c4 c5 c6 hlt;go_wp2_with fail;have hst:=aj.new w1 83 #[.int .i64 ck,.int .i64 nx,.slice a1 L.length ac];have hal:=(Below.refl w1.heap.size w1).alloc (Nat.le_refl _) (.cells #[.int .i64 ck,.int .i64 nx,.slice a1 L.length ac] 83);have hi:=Gz w1 (.cells #[.int .i64 ck,.int .i64 nx,.slice a1 L.length ac] 83) 3 ck nx;have hal2:=hal.alloc hal.size (.cells #[.int .i64 ck,.int .i64 nx] 3);have hst2:=hst.alloc (.cells #[.int .i64 ck,.int .i64 nx] 3);go_at_call 121;refine(HJ.out _ _ (HD1.out.keep hal2).env.wb hi).mono ?_;rintro x' w3 ⟨rfl,hb3⟩;dsimp only;have hb13:=ae hal2 hb3;have HD3:=zH (HD1.out.keep hb13);have HB3:=zH (ae HB1.out hb13);have HR3:=zH (HR1.out.below hb13);have HS3:=zH (hst2.below' hb3);have hrn:=gi.new (w:=w3) (L:=[jn.data.toList]) HB3.out.size (by unfold maxLen;simp);have hal3:=(Below.refl w3.heap.size w3).alloc (Nat.le_refl _) (.cells #[.string jn] 9)
  have hrn2:(w3.alloc (.cells #[.string jn] 9)).ownsRow w.heap.size 9 1 (.slice (some ⟨w3.heap.size,0,none⟩) 1 1) (0+1) ((T.take (0+1)).map encStr):=by
   obtain⟨g',cap',e,ho⟩:=hrn;simp only[List.map_cons,List.map_nil,oF,List.length_cons,List.length_nil,Nat.zero_add]at e ho ⊢;rw[HT0.out];exact ho
  have HF0:=zH (show FL W w (.slice a1 L.length ac) L T 0 (.slice (some ⟨w3.heap.size,0,none⟩) 1 1) (w3.alloc (.cells #[.string jn] 9))from⟨(HD3.out.keep hal3).below,ae HB3.out hal3,(HD3.out.keep hal3).env,hrn2,HR3.out.below hal3⟩);obtain⟨y0,y1,y2⟩:w3.cell? ⟨w1.heap.size,0,none⟩=some (.int .i64 ck)∧w3.cell? ⟨w1.heap.size,1,none⟩=some (.int .i64 nx)∧w3.cell? ⟨w1.heap.size,2,none⟩=some (.slice a1 L.length ac):=⟨HS3.out.cell 0,HS3.out.cell 1,HS3.out.cell 2⟩;have hlt3:=HS3.out.lt;clear hst hal hi hal2 hst2 hb3 hb13 hrn hal3 hrn2 HD1 HB1 HR1 HJ HD3 HB3 HR3 HS3;go_wp2_with fail;clear y0 y1 y2 hlt3;generalize w3.alloc (.cells #[.string jn] 9)=w4 at*
  go_loopw [6,26] (fun out i wr=>Jc W w (.slice a1 L.length ac) L T out i wr) (fun _ i _=>L.length - (intOf i).toNat)
  case atStart=>exact⟨0,Nat.zero_le _,rfl,HF0.out⟩
  case round=>
   obtain⟨k',hk',rfl,hf⟩:=hrel;have HF:=zH hf;clear hf HF0
   by_cases hlt:k'<L.length
   ·obtain⟨f,hf⟩: ∃ f,L[k']?=some f:=⟨_,List.getElem?_eq_getElem hlt⟩
    obtain⟨ga,hga,_,ra⟩:=HF.out.fr.lit hlt;subst hga;obtain⟨c0,c1,c2,c3,c4,c5,c6,c7,c8⟩:=ra.nine hf;have HX:=zH (HT1.out k' f hf);have HFM:=zH (fun w hw=>pB f w (jo.of (HFA.out f (List.mem_of_getElem? hf))) hw);generalize iE f=y at*;have h0:(0:Int)≤(k':Int):=by omega
    have h1:(k':Int)<(L.length:Int):=by omega
    obtain⟨fi,fcl,fsu,fsc,fge,fma,fus,fre,fde⟩:=f;unfold aO af at HFM;dsimp only at HFM;have hal:=(Below.refl wr.heap.size wr).alloc (Nat.le_refl _) (.cells #[.int .i64 fi,.string fcl,.string fsu,.string fsc,.int .i64 fge,.int .i64 fma,.int .i64 fus,.string fre,.bool fde] 95);have HF1:=zH (HF.out.keep hal);clear hal hf ra HF;go_wp2_with fail;go_at_call 122;refine(HFM.out _ HF1.out.env.wb).mono ?_;rintro x' w5 ⟨rfl,hb⟩;dsimp only;have HF5:=zH (HF1.out.keep hb);have hrow:=HF5.out.row;have hB2:=HF5.out.since.size;clear hb c0 c1 c2 c3 c4 c5 c6 c7 c8 HF1 HFM
    go_wp2_with
     (at_builtin;refine wpList_append_own _ rfl _ _ 34 rfl w.heap.size 9 i0 (.string ByteArray.empty) 1 16 underlying34 hii hz0 hz1 hz2 rfl dC _ _ _ rfl (hrow.alloc _) ⟨w5.heap.size,0,none⟩ 1 1 [.string y] rfl rfl (cell_one_new _ _ _) (fun x hx=>by simp at hx;subst hx;rfl) (by unfold maxLen;omega) oM (by simp;omega) ?_;intro v' w7 hown hgrow hnil
      have HO:=zH hown;have HG:=zH hgrow;clear hown hgrow hnil hrow)
    go_roundw
    case rel=>exact⟨k'+1,by omega,by go_num,FL.next H.out.below.size HF5.out oM HX.out.symm HO.out HG.out ((HF5.out.fr.below ((Below.refl _ _).alloc (Nat.le_refl _) _)).kept HG.out (fun e=>BM HF5.out.row HF5.out.fr dC e.symm rfl))⟩
    case measure=>simp[intOf];omega
   ·obtain rfl:k'=L.length:=by omega
    have hrow:=HF.out.row;rw[←hT,List.take_length]at hrow;have HJS:=zH (Bl ⟨#[44,32]⟩ (ir hrow (by intro e;rw[e]at hT;simp at hT)) oM (by have:=HLEN.out;show(Lib.join T [44,32]).length≤1000000;omega));clear hrow;go_wp2_with fail;go_at_call 50;refine HJS.out.mono ?_;rintro x' w8 ⟨rfl,hb⟩;have HB8:=zH (ae HF.out.since hb);clear hb;go_wp2_with fail;go_ret;exact H.out.told HB8.out _
 ·have hbad:cX ⟨r,z⟩ L=bad ⟨r,z⟩ 3:=by
   unfold cX;split
   ·exact absurd rfl hL
   ·rfl
  rw[hbad];have HM:=zH (cO (some ⟨g,off,none⟩) L.length c 0 w h.et (by simpa using(show(L.length:Int)≠0 by omega)));have H:=zH h;clear h hw hl hL hbad hk;unfold cG at HM;go_enter Tryz.func63,Tryz.ntmps63;go_wp2_with fail;go_at_call 17;refine HM.out.mono ?_;rintro e w0 ⟨rfl,hb⟩;dsimp only;exact⟨rfl,H.out.thrown hb dC⟩
end
section
variable {W w:World} {mb hb qb rb:Nat} {r:Ru} {z:SS} {v:Value}
theorem ym (h:iL W mb hb qb rb r z v w) (hz:RZ r z) (hwr:cP z.writes) (g off c:Nat) (L:List (List UInt8)) (hw:iF w g off L) (hl: ∀ x∈L,x.length≤5000):
  Calls prog 15 #[.pointer (some ⟨hb,0,none⟩),.string ⟨#[111,112,101,110]⟩,.slice (some ⟨g,off,none⟩) L.length c] w (bw W w mb hb (j6 ⟨r,z⟩ L)):=by
 by_cases hL:L.length=0
 ·rcases L with _|⟨_,L⟩
  ·clear hL
   obtain⟨⟩:=ey hw hl hwr;obtain⟨wcs,hwb⟩:=hw.1
   show Calls prog 15 #[.pointer (some ⟨hb,0,none⟩),.string ⟨#[111,112,101,110]⟩,.slice (some ⟨g,off,none⟩) 0 c] w (bw W w mb hb (j6 ⟨r,z⟩ []))
   have HWR:=zH hwr;clear hw hl hwr;have hal:=(Below.refl w.heap.size w).alloc (Nat.le_refl _) (.cells #[.slice (some ⟨g,off,none⟩) 0 c] 34);have H0:=zH (h.keep hal);have hfc:=H0.out.forms;have hlk:(Instr.lookup 87 (.map (some mb)) (.string ⟨#[111,112,101,110]⟩) true).run prog _=.ok (.tuple #[.string ⟨#[]⟩,.bool true]) _:=H0.out.look fg dC;have HBX:=zH (aj.new w 34 #[.slice (some ⟨g,off,none⟩) 0 c]);have HWB:=zH (hwb.below' hal);clear hwb;have HAL:=zH hal;have HZ:=zH hz;clear h hal hz;have hmf: ∀ (fn:Fn) (first cap:Array Value) (w:World),(Instr.makeFunc fn first cap).run prog w=.ok (.func fn first cap) w:=fun _ _ _ _=>rfl
   go_enter Tryz.func15,Tryz.ntmps15;go_wp2_with fail;refine wp_loop_rounds 1 ?_;generalize w.alloc (.cells #[.slice (some ⟨g,off,none⟩) 0 c] 34)=w0 at*;have HNS:=zH (NS.nil w0);clear hfc hlk;have HH:=zH (H0.out.keep HNS.out.bl);have HB:=zH (ae HAL.out HNS.out.bl);have HBX:=zH (HBX.out.below' HNS.out.bl);have HWB:=zH (HWB.out.below' HNS.out.bl);have hbx:=HBX.out.cell 0;have hh:=HH.out.at_.cell 0;obtain⟨s0,s1,s2,s3,s4,slt⟩:=HH.out.rv.five;rw[rounds_succ];go_wp2_with fail;go_at_call 34;refine(CY rb z v _ HH.out.rv.ra).mono ?_;rintro e w8 ⟨rfl,ha,hg⟩;have hr:=HH.out.rv.turn hg ha (HH.out.rv.rr.kept hg (HH.out.rv.rr.apart HH.out.rv.ra dC));have HT:=zH (iY (w:=w) HH.out HB.out hg hr);clear hg hr ha;go_wp2_with fail;go_ret2;exact HT.out _ (ah fg) 0 (fun _=>rfl)
  ·exact absurd hL (by simp)
 ·refine(cF h fg dC _ L.length (some ⟨g,off,none⟩) c rfl (fun F hF=>by cases (show some _=some F from hF);simpa using fun e=>hL e.symm)).mono ?_
  rintro e w' ⟨rfl,hb⟩;refine cf (d:=⟨r,z⟩) (h.keep hb) hb dC ?_;rcases L with _|⟨_,L⟩
  ·exact absurd rfl hL
  ·rfl
end
section
variable {W w:World} {mb hb qb rb:Nat} {r:Ru} {z:SS} {v:Value}
theorem ze (h:iL W mb hb qb rb r z v w) (hz:RZ r z) (hwr:cP z.writes) (g off c:Nat) (L:List (List UInt8)) (hw:iF w g off L) (hl: ∀ x∈L,x.length≤5000):
  Calls prog 15 #[.pointer (some ⟨hb,0,none⟩),.string ⟨#[115,104,111,119]⟩,.slice (some ⟨g,off,none⟩) L.length c] w (bw W w mb hb (jJ ⟨r,z⟩ L)):=by
 by_cases hL:L.length=1
 ·rcases L with _|⟨a,_|⟨_,L⟩⟩
  ·exact absurd hL (by simp)
  ·clear hL
   have d0:w.cell? ⟨g,off,none⟩=some (.string (ah a)):=hw.2 0 a rfl;have l0:=hl a (by simp);obtain⟨⟩:=ey hw hl hwr;obtain⟨wcs,hwb⟩:=hw.1
   show Calls prog 15 #[.pointer (some ⟨hb,0,none⟩),.string ⟨#[115,104,111,119]⟩,.slice (some ⟨g,off,none⟩) 1 c] w (bw W w mb hb (jJ ⟨r,z⟩ [a]))
   have HWR:=zH hwr;clear hw hl hwr;have hal:=(Below.refl w.heap.size w).alloc (Nat.le_refl _) (.cells #[.slice (some ⟨g,off,none⟩) 1 c] 34);have H0:=zH (h.keep hal);have d0:=(hal.cell (p:=⟨g,off,none⟩) (World.block_lt_of_cell? _ _ d0)).trans d0;have D0:=zH d0;have hfc:=H0.out.forms;have hlk:(Instr.lookup 87 (.map (some mb)) (.string ⟨#[115,104,111,119]⟩) true).run prog _=.ok (.tuple #[.string ⟨#[119]⟩,.bool true]) _:=H0.out.look jb dC;have HBX:=zH (aj.new w 34 #[.slice (some ⟨g,off,none⟩) 1 c]);have HWB:=zH (hwb.below' hal);clear hwb;have HAL:=zH hal;have HZ:=zH hz;clear h hal hz;have hmf: ∀ (fn:Fn) (first cap:Array Value) (w:World),(Instr.makeFunc fn first cap).run prog w=.ok (.func fn first cap) w:=fun _ _ _ _=>rfl
   go_enter Tryz.func15,Tryz.ntmps15;go_wp2_with fail;refine wp_loop_rounds 2 ?_;generalize w.alloc (.cells #[.slice (some ⟨g,off,none⟩) 1 c] 34)=w0 at*;have HNS:=zH (NS.nil w0);clear hfc hlk;rw[rounds_succ];go_wp2_with fail;have d0:=(HNS.out.bl.cell (p:=⟨g,off,none⟩) (World.block_lt_of_cell? _ _ D0.out)).trans D0.out;have HH:=zH (H0.out.keep HNS.out.bl);have HB:=zH (ae HAL.out HNS.out.bl);have HBX:=zH (HBX.out.below' HNS.out.bl);have HWB:=zH (HWB.out.below' HNS.out.bl);have hbx:=HBX.out.cell 0;have hh:=HH.out.at_.cell 0;obtain⟨s0,s1,s2,s3,s4,slt⟩:=HH.out.rv.five;rw[rounds_succ];go_wp2_with fail;go_at_call 38;refine(CP HH.out.rv HZ.out (ah a) (by show a.length≤_;omega)).mono ?_;rintro e w8 ⟨rfl,hb8⟩;have hy:jJ ⟨r,z⟩ [a]=(⟨r,z⟩,iE (iI r z.s (ah a)).1,(iI r z.s (ah a)).2):=rfl;have hfm:=rW (r:=r) HZ.out.fit (ah a);generalize iI r z.s (ah a)=P at*;obtain⟨f8,c8⟩:=P;dsimp only at hy hfm ⊢;have HB8:=zH hb8;have HF:=zH (fun w h=>rM f8 w hfm h);clear hb8;obtain⟨fi,fcl,fsu,fsc,fge,fma,fus,fre,fde⟩:=f8;unfold aO af at*;dsimp only at*;have hal:=(Below.refl w8.heap.size w8).alloc (Nat.le_refl _) (.cells #[.int .i64 fi,.string fcl,.string fsu,.string fsc,.int .i64 fge,.int .i64 fma,.int .i64 fus,.string fre,.bool fde] 95);have HHa:=zH (HH.out.keep (ae HB8.out hal));have HBa:=zH (ae HB8.out hal);clear hal;go_wp2_with fail;go_at_call 39;refine(HF.out _ HHa.out.rv.env.wb).mono ?_;rintro e w9 ⟨rfl,hb9⟩;have HT:=zH (kB (w:=w) HH.out HB.out (ae HBa.out hb9));clear hb9;go_wp2_with fail;go_ret2
   try rw[hy]
   exact HT.out _ _ c8 (fun _=>rfl)
  ·exact absurd hL (by simp)
 ·refine(cF h jb dC _ L.length (some ⟨g,off,none⟩) c rfl (fun F hF=>by cases (show some _=some F from hF);simpa using fun e=>hL e.symm)).mono ?_
  rintro e w' ⟨rfl,hb⟩;refine cf (d:=⟨r,z⟩) (h.keep hb) hb dC ?_;rcases L with _|⟨a,_|⟨_,L⟩⟩
  ·rfl
  ·exact absurd rfl hL
  ·rfl
end
end Go.Proofs.YtepjcdjpikbbjaaGreatDoor
