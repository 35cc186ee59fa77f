/-
  The desk's commands: grant.
-/
import Derived.Test.YtepjcdjpikbbjaaGreatDoorU00
import Derived.Test.YtepjcdjpikbbjaaGreatDoorU33
import Derived.Test.YtepjcdjpikbbjaaGreatDoorU17
import Derived.Test.YtepjcdjpikbbjaaGreatDoorU32
import Derived.Test.YtepjcdjpikbbjaaGreatDoorU40
import Derived.Test.YtepjcdjpikbbjaaGreatDoorU30
set_option maxHeartbeats 4000000
set_option maxRecDepth 100000
namespace Go.Proofs.YtepjcdjpikbbjaaGreatDoor
open Go.Proofs.Tryz
open Go.RowKit Go.Sort
section
variable {W w:World} {xb vb sb db k:Nat} {r:Ru} {z:SS} {v:Value}
theorem zc (h:bP W xb vb sb db k r z v w) (hk:k<1000000) (g off c:Nat) (L:List (List UInt8)) (hw:eN w g off L) (hl: ∀ x∈L,x.length≤5000):
  Calls prog 64 #[.pointer (some ⟨xb,0,none⟩),.slice (some ⟨g,off,none⟩) L.length c] w (dh W w xb k (gC ⟨r,z⟩ L)):=by
 obtain⟨⟩:=gT hk hw hl
 by_cases hL:L.length=3
 ·rcases L with _|⟨a,_|⟨b,_|⟨c_,_|⟨_,L⟩⟩⟩⟩
  ·exact absurd hL (by simp)
  ·exact absurd hL (by simp)
  ·exact absurd hL (by simp)
  ·clear hL
   have HWT:=zH hw;have d0:=hw.2 0 a rfl;have d1:=hw.2 1 b rfl;have d2:=hw.2 2 c_ rfl;have l0:=hl a (by simp);have l1:=hl b (by simp);have l2:=hl c_ (by simp);simp only[Nat.add_zero,List.length_cons,List.length_nil,Nat.zero_add,Nat.reduceAdd]at*;clear hw hl;have H:=zH h;have HPL:=zH (fun w=>ni (ah c_) w);have HC:=zH (fun w (h:bP W xb vb sb db k r z v w)=>BB h.sw hk (ah a) (ah b) (bG (ah c_)) (by rw[av];exact l0) (by rw[av];exact l1) (gc _ (by rw[av];exact l2)));unfold dl at HC;have hD:gC ⟨r,z⟩ [a,b,c_]=(⟨r,(ar aI z (bL r z.s (ah a) (ah b) (bG (ah c_)))).1⟩,(ar aI z (bL r z.s (ah a) (ah b) (bG (ah c_)))).2):=rfl;rw[hD];clear hD;generalize ar aI z (bL r z.s (ah a) (ah b) (bG (ah c_)))=Q at*;generalize bG (ah c_)=pc at*;obtain⟨z9,got,code⟩:=Q;dsimp only at HC ⊢;obtain⟨c0,c1,c2,c3,c4,c5,c6,hlt⟩:=h.seven;clear h hk
   by_cases hq:code=0
   ·subst hq
    rw[cH]at HC;go_enter Tryz.func64,Tryz.ntmps64;go_wp2_with fail;go_at_call 17;refine(aY _ 3 c w).mono ?_;rintro e w0 ⟨rfl,rfl⟩;go_wp2_with fail;have HSD:=H.out.drew;have HBD:=zH (au (Below.refl w.heap.size w));have HD:w.drew.cell? ⟨xb,2,none⟩=some (.pointer (some ⟨vb,0,none⟩))∧w.drew.cell? ⟨g,off,none⟩=some (.string (ah a))∧w.drew.cell? ⟨g,off+1,none⟩=some (.string (ah b))∧w.drew.cell? ⟨g,off+2,none⟩=some (.string (ah c_)):=⟨HSD.call,HWT.out.drew.three⟩;clear c0 c1 c2 c3 c4 c5 c6 hlt d0 d1 d2
    go_region_held3 (fun w'=>w'.cell? ⟨xb,2,none⟩=some (.pointer (some ⟨vb,0,none⟩))∧w'.cell? ⟨g,off,none⟩=some (.string (ah a))∧w'.cell? ⟨g,off+1,none⟩=some (.string (ah b))∧w'.cell? ⟨g,off+2,none⟩=some (.string (ah c_)))
     (first
      |with_reducible assumption
      |with_reducible exact HD)
     (first
      |(go_at_call 124;(with_reducible refine(HPL.out _).mono ?_);rintro x' w2 ⟨rfl,rfl⟩)
      |(go_at_call 123;(with_reducible refine(HC.out _ HSD).mono ?_);rintro x' w3 ⟨rfl,htw,v3,hs⟩
        have h3:=HSD.two htw hs;have hst:=(bt.of_below HBD.out).trans h3.2;have hx3:w3.cell? ⟨xb,2,none⟩=some (.pointer (some ⟨vb,0,none⟩))∧w3.cell? ⟨g,off,none⟩=some (.string (ah a))∧w3.cell? ⟨g,off+1,none⟩=some (.string (ah b))∧w3.cell? ⟨g,off+2,none⟩=some (.string (ah c_)):=⟨h3.1.call,(HWT.out.stay hst).three⟩))
    have HD3:=zH h3.1;have HST:=zH hst;clear htw hs h3 hst hx3 HD HSD HBD HPL HC;go_wp2_with fail;go_at_call 20;refine(bR _).mono ?_;rintro x' w4 ⟨rfl,rfl⟩;go_wp2_with fail;go_ret;exact⟨.inl ⟨rfl,rfl⟩,⟨vb,sb,db,_,HD3.out⟩,HST.out⟩
   ·rw[aP hq]at HC
    have HQ0:=zH hq;clear hq;go_enter Tryz.func64,Tryz.ntmps64;go_wp2_with fail;go_at_call 17;refine(aY _ 3 c w).mono ?_;rintro e w0 ⟨rfl,rfl⟩;go_wp2_with fail;have HSD:=H.out.drew;have HBD:=zH (au (Below.refl w.heap.size w));have HD:w.drew.cell? ⟨xb,2,none⟩=some (.pointer (some ⟨vb,0,none⟩))∧w.drew.cell? ⟨g,off,none⟩=some (.string (ah a))∧w.drew.cell? ⟨g,off+1,none⟩=some (.string (ah b))∧w.drew.cell? ⟨g,off+2,none⟩=some (.string (ah c_)):=⟨HSD.call,HWT.out.drew.three⟩;clear c0 c1 c2 c3 c4 c5 c6 hlt d0 d1 d2
    go_region_held3 (fun w'=>w'.cell? ⟨xb,2,none⟩=some (.pointer (some ⟨vb,0,none⟩))∧w'.cell? ⟨g,off,none⟩=some (.string (ah a))∧w'.cell? ⟨g,off+1,none⟩=some (.string (ah b))∧w'.cell? ⟨g,off+2,none⟩=some (.string (ah c_)))
     (first
      |with_reducible assumption
      |with_reducible exact HD)
     (first
      |(go_at_call 124;(with_reducible refine(HPL.out _).mono ?_);rintro x' w2 ⟨rfl,rfl⟩)
      |(go_at_call 123;(with_reducible refine(HC.out _ HSD).mono ?_);rintro x' w3 ⟨rfl,htw,v3,hs⟩
        have h3:=HSD.two htw hs;have hst:=(bt.of_below HBD.out).trans h3.2;have hx3:w3.cell? ⟨xb,2,none⟩=some (.pointer (some ⟨vb,0,none⟩))∧w3.cell? ⟨g,off,none⟩=some (.string (ah a))∧w3.cell? ⟨g,off+1,none⟩=some (.string (ah b))∧w3.cell? ⟨g,off+2,none⟩=some (.string (ah c_)):=⟨h3.1.call,(HWT.out.stay hst).three⟩))
    have HD3:=zH h3.1;have HST:=zH hst;clear htw hs h3 hst hx3 HD HSD HBD HPL HC;go_wp2_with fail;go_at_call 20;refine(cS code _ HD3.out.et).mono ?_;rintro x' w4 ⟨rfl,hb⟩;dsimp only;exact⟨rfl,.inr ⟨HQ0.out,rfl⟩,⟨vb,sb,db,_,(HD3.out.keep hb)⟩,HST.out.trans (bt.of_below hb)⟩
  ·exact absurd hL (by simp)
 ·have hbad:gC ⟨r,z⟩ L=bad ⟨r,z⟩ 3:=by
   unfold gC;split
   ·exact absurd rfl hL
   ·rfl
  rw[hbad];have HM:=zH (cO (some ⟨g,off,none⟩) L.length c 3 w h.et (by simpa using(show(L.length:Int)≠3 by omega)));have H:=zH h;clear h hw hl hL hbad hk;unfold cG at HM;go_enter Tryz.func64,Tryz.ntmps64;go_wp2_with fail;go_at_call 17;refine HM.out.mono ?_;rintro e w0 ⟨rfl,hb⟩;dsimp only;exact⟨rfl,H.out.thrown hb dC⟩
end
section
variable {W w:World} {xb vb sb db k:Nat} {r:Ru} {z:SS} {v:Value}
theorem CQ (h:bP W xb vb sb db k r z v w) (hk:k<1000000) (g off c:Nat) (L:List (List UInt8)) (hw:eN w g off L) (hl: ∀ x∈L,x.length≤5000):
  Calls prog 68 #[.pointer (some ⟨xb,0,none⟩),.slice (some ⟨g,off,none⟩) L.length c] w (dh W w xb k (nL ⟨r,z⟩ L)):=by
 obtain⟨⟩:=gT hk hw hl
 by_cases hL:L.length=0
 ·obtain rfl:L=[]:=List.eq_nil_of_length_eq_zero hL
  clear hL hw hl;simp only[List.length_nil];have H:=zH h;have hD:nL ⟨r,z⟩ []=(⟨r,z⟩,cg [z.log]++⟨#[32]⟩++fy z.down,0):=rfl;rw[hD];have hlog:=h.sw.sx.log_;have hok:cP z.log:=⟨by omega,by omega⟩;have zj:=cC (L:=[z.log]) (by simp) (by simpa using hok);have zd:(fy z.down).size≤5:=by unfold fy;split<;>decide
  have sp:(⟨#[32]⟩:ByteArray).size=1:=rfl;have q1:=bi (cg [z.log]) ⟨#[32]⟩ oM;have q2:=bi (cg [z.log]++⟨#[32]⟩) (fy z.down) (by simp only[ByteArray.size_append];omega);have HL:=zH (fun w (h:bP W xb vb sb db k r z v w)=>Hv h.sw.sx);have HDN:=zH (fun w (h:bP W xb vb sb db k r z v w)=>FG h.sw.sx);have HJ:=zH (fun g w hw hi=>lY g [z.log] w hw hi (by simp) (by simp) (by simpa using hok));simp only[List.length_cons,List.length_nil,Nat.zero_add]at HJ;have HFB:=zH (fun w=>(show Calls prog 45 #[.bool z.down] w (fun e w'=>e=.returned (.string (fy z.down))∧w=w')from(Tryz.strconv_FormatBool z.down w).mono fun _ _ ⟨h1,h2⟩=>⟨by rw[h1];cases z.down<;>rfl,h2.symm⟩));clear h hk hD hlog hok zj zd sp;generalize cg [z.log]=jl at*;generalize fy z.down=dn at*;go_enter Tryz.func68,Tryz.ntmps68;go_wp2_with fail;go_at_call 17;refine(aY _ 0 c w).mono ?_;rintro e w0 ⟨rfl,rfl⟩;go_wp2_with fail;have HSD:=H.out.drew;have HBD:=zH (au (Below.refl w.heap.size w));have HD:w.drew.cell? ⟨xb,1,none⟩=some (.pointer (some ⟨sb,0,none⟩)):=HSD.seven.2.1
  go_region_held3 (fun w'=>w'.cell? ⟨xb,1,none⟩=some (.pointer (some ⟨sb,0,none⟩)))
   (first
    |with_reducible assumption
    |with_reducible exact HD
    |with_reducible exact(bP.seven h1).2.1
    |with_reducible exact(bP.seven h2).2.1
    |with_reducible exact(bP.seven h3).2.1
    |with_reducible exact(bP.seven h4).2.1)
   (first
    |(go_at_call 128;(with_reducible refine(HL.out _ HSD).mono ?_);rintro x' w1 ⟨rfl,hb1⟩
      have h1:=HSD.keep hb1;have hB1:=ae HBD.out hb1;have hal:=(Below.refl w1.heap.size w1).alloc (Nat.le_refl _) (.cells #[.int .i64 z.log] 3);have h2:=h1.keep hal;have hB2:=ae hB1 hal;have hi2:=kx w1 3 z.log)
    |(go_at_call 121;(with_reducible refine(HJ.out _ _ h2.env.wb hi2).mono ?_);rintro x' w3 ⟨rfl,hb3⟩
      have h3:=h2.keep hb3;have hB3:=ae hB2 hb3)
    |(go_at_call 129;(with_reducible refine(HDN.out _ h3).mono ?_);rintro x' w4 ⟨rfl,hb4⟩
      have h4:=h3.keep hb4;have hB4:=ae hB3 hb4)
    |(go_at_call 45;(with_reducible refine(HFB.out _).mono ?_);rintro x' w5 ⟨rfl,rfl⟩))
  have HB:=zH hB4;clear HD HSD HBD hB4 h4 h3 h2 h1 hB3 hB2 hB1;go_wp2_with fail;go_ret;exact H.out.told HB.out _
 ·have hbad:nL ⟨r,z⟩ L=bad ⟨r,z⟩ 3:=by
   unfold nL;split
   ·exact absurd rfl hL
   ·rfl
  rw[hbad];have HM:=zH (cO (some ⟨g,off,none⟩) L.length c 0 w h.et (by simpa using(show(L.length:Int)≠0 by omega)));have H:=zH h;clear h hw hl hL hbad hk;unfold cG at HM;go_enter Tryz.func68,Tryz.ntmps68;go_wp2_with fail;go_at_call 17;refine HM.out.mono ?_;rintro e w0 ⟨rfl,hb⟩;dsimp only;exact⟨rfl,H.out.thrown hb dC⟩
end
theorem CT {r:Ru} {s:St} (h:iQ s) (t:ByteArray) (kind:Int):jo (gO r s t kind).f:=by
 unfold gO;split
 ·exact jo.zero
 ·split
  ·exact jo.zero
  ·split
   ·exact jo.zero
   ·rename_i f hf
    have hm:f∈s.fams:=List.mem_of_find?_eq_some hf;split
    ·exact jo.zero
    ·split
     ·exact jo.zero
     ·exact jo.of (h.fams f hm)
theorem rW {r:Ru} {s:St} (h:iQ s) (t:ByteArray):jo (iI r s t).1:=by
 unfold iI Ae;split
 ·exact jo.zero
 ·split
  ·exact jo.zero
  ·split
   ·exact jo.zero
   ·exact CT h t 2
section
variable {W w:World} {xb vb sb db k:Nat} {r:Ru} {z:SS} {v:Value}
theorem AY (h:bP W xb vb sb db k r z v w) (hk:k<1000000) (g off c:Nat) (L:List (List UInt8)) (hw:eN w g off L) (hl: ∀ x∈L,x.length≤5000):
  Calls prog 73 #[.pointer (some ⟨xb,0,none⟩),.slice (some ⟨g,off,none⟩) L.length c] w (dh W w xb k (jJ ⟨r,z⟩ L)):=by
 obtain⟨⟩:=gT hk hw hl
 by_cases hL:L.length=1
 ·rcases L with _|⟨a,_|⟨_,L⟩⟩
  ·exact absurd hL (by simp)
  ·clear hL
   have HWT:=zH hw;have d0:=hw.2 0 a rfl;have l0:=hl a (by simp);simp only[Nat.add_zero,List.length_cons,List.length_nil,Nat.zero_add]at*;clear hw hl;have H:=zH h;have HC:=zH (fun w (h:bP W xb vb sb db k r z v w)=>Ft h.sw (ah a) (by rw[av];exact l0));have HFI:=zH (rW (r:=r) h.sw.sx.fit (ah a));unfold uJ at HC;have hD:jJ ⟨r,z⟩ [a]=(⟨r,z⟩,iE (iI r z.s (ah a)).1,(iI r z.s (ah a)).2):=rfl;rw[hD];clear hD;generalize iI r z.s (ah a)=Q at*;obtain⟨fm,code⟩:=Q;dsimp only at HC HFI ⊢;have HFM:=zH (fun w hw=>pB fm w HFI.out hw);have HSZ:=zH (j5 HFI.out);generalize hft:iE fm=ft at*;clear hft;obtain⟨fi,fcl,fsu,fsc,fge,fma,fus,fre,fde⟩:=fm;unfold aO af at HC HFM;dsimp only at HC HFM;obtain⟨c0,c1,c2,c3,c4,c5,c6,hlt⟩:=h.seven;clear h hk;go_enter Tryz.func73,Tryz.ntmps73;go_wp2_with fail;go_at_call 17;refine(aY _ 1 c w).mono ?_;rintro e w0 ⟨rfl,rfl⟩;go_wp2_with fail;have HSD:Below w.heap.size w w.drew:=au (Below.refl w.heap.size w);clear c0 c1 c2 c3 c4 c5 c6 hlt d0;refine aR (fun w'=>Below w.heap.size w w') [] kR ?_;refine aa 16 (i:=0) (v:= ?v0_1) rfl kR kR kR kR kR (fun _ _ _ h=>h) (by rfl) ?hy0_1 HSD ?rest0_1
   case hy0_1=>(intro w hSw;obtain⟨c0,c1,c2,c3,c4,c5,c6,hlt⟩:=bP.seven (H.out.keep hSw);have d0:=eN.one (HWT.out.keep hSw);go_simp;(try with_reducible rfl))
   simp only[Act.put];refine aa 16 (i:=1) (v:= ?v1_2) rfl kR kR kR kR kR (fun _ _ _ h=>h) (by rfl) ?hy1_2 HSD ?rest1_2
   case hy1_2=>(intro w hSw;obtain⟨c0,c1,c2,c3,c4,c5,c6,hlt⟩:=bP.seven (H.out.keep hSw);have d0:=eN.one (HWT.out.keep hSw);go_simp;(try with_reducible rfl))
   simp only[Act.put];refine aa 16 (i:=2) (v:= ?v2_3) rfl kR kR kR kR kR (fun _ _ _ h=>h) (by rfl) ?hy2_3 HSD ?rest2_3
   case hy2_3=>(intro w hSw;obtain⟨c0,c1,c2,c3,c4,c5,c6,hlt⟩:=bP.seven (H.out.keep hSw);have d0:=eN.one (HWT.out.keep hSw);go_simp;(try with_reducible rfl))
   simp only[Act.put];refine aa 16 (i:=3) (v:= ?v3_4) rfl kR kR kR kR kR (fun _ _ _ h=>h) (by rfl) ?hy3_4 HSD ?rest3_4
   case hy3_4=>(intro w hSw;obtain⟨c0,c1,c2,c3,c4,c5,c6,hlt⟩:=bP.seven (H.out.keep hSw);have d0:=eN.one (HWT.out.keep hSw);go_simp;(try with_reducible rfl))
   simp only[Act.put];refine aa 16 (i:=4) (v:= ?v4_5) rfl kR kR kR kR kR (fun _ _ _ h=>h) (by rfl) ?hy4_5 HSD ?rest4_5
   case hy4_5=>(intro w hSw;obtain⟨c0,c1,c2,c3,c4,c5,c6,hlt⟩:=bP.seven (H.out.keep hSw);have d0:=eN.one (HWT.out.keep hSw);go_simp;(try with_reducible rfl))
   simp only[Act.put];refine aa 16 (i:=5) (v:= ?v5_6) rfl kR kR kR kR kR (fun _ _ _ h=>h) (by rfl) ?hy5_6 HSD ?rest5_6
   case hy5_6=>(intro w hSw;obtain⟨c0,c1,c2,c3,c4,c5,c6,hlt⟩:=bP.seven (H.out.keep hSw);have d0:=eN.one (HWT.out.keep hSw);go_simp;(try with_reducible rfl))
   simp only[Act.put];refine aa 16 (i:=6) (v:= ?v6_7) rfl kR kR kR kR kR (fun _ _ _ h=>h) (by rfl) ?hy6_7 HSD ?rest6_7
   case hy6_7=>(intro w hSw;obtain⟨c0,c1,c2,c3,c4,c5,c6,hlt⟩:=bP.seven (H.out.keep hSw);have d0:=eN.one (HWT.out.keep hSw);go_simp;(try with_reducible rfl))
   simp only[Act.put];refine fA (i:=7) (j:=11) kR rfl rfl ?_ ?_
   ·intro K7 hK7
    go_simp;go_at_call 133;refine(HC.out _ (H.out.keep HSD)).mono ?_;rintro x' w2 ⟨rfl,hb⟩;dsimp only;have hB2:=ae HSD hb;refine hK7.out _ _ (fun _=>hB2) ?_
    try simp only[Act.put]
    refine aa 16 (i:=8) (v:= ?v8_8) rfl kR kR kR kR kR (fun _ _ _ h=>h) (by rfl) ?hy8_8 hB2 ?rest8_8
    case hy8_8=>(intro w hSw;go_simp;(try with_reducible rfl))
    simp only[Act.put];refine aa 16 (i:=9) (v:= ?v9_9) rfl kR kR kR kR kR (fun _ _ _ h=>h) (by rfl) ?hy9_9 hB2 ?rest9_9
    case hy9_9=>(intro w hSw;go_simp;(try with_reducible rfl))
    simp only[Act.put];refine aa 16 (i:=10) (v:= ?v10_10) rfl kR kR kR kR kR (fun _ _ _ h=>h) (by rfl) ?hy10_10 hB2 ?rest10_10
    case hy10_10=>(intro w hSw;go_simp;(try with_reducible rfl))
    simp only[Act.put];refine ai (i:=11) kR rfl ?_;intro K8 hK8;go_simp;have hal:=(Below.refl w2.heap.size w2).alloc (Nat.le_refl _) (.cells #[.int .i64 0,.string ⟨#[]⟩,.string ⟨#[]⟩,.string ⟨#[]⟩,.int .i64 0,.int .i64 0,.int .i64 0,.string ⟨#[]⟩,.bool false] 95);have hB3:=ae hB2 hal;have hq3:=aj.new w2 95 #[.int .i64 0,.string ⟨#[]⟩,.string ⟨#[]⟩,.string ⟨#[]⟩,.int .i64 0,.int .i64 0,.int .i64 0,.string ⟨#[]⟩,.bool false];refine hK8.out _ _ (fun _=>hB3) ?_
    try simp only[Act.put]
    refine ai (i:=12) kR rfl ?_;intro K9 hK9;rw[if_pos (by rfl)];refine wp_store_row 95 _ _ rfl (w2.heap.size) #[.int .i64 fi,.string fcl,.string fsu,.string fsc,.int .i64 fge,.int .i64 fma,.int .i64 fus,.string fre,.bool fde] rfl rfl 95 _ hq3 kR rfl (by simp[Value.oneCell']) ?_;obtain⟨w5,-,e5,q5,g5⟩:=fF (P:=prog) (ty:=95) (cells:=#[.int .i64 fi,.string fcl,.string fsu,.string fsc,.int .i64 fge,.int .i64 fma,.int .i64 fus,.string fre,.bool fde]) hq3 kR rfl (by simp[Value.oneCell']);have HB5:=zH (hB3.grown g5 hB3.size (fun i hi=>by cases hi;exact hB2.size));have HQ5:=zH q5;refine hK9.out _ _ (fun _=>by rw[←e5];exact HB5.out) ?_
    try simp only[Act.put]
    refine ai (i:=13) kR rfl ?_;intro K10 hK10;go_simp
    try dsimp only
    refine hK10.out _ _ (fun _=>by rw[←e5];exact HB5.out) ?_;refine aX kR ?_ _;rw[←e5];clear e5 q5 g5
    by_cases hq:code=0
    ·subst hq
     obtain⟨y0,y1,y2,y3,y4,y5,y6,y7,y8⟩:=aA HQ5.out;rw[cH];go_wp2_with fail;go_at_call 20;refine(bR _).mono ?_;rintro x' w6 ⟨rfl,rfl⟩;dsimp only;go_wp2_with fail;go_at_call 122;refine(HFM.out _ (H.out.keep HB5.out).env.wb).mono ?_;rintro x' w7 ⟨rfl,hb7⟩;have HB7:=zH (ae HB5.out hb7);clear hb7 y0 y1 y2 y3 y4 y5 y6 y7 y8;go_wp2_with fail;go_ret;exact H.out.told HB7.out _
    ·rw[aP hq]
     have HQ0:=zH hq;clear hq;go_wp2_with fail;go_at_call 20;refine(cS code _ (H.out.keep HB5.out).et).mono ?_;rintro x' w6 ⟨rfl,hb⟩;dsimp only;exact⟨rfl,H.out.thrown (ae HB5.out hb) HQ0.out⟩
   ·intro K7 hK7
    go_simp;have hal:=(Below.refl w.drew.heap.size w.drew).alloc (Nat.le_refl _) (.cells #[.int .i64 0,.string ⟨#[]⟩,.string ⟨#[]⟩,.string ⟨#[]⟩,.int .i64 0,.int .i64 0,.int .i64 0,.string ⟨#[]⟩,.bool false] 95);have hB1:=ae HSD hal;have hq1:aj (w.drew.alloc (.cells #[.int .i64 0,.string ⟨#[]⟩,.string ⟨#[]⟩,.string ⟨#[]⟩,.int .i64 0,.int .i64 0,.int .i64 0,.string ⟨#[]⟩,.bool false] 95)) w.heap.size 95 #[.int .i64 0,.string ⟨#[]⟩,.string ⟨#[]⟩,.string ⟨#[]⟩,.int .i64 0,.int .i64 0,.int .i64 0,.string ⟨#[]⟩,.bool false]:=aj.new w.drew 95 #[.int .i64 0,.string ⟨#[]⟩,.string ⟨#[]⟩,.string ⟨#[]⟩,.int .i64 0,.int .i64 0,.int .i64 0,.string ⟨#[]⟩,.bool false];refine hK7.out _ _ (fun _=>hB1) ?_
    try simp only[Act.put]
    refine ai (i:=7) kR rfl ?_;intro K8 hK8;go_simp;go_at_call 133;refine(HC.out _ (H.out.keep hB1)).mono ?_;rintro x' w2 ⟨rfl,hb⟩;dsimp only;have hB2:=ae hB1 hb;have hq2:=hq1.below' hb;refine hK8.out _ _ (fun _=>hB2) ?_
    try simp only[Act.put]
    refine aa 16 (i:=8) (v:= ?v8_11) rfl kR kR kR kR kR (fun _ _ _ h=>h) (by rfl) ?hy8_11 hB2 ?rest8_11
    case hy8_11=>(intro w hSw;go_simp;(try with_reducible rfl))
    simp only[Act.put];refine aa 16 (i:=9) (v:= ?v9_12) rfl kR kR kR kR kR (fun _ _ _ h=>h) (by rfl) ?hy9_12 hB2 ?rest9_12
    case hy9_12=>(intro w hSw;go_simp;(try with_reducible rfl))
    simp only[Act.put];refine aa 16 (i:=10) (v:= ?v10_13) rfl kR kR kR kR kR (fun _ _ _ h=>h) (by rfl) ?hy10_13 hB2 ?rest10_13
    case hy10_13=>(intro w hSw;go_simp;(try with_reducible rfl))
    simp only[Act.put];refine ai (i:=12) kR rfl ?_;intro K9 hK9;rw[if_pos (by rfl)];refine wp_store_row 95 _ _ rfl (w.heap.size) #[.int .i64 fi,.string fcl,.string fsu,.string fsc,.int .i64 fge,.int .i64 fma,.int .i64 fus,.string fre,.bool fde] rfl rfl 95 _ hq2 kR rfl (by simp[Value.oneCell']) ?_;obtain⟨w5,-,e5,q5,g5⟩:=fF (P:=prog) (ty:=95) (cells:=#[.int .i64 fi,.string fcl,.string fsu,.string fsc,.int .i64 fge,.int .i64 fma,.int .i64 fus,.string fre,.bool fde]) hq2 kR rfl (by simp[Value.oneCell']);have HB5:=zH (hB2.grown g5 hB2.size (fun i hi=>by cases hi;exact Nat.le_refl _));have HQ5:=zH q5;refine hK9.out _ _ (fun _=>by rw[←e5];exact HB5.out) ?_
    try simp only[Act.put]
    refine ai (i:=13) kR rfl ?_;intro K10 hK10;go_simp
    try dsimp only
    refine hK10.out _ _ (fun _=>by rw[←e5];exact HB5.out) ?_;refine aX kR ?_ _;rw[←e5];clear e5 q5 g5
    by_cases hq:code=0
    ·subst hq
     obtain⟨y0,y1,y2,y3,y4,y5,y6,y7,y8⟩:=aA HQ5.out;rw[cH];go_wp2_with fail;go_at_call 20;refine(bR _).mono ?_;rintro x' w6 ⟨rfl,rfl⟩;dsimp only;go_wp2_with fail;go_at_call 122;refine(HFM.out _ (H.out.keep HB5.out).env.wb).mono ?_;rintro x' w7 ⟨rfl,hb7⟩;have HB7:=zH (ae HB5.out hb7);clear hb7 y0 y1 y2 y3 y4 y5 y6 y7 y8;go_wp2_with fail;go_ret;exact H.out.told HB7.out _
    ·rw[aP hq]
     have HQ0:=zH hq;clear hq;go_wp2_with fail;go_at_call 20;refine(cS code _ (H.out.keep HB5.out).et).mono ?_;rintro x' w6 ⟨rfl,hb⟩;dsimp only;exact⟨rfl,H.out.thrown (ae HB5.out hb) HQ0.out⟩
  ·exact absurd hL (by simp)
 ·have hbad:jJ ⟨r,z⟩ L=bad ⟨r,z⟩ 3:=by
   unfold jJ;split
   ·exact absurd rfl hL
   ·rfl
  rw[hbad];have HM:=zH (cO (some ⟨g,off,none⟩) L.length c 1 w h.et (by simpa using(show(L.length:Int)≠1 by omega)));have H:=zH h;clear h hw hl hL hbad hk;unfold cG at HM;go_enter Tryz.func73,Tryz.ntmps73;go_wp2_with fail;go_at_call 17;refine HM.out.mono ?_;rintro e w0 ⟨rfl,hb⟩;dsimp only;exact⟨rfl,H.out.thrown hb dC⟩
end
theorem nw {r:Ru} {s:St} {q:Int×Int×Int×Int×Int} {kind:Int} (h:co r s q kind=0):ip s q kind=dI s q:=by
 unfold co at h;unfold ip dI
 by_cases h1:q.1≠0
 ·rw[if_pos h1]at h
  exact absurd h h1
 ·rw[if_neg h1,if_neg h1]
  by_cases h2:q.2.1≠kind
  ·rw[if_neg h1,if_pos h2]at h
   cases h
  ·rw[if_neg h2]
section
variable {W:World} {B qb rb:Nat} {r:Ru} {z:SS} {v:Value}
theorem Ed (h:RV B qb rb r z v W) (hz:RZ r z) (t:ByteArray) (ht:t.size≤5000):
  Calls prog 37 #[.pointer (some ⟨qb,0,none⟩),.string t] W fun e w'=>e=.returned (.tuple #[.string (jL r z.s t).1,.int .i64 (jL r z.s t).2])∧Below W.heap.size W w':=by
 have HL:=zH (fun w v (h:RV B qb rb r z v w)=>oR h hz t 1 ht);have hfit:=hz.fit;have hru:=i1 hz.ru;rw[xY];have hll:=fun hh:co r z.s (a8 r t) 1=0=>nw hh
 have hmem:co r z.s (a8 r t) 1=0→gy (dI z.s (a8 r t))=true:=fun hh=>hfit.fams _ (ib hh).2.2.2.1
 have H:=zH h;unfold lC v4 at HL;clear h;generalize co r z.s (a8 r t) 1=le at*;generalize dI z.s (a8 r t)=f at*;generalize ip z.s (a8 r t) 1=lf at*;generalize a8 r t=q at*;obtain⟨qe,qk,qf,qg,qd⟩:=q;dsimp only at HL ⊢;go_enter Tryz.func37,Tryz.ntmps37;go_wp2_with fail;go_at_call 87;refine(HL.out _ _ H.out).mono ?_;rintro e w1 ⟨rfl,hb⟩;have H1:=zH (H.out.keep hb);have HB1:=zH hb;clear hb HL H
 by_cases hle:le=0
 ·obtain rfl:=hll hle
  have hfb:=hmem hle;subst hle;have hpt:=bo hfb;obtain⟨i,cl,su,scp,ge,ma,us,re,de⟩:=lf;unfold aO af;dsimp only at hpt ⊢;have hal:=bZ w1 (.cells #[.int .i64 qk,.int .i64 qf,.int .i64 qg,.int .i64 qd] 109) (.cells #[.int .i64 i,.string cl,.string su,.string scp,.int .i64 ge,.int .i64 ma,.int .i64 us,.string re,.bool de] 95);have HB2:=zH (ae HB1.out hal)
  by_cases h1:ge<qg
  ·have hv:gU r 0 ⟨i,cl,su,scp,ge,ma,us,re,de⟩ qg z.s.clock=(aI,2):=by unfold gU;rw[if_neg (fun h=>h rfl),if_pos h1]
   have HV:=zH hv;clear hv hll hmem hal;go_wp2_with fail;go_ret2;rw[HV.out];exact⟨rfl,HB2.out⟩
  ·by_cases h2:qg<ge
   ·have hv:gU r 0 ⟨i,cl,su,scp,ge,ma,us,re,de⟩ qg z.s.clock=(aI,8):=by unfold gU;rw[if_neg (fun h=>h rfl),if_neg h1,if_pos h2]
    have HV:=zH hv;clear hv hll hmem hal;go_wp2_with fail;go_ret2;rw[HV.out];exact⟨rfl,HB2.out⟩
   ·have hv:gU r 0 ⟨i,cl,su,scp,ge,ma,us,re,de⟩ qg z.s.clock=(jT r.key 2 i ge (cK z.s.clock r.access),0):=by unfold gU;rw[if_neg (fun h=>h rfl),if_neg h1,if_neg h2]
    have HV:=zH hv;have HAD:=zH (fun w=>uS z.s.clock r.access w (az.1 hfit.clock) (az.1 hru.2.2.2));have HWR:=zH (fun w (h:RV B qb rb r z v w)=>cu r.key 2 i ge (cK z.s.clock r.access) w h.env.tens h.tab (tY hpt.1 hpt.2.1 (uV hfit.clock hru.2.2.2)) (.inr ⟨rfl,(uV hfit.clock hru.2.2.2)⟩));unfold v4 at HWR;generalize jT r.key 2 i ge (cK z.s.clock r.access)=x at*;generalize cK z.s.clock r.access=cn at*;have H2:=zH (H1.out.keep hal)
    have hg2:aj ((w1.alloc (.cells #[.int .i64 qk,.int .i64 qf,.int .i64 qg,.int .i64 qd] 109)).alloc (.cells #[.int .i64 i,.string cl,.string su,.string scp,.int .i64 ge,.int .i64 ma,.int .i64 us,.string re,.bool de] 95)) (w1.heap.size+1) 95 #[.int .i64 i,.string cl,.string su,.string scp,.int .i64 ge,.int .i64 ma,.int .i64 us,.string re,.bool de]:=by
     have:=aj.new (w1.alloc (.cells #[.int .i64 qk,.int .i64 qf,.int .i64 qg,.int .i64 qd] 109)) 95 #[.int .i64 i,.string cl,.string su,.string scp,.int .i64 ge,.int .i64 ma,.int .i64 us,.string re,.bool de];rw[show(w1.alloc (.cells #[.int .i64 qk,.int .i64 qf,.int .i64 qg,.int .i64 qd] 109)).heap.size=w1.heap.size+1 by simp]at this;exact this
    have HG2:=zH hg2;clear hv hll hmem hal hg2 hfb hpt hru hfit H1;go_wp2_with fail;generalize (w1.alloc (.cells #[.int .i64 qk,.int .i64 qf,.int .i64 qg,.int .i64 qd] 109)).alloc (.cells #[.int .i64 i,.string cl,.string su,.string scp,.int .i64 ge,.int .i64 ma,.int .i64 us,.string re,.bool de] 95)=w2 at*;generalize w1.heap.size+1=fb at*;have HSD:=H2.out.drew;have HGD:aj w2.drew fb 95 #[.int .i64 i,.string cl,.string su,.string scp,.int .i64 ge,.int .i64 ma,.int .i64 us,.string re,.bool de]:=HG2.out;have HBD:=au HB2.out;have HD:w2.drew.cell? ⟨qb,0,none⟩=some (.pointer (some ⟨rb,0,none⟩))∧w2.drew.cell? ⟨qb,1,none⟩=some (.int .i64 r.key)∧w2.drew.cell? ⟨qb,4,none⟩=some (.int .i64 r.access)∧w2.drew.cell? ⟨rb,0,none⟩=some (.int .i64 z.s.clock)∧w2.drew.cell? ⟨fb,0,none⟩=some (.int .i64 i)∧w2.drew.cell? ⟨fb,4,none⟩=some (.int .i64 ge):=⟨HSD.five.1,HSD.five.2.1,HSD.five.2.2.2.2.1,HSD.three.1,HGD.cell 0,HGD.cell 4⟩
    go_region_held3 (fun w'=>w'.cell? ⟨qb,0,none⟩=some (.pointer (some ⟨rb,0,none⟩))∧w'.cell? ⟨qb,1,none⟩=some (.int .i64 r.key)∧w'.cell? ⟨qb,4,none⟩=some (.int .i64 r.access)∧w'.cell? ⟨rb,0,none⟩=some (.int .i64 z.s.clock)∧w'.cell? ⟨fb,0,none⟩=some (.int .i64 i)∧w'.cell? ⟨fb,4,none⟩=some (.int .i64 ge))
     (first
      |with_reducible assumption
      |with_reducible exact HD)
     (first
      |(go_at_call 89;(with_reducible refine(HAD.out _).mono ?_);rintro x' w3 ⟨rfl,rfl⟩)
      |(go_at_call 49;(with_reducible refine(HWR.out _ HSD).mono ?_);rintro x' w4 ⟨rfl,hb4⟩
        have hs4:=HSD.keep hb4;have hk:=HGD.below' hb4;have hbe:=ae HBD hb4;have hx4:w4.cell? ⟨qb,0,none⟩=some (.pointer (some ⟨rb,0,none⟩))∧w4.cell? ⟨qb,1,none⟩=some (.int .i64 r.key)∧w4.cell? ⟨qb,4,none⟩=some (.int .i64 r.access)∧w4.cell? ⟨rb,0,none⟩=some (.int .i64 z.s.clock)∧w4.cell? ⟨fb,0,none⟩=some (.int .i64 i)∧w4.cell? ⟨fb,4,none⟩=some (.int .i64 ge):=⟨hs4.five.1,hs4.five.2.1,hs4.five.2.2.2.2.1,hs4.three.1,hk.cell 0,hk.cell 4⟩))
    go_wp2_with fail;go_ret2;rw[HV.out];exact⟨rfl,hbe⟩
 ·have hv:gU r le f qg z.s.clock=(aI,le):=by unfold gU;rw[if_pos hle]
  have HV:=zH hv;obtain⟨i,cl,su,scp,ge,ma,us,re,de⟩:=lf;unfold aO af;dsimp only;have hal:=bZ w1 (.cells #[.int .i64 qk,.int .i64 qf,.int .i64 qg,.int .i64 qd] 109) (.cells #[.int .i64 i,.string cl,.string su,.string scp,.int .i64 ge,.int .i64 ma,.int .i64 us,.string re,.bool de] 95);have HB2:=zH (ae HB1.out hal);clear hv hll hmem hal;go_wp2_with fail;go_ret2;rw[HV.out];exact⟨rfl,HB2.out⟩
end
end Go.Proofs.YtepjcdjpikbbjaaGreatDoor
