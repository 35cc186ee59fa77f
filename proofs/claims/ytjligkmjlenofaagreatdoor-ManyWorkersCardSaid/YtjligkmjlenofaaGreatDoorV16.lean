/- Part of the proof. -/
import Derived.Test.YtjligkmjlenofaaGreatDoorV13
set_option maxHeartbeats 4000000
set_option maxRecDepth 100000
open List renaming length_nil->ajE,length_cons->agj,mem_of_find?_eq_some->amu,size_toArray->akX
open Go.Act renaming put->agu
open ByteArray renaming size_append->akI
open Nat renaming zero_add->ahq,add_zero->ake,le_trans->aiC,reduceAdd->alI
open Go.World renaming block_lt_of_cell?->acC
open Go renaming World->aah,Value->aai,wpS_region->amH,wpS_seq->amJ
open Go.Value renaming oneCell'->amg,ownBlock->akw
open Go.Exit renaming thenS->amI
open Option.some renaming injEq->akk
namespace Go.Proofs.YtjligkmjlenofaaGreatDoor
open Go.Proofs.Tryz
open Go.RowKit Go.Sort
variable{key a b c x:Int}
section
variable{W w:aah}{xb vb sb db k:Nat}{r:Ru}{z:SS}{v:aai}
theorem Rs(h:dW W xb vb sb db k r z v w)(hk:k<1000000)(g off c:Nat)(L:List BL)(hw:iG w g off L)(hl:∀x∈L,x.length<=5000):
  Calls prog 68 #[.pointer (some ⟨xb,0,none⟩),.slice (some ⟨g,off,none⟩) L.length c] w (eL W w xb k (sS ⟨r,z⟩ L)):=by
 obtain⟨⟩:=lB hk hw hl
 by_cases hL:L.length=1
 ·rcases L with _|⟨a,_|⟨_,L⟩⟩
  ·exact absurd hL sP
  ·clear hL
   have sZ:=zH hw;have d0:=hw.2 0 a rfl;have l0:=hl a sP;simp only[ake,agj,ajE,ahq]at*;clear hw hl;have H:=zH h;rcases hn:aZ a with _|_
   ·have qE:sS ⟨r,z⟩ [a]=bad ⟨r,z⟩ 3:=by show(if aZ a=true then _ else _)=_;rw[hn];rfl
    (rw[qE];have HN:=zH (fun w (h:dW W xb vb sb db k r z v w)=>j6 (aq a) w (by rw[aK];omega) h.env.cq h.env.iE h.et h.Ul (by rw[an];exact hn));unfold dF at HN;obtain⟨c0,c1,c2,c3,c4,c5,c6,aE⟩:=h.seven;clear qE hn h hk);go_in;go_wp2_with fail;refine(bu _ 1 c w).mono ?_;rintro e w0 ⟨rfl,rfl⟩;go_wp2_with fail;have a8:dW W xb vb sb db k r z v w.drew/\w.drew.cell? ⟨g,off,none⟩=some (.string (aq a)):=⟨H.O.drew,d0⟩;have jV:=zH (bB (Below.refl w.heap.size w));clear c0 c1 c2 c3 c4 c5 c6 aE d0;refine bC (fun w'=>dW W xb vb sb db k r z v w'/\w'.cell? ⟨g,off,none⟩=some (.string (aq a))) [8,9] kR ?_;refine aV 16 0 a8 ?_;refine aV 16 1 a8 ?_;refine aV 16 2 a8 ?_;refine aV 16 3 a8 ?_;refine aV 16 4 a8 ?_;refine aV 16 5 a8 ?_;refine aV 16 6 a8 ?_;refine aB 7 ?_;intro K7 Iz;go_simp;refine(HN.O _ a8.1).mono ?_;rintro x' w2 ⟨rfl,hb⟩;dsimp only;exact⟨rfl,H.O.cu (below_2 jV.O hb) dC⟩
   ·have uh:sS ⟨r,z⟩ [a]=(⟨r,(bp () z (py z.s (aa a))).1⟩,aq qH,(bp () z (py z.s (aa a))).2.2):=by show(if aZ a=true then _ else _)=_;rw[hn];rfl
    (rw[uh];have HN:=zH (fun w (h:dW W xb vb sb db k r z v w)=>iI (aq a) w (by rw[aK];omega) h.env.cq (by rw[an];exact hn));rw[an]at HN;generalize aa a=n at*;obtain⟨c0,c1,c2,c3,c4,c5,c6,aE⟩:=h.seven;have HC:=zH (fun w (h:dW W xb vb sb db k r z v w)=>(Ye h.sw hk n));clear hk;unfold ny at HC;generalize bp () z (py z.s n)=Q at*;clear uh hn h);go_in;(go_wp2_with fail;refine(bu _ 1 c w).mono ?_;rintro e w0 ⟨rfl,rfl⟩;go_wp2_with fail;have a8:dW W xb vb sb db k r z v w.drew/\w.drew.cell? ⟨g,off,none⟩=some (.string (aq a)):=⟨H.O.drew,d0⟩;have jV:=zH (bB (Below.refl w.heap.size w));clear c0 c1 c2 c3 c4 c5 c6 aE d0;refine bC (fun w'=>dW W xb vb sb db k r z v w'/\w'.cell? ⟨g,off,none⟩=some (.string (aq a))) [8,9] kR ?_;refine aV 16 0 a8 ?_;refine aV 16 1 a8 ?_;refine aV 16 2 a8 ?_;refine aV 16 3 a8 ?_;refine aV 16 4 a8 ?_;refine aV 16 5 a8 ?_;refine aV 16 6 a8 ?_;refine aB 7 ?_;intro K7 Iz;go_simp;refine(HN.O _ a8.1).mono ?_;rintro x' w2 ⟨rfl,hb⟩;dsimp only;have xV:dW W xb vb sb db k r z v w2/\w2.cell? ⟨g,off,none⟩=some (.string (aq a)):=⟨a8.1.keep hb,by rw[hb.cell (p:=⟨g,off,none⟩) (acC _ _ a8.2)];exact a8.2⟩;have gS:=zH (below_2 jV.O hb);refine Iz.O _ _ (fun _=>xV) ?_);(try simp only[agu]);(clear a8 jV hb;refine aB 8 ?_;intro K8 KD;go_simp;refine(HC.O _ xV.1).mono ?_;rintro x' w3 ⟨he,dX,v3,hs⟩;have h3:=xV.1.two dX hs;have oQ:=zH h3.1;have gJ:=zH ((bT.aG gS.O).T h3.2);clear hs dX h3 xV gS);by_cases hq:Q.2.2=0
    ·rw[hq,dG]at he
     (subst he;have mR:=zH hq;clear hq);(try dsimp only);(refine KD.O _ _ (fun h=>absurd h dC) ?_);(try simp only[agu]);refine aB 9 ?_;intro K9 KE;go_simp;refine(cE _).mono ?_;rintro x' w4 ⟨rfl,rfl⟩;(try dsimp only);refine KE.O _ _ (fun h=>absurd h dC) ?_;refine bJ kR ?_ _;go_wp2_with fail;go_ret;exact⟨.inl ⟨mR.O,rfl⟩,⟨vb,sb,db,_,oQ.O⟩,gJ.O⟩
    ·rw[aY hq]at he
     (subst he;have mR:=zH hq;clear hq;have HMN:=zH (dY Q.2.2 w3 oQ.O.et);unfold dF at HMN);(try dsimp only);(refine KD.O _ _ (fun h=>absurd h dC) ?_);(try simp only[agu]);refine aB 9 ?_;intro K9 KE;go_simp;refine HMN.O.mono ?_;rintro x' w4 ⟨rfl,hb⟩;dsimp only;exact⟨rfl,.inr ⟨mR.O,rfl⟩,⟨vb,sb,db,_,(oQ.O.keep hb)⟩,gJ.O.T (bT.aG hb)⟩
  ·exact absurd hL sP
 ·have cT:sS ⟨r,z⟩ L=bad ⟨r,z⟩ 3:=by
   unfold sS;split;(·exact absurd rfl hL)
   ·rfl
  rw[cT];have HM:=zH (dS (some ⟨g,off,none⟩) L.length c 1 w h.et (by simpa using(show(L.length:Int)≠1 by omega)));have H:=zH h;clear h hw hl hL cT hk;unfold dF at HM
  go_in
  go_wp2_with fail;refine HM.O.mono ?_;rintro e w0 ⟨rfl,hb⟩;dsimp only;exact⟨rfl,H.O.cu hb dC⟩
end
section
variable{W w:aah}{xb vb sb db k:Nat}{r:Ru}{z:SS}{v:aai}
theorem Kb(h:dW W xb vb sb db k r z v w)(hk:k<1000000)(g off c:Nat)(L:List BL)(hw:iG w g off L)(hl:∀x∈L,x.length<=5000):
  Calls prog 73 #[.pointer (some ⟨xb,0,none⟩),.slice (some ⟨g,off,none⟩) L.length c] w (eL W w xb k (kL ⟨r,z⟩ L)):=by
 obtain⟨⟩:=lB hk hw hl
 by_cases hL:L.length=3
 ·rcases L with _|⟨a,_|⟨b,_|⟨c_,_|⟨_,L⟩⟩⟩⟩
  ·exact absurd hL sP
  ·exact absurd hL sP
  ·exact absurd hL sP
  ·clear hL
   (have sZ:=zH hw;have d0:=hw.2 0 a rfl;have d1:=hw.2 1 b rfl;have d2:=hw.2 2 c_ rfl;have l0:=hl a sP;have l1:=hl b sP;have l2:=hl c_ sP;simp only[ake,agj,ajE,ahq,alI]at*;clear hw hl;have H:=zH h;have PI:=zH (fun w=>wH (aq c_) w);have HC:=zH (fun w (h:dW W xb vb sb db k r z v w)=>O5 h.sw hk (aq a) (aq b) (ef (aq c_)) (by rw[aK];exact l0) (by rw[aK];exact l1) (uC _ (by rw[aK];exact l2)));unfold eT at HC;have hD:kL ⟨r,z⟩ [a,b,c_]=(⟨r,(bp bG z (iW r z.s (aq a) (aq b) (ef (aq c_)))).1⟩,(bp bG z (iW r z.s (aq a) (aq b) (ef (aq c_)))).2):=rfl;rw[hD];clear hD;generalize bp bG z (iW r z.s (aq a) (aq b) (ef (aq c_)))=Q at*;generalize ef (aq c_)=pc at*;obtain⟨z9,got,code⟩:=Q;dsimp only at HC ⊢;obtain⟨c0,c1,c2,c3,c4,c5,c6,aE⟩:=h.seven;clear h hk);by_cases hq:code=0
   ·subst hq
    rw[dG]at HC;go_in;go_wp2_with fail;refine(bu _ 3 c w).mono ?_;rintro e w0 ⟨rfl,rfl⟩;go_wp2_with fail;have a8:=H.O.drew;have jV:=zH (bB (Below.refl w.heap.size w));have HD:w.drew.cell? ⟨xb,2,none⟩=some (.pointer (some ⟨vb,0,none⟩))/\w.drew.cell? ⟨g,off,none⟩=some (.string (aq a))/\w.drew.cell? ⟨g,off+1,none⟩=some (.string (aq b))/\w.drew.cell? ⟨g,off+2,none⟩=some (.string (aq c_)):=⟨a8.call,sZ.O.drew.three⟩;clear c0 c1 c2 c3 c4 c5 c6 aE d0 d1 d2
    go_region_held3 (fun w'=>w'.cell? ⟨xb,2,none⟩=some (.pointer (some ⟨vb,0,none⟩))/\w'.cell? ⟨g,off,none⟩=some (.string (aq a))/\w'.cell? ⟨g,off+1,none⟩=some (.string (aq b))/\w'.cell? ⟨g,off+2,none⟩=some (.string (aq c_)))
     (first
      |with_reducible assumption
      |with_reducible exact HD)
     (first
      |(go_at_call 106;(with_reducible refine(PI.O _).mono ?_);rintro x' w2 ⟨rfl,rfl⟩)
      |(go_at_call 114;(with_reducible refine(HC.O _ a8).mono ?_);rintro x' w3 ⟨rfl,dX,v3,hs⟩
        have h3:=a8.two dX hs;have gX:=(bT.aG jV.O).T h3.2;have Wr:w3.cell? ⟨xb,2,none⟩=some (.pointer (some ⟨vb,0,none⟩))/\w3.cell? ⟨g,off,none⟩=some (.string (aq a))/\w3.cell? ⟨g,off+1,none⟩=some (.string (aq b))/\w3.cell? ⟨g,off+2,none⟩=some (.string (aq c_)):=⟨h3.1.call,(sZ.O.stay gX).three⟩))
    have oQ:=zH h3.1;have gJ:=zH gX;clear dX hs h3 gX Wr HD a8 jV PI HC;go_wp2_with fail;refine(cE _).mono ?_;rintro x' w4 ⟨rfl,rfl⟩;go_wp2_with fail;go_ret;exact⟨.inl ⟨rfl,rfl⟩,⟨vb,sb,db,_,oQ.O⟩,gJ.O⟩
   ·rw[aY hq]at HC
    (have mR:=zH hq;clear hq);go_in;go_wp2_with fail;refine(bu _ 3 c w).mono ?_;rintro e w0 ⟨rfl,rfl⟩;go_wp2_with fail;have a8:=H.O.drew;have jV:=zH (bB (Below.refl w.heap.size w));have HD:w.drew.cell? ⟨xb,2,none⟩=some (.pointer (some ⟨vb,0,none⟩))/\w.drew.cell? ⟨g,off,none⟩=some (.string (aq a))/\w.drew.cell? ⟨g,off+1,none⟩=some (.string (aq b))/\w.drew.cell? ⟨g,off+2,none⟩=some (.string (aq c_)):=⟨a8.call,sZ.O.drew.three⟩;clear c0 c1 c2 c3 c4 c5 c6 aE d0 d1 d2
    go_region_held3 (fun w'=>w'.cell? ⟨xb,2,none⟩=some (.pointer (some ⟨vb,0,none⟩))/\w'.cell? ⟨g,off,none⟩=some (.string (aq a))/\w'.cell? ⟨g,off+1,none⟩=some (.string (aq b))/\w'.cell? ⟨g,off+2,none⟩=some (.string (aq c_)))
     (first
      |with_reducible assumption
      |with_reducible exact HD)
     (first
      |(go_at_call 106;(with_reducible refine(PI.O _).mono ?_);rintro x' w2 ⟨rfl,rfl⟩)
      |(go_at_call 114;(with_reducible refine(HC.O _ a8).mono ?_);rintro x' w3 ⟨rfl,dX,v3,hs⟩
        have h3:=a8.two dX hs;have gX:=(bT.aG jV.O).T h3.2;have Wr:w3.cell? ⟨xb,2,none⟩=some (.pointer (some ⟨vb,0,none⟩))/\w3.cell? ⟨g,off,none⟩=some (.string (aq a))/\w3.cell? ⟨g,off+1,none⟩=some (.string (aq b))/\w3.cell? ⟨g,off+2,none⟩=some (.string (aq c_)):=⟨h3.1.call,(sZ.O.stay gX).three⟩))
    have oQ:=zH h3.1;have gJ:=zH gX;clear dX hs h3 gX Wr HD a8 jV PI HC;go_wp2_with fail;refine(dY code _ oQ.O.et).mono ?_;rintro x' w4 ⟨rfl,hb⟩;dsimp only;exact⟨rfl,.inr ⟨mR.O,rfl⟩,⟨vb,sb,db,_,(oQ.O.keep hb)⟩,gJ.O.T (bT.aG hb)⟩
  ·exact absurd hL sP
 ·have cT:kL ⟨r,z⟩ L=bad ⟨r,z⟩ 3:=by
   unfold kL;split;(·exact absurd rfl hL)
   ·rfl
  rw[cT];have HM:=zH (dS (some ⟨g,off,none⟩) L.length c 3 w h.et (by simpa using(show(L.length:Int)≠3 by omega)));have H:=zH h;clear h hw hl hL cT hk;unfold dF at HM
  go_in
  go_wp2_with fail;refine HM.O.mono ?_;rintro e w0 ⟨rfl,hb⟩;dsimp only;exact⟨rfl,H.O.cu hb dC⟩
end
section
variable{W w:aah}{xb vb sb db k:Nat}{r:Ru}{z:SS}{v:aai}
theorem Rz(h:dW W xb vb sb db k r z v w)(hk:k<1000000)(g off c:Nat)(L:List BL)(hw:iG w g off L)(hl:∀x∈L,x.length<=5000):
  Calls prog 78 #[.pointer (some ⟨xb,0,none⟩),.slice (some ⟨g,off,none⟩) L.length c] w (eL W w xb k (ri ⟨r,z⟩ L)):=by
 obtain⟨⟩:=lB hk hw hl
 by_cases hL:L.length=1
 ·rcases L with _|⟨a,_|⟨_,L⟩⟩
  ·exact absurd hL sP
  ·clear hL
   have sZ:=zH hw;have d0:=hw.2 0 a rfl;have l0:=hl a sP;simp only[ake,agj,ajE,ahq]at*;clear hw hl;have H:=zH h;rcases hn:aZ a with _|_
   ·have qE:ri ⟨r,z⟩ [a]=bad ⟨r,z⟩ 3:=by show(if aZ a=true then _ else _)=_;rw[hn];rfl
    (rw[qE];have HN:=zH (fun w (h:dW W xb vb sb db k r z v w)=>j6 (aq a) w (by rw[aK];omega) h.env.cq h.env.iE h.et h.Ul (by rw[an];exact hn));unfold dF at HN;obtain⟨c0,c1,c2,c3,c4,c5,c6,aE⟩:=h.seven;clear qE hn h hk);go_in;go_wp2_with fail;refine(bu _ 1 c w).mono ?_;rintro e w0 ⟨rfl,rfl⟩;go_wp2_with fail;have a8:dW W xb vb sb db k r z v w.drew/\w.drew.cell? ⟨g,off,none⟩=some (.string (aq a)):=⟨H.O.drew,d0⟩;have jV:=zH (bB (Below.refl w.heap.size w));clear c0 c1 c2 c3 c4 c5 c6 aE d0;refine bC (fun w'=>dW W xb vb sb db k r z v w'/\w'.cell? ⟨g,off,none⟩=some (.string (aq a))) [8,9] kR ?_;refine aV 16 0 a8 ?_;refine aV 16 1 a8 ?_;refine aV 16 2 a8 ?_;refine aV 16 3 a8 ?_;refine aV 16 4 a8 ?_;refine aV 16 5 a8 ?_;refine aV 16 6 a8 ?_;refine aB 7 ?_;intro K7 Iz;go_simp;refine(HN.O _ a8.1).mono ?_;rintro x' w2 ⟨rfl,hb⟩;dsimp only;exact⟨rfl,H.O.cu (below_2 jV.O hb) dC⟩
   ·have uh:ri ⟨r,z⟩ [a]=(⟨r,(bp () z (pN z.s (aa a))).1⟩,bM (bp () z (pN z.s (aa a))).1.s.clock,(bp () z (pN z.s (aa a))).2.2):=by show(if aZ a=true then _ else _)=_;rw[hn];rfl
    (rw[uh];have HN:=zH (fun w (h:dW W xb vb sb db k r z v w)=>iI (aq a) w (by rw[aK];omega) h.env.cq (by rw[an];exact hn));rw[an]at HN;generalize aa a=n at*;obtain⟨c0,c1,c2,c3,c4,c5,c6,aE⟩:=h.seven;have HC:=zH (fun w (h:dW W xb vb sb db k r z v w)=>(Yh h.sw hk n));clear hk;unfold ny at HC;generalize bp () z (pN z.s n)=Q at*;clear uh hn h);go_in;(go_wp2_with fail;refine(bu _ 1 c w).mono ?_;rintro e w0 ⟨rfl,rfl⟩;go_wp2_with fail;have a8:dW W xb vb sb db k r z v w.drew/\w.drew.cell? ⟨g,off,none⟩=some (.string (aq a)):=⟨H.O.drew,d0⟩;have jV:=zH (bB (Below.refl w.heap.size w));clear c0 c1 c2 c3 c4 c5 c6 aE d0;refine bC (fun w'=>dW W xb vb sb db k r z v w'/\w'.cell? ⟨g,off,none⟩=some (.string (aq a))) [8,9] kR ?_;refine aV 16 0 a8 ?_;refine aV 16 1 a8 ?_;refine aV 16 2 a8 ?_;refine aV 16 3 a8 ?_;refine aV 16 4 a8 ?_;refine aV 16 5 a8 ?_;refine aV 16 6 a8 ?_;refine aB 7 ?_;intro K7 Iz;go_simp;refine(HN.O _ a8.1).mono ?_;rintro x' w2 ⟨rfl,hb⟩;dsimp only;have xV:dW W xb vb sb db k r z v w2/\w2.cell? ⟨g,off,none⟩=some (.string (aq a)):=⟨a8.1.keep hb,by rw[hb.cell (p:=⟨g,off,none⟩) (acC _ _ a8.2)];exact a8.2⟩;have gS:=zH (below_2 jV.O hb);refine Iz.O _ _ (fun _=>xV) ?_);(try simp only[agu]);(clear a8 jV hb;refine aB 8 ?_;intro K8 KD;go_simp;refine(HC.O _ xV.1).mono ?_;rintro x' w3 ⟨he,dX,v3,hs⟩;have h3:=xV.1.two dX hs;have oQ:=zH h3.1;have gJ:=zH ((bT.aG gS.O).T h3.2);clear hs dX h3 xV gS);by_cases hq:Q.2.2=0
    ·rw[hq,dG]at he
     (subst he;have mR:=zH hq;clear hq);(try dsimp only);(refine KD.O _ _ (fun h=>absurd h dC) ?_);(try simp only[agu]);refine aB 9 ?_;intro K9 KE;go_simp;refine(cE _).mono ?_;rintro x' w4 ⟨rfl,rfl⟩;(try dsimp only);refine KE.O _ _ (fun h=>absurd h dC) ?_;refine bJ kR ?_ _;obtain⟨y0,y1,y2,y3,y4,y5,y6,ylt⟩:=oQ.O.seven;have UD:=zH ((Hi oQ.O.sw).mono fun _ _ h=>j7 h);unfold oZ at UD;have Ep:=zH (fun w hT=>ox Q.1.s.clock oQ.O.sw.sx.fit.clock w hT);go_wp2_with fail;refine UD.O.mono ?_;rintro x' w5 ⟨a1,ac,rfl,hr,hb⟩;dsimp only;have hsf:=oH Q.1.s.clock Q.1.s.next a1 Q.1.s.ax.length ac;have HD5:=zH (oQ.O.keep hb);have alC:=zH (gJ.O.T (bT.aG hb));clear hr hb y0 y1 y2 y3 y4 y5 y6 ylt UD;go_wp2_with fail;refine(Ep.O _ HD5.O.env.cq).mono ?_;rintro x' w6 ⟨rfl,qw⟩;have HB6:=zH qw;clear qw;go_wp2_with fail;go_ret;exact⟨.inl ⟨mR.O,rfl⟩,⟨vb,sb,db,_,HD5.O.keep HB6.O⟩,alC.O.T (bT.aG HB6.O)⟩
    ·rw[aY hq]at he
     (subst he;have mR:=zH hq;clear hq;have HMN:=zH (dY Q.2.2 w3 oQ.O.et);unfold dF at HMN);(try dsimp only);(refine KD.O _ _ (fun h=>absurd h dC) ?_);(try simp only[agu]);refine aB 9 ?_;intro K9 KE;go_simp;refine HMN.O.mono ?_;rintro x' w4 ⟨rfl,hb⟩;dsimp only;exact⟨rfl,.inr ⟨mR.O,rfl⟩,⟨vb,sb,db,_,(oQ.O.keep hb)⟩,gJ.O.T (bT.aG hb)⟩
  ·exact absurd hL sP
 ·have cT:ri ⟨r,z⟩ L=bad ⟨r,z⟩ 3:=by
   unfold ri;split;(·exact absurd rfl hL)
   ·rfl
  rw[cT];have HM:=zH (dS (some ⟨g,off,none⟩) L.length c 1 w h.et (by simpa using(show(L.length:Int)≠1 by omega)));have H:=zH h;clear h hw hl hL cT hk;unfold dF at HM
  go_in
  go_wp2_with fail;refine HM.O.mono ?_;rintro e w0 ⟨rfl,hb⟩;dsimp only;exact⟨rfl,H.O.cu hb dC⟩
theorem Rv(h:dW W xb vb sb db k r z v w)(hk:k<1000000)(g off c:Nat)(L:List BL)(hw:iG w g off L)(hl:∀x∈L,x.length<=5000):
  Calls prog 71 #[.pointer (some ⟨xb,0,none⟩),.slice (some ⟨g,off,none⟩) L.length c] w (eL W w xb k (ur ⟨r,z⟩ L)):=by
 obtain⟨⟩:=lB hk hw hl
 by_cases hL:L.length=1
 ·rcases L with _|⟨a,_|⟨_,L⟩⟩
  ·exact absurd hL sP
  ·clear hL
   (have sZ:=zH hw;have d0:=hw.2 0 a rfl;have l0:=hl a sP;simp only[ake,agj,ajE,ahq]at*;clear hw hl;have H:=zH h;have HC:=zH (fun w (h:dW W xb vb sb db k r z v w)=>Yf h.sw (aq a) (by rw[aK];exact l0));unfold PN at HC;have hD:ur ⟨r,z⟩ [a]=(⟨r,z⟩,vY r z.s (aq a)):=rfl;rw[hD];clear hD;generalize vY r z.s (aq a)=Q at*;obtain⟨got,code⟩:=Q;dsimp only at HC ⊢;obtain⟨c0,c1,c2,c3,c4,c5,c6,aE⟩:=h.seven;clear h hk);by_cases hq:code=0
   ·subst hq
    rw[dG]at HC;go_in;go_wp2_with fail;refine(bu _ 1 c w).mono ?_;rintro e w0 ⟨rfl,rfl⟩;go_wp2_with fail;have a8:=H.O.drew;have jV:=zH (bB (Below.refl w.heap.size w));have HD:w.drew.cell? ⟨xb,2,none⟩=some (.pointer (some ⟨vb,0,none⟩))/\w.drew.cell? ⟨g,off,none⟩=some (.string (aq a)):=⟨a8.call,sZ.O.drew.one⟩;clear c0 c1 c2 c3 c4 c5 c6 aE d0
    go_region_held3 (fun w'=>w'.cell? ⟨xb,2,none⟩=some (.pointer (some ⟨vb,0,none⟩))/\w'.cell? ⟨g,off,none⟩=some (.string (aq a)))
     (first
      |with_reducible assumption
      |with_reducible exact HD)
     (first
      |(go_at_call 113;(with_reducible refine(HC.O _ a8).mono ?_);rintro x' w3 ⟨rfl,hb⟩
        have Wr:w3.cell? ⟨xb,2,none⟩=some (.pointer (some ⟨vb,0,none⟩))/\w3.cell? ⟨g,off,none⟩=some (.string (aq a)):=⟨(a8.keep hb).call,(sZ.O.drew.keep hb).one⟩))
    have jb:=zH (below_2 jV.O hb);clear hb Wr HD a8 jV HC;go_wp2_with fail;refine(cE _).mono ?_;rintro x' w4 ⟨rfl,rfl⟩;go_wp2_with fail;go_ret;exact H.O.told jb.O got
   ·rw[aY hq]at HC
    (have mR:=zH hq;clear hq);go_in;go_wp2_with fail;refine(bu _ 1 c w).mono ?_;rintro e w0 ⟨rfl,rfl⟩;go_wp2_with fail;have a8:=H.O.drew;have jV:=zH (bB (Below.refl w.heap.size w));have HD:w.drew.cell? ⟨xb,2,none⟩=some (.pointer (some ⟨vb,0,none⟩))/\w.drew.cell? ⟨g,off,none⟩=some (.string (aq a)):=⟨a8.call,sZ.O.drew.one⟩;clear c0 c1 c2 c3 c4 c5 c6 aE d0
    go_region_held3 (fun w'=>w'.cell? ⟨xb,2,none⟩=some (.pointer (some ⟨vb,0,none⟩))/\w'.cell? ⟨g,off,none⟩=some (.string (aq a)))
     (first
      |with_reducible assumption
      |with_reducible exact HD)
     (first
      |(go_at_call 113;(with_reducible refine(HC.O _ a8).mono ?_);rintro x' w3 ⟨rfl,hb⟩
        have Wr:w3.cell? ⟨xb,2,none⟩=some (.pointer (some ⟨vb,0,none⟩))/\w3.cell? ⟨g,off,none⟩=some (.string (aq a)):=⟨(a8.keep hb).call,(sZ.O.drew.keep hb).one⟩))
    have jb:=zH (below_2 jV.O hb);clear hb Wr HD a8 jV HC;go_wp2_with fail;refine(dY code _ (H.O.keep jb.O).et).mono ?_;rintro x' w4 ⟨rfl,hb⟩;dsimp only;exact⟨rfl,H.O.cu (below_2 jb.O hb) mR.O⟩
  ·exact absurd hL sP
 ·have cT:ur ⟨r,z⟩ L=bad ⟨r,z⟩ 3:=by
   unfold ur;split;(·exact absurd rfl hL)
   ·rfl
  rw[cT];have HM:=zH (dS (some ⟨g,off,none⟩) L.length c 1 w h.et (by simpa using(show(L.length:Int)≠1 by omega)));have H:=zH h;clear h hw hl hL cT hk;unfold dF at HM
  go_in
  go_wp2_with fail;refine HM.O.mono ?_;rintro e w0 ⟨rfl,hb⟩;dsimp only;exact⟨rfl,H.O.cu hb dC⟩
end
theorem WI{r:Ru}{s:St}(h:Fit s)(t:ByteArray)(kind:Int):rz (kG r s t kind).f:=by
 unfold kG;split
 ·exact rz.zero
 ·split
  ·exact rz.zero
  ·split
   ·exact rz.zero
   ·rename_i f hf
    have hm:f∈s.ax:=amu hf;split
    ·exact rz.zero
    ·split
     (·exact rz.zero);(·exact rz.of (h.ax f hm))
theorem LX{r:Ru}{s:St}(h:Fit s)(t:ByteArray):rz (qT r s t).1:=by
 unfold qT QR;split
 ·exact rz.zero
 ·split
  ·exact rz.zero
  ·split
   ·exact rz.zero
   ·exact WI h t 2
section
variable{W w:aah}{xb vb sb db k:Nat}{r:Ru}{z:SS}{v:aai}
theorem Ry(h:dW W xb vb sb db k r z v w)(hk:k<1000000)(g off c:Nat)(L:List BL)(hw:iG w g off L)(hl:∀x∈L,x.length<=5000):
  Calls prog 75 #[.pointer (some ⟨xb,0,none⟩),.slice (some ⟨g,off,none⟩) L.length c] w (eL W w xb k (uJ ⟨r,z⟩ L)):=by
 obtain⟨⟩:=lB hk hw hl
 by_cases hL:L.length=1
 ·rcases L with _|⟨a,_|⟨_,L⟩⟩
  ·exact absurd hL sP
  ·clear hL
   (have sZ:=zH hw;have d0:=hw.2 0 a rfl;have l0:=hl a sP;simp only[ake,agj,ajE,ahq]at*;clear hw hl;have H:=zH h;have HC:=zH (fun w (h:dW W xb vb sb db k r z v w)=>Yg h.sw (aq a) (by rw[aK];exact l0));have HFI:=zH (LX (r:=r) h.sw.sx.fit (aq a));unfold Ij at HC;have hD:uJ ⟨r,z⟩ [a]=(⟨r,z⟩,tW (qT r z.s (aq a)).1,(qT r z.s (aq a)).2):=rfl;rw[hD];clear hD;generalize qT r z.s (aq a)=Q at*;obtain⟨fm,code⟩:=Q;dsimp only at HC HFI ⊢;have BQ:=zH (fun w hw=>Am fm w HFI.O hw);have HSZ:=zH (zh HFI.O);generalize hft:tW fm=ft at*;clear hft;obtain⟨fi,fcl,fsu,fsc,fge,fma,fus,fre,fde⟩:=fm;unfold cM au at HC BQ;dsimp only at HC BQ;obtain⟨c0,c1,c2,c3,c4,c5,c6,aE⟩:=h.seven;clear h hk);go_in;(go_wp2_with fail;refine(bu _ 1 c w).mono ?_;rintro e w0 ⟨rfl,rfl⟩;go_wp2_with fail;have a8:Below w.heap.size w w.drew:=bB (Below.refl w.heap.size w);clear c0 c1 c2 c3 c4 c5 c6 aE d0;refine bC (fun w'=>Below w.heap.size w w') [] kR ?_;refine bf 16 0 ?ao_ ?Ws a8 ?abo);(case Ws=>(intro w dm;obtain⟨c0,c1,c2,c3,c4,c5,c6,aE⟩:=dW.seven (H.O.keep dm);have d0:=iG.one (sZ.O.keep dm);go_simp;(try with_reducible rfl)));simp only[agu];refine bf 16 1 ?apg ?Wt a8 ?abp;(case Wt=>(intro w dm;obtain⟨c0,c1,c2,c3,c4,c5,c6,aE⟩:=dW.seven (H.O.keep dm);have d0:=iG.one (sZ.O.keep dm);go_simp;(try with_reducible rfl)));simp only[agu];refine bf 16 2 ?aph ?Wu a8 ?abq;(case Wu=>(intro w dm;obtain⟨c0,c1,c2,c3,c4,c5,c6,aE⟩:=dW.seven (H.O.keep dm);have d0:=iG.one (sZ.O.keep dm);go_simp;(try with_reducible rfl)));simp only[agu];refine bf 16 3 ?auV ?ai9 a8 ?ak1;(case ai9=>(intro w dm;obtain⟨c0,c1,c2,c3,c4,c5,c6,aE⟩:=dW.seven (H.O.keep dm);have d0:=iG.one (sZ.O.keep dm);go_simp;(try with_reducible rfl)));simp only[agu];refine bf 16 4 ?auX ?ai' a8 ?ak3;(case ai'=>(intro w dm;obtain⟨c0,c1,c2,c3,c4,c5,c6,aE⟩:=dW.seven (H.O.keep dm);have d0:=iG.one (sZ.O.keep dm);go_simp;(try with_reducible rfl)));simp only[agu];refine bf 16 5 ?auZ ?ajb a8 ?ak5;(case ajb=>(intro w dm;obtain⟨c0,c1,c2,c3,c4,c5,c6,aE⟩:=dW.seven (H.O.keep dm);have d0:=iG.one (sZ.O.keep dm);go_simp;(try with_reducible rfl)));simp only[agu];refine bf 16 6 ?au1 ?ajd a8 ?ak7;(case ajd=>(intro w dm;obtain⟨c0,c1,c2,c3,c4,c5,c6,aE⟩:=dW.seven (H.O.keep dm);have d0:=iG.one (sZ.O.keep dm);go_simp;(try with_reducible rfl)));simp only[agu];refine lU (i:=7) (j:=11) kR rfl rfl ?_ ?_
   ·intro K7 Iz
    (go_simp;refine(HC.O _ (H.O.keep a8)).mono ?_;rintro x' w2 ⟨rfl,hb⟩;dsimp only;have oU:=below_2 a8 hb;refine Iz.O _ _ (fun _=>oU) ?_);(try simp only[agu]);(refine aH 16 8 oU ?_;refine aH 16 9 oU ?_;refine aH 16 10 oU ?_;refine aB 11 ?_;intro K8 KD;go_simp;have cN:=(Below.refl w2.heap.size w2).alloc nR (.cells #[.int .i64 0,.string ⟨#[]⟩,.string ⟨#[]⟩,.string ⟨#[]⟩,.int .i64 0,.int .i64 0,.int .i64 0,.string ⟨#[]⟩,.bool false] 113);have Et:=below_2 oU cN;have hq3:=aC.new w2 113 #[.int .i64 0,.string ⟨#[]⟩,.string ⟨#[]⟩,.string ⟨#[]⟩,.int .i64 0,.int .i64 0,.int .i64 0,.string ⟨#[]⟩,.bool false];refine KD.O _ _ (fun _=>Et) ?_);(try simp only[agu]);(refine aB 12 ?_;intro K9 KE;rw[if_pos (by rfl)];refine wp_store_row 113 _ _ rfl (w2.heap.size) #[.int .i64 fi,.string fcl,.string fsu,.string fsc,.int .i64 fge,.int .i64 fma,.int .i64 fus,.string fre,.bool fde] rfl rfl 113 _ hq3 kR rfl (by simp[amg]) ?_;obtain⟨w5, -,e5,q5,g5⟩:=jE (P:=prog) (ty:=113) (cells:=#[.int .i64 fi,.string fcl,.string fsu,.string fsc,.int .i64 fge,.int .i64 fma,.int .i64 fus,.string fre,.bool fde]) hq3 kR rfl (by simp[amg]);have qu:=zH (Et.grown g5 Et.size (fun i hi=>by cases hi;exact oU.size));have Js:=zH q5;refine KE.O _ _ (fun _=>by rw[<-e5];exact qu.O) ?_);(try simp only[agu]);refine aB 13 ?_;intro K10 ad_;go_simp;(try dsimp only);(refine ad_.O _ _ (fun _=>by rw[<-e5];exact qu.O) ?_;refine bJ kR ?_ _;rw[<-e5];clear e5 q5 g5);by_cases hq:code=0
    ·subst hq
     obtain⟨y0,y1,y2,y3,y4,y5,y6,y7,y8⟩:=cj Js.O;rw[dG];go_wp2_with fail;refine(cE _).mono ?_;rintro x' w6 ⟨rfl,rfl⟩;dsimp only;go_wp2_with fail;refine(BQ.O _ (H.O.keep qu.O).env.wb).mono ?_;rintro x' w7 ⟨rfl,jK⟩;have ME:=zH (below_2 qu.O jK);clear jK y0 y1 y2 y3 y4 y5 y6 y7 y8;go_wp2_with fail;go_ret;exact H.O.told ME.O _
    ·rw[aY hq]
     have mR:=zH hq;clear hq;go_wp2_with fail;refine(dY code _ (H.O.keep qu.O).et).mono ?_;rintro x' w6 ⟨rfl,hb⟩;dsimp only;exact⟨rfl,H.O.cu (below_2 qu.O hb) mR.O⟩
   ·intro K7 Iz
    (go_simp;have cN:=(Below.refl w.drew.heap.size w.drew).alloc nR (.cells #[.int .i64 0,.string ⟨#[]⟩,.string ⟨#[]⟩,.string ⟨#[]⟩,.int .i64 0,.int .i64 0,.int .i64 0,.string ⟨#[]⟩,.bool false] 113);have pX:=below_2 a8 cN;have hq1:aC (w.drew.alloc (.cells #[.int .i64 0,.string ⟨#[]⟩,.string ⟨#[]⟩,.string ⟨#[]⟩,.int .i64 0,.int .i64 0,.int .i64 0,.string ⟨#[]⟩,.bool false] 113)) w.heap.size 113 #[.int .i64 0,.string ⟨#[]⟩,.string ⟨#[]⟩,.string ⟨#[]⟩,.int .i64 0,.int .i64 0,.int .i64 0,.string ⟨#[]⟩,.bool false]:=aC.new w.drew 113 #[.int .i64 0,.string ⟨#[]⟩,.string ⟨#[]⟩,.string ⟨#[]⟩,.int .i64 0,.int .i64 0,.int .i64 0,.string ⟨#[]⟩,.bool false];refine Iz.O _ _ (fun _=>pX) ?_);(try simp only[agu]);(refine aB 7 ?_;intro K8 KD;go_simp;refine(HC.O _ (H.O.keep pX)).mono ?_;rintro x' w2 ⟨rfl,hb⟩;dsimp only;have oU:=below_2 pX hb;have hq2:=hq1.aj hb;refine KD.O _ _ (fun _=>oU) ?_);(try simp only[agu]);(refine aH 16 8 oU ?_;refine aH 16 9 oU ?_;refine aH 16 10 oU ?_;refine aB 12 ?_;intro K9 KE;rw[if_pos (by rfl)];refine wp_store_row 113 _ _ rfl (w.heap.size) #[.int .i64 fi,.string fcl,.string fsu,.string fsc,.int .i64 fge,.int .i64 fma,.int .i64 fus,.string fre,.bool fde] rfl rfl 113 _ hq2 kR rfl (by simp[amg]) ?_;obtain⟨w5, -,e5,q5,g5⟩:=jE (P:=prog) (ty:=113) (cells:=#[.int .i64 fi,.string fcl,.string fsu,.string fsc,.int .i64 fge,.int .i64 fma,.int .i64 fus,.string fre,.bool fde]) hq2 kR rfl (by simp[amg]);have qu:=zH (oU.grown g5 oU.size (fun i hi=>by cases hi;exact Nat.le_refl _));have Js:=zH q5;refine KE.O _ _ (fun _=>by rw[<-e5];exact qu.O) ?_);(try simp only[agu]);refine aB 13 ?_;intro K10 ad_;go_simp;(try dsimp only);(refine ad_.O _ _ (fun _=>by rw[<-e5];exact qu.O) ?_;refine bJ kR ?_ _;rw[<-e5];clear e5 q5 g5);by_cases hq:code=0
    ·subst hq
     obtain⟨y0,y1,y2,y3,y4,y5,y6,y7,y8⟩:=cj Js.O;rw[dG];go_wp2_with fail;refine(cE _).mono ?_;rintro x' w6 ⟨rfl,rfl⟩;dsimp only;go_wp2_with fail;refine(BQ.O _ (H.O.keep qu.O).env.wb).mono ?_;rintro x' w7 ⟨rfl,jK⟩;have ME:=zH (below_2 qu.O jK);clear jK y0 y1 y2 y3 y4 y5 y6 y7 y8;go_wp2_with fail;go_ret;exact H.O.told ME.O _
    ·rw[aY hq]
     have mR:=zH hq;clear hq;go_wp2_with fail;refine(dY code _ (H.O.keep qu.O).et).mono ?_;rintro x' w6 ⟨rfl,hb⟩;dsimp only;exact⟨rfl,H.O.cu (below_2 qu.O hb) mR.O⟩
  ·exact absurd hL sP
 ·have cT:uJ ⟨r,z⟩ L=bad ⟨r,z⟩ 3:=by
   unfold uJ;split;(·exact absurd rfl hL)
   ·rfl
  rw[cT];have HM:=zH (dS (some ⟨g,off,none⟩) L.length c 1 w h.et (by simpa using(show(L.length:Int)≠1 by omega)));have H:=zH h;clear h hw hl hL cT hk;unfold dF at HM
  go_in
  go_wp2_with fail;refine HM.O.mono ?_;rintro e w0 ⟨rfl,hb⟩;dsimp only;exact⟨rfl,H.O.cu hb dC⟩
end
theorem SF{w:aah}{B B' s s' n n':Nat}{e e':TypeId}{v v':aai}{xs xs':List aai}(h:w.ownsRow B e s v n xs)(h':w.ownsRow B' e' s' v' n' xs')(eZ:e≠e'){g:Nat}(hv:v.ownBlock=some g):v'.ownBlock≠some g:=by
 intro Y6;rcases h.2 with⟨rfl,_⟩|⟨g1,c1,u1,rfl,_,h1,_⟩
 ·simp[akw]at hv
 ·rcases h'.2 with⟨rfl,_⟩|⟨g2,c2,u2,rfl,_,h2,_⟩
  ·simp[akw]at Y6
  ·simp only[akw,akk]at hv Y6
   (obtain rfl:g1=g:=by simpa using hv);(obtain rfl:g2=g1:=by simpa using Y6);rw[h1]at h2;simp only[akk,Obj.cells.injEq]at h2;exact eZ h2.2.1
theorem aaL(w:aah)(o:Obj)(T:TypeId)(a b:Int):bD ((w.alloc o).alloc (.cells #[.int .i64 a,.int .i64 b] T)) (w.heap.size+1) [a,b]:=by
 have h:=mD (w.alloc o) T [a,b];simpa using h
theorem adZ(s:St):((vS s).take 1).map encStr=[.string (gb [s.clock,s.next])]:=by
 show[encStr (gb [s.clock,s.next]).data.toList]=_
 rw[xL]
theorem ad0(s:St){k:Nat}{f:az}(h:s.ax[k]?=some f):encStr ((vS s).getD (k+1) [])=.string (tW f):=by
 unfold vS;rw[List.getD_cons_succ,List.getD_eq_getElem?_getD,List.getElem?_map,h];exact xL _
section
variable{W w:aah}{xb vb sb db k:Nat}{r:Ru}{z:SS}{v:aai}
theorem EU(h:dW W xb vb sb db k r z v w)(hk:k<1000000)(g off c:Nat)(L:List BL)(hw:iG w g off L)(hl:∀x∈L,x.length<=5000):
  Calls prog 65 #[.pointer (some ⟨xb,0,none⟩),.slice (some ⟨g,off,none⟩) L.length c] w (eL W w xb k (gv ⟨r,z⟩ L)):=by
 obtain⟨⟩:=lB hk hw hl
 by_cases hL:L.length=0
 ·obtain rfl:L=[]:=List.eq_nil_of_length_eq_zero hL
  clear hL hw hl;simp only[ajE];have H:=zH h;have hD:gv ⟨r,z⟩ []=(⟨r,z⟩,Ks z.s,0):=rfl;rw[hD,<-Ge];obtain⟨i0,RV,sQ,vp,mY⟩:=info_parts Jd;have gJ:=zH ((Hi h.sw).mono fun _ _ h=>j7 h);unfold oZ at gJ;have ed:=h.sw.sx.fit;have hlen:=ed.len;have alq:=zH (Kt ed);have HFA:=zH ed.ax;have hT:(vS z.s).length=z.s.ax.length+1:=by simp[vS]
  have HJ:=zH (fun g w hw hi=>vf g [z.s.clock,z.s.next] w hw hi sP sP (by
   have h1:=uz ed.clock;have h2:=cK.1 ed.next;intro x hx;simp only[List.mem_cons,List.not_mem_nil,or_false]at hx;rcases hx with rfl|rfl
   ·exact h1
   ·exact⟨by omega,by omega⟩))
  simp only[agj,ajE,ahq,alI]at HJ;have HT0:=zH (adZ z.s);have EL:=zH (fun k f hf=>ad0 z.s (k:=k) (f:=f) hf);obtain⟨c0,c1,c2,c3,c4,c5,c6,aE⟩:=h.seven;clear h hk hD ed;generalize vS z.s=T at*;generalize z.s.ax=L at*;generalize z.s.clock=ck at*;generalize z.s.next=nx at*;generalize gb [ck,nx]=jn at*
  go_in
  go_wp2_with fail;refine(bu _ 0 c w).mono ?_;rintro e w0 ⟨rfl,rfl⟩;go_wp2_with fail;refine gJ.O.mono ?_;rintro x' w1 ⟨a1,ac,rfl,hr,hb⟩;dsimp only;have FN:=zH hr;have jf:=zH hb;have HD1:=zH (H.O.keep hb);clear hr hb gJ c0 c1 c2 c3 c4 c5 c6 aE;go_wp2_with fail;have gX:=aC.new w1 107 #[.int .i64 ck,.int .i64 nx,.slice a1 L.length ac];have cN:=(Below.refl w1.heap.size w1).alloc nR (.cells #[.int .i64 ck,.int .i64 nx,.slice a1 L.length ac] 107);have hi:=aaL w1 (.cells #[.int .i64 ck,.int .i64 nx,.slice a1 L.length ac] 107) 3 ck nx;have aei:=cN.alloc cN.size (.cells #[.int .i64 ck,.int .i64 nx] 3);have ai1:=gX.alloc (.cells #[.int .i64 ck,.int .i64 nx] 3);refine(HJ.O _ _ (HD1.O.keep aei).env.wb hi).mono ?_;rintro x' w3 ⟨rfl,lV⟩;dsimp only;have KF:=below_2 aei lV;have oQ:=zH (HD1.O.keep KF);have jb:=zH (below_2 jf.O KF);have FO:=zH (FN.O.below KF);have UD:=zH (ai1.aj lV);have hrn:=Row.new (w:=w3) (L:=[jn.data.toList]) jb.O.size (by unfold maxLen;simp);have VN:=(Below.refl w3.heap.size w3).alloc nR (.cells #[.string jn] 9)
  have aiT:(w3.alloc (.cells #[.string jn] 9)).ownsRow w.heap.size 9 1 (.slice (some ⟨w3.heap.size,0,none⟩) 1 1) (0+1) ((T.take (0+1)).map encStr):=by
   obtain⟨g',wF,e,ho⟩:=hrn;simp only[List.map_cons,List.map_nil,xL,agj,ajE,ahq]at e ho ⊢;rw[HT0.O];exact ho
  have HF0:=zH (show FL W w (.slice a1 L.length ac) L T 0 (.slice (some ⟨w3.heap.size,0,none⟩) 1 1) (w3.alloc (.cells #[.string jn] 9))from⟨(oQ.O.keep VN).below,below_2 jb.O VN,(oQ.O.keep VN).env,aiT,FO.O.below VN⟩);obtain⟨y0,y1,y2⟩:w3.cell? ⟨w1.heap.size,0,none⟩=some (.int .i64 ck)/\w3.cell? ⟨w1.heap.size,1,none⟩=some (.int .i64 nx)/\w3.cell? ⟨w1.heap.size,2,none⟩=some (.slice a1 L.length ac):=⟨UD.O.cell 0,UD.O.cell 1,UD.O.cell 2⟩;have anm:=UD.O.lt;clear gX cN hi aei ai1 lV KF hrn VN aiT HD1 jf FN HJ oQ jb FO UD;go_wp2_with fail;clear y0 y1 y2 anm;generalize w3.alloc (.cells #[.string jn] 9)=w4 at*
  go_loopw [6,26] (fun O i wr=>ag5 W w (.slice a1 L.length ac) L T O i wr) (fun _ i _=>L.length - (intOf i).toNat)
  case atStart=>exact⟨0,Nat.zero_le _,rfl,HF0.O⟩
  case round=>
   (obtain⟨k',gU,rfl,hf⟩:=hrel;have HF:=zH hf;clear hf HF0);by_cases aE:k'<L.length
   ·obtain⟨f,hf⟩:∃f,L[k']?=some f:=⟨_,List.getElem?_eq_getElem aE⟩
    (obtain⟨ga,hga,_,ra⟩:=HF.O.fr.lit aE;subst hga;obtain⟨c0,c1,c2,c3,c4,c5,c6,c7,c8⟩:=ra.nine hf;have HX:=zH (EL.O k' f hf);have BQ:=zH (fun w hw=>Am f w (rz.of (HFA.O f (List.mem_of_getElem? hf))) hw);generalize tW f=y at*;have h0:(0:Int)<=(k':Int):=by omega);(have h1:(k':Int)<(L.length:Int):=by omega);obtain⟨fi,fcl,fsu,fsc,fge,fma,fus,fre,fde⟩:=f;unfold cM au at BQ;dsimp only at BQ;have cN:=(Below.refl wr.heap.size wr).alloc nR (.cells #[.int .i64 fi,.string fcl,.string fsu,.string fsc,.int .i64 fge,.int .i64 fma,.int .i64 fus,.string fre,.bool fde] 113);have Jq:=zH (HF.O.keep cN);clear cN hf ra HF;go_wp2_with fail;refine(BQ.O _ Jq.O.env.wb).mono ?_;rintro x' w5 ⟨rfl,hb⟩;dsimp only;have Ib:=zH (Jq.O.keep hb);have kF:=Ib.O.row;have oU:=Ib.O.since.size;clear hb c0 c1 c2 c3 c4 c5 c6 c7 c8 Jq BQ
    go_wp2_with
     (at_builtin;refine wpList_append_own _ rfl _ _ 22 rfl w.heap.size 9 i0 (.string ByteArray.empty) 1 16 underlying22 RV sQ vp mY rfl dC _ _ _ rfl (kF.alloc _) ⟨w5.heap.size,0,none⟩ 1 1 [.string y] rfl rfl (cell_one_new _ _ _) (fun x hx=>by simp at hx;subst hx;rfl) mL oM sO ?_;intro v' w7 eE cZ mB
      have HO:=zH eE;have HG:=zH cZ;clear eE cZ mB kF)
    go_roundw;(case rel=>exact⟨k'+1,by omega,by go_num,FL.next H.O.below.size Ib.O oM HX.O.symm HO.O HG.O ((Ib.O.fr.below (bR.alloc nR _)).kept HG.O (fun e=>SF Ib.O.row Ib.O.fr dC e.symm rfl))⟩);case measure=>simp[intOf];omega
   ·obtain rfl:k'=L.length:=by omega
    have kF:=HF.O.row;rw[<-hT,List.take_length]at kF;have HJS:=zH (Sd ⟨#[44,32]⟩ (uF kF (by intro e;rw[e]at hT;simp at hT)) oM (by have:=alq.O;show(Lib.join T [44,32]).length<=1000000;omega));clear kF;go_wp2_with fail;refine HJS.O.mono ?_;rintro x' w8 ⟨rfl,hb⟩;have HB8:=zH (below_2 HF.O.since hb);clear hb;go_wp2_with fail;go_ret;exact H.O.told HB8.O _
 ·have cT:gv ⟨r,z⟩ L=bad ⟨r,z⟩ 3:=by
   unfold gv;split;(·exact absurd rfl hL)
   ·rfl
  rw[cT];have HM:=zH (dS (some ⟨g,off,none⟩) L.length c 0 w h.et (by simpa using(show(L.length:Int)≠0 by omega)));have H:=zH h;clear h hw hl hL cT hk;unfold dF at HM
  go_in
  go_wp2_with fail;refine HM.O.mono ?_;rintro e w0 ⟨rfl,hb⟩;dsimp only;exact⟨rfl,H.O.cu hb dC⟩
end
theorem zA(p:Addr)(w:aah):
  CallsD prog 43 #[.pointer (some p)] .returning w fun e u' w'=>e=.returned (.tuple #[])/\u'=.returning/\w'=w:=by
 refine callsD_of_wpS func43 rfl fun adR cs hu=>?_
 apply amJ;apply amH;simp[wpOpsS,go_sem,recoverD,hu,ntmps43,amI];apply amJ;apply amH;simp[wpOpsS,go_sem,amI];refine wpS_cond (t:=false) (by simp[Act.eval]) ?_;simp only[Bool.false_eq_true,if_false];refine wpS_of_wp (wp_skip ?_);cases adR
 simp_all[bodyPostS,results,Tryz.results43]
theorem U1(v:aai)(xT:TypeId)(w:aah):(Instr.typeAssert (.iface 92 v) xT 92 true).run prog w=.ok (.tuple #[v,.bool true]) w:=kR
def Uu(p:Addr)(c:Int)(w:aah)(e:Ending)(u':FrameMode)(w':aah):Prop:=
 e=.returned (.tuple #[])/\u'=.panicking [{v:=.iface 92 (.agg #[.int .i64 c]),recovered:=true}]/\∃w2,Below w.heap.size w w2/\w'=w2.setCell p (.string (zf c))
theorem uo(p:Addr)(c:Int)(x:aai)(w:aah)(hc:hU c)(hp:w.cell? p=some x)(hz:w.frozen? p=false)(hT:eN w):
  CallsD prog 43 #[.pointer (some p)] (.panicking (Kh c)) w (Uu p c w):=by
 have hA:=U1;have Ep:=zH (fun w hT=>ow c hc.1 hc.2 w hT);have aE:=acC w _ hp;refine callsD_of_wpS func43 rfl fun adR cs hu=>?_
 unfold Kh at hu;simp only[ntmps43,akX,agj,ajE,alI,Nat.reduceSub,Array.replicate_succ,Array.replicate_zero,List.push_toArray,List.append_toArray,List.nil_append,List.cons_append];apply amJ;apply amH;simp[wpOpsS,go_sem,recoverD,hu,amI];apply amJ;apply amH;simp[wpOpsS,go_sem,amI];refine wpS_cond (t:=true) (by simp[Act.eval]) ?_;simp only[if_true];refine wpS_of_wp ?_;clear hu;generalize hQ:bodyPostS prog f43 adR cs (Uu p c w)=Q;have mP:=zH ((Below.refl w.heap.size w).alloc nR (.cells #[.int .i64 c] 92));have HT:=zH (hT.below mP.O hT.lt)
 have iS:(bM c).size<=21:=by
  have:=Lib.itoa_length_le c hc.1 hc.2
  show(Lib.itoa c).toArray.size<=21
  rw[akX];exact this
 have HP:=zH hp;have HZ:=zH hz;clear hT hc hp hz;go_wp2_with fail;refine(Ep.O _ HT.O).mono ?_;rintro e w2 ⟨rfl,hb⟩;dsimp only;have HB:=zH (below_2 mP.O hb);have hp2:w2.cell? p=some x:=(HB.O.cell aE).T HP.O;have mY:w2.frozen? p=false:=(HB.O.frozen aE).T HZ.O;have HE:=zH (show(⟨#[101,114,114,111,114,32]⟩:ByteArray)++bM c=zf c from rfl);clear hb HP HZ HT Ep mP;generalize bM c=y at*;go_wp2_with fail;subst hQ;exact⟨rfl,_,rfl,_,results_none rfl _ _ _,rfl,rfl,w2,HB.O,by rw[<-HE.O]⟩
theorem Q0{d:Int}(h:eP a b c d=true):(Ae key a b c d).size<=100:=by
 have h1:=rF a b c d h;unfold Ae;have h2:(⟨#[46]⟩:ByteArray).size=1:=rfl;have h3:=vF key (gF a b c d);rw[akI,akI];omega
theorem Gi{r:Ru}{f:az}(h1:bZ f.id=true)(h2:bZ f.gen=true):(fB r f).size<=100:=Q0 (by unfold eP;rw[h1,h2];rfl)
def nl(b:ByteArray):Prop:=b.size<=100000
theorem bY:nl bG:=Nat.zero_le _
theorem IN(h:hU x):nl (bM x):=by
 have e:bM x=gb [x]:=rfl;have:=fU (L:=[x]) sP (by simpa using h);rw[e];unfold nl;omega
theorem Xg{d:Int}(h:eP a b c d=true):nl (Ae key a b c d):=aiC (Q0 h) dC
theorem afB{z:SS}{ev:Ev}(h:(cO z ev).2=0):gG ev=true:=by
 cases hv:gG ev
 ·exfalso
  unfold cO at h;split at h
  ·exact absurd (show(6:Int)=0 from h) dC
  ·exact absurd (show(1:Int)=0 from h) dC
 ·rfl
theorem QD{z:SS}{p:xC ByteArray}(h:∀t c,p=.jY t c->nl t)(k:∀ev t c,p=.put ev t c->gG ev=true->nl t):nl (bp bG z p).2.1:=by
 cases p with
 |jY t c=>exact h t c rfl
 |put ev t c=>
  by_cases h0:(cO z ev).2=0
  ·have:bp bG z (.put ev t c)=((cO z ev).1,t,c):=if_pos h0
   rw[this];exact k ev t c rfl (afB h0)
  ·have:bp bG z (.put ev t c)=((cO z ev).1,bG,(cO z ev).2):=if_neg h0
   rw[this];exact bY
theorem abl{f:az}(h:gG (bU f)=true):pU f=true:=by
 unfold gG bU at h;simpa using h
theorem Xa{r:Ru}{f:az}(h:gG (bU f)=true):nl (fB r f):=by
 obtain⟨h1,h2,_⟩:=bV (abl h);exact aiC (Gi h1 h2) dC
theorem Qy{r:Ru}{s:St}(h:Fit s)(t:ByteArray)(kind:Int):(kG r s t kind).e≠0\/pU (kG r s t kind).f=true:=by
 unfold kG;split
 ·rename_i h1
  exact .inl h1
 ·split
  ·exact .inl dC
  ·split
   ·exact .inl dC
   ·rename_i f hf
    have hm:f∈s.ax:=amu hf;split
    ·exact .inl dC
    ·split
     (·exact .inl dC);(·exact .inr (h.ax f hm))
theorem adM(ha:bZ a=true)(hb:bZ b=true):bZ (iD a b)=true:=by
 rw[aX]at*;unfold iD;split<;>omega
theorem aa5{r:Ru}{s:St}(h:Fit s)(hr:LL r=true)(t:ByteArray):nl (vY r s t).1:=by
 unfold vY QA;rcases Qy h t 1 (r:=r)with h0|h0
 ·rw[if_pos h0]
  exact bY
 ·split
  ·exact bY
  ·split
   ·exact bY
   ·split
    ·exact bY
    ·obtain⟨h1,h2,_⟩:=bV h0
     have ha:bZ r.access=true:=by
      unfold LL at hr;simp only[Bool.and_eq_true]at hr;exact hr.2
     exact Xg (by unfold eP;rw[h1,h2,adM h.clock ha];rfl)
theorem Su{r:Ru}{z:SS}(h:Fit z.s)(t request sc:ByteArray):nl (bp bG z (iW r z.s t request sc)).2.1:=by
 refine QD (fun x c e=>?_) (fun ev x c e he=>?_)
 ·unfold iW rotateL at e
  rcases Qy h t 1 (r:=r)with h0|h0
  ·rw[if_pos h0]at e
   split at e<;>(cases e;exact bY)
  ·obtain⟨h1,h2,_⟩:=bV h0
   (repeat' split at e)<;>first|(cases e;exact bY)|(cases e;exact aiC (Gi h1 h2) dC)|cases e
 ·unfold iW rotateL at e
  (repeat' split at e)<;>first|(cases e;exact bY)|(cases e;exact Xa he)|cases e
theorem WY{r:Ru}{z:SS}(a b c:ByteArray):nl (bp bG z (fA r z.s a b c)).2.1:=by
 refine QD (fun x c e=>?_) (fun ev x c e he=>?_)
 ·unfold fA at e
  (repeat' split at e)<;>first|(cases e;exact bY)|cases e
 ·unfold fA at e
  (repeat' split at e)<;>first|(cases e;exact Xa he)|cases e
theorem aa3{s:St}(h:Fit s):nl (Ks s):=by
 have:=Kt h;rw[<-Ge];exact this
theorem aa8{r:Ru}{s:St}(h:Fit s)(t:ByteArray):nl (tW (qT r s t).1):=aiC (zh (LX h t)) dC
theorem W7(l:BL):nl (jR (aq (cr l))):=aiC (oP _ (n:=45) (by rw[cI];exact lJ l) dC) dC
theorem afu(key:Int)(l:BL):nl (aq (bt key l)):=by
 unfold nl;rw[cI];unfold bt;rw[iJ]
 decide
theorem afs(h:hU x)(b:Bool):nl (gb [x]++⟨#[32]⟩++rK b):=by
 have h1:=fU (L:=[x]) sP (by simpa using h);have h2:(⟨#[32]⟩:ByteArray).size=1:=rfl;have h3:(rK b).size<=5:=by cases b<;>decide
 unfold nl;rw[akI,akI];omega
theorem ac1:hU 0:=⟨by decide,by decide⟩
theorem wO{b:ByteArray}(h:b.size<=100000):nl b:=h
theorem Xi{r:Ru}{z:SS}(h:Fit z.s):hU (bp 0 z (fD r z.s)).2.1:=by
 unfold fD;split
 ·exact ac1
 ·rename_i f hf
  have hm:f∈z.s.ax:=amu hf;have:=uz (bV (h.ax f hm)).1;unfold bp;dsimp only;split
  ·exact this
  ·exact ac1
theorem Xe{r:Ru}{z:SS}(h:Fit z.s):nl (bM (bp 0 z (fD r z.s)).2.1):=IN (Xi h)
theorem aa2:nl (aq wG):=wO dC
theorem W6:nl (aq qH):=wO dC
theorem aa7:nl (aq uu):=wO dC
theorem W_:nl (aq oD):=wO dC
theorem Xc:nl (aq qR):=wO dC
theorem aft:nl ⟨#[111,107]⟩:=wO dC
theorem W4:nl VV:=wO dC
structure DH(d:DS):Prop where
 fit:Fit d.z.s
 ru:LL d.r=true
 ok:hU d.z.writes
 lg:0<=d.z.log/\d.z.log<=1000000
section
variable{d:DS}(H:DH d)(L:List BL)
include H
theorem aa1:nl (AZ d L).2.1:=by
 obtain⟨h,hr,hw,hg⟩:=H;unfold AZ
 (repeat' split)<;>first|exact bY|exact aa2
theorem IM:nl (gv d L).2.1:=by
 obtain⟨h,hr,hw,hg⟩:=H;unfold gv;split<;>first|exact bY|exact aa3 h
theorem Sr:nl (ov d L).2.1:=by
 obtain⟨h,hr,hw,hg⟩:=H;unfold ov;split<;>first|exact bY|exact WY _ _ _
theorem WZ:nl (uf d L).2.1:=by
 obtain⟨h,hr,hw,hg⟩:=H;unfold uf;split<;>first|exact bY|exact W4
theorem W5:nl (sS d L).2.1:=by
 obtain⟨h,hr,hw,hg⟩:=H;unfold sS
 (repeat' split)<;>first|exact bY|exact W6
theorem Ss:nl (oz d L).2.1:=by
 obtain⟨h,hr,hw,hg⟩:=H;unfold oz;split<;>first|exact bY|exact W7 _
theorem aa4:nl (CX d L).2.1:=by
 obtain⟨h,hr,hw,hg⟩:=H;unfold CX;split<;>first|exact bY|exact afs ⟨by omega,by omega⟩ _
theorem W8:nl (ur d L).2.1:=by
 obtain⟨h,hr,hw,hg⟩:=H;unfold ur;split<;>first|exact bY|exact aa5 h hr _
theorem aa6:nl (A8 d L).2.1:=by
 obtain⟨h,hr,hw,hg⟩:=H;unfold A8
 (repeat' split)<;>first|exact bY|exact aa7
theorem W9:nl (uA d L).2.1:=by
 obtain⟨h,hr,hw,hg⟩:=H;unfold uA;split<;>first|exact bY|exact W_
theorem Oh:nl (kL d L).2.1:=by
 obtain⟨h,hr,hw,hg⟩:=H;unfold kL;split<;>first|exact bY|exact Su h _ _ _
theorem Xb:nl (uH d L).2.1:=by
 obtain⟨h,hr,hw,hg⟩:=H;unfold uH;split<;>first|exact bY|exact Xc
theorem Xd:nl (uJ d L).2.1:=by
 obtain⟨h,hr,hw,hg⟩:=H;unfold uJ;split<;>first|exact bY|exact aa8 h _
theorem Sv:nl (oK d L).2.1:=by
 obtain⟨h,hr,hw,hg⟩:=H;unfold oK;split<;>first|exact bY|exact Xe h
theorem aa9:nl (Eb d L).2.1:=by
 obtain⟨h,hr,hw,hg⟩:=H;rcases L with _|⟨a,_|⟨b,_|⟨_,L⟩⟩⟩
 ·exact bY
 ·exact bY
 ·show nl (if aZ a=true then(d,aq (bt (aa a) b),(0:Int))else bad d 3).2.1
  by_cases hn:aZ a=true
  ·rw[if_pos hn]
   exact afu _ _
  ·rw[if_neg hn]
   exact bY
 ·exact bY
theorem Xf(h':Fit (ri d L).1.z.s):nl (ri d L).2.1:=by
 obtain⟨h,hr,hw,hg⟩:=H;unfold ri at h' ⊢;split
 ·split
  ·rename_i hn
   dsimp only at h';rw[if_pos hn]at h';exact IN (uz h'.clock)
  ·exact bY
 ·exact bY
theorem Sw:nl (oN d L).2.1:=by
 obtain⟨h,hr,hw,hg⟩:=H;unfold oN
 (repeat' split)<;>first|exact bY|(rename_i hh;exact Xg hh)
theorem Oi:nl (kU d L).2.1:=by
 obtain⟨h,hr,hw,hg⟩:=H;unfold kU;split<;>first|exact bY|exact IN hw
theorem ZR(n:BL)(h':Fit (eU d n L).1.z.s):nl (eU d n L).2.1:=by
 unfold eU at h' ⊢
 by_cases o_:n=wG
 ·simp only[if_pos o_]at h' ⊢
  exact aa1 H L
 simp only[if_neg o_]at h' ⊢
 by_cases dH:n=g_
 ·simp only[if_pos dH]at h' ⊢
  exact IM H L
 simp only[if_neg dH]at h' ⊢
 by_cases iu:n=pW
 ·simp only[if_pos iu]at h' ⊢
  exact Sr H L
 simp only[if_neg iu]at h' ⊢
 by_cases j8:n=vT
 ·simp only[if_pos j8]at h' ⊢
  exact WZ H L
 simp only[if_neg j8]at h' ⊢
 by_cases j9:n=qH
 ·simp only[if_pos j9]at h' ⊢
  exact W5 H L
 simp only[if_neg j9]at h' ⊢
 by_cases iw:n=qa
 ·simp only[if_pos iw]at h' ⊢
  exact Ss H L
 simp only[if_neg iw]at h' ⊢
 by_cases pg:n=E7
 ·simp only[if_pos pg]at h' ⊢
  exact aa4 H L
 simp only[if_neg pg]at h' ⊢
 by_cases j_:n=vX
 ·simp only[if_pos j_]at h' ⊢
  exact W8 H L
 simp only[if_neg j_]at h' ⊢
 by_cases t_:n=uu
 ·simp only[if_pos t_]at h' ⊢
  exact aa6 H L
 simp only[if_neg t_]at h' ⊢
 by_cases kg:n=oD
 ·simp only[if_pos kg]at h' ⊢
  exact W9 H L
 simp only[if_neg kg]at h' ⊢
 by_cases fN:n=lY
 ·simp only[if_pos fN]at h' ⊢
  exact Oh H L
 simp only[if_neg fN]at h' ⊢
 by_cases ki:n=qR
 ·simp only[if_pos ki]at h' ⊢
  exact Xb H L
 simp only[if_neg ki]at h' ⊢
 by_cases ku:n=we
 ·simp only[if_pos ku]at h' ⊢
  exact Xd H L
 simp only[if_neg ku]at h' ⊢
 by_cases iy:n=ql
 ·simp only[if_pos iy]at h' ⊢
  exact Sv H L
 simp only[if_neg iy]at h' ⊢
 by_cases VM:n=wj
 ·simp only[if_pos VM]at h' ⊢
  exact aa9 H L
 simp only[if_neg VM]at h' ⊢
 by_cases kC:n=wm
 ·simp only[if_pos kC]at h' ⊢
  exact Xf H L h'
 simp only[if_neg kC]at h' ⊢
 by_cases iz:n=qo
 ·simp only[if_pos iz]at h' ⊢
  exact Sw H L
 simp only[if_neg iz]at h' ⊢
 by_cases fO:n=mg
 ·simp only[if_pos fO]at h' ⊢
  exact Oi H L
 simp only[if_neg fO]at h' ⊢;exact bY
end
theorem Qx{d:DS}(H:DH d)(l:BL)(h':Fit (eW d l).1.z.s):nl (eW d l).2:=by
 unfold eW at h' ⊢;split
 ·exact aft
 ·rename_i n L e
  rw[e]at h';have hn:=ZR H L n h';have hc:=(P4 d n L).ok;unfold told;dsimp only;split
  ·exact hn
  ·have h1:=IN hc
   have h2:(⟨#[101,114,114,111,114,32]⟩:ByteArray).size=6:=rfl;have h3:=fU (L:=[(eU d n L).2.2]) sP (by simpa using hc);have e:bM (eU d n L).2.2=gb [(eU d n L).2.2]:=rfl;unfold nl zf;rw[akI,e];omega
end Go.Proofs.YtjligkmjlenofaaGreatDoor
