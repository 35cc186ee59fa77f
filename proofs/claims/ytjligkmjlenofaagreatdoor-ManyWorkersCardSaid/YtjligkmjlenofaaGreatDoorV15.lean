/- Part of the proof. -/
import Derived.Test.YtjligkmjlenofaaGreatDoorV13
set_option maxHeartbeats 16000000
set_option maxRecDepth 100000
open List renaming length_nil->ajE,eq_nil_of_length_eq_zero->acL,length_cons->agj
open Go.Act renaming put->agu
open Nat renaming zero_add->ahq,add_zero->ake,reduceAdd->alI
open Go renaming Calls->ach,World->aah
namespace Go.Proofs.YtjligkmjlenofaaGreatDoor
open Go.Proofs.Tryz
open Go.RowKit Go.Sort
section
variable{W w:aah}{xb vb sb db k:Nat}{r:Ru}{z:SS}{v:Value}
theorem Vi(h:dW W xb vb sb db k r z v w)(hk:k<1000000)(g off c:Nat)(L:List BL)(hw:iG w g off L)(hl:∀x∈L,x.length<=5000):
  ach prog 64 #[.pointer (some ⟨xb,0,none⟩),.slice (some ⟨g,off,none⟩) L.length c] w (eL W w xb k (AZ ⟨r,z⟩ L)):=by
 obtain⟨⟩:=lB hk hw hl
 by_cases hL:L.length=1
 ·rcases L with _|⟨a,_|⟨_,L⟩⟩
  ·exact absurd hL sP
  ·clear hL
   have sZ:=zH hw;have d0:=hw.2 0 a rfl;have l0:=hl a sP;simp only[ake,agj,ajE,ahq]at*;clear hw hl;have H:=zH h;rcases hn:aZ a with _|_
   ·have qE:AZ ⟨r,z⟩ [a]=bad ⟨r,z⟩ 3:=by show(if aZ a=true then _ else _)=_;rw[hn];rfl
    (rw[qE];have HN:=zH (fun w (h:dW W xb vb sb db k r z v w)=>j6 (aq a) w (by rw[aK];omega) h.env.cq h.env.iE h.et h.Ul (by rw[an];exact hn));unfold dF at HN;obtain⟨c0,c1,c2,c3,c4,c5,c6,aE⟩:=h.seven;clear qE hn h hk);go_in;go_wp2_with fail;refine(bu _ 1 c w).mono ?_;rintro e w0 ⟨rfl,rfl⟩;go_wp2_with fail;have a8:dW W xb vb sb db k r z v w.drew/\w.drew.cell? ⟨g,off,none⟩=some (.string (aq a)):=⟨H.O.drew,d0⟩;have jV:=zH (bB (Below.refl w.heap.size w));clear c0 c1 c2 c3 c4 c5 c6 aE d0;refine bC (fun w'=>dW W xb vb sb db k r z v w'/\w'.cell? ⟨g,off,none⟩=some (.string (aq a))) [8] kR ?_;refine aV 16 0 a8 ?_;refine aV 16 1 a8 ?_;refine aV 16 2 a8 ?_;refine aV 16 3 a8 ?_;refine aV 16 4 a8 ?_;refine aV 16 5 a8 ?_;refine aV 16 6 a8 ?_;refine aB 7 ?_;intro K7 Iz;go_simp;refine(HN.O _ a8.1).mono ?_;rintro x' w2 ⟨rfl,hb⟩;dsimp only;exact⟨rfl,H.O.cu (below_2 jV.O hb) dC⟩
   ·have uh:AZ ⟨r,z⟩ [a]=(⟨r,Ve z (aa a)⟩,aq wG,0):=by show(if aZ a=true then _ else _)=_;rw[hn];rfl
    (rw[uh];have HN:=zH (fun w (h:dW W xb vb sb db k r z v w)=>iI (aq a) w (by rw[aK];omega) h.env.cq (by rw[an];exact hn));rw[an]at HN;generalize aa a=n at*;obtain⟨c0,c1,c2,c3,c4,c5,c6,aE⟩:=h.seven;have HC:=zH (fun w (h:dW W xb vb sb db k r z v w)=>Yk h.sw.sx n);clear uh hn h);go_in;(go_wp2_with fail;refine(bu _ 1 c w).mono ?_;rintro e w0 ⟨rfl,rfl⟩;go_wp2_with fail;have a8:dW W xb vb sb db k r z v w.drew/\w.drew.cell? ⟨g,off,none⟩=some (.string (aq a)):=⟨H.O.drew,d0⟩;have jV:=zH (bB (Below.refl w.heap.size w));clear c0 c1 c2 c3 c4 c5 c6 aE d0;refine bC (fun w'=>dW W xb vb sb db k r z v w'/\w'.cell? ⟨g,off,none⟩=some (.string (aq a))) [8] kR ?_;refine aV 16 0 a8 ?_;refine aV 16 1 a8 ?_;refine aV 16 2 a8 ?_;refine aV 16 3 a8 ?_;refine aV 16 4 a8 ?_;refine aV 16 5 a8 ?_;refine aV 16 6 a8 ?_;refine aB 7 ?_;intro K7 Iz;go_simp;refine(HN.O _ a8.1).mono ?_;rintro x' w2 ⟨rfl,hb⟩;dsimp only;have xV:dW W xb vb sb db k r z v w2/\w2.cell? ⟨g,off,none⟩=some (.string (aq a)):=⟨a8.1.keep hb,by rw[hb.cell (p:=⟨g,off,none⟩) (World.block_lt_of_cell? _ _ a8.2)];exact a8.2⟩;have gS:=zH (below_2 jV.O hb);refine Iz.O _ _ (fun _=>xV) ?_);(try simp only[agu]);(clear a8 jV hb;refine aB 8 ?_;intro K8 KD;go_simp;refine(HC.O _ xV.1).mono ?_;rintro x' w3 ⟨rfl,hs,hg⟩;have h3:=xV.1.two (fS.rP hg) (xV.1.sw.two (fS.rP hg) hs);have HE:=zH (show eL W w xb k (⟨r,Ve z n⟩,aq wG,0) (.returned (.string (aq wG))) w3 from⟨.inl ⟨rfl,rfl⟩,⟨vb,sb,db,_,h3.1.later⟩,(bT.aG gS.O).T h3.2⟩);clear hs hg h3 xV gS);(try dsimp only);refine KD.O _ _ (fun h=>absurd h dC) ?_;refine bJ kR ?_ _;go_wp2_with fail;go_ret;exact HE.O
  ·exact absurd hL sP
 ·have cT:AZ ⟨r,z⟩ L=bad ⟨r,z⟩ 3:=by
   unfold AZ;split;(·exact absurd rfl hL)
   ·rfl
  rw[cT];have HM:=zH (dS (some ⟨g,off,none⟩) L.length c 1 w h.et (by simpa using(show(L.length:Int)≠1 by omega)));have H:=zH h;clear h hw hl hL cT hk;unfold dF at HM
  go_in
  go_wp2_with fail;refine HM.O.mono ?_;rintro e w0 ⟨rfl,hb⟩;dsimp only;exact⟨rfl,H.O.cu hb dC⟩
end
section
variable{W w:aah}{xb vb sb db k:Nat}{r:Ru}{z:SS}{v:Value}
theorem Nr(h:dW W xb vb sb db k r z v w)(hk:k<1000000)(g off c:Nat)(L:List BL)(hw:iG w g off L)(hl:∀x∈L,x.length<=5000):
  ach prog 66 #[.pointer (some ⟨xb,0,none⟩),.slice (some ⟨g,off,none⟩) L.length c] w (eL W w xb k (ov ⟨r,z⟩ L)):=by
 obtain⟨⟩:=lB hk hw hl
 by_cases hL:L.length=3
 ·rcases L with _|⟨a,_|⟨b,_|⟨c_,_|⟨_,L⟩⟩⟩⟩
  ·exact absurd hL sP
  ·exact absurd hL sP
  ·exact absurd hL sP
  ·clear hL
   (have sZ:=zH hw;have d0:=hw.2 0 a rfl;have d1:=hw.2 1 b rfl;have d2:=hw.2 2 c_ rfl;have l0:=hl a sP;have l1:=hl b sP;have l2:=hl c_ sP;simp only[ake,agj,ajE,ahq,alI]at*;clear hw hl;have H:=zH h;have PI:=zH (fun w=>wH (aq c_) w);have HC:=zH (fun w (h:dW W xb vb sb db k r z v w)=>Tv h.sw hk (aq a) (aq b) (ef (aq c_)) (by rw[aK];exact l0) (by rw[aK];exact l1) (uC _ (by rw[aK];exact l2)));unfold eT at HC;have hD:ov ⟨r,z⟩ [a,b,c_]=(⟨r,(bp bG z (fA r z.s (aq a) (aq b) (ef (aq c_)))).1⟩,(bp bG z (fA r z.s (aq a) (aq b) (ef (aq c_)))).2):=rfl;rw[hD];clear hD;generalize bp bG z (fA r z.s (aq a) (aq b) (ef (aq c_)))=Q at*;generalize ef (aq c_)=pc at*;obtain⟨z9,got,code⟩:=Q;dsimp only at HC ⊢;obtain⟨c0,c1,c2,c3,c4,c5,c6,aE⟩:=h.seven;clear h hk);by_cases hq:code=0
   ·subst hq
    rw[dG]at HC;go_in;go_wp2_with fail;refine(bu _ 3 c w).mono ?_;rintro e w0 ⟨rfl,rfl⟩;go_wp2_with fail;have a8:=H.O.drew;have jV:=zH (bB (Below.refl w.heap.size w));have HD:w.drew.cell? ⟨xb,2,none⟩=some (.pointer (some ⟨vb,0,none⟩))/\w.drew.cell? ⟨g,off,none⟩=some (.string (aq a))/\w.drew.cell? ⟨g,off+1,none⟩=some (.string (aq b))/\w.drew.cell? ⟨g,off+2,none⟩=some (.string (aq c_)):=⟨a8.call,sZ.O.drew.three⟩;clear c0 c1 c2 c3 c4 c5 c6 aE d0 d1 d2
    go_region_held3 (fun w'=>w'.cell? ⟨xb,2,none⟩=some (.pointer (some ⟨vb,0,none⟩))/\w'.cell? ⟨g,off,none⟩=some (.string (aq a))/\w'.cell? ⟨g,off+1,none⟩=some (.string (aq b))/\w'.cell? ⟨g,off+2,none⟩=some (.string (aq c_)))
     (first
      |with_reducible assumption
      |with_reducible exact HD)
     (first
      |(go_at_call 106;(with_reducible refine(PI.O _).mono ?_);rintro x' w2 ⟨rfl,rfl⟩)
      |(go_at_call 105;(with_reducible refine(HC.O _ a8).mono ?_);rintro x' w3 ⟨rfl,dX,v3,hs⟩
        have h3:=a8.two dX hs;have gX:=(bT.aG jV.O).T h3.2;have Wr:w3.cell? ⟨xb,2,none⟩=some (.pointer (some ⟨vb,0,none⟩))/\w3.cell? ⟨g,off,none⟩=some (.string (aq a))/\w3.cell? ⟨g,off+1,none⟩=some (.string (aq b))/\w3.cell? ⟨g,off+2,none⟩=some (.string (aq c_)):=⟨h3.1.call,(sZ.O.stay gX).three⟩))
    have oQ:=zH h3.1;have gJ:=zH gX;clear dX hs h3 gX Wr HD a8 jV PI HC;go_wp2_with fail;refine(cE _).mono ?_;rintro x' w4 ⟨rfl,rfl⟩;go_wp2_with fail;go_ret;exact⟨.inl ⟨rfl,rfl⟩,⟨vb,sb,db,_,oQ.O⟩,gJ.O⟩
   ·rw[aY hq]at HC
    (have mR:=zH hq;clear hq);go_in;go_wp2_with fail;refine(bu _ 3 c w).mono ?_;rintro e w0 ⟨rfl,rfl⟩;go_wp2_with fail;have a8:=H.O.drew;have jV:=zH (bB (Below.refl w.heap.size w));have HD:w.drew.cell? ⟨xb,2,none⟩=some (.pointer (some ⟨vb,0,none⟩))/\w.drew.cell? ⟨g,off,none⟩=some (.string (aq a))/\w.drew.cell? ⟨g,off+1,none⟩=some (.string (aq b))/\w.drew.cell? ⟨g,off+2,none⟩=some (.string (aq c_)):=⟨a8.call,sZ.O.drew.three⟩;clear c0 c1 c2 c3 c4 c5 c6 aE d0 d1 d2
    go_region_held3 (fun w'=>w'.cell? ⟨xb,2,none⟩=some (.pointer (some ⟨vb,0,none⟩))/\w'.cell? ⟨g,off,none⟩=some (.string (aq a))/\w'.cell? ⟨g,off+1,none⟩=some (.string (aq b))/\w'.cell? ⟨g,off+2,none⟩=some (.string (aq c_)))
     (first
      |with_reducible assumption
      |with_reducible exact HD)
     (first
      |(go_at_call 106;(with_reducible refine(PI.O _).mono ?_);rintro x' w2 ⟨rfl,rfl⟩)
      |(go_at_call 105;(with_reducible refine(HC.O _ a8).mono ?_);rintro x' w3 ⟨rfl,dX,v3,hs⟩
        have h3:=a8.two dX hs;have gX:=(bT.aG jV.O).T h3.2;have Wr:w3.cell? ⟨xb,2,none⟩=some (.pointer (some ⟨vb,0,none⟩))/\w3.cell? ⟨g,off,none⟩=some (.string (aq a))/\w3.cell? ⟨g,off+1,none⟩=some (.string (aq b))/\w3.cell? ⟨g,off+2,none⟩=some (.string (aq c_)):=⟨h3.1.call,(sZ.O.stay gX).three⟩))
    have oQ:=zH h3.1;have gJ:=zH gX;clear dX hs h3 gX Wr HD a8 jV PI HC;go_wp2_with fail;refine(dY code _ oQ.O.et).mono ?_;rintro x' w4 ⟨rfl,hb⟩;dsimp only;exact⟨rfl,.inr ⟨mR.O,rfl⟩,⟨vb,sb,db,_,(oQ.O.keep hb)⟩,gJ.O.T (bT.aG hb)⟩
  ·exact absurd hL sP
 ·have cT:ov ⟨r,z⟩ L=bad ⟨r,z⟩ 3:=by
   unfold ov;split;(·exact absurd rfl hL)
   ·rfl
  rw[cT];have HM:=zH (dS (some ⟨g,off,none⟩) L.length c 3 w h.et (by simpa using(show(L.length:Int)≠3 by omega)));have H:=zH h;clear h hw hl hL cT hk;unfold dF at HM
  go_in
  go_wp2_with fail;refine HM.O.mono ?_;rintro e w0 ⟨rfl,hb⟩;dsimp only;exact⟨rfl,H.O.cu hb dC⟩
end
section
variable{W w:aah}{xb vb sb db k:Nat}{r:Ru}{z:SS}{v:Value}
theorem Vl(h:dW W xb vb sb db k r z v w)(hk:k<1000000)(g off c:Nat)(L:List BL)(hw:iG w g off L)(hl:∀x∈L,x.length<=5000):
  ach prog 77 #[.pointer (some ⟨xb,0,none⟩),.slice (some ⟨g,off,none⟩) L.length c] w (eL W w xb k (Eb ⟨r,z⟩ L)):=by
 obtain⟨⟩:=lB hk hw hl
 by_cases hL:L.length=2
 ·rcases L with _|⟨a,_|⟨b,_|⟨_,L⟩⟩⟩
  ·exact absurd hL sP
  ·exact absurd hL sP
  ·clear hL
   have sZ:=zH hw;have d0:=hw.2 0 a rfl;have d1:=hw.2 1 b rfl;have l0:=hl a sP;have l1:=hl b sP;simp only[ake,agj,ajE,ahq,alI]at*;clear hw hl;have H:=zH h;rcases hn:aZ a with _|_
   ·have qE:Eb ⟨r,z⟩ [a,b]=bad ⟨r,z⟩ 3:=by show(if aZ a=true then _ else _)=_;rw[hn];rfl
    (rw[qE];have HN:=zH (fun w (h:dW W xb vb sb db k r z v w)=>j6 (aq a) w (by rw[aK];omega) h.env.cq h.env.iE h.et h.Ul (by rw[an];exact hn));unfold dF at HN;clear qE hn h hk);go_in;go_wp2_with fail;refine(bu _ 2 c w).mono ?_;rintro e w0 ⟨rfl,rfl⟩;go_wp2_with fail;have a8:dW W xb vb sb db k r z v w.drew/\w.drew.cell? ⟨g,off,none⟩=some (.string (aq a))/\w.drew.cell? ⟨g,off+1,none⟩=some (.string (aq b)):=⟨H.O.drew,d0,d1⟩;have jV:=zH (bB (Below.refl w.heap.size w));clear d0 d1;refine bC (fun w'=>dW W xb vb sb db k r z v w'/\w'.cell? ⟨g,off,none⟩=some (.string (aq a))/\w'.cell? ⟨g,off+1,none⟩=some (.string (aq b))) [7,8] kR ?_;refine gZ 16 0 a8 ?_;refine gZ 16 1 a8 ?_;refine gZ 16 2 a8 ?_;refine gZ 16 4 a8 ?_;refine gZ 16 5 a8 ?_;refine gZ 16 6 a8 ?_;refine aB 3 ?_;intro K7 Iz;go_simp;refine(HN.O _ a8.1).mono ?_;rintro x' w2 ⟨rfl,hb⟩;dsimp only;exact⟨rfl,H.O.cu (below_2 jV.O hb) dC⟩
   ·have uh:Eb ⟨r,z⟩ [a,b]=(⟨r,z⟩,aq (bt (aa a) b),0):=by show(if aZ a=true then _ else _)=_;rw[hn];rfl
    (rw[uh];have HN:=zH (fun w (h:dW W xb vb sb db k r z v w)=>iI (aq a) w (by rw[aK];omega) h.env.cq (by rw[an];exact hn));rw[an]at HN;generalize aa a=n at*;have MI:=zH (fun w=>vr n (aq b) w (by rw[aK];omega));rw[an]at MI;have hgs:(⟨(bt n b).toArray⟩:ByteArray)=aq (bt n b):=rfl;rw[hgs]at MI;clear uh hn h hk hgs;generalize aq (bt n b)=tg at*);go_in;(go_wp2_with fail;refine(bu _ 2 c w).mono ?_;rintro e w0 ⟨rfl,rfl⟩;go_wp2_with fail;have a8:dW W xb vb sb db k r z v w.drew/\w.drew.cell? ⟨g,off,none⟩=some (.string (aq a))/\w.drew.cell? ⟨g,off+1,none⟩=some (.string (aq b)):=⟨H.O.drew,d0,d1⟩;have jV:=zH (bB (Below.refl w.heap.size w));clear d0 d1;refine bC (fun w'=>dW W xb vb sb db k r z v w'/\w'.cell? ⟨g,off,none⟩=some (.string (aq a))/\w'.cell? ⟨g,off+1,none⟩=some (.string (aq b))) [7,8] kR ?_;refine gZ 16 0 a8 ?_;refine gZ 16 1 a8 ?_;refine gZ 16 2 a8 ?_;refine gZ 16 4 a8 ?_;refine gZ 16 5 a8 ?_;refine gZ 16 6 a8 ?_;refine aB 3 ?_;intro K7 Iz;go_simp;refine(HN.O _ a8.1).mono ?_;rintro x' w2 ⟨rfl,hb⟩;dsimp only;have hw2:=sZ.O.drew.keep hb;have xV:dW W xb vb sb db k r z v w2/\w2.cell? ⟨g,off,none⟩=some (.string (aq a))/\w2.cell? ⟨g,off+1,none⟩=some (.string (aq b)):=⟨a8.1.keep hb,hw2.ao9⟩;have gS:=zH (below_2 jV.O hb);refine Iz.O _ _ (fun _=>xV) ?_);(try simp only[agu]);(clear a8 jV hb hw2;refine aB 7 ?_;intro K8 KD;go_simp;refine(MI.O _).mono ?_;rintro x' w3 ⟨rfl,hb⟩;have jb:=zH (below_2 gS.O hb);clear hb xV gS);(try dsimp only);(refine KD.O _ _ (fun h=>absurd h dC) ?_);(try simp only[agu]);refine aB 8 ?_;intro K9 KE;go_simp;(try dsimp only);refine KE.O _ _ (fun h=>absurd h dC) ?_;refine bJ kR ?_ _;go_wp2_with fail;go_ret;exact H.O.told jb.O tg
  ·exact absurd hL sP
 ·have cT:Eb ⟨r,z⟩ L=bad ⟨r,z⟩ 3:=by
   unfold Eb;split;(·exact absurd rfl hL)
   ·rfl
  rw[cT];have HM:=zH (dS (some ⟨g,off,none⟩) L.length c 2 w h.et (by simpa using(show(L.length:Int)≠2 by omega)));have H:=zH h;clear h hw hl hL cT hk;unfold dF at HM
  go_in
  go_wp2_with fail;refine HM.O.mono ?_;rintro e w0 ⟨rfl,hb⟩;dsimp only;exact⟨rfl,H.O.cu hb dC⟩
theorem Rx(h:dW W xb vb sb db k r z v w)(hk:k<1000000)(g off c:Nat)(L:List BL)(hw:iG w g off L)(hl:∀x∈L,x.length<=5000):
  ach prog 74 #[.pointer (some ⟨xb,0,none⟩),.slice (some ⟨g,off,none⟩) L.length c] w (eL W w xb k (uH ⟨r,z⟩ L)):=by
 obtain⟨⟩:=lB hk hw hl
 by_cases hL:L.length=0
 ·obtain rfl:L=[]:=acL hL
  clear hL hw hl;simp only[ajE];have H:=zH h;have HC:=zH (abU h.sw.sx hk);unfold BN at HC;have hD:uH ⟨r,z⟩ []=(⟨r,(iL z).1⟩,aq qR,(iL z).2):=rfl;rw[hD];clear hD;generalize iL z=Q at*;obtain⟨z9,code⟩:=Q;dsimp only at HC ⊢;obtain⟨c0,c1,c2,c3,c4,c5,c6,aE⟩:=h.seven;clear h hk
  by_cases hq:code=0
  ·subst hq
   rw[dG]at HC;go_in;go_wp2_with fail;refine(bu _ 0 c w).mono ?_;rintro e w0 ⟨rfl,rfl⟩;go_wp2_with fail;refine HC.O.mono ?_;rintro x' w3 ⟨rfl,dX,v3,hs⟩;dsimp only;have h3:=H.O.two dX (H.O.sw.two dX hs);have oQ:=zH h3.1;have gJ:=zH h3.2;clear dX hs h3 HC c0 c1 c2 c3 c4 c5 c6 aE;go_wp2_with fail;refine(cE _).mono ?_;rintro x' w4 ⟨rfl,rfl⟩;go_wp2_with fail;go_ret;exact⟨.inl ⟨rfl,rfl⟩,⟨vb,sb,db,_,oQ.O⟩,gJ.O⟩
  ·rw[aY hq]at HC
   (have mR:=zH hq;clear hq);go_in;go_wp2_with fail;refine(bu _ 0 c w).mono ?_;rintro e w0 ⟨rfl,rfl⟩;go_wp2_with fail;refine HC.O.mono ?_;rintro x' w3 ⟨rfl,dX,v3,hs⟩;dsimp only;have h3:=H.O.two dX (H.O.sw.two dX hs);have oQ:=zH h3.1;have gJ:=zH h3.2;clear dX hs h3 HC c0 c1 c2 c3 c4 c5 c6 aE;go_wp2_with fail;refine(dY code _ oQ.O.et).mono ?_;rintro x' w4 ⟨rfl,hb⟩;dsimp only;exact⟨rfl,.inr ⟨mR.O,rfl⟩,⟨vb,sb,db,_,(oQ.O.keep hb)⟩,gJ.O.T (bT.aG hb)⟩
 ·have cT:uH ⟨r,z⟩ L=bad ⟨r,z⟩ 3:=by
   unfold uH;split;(·exact absurd rfl hL)
   ·rfl
  rw[cT];have HM:=zH (dS (some ⟨g,off,none⟩) L.length c 0 w h.et (by simpa using(show(L.length:Int)≠0 by omega)));have H:=zH h;clear h hw hl hL cT hk;unfold dF at HM
  go_in
  go_wp2_with fail;refine HM.O.mono ?_;rintro e w0 ⟨rfl,hb⟩;dsimp only;exact⟨rfl,H.O.cu hb dC⟩
end
theorem Yi{r:Ru}{z:SS}(h:Fit z.s):bZ (bp 0 z (fD r z.s)).2.1=true:=by
 unfold fD;rcases hf:Aa r z.s with _|f
 ·rfl
 ·have hm:f∈z.s.ax:=List.mem_of_find?_eq_some hf
  dsimp only[bp];split
  ·exact(bV (h.ax f hm)).1
  ·rfl
section
variable{W w:aah}{xb vb sb db k:Nat}{r:Ru}{z:SS}{v:Value}
theorem Nt(h:dW W xb vb sb db k r z v w)(hk:k<1000000)(g off c:Nat)(L:List BL)(hw:iG w g off L)(hl:∀x∈L,x.length<=5000):
  ach prog 76 #[.pointer (some ⟨xb,0,none⟩),.slice (some ⟨g,off,none⟩) L.length c] w (eL W w xb k (oK ⟨r,z⟩ L)):=by
 obtain⟨⟩:=lB hk hw hl
 by_cases hL:L.length=0
 ·obtain rfl:L=[]:=acL hL
  clear hL hw hl;simp only[ajE];have H:=zH h;have HC:=zH (Tw h.sw hk);unfold mh at HC;have hD:oK ⟨r,z⟩ []=(⟨r,(bp 0 z (fD r z.s)).1⟩,bM (bp 0 z (fD r z.s)).2.1,(bp 0 z (fD r z.s)).2.2):=rfl;rw[hD];have PG:=zH (Yi (r:=r) h.sw.sx.fit);clear hD;generalize bp 0 z (fD r z.s)=Q at*;obtain⟨z9,got,code⟩:=Q;dsimp only at HC PG ⊢;have Ep:=zH (fun w hT=>ox got PG.O w hT);obtain⟨c0,c1,c2,c3,c4,c5,c6,aE⟩:=h.seven;clear h hk
  by_cases hq:code=0
  ·subst hq
   rw[dG]at HC;go_in;go_wp2_with fail;refine(bu _ 0 c w).mono ?_;rintro e w0 ⟨rfl,rfl⟩;go_wp2_with fail;refine HC.O.mono ?_;rintro x' w3 ⟨rfl,dX,v3,hs⟩;dsimp only;have h3:=H.O.two dX hs;have oQ:=zH h3.1;have gJ:=zH h3.2;clear dX hs h3 HC c0 c1 c2 c3 c4 c5 c6 aE;go_wp2_with fail;refine(cE _).mono ?_;rintro x' w4 ⟨rfl,rfl⟩;go_wp2_with fail;refine(Ep.O _ oQ.O.env.cq).mono ?_;rintro x' w6 ⟨rfl,qw⟩;have HB6:=zH qw;clear qw;go_wp2_with fail;go_ret;exact⟨.inl ⟨rfl,rfl⟩,⟨vb,sb,db,_,oQ.O.keep HB6.O⟩,gJ.O.T (bT.aG HB6.O)⟩
  ·rw[aY hq]at HC
   (have mR:=zH hq;clear hq);go_in;go_wp2_with fail;refine(bu _ 0 c w).mono ?_;rintro e w0 ⟨rfl,rfl⟩;go_wp2_with fail;refine HC.O.mono ?_;rintro x' w3 ⟨rfl,dX,v3,hs⟩;dsimp only;have h3:=H.O.two dX hs;have oQ:=zH h3.1;have gJ:=zH h3.2;clear dX hs h3 HC c0 c1 c2 c3 c4 c5 c6 aE;go_wp2_with fail;refine(dY code _ oQ.O.et).mono ?_;rintro x' w4 ⟨rfl,hb⟩;dsimp only;exact⟨rfl,.inr ⟨mR.O,rfl⟩,⟨vb,sb,db,_,(oQ.O.keep hb)⟩,gJ.O.T (bT.aG hb)⟩
 ·have cT:oK ⟨r,z⟩ L=bad ⟨r,z⟩ 3:=by
   unfold oK;split;(·exact absurd rfl hL)
   ·rfl
  rw[cT];have HM:=zH (dS (some ⟨g,off,none⟩) L.length c 0 w h.et (by simpa using(show(L.length:Int)≠0 by omega)));have H:=zH h;clear h hw hl hL cT hk;unfold dF at HM
  go_in
  go_wp2_with fail;refine HM.O.mono ?_;rintro e w0 ⟨rfl,hb⟩;dsimp only;exact⟨rfl,H.O.cu hb dC⟩
theorem Kc(h:dW W xb vb sb db k r z v w)(hk:k<1000000)(g off c:Nat)(L:List BL)(hw:iG w g off L)(hl:∀x∈L,x.length<=5000)(fR:hU z.writes):
  ach prog 80 #[.pointer (some ⟨xb,0,none⟩),.slice (some ⟨g,off,none⟩) L.length c] w (eL W w xb k (kU ⟨r,z⟩ L)):=by
 obtain⟨⟩:=lB hk hw hl
 by_cases hL:L.length=0
 ·obtain rfl:L=[]:=acL hL
  clear hL hw hl;simp only[ajE];have H:=zH h;have HC:=zH (Ty h.sw.sx);have hD:kU ⟨r,z⟩ []=(⟨r,z⟩,bM z.writes,0):=rfl;rw[hD];have PG:=zH fR;have Ep:=zH (fun w hT=>ow z.writes PG.O.1 PG.O.2 w hT);obtain⟨c0,c1,c2,c3,c4,c5,c6,aE⟩:=h.seven;clear h hk hD
  go_in
  go_wp2_with fail;refine(bu _ 0 c w).mono ?_;rintro e w0 ⟨rfl,rfl⟩;go_wp2_with fail;refine HC.O.mono ?_;rintro x' w3 ⟨rfl,rfl⟩;dsimp only;go_wp2_with fail;refine(Ep.O _ H.O.env.cq).mono ?_;rintro x' w6 ⟨rfl,qw⟩;have HB6:=zH qw;clear qw;go_wp2_with fail;go_ret;exact H.O.told HB6.O _
 ·have cT:kU ⟨r,z⟩ L=bad ⟨r,z⟩ 3:=by
   unfold kU;split;(·exact absurd rfl hL)
   ·rfl
  rw[cT];have HM:=zH (dS (some ⟨g,off,none⟩) L.length c 0 w h.et (by simpa using(show(L.length:Int)≠0 by omega)));have H:=zH h;clear h hw hl hL cT hk;unfold dF at HM
  go_in
  go_wp2_with fail;refine HM.O.mono ?_;rintro e w0 ⟨rfl,hb⟩;dsimp only;exact⟨rfl,H.O.cu hb dC⟩
theorem Rr(h:dW W xb vb sb db k r z v w)(hk:k<1000000)(g off c:Nat)(L:List BL)(hw:iG w g off L)(hl:∀x∈L,x.length<=5000):
  ach prog 67 #[.pointer (some ⟨xb,0,none⟩),.slice (some ⟨g,off,none⟩) L.length c] w (eL W w xb k (uf ⟨r,z⟩ L)):=by
 obtain⟨⟩:=lB hk hw hl
 by_cases hL:L.length=0
 ·obtain rfl:L=[]:=acL hL
  clear hL hw hl;simp only[ajE];have H:=zH h;have hD:uf ⟨r,z⟩ []=(⟨r,z⟩,VV,0):=rfl;rw[hD];clear h hk hD
  go_in
  go_wp2_with fail;refine(bu _ 0 c w).mono ?_;rintro e w0 ⟨rfl,rfl⟩;go_wp2_with fail;go_ret;exact H.O.told bR _
 ·have cT:uf ⟨r,z⟩ L=bad ⟨r,z⟩ 3:=by
   unfold uf;split;(·exact absurd rfl hL)
   ·rfl
  rw[cT];have HM:=zH (dS (some ⟨g,off,none⟩) L.length c 0 w h.et (by simpa using(show(L.length:Int)≠0 by omega)));have H:=zH h;clear h hw hl hL cT hk;unfold dF at HM
  go_in
  go_wp2_with fail;refine HM.O.mono ?_;rintro e w0 ⟨rfl,hb⟩;dsimp only;exact⟨rfl,H.O.cu hb dC⟩
theorem Ns(h:dW W xb vb sb db k r z v w)(hk:k<1000000)(g off c:Nat)(L:List BL)(hw:iG w g off L)(hl:∀x∈L,x.length<=5000):
  ach prog 69 #[.pointer (some ⟨xb,0,none⟩),.slice (some ⟨g,off,none⟩) L.length c] w (eL W w xb k (oz ⟨r,z⟩ L)):=by
 obtain⟨⟩:=lB hk hw hl
 by_cases hL:L.length=1
 ·rcases L with _|⟨a,_|⟨_,L⟩⟩
  ·exact absurd hL sP
  ·clear hL
   (have sZ:=zH hw;have d0:=hw.2 0 a rfl;have l0:=hl a sP;simp only[ake,agj,ajE,ahq]at*;clear hw hl;have H:=zH h;have PI:=zH (fun w=>wH (aq a) w);have iS:=uC (aq a) (n:=5000) (by rw[aK];exact l0);have hD:oz ⟨r,z⟩ [a]=(⟨r,z⟩,jR (aq (cr (ef (aq a)).data.toList)),aQ (ef (aq a)).data.toList):=rfl;rw[hD];clear hD;generalize ef (aq a)=pc at*;have HC:=zH (fun w (h:dW W xb vb sb db k r z v w)=>jy pc w iS h.env.iV);generalize aQ pc.data.toList=code at*;generalize aq (cr pc.data.toList)=ls at*;have HW:=zH (fun w=>FZ ls w);clear h hk iS);by_cases hq:code=0
   ·subst hq
    rw[dG]at HC;go_in;go_wp2_with fail;refine(bu _ 1 c w).mono ?_;rintro e w0 ⟨rfl,rfl⟩;go_wp2_with fail;refine(PI.O _).mono ?_;rintro x' w2 ⟨rfl,rfl⟩;dsimp only;go_wp2_with fail;refine(HC.O _ H.O).mono ?_;rintro x' w3 ⟨rfl,hb⟩;dsimp only;have jb:=zH hb;clear hb HC PI d0;go_wp2_with fail;refine(cE _).mono ?_;rintro x' w4 ⟨rfl,rfl⟩;go_wp2_with fail;refine(HW.O _).mono ?_;rintro x' w4 ⟨rfl,rfl⟩;go_wp2_with fail;go_ret;exact H.O.told jb.O _
   ·rw[aY hq]at HC
    (have mR:=zH hq;clear hq);go_in;go_wp2_with fail;refine(bu _ 1 c w).mono ?_;rintro e w0 ⟨rfl,rfl⟩;go_wp2_with fail;refine(PI.O _).mono ?_;rintro x' w2 ⟨rfl,rfl⟩;dsimp only;go_wp2_with fail;refine(HC.O _ H.O).mono ?_;rintro x' w3 ⟨rfl,hb⟩;dsimp only;have jb:=zH hb;clear hb HC PI d0;go_wp2_with fail;refine(dY code _ (H.O.keep jb.O).et).mono ?_;rintro x' w4 ⟨rfl,hb⟩;dsimp only;exact⟨rfl,H.O.cu (below_2 jb.O hb) mR.O⟩
  ·exact absurd hL sP
 ·have cT:oz ⟨r,z⟩ L=bad ⟨r,z⟩ 3:=by
   unfold oz;split;(·exact absurd rfl hL)
   ·rfl
  rw[cT];have HM:=zH (dS (some ⟨g,off,none⟩) L.length c 1 w h.et (by simpa using(show(L.length:Int)≠1 by omega)));have H:=zH h;clear h hw hl hL cT hk;unfold dF at HM
  go_in
  go_wp2_with fail;refine HM.O.mono ?_;rintro e w0 ⟨rfl,hb⟩;dsimp only;exact⟨rfl,H.O.cu hb dC⟩
end
section
variable{W w:aah}{xb vb sb db k:Nat}{r:Ru}{z:SS}{v:Value}
theorem Vj(h:dW W xb vb sb db k r z v w)(hk:k<1000000)(g off c:Nat)(L:List BL)(hw:iG w g off L)(hl:∀x∈L,x.length<=5000):
  ach prog 70 #[.pointer (some ⟨xb,0,none⟩),.slice (some ⟨g,off,none⟩) L.length c] w (eL W w xb k (CX ⟨r,z⟩ L)):=by
 obtain⟨⟩:=lB hk hw hl
 by_cases hL:L.length=0
 ·obtain rfl:L=[]:=acL hL
  clear hL hw hl;simp only[ajE];have H:=zH h;have hD:CX ⟨r,z⟩ []=(⟨r,z⟩,gb [z.log]++⟨#[32]⟩++rK z.down,0):=rfl;rw[hD];have anj:=h.sw.sx.ajt;have fR:hU z.log:=⟨by omega,by omega⟩;have zj:=fU (L:=[z.log]) sP (by simpa using fR);have zd:(rK z.down).size<=5:=by unfold rK;split<;>decide
  have sp:(⟨#[32]⟩:ByteArray).size=1:=rfl;have q1:=ir (gb [z.log]) ⟨#[32]⟩ oM;have q2:=ir (gb [z.log]++⟨#[32]⟩) (rK z.down) (by simp only[ByteArray.size_append];omega);have HL:=zH (fun w (h:dW W xb vb sb db k r z v w)=>af1 h.sw.sx);have HDN:=zH (fun w (h:dW W xb vb sb db k r z v w)=>abS h.sw.sx);have HJ:=zH (fun g w hw hi=>vf g [z.log] w hw hi sP sP (by simpa using fR));simp only[agj,ajE,ahq]at HJ;have EH:=zH (fun w=>(show ach prog 111 #[.bool z.down] w (fun e w'=>e=.returned (.string (rK z.down))/\w=w')from(tu z.down w).mono fun _ _ ⟨h1,h2⟩=>⟨by rw[h1];cases z.down<;>rfl,h2.symm⟩));clear h hk hD anj fR zj zd sp;generalize gb [z.log]=jl at*;generalize rK z.down=dn at*
  go_in
  go_wp2_with fail;refine(bu _ 0 c w).mono ?_;rintro e w0 ⟨rfl,rfl⟩;go_wp2_with fail;have a8:=H.O.drew;have jV:=zH (bB (Below.refl w.heap.size w));have HD:w.drew.cell? ⟨xb,1,none⟩=some (.pointer (some ⟨sb,0,none⟩)):=a8.seven.2.1
  go_region_held3 (fun w'=>w'.cell? ⟨xb,1,none⟩=some (.pointer (some ⟨sb,0,none⟩)))
   (first
    |with_reducible assumption
    |with_reducible exact HD
    |with_reducible exact(dW.seven h1).2.1
    |with_reducible exact(dW.seven h2).2.1
    |with_reducible exact(dW.seven h3).2.1
    |with_reducible exact(dW.seven h4).2.1)
   (first
    |(go_at_call 110;(with_reducible refine(HL.O _ a8).mono ?_);rintro x' w1 ⟨rfl,eu⟩
      have h1:=a8.keep eu;have pX:=below_2 jV.O eu;have cN:=(Below.refl w1.heap.size w1).alloc nR (.cells #[.int .i64 z.log] 3);have h2:=h1.keep cN;have oU:=below_2 pX cN;have hi2:=CO w1 3 z.log)
    |(go_at_call 102;(with_reducible refine(HJ.O _ _ h2.env.wb hi2).mono ?_);rintro x' w3 ⟨rfl,lV⟩
      have h3:=h2.keep lV;have Et:=below_2 oU lV)
    |(go_at_call 112;(with_reducible refine(HDN.O _ h3).mono ?_);rintro x' w4 ⟨rfl,RP⟩
      have h4:=h3.keep RP;have hB4:=below_2 Et RP)
    |(go_at_call 111;(with_reducible refine(EH.O _).mono ?_);rintro x' w5 ⟨rfl,rfl⟩))
  have HB:=zH hB4;clear HD a8 jV hB4 h4 h3 h2 h1 Et oU pX;go_wp2_with fail;go_ret;exact H.O.told HB.O _
 ·have cT:CX ⟨r,z⟩ L=bad ⟨r,z⟩ 3:=by
   unfold CX;split;(·exact absurd rfl hL)
   ·rfl
  rw[cT];have HM:=zH (dS (some ⟨g,off,none⟩) L.length c 0 w h.et (by simpa using(show(L.length:Int)≠0 by omega)));have H:=zH h;clear h hw hl hL cT hk;unfold dF at HM
  go_in
  go_wp2_with fail;refine HM.O.mono ?_;rintro e w0 ⟨rfl,hb⟩;dsimp only;exact⟨rfl,H.O.cu hb dC⟩
end
theorem xY(a:BL)(n:Int)(hn:Lib.index [114,97] a=n)(w:aah)(hm:gp w):ach prog 60 #[.string ⟨#[114,97]⟩,.string (aq a)] w fun e w'=>e=.returned (.int .i64 n)/\w=w':=by
 obtain⟨m,hm⟩:=hm;refine(q_ ⟨#[114,97]⟩ (aq a) m w dC hm).mono ?_;rintro e w' ⟨rfl,rfl⟩;rw[an];exact⟨by rw[show(⟨#[114,97]⟩:ByteArray).data.toList=[114,97]from rfl,hn],rfl⟩
section
variable{W w:aah}{xb vb sb db k:Nat}{r:Ru}{z:SS}{v:Value}
theorem Nu(h:dW W xb vb sb db k r z v w)(hk:k<1000000)(g off c:Nat)(L:List BL)(hw:iG w g off L)(hl:∀x∈L,x.length<=5000):
  ach prog 79 #[.pointer (some ⟨xb,0,none⟩),.slice (some ⟨g,off,none⟩) L.length c] w (eL W w xb k (oN ⟨r,z⟩ L)):=by
 obtain⟨⟩:=lB hk hw hl
 by_cases hL:L.length=4
 ·rcases L with _|⟨a,_|⟨b,_|⟨c_,_|⟨e_,_|⟨_,L⟩⟩⟩⟩⟩
  ·exact absurd hL sP
  ·exact absurd hL sP
  ·exact absurd hL sP
  ·exact absurd hL sP
  ·clear hL
   (have sZ:=zH hw;have d0:=hw.2 0 a rfl;have d1:=hw.2 1 b rfl;have d2:=hw.2 2 c_ rfl;have d3:=hw.2 3 e_ rfl;have l0:=hl a sP;have l1:=hl b sP;have l2:=hl c_ sP;have l3:=hl e_ sP;simp only[ake,agj,ajE,ahq,alI]at*;clear hw hl;have H:=zH h;have hD:oN ⟨r,z⟩ [a,b,c_,e_]=(if pz a≠0/\(aZ b&&aZ c_&&aZ e_)=true then(if eP (pz a) (aa b) (aa c_) (aa e_)=true then(⟨r,z⟩,Ae r.key (pz a) (aa b) (aa c_) (aa e_),0)else bad ⟨r,z⟩ 1)else bad ⟨r,z⟩ 3):=rfl;have T9:=zH hD;clear hD;obtain⟨c0,c1,c2,c3,c4,c5,c6,aE⟩:=h.seven;have HM:=zH (dY 3 w h.et);have Uq:=h.env.iV;clear h hk);by_cases ha:a.length=1
   ·obtain⟨x,rfl⟩:=List.length_eq_one_iff.1 ha
    clear ha;by_cases h1:x=114
    ·subst h1
     (have MN:pz [114]=1:=rfl;have KG:=T9.O;rw[MN]at KG;have MX:=zH KG;clear KG T9;have HIX:=zH (xY [114] 0 dC w Uq);clear Uq MN);go_in;(go_wp2_with fail;refine(bu _ 4 c w).mono ?_;rintro e w0 ⟨rfl,rfl⟩;go_wp2_with fail;refine HIX.O.mono ?_;rintro x' w1 ⟨rfl,rfl⟩;dsimp only;go_wp2_with fail;have a8:Below w.heap.size w w.drew:=bB (Below.refl w.heap.size w);clear c0 c1 c2 c3 c4 c5 c6 aE d0 d1 d2 d3;refine bC (fun w'=>Below w.heap.size w w') [] kR ?_;refine aH 16 0 a8 ?_;refine aH 16 1 a8 ?_;refine aH 16 2 a8 ?_;refine aH 16 3 a8 ?_;refine bf 16 4 ?arE ?ae9 a8 ?ajO);(case ae9=>(intro w dm;have c3:=(dW.seven (H.O.keep dm)).2.2.2.1;go_simp;(try with_reducible rfl)));simp only[agu];refine aH 16 5 a8 ?_;refine aH 16 6 a8 ?_;refine aH 16 7 a8 ?_;refine bf 16 8 ?arG ?ae' a8 ?ajQ;(case ae'=>(intro w dm;have d1:=(iG.four (sZ.O.keep dm)).2.1;go_simp;(try with_reducible rfl)));simp only[agu];refine aH 16 10 a8 ?_;refine aH 16 11 a8 ?_;refine bf 16 12 ?apa ?aaD a8 ?agT;(case aaD=>(intro w dm;have d2:=(iG.four (sZ.O.keep dm)).2.2.1;go_simp;(try with_reducible rfl)));simp only[agu];refine aH 16 14 a8 ?_;refine aH 16 15 a8 ?_;refine bf 16 16 ?ape ?aaH a8 ?agX;(case aaH=>(intro w dm;have d3:=(iG.four (sZ.O.keep dm)).2.2.2;go_simp;(try with_reducible rfl)));simp only[agu];refine aB 9 ?_;intro K9 KE;go_simp;rcases nB:aZ b with _|_
     ·refine(j6 (aq b) _ (by rw[aK];omega) (H.O.keep a8).env.cq (H.O.keep a8).env.iE (H.O.keep a8).et (H.O.keep a8).Ul (by rw[an];exact nB)).mono ?_
      (rintro x' w2 ⟨rfl,hb⟩;dsimp only;have nJ:¬ ((1:Int)≠0/\(aZ b&&aZ c_&&aZ e_)=true):=by simp[nB]);rw[MX.O,if_neg nJ];exact⟨rfl,H.O.cu (below_2 a8 hb) dC⟩
     (have hy1:=iI (aq b) _ (by rw[aK];omega) (H.O.keep a8).env.cq (by rw[an];exact nB);rw[an]at hy1;refine hy1.mono ?_;rintro x' w3 ⟨rfl,eu⟩;dsimp only;have pX:=below_2 a8 eu;clear hy1;refine KE.O _ _ (fun _=>pX) ?_);(try simp only[agu]);refine aB 13 ?_;intro K13 aea;go_simp;rcases rq:aZ c_ with _|_
     ·refine(j6 (aq c_) _ (by rw[aK];omega) (H.O.keep pX).env.cq (H.O.keep pX).env.iE (H.O.keep pX).et (H.O.keep pX).Ul (by rw[an];exact rq)).mono ?_
      (rintro x' w2 ⟨rfl,hb⟩;dsimp only;have nJ:¬ ((1:Int)≠0/\(aZ b&&aZ c_&&aZ e_)=true):=by simp[rq]);rw[MX.O,if_neg nJ];exact⟨rfl,H.O.cu (below_2 pX hb) dC⟩
     (have hy2:=iI (aq c_) _ (by rw[aK];omega) (H.O.keep pX).env.cq (by rw[an];exact rq);rw[an]at hy2;refine hy2.mono ?_;rintro x' w4 ⟨rfl,ju⟩;dsimp only;have oU:=below_2 pX ju;clear hy2;refine aea.O _ _ (fun _=>oU) ?_);(try simp only[agu]);refine aB 17 ?_;intro K17 aeb;go_simp;rcases tF:aZ e_ with _|_
     ·refine(j6 (aq e_) _ (by rw[aK];omega) (H.O.keep oU).env.cq (H.O.keep oU).env.iE (H.O.keep oU).et (H.O.keep oU).Ul (by rw[an];exact tF)).mono ?_
      (rintro x' w2 ⟨rfl,hb⟩;dsimp only;have nJ:¬ ((1:Int)≠0/\(aZ b&&aZ c_&&aZ e_)=true):=by simp[tF]);rw[MX.O,if_neg nJ];exact⟨rfl,H.O.cu (below_2 oU hb) dC⟩
     (have Wv:=iI (aq e_) _ (by rw[aK];omega) (H.O.keep oU).env.cq (by rw[an];exact tF);rw[an]at Wv;refine Wv.mono ?_;rintro x' w5 ⟨rfl,lV⟩;dsimp only;have Et:=below_2 oU lV;clear Wv;refine aeb.O _ _ (fun _=>Et) ?_);(try simp only[agu]);refine aH 16 18 Et ?_;have uh:(1:Int)≠0/\(aZ b&&aZ c_&&aZ e_)=true:=⟨by decide,by rw[nB,rq,tF];rfl⟩;have HY:=zH uh;clear uh;rcases hr:eP 1 (aa b) (aa c_) (aa e_)with _|_
     ·have HR:=zH hr
      (have Ig:=zH (uX r.key 1 (aa b) (aa c_) (aa e_) w5 hr);clear hr;unfold v4 at Ig;rw[aY (show(1:Int)≠0 by decide)]at Ig;refine aB 19 ?_;intro K19 NK;go_simp;refine Ig.O.mono ?_;rintro x' w7 ⟨rfl,jK⟩;dsimp only;have tZ:=below_2 Et jK;have ME:=zH tZ;refine NK.O _ _ (fun _=>tZ) ?_);(try simp only[agu]);refine aH 16 20 tZ ?_;refine aH 16 21 tZ ?_;refine aH 16 22 tZ ?_;refine aH 16 23 tZ ?_;refine aH 16 24 tZ ?_;refine bJ kR ?_ _;clear tZ jK Ig;go_wp2_with fail;refine(dY 1 _ (H.O.keep ME.O).et).mono ?_;rintro x' w8 ⟨rfl,hb⟩;dsimp only;rw[MX.O,if_pos HY.O,if_neg (by rw[HR.O];decide)];exact⟨rfl,H.O.cu (below_2 ME.O hb) dC⟩
     ·have HR:=zH hr
      (have Ig:=zH (jz r.key 1 (aa b) (aa c_) (aa e_) w5 (H.O.keep Et).env.cq hr);clear hr;unfold v4 at Ig;refine aB 19 ?_;intro K19 NK;go_simp;refine Ig.O.mono ?_;rintro x' w7 ⟨rfl,jK⟩;dsimp only;have tZ:=below_2 Et jK;have ME:=zH tZ;refine NK.O _ _ (fun _=>tZ) ?_);(try simp only[agu]);refine aH 16 20 tZ ?_;refine aH 16 21 tZ ?_;refine aH 16 22 tZ ?_;refine aH 16 23 tZ ?_;refine aH 16 24 tZ ?_;refine bJ kR ?_ _;clear tZ jK Ig;go_wp2_with fail;refine(cE _).mono ?_;rintro x' w8 ⟨rfl,rfl⟩;dsimp only;go_wp2_with fail;go_ret;rw[MX.O,if_pos HY.O,if_pos HR.O];exact H.O.told ME.O _
    ·by_cases h2:x=97
     ·subst h2
      (have MN:pz [97]=2:=rfl;have KG:=T9.O;rw[MN]at KG;have MX:=zH KG;clear KG T9;have HIX:=zH (xY [97] 1 dC w Uq);clear Uq MN);go_in;(go_wp2_with fail;refine(bu _ 4 c w).mono ?_;rintro e w0 ⟨rfl,rfl⟩;go_wp2_with fail;refine HIX.O.mono ?_;rintro x' w1 ⟨rfl,rfl⟩;dsimp only;go_wp2_with fail;have a8:Below w.heap.size w w.drew:=bB (Below.refl w.heap.size w);clear c0 c1 c2 c3 c4 c5 c6 aE d0 d1 d2 d3;refine bC (fun w'=>Below w.heap.size w w') [] kR ?_;refine aH 16 0 a8 ?_;refine aH 16 1 a8 ?_;refine aH 16 2 a8 ?_;refine aH 16 3 a8 ?_;refine bf 16 4 ?arF ?ae_ a8 ?ajP);(case ae_=>(intro w dm;have c3:=(dW.seven (H.O.keep dm)).2.2.2.1;go_simp;(try with_reducible rfl)));simp only[agu];refine aH 16 5 a8 ?_;refine aH 16 6 a8 ?_;refine aH 16 7 a8 ?_;refine bf 16 8 ?arH ?afa a8 ?ajR;(case afa=>(intro w dm;have d1:=(iG.four (sZ.O.keep dm)).2.1;go_simp;(try with_reducible rfl)));simp only[agu];refine aH 16 10 a8 ?_;refine aH 16 11 a8 ?_;refine bf 16 12 ?apb ?aaE a8 ?agU;(case aaE=>(intro w dm;have d2:=(iG.four (sZ.O.keep dm)).2.2.1;go_simp;(try with_reducible rfl)));simp only[agu];refine aH 16 14 a8 ?_;refine aH 16 15 a8 ?_;refine bf 16 16 ?apf ?aaI a8 ?agY;(case aaI=>(intro w dm;have d3:=(iG.four (sZ.O.keep dm)).2.2.2;go_simp;(try with_reducible rfl)));simp only[agu];refine aB 9 ?_;intro K9 KE;go_simp;rcases nB:aZ b with _|_
      ·refine(j6 (aq b) _ (by rw[aK];omega) (H.O.keep a8).env.cq (H.O.keep a8).env.iE (H.O.keep a8).et (H.O.keep a8).Ul (by rw[an];exact nB)).mono ?_
       (rintro x' w2 ⟨rfl,hb⟩;dsimp only;have nJ:¬ ((2:Int)≠0/\(aZ b&&aZ c_&&aZ e_)=true):=by simp[nB]);rw[MX.O,if_neg nJ];exact⟨rfl,H.O.cu (below_2 a8 hb) dC⟩
      (have hy1:=iI (aq b) _ (by rw[aK];omega) (H.O.keep a8).env.cq (by rw[an];exact nB);rw[an]at hy1;refine hy1.mono ?_;rintro x' w3 ⟨rfl,eu⟩;dsimp only;have pX:=below_2 a8 eu;clear hy1;refine KE.O _ _ (fun _=>pX) ?_);(try simp only[agu]);refine aB 13 ?_;intro K13 aea;go_simp;rcases rq:aZ c_ with _|_
      ·refine(j6 (aq c_) _ (by rw[aK];omega) (H.O.keep pX).env.cq (H.O.keep pX).env.iE (H.O.keep pX).et (H.O.keep pX).Ul (by rw[an];exact rq)).mono ?_
       (rintro x' w2 ⟨rfl,hb⟩;dsimp only;have nJ:¬ ((2:Int)≠0/\(aZ b&&aZ c_&&aZ e_)=true):=by simp[rq]);rw[MX.O,if_neg nJ];exact⟨rfl,H.O.cu (below_2 pX hb) dC⟩
      (have hy2:=iI (aq c_) _ (by rw[aK];omega) (H.O.keep pX).env.cq (by rw[an];exact rq);rw[an]at hy2;refine hy2.mono ?_;rintro x' w4 ⟨rfl,ju⟩;dsimp only;have oU:=below_2 pX ju;clear hy2;refine aea.O _ _ (fun _=>oU) ?_);(try simp only[agu]);refine aB 17 ?_;intro K17 aeb;go_simp;rcases tF:aZ e_ with _|_
      ·refine(j6 (aq e_) _ (by rw[aK];omega) (H.O.keep oU).env.cq (H.O.keep oU).env.iE (H.O.keep oU).et (H.O.keep oU).Ul (by rw[an];exact tF)).mono ?_
       (rintro x' w2 ⟨rfl,hb⟩;dsimp only;have nJ:¬ ((2:Int)≠0/\(aZ b&&aZ c_&&aZ e_)=true):=by simp[tF]);rw[MX.O,if_neg nJ];exact⟨rfl,H.O.cu (below_2 oU hb) dC⟩
      (have Wv:=iI (aq e_) _ (by rw[aK];omega) (H.O.keep oU).env.cq (by rw[an];exact tF);rw[an]at Wv;refine Wv.mono ?_;rintro x' w5 ⟨rfl,lV⟩;dsimp only;have Et:=below_2 oU lV;clear Wv;refine aeb.O _ _ (fun _=>Et) ?_);(try simp only[agu]);refine aH 16 18 Et ?_;have uh:(2:Int)≠0/\(aZ b&&aZ c_&&aZ e_)=true:=⟨by decide,by rw[nB,rq,tF];rfl⟩;have HY:=zH uh;clear uh;rcases hr:eP 2 (aa b) (aa c_) (aa e_)with _|_
      ·have HR:=zH hr
       (have Ig:=zH (uX r.key 2 (aa b) (aa c_) (aa e_) w5 hr);clear hr;unfold v4 at Ig;rw[aY (show(1:Int)≠0 by decide)]at Ig;refine aB 19 ?_;intro K19 NK;go_simp;refine Ig.O.mono ?_;rintro x' w7 ⟨rfl,jK⟩;dsimp only;have tZ:=below_2 Et jK;have ME:=zH tZ;refine NK.O _ _ (fun _=>tZ) ?_);(try simp only[agu]);refine aH 16 20 tZ ?_;refine aH 16 21 tZ ?_;refine aH 16 22 tZ ?_;refine aH 16 23 tZ ?_;refine aH 16 24 tZ ?_;refine bJ kR ?_ _;clear tZ jK Ig;go_wp2_with fail;refine(dY 1 _ (H.O.keep ME.O).et).mono ?_;rintro x' w8 ⟨rfl,hb⟩;dsimp only;rw[MX.O,if_pos HY.O,if_neg (by rw[HR.O];decide)];exact⟨rfl,H.O.cu (below_2 ME.O hb) dC⟩
      ·have HR:=zH hr
       (have Ig:=zH (jz r.key 2 (aa b) (aa c_) (aa e_) w5 (H.O.keep Et).env.cq hr);clear hr;unfold v4 at Ig;refine aB 19 ?_;intro K19 NK;go_simp;refine Ig.O.mono ?_;rintro x' w7 ⟨rfl,jK⟩;dsimp only;have tZ:=below_2 Et jK;have ME:=zH tZ;refine NK.O _ _ (fun _=>tZ) ?_);(try simp only[agu]);refine aH 16 20 tZ ?_;refine aH 16 21 tZ ?_;refine aH 16 22 tZ ?_;refine aH 16 23 tZ ?_;refine aH 16 24 tZ ?_;refine bJ kR ?_ _;clear tZ jK Ig;go_wp2_with fail;refine(cE _).mono ?_;rintro x' w8 ⟨rfl,rfl⟩;dsimp only;go_wp2_with fail;go_ret;rw[MX.O,if_pos HY.O,if_pos HR.O];exact H.O.told ME.O _
     ·have MN:pz [x]=0:=by unfold pz;rw[if_neg (by simpa using h1),if_neg (by simpa using h2)]
      (have nJ:¬ (pz [x]≠0/\(aZ b&&aZ c_&&aZ e_)=true):=by simp[MN]);(have KG:=T9.O;rw[if_neg nJ]at KG;rw[KG];clear KG T9;have HIX:=zH (xY [x] (-1) (by simp[Lib.index,List.isPrefixOf,h1,h2]) w Uq);clear Uq MN nJ h1 h2);go_in;go_wp2_with fail;refine(bu _ 4 c w).mono ?_;rintro e w0 ⟨rfl,rfl⟩;go_wp2_with fail;refine HIX.O.mono ?_;rintro x' w1 ⟨rfl,rfl⟩;dsimp only;go_wp2_with fail;refine HM.O.mono ?_;rintro x' w2 ⟨rfl,hb⟩;dsimp only;exact⟨rfl,H.O.cu hb dC⟩
   ·have MN:pz a=0:=by unfold pz;rw[if_neg (by rintro rfl;exact ha rfl),if_neg (by rintro rfl;exact ha rfl)]
    (have nJ:¬ (pz a≠0/\(aZ b&&aZ c_&&aZ e_)=true):=by simp[MN]);(have KG:=T9.O;rw[if_neg nJ]at KG;rw[KG];clear KG T9;have HIX:=zH (xY a _ rfl w Uq);have iS:((aq a).size:Int)≠1:=by rw[aK];omega);(have hd1:(((aq a).size:Int) != 1)=true:=by simpa using iS);clear Uq MN nJ ha iS;go_in;go_wp2_with fail;refine(bu _ 4 c w).mono ?_;rintro e w0 ⟨rfl,rfl⟩;go_wp2_with fail;refine HIX.O.mono ?_;rintro x' w1 ⟨rfl,rfl⟩;dsimp only;go_wp2_with fail;refine HM.O.mono ?_;rintro x' w2 ⟨rfl,hb⟩;dsimp only;exact⟨rfl,H.O.cu hb dC⟩
  ·exact absurd hL sP
 ·have cT:oN ⟨r,z⟩ L=bad ⟨r,z⟩ 3:=by
   unfold oN;split;(·exact absurd rfl hL)
   ·rfl
  rw[cT];have HM:=zH (dS (some ⟨g,off,none⟩) L.length c 4 w h.et (by simpa using(show(L.length:Int)≠4 by omega)));have H:=zH h;clear h hw hl hL cT hk;unfold dF at HM
  go_in
  go_wp2_with fail;refine HM.O.mono ?_;rintro e w0 ⟨rfl,hb⟩;dsimp only;exact⟨rfl,H.O.cu hb dC⟩
end
end Go.Proofs.YtjligkmjlenofaaGreatDoor
