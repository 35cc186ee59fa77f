/- Part of the proof. -/
import Derived.Test.YtjligkmjlenofaaGreatDoorV13
set_option maxHeartbeats 8000000
set_option maxRecDepth 100000
open Go.Act renaming put->agu
open Go.Value renaming oneCell'->amg
open Go renaming wp_store_row->amh,World->aah
open Nat renaming le_trans->aiC
namespace Go.Proofs.YtjligkmjlenofaaGreatDoor
open Go.Proofs.Tryz
open Go.RowKit Go.Sort
variable{q xb:Nat}{x:BL}{x0 x1 x2 x3 x4 x5 x6:Value}{T:TypeId}
structure fz0(W w0:aah)(g off:Nat)(a b c e:BL)(w:aah):Prop where
 below:Below W.heap.size W w
 since:Below w0.heap.size w0 w
 env:Env W.heap.size w
 JF:iG w g off [a,b,c,e]
 err:ey W
 eg:0<W.heap.size
section
variable{W w0 w w':aah}{g off:Nat}{a b c e:BL}
theorem fz0.keep(h:fz0 W w0 g off a b c e w)(hb:Below w.heap.size w w'):fz0 W w0 g off a b c e w':=⟨below_2 h.below hb,below_2 h.since hb,h.env.new h.below.size hb,h.JF.keep hb,h.err,h.eg⟩
theorem fz0.alloc(h:fz0 W w0 g off a b c e w)(o:Obj):fz0 W w0 g off a b c e (w.alloc o):=h.keep (bR.alloc nR o)
theorem fz0.put(h:fz0 W w0 g off a b c e w)(hg:w.grownBy w' (some q))(hq:w0.heap.size<=q)(hB:W.heap.size<=q)(hm:iG w' g off [a,b,c,e]):fz0 W w0 g off a b c e w':=⟨h.below.grown hg h.below.size (fun i hi=>by cases hi;exact hB),h.since.grown hg h.since.size (fun i hi=>by cases hi;exact hq),h.env.keep (bR.grown hg h.below.size (fun i hi=>by cases hi;exact hB)),hm,h.err,h.eg⟩
theorem fz0.et(h:fz0 W w0 g off a b c e w):ey w:=h.err.below h.below h.eg
theorem fz0.Ul(h:fz0 W w0 g off a b c e w):0<w.heap.size:=Nat.lt_of_lt_of_le h.eg h.below.size
theorem fz0.yes(h:fz0 W w0 g off a b c e w)(hx:x.length<=5000)(hn:aZ x=true):Calls prog 36 #[.string (aq x)] w fun e w'=>e=.returned (.int .i64 (aa x))/\Below w.heap.size w w':=by
 have:=iI (aq x) w (by rw[aK];omega) h.env.cq (by rw[an];exact hn);rw[an]at this;exact this
theorem fz0.no(h:fz0 W w0 g off a b c e w)(hx:x.length<=5000)(hn:aZ x=false):Calls prog 36 #[.string (aq x)] w fun e w'=>e=.panicked (Kh 3)/\Below w.heap.size w w':=
 j6 (aq x) w (by rw[aK];omega) h.env.cq h.env.iE h.et h.Ul (by rw[an];exact hn)
end
def A7(a b c e:BL):Int:=if (aZ a&&aZ b&&aZ c&&aZ e)=true then(if LL ⟨aa a,aa b,aa c,aa e⟩=true then 0 else 2)else 3
theorem WV{a b c e:BL}(h:(aZ a&&aZ b&&aZ c&&aZ e)=false):A7 a b c e=3:=by
 unfold A7;rw[h];rfl
def d_(W w:aah)(xb:Nat)(a b c e:BL)(x:Ending)(w':aah):Prop:=
 (A7 a b c e=0/\x=.returned (.string (aq uu))/\(∃vb sb db v,dW W xb vb sb db 0 ⟨aa a,aa b,aa c,aa e⟩ Og v w')/\bT w w')\/(A7 a b c e≠0/\x=.panicked (Kh (A7 a b c e))/\Below w.heap.size w w')
theorem d_.xE{W w w':aah}{a b c e:BL}(h:(aZ a&&aZ b&&aZ c&&aZ e)=false)(hb:Below w.heap.size w w'):d_ W w xb a b c e (.panicked (Kh 3)) w':=.inr ⟨by rw[WV h];decide,by rw[WV h],hb⟩
theorem yb{a b c e:BL}(h0:aZ a=true)(h1:aZ b=true)(h2:aZ c=true)(h3:aZ e=true):(LL ⟨aa a,aa b,aa c,aa e⟩=false/\A7 a b c e=2)\/(LL ⟨aa a,aa b,aa c,aa e⟩=true/\A7 a b c e=0):=by
 unfold A7;rw[h0,h1,h2,h3];cases LL ⟨aa a,aa b,aa c,aa e⟩
 ·exact .inl ⟨rfl,rfl⟩
 ·exact .inr ⟨rfl,rfl⟩
theorem d_.xR{W w w8 w9:aah}{sb db vb g off:Nat}{v:Value}{a b c e:BL}(hc:A7 a b c e=0)(h1:aC w9 xb 51 #[.pointer (some ⟨db,0,none⟩),.pointer (some ⟨sb,0,none⟩),.pointer (some ⟨vb,0,none⟩),.int .i64 (aa a),.int .i64 (aa b),.int .i64 (aa c),.int .i64 (aa e)])(h2:w8.grownBy w9 (some xb))(IF:SW W.heap.size vb sb db 0 ⟨aa a,aa b,aa c,aa e⟩ Og v w8)(hs:fz0 W w g off a b c e w8)(hx:aC w8 xb 51 #[x0,x1,x2,x3,x4,x5,x6])(hB:W.heap.size<=xb):d_ W w xb a b c e (.returned (.string (aq uu))) w9:=
 .inl ⟨hc,rfl,⟨vb,sb,db,v,h1,IF.Xh h2 hx hB,hB,hs.below.grown h2 hs.below.size (fun i hi=>by cases hi;exact hB),hs.err,hs.eg⟩,(bT.aG hs.since).T (bT.rO h2 hx dC)⟩
theorem qS{w:aah}(h:aC w q T #[x0,x1,x2,x3,x4,x5,x6])(y0 y1 y2 y3 y4 y5 y6:Value):aC (((((((w.setCell ⟨q,0,none⟩ y0).setCell ⟨q,1,none⟩ y1).setCell ⟨q,2,none⟩ y2).setCell ⟨q,3,none⟩ y3).setCell ⟨q,4,none⟩ y4).setCell ⟨q,5,none⟩ y5).setCell ⟨q,6,none⟩ y6) q T #[y0,y1,y2,y3,y4,y5,y6]/\
  w.grownBy (((((((w.setCell ⟨q,0,none⟩ y0).setCell ⟨q,1,none⟩ y1).setCell ⟨q,2,none⟩ y2).setCell ⟨q,3,none⟩ y3).setCell ⟨q,4,none⟩ y4).setCell ⟨q,5,none⟩ y5).setCell ⟨q,6,none⟩ y6) (some q):=by
 have e0:=h.dD 0 y0 (cs':=#[y0,x1,x2,x3,x4,x5,x6]) rfl;have e1:=e0.dD 1 y1 (cs':=#[y0,y1,x2,x3,x4,x5,x6]) rfl;have e2:=e1.dD 2 y2 (cs':=#[y0,y1,y2,x3,x4,x5,x6]) rfl;have e3:=e2.dD 3 y3 (cs':=#[y0,y1,y2,y3,x4,x5,x6]) rfl;have e4:=e3.dD 4 y4 (cs':=#[y0,y1,y2,y3,y4,x5,x6]) rfl;have e5:=e4.dD 5 y5 (cs':=#[y0,y1,y2,y3,y4,y5,x6]) rfl;have e6:=e5.dD 6 y6 (cs':=#[y0,y1,y2,y3,y4,y5,y6]) rfl;refine⟨e6,?_⟩;refine ak ?_ (.inl rfl) _;refine ak ?_ (.inl rfl) _;refine ak ?_ (.inl rfl) _;refine ak ?_ (.inl rfl) _;refine ak ?_ (.inl rfl) _;refine ak ?_ (.inl rfl) _;exact cC w q ⟨q,0,none⟩ rfl _
theorem mM{w:aah}(h:aC w q T #[x0,x1,x2,x3,x4,x5,x6]):w.cell? ⟨q,0,none⟩=some x0/\w.cell? ⟨q,1,none⟩=some x1/\w.cell? ⟨q,2,none⟩=some x2/\w.cell? ⟨q,3,none⟩=some x3/\w.cell? ⟨q,4,none⟩=some x4/\w.cell? ⟨q,5,none⟩=some x5/\w.cell? ⟨q,6,none⟩=some x6:=
 ⟨h.cell 0,h.cell 1,h.cell 2,h.cell 3,h.cell 4,h.cell 5,h.cell 6⟩
theorem Cn{W w:aah}{g off cp:Nat}{a b c e:BL}(hx:aC w xb 51 #[x0,x1,x2,x3,x4,x5,x6])(hbx:W.heap.size<=xb)(hs:fz0 W w g off a b c e w)(l0:a.length<=5000)(l1:b.length<=5000)(l2:c.length<=5000)(l3:e.length<=5000):
  Calls prog 11 #[.pointer (some ⟨xb,0,none⟩),.slice (some ⟨g,off,none⟩) 4 cp] w (d_ W w xb a b c e):=by
 have HS:=zH hs;have HX:=zH hx;have HB:=zH hbx;clear hs hx hbx
 go_in
 go_wp2_with fail;refine(bu _ 4 cp w).mono ?_;rintro e0 w0 ⟨rfl,rfl⟩;go_wp2_with fail;have Aw:fz0 W w g off a b c e w.drew:=HS.O.keep (bB bR);refine bC (fz0 W w g off a b c e) [18] kR ?_;refine bf 16 0 ?ao_ ?Ws Aw ?abo
 case Ws=>(intro w dm;obtain⟨k0,k1,k2,k3⟩:=iG.four (fz0.JF dm);go_simp;(try with_reducible rfl))
 simp only[agu];refine bf 16 1 ?apg ?Wt Aw ?abp
 case Wt=>(intro w dm;obtain⟨k0,k1,k2,k3⟩:=iG.four (fz0.JF dm);go_simp;(try with_reducible rfl))
 simp only[agu];refine bf 16 2 ?aph ?Wu Aw ?abq
 case Wu=>(intro w dm;obtain⟨k0,k1,k2,k3⟩:=iG.four (fz0.JF dm);go_simp;(try with_reducible rfl))
 simp only[agu];refine bf 16 4 ?auW ?ai_ Aw ?ak2
 case ai_=>(intro w dm;obtain⟨k0,k1,k2,k3⟩:=iG.four (fz0.JF dm);go_simp;(try with_reducible rfl))
 simp only[agu];refine bf 16 5 ?auY ?aja Aw ?ak4
 case aja=>(intro w dm;obtain⟨k0,k1,k2,k3⟩:=iG.four (fz0.JF dm);go_simp;(try with_reducible rfl))
 simp only[agu];refine bf 16 6 ?au0 ?ajc Aw ?ak6
 case ajc=>(intro w dm;obtain⟨k0,k1,k2,k3⟩:=iG.four (fz0.JF dm);go_simp;(try with_reducible rfl))
 simp only[agu];refine bf 16 8 ?au2 ?aje Aw ?ak8
 case aje=>(intro w dm;obtain⟨k0,k1,k2,k3⟩:=iG.four (fz0.JF dm);go_simp;(try with_reducible rfl))
 simp only[agu];refine bf 16 9 ?au3 ?ajf Aw ?ak9
 case ajf=>(intro w dm;obtain⟨k0,k1,k2,k3⟩:=iG.four (fz0.JF dm);go_simp;(try with_reducible rfl))
 simp only[agu];refine bf 16 10 ?arD ?ae8 Aw ?ajK
 case ae8=>(intro w dm;obtain⟨k0,k1,k2,k3⟩:=iG.four (fz0.JF dm);go_simp;(try with_reducible rfl))
 simp only[agu];refine bf 16 12 ?ao' ?aaC Aw ?agS
 case aaC=>(intro w dm;obtain⟨k0,k1,k2,k3⟩:=iG.four (fz0.JF dm);go_simp;(try with_reducible rfl))
 simp only[agu];refine bf 16 13 ?apc ?aaF Aw ?agV
 case aaF=>(intro w dm;obtain⟨k0,k1,k2,k3⟩:=iG.four (fz0.JF dm);go_simp;(try with_reducible rfl))
 simp only[agu];refine bf 16 14 ?apd ?aaG Aw ?agW
 case aaG=>(intro w dm;obtain⟨k0,k1,k2,k3⟩:=iG.four (fz0.JF dm);go_simp;(try with_reducible rfl))
 simp only[agu];refine lU (i:=3) (j:=17) kR rfl rfl ?_ ?_
 ·intro K1 hK1
  go_simp;rcases yU:aZ a with _|_
  ·refine(Aw.no l0 yU).mono ?_
   rintro x' w2 ⟨rfl,lV⟩;dsimp only;exact⟨rfl,d_.xE (by simp[yU]) (below_2 Aw.since lV)⟩
  ·refine(Aw.yes l0 yU).mono ?_
   (rintro x' w2 ⟨rfl,lV⟩;dsimp only;have R3:=Aw.keep lV;refine hK1.O _ _ (fun _=>R3) ?_);(try simp only[agu]);refine lU (i:=7) (j:=17) kR rfl rfl ?_ ?_
   ·intro K6 hK6
    go_simp;rcases nB:aZ b with _|_
    ·refine(R3.no l1 nB).mono ?_
     rintro x' w7 ⟨rfl,MK⟩;dsimp only;exact⟨rfl,d_.xE (by simp[nB]) (below_2 R3.since MK)⟩
    ·refine(R3.yes l1 nB).mono ?_
     (rintro x' w7 ⟨rfl,MK⟩;dsimp only;have Y3:=R3.keep MK;refine hK6.O _ _ (fun _=>Y3) ?_);(try simp only[agu]);refine lU (i:=11) (j:=17) kR rfl rfl ?_ ?_
     ·intro K11 amk
      go_simp;rcases rq:aZ c with _|_
      ·refine(Y3.no l2 rq).mono ?_
       rintro x' w12 ⟨rfl,KF⟩;dsimp only;exact⟨rfl,d_.xE (by simp[rq]) (below_2 Y3.since KF)⟩
      ·refine(Y3.yes l2 rq).mono ?_
       (rintro x' w12 ⟨rfl,KF⟩;dsimp only;have NW:=Y3.keep KF;refine amk.O _ _ (fun _=>NW) ?_);(try simp only[agu]);refine lU (i:=15) (j:=17) kR rfl rfl ?_ ?_
       ·intro K16 aml
        go_simp;rcases tF:aZ e with _|_
        ·refine(NW.no l3 tF).mono ?_
         rintro x' w17 ⟨rfl,aek⟩;dsimp only;exact⟨rfl,d_.xE (by simp[tF]) (below_2 NW.since aek)⟩
        ·refine(NW.yes l3 tF).mono ?_
         (rintro x' w17 ⟨rfl,aek⟩;dsimp only;have aay:=NW.keep aek;refine aml.O _ _ (fun _=>aay) ?_);(try simp only[agu]);(refine aH 16 16 aay ?_;refine aB 17 ?_;intro K21 VL;go_simp;have aaz:=aay.alloc (.cells #[.int .i64 0,.int .i64 0,.int .i64 0,.int .i64 0] 49);have aiL:=aC.new w17 49 #[.int .i64 0,.int .i64 0,.int .i64 0,.int .i64 0];have aeH:=aay.since.size;refine VL.O _ _ (fun _=>aaz) ?_);(try simp only[agu]);(refine aB 18 ?_;intro K25 amm;rw[if_pos (by rfl)];refine amh 49 _ _ rfl (w17.heap.size) #[.int .i64 (aa a),.int .i64 (aa b),.int .i64 (aa c),.int .i64 (aa e)] rfl rfl 49 _ aiL kR rfl (by simp[amg]) ?_;obtain⟨w5, -,e5,q5,g5⟩:=jE (P:=prog) (ty:=49) (cells:=#[.int .i64 (aa a),.int .i64 (aa b),.int .i64 (aa c),.int .i64 (aa e)]) aiL kR rfl (by simp[amg]);have Qq:=aaz.put g5 aeH (aiC HS.O.below.size aeH) (HS.O.JF.keep (aaz.since.grown g5 aaz.since.size (fun i hi=>by cases hi;exact aeH)));have Js:=zH q5;have rA:=zH Qq;refine amm.O _ _ (fun h=>absurd h dC) ?_;refine bJ kR ?_ _;rw[<-e5];clear e5 q5 g5 Qq);(try generalize w17.heap.size=q at*);have xx:=zH (HX.O.aj rA.O.since);have lu:=yb (a:=a) (b:=b) (c:=c) (e:=e) yU nB rq tF;have Zo:=zH lu;have PC:=zH (DI.new rA.O.env rA.O.below.size);have PM:=zH (rA.O.alloc (.cells Tryz.zeroCells84 84));have PK:=zH (Js.O.alloc (.cells Tryz.zeroCells84 84));have xy:=zH (xx.O.alloc (.cells Tryz.zeroCells84 84));clear lu rA Js xx;go_wp2_with fail;refine(uR PC.O).mono ?_;rintro x' w7 ⟨sb,v,rfl,vV,Ax,jK⟩;dsimp only;have wu:=zH (PM.O.keep jK);have Bh:=zH (PK.O.aj jK);have rD:=zH (xy.O.aj jK);have rC:=zH vV;clear vV Ax jK PM PK xy PC;obtain⟨r0,r1,r2,r3⟩:=cS Bh.O;go_wp2_with fail;refine(cE _).mono ?_;rintro x' w8 ⟨rfl,rfl⟩;dsimp only;go_wp2_with fail;rcases Zo.O with⟨lu,hc⟩|⟨lu,hc⟩
         ·refine(oJ (r:=⟨aa a,aa b,aa c,aa e⟩) lu).mono ?_
          rintro x' w8 ⟨rfl,hb⟩;dsimp only;have vP:=zH (wu.O.keep hb);have HC:=zH hc;rw[aY (show(2:Int)≠0 by decide)];clear hb lu hc wu Bh rD rC r0 r1 r2 r3;go_wp2_with fail;refine(dY 2 _ vP.O.et).mono ?_;rintro x' w9 ⟨rfl,hb⟩;dsimp only;exact⟨rfl,.inr ⟨by rw[HC.O];decide,by rw[HC.O],below_2 vP.O.since hb⟩⟩
         ·refine(jO (r:=⟨aa a,aa b,aa c,aa e⟩) rC.O lu).mono ?_
          rintro x' w8 ⟨vb,rfl,IF,NX,hb⟩;dsimp only;have vP:=zH (wu.O.keep hb);have PL:=zH (Bh.O.aj hb);have nF:=zH (rD.O.aj hb);have xw:=zH IF;have HC:=zH hc;clear IF NX hb lu hc wu Bh rD rC r0 r1 r2 r3;go_wp2_with fail;refine(cE _).mono ?_;rintro x' w9 ⟨rfl,rfl⟩;dsimp only;obtain⟨r0,r1,r2,r3⟩:=cS PL.O;obtain⟨y0,y1,y2,y3,y4,y5,y6⟩:=mM nF.O;have hz:=nF.O.frozen;obtain⟨n1,n2⟩:=qS nF.O (.pointer (some ⟨w5.heap.size,0,none⟩)) (.pointer (some ⟨sb,0,none⟩)) (.pointer (some ⟨vb,0,none⟩)) (.int .i64 (aa a)) (.int .i64 (aa b)) (.int .i64 (aa c)) (.int .i64 (aa e));have HE:=zH (d_.xR (W:=W) (w:=w) (xb:=xb) HC.O n1 n2 xw.O vP.O nF.O HB.O);clear n1 n2 vP PL xw;go_wp2_with fail;go_ret;exact HE.O
       ·intro K26 amn
        (go_simp;have V7:=NW.alloc (.cells #[.int .i64 0,.int .i64 0,.int .i64 0,.int .i64 0] 49);have anI:=aC.new w12 49 #[.int .i64 0,.int .i64 0,.int .i64 0,.int .i64 0];have aeI:=NW.since.size;refine amn.O _ _ (fun _=>V7) ?_);(try simp only[agu]);refine aB 15 ?_;intro K30 amo;go_simp;rcases tF:aZ e with _|_
        ·refine(V7.no l3 tF).mono ?_
         rintro x' w31 ⟨rfl,Z5⟩;dsimp only;exact⟨rfl,d_.xE (by simp[tF]) (below_2 V7.since Z5)⟩
        ·refine(V7.yes l3 tF).mono ?_
         (rintro x' w31 ⟨rfl,Z5⟩;dsimp only;have V8:=V7.keep Z5;have aiM:=anI.aj Z5;refine amo.O _ _ (fun _=>V8) ?_);(try simp only[agu]);(refine aH 16 16 V8 ?_;refine aB 18 ?_;intro K35 amq;rw[if_pos (by rfl)];refine amh 49 _ _ rfl (w12.heap.size) #[.int .i64 (aa a),.int .i64 (aa b),.int .i64 (aa c),.int .i64 (aa e)] rfl rfl 49 _ aiM kR rfl (by simp[amg]) ?_;obtain⟨w5, -,e5,q5,g5⟩:=jE (P:=prog) (ty:=49) (cells:=#[.int .i64 (aa a),.int .i64 (aa b),.int .i64 (aa c),.int .i64 (aa e)]) aiM kR rfl (by simp[amg]);have Qq:=V8.put g5 aeI (aiC HS.O.below.size aeI) (HS.O.JF.keep (V8.since.grown g5 V8.since.size (fun i hi=>by cases hi;exact aeI)));have Js:=zH q5;have rA:=zH Qq;refine amq.O _ _ (fun h=>absurd h dC) ?_;refine bJ kR ?_ _;rw[<-e5];clear e5 q5 g5 Qq);(try generalize w12.heap.size=q at*);have xx:=zH (HX.O.aj rA.O.since);have lu:=yb (a:=a) (b:=b) (c:=c) (e:=e) yU nB rq tF;have Zo:=zH lu;have PC:=zH (DI.new rA.O.env rA.O.below.size);have PM:=zH (rA.O.alloc (.cells Tryz.zeroCells84 84));have PK:=zH (Js.O.alloc (.cells Tryz.zeroCells84 84));have xy:=zH (xx.O.alloc (.cells Tryz.zeroCells84 84));clear lu rA Js xx;go_wp2_with fail;refine(uR PC.O).mono ?_;rintro x' w7 ⟨sb,v,rfl,vV,Ax,jK⟩;dsimp only;have wu:=zH (PM.O.keep jK);have Bh:=zH (PK.O.aj jK);have rD:=zH (xy.O.aj jK);have rC:=zH vV;clear vV Ax jK PM PK xy PC;obtain⟨r0,r1,r2,r3⟩:=cS Bh.O;go_wp2_with fail;refine(cE _).mono ?_;rintro x' w8 ⟨rfl,rfl⟩;dsimp only;go_wp2_with fail;rcases Zo.O with⟨lu,hc⟩|⟨lu,hc⟩
         ·refine(oJ (r:=⟨aa a,aa b,aa c,aa e⟩) lu).mono ?_
          rintro x' w8 ⟨rfl,hb⟩;dsimp only;have vP:=zH (wu.O.keep hb);have HC:=zH hc;rw[aY (show(2:Int)≠0 by decide)];clear hb lu hc wu Bh rD rC r0 r1 r2 r3;go_wp2_with fail;refine(dY 2 _ vP.O.et).mono ?_;rintro x' w9 ⟨rfl,hb⟩;dsimp only;exact⟨rfl,.inr ⟨by rw[HC.O];decide,by rw[HC.O],below_2 vP.O.since hb⟩⟩
         ·refine(jO (r:=⟨aa a,aa b,aa c,aa e⟩) rC.O lu).mono ?_
          rintro x' w8 ⟨vb,rfl,IF,NX,hb⟩;dsimp only;have vP:=zH (wu.O.keep hb);have PL:=zH (Bh.O.aj hb);have nF:=zH (rD.O.aj hb);have xw:=zH IF;have HC:=zH hc;clear IF NX hb lu hc wu Bh rD rC r0 r1 r2 r3;go_wp2_with fail;refine(cE _).mono ?_;rintro x' w9 ⟨rfl,rfl⟩;dsimp only;obtain⟨r0,r1,r2,r3⟩:=cS PL.O;obtain⟨y0,y1,y2,y3,y4,y5,y6⟩:=mM nF.O;have hz:=nF.O.frozen;obtain⟨n1,n2⟩:=qS nF.O (.pointer (some ⟨w5.heap.size,0,none⟩)) (.pointer (some ⟨sb,0,none⟩)) (.pointer (some ⟨vb,0,none⟩)) (.int .i64 (aa a)) (.int .i64 (aa b)) (.int .i64 (aa c)) (.int .i64 (aa e));have HE:=zH (d_.xR (W:=W) (w:=w) (xb:=xb) HC.O n1 n2 xw.O vP.O nF.O HB.O);clear n1 n2 vP PL xw;go_wp2_with fail;go_ret;exact HE.O
     ·intro K36 amr
      (go_simp;have V9:=Y3.alloc (.cells #[.int .i64 0,.int .i64 0,.int .i64 0,.int .i64 0] 49);have anJ:=aC.new w7 49 #[.int .i64 0,.int .i64 0,.int .i64 0,.int .i64 0];have aeJ:=Y3.since.size;refine amr.O _ _ (fun _=>V9) ?_);(try simp only[agu]);refine aB 11 ?_;intro K40 ams;go_simp;rcases rq:aZ c with _|_
      ·refine(V9.no l2 rq).mono ?_
       rintro x' w41 ⟨rfl,Z6⟩;dsimp only;exact⟨rfl,d_.xE (by simp[rq]) (below_2 V9.since Z6)⟩
      ·refine(V9.yes l2 rq).mono ?_
       (rintro x' w41 ⟨rfl,Z6⟩;dsimp only;have V_:=V9.keep Z6;have anK:=anJ.aj Z6;refine ams.O _ _ (fun _=>V_) ?_);(try simp only[agu]);refine aB 15 ?_;intro K45 amt;go_simp;rcases tF:aZ e with _|_
       ·refine(V_.no l3 tF).mono ?_
        rintro x' w46 ⟨rfl,Z7⟩;dsimp only;exact⟨rfl,d_.xE (by simp[tF]) (below_2 V_.since Z7)⟩
       ·refine(V_.yes l3 tF).mono ?_
        (rintro x' w46 ⟨rfl,Z7⟩;dsimp only;have Wa:=V_.keep Z7;have aiN:=anK.aj Z7;refine amt.O _ _ (fun _=>Wa) ?_);(try simp only[agu]);(refine aH 16 16 Wa ?_;refine aB 18 ?_;intro K50 amv;rw[if_pos (by rfl)];refine amh 49 _ _ rfl (w7.heap.size) #[.int .i64 (aa a),.int .i64 (aa b),.int .i64 (aa c),.int .i64 (aa e)] rfl rfl 49 _ aiN kR rfl (by simp[amg]) ?_;obtain⟨w5, -,e5,q5,g5⟩:=jE (P:=prog) (ty:=49) (cells:=#[.int .i64 (aa a),.int .i64 (aa b),.int .i64 (aa c),.int .i64 (aa e)]) aiN kR rfl (by simp[amg]);have Qq:=Wa.put g5 aeJ (aiC HS.O.below.size aeJ) (HS.O.JF.keep (Wa.since.grown g5 Wa.since.size (fun i hi=>by cases hi;exact aeJ)));have Js:=zH q5;have rA:=zH Qq;refine amv.O _ _ (fun h=>absurd h dC) ?_;refine bJ kR ?_ _;rw[<-e5];clear e5 q5 g5 Qq);(try generalize w7.heap.size=q at*);have xx:=zH (HX.O.aj rA.O.since);have lu:=yb (a:=a) (b:=b) (c:=c) (e:=e) yU nB rq tF;have Zo:=zH lu;have PC:=zH (DI.new rA.O.env rA.O.below.size);have PM:=zH (rA.O.alloc (.cells Tryz.zeroCells84 84));have PK:=zH (Js.O.alloc (.cells Tryz.zeroCells84 84));have xy:=zH (xx.O.alloc (.cells Tryz.zeroCells84 84));clear lu rA Js xx;go_wp2_with fail;refine(uR PC.O).mono ?_;rintro x' w7 ⟨sb,v,rfl,vV,Ax,jK⟩;dsimp only;have wu:=zH (PM.O.keep jK);have Bh:=zH (PK.O.aj jK);have rD:=zH (xy.O.aj jK);have rC:=zH vV;clear vV Ax jK PM PK xy PC;obtain⟨r0,r1,r2,r3⟩:=cS Bh.O;go_wp2_with fail;refine(cE _).mono ?_;rintro x' w8 ⟨rfl,rfl⟩;dsimp only;go_wp2_with fail;rcases Zo.O with⟨lu,hc⟩|⟨lu,hc⟩
        ·refine(oJ (r:=⟨aa a,aa b,aa c,aa e⟩) lu).mono ?_
         rintro x' w8 ⟨rfl,hb⟩;dsimp only;have vP:=zH (wu.O.keep hb);have HC:=zH hc;rw[aY (show(2:Int)≠0 by decide)];clear hb lu hc wu Bh rD rC r0 r1 r2 r3;go_wp2_with fail;refine(dY 2 _ vP.O.et).mono ?_;rintro x' w9 ⟨rfl,hb⟩;dsimp only;exact⟨rfl,.inr ⟨by rw[HC.O];decide,by rw[HC.O],below_2 vP.O.since hb⟩⟩
        ·refine(jO (r:=⟨aa a,aa b,aa c,aa e⟩) rC.O lu).mono ?_
         rintro x' w8 ⟨vb,rfl,IF,NX,hb⟩;dsimp only;have vP:=zH (wu.O.keep hb);have PL:=zH (Bh.O.aj hb);have nF:=zH (rD.O.aj hb);have xw:=zH IF;have HC:=zH hc;clear IF NX hb lu hc wu Bh rD rC r0 r1 r2 r3;go_wp2_with fail;refine(cE _).mono ?_;rintro x' w9 ⟨rfl,rfl⟩;dsimp only;obtain⟨r0,r1,r2,r3⟩:=cS PL.O;obtain⟨y0,y1,y2,y3,y4,y5,y6⟩:=mM nF.O;have hz:=nF.O.frozen;obtain⟨n1,n2⟩:=qS nF.O (.pointer (some ⟨w5.heap.size,0,none⟩)) (.pointer (some ⟨sb,0,none⟩)) (.pointer (some ⟨vb,0,none⟩)) (.int .i64 (aa a)) (.int .i64 (aa b)) (.int .i64 (aa c)) (.int .i64 (aa e));have HE:=zH (d_.xR (W:=W) (w:=w) (xb:=xb) HC.O n1 n2 xw.O vP.O nF.O HB.O);clear n1 n2 vP PL xw;go_wp2_with fail;go_ret;exact HE.O
   ·intro K51 amw
    (go_simp;have Wb:=R3.alloc (.cells #[.int .i64 0,.int .i64 0,.int .i64 0,.int .i64 0] 49);have anL:=aC.new w2 49 #[.int .i64 0,.int .i64 0,.int .i64 0,.int .i64 0];have aeK:=R3.since.size;refine amw.O _ _ (fun _=>Wb) ?_);(try simp only[agu]);refine aB 7 ?_;intro K55 amx;go_simp;rcases nB:aZ b with _|_
    ·refine(Wb.no l1 nB).mono ?_
     rintro x' w56 ⟨rfl,Z8⟩;dsimp only;exact⟨rfl,d_.xE (by simp[nB]) (below_2 Wb.since Z8)⟩
    ·refine(Wb.yes l1 nB).mono ?_
     (rintro x' w56 ⟨rfl,Z8⟩;dsimp only;have Wc:=Wb.keep Z8;have anM:=anL.aj Z8;refine amx.O _ _ (fun _=>Wc) ?_);(try simp only[agu]);refine aB 11 ?_;intro K60 amy;go_simp;rcases rq:aZ c with _|_
     ·refine(Wc.no l2 rq).mono ?_
      rintro x' w61 ⟨rfl,Z9⟩;dsimp only;exact⟨rfl,d_.xE (by simp[rq]) (below_2 Wc.since Z9)⟩
     ·refine(Wc.yes l2 rq).mono ?_
      (rintro x' w61 ⟨rfl,Z9⟩;dsimp only;have Wd:=Wc.keep Z9;have anN:=anM.aj Z9;refine amy.O _ _ (fun _=>Wd) ?_);(try simp only[agu]);refine aB 15 ?_;intro K65 amz;go_simp;rcases tF:aZ e with _|_
      ·refine(Wd.no l3 tF).mono ?_
       rintro x' w66 ⟨rfl,Z_⟩;dsimp only;exact⟨rfl,d_.xE (by simp[tF]) (below_2 Wd.since Z_)⟩
      ·refine(Wd.yes l3 tF).mono ?_
       (rintro x' w66 ⟨rfl,Z_⟩;dsimp only;have We:=Wd.keep Z_;have aiO:=anN.aj Z_;refine amz.O _ _ (fun _=>We) ?_);(try simp only[agu]);(refine aH 16 16 We ?_;refine aB 18 ?_;intro K70 amA;rw[if_pos (by rfl)];refine amh 49 _ _ rfl (w2.heap.size) #[.int .i64 (aa a),.int .i64 (aa b),.int .i64 (aa c),.int .i64 (aa e)] rfl rfl 49 _ aiO kR rfl (by simp[amg]) ?_;obtain⟨w5, -,e5,q5,g5⟩:=jE (P:=prog) (ty:=49) (cells:=#[.int .i64 (aa a),.int .i64 (aa b),.int .i64 (aa c),.int .i64 (aa e)]) aiO kR rfl (by simp[amg]);have Qq:=We.put g5 aeK (aiC HS.O.below.size aeK) (HS.O.JF.keep (We.since.grown g5 We.since.size (fun i hi=>by cases hi;exact aeK)));have Js:=zH q5;have rA:=zH Qq;refine amA.O _ _ (fun h=>absurd h dC) ?_;refine bJ kR ?_ _;rw[<-e5];clear e5 q5 g5 Qq);(try generalize w2.heap.size=q at*);have xx:=zH (HX.O.aj rA.O.since);have lu:=yb (a:=a) (b:=b) (c:=c) (e:=e) yU nB rq tF;have Zo:=zH lu;have PC:=zH (DI.new rA.O.env rA.O.below.size);have PM:=zH (rA.O.alloc (.cells Tryz.zeroCells84 84));have PK:=zH (Js.O.alloc (.cells Tryz.zeroCells84 84));have xy:=zH (xx.O.alloc (.cells Tryz.zeroCells84 84));clear lu rA Js xx;go_wp2_with fail;refine(uR PC.O).mono ?_;rintro x' w7 ⟨sb,v,rfl,vV,Ax,jK⟩;dsimp only;have wu:=zH (PM.O.keep jK);have Bh:=zH (PK.O.aj jK);have rD:=zH (xy.O.aj jK);have rC:=zH vV;clear vV Ax jK PM PK xy PC;obtain⟨r0,r1,r2,r3⟩:=cS Bh.O;go_wp2_with fail;refine(cE _).mono ?_;rintro x' w8 ⟨rfl,rfl⟩;dsimp only;go_wp2_with fail;rcases Zo.O with⟨lu,hc⟩|⟨lu,hc⟩
       ·refine(oJ (r:=⟨aa a,aa b,aa c,aa e⟩) lu).mono ?_
        rintro x' w8 ⟨rfl,hb⟩;dsimp only;have vP:=zH (wu.O.keep hb);have HC:=zH hc;rw[aY (show(2:Int)≠0 by decide)];clear hb lu hc wu Bh rD rC r0 r1 r2 r3;go_wp2_with fail;refine(dY 2 _ vP.O.et).mono ?_;rintro x' w9 ⟨rfl,hb⟩;dsimp only;exact⟨rfl,.inr ⟨by rw[HC.O];decide,by rw[HC.O],below_2 vP.O.since hb⟩⟩
       ·refine(jO (r:=⟨aa a,aa b,aa c,aa e⟩) rC.O lu).mono ?_
        rintro x' w8 ⟨vb,rfl,IF,NX,hb⟩;dsimp only;have vP:=zH (wu.O.keep hb);have PL:=zH (Bh.O.aj hb);have nF:=zH (rD.O.aj hb);have xw:=zH IF;have HC:=zH hc;clear IF NX hb lu hc wu Bh rD rC r0 r1 r2 r3;go_wp2_with fail;refine(cE _).mono ?_;rintro x' w9 ⟨rfl,rfl⟩;dsimp only;obtain⟨r0,r1,r2,r3⟩:=cS PL.O;obtain⟨y0,y1,y2,y3,y4,y5,y6⟩:=mM nF.O;have hz:=nF.O.frozen;obtain⟨n1,n2⟩:=qS nF.O (.pointer (some ⟨w5.heap.size,0,none⟩)) (.pointer (some ⟨sb,0,none⟩)) (.pointer (some ⟨vb,0,none⟩)) (.int .i64 (aa a)) (.int .i64 (aa b)) (.int .i64 (aa c)) (.int .i64 (aa e));have HE:=zH (d_.xR (W:=W) (w:=w) (xb:=xb) HC.O n1 n2 xw.O vP.O nF.O HB.O);clear n1 n2 vP PL xw;go_wp2_with fail;go_ret;exact HE.O
 ·intro K71 amB
  go_simp;have Wi:=Aw.alloc (.cells #[.int .i64 0,.int .i64 0,.int .i64 0,.int .i64 0] 49);have anO:aC (w.drew.alloc (.cells #[.int .i64 0,.int .i64 0,.int .i64 0,.int .i64 0] 49)) w.heap.size 49 #[.int .i64 0,.int .i64 0,.int .i64 0,.int .i64 0]:=aC.new w.drew 49 #[.int .i64 0,.int .i64 0,.int .i64 0,.int .i64 0];have aeL:=Aw.since.size;refine amB.O _ _ (fun _=>Wi) ?_
  try simp only[agu]
  refine aB 3 ?_;intro K75 amC;go_simp;rcases yU:aZ a with _|_
  ·refine(Wi.no l0 yU).mono ?_
   rintro x' w76 ⟨rfl,aaa⟩;dsimp only;exact⟨rfl,d_.xE (by simp[yU]) (below_2 Wi.since aaa)⟩
  ·refine(Wi.yes l0 yU).mono ?_
   (rintro x' w76 ⟨rfl,aaa⟩;dsimp only;have Wj:=Wi.keep aaa;have anP:=anO.aj aaa;refine amC.O _ _ (fun _=>Wj) ?_);(try simp only[agu]);refine aB 7 ?_;intro K80 amD;go_simp;rcases nB:aZ b with _|_
   ·refine(Wj.no l1 nB).mono ?_
    rintro x' w81 ⟨rfl,aab⟩;dsimp only;exact⟨rfl,d_.xE (by simp[nB]) (below_2 Wj.since aab)⟩
   ·refine(Wj.yes l1 nB).mono ?_
    (rintro x' w81 ⟨rfl,aab⟩;dsimp only;have Wk:=Wj.keep aab;have anQ:=anP.aj aab;refine amD.O _ _ (fun _=>Wk) ?_);(try simp only[agu]);refine aB 11 ?_;intro K85 amE;go_simp;rcases rq:aZ c with _|_
    ·refine(Wk.no l2 rq).mono ?_
     rintro x' w86 ⟨rfl,aac⟩;dsimp only;exact⟨rfl,d_.xE (by simp[rq]) (below_2 Wk.since aac)⟩
    ·refine(Wk.yes l2 rq).mono ?_
     (rintro x' w86 ⟨rfl,aac⟩;dsimp only;have Wl:=Wk.keep aac;have anR:=anQ.aj aac;refine amE.O _ _ (fun _=>Wl) ?_);(try simp only[agu]);refine aB 15 ?_;intro K90 amF;go_simp;rcases tF:aZ e with _|_
     ·refine(Wl.no l3 tF).mono ?_
      rintro x' w91 ⟨rfl,aad⟩;dsimp only;exact⟨rfl,d_.xE (by simp[tF]) (below_2 Wl.since aad)⟩
     ·refine(Wl.yes l3 tF).mono ?_
      (rintro x' w91 ⟨rfl,aad⟩;dsimp only;have Wm:=Wl.keep aad;have aiP:=anR.aj aad;refine amF.O _ _ (fun _=>Wm) ?_);(try simp only[agu]);refine aH 16 16 Wm ?_;refine aB 18 ?_;intro K95 amG;rw[if_pos (by rfl)];refine amh 49 _ _ rfl (w.heap.size) #[.int .i64 (aa a),.int .i64 (aa b),.int .i64 (aa c),.int .i64 (aa e)] rfl rfl 49 _ aiP kR rfl (by simp[amg]) ?_;obtain⟨w5, -,e5,q5,g5⟩:=jE (P:=prog) (ty:=49) (cells:=#[.int .i64 (aa a),.int .i64 (aa b),.int .i64 (aa c),.int .i64 (aa e)]) aiP kR rfl (by simp[amg]);have Qq:=Wm.put g5 aeL (aiC HS.O.below.size aeL) (HS.O.JF.keep (Wm.since.grown g5 Wm.since.size (fun i hi=>by cases hi;exact aeL)));have Js:=zH q5;have rA:=zH Qq;refine amG.O _ _ (fun h=>absurd h dC) ?_;refine bJ kR ?_ _;rw[<-e5];clear e5 q5 g5 Qq;have xx:=zH (HX.O.aj rA.O.since);have lu:=yb (a:=a) (b:=b) (c:=c) (e:=e) yU nB rq tF;have Zo:=zH lu;have PC:=zH (DI.new rA.O.env rA.O.below.size);have PM:=zH (rA.O.alloc (.cells Tryz.zeroCells84 84));have PK:=zH (Js.O.alloc (.cells Tryz.zeroCells84 84));have xy:=zH (xx.O.alloc (.cells Tryz.zeroCells84 84));clear lu rA Js xx;go_wp2_with fail;refine(uR PC.O).mono ?_;rintro x' w7 ⟨sb,v,rfl,vV,Ax,jK⟩;dsimp only;have wu:=zH (PM.O.keep jK);have Bh:=zH (PK.O.aj jK);have rD:=zH (xy.O.aj jK);have rC:=zH vV;clear vV Ax jK PM PK xy PC;obtain⟨r0,r1,r2,r3⟩:=cS Bh.O;go_wp2_with fail;refine(cE _).mono ?_;rintro x' w8 ⟨rfl,rfl⟩;dsimp only;go_wp2_with fail;rcases Zo.O with⟨lu,hc⟩|⟨lu,hc⟩
      ·refine(oJ (r:=⟨aa a,aa b,aa c,aa e⟩) lu).mono ?_
       rintro x' w8 ⟨rfl,hb⟩;dsimp only;have vP:=zH (wu.O.keep hb);have HC:=zH hc;rw[aY (show(2:Int)≠0 by decide)];clear hb lu hc wu Bh rD rC r0 r1 r2 r3;go_wp2_with fail;refine(dY 2 _ vP.O.et).mono ?_;rintro x' w9 ⟨rfl,hb⟩;dsimp only;exact⟨rfl,.inr ⟨by rw[HC.O];decide,by rw[HC.O],below_2 vP.O.since hb⟩⟩
      ·refine(jO (r:=⟨aa a,aa b,aa c,aa e⟩) rC.O lu).mono ?_
       rintro x' w8 ⟨vb,rfl,IF,NX,hb⟩;dsimp only;have vP:=zH (wu.O.keep hb);have PL:=zH (Bh.O.aj hb);have nF:=zH (rD.O.aj hb);have xw:=zH IF;have HC:=zH hc;clear IF NX hb lu hc wu Bh rD rC r0 r1 r2 r3;go_wp2_with fail;refine(cE _).mono ?_;rintro x' w9 ⟨rfl,rfl⟩;dsimp only;obtain⟨r0,r1,r2,r3⟩:=cS PL.O;obtain⟨y0,y1,y2,y3,y4,y5,y6⟩:=mM nF.O;have hz:=nF.O.frozen;obtain⟨n1,n2⟩:=qS nF.O (.pointer (some ⟨w5.heap.size,0,none⟩)) (.pointer (some ⟨sb,0,none⟩)) (.pointer (some ⟨vb,0,none⟩)) (.int .i64 (aa a)) (.int .i64 (aa b)) (.int .i64 (aa c)) (.int .i64 (aa e));have HE:=zH (d_.xR (W:=W) (w:=w) (xb:=xb) HC.O n1 n2 xw.O vP.O nF.O HB.O);clear n1 n2 vP PL xw;go_wp2_with fail;go_ret;exact HE.O
end Go.Proofs.YtjligkmjlenofaaGreatDoor
