/- Part of the proof. -/
import Derived.Test.YtjligkmjlenofaaGreatDoorV12
import Derived.Test.YtjligkmjlenofaaGreatDoorV10
set_option maxHeartbeats 8000000
set_option maxRecDepth 100000
open Go renaming World->aah,rounds_succ->alB,Value->aai,Calls->ach,Ending->akB,wp_loop_rounds->alH
open Nat renaming le_refl->ahP,le_trans->aiC,le_succ->alZ
open Go.Proofs.Tryz renaming underlying132->al9
open Go.Calls renaming quiet_of_same->alY
open Array renaming getElem?_eq_some_iff->akN,toList_append->ama
open List renaming getElem?_eq_some_iff->ag6,length_map->ads,getElem?_eq_getElem->ag8,length_cons->agj,find?_cons->amf,length_nil->ajE,map_cons->aix,sum_cons->aiS
open Go.World renaming block_lt_of_cell?->acC
open ByteArray renaming data_append->al'
open Go.ByteArray renaming toList_eq->ab3
open Go.Lib renaming joinTail->amb,join->agi,lens->amc
namespace Go.Proofs.YtjligkmjlenofaaGreatDoor
open Go.Proofs.Tryz
open Go.RowKit Go.Sort
variable{t:ByteArray}{c:Int}{v':aai}{A:Act}{a b:BL}{cs:Array aai}{g off:Nat}
def eT(W:aah)(B vb sb db k:Nat)(r:Ru)(z:SS)(p:xC ByteArray)(e:akB)(w':aah):Prop:=
 e=.returned (.tuple #[.string (bp bG z p).2.1,cJ (bp bG z p).2.2])/\fS sb db W w'/\∃v',SW B vb sb db (k+1) r (bp bG z p).1 v' w'
theorem eT.jY{W w:aah}{B vb sb db k:Nat}{r:Ru}{z:SS}{v:aai}(h:SW B vb sb db k r z v w)(hb:Below W.heap.size W w)(u:aai)(hu:u=cJ c):eT W B vb sb db k r z (.jY t c) (.returned (.tuple #[.string t,u])) w:=
 ⟨by rw[hu];rfl,fS.aG hb,v,h.later⟩
theorem eT.bad{W w:aah}{B vb sb db k:Nat}{r:Ru}{z:SS}{v':aai}{ev:Ev}{t:ByteArray}{c:Int}(hc:(cO z ev).2≠0)(ht:fS sb db W w)(h:SW B vb sb db (k+1) r (cO z ev).1 v' w):eT W B vb sb db k r z (.put ev t c) (.returned (.tuple #[.string bG,cJ (cO z ev).2])) w:=by
 have e:bp bG z (.put ev t c)=((cO z ev).1,bG,(cO z ev).2):=if_neg hc;unfold eT;rw[e];exact⟨rfl,ht,v',h⟩
theorem eT.xR{W w:aah}{B vb sb db k:Nat}{r:Ru}{z:SS}{ev:Ev}(hc:(cO z ev).2=0)(ht:fS sb db W w)(h:SW B vb sb db (k+1) r (cO z ev).1 v' w)(u:aai)(hu:u=cJ c):eT W B vb sb db k r z (.put ev t c) (.returned (.tuple #[.string t,u])) w:=by
 have e:bp bG z (.put ev t c)=((cO z ev).1,t,c):=if_pos hc;unfold eT;rw[e,hu];exact⟨rfl,ht,v',h⟩
theorem SW.tm{B vb sb db k:Nat}{r:Ru}{z:SS}{v:aai}{w:aah}(h:SW B vb sb db k r z v w):eN w/\gp w/\bX w:=⟨h.sx.env.cq,h.sx.env.iV,h.sx.env.iE⟩
section
variable{B vb sb db k:Nat}{r:Ru}{z:SS}{v:aai}{W:aah}
theorem Tv(h:SW B vb sb db k r z v W)(hk:k<1000000)(aL aF sc:ByteArray)(h1:aL.size<=5000)(h2:aF.size<=5000)(h3:sc.size<=5000):
  ach prog 105 #[.pointer (some ⟨vb,0,none⟩),.string aL,.string aF,.string sc] W (eT W B vb sb db k r z (fA r z.s aL aF sc)):=by
 have PE:=zH (fun w=>vh aL w h1);have HN2:=zH (fun w=>vh aF w h2);have HLS:=zH (fun w hm=>jy sc w h3 hm);have gJ:=zH (fun w (h:SW B vb sb db k r z v w)=>(kQ h.sx).mono fun _ _ h=>j7 h);have H:=zH h;clear h;rcases nB:dM aL.data.toList with _|_
 ·have hp:fA r z.s aL aF sc=.jY bG 1:=by unfold fA;rw[nB];rfl
  have HP:=zH hp;rw[nB]at PE;clear hp nB
  go_in
  go_wp2_with fail;refine(PE.O _).mono ?_;rintro e w1 ⟨rfl,hb⟩;have H1:=zH (H.O.keep hb);have jf:=zH hb;clear hb;go_wp2_with fail;go_ret2;rw[HP.O];exact eT.jY H1.O jf.O _ (aY dC).symm
 ·rw[nB]at PE
  rcases rq:dM aF.data.toList with _|_
  ·have hp:fA r z.s aL aF sc=.jY bG 1:=by unfold fA;rw[nB,rq];rfl
   (have HP:=zH hp;rw[rq]at HN2;clear hp nB rq);go_in;go_wp2_with fail;refine(PE.O _).mono ?_;rintro e w1 ⟨rfl,hb⟩;have H1:=zH (H.O.keep hb);have jf:=zH hb;clear hb;go_wp2_with fail;refine(HN2.O _).mono ?_;rintro e w2 ⟨rfl,hb⟩;have H2:=zH (H1.O.keep hb);have gS:=zH (below_2 jf.O hb);clear hb;go_wp2_with fail;go_ret2;rw[HP.O];exact eT.jY H2.O gS.O _ (aY dC).symm
  ·rw[rq]at HN2
   (have HNA:=zH (show(dM aL.data.toList&&dM aF.data.toList)=true by rw[nB,rq];rfl);have Zn:=zH (And.intro nB rq);clear nB rq);go_in;(go_wp2_with fail;refine(PE.O _).mono ?_;rintro e w1 ⟨rfl,hb⟩;have H1:=zH (H.O.keep hb);have jf:=zH hb;clear hb PE;go_wp2_with fail;refine(HN2.O _).mono ?_;rintro e w2 ⟨rfl,hb⟩;have H2:=zH (H1.O.keep hb);have gS:=zH (below_2 jf.O hb);clear hb HN2 H1 jf;go_wp2_with fail;refine(HLS.O _ H2.O.tm.2.1).mono ?_;rintro e w3 ⟨rfl,hb⟩;have H3:=zH (H2.O.keep hb);have jb:=zH (below_2 gS.O hb);clear hb HLS H2 gS);by_cases Qr:aQ sc.data.toList=0
   ·have e0:cJ (aQ sc.data.toList)=.nilIface:=by rw[Qr];exact dG
    (rw[e0];have HSN:=zH Qr;clear e0 Qr;obtain⟨c0,c1,c2,c3,c4,aE⟩:=H3.O.gN;go_wp2_with fail;refine(gJ.O _ H3.O).mono ?_;rintro e w4 ⟨a4,Uh,rfl,hr4,hb⟩;have H4:=zH (H3.O.keep hb);have wq:=zH (below_2 jb.O hb);clear hr4 hb H3 jb gJ c0 c1 c2 c3 c4 aE);by_cases NT:1099511627776<z.s.next
    ·have hp:fA r z.s aL aF sc=.jY bG 4:=by unfold fA;rw[HNA.O,if_neg dC,if_neg (by rw[HSN.O];decide),if_pos NT]
     have HP:=zH hp;have cN:=(Below.refl w4.heap.size w4).alloc nR (.cells #[.int .i64 z.s.clock,.int .i64 z.s.next,.slice a4 z.s.ax.length Uh] 107);have mP:=zH cN;clear hp cN;go_wp2_with fail;go_ret2;rw[HP.O];exact eT.jY (H4.O.keep mP.O) (below_2 wq.O mP.O) _ (aY dC).symm
    ·by_cases hln:20<=z.s.ax.length
     ·have hp:fA r z.s aL aF sc=.jY bG 12:=by unfold fA;rw[HNA.O,if_neg dC,if_neg (by rw[HSN.O];decide),if_neg NT,if_pos hln]
      have HP:=zH hp;have cN:=(Below.refl w4.heap.size w4).alloc nR (.cells #[.int .i64 z.s.clock,.int .i64 z.s.next,.slice a4 z.s.ax.length Uh] 107);have mP:=zH cN;clear hp cN;go_wp2_with fail;go_ret2;rw[HP.O];exact eT.jY (H4.O.keep mP.O) (below_2 wq.O mP.O) _ (aY dC).symm
     ·have hp:fA r z.s aL aF sc=.put (bU (jh z.s aL aF sc)) (fB r (jh z.s aL aF sc)) 0:=by unfold fA;rw[HNA.O,if_neg dC,if_neg (by rw[HSN.O];decide),if_neg NT,if_neg hln]
      have HP:=zH hp;have cN:=gK w4 (.cells #[.int .i64 z.s.clock,.int .i64 z.s.next,.slice a4 z.s.ax.length Uh] 107) (.cells (au (jh z.s aL aF sc)) 113)
      have xS:aC ((w4.alloc (.cells #[.int .i64 z.s.clock,.int .i64 z.s.next,.slice a4 z.s.ax.length Uh] 107)).alloc (.cells (au (jh z.s aL aF sc)) 113)) (w4.heap.size+1) 113 (au (jh z.s aL aF sc)):=by
       have:=aC.new (w4.alloc (.cells #[.int .i64 z.s.clock,.int .i64 z.s.next,.slice a4 z.s.ax.length Uh] 107)) 113 (au (jh z.s aL aF sc));rw[show(w4.alloc (.cells #[.int .i64 z.s.clock,.int .i64 z.s.next,.slice a4 z.s.ax.length Uh] 107)).heap.size=w4.heap.size+1 by simp]at this;exact this
      have EH:=zH xS;have H5:=zH (H4.O.keep cN);have qu:=zH (below_2 wq.O cN);have ed:=H4.O.sx.fit;have hnM:=cK.1 ed.next;have aiw:bZ z.s.next=true:=aX.2 oM;have aeN:=lJ sc.data.toList;have hcn:=ff Zn.O.1;have anZ:=ff Zn.O.2
      have Wn:(jh z.s aL aF sc).short 5000:=by
       unfold jh az.short bG;dsimp only;rw[cI];have e1:aL.size=aL.data.toList.length:=(size_data aL).symm;have e2:aF.size=aF.data.toList.length:=(size_data aF).symm;refine⟨by omega,by omega,by omega,by show 0<=5000;omega⟩
      (have Ic:=zH (fun w (h:SW B vb sb db k r z v w)=>Jf h hk (jh z.s aL aF sc) Wn);have Uc:=zH (fun w z' v' (h:SW B vb sb db (k+1) r z' v' w)=>AQ h (jh z.s aL aF sc) aiw (show bZ 0=true by decide));unfold cM at Ic Uc;generalize hQ:cO z (bU (jh z.s aL aF sc))=Q at*;have HQ:=zH hQ;generalize hX:fB r (jh z.s aL aF sc)=X at*;generalize hF:bU (jh z.s aL aF sc)=FE at*;unfold jh au at Ic Uc EH H5 qu;unfold bG at Ic Uc EH H5 qu;dsimp only at Ic Uc EH H5 qu;clear hX hF hQ;clear hp cN xS ed hnM aiw aeN hcn anZ Wn H4 wq;go_wp2_with fail;refine(Ic.O _ H5.O).mono ?_;rintro e w6 ⟨rfl,dX,v6,h6⟩;have H6:=zH h6;have Er:=zH ((fS.aG qu.O).T dX);have HF6:=zH (EH.O.two dX (H5.O.sx.apart EH.O dC dC).1 (H5.O.sx.apart EH.O dC dC).2);clear dX h6 EH H5 qu Ic);by_cases hq:Q.2=0
      ·have e0:cJ Q.2=.nilIface:=by rw[hq];exact dG
       rw[e0];have mR:=zH hq;clear e0 hq;obtain⟨f0,f1,f2,f3,f4,f5,f6,f7,f8⟩:=cj HF6.O;go_wp2_with fail;refine(Uc.O _ _ _ H6.O).mono ?_;rintro e w7 ⟨rfl,hb⟩;have H7:=zH (H6.O.keep hb);have Q4:=zH (Er.O.T (fS.aG hb));clear hb H6 Er f0 f1 f2 f3 f4 f5 f6 f7 f8 HF6;go_wp2_with fail;go_ret2;rw[HP.O];exact eT.xR (by rw[HQ.O];exact mR.O) Q4.O (by rw[HQ.O];exact H7.O) _ dG.symm
      ·have e0:cJ Q.2=.iface 30 (.int .i64 Q.2):=aY hq
       have JG:=zH e0;rw[e0];have mR:=zH hq;clear e0 hq;go_wp2_with fail;go_ret2;rw[HP.O,<-JG.O,<-HQ.O];exact eT.bad (by rw[HQ.O];exact mR.O) Er.O (by rw[HQ.O];exact H6.O)
   ·have e0:cJ (aQ sc.data.toList)=.iface 30 (.int .i64 (aQ sc.data.toList)):=aY Qr
    (have hp:fA r z.s aL aF sc=.jY bG (aQ sc.data.toList):=by unfold fA;rw[HNA.O,if_neg dC,if_pos Qr]);have HP:=zH hp;have JG:=zH e0;rw[e0];clear e0 hp Qr;go_wp2_with fail;go_ret2;rw[HP.O];exact eT.jY H3.O jb.O _ JG.O.symm
end
def ny(W:aah)(B vb sb db k:Nat)(r:Ru)(z:SS)(p:xC Unit)(e:akB)(w':aah):Prop:=
 e=.returned (cJ (bp () z p).2.2)/\fS sb db W w'/\∃v',SW B vb sb db (k+1) r (bp () z p).1 v' w'
theorem ny.jY{W w:aah}{B vb sb db k:Nat}{r:Ru}{z:SS}{v:aai}(h:SW B vb sb db k r z v w)(hb:Below W.heap.size W w)(u:aai)(hu:u=cJ c):ny W B vb sb db k r z (.jY () c) (.returned u) w:=
 ⟨by rw[hu];rfl,fS.aG hb,v,h.later⟩
theorem ny.put{W w:aah}{B vb sb db k:Nat}{r:Ru}{z:SS}{ev:Ev}(ht:fS sb db W w)(h:SW B vb sb db (k+1) r (cO z ev).1 v' w):ny W B vb sb db k r z (.put ev () 0) (.returned (cJ (cO z ev).2)) w:=by
 by_cases hc:(cO z ev).2=0
 ·have e:bp () z (.put ev () 0)=((cO z ev).1,(),0):=if_pos hc
  unfold ny;rw[e,hc];exact⟨rfl,ht,v',h⟩
 ·have e:bp () z (.put ev () 0)=((cO z ev).1,(),(cO z ev).2):=if_neg hc
  unfold ny;rw[e];exact⟨rfl,ht,v',h⟩
section
variable{B vb sb db k:Nat}{r:Ru}{z:SS}{v:aai}{W:aah}
theorem Ye(h:SW B vb sb db k r z v W)(hk:k<1000000)(id:Int):
  ach prog 107 #[.pointer (some ⟨vb,0,none⟩),.int .i64 id] W (ny W B vb sb db k r z (py z.s id)):=by
 have MF:=zH (Mj h id);have ed:=h.sx.fit;have H:=zH h;clear h
 go_in
 go_wp2_with fail;refine MF.O.mono ?_;rintro e w1 ⟨hb,⟨f,Ey,ay,rfl⟩|⟨Ey,rfl⟩⟩
 ·have H1:=zH (H.O.keep hb)
  have jf:=zH hb;have xS:=ed.ax f ay;rcases hd:f.dead with _|_
  ·have hp:py z.s id=.put (bU (qz f)) () 0:=by unfold py;rw[Ey];simp[hd]
   have HP:=zH hp;have mQ:=nV xS;have aiX:(qz f).short 5000:=mQ;have Ic:=zH (fun w (h:SW B vb sb db k r z v w)=>Jf h hk (qz f) aiX);generalize hQ:cO z (bU (qz f))=Q at*;have HQ:=zH hQ;generalize bU (qz f)=FE at*;unfold cM qz at Ic;obtain⟨i,cl,su,eF,ge,ma,us,re,de⟩:=f;unfold au at Ic;dsimp only at hd Ic;subst hd;unfold cM au;dsimp only;have cN:=(Below.refl w1.heap.size w1).alloc nR (.cells #[.int .i64 i,.string cl,.string su,.string eF,.int .i64 ge,.int .i64 ma,.int .i64 us,.string re,.bool true] 113);have H2:=zH (H1.O.keep cN);have gS:=zH (below_2 jf.O cN);clear hp Ey ay xS mQ aiX hb cN H MF hQ;go_wp2_with fail;refine(Ic.O _ H2.O).mono ?_;rintro e w3 ⟨rfl,dX,v3,h3⟩;have H3:=zH h3;have Ju:=zH ((fS.aG gS.O).T dX);clear dX h3;go_wp2_with fail;go_ret;rw[HP.O,<-HQ.O];exact ny.put Ju.O (by rw[HQ.O];exact H3.O)
  ·have hp:py z.s id=.jY () 6:=by unfold py;rw[Ey];simp[hd]
   have HP:=zH hp;obtain⟨i,cl,su,eF,ge,ma,us,re,de⟩:=f;dsimp only at hd;subst hd;unfold cM au;dsimp only;have cN:=(Below.refl w1.heap.size w1).alloc nR (.cells #[.int .i64 i,.string cl,.string su,.string eF,.int .i64 ge,.int .i64 ma,.int .i64 us,.string re,.bool true] 113);have mP:=zH cN;clear hp Ey ay xS hb H MF cN;go_wp2_with fail;go_ret;rw[HP.O];exact ny.jY (H1.O.keep mP.O) (below_2 jf.O mP.O) _ (aY dC).symm
 ·have hp:py z.s id=.jY () 7:=by unfold py;rw[Ey]
  have HP:=zH hp;unfold cM au az.zero;dsimp only;have cN:=(Below.refl w1.heap.size w1).alloc nR (.cells #[.int .i64 0,.string ⟨#[]⟩,.string ⟨#[]⟩,.string ⟨#[]⟩,.int .i64 0,.int .i64 0,.int .i64 0,.string ⟨#[]⟩,.bool false] 113);have mP:=zH cN;have H1:=zH (H.O.keep hb);have jf:=zH hb;clear hp Ey hb H MF cN;go_wp2_with fail;go_ret;rw[HP.O];exact ny.jY (H1.O.keep mP.O) (below_2 jf.O mP.O) _ (aY dC).symm
end
section
variable{B vb sb db k:Nat}{r:Ru}{z:SS}{v:aai}{W:aah}
theorem Yh(h:SW B vb sb db k r z v W)(hk:k<1000000)(n:Int):
  ach prog 118 #[.pointer (some ⟨vb,0,none⟩),.int .i64 n] W (ny W B vb sb db k r z (pN z.s n)):=by
 have gJ:=zH (fun w (h:SW B vb sb db k r z v w)=>(kQ h.sx).mono fun _ _ h=>j7 h);have ed:=h.sx.fit;have H:=zH h;clear h
 by_cases hn:bZ n=true
 ·obtain⟨yU,nB⟩:=aX.1 hn
  have hp:pN z.s n=.put (Ad (iD z.s.clock n)) () 0:=by unfold pN;rw[hn];rfl
  have HP:=zH hp;have HAD:=zH (fun w=>pM z.s.clock n w (aX.1 ed.clock) ⟨yU,nB⟩);have HA:Hid (∀w,SX B sb db k z v w->ach prog 164 #[.pointer (some ⟨sb,0,none⟩),bH (Ad (iD z.s.clock n))] w (BN w B sb db k (cO z (Ad (iD z.s.clock n))))):=zH fun w h=>O6 h hk _ (by show az.zero.short 5000;unfold az.short az.zero;dsimp only;refine⟨by decide,by decide,by decide,by decide⟩)
  generalize hQ:cO z (Ad (iD z.s.clock n))=q at*;have HQ:=zH hQ;generalize iD z.s.clock n=cn at*;unfold bH aN Ad at HA;unfold az.zero at HA;dsimp only at HA;obtain⟨c0,c1,c2,c3,c4,aE⟩:=H.O.gN;clear hp hn ed hQ c1 c2 c3 c4
  go_in
  go_wp2_with fail;have a8:=zH H.O.drew;have HD:W.drew.cell? ⟨vb,0,none⟩=some (.pointer (some ⟨sb,0,none⟩)):=c0;clear c0 aE
  go_region_held3 (fun w'=>w'.cell? ⟨vb,0,none⟩=some (.pointer (some ⟨sb,0,none⟩)))
   (first
    |with_reducible assumption
    |with_reducible exact HD)
   (first
    |(go_at_call 158;(with_reducible refine(HAD.O _).mono ?_);rintro x' w2 ⟨rfl,rfl⟩)
    |(go_at_call 149;(with_reducible refine(gJ.O _ a8.O).mono ?_);rintro x' w2 ⟨a4,Uh,rfl,hr4,hb⟩
      have Ud:=zH (a8.O.keep hb);have gS:=zH (below_2 (bB (Below.refl W.heap.size W)) hb);have Wq:=Ud.O.gN.1;have Y4:=oH z.s.clock z.s.next a4 z.s.ax.length Uh;clear hr4 hb)
    |(go_at_call 164;(with_reducible refine(HA.O _ Ud.O.sx).mono ?_);rintro x' w2 ⟨rfl,dX,v2,vV⟩
      have vL:Q7 W B vb sb db k r q (.returned (cJ q.2)) w2:=⟨rfl,(fS.aG gS.O).T dX,v2,Ud.O.two dX vV⟩;have Wq:=(Ud.O.two dX vV).gN.1))
  go_wp2_with fail;go_ret;obtain⟨-,dX,v3,h3⟩:=vL;rw[HP.O,<-HQ.O];rw[<-HQ.O]at h3;exact ny.put dX h3
 ·have hp:pN z.s n=.jY () 2:=by unfold pN;rw[if_pos (by simpa using hn)]
  have HP:=zH hp
  have cT:n<0\/1099511627776<n:=by
   by_cases h0:n<0;(·exact .inl h0);(·exact .inr (by by_cases h1:1099511627776<n;exact h1;exact absurd (aX.2 ⟨by omega,by omega⟩) hn))
  clear hp hn;rcases cT with cT|cT
  ·go_enter func118,ntmps118
   go_wp2_with fail;go_ret;rw[HP.O];exact ny.jY H.O bR _ (aY dC).symm
  ·have h0:¬ n<0:=by omega
   go_in;go_wp2_with fail;go_ret;rw[HP.O];exact ny.jY H.O bR _ (aY dC).symm
end
theorem IK(r:Ru)(s:St)(t:ByteArray)(kind:Int):(kG r s t kind).e=gY r s (cv r t) kind:=by
 unfold kG gY
 by_cases h1:(cv r t).1≠0
 ·rw[if_pos h1,if_pos h1]
 ·rw[if_neg h1,if_neg h1]
  by_cases h2:(cv r t).2.1≠kind
  ·rw[if_pos h2,if_pos h2]
  ·rw[if_neg h2,if_neg h2]
   rcases findF s.ax (cv r t).2.2.1 with _|f
   ·rfl
   ·rcases hd:f.dead with _|_
    ·rcases ho:C_ r s.clock f with _|_<;>simp[hd,ho]
    ·simp[hd]
theorem qJ{r:Ru}{s:St}{kind:Int}(h:gY r s (cv r t) kind=0):
  (kG r s t kind).gen=(cv r t).2.2.2.1/\(kG r s t kind).ends=(cv r t).2.2.2.2/\(kG r s t kind).f=jd s (cv r t)/\jd s (cv r t)∈s.ax/\findF s.ax (cv r t).2.2.1=some (jd s (cv r t)):=by
 unfold gY at h;unfold kG jd
 by_cases h1:(cv r t).1≠0
 ·rw[if_pos h1]at h
  exact absurd h h1
 ·rw[if_neg h1]at h
  rw[if_neg h1,if_neg h1]
  by_cases h2:(cv r t).2.1≠kind
  ·rw[if_pos h2]at h
   cases h
  ·rw[if_neg h2]at h
   rw[if_neg h2];rcases hf:findF s.ax (cv r t).2.2.1 with _|f
   ·rw[hf]at h
    cases h
   ·rw[hf]at h
    rcases hd:f.dead with _|_
    ·rcases ho:C_ r s.clock f with _|_
     ·simp only[hd,ho]
      refine⟨by simp,by simp,by simp,?_,by simp⟩;exact List.mem_of_find?_eq_some hf
     ·simp[hd,ho]at h
    ·simp[hd]at h
theorem Fz{W w:aah}{s:St}{v:aai}(hr:bz w W.heap.size v s.ax)(h1:v.ownBlock≠some W.heap.size)(hb:Below W.heap.size W w)(h3:aC w W.heap.size 107 #[.int .i64 0,.int .i64 0,.slice none 0 0])(hp:A.tmps.getD 2 undef=.pointer (some ⟨W.heap.size,0,none⟩))(hd:A.defers=[]):
  bodyPost prog f101 (fJ W s) Exit.ret A (((w.setCell ⟨W.heap.size,0,none⟩ (.int .i64 s.clock)).setCell ⟨W.heap.size,1,none⟩ (.int .i64 s.next)).setCell ⟨W.heap.size,2,none⟩ v):=by
 have e1:=h3.dD 0 (.int .i64 s.clock) (cs':=#[.int .i64 s.clock,.int .i64 0,.slice none 0 0]) rfl;have e2:=e1.dD 1 (.int .i64 s.next) (cs':=#[.int .i64 s.clock,.int .i64 s.next,.slice none 0 0]) rfl;have e3:=e2.dD 2 v (cs':=kY s v) rfl;have g1:=cC w W.heap.size ⟨W.heap.size,0,none⟩ rfl (.int .i64 s.clock);have g2:=ak g1 (p:=⟨W.heap.size,1,none⟩) (.inl rfl) (.int .i64 s.next);have g3:=ak g2 (p:=⟨W.heap.size,2,none⟩) (.inl rfl) v;have kb3:=hb.grown g3 hb.size (fun j hj=>by cases hj;exact ahP _);have kr3:=hr.kept g3 h1;generalize ((w.setCell ⟨W.heap.size,0,none⟩ (.int .i64 s.clock)).setCell ⟨W.heap.size,1,none⟩ (.int .i64 s.next)).setCell ⟨W.heap.size,2,none⟩ v=w2 at*;exact bodyPost_ret (results_cell_row rfl A.tmps w2 _ _ _ (0,0) _ hp e3 underlying107 rfl kR) hd ⟨v,rfl,kr3,kb3⟩
section
variable{B vb sb db k:Nat}{r:Ru}{z:SS}{v:aai}{W:aah}
theorem Hi(h:SW B vb sb db k r z v W):
  ach prog 101 #[.pointer (some ⟨vb,0,none⟩)] W (fJ W z.s):=by
 have gJ:=zH (fun w (h:SW B vb sb db k r z v w)=>(kQ h.sx).mono fun _ _ h=>j7 h);have cN:=(Below.refl W.heap.size W).alloc nR (.cells #[.int .i64 0,.int .i64 0,.slice none 0 0] 107);have mP:=zH cN;have H1:=zH (h.keep cN);have H3:=zH (aC.new W 107 #[.int .i64 0,.int .i64 0,.slice none 0 0]);have HSZ:=zH (show W.heap.size+1<=(W.alloc (.cells #[.int .i64 0,.int .i64 0,.slice none 0 0] 107)).heap.size by simp);obtain⟨c0,c1,c2,c3,c4,aE⟩:=H1.O.gN;obtain⟨s,lg,wr,of,lf,dn⟩:=z;obtain⟨ck,nx,L⟩:=s;dsimp only at*;clear h cN
 go_in
 go_wp2_with fail;refine(gJ.O _ H1.O).mono ?_;rintro e w1 ⟨a,ac,rfl,hr,hb⟩;have HR:=zH hr;have HB:=zH (below_2 mP.O hb);have h3:=H3.O.aj hb;have H4:=zH h3;have z3:=h3.frozen;have l3:=h3.cell 0;have l4:=h3.cell 1;have l5:=h3.cell 2;clear hr hb h3 c0 c1 c2 c3 c4 aE mP H1 H3 gJ;go_wp2_with fail;have hz:=HSZ.O;exact Fz (s:=⟨ck,nx,L⟩) (HR.O.mono oM) (fun he=>by have:=(HR.O.lt _ he).1;omega) HB.O H4.O rfl rfl
end
def wh(le:Int)(f:az)(qg qd ck:Int):az×Int:=if le≠0 then(az.zero,le)else if f.gen<qg then(az.zero,2)else if qd<ck then(az.zero,10)else(f,0)
theorem XO(r:Ru)(s:St)(t:ByteArray):qT r s t=wh (gY r s (cv r t) 2) (jd s (cv r t)) (cv r t).2.2.2.1 (cv r t).2.2.2.2 s.clock:=by
 unfold qT QR wh;rw[IK]
 by_cases h:gY r s (cv r t) 2≠0
 ·rw[if_pos h,if_pos h]
 ·rw[if_neg h,if_neg h]
  obtain⟨h1,h2,h3,_⟩:=qJ (r:=r) (s:=s) (t:=t) (kind:=2) (by simpa using h);rw[h1,h2,h3]
def Ij(W:aah)(q:az×Int)(e:akB)(w':aah):Prop:=e=.returned (.tuple #[cM q.1,cJ q.2])/\Below W.heap.size W w'
theorem yw{W w:aah}{f:az}{q:az×Int}(hb:Below W.heap.size W w)(hr:aC w W.heap.size 113 (au f))(hp:A.tmps.getD 4 undef=.pointer (some ⟨W.heap.size,0,none⟩))(hx:A.tmps.getD 5 undef=cJ q.2)(hd:A.defers=[])(h:f=q.1):
  bodyPost prog f116 (Ij W q) Exit.ret A w:=by
 refine bodyPost_ret (jw rfl A.tmps w _ _ _ _ _ hp hx hr underlying113 rfl kR) hd ⟨?_,hb⟩;rw[<-h];rfl
section
variable{B vb sb db k:Nat}{r:Ru}{z:SS}{v:aai}{W:aah}
theorem Yg(h:SW B vb sb db k r z v W)(t:ByteArray)(ht:t.size<=5000):
  ach prog 116 #[.pointer (some ⟨vb,0,none⟩),.string t] W (Ij W (qT r z.s t)):=by
 have gJ:=zH (fun w (h:SW B vb sb db k r z v w)=>(kQ h.sx).mono fun _ _ h=>j7 h);have HL:=zH (fun w (h:SW B vb sb db k r z v w)=>DV h t 2 ht);rw[XO];have cN:=(Below.refl W.heap.size W).alloc nR (.cells (au az.zero) 113);have mP:=zH cN;have H1:=zH (h.keep cN);have Jq:=zH (aC.new W 113 (au az.zero));unfold xA v4 at HL;unfold oZ at gJ;unfold au az.zero at mP H1 Jq;dsimp only at mP H1 Jq;clear h cN;generalize gY r z.s (cv r t) 2=le at*;generalize jd z.s (cv r t)=f at*;generalize cv r t=q at*;obtain⟨qe,qk,qf,qg,qd⟩:=q;obtain⟨i,cl,su,eF,ge,ma,us,re,de⟩:=f;unfold cM au at HL;dsimp only at HL;dsimp only;generalize z.s=s at*;obtain⟨ck,nx,L⟩:=s;dsimp only at*
 go_in
 go_wp2_with fail;refine(HL.O _ H1.O).mono ?_;rintro e w1 ⟨rfl,hb⟩;have jf:=zH (below_2 mP.O hb);have H2:=zH (H1.O.keep hb);have FK:=zH (Jq.O.aj hb);have hfl:=FK.O.lt;clear hb H1 Jq mP HL;have cN:=gK w1 (.cells #[.int .i64 qk,.int .i64 qf,.int .i64 qg,.int .i64 qd] 170) (.cells #[.int .i64 i,.string cl,.string su,.string eF,.int .i64 ge,.int .i64 ma,.int .i64 us,.string re,.bool de] 113);have Ju:=zH ((aC.new w1 170 #[.int .i64 qk,.int .i64 qf,.int .i64 qg,.int .i64 qd]).alloc (.cells #[.int .i64 i,.string cl,.string su,.string eF,.int .i64 ge,.int .i64 ma,.int .i64 us,.string re,.bool de] 113))
 have hg:aC ((w1.alloc (.cells #[.int .i64 qk,.int .i64 qf,.int .i64 qg,.int .i64 qd] 170)).alloc (.cells #[.int .i64 i,.string cl,.string su,.string eF,.int .i64 ge,.int .i64 ma,.int .i64 us,.string re,.bool de] 113)) (w1.heap.size+1) 113 #[.int .i64 i,.string cl,.string su,.string eF,.int .i64 ge,.int .i64 ma,.int .i64 us,.string re,.bool de]:=by
  have:=aC.new (w1.alloc (.cells #[.int .i64 qk,.int .i64 qf,.int .i64 qg,.int .i64 qd] 170)) 113 #[.int .i64 i,.string cl,.string su,.string eF,.int .i64 ge,.int .i64 ma,.int .i64 us,.string re,.bool de];rw[show(w1.alloc (.cells #[.int .i64 qk,.int .i64 qf,.int .i64 qg,.int .i64 qd] 170)).heap.size=w1.heap.size+1 by simp]at this;exact this
 have EI:=zH hg;have H3:=zH (H2.O.keep cN);have JI:=zH (FK.O.aj cN);have jb:=zH (below_2 jf.O cN);have hz:=FK.O.frozen;obtain⟨z0,z1,z2,z3,z4,z5,z6,z7,z8⟩:=cj FK.O;have yU:W.heap.size≠w1.heap.size:=by omega
 have nB:W.heap.size≠w1.heap.size+1:=by omega
 clear cN hg H2
 by_cases hle:le=0
 ·subst hle
  have e0:cJ 0=.nilIface:=dG;rw[e0];clear e0
  by_cases h1:ge<qg
  ·have hq:wh 0 ⟨i,cl,su,eF,ge,ma,us,re,de⟩ qg qd ck=(az.zero,2):=by unfold wh;rw[if_neg dC,if_pos h1]
   have HQ:=zH hq;clear hq H3 Ju EI JI jb;go_wp2_with fail;obtain⟨n1,n2⟩:=lK (f0:=az.zero) FK.O 0 ⟨#[]⟩ ⟨#[]⟩ ⟨#[]⟩ 0 0 0 ⟨#[]⟩ false;have VP:=jf.O.grown n2 jf.O.size (fun i hi=>by cases hi;exact ahP _);have qw:=VP.alloc VP.size (.cells #[.int .i64 qk,.int .i64 qf,.int .i64 qg,.int .i64 qd] 170);have jK:=qw.alloc qw.size (.cells #[.int .i64 i,.string cl,.string su,.string eF,.int .i64 ge,.int .i64 ma,.int .i64 us,.string re,.bool de] 113);refine yw jK ((n1.alloc _).alloc _) rfl ?_ rfl ?_
   ·rw[HQ.O];rfl
   ·rw[HQ.O];rfl
  ·clear hz z0 z1 z2 z3 z4 z5 z6 z7 z8 FK jf yU nB
   have H1N:=zH h1;go_wp2_with fail;generalize (w1.alloc (.cells #[.int .i64 qk,.int .i64 qf,.int .i64 qg,.int .i64 qd] 170)).alloc (.cells #[.int .i64 i,.string cl,.string su,.string eF,.int .i64 ge,.int .i64 ma,.int .i64 us,.string re,.bool de] 113)=w3 at*;have a8:=zH H3.O.drew;have HTD:=zH Ju.O.drew;have FM:=zH EI.O.drew;have MF:=zH JI.O.drew;have jV:=zH (bB jb.O);clear H3 Ju EI JI jb;have HD:w3.drew.cell? ⟨vb,0,none⟩=some (.pointer (some ⟨sb,0,none⟩))/\w3.drew.cell? ⟨w1.heap.size,3,none⟩=some (.int .i64 qd):=⟨a8.O.gN.1,HTD.O.cell 3⟩
   go_region_held3 (fun w'=>w'.cell? ⟨vb,0,none⟩=some (.pointer (some ⟨sb,0,none⟩))/\w'.cell? ⟨w1.heap.size,3,none⟩=some (.int .i64 qd))
    (first
     |with_reducible assumption
     |with_reducible exact HD)
    (first
     |(go_at_call 149;(with_reducible refine(gJ.O _ a8.O).mono ?_);rintro x' w2 ⟨a4,Uh,rfl,hr4,hb⟩
       have T_:=zH (MF.O.aj hb);have AW:=zH (FM.O.aj hb);have wq:=zH (below_2 jV.O hb);have Wq:w2.cell? ⟨vb,0,none⟩=some (.pointer (some ⟨sb,0,none⟩))/\w2.cell? ⟨w1.heap.size,3,none⟩=some (.int .i64 qd):=⟨(a8.O.keep hb).gN.1,(HTD.O.aj hb).cell 3⟩;have Y4:=oH ck nx a4 L.length Uh;clear hr4 hb))
   (have hz:=T_.O.frozen;obtain⟨z0,z1,z2,z3,z4,z5,z6,z7,z8⟩:=cj T_.O);by_cases h2:qd<ck
   ·have hq:wh 0 ⟨i,cl,su,eF,ge,ma,us,re,de⟩ qg qd ck=(az.zero,10):=by unfold wh;rw[if_neg dC,if_neg (Int.not_lt.2 H1N.O),if_pos h2]
    (have HQ:=zH hq;clear hq;go_wp2_with fail;obtain⟨n1,n2⟩:=lK (f0:=az.zero) T_.O 0 ⟨#[]⟩ ⟨#[]⟩ ⟨#[]⟩ 0 0 0 ⟨#[]⟩ false;refine yw (wq.O.grown n2 wq.O.size (fun i hi=>by cases hi;exact ahP _)) n1 rfl ?_ rfl ?_);(·rw[HQ.O];rfl);(·rw[HQ.O];rfl)
   ·have hq:wh 0 ⟨i,cl,su,eF,ge,ma,us,re,de⟩ qg qd ck=(⟨i,cl,su,eF,ge,ma,us,re,de⟩,0):=by unfold wh;rw[if_neg dC,if_neg (Int.not_lt.2 H1N.O),if_neg h2]
    (have HQ:=zH hq;obtain⟨y0,y1,y2,y3,y4,y5,y6,y7,y8⟩:=cj AW.O;clear hq;go_wp2_with fail;obtain⟨n1,n2⟩:=lK (f0:=az.zero) T_.O i cl su eF ge ma us re de;refine yw (wq.O.grown n2 wq.O.size (fun i hi=>by cases hi;exact ahP _)) n1 rfl ?_ rfl ?_);(·rw[HQ.O];rfl);(·rw[HQ.O])
 ·have e0:cJ le=.iface 30 (.int .i64 le):=aY hle
  have HE:=zH e0;rw[e0];have hq:wh le ⟨i,cl,su,eF,ge,ma,us,re,de⟩ qg qd ck=(az.zero,le):=by unfold wh;rw[if_pos hle]
  have HQ:=zH hq;clear e0 hq hle H3 Ju EI JI jb;go_wp2_with fail;obtain⟨n1,n2⟩:=lK (f0:=az.zero) FK.O 0 ⟨#[]⟩ ⟨#[]⟩ ⟨#[]⟩ 0 0 0 ⟨#[]⟩ false;have VP:=jf.O.grown n2 jf.O.size (fun i hi=>by cases hi;exact ahP _);have qw:=VP.alloc VP.size (.cells #[.int .i64 qk,.int .i64 qf,.int .i64 qg,.int .i64 qd] 170);have jK:=qw.alloc qw.size (.cells #[.int .i64 i,.string cl,.string su,.string eF,.int .i64 ge,.int .i64 ma,.int .i64 us,.string re,.bool de] 113);refine yw jK ((n1.alloc _).alloc _) rfl ?_ rfl ?_
  ·rw[HQ.O];exact HE.O.symm
  ·rw[HQ.O];rfl
end
def vZ(r:Ru)(le:Int)(f:az)(qg ck:Int):ByteArray×Int:=if le≠0 then(bG,le)else if f.gen<qg then(bG,2)else if qg<f.gen then(bG,8)else(Ae r.key 2 f.id f.gen (iD ck r.access),0)
theorem WQ(r:Ru)(s:St)(t:ByteArray):vY r s t=vZ r (gY r s (cv r t) 1) (jd s (cv r t)) (cv r t).2.2.2.1 s.clock:=by
 unfold vY QA vZ;rw[IK]
 by_cases h:gY r s (cv r t) 1≠0
 ·rw[if_pos h,if_pos h]
 ·rw[if_neg h,if_neg h]
  obtain⟨h1,h2,h3,_⟩:=qJ (r:=r) (s:=s) (t:=t) (kind:=1) (by simpa using h);rw[h1,h3]
def PN(W:aah)(q:ByteArray×Int)(e:akB)(w':aah):Prop:=e=.returned (.tuple #[.string q.1,cJ q.2])/\Below W.heap.size W w'
theorem SV{a b:Int}(ha:bZ a=true)(hb:bZ b=true)(hc:bZ c=true):eP 2 a b c=true:=by unfold eP;rw[ha,hb,hc];simp
theorem ZL{a b:Int}(ha:bZ a=true)(hb:bZ b=true):bZ (iD a b)=true:=by
 obtain⟨a0,a1⟩:=aX.1 ha;obtain⟨b0,b1⟩:=aX.1 hb;refine aX.2 ?_;unfold iD;split<;>omega
section
variable{B vb sb db k:Nat}{r:Ru}{z:SS}{v:aai}{W:aah}
theorem Yf(h:SW B vb sb db k r z v W)(t:ByteArray)(ht:t.size<=5000):
  ach prog 113 #[.pointer (some ⟨vb,0,none⟩),.string t] W (PN W (vY r z.s t)):=by
 have gJ:=zH (fun w (h:SW B vb sb db k r z v w)=>(kQ h.sx).mono fun _ _ h=>j7 h);have HL:=zH (fun w (h:SW B vb sb db k r z v w)=>DV h t 1 ht);rw[WQ];have ed:=h.sx.fit;have lu:=vz h.right;have ay:gY r z.s (cv r t) 1=0->pU (jd z.s (cv r t))=true:=fun hh=>ed.ax _ (qJ hh).2.2.2.1
 have hck:=ed.clock;have H1:=zH h;unfold xA v4 at HL;unfold oZ at gJ;clear h ed;generalize gY r z.s (cv r t) 1=le at*;generalize jd z.s (cv r t)=f at*;generalize cv r t=q at*;obtain⟨qe,qk,qf,qg,qd⟩:=q;obtain⟨i,cl,su,eF,ge,ma,us,re,de⟩:=f;unfold cM au at HL;dsimp only at HL;dsimp only;generalize z.s=s at*;obtain⟨ck,nx,L⟩:=s;dsimp only at*;have HAD:=zH (fun w=>pM ck r.access w (aX.1 hck) (aX.1 lu.2.2.2))
 go_in
 go_wp2_with fail;refine(HL.O _ H1.O).mono ?_;rintro e w1 ⟨rfl,hb⟩;have H2:=zH (H1.O.keep hb);have jf:=zH hb;clear hb H1 HL;have cN:=gK w1 (.cells #[.int .i64 qk,.int .i64 qf,.int .i64 qg,.int .i64 qd] 170) (.cells #[.int .i64 i,.string cl,.string su,.string eF,.int .i64 ge,.int .i64 ma,.int .i64 us,.string re,.bool de] 113);have Ju:=zH ((aC.new w1 170 #[.int .i64 qk,.int .i64 qf,.int .i64 qg,.int .i64 qd]).alloc (.cells #[.int .i64 i,.string cl,.string su,.string eF,.int .i64 ge,.int .i64 ma,.int .i64 us,.string re,.bool de] 113))
 have hg:aC ((w1.alloc (.cells #[.int .i64 qk,.int .i64 qf,.int .i64 qg,.int .i64 qd] 170)).alloc (.cells #[.int .i64 i,.string cl,.string su,.string eF,.int .i64 ge,.int .i64 ma,.int .i64 us,.string re,.bool de] 113)) (w1.heap.size+1) 113 #[.int .i64 i,.string cl,.string su,.string eF,.int .i64 ge,.int .i64 ma,.int .i64 us,.string re,.bool de]:=by
  have:=aC.new (w1.alloc (.cells #[.int .i64 qk,.int .i64 qf,.int .i64 qg,.int .i64 qd] 170)) 113 #[.int .i64 i,.string cl,.string su,.string eF,.int .i64 ge,.int .i64 ma,.int .i64 us,.string re,.bool de];rw[show(w1.alloc (.cells #[.int .i64 qk,.int .i64 qf,.int .i64 qg,.int .i64 qd] 170)).heap.size=w1.heap.size+1 by simp]at this;exact this
 have EI:=zH hg;have H3:=zH (H2.O.keep cN);have jb:=zH (below_2 jf.O cN);clear cN hg H2 jf
 by_cases hle:le=0
 ·subst hle
  have e0:cJ 0=.nilIface:=dG;rw[e0];clear e0;have xS:=ay rfl;clear ay
  by_cases h1:ge<qg
  ·have hq:vZ r 0 ⟨i,cl,su,eF,ge,ma,us,re,de⟩ qg ck=(bG,2):=by unfold vZ;rw[if_neg dC,if_pos h1]
   have HQ:=zH hq;clear hq Ju EI H3;go_wp2_with fail;go_ret2;rw[HQ.O];exact⟨rfl,jb.O⟩
  ·by_cases h2:qg<ge
   ·have hq:vZ r 0 ⟨i,cl,su,eF,ge,ma,us,re,de⟩ qg ck=(bG,8):=by unfold vZ;rw[if_neg dC,if_neg h1,if_pos h2]
    have HQ:=zH hq;clear hq Ju EI H3;go_wp2_with fail;go_ret2;rw[HQ.O];exact⟨rfl,jb.O⟩
   ·have hq:vZ r 0 ⟨i,cl,su,eF,ge,ma,us,re,de⟩ qg ck=(Ae r.key 2 i ge (iD ck r.access),0):=by unfold vZ;rw[if_neg dC,if_neg h1,if_neg h2]
    (have HQ:=zH hq;obtain⟨p1,p2,_⟩:=bV xS;have HA:Hid (∀w,eN w->ach prog 119 #[.int .i64 r.key,v4 2 i ge (iD ck r.access)] w fun e w'=>e=.returned (.tuple #[.string (Ae r.key 2 i ge (iD ck r.access)),.nilIface])/\Below w.heap.size w w'):=zH fun w hT=>jz r.key 2 i ge (iD ck r.access) w hT (SV p1 p2 (ZL hck lu.2.2.2)));unfold v4 at HA;generalize Ae r.key 2 i ge (iD ck r.access)=tx at*;generalize iD ck r.access=ce at*;clear hq xS p1 p2 hck lu;go_wp2_with fail;generalize (w1.alloc (.cells #[.int .i64 qk,.int .i64 qf,.int .i64 qg,.int .i64 qd] 170)).alloc (.cells #[.int .i64 i,.string cl,.string su,.string eF,.int .i64 ge,.int .i64 ma,.int .i64 us,.string re,.bool de] 113)=w3 at*;have a8:=zH H3.O.drew;have FM:=zH EI.O.drew;have jV:=zH (bB jb.O);clear H3 Ju EI jb;have HD:w3.drew.cell? ⟨vb,0,none⟩=some (.pointer (some ⟨sb,0,none⟩))/\w3.drew.cell? ⟨vb,1,none⟩=some (.int .i64 r.key)/\w3.drew.cell? ⟨vb,4,none⟩=some (.int .i64 r.access)/\w3.drew.cell? ⟨w1.heap.size+1,0,none⟩=some (.int .i64 i)/\w3.drew.cell? ⟨w1.heap.size+1,4,none⟩=some (.int .i64 ge):=⟨a8.O.gN.1,a8.O.gN.2.1,a8.O.gN.2.2.2.2.1,FM.O.cell 0,FM.O.cell 4⟩
    go_region_held3 (fun w'=>w'.cell? ⟨vb,0,none⟩=some (.pointer (some ⟨sb,0,none⟩))/\w'.cell? ⟨vb,1,none⟩=some (.int .i64 r.key)/\w'.cell? ⟨vb,4,none⟩=some (.int .i64 r.access)/\w'.cell? ⟨w1.heap.size+1,0,none⟩=some (.int .i64 i)/\w'.cell? ⟨w1.heap.size+1,4,none⟩=some (.int .i64 ge))
     (first
      |with_reducible assumption
      |with_reducible exact HD)
     (first
      |(go_at_call 158;(with_reducible refine(HAD.O _).mono ?_);rintro x' w2 ⟨rfl,rfl⟩)
      |(go_at_call 149;(with_reducible refine(gJ.O _ a8.O).mono ?_);rintro x' w2 ⟨a4,Uh,rfl,hr4,hb⟩
        have yR:=zH (a8.O.keep hb);have AW:=zH (FM.O.aj hb);have wq:=zH (below_2 jV.O hb);have Wq:w2.cell? ⟨vb,0,none⟩=some (.pointer (some ⟨sb,0,none⟩))/\w2.cell? ⟨vb,1,none⟩=some (.int .i64 r.key)/\w2.cell? ⟨vb,4,none⟩=some (.int .i64 r.access)/\w2.cell? ⟨w1.heap.size+1,0,none⟩=some (.int .i64 i)/\w2.cell? ⟨w1.heap.size+1,4,none⟩=some (.int .i64 ge):=⟨yR.O.gN.1,yR.O.gN.2.1,yR.O.gN.2.2.2.2.1,AW.O.cell 0,AW.O.cell 4⟩;have Y4:=oH ck nx a4 L.length Uh;clear hr4 hb)
      |(go_at_call 119;(with_reducible refine(HA.O _ yR.O.sx.env.cq).mono ?_);rintro x' w2 ⟨rfl,hb⟩
        have vL:=below_2 wq.O hb;have hx5:w2.cell? ⟨vb,0,none⟩=some (.pointer (some ⟨sb,0,none⟩))/\w2.cell? ⟨vb,1,none⟩=some (.int .i64 r.key)/\w2.cell? ⟨vb,4,none⟩=some (.int .i64 r.access)/\w2.cell? ⟨w1.heap.size+1,0,none⟩=some (.int .i64 i)/\w2.cell? ⟨w1.heap.size+1,4,none⟩=some (.int .i64 ge):=⟨(yR.O.keep hb).gN.1,(yR.O.keep hb).gN.2.1,(yR.O.keep hb).gN.2.2.2.2.1,(AW.O.aj hb).cell 0,(AW.O.aj hb).cell 4⟩))
    go_wp2_with fail;go_ret2;rw[HQ.O];exact⟨rfl,vL⟩
 ·have e0:cJ le=.iface 30 (.int .i64 le):=aY hle
  have HE:=zH e0;rw[e0];have hq:vZ r le ⟨i,cl,su,eF,ge,ma,us,re,de⟩ qg ck=(bG,le):=by unfold vZ;rw[if_pos hle]
  have HQ:=zH hq;clear e0 hq hle Ju EI H3 ay;go_wp2_with fail;go_ret2;rw[HQ.O];refine⟨?_,jb.O⟩;rw[HE.O];rfl
end
theorem Oz(r:Ru)(s:St)(t request sc:ByteArray):iW r s t request sc=if dM request.data.toList=false then .jY bG 1 else rotateL r s ⟨gY r s (cv r t) 1,(cv r t).2.2.2.1,0,jd s (cv r t)⟩ request sc:=by
 unfold iW
 by_cases hn:dM request.data.toList=false
 ·rw[if_pos hn,if_pos hn]
 ·rw[if_neg hn,if_neg hn]
  unfold rotateL;rw[IK]
  by_cases h:gY r s (cv r t) 1≠0
  ·rw[if_pos h,if_pos h]
  ·rw[if_neg h,if_neg h]
   obtain⟨h1,h2,h3,_⟩:=qJ (r:=r) (s:=s) (t:=t) (kind:=1) (by simpa using h);rw[h1,h3]
theorem Yy(a b:ByteArray):(a.toList == b.toList)=decide (a.data.toList=b.data.toList):=by
 rw[ab3,ab3,Bool.eq_iff_iff];simp
theorem qQ(r:Ru)(s:St)(qg:Int)(f:az)(request sc:ByteArray):rotateL r s ⟨0,qg,0,f⟩ request sc=if f.gen<qg then .jY bG 2
  else if qg=f.gen - 1/\request.data.toList=f.request.data.toList then .jY (fB r f) 0
  else if qg<f.gen then .put (bU (qz f)) bG 15
  else if aQ sc.data.toList≠0 then .jY bG (aQ sc.data.toList)
  else if u7 (cr sc.data.toList) f.scope.data.toList=false then .jY bG 13
  else if f.gen=1099511627776 then .jY bG 4
  else .put (bU (Eg s f request sc)) (fB r (Eg s f request sc)) 0:=by
 unfold rotateL;exact if_neg (fun h=>h rfl)
theorem SY{r:Ru}{s:St}{qg le:Int}{f:az}{request sc:ByteArray}(h:le≠0):rotateL r s ⟨le,qg,0,f⟩ request sc=.jY bG le:=by
 unfold rotateL;exact if_pos h
theorem TW(ge qg:Int)(a b:BL):ge<qg\/(¬ ge<qg/\qg=ge - 1/\a=b)\/(¬ ge<qg/\qg=ge - 1/\a≠b)\/(¬ ge<qg/\qg≠ge - 1/\qg<ge)\/qg=ge:=by
 by_cases h1:ge<qg
 ·exact .inl h1
 ·by_cases h2:qg=ge - 1
  ·by_cases h3:a=b
   ·exact .inr (.inl ⟨h1,h2,h3⟩)
   ·exact .inr (.inr (.inl ⟨h1,h2,h3⟩))
  ·by_cases h3:qg<ge
   ·exact .inr (.inr (.inr (.inl ⟨h1,h2,h3⟩)))
   ·exact .inr (.inr (.inr (.inr oM)))
section
variable{B vb sb db k:Nat}{r:Ru}{z:SS}{v:aai}{W:aah}
theorem O5(h:SW B vb sb db k r z v W)(hk:k<1000000)(t request sc:ByteArray)(ht:t.size<=5000)(h2:request.size<=5000)(h3:sc.size<=5000):
  ach prog 114 #[.pointer (some ⟨vb,0,none⟩),.string t,.string request,.string sc] W (eT W B vb sb db k r z (iW r z.s t request sc)):=by
 have PE:=zH (fun w=>vh request w h2);have HLS:=zH (fun w hm=>jy sc w h3 hm);have gJ:=zH (fun w (h:SW B vb sb db k r z v w)=>(kQ h.sx).mono fun _ _ h=>j7 h);have HL:=zH (fun w (h:SW B vb sb db k r z v w)=>DV h t 1 ht);rw[Oz];have ed:=h.sx.fit;have ay:gY r z.s (cv r t) 1=0->pU (jd z.s (cv r t))=true:=fun hh=>ed.ax _ (qJ hh).2.2.2.1
 have hck:=ed.clock;have Ic:=zH (fun w f (hf:f.short 5000) (h:SW B vb sb db k r z v w)=>Jf h hk f hf);have Uc:=zH (fun w z' v' k f hi hg (h:SW B vb sb db k r z' v' w)=>AQ h f hi hg);have H:=zH h;unfold xA v4 at HL;unfold oZ at gJ;clear h ed;rcases nB:dM request.data.toList with _|_
 ·rw[if_pos rfl]
  rw[nB]at PE
  go_in
  go_wp2_with fail;refine(PE.O _).mono ?_;rintro e w1 ⟨rfl,hb⟩;have H1:=zH (H.O.keep hb);have jf:=zH hb;clear hb;go_wp2_with fail;go_ret2;exact eT.jY H1.O jf.O _ (aY dC).symm
 ·rw[if_neg dC]
  have Zn:=zH nB;rw[nB]at PE;clear nB;generalize gY r z.s (cv r t) 1=le at*;generalize jd z.s (cv r t)=f at*;generalize cv r t=q at*;obtain⟨qe,qk,qf,qg,qd⟩:=q;dsimp only at HL;dsimp only
  go_in
  go_wp2_with fail;refine(PE.O _).mono ?_;rintro e w1 ⟨rfl,hb⟩;have H1:=zH (H.O.keep hb);have jf:=zH hb;clear hb PE H;go_wp2_with fail;refine(HL.O _ H1.O).mono ?_;rintro e w2 ⟨rfl,hb⟩;have H2:=zH (H1.O.keep hb);have gS:=zH (below_2 jf.O hb);clear hb HL H1 jf
  by_cases hle:le=0
  ·subst hle
   have e0:cJ 0=.nilIface:=dG;rw[e0];clear e0;have xS:=ay rfl;clear ay;have p2:=(bV xS).2.1;have p1:=(bV xS).1;obtain⟨g0,g1⟩:=aX.1 p2;have EH:=zH xS;have Ag:=zH p2;have HP1:=zH p1;clear xS p2 p1;obtain⟨i,cl,su,eF,ge,ma,us,re,de⟩:=f;unfold cM au;dsimp only at*;have EB:=Yy request re;rcases TW ge qg request.data.toList re.data.toList with h1|⟨h1,h4,h5⟩|⟨h1,h4,h5⟩|⟨h1,h4,h5⟩|h1
   ·have hp:rotateL r z.s ⟨0,qg,0,⟨i,cl,su,eF,ge,ma,us,re,de⟩⟩ request sc=_:=(qQ r z.s qg ⟨i,cl,su,eF,ge,ma,us,re,de⟩ request sc).T (if_pos h1)
    have HP:=zH hp;clear hp;clear EB;have cN:=gK w2 (.cells #[.int .i64 qk,.int .i64 qf,.int .i64 qg,.int .i64 qd] 170) (.cells #[.int .i64 i,.string cl,.string su,.string eF,.int .i64 ge,.int .i64 ma,.int .i64 us,.string re,.bool de] 113);have H3:=zH (H2.O.keep cN);have jb:=zH (below_2 gS.O cN);clear cN;go_wp2_with fail;go_ret2;rw[HP.O];exact eT.jY H3.O jb.O _ (aY dC).symm
   ·have hp:rotateL r z.s ⟨0,qg,0,⟨i,cl,su,eF,ge,ma,us,re,de⟩⟩ request sc=_:=(qQ r z.s qg ⟨i,cl,su,eF,ge,ma,us,re,de⟩ request sc).T ((if_neg h1).T (if_pos ⟨h4,h5⟩))
    have HP:=zH hp;clear hp;rw[decide_eq_true h5]at EB;subst h4;have cN:=gK w2 (.cells #[.int .i64 qk,.int .i64 qf,.int .i64 (ge - 1),.int .i64 qd] 170) (.cells #[.int .i64 i,.string cl,.string su,.string eF,.int .i64 ge,.int .i64 ma,.int .i64 us,.string re,.bool de] 113);have H3:=zH (H2.O.keep cN);have jb:=zH (below_2 gS.O cN);have JJ:=zH (fun w h=>Uc.O w z v k ⟨i,cl,su,eF,ge,ma,us,re,de⟩ HP1.O Ag.O h);unfold cM au at JJ;dsimp only at JJ;generalize fB r ⟨i,cl,su,eF,ge,ma,us,re,de⟩=X at*;clear cN h5 Uc Ic;go_wp2_with fail;refine(JJ.O _ H3.O).mono ?_;rintro e w4 ⟨rfl,hb⟩;have H4:=zH (H3.O.keep hb);have wq:=zH (below_2 jb.O hb);clear hb H3 jb;go_wp2_with fail;go_ret2;rw[HP.O];exact eT.jY H4.O wq.O _ dG.symm
   ·have hp:rotateL r z.s ⟨0,qg,0,⟨i,cl,su,eF,ge,ma,us,re,de⟩⟩ request sc=_:=(qQ r z.s qg ⟨i,cl,su,eF,ge,ma,us,re,de⟩ request sc).T ((if_neg h1).T ((if_neg (fun h=>h5 h.2)).T (if_pos (show qg<ge by omega))))
    (have HP:=zH hp;clear hp;rw[decide_eq_false h5]at EB;subst h4;clear h5;have cN:=gK w2 (.cells #[.int .i64 qk,.int .i64 qf,.int .i64 (ge - 1),.int .i64 qd] 170) (.cells #[.int .i64 i,.string cl,.string su,.string eF,.int .i64 ge,.int .i64 ma,.int .i64 us,.string re,.bool true] 113);have H3:=zH (H2.O.keep cN);have jb:=zH (below_2 gS.O cN);have mQ:az.short ⟨i,cl,su,eF,ge,ma,us,re,true⟩ 5000:=nV (f:=⟨i,cl,su,eF,ge,ma,us,re,de⟩) EH.O;have tH:=zH (fun w h=>Ic.O w _ mQ h);generalize hQ:cO z (bU (qz ⟨i,cl,su,eF,ge,ma,us,re,de⟩))=Q at*;have hQ2:cO z (bU ⟨i,cl,su,eF,ge,ma,us,re,true⟩)=Q:=hQ;rw[hQ2]at tH;have HQ:=zH hQ;generalize bU (qz ⟨i,cl,su,eF,ge,ma,us,re,de⟩)=FE at*;unfold cM au at tH;dsimp only at tH;clear cN mQ hQ hQ2 H2 gS EH Ic Uc gJ HLS;go_wp2_with fail;refine(tH.O _ H3.O).mono ?_;rintro e w6 ⟨rfl,dX,v6,h6⟩;have H6:=zH h6;have Er:=zH ((fS.aG jb.O).T dX);clear dX h6 H3 jb tH);by_cases hq:Q.2=0
    ·have e0:cJ Q.2=.nilIface:=by rw[hq];exact dG
     rw[e0];have mR:=zH hq;clear e0 hq;go_wp2_with fail;go_ret2;rw[HP.O];exact eT.xR (by rw[HQ.O];exact mR.O) Er.O (by rw[HQ.O];exact H6.O) _ (aY dC).symm
    ·have e0:cJ Q.2=.iface 30 (.int .i64 Q.2):=aY hq
     have JG:=zH e0;rw[e0];have mR:=zH hq;clear e0 hq;go_wp2_with fail;go_ret2;rw[<-JG.O,<-HQ.O];rw[HP.O];exact eT.bad (by rw[HQ.O];exact mR.O) Er.O (by rw[HQ.O];exact H6.O)
   ·have hp:rotateL r z.s ⟨0,qg,0,⟨i,cl,su,eF,ge,ma,us,re,de⟩⟩ request sc=_:=(qQ r z.s qg ⟨i,cl,su,eF,ge,ma,us,re,de⟩ request sc).T ((if_neg h1).T ((if_neg (fun h=>h4 h.1)).T (if_pos h5)))
    (have HP:=zH hp;clear hp;clear EB;have cN:=gK w2 (.cells #[.int .i64 qk,.int .i64 qf,.int .i64 qg,.int .i64 qd] 170) (.cells #[.int .i64 i,.string cl,.string su,.string eF,.int .i64 ge,.int .i64 ma,.int .i64 us,.string re,.bool true] 113);have H3:=zH (H2.O.keep cN);have jb:=zH (below_2 gS.O cN);have mQ:az.short ⟨i,cl,su,eF,ge,ma,us,re,true⟩ 5000:=nV (f:=⟨i,cl,su,eF,ge,ma,us,re,de⟩) EH.O;have tH:=zH (fun w h=>Ic.O w _ mQ h);generalize hQ:cO z (bU (qz ⟨i,cl,su,eF,ge,ma,us,re,de⟩))=Q at*;have hQ2:cO z (bU ⟨i,cl,su,eF,ge,ma,us,re,true⟩)=Q:=hQ;rw[hQ2]at tH;have HQ:=zH hQ;generalize bU (qz ⟨i,cl,su,eF,ge,ma,us,re,de⟩)=FE at*;unfold cM au at tH;dsimp only at tH;clear cN mQ hQ hQ2 H2 gS EH Ic Uc gJ HLS;go_wp2_with fail;refine(tH.O _ H3.O).mono ?_;rintro e w6 ⟨rfl,dX,v6,h6⟩;have H6:=zH h6;have Er:=zH ((fS.aG jb.O).T dX);clear dX h6 H3 jb tH);by_cases hq:Q.2=0
    ·have e0:cJ Q.2=.nilIface:=by rw[hq];exact dG
     rw[e0];have mR:=zH hq;clear e0 hq;go_wp2_with fail;go_ret2;rw[HP.O];exact eT.xR (by rw[HQ.O];exact mR.O) Er.O (by rw[HQ.O];exact H6.O) _ (aY dC).symm
    ·have e0:cJ Q.2=.iface 30 (.int .i64 Q.2):=aY hq
     have JG:=zH e0;rw[e0];have mR:=zH hq;clear e0 hq;go_wp2_with fail;go_ret2;rw[<-JG.O,<-HQ.O];rw[HP.O];exact eT.bad (by rw[HQ.O];exact mR.O) Er.O (by rw[HQ.O];exact H6.O)
   ·subst h1
    (have n1:¬ qg<qg:=by omega);(have n2:¬ (qg=qg - 1/\request.data.toList=re.data.toList):=fun h=>by have:=h.1;omega);(have hp:rotateL r z.s ⟨0,qg,0,⟨i,cl,su,eF,qg,ma,us,re,de⟩⟩ request sc=_:=(qQ r z.s qg ⟨i,cl,su,eF,qg,ma,us,re,de⟩ request sc).T ((if_neg n1).T ((if_neg n2).T (if_neg n1)));have HP:=zH hp;clear hp;have h4:qg≠qg - 1:=by omega);clear EB n1 n2;have cN:=gK w2 (.cells #[.int .i64 qk,.int .i64 qf,.int .i64 qg,.int .i64 qd] 170) (.cells #[.int .i64 i,.string cl,.string su,.string eF,.int .i64 qg,.int .i64 ma,.int .i64 us,.string re,.bool de] 113);have H3:=zH (H2.O.keep cN);have jb:=zH (below_2 gS.O cN)
    have hg:aC ((w2.alloc (.cells #[.int .i64 qk,.int .i64 qf,.int .i64 qg,.int .i64 qd] 170)).alloc (.cells #[.int .i64 i,.string cl,.string su,.string eF,.int .i64 qg,.int .i64 ma,.int .i64 us,.string re,.bool de] 113)) (w2.heap.size+1) 113 (au ⟨i,cl,su,eF,qg,ma,us,re,de⟩):=by
     have:=aC.new (w2.alloc (.cells #[.int .i64 qk,.int .i64 qf,.int .i64 qg,.int .i64 qd] 170)) 113 (au ⟨i,cl,su,eF,qg,ma,us,re,de⟩);rw[show(w2.alloc (.cells #[.int .i64 qk,.int .i64 qf,.int .i64 qg,.int .i64 qd] 170)).heap.size=w2.heap.size+1 by simp]at this;exact this
    (have EI:=zH hg;have oQ:=zH cN;clear cN hg;go_wp2_with fail;refine(HLS.O _ H3.O.tm.2.1).mono ?_;rintro e w3 ⟨rfl,hb⟩;have H4:=zH (H3.O.keep hb);have wq:=zH (below_2 jb.O hb);have AW:=zH (EI.O.aj hb);have HD4:=zH (below_2 oQ.O hb);clear hb HLS H3 jb EI oQ);by_cases Qr:aQ sc.data.toList=0
    ·have e0:cJ (aQ sc.data.toList)=.nilIface:=by rw[Qr];exact dG
     rw[e0];have hp:=HP.O.T (if_neg (fun h=>h Qr));have HSN:=zH Qr;clear e0 Qr HP;have HP:=zH hp;clear hp;have Ax:=nV EH.O;have HWI:=zH (fun w (h:SW B vb sb db k r z v w)=>I0 (aq (cr sc.data.toList)) eF w (by rw[cI];have:=lJ sc.data.toList;omega) Ax.2.2.1 h.tm.2.1);obtain⟨y0,y1,y2,y3,y4,y5,y6,y7,y8⟩:=cj AW.O;have hgz:=AW.O.frozen;clear Ax;go_wp2_with fail;refine(HWI.O _ H4.O).mono ?_;rintro e w4 ⟨rfl,hb⟩;have H5:=zH (H4.O.keep hb);have qu:=zH (below_2 wq.O hb);have HG5:=zH (AW.O.aj hb);have HD5:=zH (below_2 HD4.O hb);clear hb H4 wq AW HD4 HWI y0 y1 y2 y3 y4 y5 y6 y7 y8 hgz;have etl:(aq (cr sc.data.toList)).data.toList=cr sc.data.toList:=rfl;rw[etl];clear etl;rcases MS:u7 (cr sc.data.toList) eF.data.toList with _|_
     ·have hp:=HP.O.T (if_pos MS)
      clear HP;have HP:=zH hp;clear hp MS;go_wp2_with fail;go_ret2;rw[HP.O];exact eT.jY H5.O qu.O _ (aY dC).symm
     ·have hp:=HP.O.T (if_neg (show ¬ u7 (cr sc.data.toList) eF.data.toList=false by rw[MS];decide))
      (clear HP;obtain⟨y0,y1,y2,y3,y4,y5,y6,y7,y8⟩:=cj HG5.O;have hgz:=HG5.O.frozen);by_cases RX:qg=1099511627776
      ·have HP:=zH (hp.T (if_pos RX))
       clear hp MS;subst RX;go_wp2_with fail;go_ret2;rw[HP.O];exact eT.jY H5.O qu.O _ (aY dC).symm
      ·have HP:=zH (hp.T (if_neg RX))
       (clear hp MS;have hd6:=HD5.O.setCell (p:=⟨w2.heap.size+1,4,none⟩) (alZ _) (.int .i64 (qg+1));have HD6:=zH hd6;have H6:=zH (H2.O.keep hd6);have HG6:=zH (HG5.O.dD 4 (.int .i64 (qg+1)) (cs':=au ⟨i,cl,su,eF,qg+1,ma,us,re,de⟩) rfl);have HBW:=zH (fun w (h:Below w2.heap.size w2 w)=>below_2 gS.O h);obtain⟨c0,c1,c2,c3,c4,aE⟩:=H5.O.gN;have hq1:qg+1<=1099511627776:=by omega);clear hd6;go_wp2_with fail;refine(gJ.O _ H6.O).mono ?_;rintro e w5 ⟨a5,ac5,rfl,hr5,hb⟩;have HD7:=zH (below_2 HD6.O hb);have HG7:=zH (HG6.O.aj hb);have Y4:=oH z.s.clock z.s.next a5 z.s.ax.length ac5;clear hr5 hb HD6 H6 HG6 HD5 HG5 H5 qu y0 y1 y2 y3 y4 y5 y6 y7 y8 hgz c0 c1 c2 c3 c4 aE;obtain⟨y0,y1,y2,y3,y4,y5,y6,y7,y8⟩:=cj HG7.O;have hgz:=HG7.O.frozen;obtain⟨c0,c1,c2,c3,c4,aE⟩:=(H2.O.keep HD7.O).gN;have hd8:=((HD7.O.setCell (p:=⟨w2.heap.size+1,3,none⟩) (alZ _) (.string (aq (cr sc.data.toList)))).setCell (p:=⟨w2.heap.size+1,7,none⟩) (alZ _) (.string request)).setCell (p:=⟨w2.heap.size+1,6,none⟩) (alZ _) (.int .i64 z.s.clock);have H8:=zH (H2.O.keep hd8);have HB8:=zH (HBW.O _ hd8);have k3:=HG7.O.dD 3 (.string (aq (cr sc.data.toList))) (cs':=au ⟨i,cl,su,aq (cr sc.data.toList),qg+1,ma,us,re,de⟩) rfl;have k7:=k3.dD 7 (.string request) (cs':=au ⟨i,cl,su,aq (cr sc.data.toList),qg+1,ma,us,request,de⟩) rfl;have HG8:=zH (k7.dD 6 (.int .i64 z.s.clock) (cs':=au ⟨i,cl,su,aq (cr sc.data.toList),qg+1,ma,z.s.clock,request,de⟩) rfl);have Aw:az.short ⟨i,cl,su,eF,qg,ma,us,re,de⟩ 5000:=nV EH.O;have aeN:=lJ sc.data.toList;have Y2:=ff Zn.O
       have mQ:az.short ⟨i,cl,su,aq (cr sc.data.toList),qg+1,ma,z.s.clock,request,de⟩ 5000:=by
        unfold az.short at Aw ⊢;dsimp only at Aw ⊢;rw[cI];have e1:request.size=request.data.toList.length:=(size_data request).symm;exact⟨Aw.1,Aw.2.1,by omega,by omega⟩
       (have tH:=zH (fun w h=>Ic.O w _ mQ h);have JJ:=zH (fun w z' v' k (h:SW B vb sb db k r z' v' w)=>Uc.O w z' v' k ⟨i,cl,su,aq (cr sc.data.toList),qg+1,ma,z.s.clock,request,de⟩ HP1.O (aX.2 ⟨show 0<=qg+1 by omega,hq1⟩) h);generalize hQ:cO z (bU (Eg z.s ⟨i,cl,su,eF,qg,ma,us,re,de⟩ request sc))=Q at*;have hQ2:cO z (bU ⟨i,cl,su,aq (cr sc.data.toList),qg+1,ma,z.s.clock,request,de⟩)=Q:=hQ;rw[hQ2]at tH;have HQ:=zH hQ;generalize hX:fB r (Eg z.s ⟨i,cl,su,eF,qg,ma,us,re,de⟩ request sc)=X at*;have hX2:fB r ⟨i,cl,su,aq (cr sc.data.toList),qg+1,ma,z.s.clock,request,de⟩=X:=hX;rw[hX2]at JJ;generalize bU (Eg z.s ⟨i,cl,su,eF,qg,ma,us,re,de⟩ request sc)=FE at*;unfold cM au at tH JJ;dsimp only at tH JJ;clear hd8 k3 k7 Aw aeN Y2 mQ hQ hQ2 hX hX2 Ic Uc HD7 HG7 HBW H2 gS gJ EH HP1 Ag Zn;go_wp2_with fail;refine(tH.O _ H8.O).mono ?_;rintro e w6 ⟨rfl,dX,v6,h6⟩;have H9:=zH h6;have HT9:=zH ((fS.aG HB8.O).T dX);have HF9:=zH (HG8.O.two dX (H8.O.sx.apart HG8.O dC dC).1 (H8.O.sx.apart HG8.O dC dC).2);clear dX h6 HG8 H8 HB8 tH);by_cases hq:Q.2=0
       ·have e0:cJ Q.2=.nilIface:=by rw[hq];exact dG
        rw[e0];have mR:=zH hq;clear e0 hq y0 y1 y2 y3 y4 y5 y6 y7 y8 hgz c0 c1 c2 c3 c4 aE;obtain⟨f0,f1,f2,f3,f4,f5,f6,f7,f8⟩:=cj HF9.O;go_wp2_with fail;refine(JJ.O _ _ _ _ H9.O).mono ?_;rintro e w7 ⟨rfl,hb⟩;have H10:=zH (H9.O.keep hb);have adr:=zH (HT9.O.T (fS.aG hb));clear hb H9 HT9 f0 f1 f2 f3 f4 f5 f6 f7 f8 HF9;go_wp2_with fail;go_ret2;rw[HP.O];exact eT.xR (by rw[HQ.O];exact mR.O) adr.O (by rw[HQ.O];exact H10.O) _ dG.symm
       ·have e0:cJ Q.2=.iface 30 (.int .i64 Q.2):=aY hq
        have JG:=zH e0;rw[e0];have mR:=zH hq;clear e0 hq y0 y1 y2 y3 y4 y5 y6 y7 y8 hgz c0 c1 c2 c3 c4 aE;go_wp2_with fail;go_ret2;rw[HP.O,<-JG.O,<-HQ.O];exact eT.bad (by rw[HQ.O];exact mR.O) HT9.O (by rw[HQ.O];exact H9.O)
    ·have e0:cJ (aQ sc.data.toList)=.iface 30 (.int .i64 (aQ sc.data.toList)):=aY Qr
     have JG:=zH e0;rw[e0];have hp:=HP.O.T (if_pos Qr);clear e0 Qr HP;have HP:=zH hp;clear hp;go_wp2_with fail;go_ret2;rw[HP.O];exact eT.jY H4.O wq.O _ JG.O.symm
  ·have e0:cJ le=.iface 30 (.int .i64 le):=aY hle
   have HE:=zH e0;rw[e0];have HP:=zH (SY (r:=r) (s:=z.s) (qg:=qg) (f:=f) (request:=request) (sc:=sc) hle);obtain⟨i,cl,su,eF,ge,ma,us,re,de⟩:=f;unfold cM au;dsimp only at*;have cN:=gK w2 (.cells #[.int .i64 qk,.int .i64 qf,.int .i64 qg,.int .i64 qd] 170) (.cells #[.int .i64 i,.string cl,.string su,.string eF,.int .i64 ge,.int .i64 ma,.int .i64 us,.string re,.bool de] 113);have H3:=zH (H2.O.keep cN);have jb:=zH (below_2 gS.O cN);clear e0 hle cN ay;go_wp2_with fail;go_ret2;rw[HP.O];exact eT.jY H3.O jb.O _ HE.O.symm
end
def mh(W:aah)(B vb sb db k:Nat)(r:Ru)(z:SS)(p:xC Int)(e:akB)(w':aah):Prop:=
 e=.returned (.tuple #[.int .i64 (bp 0 z p).2.1,cJ (bp 0 z p).2.2])/\fS sb db W w'/\∃v',SW B vb sb db (k+1) r (bp 0 z p).1 v' w'
theorem mh.jY{W w:aah}{B vb sb db k:Nat}{r:Ru}{z:SS}{v:aai}{t:Int}(h:SW B vb sb db k r z v w)(hb:Below W.heap.size W w)(u:aai)(hu:u=cJ c):mh W B vb sb db k r z (.jY t c) (.returned (.tuple #[.int .i64 t,u])) w:=
 ⟨by rw[hu];rfl,fS.aG hb,v,h.later⟩
theorem mh.bad{W w:aah}{B vb sb db k:Nat}{r:Ru}{z:SS}{v':aai}{ev:Ev}{t:Int}{c:Int}(hc:(cO z ev).2≠0)(ht:fS sb db W w)(h:SW B vb sb db (k+1) r (cO z ev).1 v' w):mh W B vb sb db k r z (.put ev t c) (.returned (.tuple #[.int .i64 0,cJ (cO z ev).2])) w:=by
 have e:bp 0 z (.put ev t c)=((cO z ev).1,0,(cO z ev).2):=if_neg hc;unfold mh;rw[e];exact⟨rfl,ht,v',h⟩
theorem mh.xR{W w:aah}{B vb sb db k:Nat}{r:Ru}{z:SS}{ev:Ev}{t:Int}(hc:(cO z ev).2=0)(ht:fS sb db W w)(h:SW B vb sb db (k+1) r (cO z ev).1 v' w)(u:aai)(hu:u=cJ c):mh W B vb sb db k r z (.put ev t c) (.returned (.tuple #[.int .i64 t,u])) w:=by
 have e:bp 0 z (.put ev t c)=((cO z ev).1,t,c):=if_pos hc;unfold mh;rw[e,hu];exact⟨rfl,ht,v',h⟩
theorem Gg{p:az->Bool}{L:List az}{k:Nat}(h:∀j f,j<k->L[j]?=some f->p f=false):L.find? p=(L.drop k).find? p:=by
 induction k generalizing L with
 |zero=>rfl
 |succ k ih=>
  cases L with
  |nil=>rfl
  |cons g L=>
   rw[amf,h 0 g (Nat.succ_pos _) rfl,List.drop_succ_cons];exact ih fun j f hj hf=>h (j+1) f (Nat.succ_lt_succ hj) (by simpa using hf)
theorem Iy{p:az->Bool}{L:List az}{k:Nat}{f:az}(h:∀j f,j<k->L[j]?=some f->p f=false)(hf:L[k]?=some f)(hp:p f=true):L.find? p=some f:=by
 have aE:=(ag6.1 hf).1;rw[Gg h,List.drop_eq_getElem_cons aE,amf,(ag6.1 hf).2,hp]
theorem EX{p:az->Bool}{L:List az}(h:∀j f,j<L.length->L[j]?=some f->p f=false):L.find? p=none:=by
 rw[Gg h,List.drop_length];rfl
def ahs(W:aah)(B vb sb db k:Nat)(r:Ru)(z:SS)(v:aai)(cb:Nat)(a1:Option Addr)(ac:Nat)(i:aai)(w:aah):Prop:=
 ∃j:Nat,j<=z.s.ax.length/\i=.int .i64 j/\Below W.heap.size W w/\SW B vb sb db k r z v w/\bz w W.heap.size (.slice a1 z.s.ax.length ac) z.s.ax/\w.cell? ⟨cb,0,none⟩=some (.int .i64 z.s.clock)/\
  ∀m f,m<j->z.s.ax[m]?=some f->(f.dead || C_ r z.s.clock f)=false
section
variable{B vb sb db k:Nat}{r:Ru}{z:SS}{v:aai}{W:aah}
theorem Tw(h:SW B vb sb db k r z v W)(hk:k<1000000):
  ach prog 117 #[.pointer (some ⟨vb,0,none⟩)] W (mh W B vb sb db k r z (fD r z.s)):=by
 have gJ:=zH (fun w (h:SW B vb sb db k r z v w)=>(kQ h.sx).mono fun _ _ h=>j7 h);have ed:=h.sx.fit;have lu:=vz h.right;have hlen:=ed.len;have HA:Hid (∀w id,SX B sb db k z v w->ach prog 164 #[.pointer (some ⟨sb,0,none⟩),bH (pR id)] w (BN w B sb db k (cO z (pR id)))):=zH fun w id h=>O6 h hk _ (by show az.zero.short 5000;unfold az.short az.zero;dsimp only;refine⟨by decide,by decide,by decide,by decide⟩)
 obtain⟨c0,c1,c2,c3,c4,aE⟩:=h.gN;have H:=zH h;clear h
 go_in
 go_wp2_with fail;refine(gJ.O _ H.O).mono ?_;rintro e w1 ⟨a1,ac,rfl,hr,hb⟩;have H1:=zH (H.O.keep hb);have jf:=zH hb;have FN:=zH hr;clear hr hb c0 c1 c2 c3 c4 aE H gJ;have cN:=(Below.refl w1.heap.size w1).alloc nR (.cells #[.int .i64 z.s.clock,.int .i64 z.s.next,.slice a1 z.s.ax.length ac] 107);have H2:=zH (H1.O.keep cN);have gS:=zH (below_2 jf.O cN);have MZ:=zH (FN.O.below cN);have HC2:=zH ((aC.new w1 107 #[.int .i64 z.s.clock,.int .i64 z.s.next,.slice a1 z.s.ax.length ac]).cell 0);have HSZ:=zH jf.O.size;clear cN jf H1 FN;go_wp2_with fail;generalize w1.alloc (.cells #[.int .i64 z.s.clock,.int .i64 z.s.next,.slice a1 z.s.ax.length ac] 107)=w2 at*;generalize w1.heap.size=cb at*
 go_loopw [16] (fun i wr=>ahs W B vb sb db k r z v cb a1 ac i wr) (fun i _=>z.s.ax.length - (intOf i).toNat)
 case atStart=>exact⟨0,Nat.zero_le _,rfl,gS.O,H2.O,MZ.O,HC2.O,fun j f hj=>absurd hj (Nat.not_lt_zero _)⟩
 case round=>
  obtain⟨j,hj,rfl,hb,hs,hr,hc,nJ⟩:=hrel;have HB:=zH hb;have HS:=zH hs;have FO:=zH hr;have Jr:=zH nJ;have HCK:=zH hc;clear hb hs hr hc nJ MZ HC2 H2 gS
  by_cases aE:j<z.s.ax.length
  ·obtain⟨g,rfl,_,ra⟩:=FO.O.lit aE
   (obtain⟨f,hf⟩:∃f,z.s.ax[j]?=some f:=⟨_,ag8 aE⟩;have HF:=zH hf;obtain⟨_,_,gm,gu,_⟩:=bV (ed.ax f (List.mem_of_getElem? hf));have xu:=zH (fun w=>pM f.used r.idle w (by have:=aX.1 gu;omega) (by have:=aX.1 lu.2.1;omega));have xq:=zH (fun w=>pM f.made r.oA w (by have:=aX.1 gm;omega) (by have:=aX.1 lu.2.2.1;omega));have hold:(f.dead || C_ r z.s.clock f)=(f.dead || (decide (iD f.used r.idle<z.s.clock) || decide (iD f.made r.oA<z.s.clock))):=rfl;have HOL:=zH hold;obtain⟨i,cl,su,eF,ge,ma,us,re,de⟩:=f;obtain⟨e0,e1,e2,e3,e4,e5,e6,e7,e8⟩:=ra.nine hf;dsimp only at xu xq HOL;have h0:(0:Int)<=(j:Int):=by omega);(have h1:(j:Int)<(z.s.ax.length:Int):=by omega);(clear hf ra gm gu hold;go_wp2_with fail;have cN:=(Below.refl wr.heap.size wr).alloc nR (.cells #[.int .i64 i,.string cl,.string su,.string eF,.int .i64 ge,.int .i64 ma,.int .i64 us,.string re,.bool de] 113);have hg:=aC.new wr 113 #[.int .i64 i,.string cl,.string su,.string eF,.int .i64 ge,.int .i64 ma,.int .i64 us,.string re,.bool de];have AW:=zH hg;have yR:=zH (HS.O.keep cN);have wq:=zH (below_2 HB.O cN);have vH:=zH (FO.O.below cN);have Un:=acC wr _ HCK.O;have HC4:=zH ((cN.cell (p:=⟨cb,0,none⟩) Un).T HCK.O);have Zi:Hid (∀w,SX B sb db k z v w->ach prog 164 #[.pointer (some ⟨sb,0,none⟩),.agg #[.int .i64 2,.int .i64 0,.string ⟨#[]⟩,.string ⟨#[]⟩,.string ⟨#[]⟩,.int .i64 0,.int .i64 0,.int .i64 0,.string ⟨#[]⟩,.bool false,.int .i64 i,.int .i64 0]] w (BN w B sb db k (cO z (pR i)))):=zH fun w h=>HA.O w i h);clear cN hg Un HB HS FO HCK HA e0 e1 e2 e3 e4 e5 e6 e7 e8;generalize wr.alloc (.cells #[.int .i64 i,.string cl,.string su,.string eF,.int .i64 ge,.int .i64 ma,.int .i64 us,.string re,.bool de] 113)=w4 at*;generalize wr.heap.size=fb at*;obtain⟨d0,d1,d2,d3,d4,d5,d6,d7,d8⟩:=cj AW.O;obtain⟨c0,c1,c2,c3,c4,NX⟩:=yR.O.gN;have hck:=HC4.O;cases de
   ·by_cases hu:iD us r.idle<z.s.clock
    ·have hu':decide (iD us r.idle<z.s.clock)=true:=decide_eq_true hu
     have hp:fD r z.s=.put (pR i) i 0:=by
      unfold fD Aa;rw[Iy Jr.O HF.O (by rw[HOL.O];simp[hu])]
     have HP:=zH hp;generalize hQ:cO z (pR i)=Q at*;have HQ:=zH hQ;clear hp hQ Jr HF vH HOL;go_wp2_with fail
     go_quiet ((first
      |(go_at_call 158;exact alY ((xu.O _).mono fun _ _ h=>⟨h.1,h.2.symm⟩))
      |(go_at_call 158;exact alY ((xq.O _).mono fun _ _ h=>⟨h.1,h.2.symm⟩))))
     go_wp2_with fail;have yS:Below w4.heap.size w4 (w4.drewN nq).drew:=bB (below_drewN (Below.refl w4.heap.size w4) nq);have a8:=zH (yR.O.keep yS);have FM:=zH (AW.O.aj yS);have jV:=zH (below_2 wq.O yS);clear yS yR AW wq d0 d1 d2 d3 d4 d5 d6 d7 d8 c0 c1 c2 c3 c4 NX HC4;generalize w4.drewN nq=w5 at*;have HD:w5.drew.cell? ⟨vb,0,none⟩=some (.pointer (some ⟨sb,0,none⟩))/\w5.drew.cell? ⟨fb,0,none⟩=some (.int .i64 i):=⟨a8.O.gN.1,FM.O.cell 0⟩
     go_region_held3 (fun w'=>w'.cell? ⟨vb,0,none⟩=some (.pointer (some ⟨sb,0,none⟩))/\w'.cell? ⟨fb,0,none⟩=some (.int .i64 i))
      (first
       |with_reducible assumption
       |with_reducible exact HD)
      (first
       |(go_at_call 164;(with_reducible refine(Zi.O _ a8.O.sx).mono ?_);rintro x' w6 ⟨rfl,dX,v2,vV⟩
         have vL:Q7 W B vb sb db k r Q (.returned (cJ Q.2)) w6:=⟨rfl,(fS.aG jV.O).T dX,v2,a8.O.two dX vV⟩;have Wq:w6.cell? ⟨vb,0,none⟩=some (.pointer (some ⟨sb,0,none⟩))/\w6.cell? ⟨fb,0,none⟩=some (.int .i64 i):=⟨(a8.O.two dX vV).gN.1,(FM.O.two dX (a8.O.sx.apart FM.O dC dC).1 (a8.O.sx.apart FM.O dC dC).2).cell 0⟩))
     (obtain⟨-,dX,v6,h6⟩:=vL;have H6:=zH h6;have Er:=zH dX;clear h6 dX);by_cases hq:Q.2=0
     ·have e0:cJ Q.2=.nilIface:=by rw[hq];exact dG
      rw[e0];have mR:=zH hq;clear e0 hq;go_wp2_with fail;go_ret2;rw[HP.O];exact mh.xR (by rw[HQ.O];exact mR.O) Er.O (by rw[HQ.O];exact H6.O) _ dG.symm
     ·have e0:cJ Q.2=.iface 30 (.int .i64 Q.2):=aY hq
      have JG:=zH e0;rw[e0];have mR:=zH hq;clear e0 hq;go_wp2_with fail;go_ret2;rw[HP.O,<-JG.O,<-HQ.O];exact mh.bad (by rw[HQ.O];exact mR.O) Er.O (by rw[HQ.O];exact H6.O)
    ·have hu':decide (iD us r.idle<z.s.clock)=false:=decide_eq_false hu
     by_cases hm:iD ma r.oA<z.s.clock
     ·have Bq:decide (iD ma r.oA<z.s.clock)=true:=decide_eq_true hm
      have hp:fD r z.s=.put (pR i) i 0:=by
       unfold fD Aa;rw[Iy Jr.O HF.O (by rw[HOL.O];simp[hm])]
      have HP:=zH hp;generalize hQ:cO z (pR i)=Q at*;have HQ:=zH hQ;clear hp hQ Jr HF vH HOL;go_wp2_with fail
      go_quiet ((first
       |(go_at_call 158;exact alY ((xu.O _).mono fun _ _ h=>⟨h.1,h.2.symm⟩))
       |(go_at_call 158;exact alY ((xq.O _).mono fun _ _ h=>⟨h.1,h.2.symm⟩))))
      go_wp2_with fail;have yS:Below w4.heap.size w4 (w4.drewN nq).drew:=bB (below_drewN (Below.refl w4.heap.size w4) nq);have a8:=zH (yR.O.keep yS);have FM:=zH (AW.O.aj yS);have jV:=zH (below_2 wq.O yS);clear yS yR AW wq d0 d1 d2 d3 d4 d5 d6 d7 d8 c0 c1 c2 c3 c4 NX HC4;generalize w4.drewN nq=w5 at*;have HD:w5.drew.cell? ⟨vb,0,none⟩=some (.pointer (some ⟨sb,0,none⟩))/\w5.drew.cell? ⟨fb,0,none⟩=some (.int .i64 i):=⟨a8.O.gN.1,FM.O.cell 0⟩
      go_region_held3 (fun w'=>w'.cell? ⟨vb,0,none⟩=some (.pointer (some ⟨sb,0,none⟩))/\w'.cell? ⟨fb,0,none⟩=some (.int .i64 i))
       (first
        |with_reducible assumption
        |with_reducible exact HD)
       (first
        |(go_at_call 164;(with_reducible refine(Zi.O _ a8.O.sx).mono ?_);rintro x' w6 ⟨rfl,dX,v2,vV⟩
          have vL:Q7 W B vb sb db k r Q (.returned (cJ Q.2)) w6:=⟨rfl,(fS.aG jV.O).T dX,v2,a8.O.two dX vV⟩;have Wq:w6.cell? ⟨vb,0,none⟩=some (.pointer (some ⟨sb,0,none⟩))/\w6.cell? ⟨fb,0,none⟩=some (.int .i64 i):=⟨(a8.O.two dX vV).gN.1,(FM.O.two dX (a8.O.sx.apart FM.O dC dC).1 (a8.O.sx.apart FM.O dC dC).2).cell 0⟩))
      (obtain⟨-,dX,v6,h6⟩:=vL;have H6:=zH h6;have Er:=zH dX;clear h6 dX);by_cases hq:Q.2=0
      ·have e0:cJ Q.2=.nilIface:=by rw[hq];exact dG
       rw[e0];have mR:=zH hq;clear e0 hq;go_wp2_with fail;go_ret2;rw[HP.O];exact mh.xR (by rw[HQ.O];exact mR.O) Er.O (by rw[HQ.O];exact H6.O) _ dG.symm
      ·have e0:cJ Q.2=.iface 30 (.int .i64 Q.2):=aY hq
       have JG:=zH e0;rw[e0];have mR:=zH hq;clear e0 hq;go_wp2_with fail;go_ret2;rw[HP.O,<-JG.O,<-HQ.O];exact mh.bad (by rw[HQ.O];exact mR.O) Er.O (by rw[HQ.O];exact H6.O)
     ·have Bq:decide (iD ma r.oA<z.s.clock)=false:=decide_eq_false hm
      (have nJ:(false || C_ r z.s.clock ⟨i,cl,su,eF,ge,ma,us,re,false⟩)=false:=by rw[HOL.O,hu',Bq];rfl);have Zn:=zH nJ;clear nJ;go_wp2_with fail
      go_quiet ((first
       |(go_at_call 158;exact alY ((xu.O _).mono fun _ _ h=>⟨h.1,h.2.symm⟩))
       |(go_at_call 158;exact alY ((xq.O _).mono fun _ _ h=>⟨h.1,h.2.symm⟩))))
      go_wp2_with fail;have yS:Below w4.heap.size w4 (w4.drewN nq):=below_drewN (Below.refl w4.heap.size w4) nq;go_roundw
      case rel=>exact⟨j+1,by omega,by go_num,below_2 wq.O yS,yR.O.keep yS,vH.O.below yS,(yS.cell (p:=⟨cb,0,none⟩) (acC w4 _ HC4.O)).T HC4.O,fun m f hm hf=>by
       by_cases e:m=j
       ·subst e
        rw[HF.O]at hf;cases hf;exact Zn.O
       ·exact Jr.O m f oM hf⟩
      case measure=>simp[intOf];omega
   ·have hp:fD r z.s=.put (pR i) i 0:=by
     unfold fD Aa;rw[Iy Jr.O HF.O (rfl)]
    have HP:=zH hp;generalize hQ:cO z (pR i)=Q at*;have HQ:=zH hQ;clear hp hQ Jr HF vH HOL;go_wp2_with fail
    go_quiet ((first
     |(go_at_call 158;exact alY ((xu.O _).mono fun _ _ h=>⟨h.1,h.2.symm⟩))
     |(go_at_call 158;exact alY ((xq.O _).mono fun _ _ h=>⟨h.1,h.2.symm⟩))))
    go_wp2_with fail;have yS:Below w4.heap.size w4 (w4.drewN nq).drew:=bB (below_drewN (Below.refl w4.heap.size w4) nq);have a8:=zH (yR.O.keep yS);have FM:=zH (AW.O.aj yS);have jV:=zH (below_2 wq.O yS);clear yS yR AW wq d0 d1 d2 d3 d4 d5 d6 d7 d8 c0 c1 c2 c3 c4 NX HC4;generalize w4.drewN nq=w5 at*;have HD:w5.drew.cell? ⟨vb,0,none⟩=some (.pointer (some ⟨sb,0,none⟩))/\w5.drew.cell? ⟨fb,0,none⟩=some (.int .i64 i):=⟨a8.O.gN.1,FM.O.cell 0⟩
    go_region_held3 (fun w'=>w'.cell? ⟨vb,0,none⟩=some (.pointer (some ⟨sb,0,none⟩))/\w'.cell? ⟨fb,0,none⟩=some (.int .i64 i))
     (first
      |with_reducible assumption
      |with_reducible exact HD)
     (first
      |(go_at_call 164;(with_reducible refine(Zi.O _ a8.O.sx).mono ?_);rintro x' w6 ⟨rfl,dX,v2,vV⟩
        have vL:Q7 W B vb sb db k r Q (.returned (cJ Q.2)) w6:=⟨rfl,(fS.aG jV.O).T dX,v2,a8.O.two dX vV⟩;have Wq:w6.cell? ⟨vb,0,none⟩=some (.pointer (some ⟨sb,0,none⟩))/\w6.cell? ⟨fb,0,none⟩=some (.int .i64 i):=⟨(a8.O.two dX vV).gN.1,(FM.O.two dX (a8.O.sx.apart FM.O dC dC).1 (a8.O.sx.apart FM.O dC dC).2).cell 0⟩))
    (obtain⟨-,dX,v6,h6⟩:=vL;have H6:=zH h6;have Er:=zH dX;clear h6 dX);by_cases hq:Q.2=0
    ·have e0:cJ Q.2=.nilIface:=by rw[hq];exact dG
     rw[e0];have mR:=zH hq;clear e0 hq;go_wp2_with fail;go_ret2;rw[HP.O];exact mh.xR (by rw[HQ.O];exact mR.O) Er.O (by rw[HQ.O];exact H6.O) _ dG.symm
    ·have e0:cJ Q.2=.iface 30 (.int .i64 Q.2):=aY hq
     have JG:=zH e0;rw[e0];have mR:=zH hq;clear e0 hq;go_wp2_with fail;go_ret2;rw[HP.O,<-JG.O,<-HQ.O];exact mh.bad (by rw[HQ.O];exact mR.O) Er.O (by rw[HQ.O];exact H6.O)
  ·have MN:j=z.s.ax.length:=by omega
   have hp:fD r z.s=.jY 0 8:=by
    unfold fD Aa;rw[EX (fun m f hm hf=>Jr.O m f oM hf)]
   have HP:=zH hp;clear hp;go_wp2_with fail;go_ret2;rw[HP.O];exact mh.jY HS.O HB.O _ (aY dC).symm
end
theorem jO{B sb db k:Nat}{r:Ru}{z:SS}{v:aai}{W:aah}(h:SX B sb db k z v W)(hr:LL r=true):
  ach prog 39 #[.pointer (some ⟨sb,0,none⟩),.agg #[.int .i64 r.key,.int .i64 r.idle,.int .i64 r.oA,.int .i64 r.access]] W fun e w'=>∃vb,e=.returned (.tuple #[.pointer (some ⟨vb,0,none⟩),.nilIface])/\SW B vb sb db k r z v w'/\W.heap.size<=vb/\Below W.heap.size W w':=by
 have hB:B<=W.heap.size:=by obtain⟨D,n,f,x,h1,_⟩:=h;exact h1.nH
 obtain⟨k1,k2,k3,k4⟩:=vz hr;obtain⟨a0,a1⟩:=aX.1 k1;obtain⟨b0,b1⟩:=aX.1 k2;obtain⟨d0,d1⟩:=aX.1 k3;obtain⟨e0,e1⟩:=aX.1 k4;have HR:=zH hr;have H:=zH h;clear h hr k1 k2 k3 k4;obtain⟨ky,il,li,ac⟩:=r;dsimp only at*;have cN:=gK W (.cells #[.int .i64 ky,.int .i64 il,.int .i64 li,.int .i64 ac] 49) (.cells #[.int .i64 ky,.int .i64 il,.int .i64 li,.int .i64 ac] 3);have mP:=zH cN;have H1:=zH (H.O.keep cN);have FO:=zH ((aC.new W 49 #[.int .i64 ky,.int .i64 il,.int .i64 li,.int .i64 ac]).alloc (.cells #[.int .i64 ky,.int .i64 il,.int .i64 li,.int .i64 ac] 3))
 have hg:aC ((W.alloc (.cells #[.int .i64 ky,.int .i64 il,.int .i64 li,.int .i64 ac] 49)).alloc (.cells #[.int .i64 ky,.int .i64 il,.int .i64 li,.int .i64 ac] 3)) (W.heap.size+1) 3 #[.int .i64 ky,.int .i64 il,.int .i64 li,.int .i64 ac]:=by
  have:=aC.new (W.alloc (.cells #[.int .i64 ky,.int .i64 il,.int .i64 li,.int .i64 ac] 49)) 3 #[.int .i64 ky,.int .i64 il,.int .i64 li,.int .i64 ac];rw[show(W.alloc (.cells #[.int .i64 ky,.int .i64 il,.int .i64 li,.int .i64 ac] 49)).heap.size=W.heap.size+1 by simp]at this;exact this
 have EI:=zH hg;clear cN hg
 go_in
 go_wp2_with fail;generalize (W.alloc (.cells #[.int .i64 ky,.int .i64 il,.int .i64 li,.int .i64 ac] 49)).alloc (.cells #[.int .i64 ky,.int .i64 il,.int .i64 li,.int .i64 ac] 3)=w1 at*;obtain⟨x0,x1,x2,x3⟩:=cS EI.O;obtain⟨y0,y1,y2,y3⟩:=cS FO.O;refine alH 5 ?_;rw[alB];go_wp2_with fail;rw[alB];go_wp2_with fail;rw[alB];go_wp2_with fail;rw[alB];go_wp2_with fail;rw[alB];go_wp2_with fail;go_ret2;have cN:=(Below.refl w1.heap.size w1).alloc nR (.cells #[.pointer (some ⟨sb,0,none⟩),.int .i64 ky,.int .i64 il,.int .i64 li,.int .i64 ac] 122);exact⟨w1.heap.size,rfl,⟨aC.new w1 _ _,H1.O.keep cN,HR.O,aiC hB mP.O.size⟩,mP.O.size,below_2 mP.O cN⟩
theorem Bx{x:Int}(h:bZ x=false):x<0\/1099511627776<x:=by
 by_cases h0:x<0
 ·exact .inl h0
 ·by_cases h1:1099511627776<x
  ·exact .inr h1
  ·rw[aX.2 ⟨by omega,by omega⟩]at h
   cases h
theorem abu{r:Ru}(h:LL r=false):bZ r.key=false\/(bZ r.key=true/\(bZ r.idle=false\/(bZ r.idle=true/\(bZ r.oA=false\/(bZ r.oA=true/\bZ r.access=false))))):=by
 unfold LL at h;cases h1:bZ r.key<;>cases h2:bZ r.idle<;>cases h3:bZ r.oA<;>cases h4:bZ r.access<;>simp_all
theorem oJ{sb:Nat}{r:Ru}{W:aah}(hr:LL r=false):
  ach prog 39 #[.pointer (some ⟨sb,0,none⟩),.agg #[.int .i64 r.key,.int .i64 r.idle,.int .i64 r.oA,.int .i64 r.access]] W fun e w'=>e=.returned (.tuple #[.pointer none,cJ 2])/\Below W.heap.size W w':=by
 have hn:=abu hr;clear hr;obtain⟨ky,il,li,ac⟩:=r;dsimp only at*;have cN:=gK W (.cells #[.int .i64 ky,.int .i64 il,.int .i64 li,.int .i64 ac] 49) (.cells #[.int .i64 ky,.int .i64 il,.int .i64 li,.int .i64 ac] 3);have mP:=zH cN
 have hg:aC ((W.alloc (.cells #[.int .i64 ky,.int .i64 il,.int .i64 li,.int .i64 ac] 49)).alloc (.cells #[.int .i64 ky,.int .i64 il,.int .i64 li,.int .i64 ac] 3)) (W.heap.size+1) 3 #[.int .i64 ky,.int .i64 il,.int .i64 li,.int .i64 ac]:=by
  have:=aC.new (W.alloc (.cells #[.int .i64 ky,.int .i64 il,.int .i64 li,.int .i64 ac] 49)) 3 #[.int .i64 ky,.int .i64 il,.int .i64 li,.int .i64 ac];rw[show(W.alloc (.cells #[.int .i64 ky,.int .i64 il,.int .i64 li,.int .i64 ac] 49)).heap.size=W.heap.size+1 by simp]at this;exact this
 have EI:=zH hg;clear cN hg
 go_in
 go_wp2_with fail;generalize (W.alloc (.cells #[.int .i64 ky,.int .i64 il,.int .i64 li,.int .i64 ac] 49)).alloc (.cells #[.int .i64 ky,.int .i64 il,.int .i64 li,.int .i64 ac] 3)=w1 at*;obtain⟨x0,x1,x2,x3⟩:=cS EI.O;refine alH 5 ?_;rcases hn with h|⟨k1,h|⟨k2,h|⟨k3,h⟩⟩⟩
 ·rcases Bx h with hx|hx
  ·rw[alB]
   go_wp2_with fail;go_ret2;exact⟨by rw[aY dC];rfl,mP.O⟩
  ·have hx0:¬ ky<0:=by omega
   rw[alB];go_wp2_with fail;go_ret2;exact⟨by rw[aY dC];rfl,mP.O⟩
 ·obtain⟨p0,q0⟩:=aX.1 k1
  rcases Bx h with hx|hx
  ·rw[alB]
   go_wp2_with fail;rw[alB];go_wp2_with fail;go_ret2;exact⟨by rw[aY dC];rfl,mP.O⟩
  ·have hx0:¬ il<0:=by omega
   rw[alB];go_wp2_with fail;rw[alB];go_wp2_with fail;go_ret2;exact⟨by rw[aY dC];rfl,mP.O⟩
 ·obtain⟨p0,q0⟩:=aX.1 k1
  obtain⟨p1,q1⟩:=aX.1 k2;rcases Bx h with hx|hx
  ·rw[alB]
   go_wp2_with fail;rw[alB];go_wp2_with fail;rw[alB];go_wp2_with fail;go_ret2;exact⟨by rw[aY dC];rfl,mP.O⟩
  ·have hx0:¬ li<0:=by omega
   rw[alB];go_wp2_with fail;rw[alB];go_wp2_with fail;rw[alB];go_wp2_with fail;go_ret2;exact⟨by rw[aY dC];rfl,mP.O⟩
 ·obtain⟨p0,q0⟩:=aX.1 k1
  obtain⟨p1,q1⟩:=aX.1 k2;obtain⟨p2,q2⟩:=aX.1 k3;rcases Bx h with hx|hx
  ·rw[alB]
   go_wp2_with fail;rw[alB];go_wp2_with fail;rw[alB];go_wp2_with fail;rw[alB];go_wp2_with fail;go_ret2;exact⟨by rw[aY dC];rfl,mP.O⟩
  ·have hx0:¬ ac<0:=by omega
   rw[alB];go_wp2_with fail;rw[alB];go_wp2_with fail;rw[alB];go_wp2_with fail;rw[alB];go_wp2_with fail;go_ret2;exact⟨by rw[aY dC];rfl,mP.O⟩
theorem lB{a b c:Prop}(_:a)(_:b)(_:c):True:=trivial
def Vn(db sb vb:Nat)(r:Ru):Array aai:=#[.pointer (some ⟨db,0,none⟩),.pointer (some ⟨sb,0,none⟩),.pointer (some ⟨vb,0,none⟩),.int .i64 r.key,.int .i64 r.idle,.int .i64 r.oA,.int .i64 r.access]
structure dW(W:aah)(xb vb sb db k:Nat)(r:Ru)(z:SS)(v:aai)(w:aah):Prop where
 at_:aC w xb 51 (Vn db sb vb r)
 sw:SW W.heap.size vb sb db k r z v w
 bx:W.heap.size<=xb
 below:Below W.heap.size W w
 err:ey W
 eg:0<W.heap.size
def aaY(t:TypeId):Bool:=t == 109 || t == 84 || t == 51
def Sl:Obj->Bool
 | .cells _ t _=>aaY t
 |_=>false
structure bT(w w':aah):Prop where
 os:w'.os=w.os
 tape:w'.tape=w.tape
 output:w'.output=w.output
 size:w.heap.size<=w'.heap.size
 block:∀(i:Nat) (o:Obj),w.heap[i]?=some o->Sl o=false->w'.heap[i]?=some o
section
variable{w w' w'':aah}
theorem bT.T(h:bT w w')(k:bT w' w''):bT w w'':=⟨k.os.T h.os,k.tape.T h.tape,k.output.T h.output,aiC h.size k.size,fun i o hi hm=>k.block i o (h.block i o hi hm) hm⟩
theorem bT.aG(h:Below w.heap.size w w'):bT w w':=⟨h.os,h.tape,h.output,h.size,fun i _ hi _=>(h.block i (akN.1 hi).1).T hi⟩
theorem bT.rP{a b:Nat}{ca cb:Array aai}(h:fS a b w w')(ha:aC w a 109 ca)(hb:aC w b 84 cb):bT w w':=
 ⟨h.os,h.tape,h.output,h.size,fun i o hi hm=>by
  have aE:=(akN.1 hi).1;refine(h.block i aE ?_ ?_).T hi
  ·rintro rfl
   unfold aC at ha;rw[ha]at hi;cases hi;rw[show Sl (.cells ca 109 (0,0))=true from rfl]at hm;cases hm
  ·rintro rfl
   unfold aC at hb;rw[hb]at hi;cases hi;rw[show Sl (.cells cb 84 (0,0))=true from rfl]at hm;cases hm⟩
theorem bT.rO{x:Nat}{t:TypeId}(h:w.grownBy w' (some x))(hx:aC w x t cs)(ht:aaY t=true):bT w w':=
 ⟨h.os,h.tape,h.output,h.size,fun i o hi hm=>by
  have aE:=(akN.1 hi).1;refine(h.block i aE ?_).T hi;intro he;cases he;unfold aC at hx;rw[hx]at hi;cases hi;rw[show Sl (.cells cs t (0,0))=aaY t from rfl,ht]at hm;cases hm⟩
theorem aC.stay{t:TypeId}(h:aC w g t cs)(k:bT w w')(ht:aaY t=false):aC w' g t cs:=k.block g _ h ht
end
section
variable{W w w':aah}{xb vb sb db k:Nat}{r:Ru}{z:SS}{v:aai}
theorem dW.keep(h:dW W xb vb sb db k r z v w)(hb:Below w.heap.size w w'):dW W xb vb sb db k r z v w':=⟨h.at_.aj hb,h.sw.keep hb,h.bx,below_2 h.below hb,h.err,h.eg⟩
theorem dW.drew(h:dW W xb vb sb db k r z v w):dW W xb vb sb db k r z v w.drew:=h.keep (bB bR)
theorem dW.later(h:dW W xb vb sb db k r z v w):dW W xb vb sb db (k+1) r z v w:=⟨h.at_,h.sw.later,h.bx,h.below,h.err,h.eg⟩
theorem dW.et(h:dW W xb vb sb db k r z v w):ey w:=h.err.below h.below h.eg
theorem dW.env(h:dW W xb vb sb db k r z v w):Env W.heap.size w:=h.sw.sx.env
theorem dW.Ul(h:dW W xb vb sb db k r z v w):0<w.heap.size:=Nat.lt_of_lt_of_le h.eg h.below.size
theorem dW.seven(h:dW W xb vb sb db k r z v w):w.cell? ⟨xb,0,none⟩=some (.pointer (some ⟨db,0,none⟩))/\w.cell? ⟨xb,1,none⟩=some (.pointer (some ⟨sb,0,none⟩))/\w.cell? ⟨xb,2,none⟩=some (.pointer (some ⟨vb,0,none⟩))/\w.cell? ⟨xb,3,none⟩=some (.int .i64 r.key)/\w.cell? ⟨xb,4,none⟩=some (.int .i64 r.idle)/\w.cell? ⟨xb,5,none⟩=some (.int .i64 r.oA)/\w.cell? ⟨xb,6,none⟩=some (.int .i64 r.access)/\xb<w.heap.size:=
 ⟨h.at_.cell 0,h.at_.cell 1,h.at_.cell 2,h.at_.cell 3,h.at_.cell 4,h.at_.cell 5,h.at_.cell 6,h.at_.lt⟩
theorem dW.two{k':Nat}{z':SS}(h:dW W xb vb sb db k r z v w)(t:fS sb db w w')(hs:SW W.heap.size vb sb db k' r z' v' w'):dW W xb vb sb db k' r z' v' w'/\bT w w':=by
 obtain⟨⟨ca,ha⟩,cb,hb⟩:=h.sw.sx.blocks;obtain⟨p1,p2,p3⟩:=h.sw.sx.places;exact⟨⟨h.at_.two t (h.at_.Gx ha dC) (h.at_.Gx hb dC),hs,h.bx,t.below h.below h.below.size p1 p2,h.err,h.eg⟩,bT.rP t ha hb⟩
end
def Jp(W:aah)(xb k:Nat)(d:DS)(w:aah):Prop:=∃vb sb db v,dW W xb vb sb db k d.r d.z v w
def ala(a:BM)(e:akB):Prop:=(a.2.2=0/\e=.returned (.string a.2.1))\/(a.2.2≠0/\e=.panicked (Kh a.2.2))
def eL(W w:aah)(xb k:Nat)(a:BM)(e:akB)(w':aah):Prop:=ala a e/\Jp W xb (k+1) a.1 w'/\bT w w'
section
variable{W w w' w'':aah}{xb vb sb db k:Nat}{r:Ru}{z:SS}{v:aai}
theorem dW.cu(h:dW W xb vb sb db k r z v w)(hb:Below w.heap.size w w')(hc:c≠0){a:ByteArray}:eL W w xb k (⟨r,z⟩,a,c) (.panicked (Kh c)) w':=⟨.inr ⟨hc,rfl⟩,⟨vb,sb,db,v,(h.keep hb).later⟩,bT.aG hb⟩
theorem dW.told(h:dW W xb vb sb db k r z v w)(hb:Below w.heap.size w w')(a:ByteArray):eL W w xb k (⟨r,z⟩,a,0) (.returned (.string a)) w':=⟨.inl ⟨rfl,rfl⟩,⟨vb,sb,db,v,(h.keep hb).later⟩,bT.aG hb⟩
end
def iG(w:aah)(g off:Nat)(L:List BL):Prop:=(∃o,w.heap[g]?=some o/\Sl o=false)/\∀j x,L[j]?=some x->w.cell? ⟨g,off+j,none⟩=some (.string (aq x))
theorem iG.stay{w w':aah}{L:List BL}(h:iG w g off L)(hs:bT w w'):iG w' g off L:=by
 obtain⟨⟨o,ho,hm⟩,hc⟩:=h;have hb:=hs.block g o ho hm;refine⟨⟨o,hb,hm⟩,fun j x hx=>?_⟩;rw[World.cell?_of_block (w:=w) (hb.T ho.symm)];exact hc j x hx
theorem iG.keep{w w':aah}{L:List BL}(h:iG w g off L)(hb:Below w.heap.size w w'):iG w' g off L:=h.stay (bT.aG hb)
theorem iG.drew{w:aah}{L:List BL}(h:iG w g off L):iG w.drew g off L:=h
theorem iG.one{w:aah}(h:iG w g off [a]):w.cell? ⟨g,off,none⟩=some (.string (aq a)):=h.2 0 a rfl
theorem iG.ao9{w:aah}(h:iG w g off [a,b]):w.cell? ⟨g,off,none⟩=some (.string (aq a))/\w.cell? ⟨g,off+1,none⟩=some (.string (aq b)):=⟨h.2 0 a rfl,h.2 1 b rfl⟩
theorem iG.three{w:aah}{c:BL}(h:iG w g off [a,b,c]):w.cell? ⟨g,off,none⟩=some (.string (aq a))/\w.cell? ⟨g,off+1,none⟩=some (.string (aq b))/\w.cell? ⟨g,off+2,none⟩=some (.string (aq c)):=⟨h.2 0 a rfl,h.2 1 b rfl,h.2 2 c rfl⟩
theorem iG.four{w:aah}{c e:BL}(h:iG w g off [a,b,c,e]):w.cell? ⟨g,off,none⟩=some (.string (aq a))/\w.cell? ⟨g,off+1,none⟩=some (.string (aq b))/\w.cell? ⟨g,off+2,none⟩=some (.string (aq c))/\w.cell? ⟨g,off+3,none⟩=some (.string (aq e)):=⟨h.2 0 a rfl,h.2 1 b rfl,h.2 2 c rfl,h.2 3 e rfl⟩
theorem dW.call{W w:aah}{xb vb sb db k:Nat}{r:Ru}{z:SS}{v:aai}(h:dW W xb vb sb db k r z v w):w.cell? ⟨xb,2,none⟩=some (.pointer (some ⟨vb,0,none⟩)):=h.seven.2.2.1
theorem uC(b:ByteArray){n:Nat}(h:b.size<=n):(ef b).size<=n:=by
 unfold ef;split
 ·exact Nat.zero_le _
 ·exact h
theorem SX.Xh{B sb db k xb:Nat}{z:SS}{v:aai}{w w':aah}(h:SX B sb db k z v w)(hg:w.grownBy w' (some xb))(hb:aC w xb 51 cs)(hB:B<=xb):SX B sb db k z v w':=by
 obtain⟨D,n,f,x,h1,h2,h3⟩:=h;have zv:Below B w w':=bR.grown hg h1.nH (fun i hi=>by cases hi;exact hB);have env:=h1.env.keep zv;have dk:=h1.fM.grown hg (by simpa using aC.Gx h1.fM.at_ hb dC);exact⟨D,n,f,x,⟨env,aC.grown h1.st hg (by simpa using aC.Gx h1.st hb dC),dk,h1.row.kept hg (h1.row.apart hb dC),h1.bs,h1.bd⟩,⟨env,dk,h1.bd,aiC h1.nH zv.size,h2.fits,h2.fit,h2.inv⟩,h3⟩
theorem SW.Xh{B vb sb db k xb:Nat}{r:Ru}{z:SS}{v:aai}{w w':aah}(h:SW B vb sb db k r z v w)(hg:w.grownBy w' (some xb))(hb:aC w xb 51 cs)(hB:B<=xb):SW B vb sb db k r z v w':=
 ⟨h.at_.grown hg (by simpa using h.at_.Gx hb dC),h.sx.Xh hg hb hB,h.right,h.bv⟩
section
variable{W w:aah}{xb vb sb db k:Nat}{r:Ru}{z:SS}{v:aai}
theorem Rw(h:dW W xb vb sb db k r z v w)(hk:k<1000000)(g off c:Nat)(L:List BL)(hw:iG w g off L)(hl:∀x∈L,x.length<=5000):
  ach prog 72 #[.pointer (some ⟨xb,0,none⟩),.slice (some ⟨g,off,none⟩) L.length c] w (eL W w xb k (uA ⟨r,z⟩ L)):=by
 obtain⟨⟩:=lB hk hw hl
 by_cases hL:L.length=0
 ·obtain rfl:L=[]:=List.eq_nil_of_length_eq_zero hL
  clear hL hw hl;simp only[ajE];have H:=zH h;have hD:uA ⟨r,z⟩ []=(⟨r,QI z⟩,aq oD,0):=rfl;rw[hD];have HC:=zH (Yk h.sw.sx (-1));obtain⟨c0,c1,c2,c3,c4,c5,c6,aE⟩:=h.seven;clear h hk hD
  go_in
  go_wp2_with fail;refine(bu _ 0 c w).mono ?_;rintro e w0 ⟨rfl,rfl⟩;go_wp2_with fail;refine HC.O.mono ?_;rintro x' w1 ⟨rfl,hs,hg⟩;dsimp only;have h1:=H.O.two (fS.rP hg) (H.O.sw.two (fS.rP hg) hs);have HD1:=zH h1.1;have ahe:=zH h1.2;clear hs hg h1 HC c0 c1 c2 c3 c4 c5 c6 aE;obtain⟨c0,c1,c2,c3,c4,c5,c6,aE⟩:=HD1.O.seven;have HO:=zH (abT HD1.O.sw.sx);unfold ack at HO;go_wp2_with fail;refine HO.O.mono ?_;rintro x' w2 ⟨BB,v',rfl,vV, -,Ax,hb⟩;dsimp only;have HX2:=zH (show SX W.heap.size BB db k (QI z) v' w2 from vV.free rfl z.left);have MW:=zH (HD1.O.keep hb);have ahf:=zH (ahe.O.T (bT.aG hb));clear vV Ax hb HO HD1 ahe c0 c1 c2 c3 c4 c5 c6 aE;go_wp2_with fail;refine(cE _).mono ?_;rintro x' w4 ⟨rfl,rfl⟩;have mY:=MW.O.at_.frozen;obtain⟨c0,c1,c2,c3,c4,c5,c6,aE⟩:=MW.O.seven;have at3:aC (w2.setCell ⟨xb,1,none⟩ (.pointer (some ⟨BB,0,none⟩))) xb 51 (Vn db BB vb r):=MW.O.at_.dD 1 (.pointer (some ⟨BB,0,none⟩)) (cs':=Vn db BB vb r) rfl;have g3:w2.grownBy (w2.setCell ⟨xb,1,none⟩ (.pointer (some ⟨BB,0,none⟩))) (some xb):=cC w2 xb ⟨xb,1,none⟩ rfl (.pointer (some ⟨BB,0,none⟩));have HX3:=zH (HX2.O.Xh g3 MW.O.at_ MW.O.bx);have ahg:=zH (ahf.O.T (bT.rO g3 MW.O.at_ dC));have jb:=zH (MW.O.below.grown g3 MW.O.below.size (fun i hi=>by cases hi;exact MW.O.bx));have ag7:=zH at3;clear at3 g3 HX2 ahf;go_wp2_with fail;generalize w2.setCell ⟨xb,1,none⟩ (.pointer (some ⟨BB,0,none⟩))=w3 at*;have HN:=zH (jO HX3.O H.O.sw.right);refine HN.O.mono ?_;rintro x' w4 ⟨Q2,rfl,IF,NX,hb⟩;dsimp only;have RO:=ag7.O.aj hb;have hz4:=RO.frozen;have y2:=RO.cell 2;have at5:aC (w4.setCell ⟨xb,2,none⟩ (.pointer (some ⟨Q2,0,none⟩))) xb 51 (Vn db BB Q2 r):=RO.dD 2 (.pointer (some ⟨Q2,0,none⟩)) (cs':=Vn db BB Q2 r) rfl;have g5:w4.grownBy (w4.setCell ⟨xb,2,none⟩ (.pointer (some ⟨Q2,0,none⟩))) (some xb):=cC w4 xb ⟨xb,2,none⟩ rfl (.pointer (some ⟨Q2,0,none⟩))
  have HE:=zH (show eL W w xb k (⟨r,QI z⟩,aq oD,0) (.returned (.string (aq oD))) (w4.setCell ⟨xb,2,none⟩ (.pointer (some ⟨Q2,0,none⟩)))from
   ⟨.inl ⟨rfl,rfl⟩,⟨Q2,BB,db,v',dW.later ⟨at5,IF.Xh g5 RO MW.O.bx,MW.O.bx,(below_2 jb.O hb).grown g5 (below_2 jb.O hb).size (fun i hi=>by cases hi;exact MW.O.bx),MW.O.err,MW.O.eg⟩⟩,(ahg.O.T (bT.aG hb)).T (bT.rO g5 RO dC)⟩)
  clear IF NX hb RO at5 g5 HX3 ahg jb ag7 HN MW mY c0 c1 c2 c3 c4 c5 c6 aE;go_wp2_with fail;refine(cE _).mono ?_;rintro x' w6 ⟨rfl,rfl⟩;go_wp2_with fail;go_ret;exact HE.O
 ·have cT:uA ⟨r,z⟩ L=bad ⟨r,z⟩ 3:=by
   unfold uA;split;(·exact absurd rfl hL)
   ·rfl
  rw[cT];have HM:=zH (dS (some ⟨g,off,none⟩) L.length c 0 w h.et (by simpa using(show(L.length:Int)≠0 by omega)));have H:=zH h;clear h hw hl hL cT hk;unfold dF at HM
  go_in
  go_wp2_with fail;refine HM.O.mono ?_;rintro e w0 ⟨rfl,hb⟩;dsimp only;exact⟨rfl,H.O.cu hb dC⟩
end
def Cp(x:BL):Int:=
 if x=mg then(80:Nat)else if x=qo then(79:Nat)else if x=wm then(78:Nat)else if x=wj then(77:Nat)else if x=ql then(76:Nat)else if x=we then(75:Nat)else if x=qR then(74:Nat)else if x=lY then(73:Nat)else if x=oD then(72:Nat)else if x=uu then(11:Nat)else if x=vX then(71:Nat)else if x=E7 then(70:Nat)else if x=qa then(69:Nat)else if x=qH then(68:Nat)else if x=vT then(67:Nat)else if x=pW then(66:Nat)else if x=g_ then(65:Nat)else if x=wG then(64:Nat)else -1
def Zd(xb:Nat)(x:BL)(w:aah)(e:akB)(w':aah):Prop:=
 Below w.heap.size w w'/\((Cp x= -1/\e=.returned .nilFunc)\/∃m:Nat,Cp x=m/\e=.returned (.func (.func m) #[.pointer (some ⟨xb,0,none⟩)] #[]))
theorem Rq(xb:Nat)(x:BL)(w:aah)(hx:x.length<=5000):
  ach prog 47 #[.pointer (some ⟨xb,0,none⟩),.string (aq x)] w (Zd xb x w):=by
 have m0:xB prog 9 xb (w.alloc (.map #[] 0)) w.heap.size 0 (fun _=> -1):=xB.made w;have b0:Below w.heap.size w (w.alloc (.map #[] 0)):=bR.alloc nR _;obtain⟨w1,e1,m1,g1⟩:=m0.put (T:=132) (E:=52) al9 underlying9 mL wG dC 64;have b1:=b0.grown g1 b0.size (fun i hi=>by cases hi;exact ahP _);clear g1 b0 m0;obtain⟨w2,e2,m2,g2⟩:=m1.put (T:=132) (E:=52) al9 underlying9 mL g_ dC 65;have b2:=b1.grown g2 b1.size (fun i hi=>by cases hi;exact ahP _);clear g2 b1 m1;obtain⟨w3,e3,m3,g3⟩:=m2.put (T:=132) (E:=52) al9 underlying9 mL pW dC 66;have b3:=b2.grown g3 b2.size (fun i hi=>by cases hi;exact ahP _);clear g3 b2 m2;obtain⟨w4,e4,m4,g4⟩:=m3.put (T:=132) (E:=52) al9 underlying9 mL vT dC 67;have b4:=b3.grown g4 b3.size (fun i hi=>by cases hi;exact ahP _);clear g4 b3 m3;obtain⟨w5,e5,m5,g5⟩:=m4.put (T:=132) (E:=52) al9 underlying9 mL qH dC 68;have b5:=b4.grown g5 b4.size (fun i hi=>by cases hi;exact ahP _);clear g5 b4 m4;obtain⟨w6,e6,m6,g6⟩:=m5.put (T:=132) (E:=52) al9 underlying9 mL qa dC 69;have b6:=b5.grown g6 b5.size (fun i hi=>by cases hi;exact ahP _);clear g6 b5 m5;obtain⟨w7,e7,m7,g7⟩:=m6.put (T:=132) (E:=52) al9 underlying9 mL E7 dC 70;have b7:=b6.grown g7 b6.size (fun i hi=>by cases hi;exact ahP _);clear g7 b6 m6;obtain⟨w8,e8,m8,g8⟩:=m7.put (T:=132) (E:=52) al9 underlying9 mL vX dC 71;have b8:=b7.grown g8 b7.size (fun i hi=>by cases hi;exact ahP _);clear g8 b7 m7;obtain⟨w9,e9,m9,g9⟩:=m8.put (T:=132) (E:=52) al9 underlying9 mL uu dC 11;have b9:=b8.grown g9 b8.size (fun i hi=>by cases hi;exact ahP _);clear g9 b8 m8;obtain⟨w10,Uj,m10,g10⟩:=m9.put (T:=132) (E:=52) al9 underlying9 mL oD dC 72;have b10:=b9.grown g10 b9.size (fun i hi=>by cases hi;exact ahP _);clear g10 b9 m9;obtain⟨w11,Uk,m11,g11⟩:=m10.put (T:=132) (E:=52) al9 underlying9 mL lY dC 73;have b11:=b10.grown g11 b10.size (fun i hi=>by cases hi;exact ahP _);clear g11 b10 m10;obtain⟨w12,e12,m12,g12⟩:=m11.put (T:=132) (E:=52) al9 underlying9 mL qR dC 74;have b12:=b11.grown g12 b11.size (fun i hi=>by cases hi;exact ahP _);clear g12 b11 m11;obtain⟨w13,e13,m13,g13⟩:=m12.put (T:=132) (E:=52) al9 underlying9 mL we dC 75;have b13:=b12.grown g13 b12.size (fun i hi=>by cases hi;exact ahP _);clear g13 b12 m12;obtain⟨w14,e14,m14,g14⟩:=m13.put (T:=132) (E:=52) al9 underlying9 mL ql dC 76;have b14:=b13.grown g14 b13.size (fun i hi=>by cases hi;exact ahP _);clear g14 b13 m13;obtain⟨w15,e15,m15,g15⟩:=m14.put (T:=132) (E:=52) al9 underlying9 mL wj dC 77;have b15:=b14.grown g15 b14.size (fun i hi=>by cases hi;exact ahP _);clear g15 b14 m14;obtain⟨w16,e16,m16,g16⟩:=m15.put (T:=132) (E:=52) al9 underlying9 mL wm dC 78;have b16:=b15.grown g16 b15.size (fun i hi=>by cases hi;exact ahP _);clear g16 b15 m15;obtain⟨w17,e17,m17,g17⟩:=m16.put (T:=132) (E:=52) al9 underlying9 mL qo dC 79;have b17:=b16.grown g17 b16.size (fun i hi=>by cases hi;exact ahP _);clear g17 b16 m16;obtain⟨w18,e18,m18,g18⟩:=m17.put (T:=132) (E:=52) al9 underlying9 mL mg dC 80;have b18:=b17.grown g18 b17.size (fun i hi=>by cases hi;exact ahP _);clear g18 b17 m17;obtain⟨v,hl,hv⟩:=m18.look (T:=132) (E:=52) al9 underlying9 (zeroValue52 _) x mL;have HV:=zH hv;have HB:=zH b18;clear hv b18 m18 hx;have hmm:= @run_makeMap prog;have hmf:∀(fn:Fn) (first cap:Array aai) (w:aah),(Instr.makeFunc fn first cap).run prog w=.ok (.func fn first cap) w:=fun _ _ _ _=>rfl
 rw[show aq wG=⟨#[99,117,116]⟩from rfl]at e1;rw[show aq g_=⟨#[102,97,109,105,108,105,101,115]⟩from rfl]at e2;rw[show aq pW=⟨#[103,114,97,110,116]⟩from rfl]at e3;rw[show aq vT=⟨#[104,101,108,112]⟩from rfl]at e4;rw[show aq qH=⟨#[107,105,108,108]⟩from rfl]at e5;rw[show aq qa=⟨#[108,101,97,115,116]⟩from rfl]at e6;rw[show aq E7=⟨#[108,111,103]⟩from rfl]at e7;rw[show aq vX=⟨#[109,105,110,116]⟩from rfl]at e8;rw[show aq uu=⟨#[110,101,119]⟩from rfl]at e9;rw[show aq oD=⟨#[111,112,101,110]⟩from rfl]at Uj;rw[show aq lY=⟨#[114,111,116,97,116,101]⟩from rfl]at Uk;rw[show aq qR=⟨#[115,97,118,101]⟩from rfl]at e12;rw[show aq we=⟨#[115,104,111,119]⟩from rfl]at e13;rw[show aq ql=⟨#[115,119,101,101,112]⟩from rfl]at e14;rw[show aq wj=⟨#[116,97,103]⟩from rfl]at e15;rw[show aq wm=⟨#[116,105,99,107]⟩from rfl]at e16;rw[show aq qo=⟨#[116,111,107,101,110]⟩from rfl]at e17;rw[show aq mg=⟨#[119,114,105,116,101,115]⟩from rfl]at e18;generalize aq x=nm at*
 go_in
 go_wp2_with fail;go_ret;refine⟨HB.O,?_⟩;rcases HV.O with⟨rfl,h⟩|⟨m,rfl,h⟩
 ·exact .inl ⟨h,rfl⟩
 ·exact .inr ⟨m,h,rfl⟩
def vS(s:St):List BL:=(gb [s.clock,s.next]).data.toList::s.ax.map fun f=>(tW f).data.toList
theorem RL(L:List az)(o:ByteArray):(L.foldl (fun o f=>o++(⟨#[44,32]⟩++tW f)) o).data.toList=o.data.toList++amb [44,32] (L.map fun f=>(tW f).data.toList):=by
 induction L generalizing o with
 |nil=>simp[amb]
 |cons f L ih=>
  rw[List.foldl_cons,ih,al',ama,al',ama];simp[amb]
theorem Ge(s:St):aq (agi (vS s) [44,32])=Ks s:=by
 unfold vS Ks;rw[Lib.join_cons,<-RL,gC]
theorem Kt{s:St}(h:Fit s):(agi (vS s) [44,32]).length<=100000:=by
 have hj:=fU (L:=[s.clock,s.next]) sP (by
  have h1:=uz h.clock;have h2:=cK.1 h.next;intro x hx;simp only[List.mem_cons,List.not_mem_nil,or_false]at hx;rcases hx with rfl|rfl
  ·exact h1
  ·exact⟨by omega,by omega⟩)
 have key:∀L:List az,(∀f∈L,pU f=true)->amc (L.map fun f=>(tW f).data.toList)<=4000*L.length:=by
  intro L
  induction L with
  |nil=>intro _;simp[amc]
  |cons f L ih=>
   (intro hf;have h1:=ih fun g hg=>hf g (List.mem_cons_of_mem _ hg));have h2:=zh (rz.of (hf f sP));have h3:(tW f).data.toList.length=(tW f).size:=size_data _;simp only[amc,aix,aiS,agj]at h1 ⊢;omega
 have h1:=key s.ax h.ax;have h2:=h.len;have h3:(gb [s.clock,s.next]).data.toList.length=(gb [s.clock,s.next]).size:=size_data _;unfold vS;rw[Lib.join_length];simp only[amc,aix,aiS,ads,agj,ajE]at h1 ⊢;omega
theorem Sd(sep:ByteArray){B:Nat}{v:aai}{L:List BL}{w:aah}(h:Row w B v L)(hL:L.length<=1000000)(hlen:(agi L sep.data.toList).length<=1000000):
  ach prog 104 #[v,.string sep] w fun e w'=>e=.returned (.string (aq (agi L sep.data.toList)))/\Below w.heap.size w w':=by
 obtain⟨g,cap,rfl,hg,aE,hn,hm,hH⟩:=h.parts
 have hd:(L.map aq).map (·.data.toList)=L:=by
  rw[List.map_map];exact(List.map_congr_left fun x _=>an x).T (List.map_id L)
 have:=sX g 0 cap (L.map aq) sep w (fun j x hx=>by
  rw[List.getElem?_map]at hx;rcases e:L[j]? with _|y
  ·rw[e]at hx;cases hx
  ·rw[e]at hx
   have hj:=(ag6.1 e).1;have hc:=(hH j (by simpa using hj)).1;rw[hc];simp at hx;subst hx;simp[encStr,aq,List.getElem!_eq_getElem?_getD,e]) aE (by rw[ads];omega) (by rw[ads];omega) (by rw[hd];omega)
 rw[ads,hd]at this;exact this
structure FL(W w0:aah)(fv:aai)(L:List az)(T:List BL)(k:Nat)(O:aai)(w:aah):Prop where
 below:Below W.heap.size W w
 since:Below w0.heap.size w0 w
 env:Env W.heap.size w
 row:w.ownsRow w0.heap.size 9 1 O (k+1) ((T.take (k+1)).map encStr)
 fr:bz w w0.heap.size fv L
section
variable{W w0 w w':aah}{fv O:aai}{L:List az}{T:List BL}{k:Nat}
theorem FL.keep(h:FL W w0 fv L T k O w)(hb:Below w.heap.size w w'):FL W w0 fv L T k O w':=⟨below_2 h.below hb,below_2 h.since hb,h.env.new h.below.size hb,GD h.row hb,h.fr.below hb⟩
theorem FL.next{y:aai}{w1:aah}{o:Obj}(hB:W.heap.size<=w0.heap.size)(h:FL W w0 fv L T k O w1)(hk:k+1<T.length)(hy:y=encStr (T.getD (k+1) []))(ho:w'.ownsRow w0.heap.size 9 1 v' (k+1+1) ((T.take (k+1)).map encStr++[y]))(hg:(w1.alloc o).grownBy w' O.ownBlock)(hf:bz w' w0.heap.size fv L):FL W w0 fv L T (k+1) v' w':=by
 have b1:Below w0.heap.size w0 (w1.alloc o):=h.since.alloc h.since.size o;have c1:Below W.heap.size W (w1.alloc o):=h.below.alloc h.below.size o;have hr:∀i,O.ownBlock=some i->w0.heap.size<=i:=fun i e=>(h.row.lt i e).1
 have b2:Below w0.heap.size w0 w':=b1.grown hg b1.size hr;have c2:Below W.heap.size W w':=c1.grown hg c1.size fun i e=>aiC hB (hr i e)
 refine⟨c2,b2,h.env.keep ((Below.refl _ _ |>.alloc h.below.size o).grown hg c1.size fun i e=>aiC hB (hr i e)),?_,hf⟩
 have e:(T.take (k+1+1)).map encStr=(T.take (k+1)).map encStr++[y]:=by
  rw[List.take_add_one,ag8 hk,List.map_append,hy];simp[List.getD,hk]
 rw[e];exact ho
end
def ag5(W w0:aah)(fv:aai)(L:List az)(T:List BL)(O i:aai)(wr:aah):Prop:=∃k:Nat,k<=L.length/\i=.int .i64 k/\FL W w0 fv L T k O wr
end Go.Proofs.YtjligkmjlenofaaGreatDoor
