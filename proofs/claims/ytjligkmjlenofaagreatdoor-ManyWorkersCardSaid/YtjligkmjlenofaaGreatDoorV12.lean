/- Part of the proof. -/
import Derived.Test.YtjligkmjlenofaaGreatDoorV11
import Derived.Test.YtjligkmjlenofaaGreatDoorV09
set_option maxHeartbeats 8000000
set_option maxRecDepth 100000
open Go renaming World->aah,Value->aai,Calls->ach,undef->agp,Ending->akB,run_loadVar_row->al1
open Go.Calls renaming quiet_of_same->alY
open Nat renaming le_succ->alZ,le_trans->aiC,zero_le->ahW
open List renaming getElem?_eq_some_iff->ag6,getElem?_eq_getElem->ag8,foldl_append->al0,mem_of_getElem?->ahG,length_append->ag2,take_add_one->ai6,length_cons->agj
open Go.Act renaming put->agu
open Go.World renaming block_lt_of_cell?->acC
open ByteArray renaming empty->akG
open Go.Ending renaming returned->aiD
open Go.RowKit renaming intOf->ahZ
open Go.Result renaming andThen->alj
namespace Go.Proofs.YtjligkmjlenofaaGreatDoor
open Go.Proofs.Tryz
open Go.RowKit Go.Sort
variable{v':aai}{g:Nat}{T:TypeId}{a b id:Int}{A:Act}
def adA(W:aah)(B db:Nat)(D:Dk)(s:St)(n f x:Int)(e:akB)(w':aah):Prop:=
 ∃(sb:Nat) (v:aai),e=.returned (.tuple #[.pointer (some ⟨sb,0,none⟩),.nilIface])/\SD B sb db D s v n f x false w'/\W.heap.size<=sb/\Below W.heap.size W w'
def yg(blk:Nat->BL):Nat->Int×Int×St
 |0=>(0,0,oI)
 |k+1=>js (yg blk k) (jm bt blk k)
theorem SG(blk:Nat->BL):yg blk 2=GI bt blk:=rfl
structure lD(W:aah)(B db:Nat)(D:Dk)(s:St)(v:aai)(n f x:Int)(w:aah):Prop where
 sd:SD B W.heap.size db D s v n f x false w
 below:Below W.heap.size W w
section
variable{W w w':aah}{B db:Nat}{D:Dk}{s:St}{v:aai}{n f x:Int}
theorem lD.keep(h:lD W B db D s v n f x w)(hb:Below w.heap.size w w'):lD W B db D s v n f x w':=⟨h.sd.keep hb,below_2 h.below hb⟩
theorem lD.drew(h:lD W B db D s v n f x w):lD W B db D s v n f x w.drew:=⟨h.sd.drew,bB h.below⟩
theorem lD.start(hE:Env B W)(hd:bK W db D)(hB:B<=db)(hBW:B<=W.heap.size):lD W B db D ⟨0,1,[]⟩ (.slice none 0 0) 0 0 0 (W.alloc (.cells (gh db ⟨0,1,[]⟩ (.slice none 0 0) 0 0 0 false) 109)):=by
 have hb:Below W.heap.size W (W.alloc (.cells (gh db ⟨0,1,[]⟩ (.slice none 0 0) 0 0 0 false) 109)):=bR.alloc nR _;exact⟨⟨hE.new hBW hb,aC.new W _ _,hd.below hb,bz.nil _ _,hBW,hB⟩,hb⟩
theorem lD.afM(h:lD W B db D s v n f x w){s':St}{n' f' x':Int}(hr:bz w B v' s'.ax)(hs:BY w' W.heap.size db s' v' n' f' x' false)(hg:w.grownBy w' (some W.heap.size)):lD W B db D s' v' n' f' x' w':=by
 obtain⟨h1,h2,h3⟩:=h.sd.apart;have hb:=h.below.grown hg h.below.size (fun _ hk=>by cases hk;exact Nat.le_refl _);have hbB:Below B w w':=(Below.refl B w).grown hg h.sd.nH (fun k hk=>by cases hk;exact h.sd.bs);exact⟨⟨h.sd.env.keep hbB,hs,h.sd.fM.grown hg (by simpa using Ne.symm h3),hr.kept hg (hr.apart h.sd.st dC),h.sd.bs,h.sd.bd⟩,hb⟩
theorem lD.next(h:lD W B db D s v n f x w)(x':Int):lD W B db D s v n f x' (w.setCell ⟨W.heap.size,6,none⟩ (.int .i64 x')):=
 h.afM h.sd.row (aC.dD h.sd.st 6 (.int .i64 x') (cs':=gh db s v n f x' false) rfl) (cC w W.heap.size ⟨W.heap.size,6,none⟩ rfl (.int .i64 x'))
theorem lD.state(h:lD W B db D s v n f x w)(s':St)(hr:bz w B v' s'.ax):
  lD W B db D s' v' n f x (((w.setCell ⟨W.heap.size,1,none⟩ (.int .i64 s'.clock)).setCell ⟨W.heap.size,2,none⟩ (.int .i64 s'.next)).setCell ⟨W.heap.size,3,none⟩ v'):=by
 have e1:=aC.dD h.sd.st 1 (.int .i64 s'.clock) (cs':=gh db ⟨s'.clock,s.next,s.ax⟩ v n f x false) rfl;have e2:=aC.dD e1 2 (.int .i64 s'.next) (cs':=gh db ⟨s'.clock,s'.next,s.ax⟩ v n f x false) rfl;have e3:=aC.dD e2 3 v' (cs':=gh db s' v' n f x false) rfl;have g1:=cC w W.heap.size ⟨W.heap.size,1,none⟩ rfl (.int .i64 s'.clock);have g2:=ak g1 (p:=⟨W.heap.size,2,none⟩) (.inl rfl) (.int .i64 s'.next);have g3:=ak g2 (p:=⟨W.heap.size,3,none⟩) (.inl rfl) v';exact h.afM hr e3 g3
theorem lD.numbers(h:lD W B db D s v n f x w)(n' f':Int):lD W B db D s v n' f' x ((w.setCell ⟨W.heap.size,4,none⟩ (.int .i64 n')).setCell ⟨W.heap.size,5,none⟩ (.int .i64 f')):=by
 have e1:=aC.dD h.sd.st 4 (.int .i64 n') (cs':=gh db s v n' f x false) rfl;have e2:=aC.dD e1 5 (.int .i64 f') (cs':=gh db s v n' f' x false) rfl;have g1:=cC w W.heap.size ⟨W.heap.size,4,none⟩ rfl (.int .i64 n');have g2:=ak g1 (p:=⟨W.heap.size,5,none⟩) (.inl rfl) (.int .i64 f');exact h.afM h.sd.row e2 g2
theorem lD.taken(h:lD W B db D s v n f x w)(s':St)(hr:bz w B v' s'.ax)(n' f':Int):
  lD W B db D s' v' n' f' x (((((w.setCell ⟨W.heap.size,4,none⟩ (.int .i64 n')).setCell ⟨W.heap.size,5,none⟩ (.int .i64 f')).setCell ⟨W.heap.size,1,none⟩ (.int .i64 s'.clock)).setCell ⟨W.heap.size,2,none⟩ (.int .i64 s'.next)).setCell ⟨W.heap.size,3,none⟩ v'):=by
 have g1:=cC w W.heap.size ⟨W.heap.size,4,none⟩ rfl (.int .i64 n');have g2:=ak g1 (p:=⟨W.heap.size,5,none⟩) (.inl rfl) (.int .i64 f');exact(h.numbers n' f').state s' (hr.kept g2 (hr.apart h.sd.st dC))
structure OE(W:aah)(B db:Nat)(D:Dk)(s:St)(v:aai)(n f x:Int)(g:Nat)(e:Ev)(w:aah):Prop where
 op:lD W B db D s v n f x w
 ev:aC w g 115 (aN e)
theorem OE.keep{e:Ev}(h:OE W B db D s v n f x g e w)(hb:Below w.heap.size w w'):OE W B db D s v n f x g e w':=⟨h.op.keep hb,h.ev.aj hb⟩
theorem OE.drew{e:Ev}(h:OE W B db D s v n f x g e w):OE W B db D s v n f x g e w.drew:=⟨h.op.drew,h.ev⟩
theorem OE.three{e:Ev}{ck nx:Int}{L:List az}(h:OE W B db D ⟨ck,nx,L⟩ v n f x g e w):w.cell? ⟨W.heap.size,1,none⟩=some (.int .i64 ck)/\w.cell? ⟨W.heap.size,2,none⟩=some (.int .i64 nx)/\w.cell? ⟨W.heap.size,3,none⟩=some v:=⟨aC.cell h.op.sd.st 1,aC.cell h.op.sd.st 2,aC.cell h.op.sd.st 3⟩
end
def OpK(W:aah)(B db:Nat)(D:Dk)(i:aai)(w:aah):Prop:=∃(k:Nat) (v:aai),k<=2/\i=.int .i64 k/\lD W B db D (yg (b_ D) k).2.2 v (yg (b_ D) k).1 (yg (b_ D) k).2.1 0 w
def OpJ(W:aah)(B db:Nat)(D:Dk)(s0:St)(es:List Ev)(n f:Int)(w:aah):Prop:=∃(i:Nat) (v:aai),i<=es.length/\lD W B db D ((es.take i).foldl av s0) v n f (f+i) w
theorem QZ{s0:St}{es:List Ev}(hf:Fit s0)(he:∀e∈es,gG e=true)(hl:es.length<=16):∀i,i<=es.length->ww ((es.take i).foldl av s0)/\((es.take i).foldl av s0).ax.length<=20+i
 |0,_=>by
  have:=hf.len;exact⟨hf.ok,by simpa using this⟩
 |i+1,hi=>by
  obtain⟨h1,h2⟩:=QZ hf he hl i oM;have aE:i<es.length:=by omega
  have e1:es.take (i+1)=es.take i++[es[i]]:=by rw[ai6,ag8 aE];rfl
  rw[e1,al0]
  show ww (av _ es[i])/\(av _ es[i]).ax.length<=_
  have h3:=wB ((es.take i).foldl av s0) es[i];exact⟨AO h1 oM (he _ (List.getElem_mem aE)),by omega⟩
theorem TC(s0:St){es:List Ev}{i:Nat}{e:Ev}(he:es[i]?=some e):(es.take (i+1)).foldl av s0=av ((es.take i).foldl av s0) e:=by
 rw[ai6,he,al0];rfl
theorem O3(B db:Nat)(D:Dk)(W:aah)(hE:Env B W)(hd:bK W db D)(hB:B<=db)(hBW:B<=W.heap.size)(hf:D.fits)(n f x:Int)(s0:St)(es:List Ev)(hi:fK bt (b_ D) n f x s0 es):
  ach prog 37 #[.pointer (some ⟨db,0,none⟩)] W (adA W B db D (es.foldl av s0) n f x):=by
 have H0:=zH (lD.start hE hd hB hBW);have HF:=zH hf;have HI:=zH hi;clear hE hd hf hi;unfold gh at H0;dsimp only at H0
 go_in
 go_wp2_with fail
 go_loopw [19] (fun i wr=>OpK W B db D i wr) (fun i _=>2 - (ahZ i).toNat)
 case atStart=>exact⟨0,_,ahW _,rfl,H0.O⟩
 case round=>
  obtain⟨k,v,hk,rfl,a_⟩:=hrel;obtain⟨va,vc,rfl⟩:=a_.sd.row.slice;have HO:=zH a_;clear a_
  by_cases Gp:k<2
  ·have HL:=zH (O2 B W.heap.size db D _ _ _ _ _ false wr HO.O.sd HF.O k Gp)
   have HBT:Hid (yg (b_ D) (k+1)=js (yg (b_ D) k) (jm bt (b_ D) k)):=zH rfl;generalize jm bt (b_ D) k=o at*;generalize hpk:yg (b_ D) k=pk at*;generalize aiJ:yg (b_ D) (k+1)=pk1 at*;have adq:=zH aiJ;clear hpk aiJ;obtain⟨pn,pf,⟨pc,px,pL⟩⟩:=pk;dsimp only at*;obtain⟨c0,c1,c2,c3,c4,c5,c6,c7,z,aE⟩:=HO.O.sd.cells;go_wp2_with fail;refine HL.O.mono ?_;rintro e w1 ⟨a,b,⟨lc,lx,lL⟩,lv,ok,rfl,hlr,hb,ho⟩;obtain⟨la,aaQ,rfl⟩:=hlr.slice;have Ua:=zH (HO.O.keep hb);have FN:=zH (hlr.mono (B':=B) HO.O.sd.nH);have HA:=zH ((Below.refl w1.heap.size w1).alloc nR (.cells #[.int .i64 lc,.int .i64 lx,.slice la lL.length aaQ] 107));have HT:=zH (aC.new w1 107 #[.int .i64 lc,.int .i64 lx,.slice la lL.length aaQ]);have Ub:=zH (Ua.O.keep HA.O);have MZ:=zH (FN.O.below HA.O);unfold je kY;dsimp only at MZ ⊢;clear hb hlr HL c0 c1 c2 c3 c4 c5 c6 c7 z aE;obtain⟨c0,c1,c2,c3,c4,c5,c6,c7,z,aE⟩:=Ua.O.sd.cells;cases ok
   ·have HB:=zH (show js (pn,pf,⟨pc,px,pL⟩) o=(pn,pf,⟨pc,px,pL⟩)from by
     rcases o with _|t
     ·rfl
     ·obtain⟨h1,_⟩:=ho
      cases h1)
    clear ho;go_wp2_with fail;go_roundw
    case rel=>
     refine⟨k+1,.slice va pL.length vc,by omega,by go_num,?_⟩;rw[adq.O,HBT.O,HB.O];exact Ub.O
    case measure=>simp[ahZ];omega
   ·have HB:=zH (show js (pn,pf,⟨pc,px,pL⟩) o=if a>pn then(a,b,⟨lc,lx,lL⟩)else(pn,pf,⟨pc,px,pL⟩)from by
     (rcases o with _|t);(·cases ho)
     ·obtain⟨_,rfl⟩:=ho
      rfl)
    clear ho;by_cases hgt:a>pn
    ·go_wp2_with fail
     clear c0 c1 c2 c3 c4 c5 c6 c7 z aE;generalize w1.alloc (.cells #[.int .i64 lc,.int .i64 lx,.slice la lL.length aaQ] 107)=w2 at*;generalize w1.heap.size=g1 at*;obtain⟨c0,c1,c2,c3,c4,c5,c6,c7,z,aE⟩:=Ub.O.sd.cells;obtain⟨d0,d1,d2⟩:=oe HT.O;go_region;go_wp2_with fail;go_roundw
     case rel=>
      refine⟨k+1,.slice la lL.length aaQ,by omega,by go_num,?_⟩;rw[adq.O,HBT.O,HB.O,if_pos hgt];exact(Ub.O.taken ⟨lc,lx,lL⟩ MZ.O a b).drew
     case measure=>simp[ahZ];omega
    ·go_wp2_with fail
     go_roundw
     case rel=>
      refine⟨k+1,.slice va pL.length vc,by omega,by go_num,?_⟩;rw[adq.O,HBT.O,HB.O,if_neg hgt];exact Ub.O
     case measure=>simp[ahZ];omega
  ·obtain rfl:k=2:=by omega
   (rw[SG,(HI.O.opened Ac).1]at HO;have HX:=zH (HO.O.next f);obtain⟨JB,JC,sL⟩:=s0;dsimp only at*;obtain⟨c0,c1,c2,c3,c4,c5,c6,c7,z,aE⟩:=HO.O.sd.cells;go_wp2_with fail;clear c0 c1 c2 c3 c4 c5 c6 c7 z aE HO H0;generalize wr.setCell ⟨W.heap.size,6,none⟩ (.int .i64 f)=w5 at*);(go_loopw [11] (fun _ wr=>OpJ W B db D ⟨JB,JC,sL⟩ es n f wr) (fun _ wr=>(f+17 - ahZ ((wr.cell? ⟨W.heap.size,6,none⟩).getD agp)).toNat));case atStart=>exact⟨0,_,ahW _,by simpa using HX.O⟩
   case round=>
    (obtain⟨i,v,hi,a_⟩:=hrel;obtain⟨wa,wc,rfl⟩:=a_.sd.row.slice;have HO:=zH a_;clear a_;have R6:=HI.O.x1;have hxe:=HI.O.xe;have VZ:=HI.O.f0;have aty:=HI.O.len;obtain⟨fR,Y5⟩:=QZ HI.O.fit HI.O.evs HI.O.len i hi;have PG:=zH fR;have HEV:=zH (Mh B W.heap.size db D _ _ n f (f+i) (f+i) false wr HO.O.sd HF.O VZ oM oM oM);clear fR);by_cases hie:i<es.length
    ·obtain⟨e,he⟩:∃e,es[i]?=some e:=⟨_,ag8 hie⟩
     rw[HI.O.acw Ac he]at HEV;have yT:=HI.O.evs e (ahG he);have HNX:=zH (TC ⟨JB,JC,sL⟩ he)
     have HA:Hid (∀(w:aah) (v:aai),bz w B v ((es.take i).foldl av ⟨JB,JC,sL⟩).ax->ach prog 56 #[je ((es.take i).foldl av ⟨JB,JC,sL⟩) v,bH e] w (oZ w (av ((es.take i).foldl av ⟨JB,JC,sL⟩) e).clock (av ((es.take i).foldl av ⟨JB,JC,sL⟩) e).next (av ((es.take i).foldl av ⟨JB,JC,sL⟩) e).ax)):=
      zH fun w v hr=>(Cv _ v _ e w hr PG.O (IS yT) (IT yT)).mono fun _ _ h=>j7 h
     (generalize av ((es.take i).foldl av ⟨JB,JC,sL⟩) e=s2 at*;generalize (es.take i).foldl av ⟨JB,JC,sL⟩=s1 at*;obtain⟨ck1,nx1,L1⟩:=s1;obtain⟨ck2,nx2,L2⟩:=s2;unfold oZ je kY bH aN at HA;clear he yT;obtain⟨kd,⟨fi,cl,su,sc,ge,ma,us,re,de⟩,id,ti⟩:=e;dsimp only at*;obtain⟨c0,c1,c2,c3,c4,c5,c6,c7,z,aE⟩:=HO.O.sd.cells;go_wp2_with fail;refine HEV.O.mono ?_;rintro r w1 ⟨⟨e',b',rfl,rfl,rfl⟩,hb⟩;have Ua:=zH (HO.O.keep hb);have HOE:Hid (OE W B db D ⟨ck1,nx1,L1⟩ (.slice wa L1.length wc) n f (f+i) w1.heap.size ⟨kd,⟨fi,cl,su,sc,ge,ma,us,re,de⟩,id,ti⟩ (w1.alloc (.cells (aN ⟨kd,⟨fi,cl,su,sc,ge,ma,us,re,de⟩,id,ti⟩) 115))):=zH ⟨Ua.O.keep (bR.alloc nR _),aC.new w1 _ _⟩;unfold bH;unfold aN at HOE ⊢;dsimp only at HOE ⊢;clear hb HEV c0 c1 c2 c3 c4 c5 c6 c7 z aE;go_wp2_with fail;generalize w1.alloc (.cells #[.int .i64 kd,.int .i64 fi,.string cl,.string su,.string sc,.int .i64 ge,.int .i64 ma,.int .i64 us,.string re,.bool de,.int .i64 id,.int .i64 ti] 115)=w2 at*;generalize w1.heap.size=g1 at*;refine bC (OE W B db D ⟨ck1,nx1,L1⟩ (.slice wa L1.length wc) n f (f+i) g1 ⟨kd,⟨fi,cl,su,sc,ge,ma,us,re,de⟩,id,ti⟩) [9] kR ?_;have a8:=HOE.O.drew;refine bf 2 0 ?v0 ?hy0 aS ?ajI);(case hy0=>(intro w dm;obtain⟨q1,q2,q3⟩:=dm.three;obtain⟨e0,e1,e2,e3,e4,e5,e6,e7,e8,e9,Uj,Uk⟩:=bL dm.ev;go_simp;(try with_reducible rfl)));simp only[agu];refine bf 2 1 ?v1 ?hy1 aS ?ajJ;(case hy1=>(intro w dm;obtain⟨q1,q2,q3⟩:=dm.three;obtain⟨e0,e1,e2,e3,e4,e5,e6,e7,e8,e9,Uj,Uk⟩:=bL dm.ev;go_simp;(try with_reducible rfl)));simp only[agu];refine bf 2 2 ?v2 ?hy2 aS ?ajL;(case hy2=>(intro w dm;obtain⟨q1,q2,q3⟩:=dm.three;obtain⟨e0,e1,e2,e3,e4,e5,e6,e7,e8,e9,Uj,Uk⟩:=bL dm.ev;go_simp;(try with_reducible rfl)));simp only[agu];refine bf 2 3 ?v3 ?Wv aS ?ajM;(case Wv=>(intro w dm;obtain⟨q1,q2,q3⟩:=dm.three;obtain⟨e0,e1,e2,e3,e4,e5,e6,e7,e8,e9,Uj,Uk⟩:=bL dm.ev;go_simp;(try with_reducible rfl)));simp only[agu];refine bf 2 4 ?v4 ?hy4 aS ?ajN;(case hy4=>(intro w dm;obtain⟨q1,q2,q3⟩:=dm.three;obtain⟨e0,e1,e2,e3,e4,e5,e6,e7,e8,e9,Uj,Uk⟩:=bL dm.ev;go_simp;(try with_reducible rfl)));simp only[agu];refine bf 2 5 ?v5 ?hy5 aS ?aru;(case hy5=>(intro w dm;obtain⟨q1,q2,q3⟩:=dm.three;obtain⟨e0,e1,e2,e3,e4,e5,e6,e7,e8,e9,Uj,Uk⟩:=bL dm.ev;go_simp;(try with_reducible rfl)));(simp only[agu];refine aB 6 ?_;intro K6 hK6;go_simp;refine(HA.O _ _ a8.op.sd.row).mono ?_;rintro r w3 ⟨a1,ac,rfl,jT,hb⟩;have yZ:=a8.keep hb;have E5:=jT.mono (B':=B) a8.op.sd.nH);(try dsimp only);(refine hK6.O _ _ (fun _=>yZ) ?_);(try simp only[agu]);refine aH 2 7 aS ?_;refine aH 2 8 aS ?_;obtain⟨c0,c1,c2,c3,c4,c5,c6,c7,z,aE⟩:=yZ.op.sd.cells;refine aB 9 ?_;intro K9 KE;go_simp;(try dsimp only);refine KE.O _ _ (fun h=>absurd h dC) ?_;refine bJ kR ?_ _;have HN:=zH (yZ.op.state ⟨ck2,nx2,L2⟩ E5);dsimp only at HN;clear a8 yZ HOE Ua c0 c1 c2 c3 c4 c5 c6 c7 z aE jT E5 hb;generalize ((w3.setCell ⟨W.heap.size,1,none⟩ (.int .i64 ck2)).setCell ⟨W.heap.size,2,none⟩ (.int .i64 nx2)).setCell ⟨W.heap.size,3,none⟩ (.slice a1 L2.length ac)=w4 at*;obtain⟨c0,c1,c2,c3,c4,c5,c6,c7,z,aE⟩:=HN.O.sd.cells;have hc6:=HO.O.sd.cells.2.2.2.2.2.2.1;have HZ:=zH (HN.O.next (f+i+1));have hz6:=HZ.O.sd.cells.2.2.2.2.2.2.1;go_wp2_with fail;refine⟨?_,?measure⟩
     ·repeat apply Exists.intro
      refine⟨?rel,rfl⟩
      case rel=>
       (refine⟨i+1,.slice a1 L2.length ac,by omega,?_⟩;rw[HNX.O];have e1:f+((i+1:Nat):Int)=f+i+1:=by omega);rw[e1];exact HZ.O
     case measure=>
      rw[hc6,hz6];simp[ahZ];omega
    ·obtain rfl:i=es.length:=by omega
     (have hex:f+(es.length:Int)=x:=by omega);rw[hex]at HEV HO;rw[HI.O.stop Ac]at HEV;rw[List.take_length]at HO;clear hex hxe;generalize hs1:es.foldl av ⟨JB,JC,sL⟩=s1 at*;obtain⟨ck1,nx1,L1⟩:=s1;obtain⟨c0,c1,c2,c3,c4,c5,c6,c7,z,aE⟩:=HO.O.sd.cells;go_wp2_with fail;refine HEV.O.mono ?_;rintro r w1 ⟨⟨e',b',rfl,rfl⟩,hb⟩;obtain⟨kd,⟨fi,cl,su,sc,ge,ma,us,re,de⟩,id,ti⟩:=e';have Ua:=zH (HO.O.keep hb);have Ub:=zH (Ua.O.keep (bR.alloc nR (.cells (aN ⟨kd,⟨fi,cl,su,sc,ge,ma,us,re,de⟩,id,ti⟩) 115)));unfold bH;unfold aN at Ub ⊢;dsimp only at Ub ⊢;go_wp2_with fail;go_ret2;exact⟨W.heap.size,_,rfl,Ub.O.sd,Nat.le_refl _,Ub.O.below⟩
structure DI(B db:Nat)(D:Dk)(n f x:Int)(s:St)(w:aah):Prop where
 env:Env B w
 fM:bK w db D
 bd:B<=db
 nH:B<=w.heap.size
 fits:D.fits
 fit:Fit s
 inv:∃s0 es,fK bt (b_ D) n f x s0 es/\es.foldl av s0=s
structure SO(B sb db:Nat)(D:Dk)(n f x:Int)(s:St)(v:aai)(w:aah):Prop where
 sd:SD B sb db D s v n f x false w
 di:DI B db D n f x s w
section
variable{B sb db:Nat}{D:Dk}{n f x:Int}{s:St}{v:aai}{w w':aah}
theorem DI.nums(h:DI B db D n f x s w):0<=n/\n<=1000000/\0<=f/\f<=x/\x<=1000000:=by
 obtain⟨s0,es,hi,_⟩:=h.inv;have h1:=hi.n0;have h2:=hi.n1;have h3:=hi.f0;have h4:=hi.x1;have h5:=hi.xe;omega
theorem DI.keep(h:DI B db D n f x s w)(hb:Below w.heap.size w w'):DI B db D n f x s w':=⟨h.env.new h.nH hb,h.fM.below hb,h.bd,aiC h.nH hb.size,h.fits,h.fit,h.inv⟩
theorem DI.drew(h:DI B db D n f x s w):DI B db D n f x s w.drew:=⟨⟨h.env.cq,h.env.iV,h.env.iE,h.env.gt,h.env.gm,h.env.g1,h.env.g2⟩,⟨h.fM.at_,h.fM.len⟩,h.bd,h.nH,h.fits,h.fit,h.inv⟩
theorem SD.di{down:Bool}(h:SD B sb db D s v n f x down w)(h1:D.fits)(h2:Fit s)(h3:∃s0 es,fK bt (b_ D) n f x s0 es/\es.foldl av s0=s):DI B db D n f x s w:=⟨h.env,h.fM,h.bd,h.nH,h1,h2,h3⟩
end
theorem P3{B db:Nat}{D:Dk}{n f x:Int}{s:St}{W:aah}(h:DI B db D n f x s W):
  ach prog 37 #[.pointer (some ⟨db,0,none⟩)] W fun e w'=>∃sb v,e=.returned (.tuple #[.pointer (some ⟨sb,0,none⟩),.nilIface])/\SO B sb db D n f x s v w'/\W.heap.size<=sb/\Below W.heap.size W w':=by
 obtain⟨s0,es,hi,rfl⟩:=h.inv;refine(O3 B db D W h.env h.fM h.bd h.nH h.fits n f x s0 es hi).mono ?_;rintro e w' ⟨sb,v,rfl,oV,Ax,hb⟩;exact⟨sb,v,rfl,⟨oV,oV.di h.fits h.fit ⟨s0,es,hi,rfl⟩⟩,Ax,hb⟩
theorem DI.cut{B db:Nat}{D:Dk}{n f x:Int}{s:St}{w w':aah}(h:DI B db D n f x s w){k:Int}(hd:bK w' db (D.cutAt k))(hg:w.grownBy w' (some db)):DI B db (D.cutAt k) n f x s w':=by
 have hb:Below B w w':=(Below.refl B w).grown hg h.nH (fun j hj=>by cases hj;exact h.bd);exact⟨h.env.keep hb,hd,h.bd,aiC h.nH hb.size,h.fits,h.fit,h.inv⟩
theorem DI.put{B db:Nat}{D:Dk}{n f x:Int}{s:St}{w:aah}(h:DI B db D n f x s w){e:Ev}(he:gG e=true)(hl:(av s e).ax.length<=20)(hx:x - f≠16)(R6:x<1000000):
  (D.put (x % 16).toNat (aq (k_ bt x e))).fits/\Fit (av s e)/\∃s0 es,fK bt (b_ (D.put (x % 16).toNat (aq (k_ bt x e)))) n f (x+1) s0 es/\es.foldl av s0=av s e:=by
 obtain⟨s0,es,hi,rfl⟩:=h.inv;have hxe:=hi.xe;have hle:=hi.len;have VZ:=hi.f0;refine⟨xP h.fits ?_ _,h.fit.apply he hl,s0,es++[e],?_,?_⟩
 ·have h1:=vg he
  have h2:=jL (x:=x) (cK.2 oM);rw[cI];unfold k_;rw[vA,ag2,agj];omega
 ·rw[ve h.fM.len oM,an]
  exact hi.add he oM R6
 ·rw[al0]
  rfl
theorem DI.GQ{B db:Nat}{D D1:Dk}{n f x:Int}{s:St}{w:aah}(h:DI B db D n f x s w)(hn:n<1000000){ok:Bool}(ho:u9 D (aI ((n+1) % 2).toNat) s.ax (aq (lq bt (n+1) x s)) D1 ok):
  D1.fits/\(ok=true->∃s0 es,fK bt (b_ D1) (n+1) x x s0 es/\es.foldl av s0=s)/\(ok=false->∃s0 es,fK bt (b_ D1) n f x s0 es/\es.foldl av s0=s)/\D1.blk.length=90:=by
 obtain⟨yU,_,VZ,hfx,R6⟩:=h.nums;obtain⟨s0,es,hi,rfl⟩:=h.inv;obtain⟨k1,k2,k3⟩:=hi.abw h.fit hn h.fM.len ho;refine⟨?_,fun e=>⟨es.foldl av s0,[],k1 e,rfl⟩,fun e=>⟨s0,es,k2 e,rfl⟩,k3⟩;rcases ho with⟨_,_,rfl⟩|⟨_,m,hm,_,_,rfl⟩
 ·refine xP (zg h.fits h.fit.ax _ nR) ?_ _
  rw[cI];exact(KL h.fit (cK.2 oM) (cK.2 oM)).2
 ·exact zg h.fits h.fit.ax m hm
def Dk.none_:Dk:=⟨List.replicate 90 akG,false,0,0⟩
theorem WW:Tryz.zeroCells84=Dk.none_.cells:=kR
theorem DI.new{B:Nat}{W:aah}(hE:Env B W)(hB:B<=W.heap.size):DI B W.heap.size Dk.none_ 0 0 0 oI (W.alloc (.cells Tryz.zeroCells84 84)):=by
 have hb:Below W.heap.size W (W.alloc (.cells Tryz.zeroCells84 84)):=bR.alloc nR _
 have hz:∀k,Dk.none_.blk.getD k akG=akG:=fun k=>by
  unfold Dk.none_;rw[List.getD_eq_getElem?_getD,List.getElem?_replicate];split<;>rfl
 refine⟨hE.new hB hb,⟨?_,by simp[Dk.none_]⟩,hB,aiC hB hb.size,fun k=>by rw[hz];exact ahW _,Fit.start,oI,[],?_,rfl⟩
 ·rw[WW]
  exact aC.new W _ _
 ·have:b_ Dk.none_=fun _=>[]:=by
   funext k
   unfold b_;rw[hz];rfl
  rw[this];exact RB bt
def SX(B sb db:Nat)(k:Nat)(z:SS)(v:aai)(w:aah):Prop:=
 ∃(D:Dk) (n f x:Int),SD B sb db D z.s v n f x z.down w/\DI B db D n f x z.s w/\DR z D/\z.log=x - f/\n<=k/\x<=k
section
variable{B sb db k:Nat}{z:SS}{v:aai}{w w':aah}
theorem SX.keep(h:SX B sb db k z v w)(hb:Below w.heap.size w w'):SX B sb db k z v w':=by
 obtain⟨D,n,f,x,h1,h2,h3⟩:=h;exact⟨D,n,f,x,h1.keep hb,h2.keep hb,h3⟩
theorem SX.drew(h:SX B sb db k z v w):SX B sb db k z v w.drew:=by
 obtain⟨D,n,f,x,h1,h2,h3⟩:=h;exact⟨D,n,f,x,h1.drew,h2.drew,h3⟩
theorem SX.later(h:SX B sb db k z v w):SX B sb db (k+1) z v w:=by
 obtain⟨D,n,f,x,h1,h2,h3,h4,h5,h6⟩:=h;exact⟨D,n,f,x,h1,h2,h3,h4,by omega,by omega⟩
theorem SX.fit(h:SX B sb db k z v w):Fit z.s:=by
 obtain⟨D,n,f,x,h1,h2,h3⟩:=h;exact h2.fit
theorem SX.env(h:SX B sb db k z v w):Env B w:=by
 obtain⟨D,n,f,x,h1,h2,h3⟩:=h;exact h1.env
theorem SX.places(h:SX B sb db k z v w):B<=sb/\B<=db/\B<=w.heap.size:=by
 obtain⟨D,n,f,x,h1,h2,h3⟩:=h;exact⟨h1.bs,h1.bd,h1.nH⟩
theorem SX.blocks(h:SX B sb db k z v w):(∃cs,aC w sb 109 cs)/\∃cs,aC w db 84 cs:=by
 obtain⟨D,n,f,x,h1,h2,h3⟩:=h;exact⟨⟨_,h1.st⟩,⟨_,h1.fM.at_⟩⟩
theorem SX.ajt(h:SX B sb db k z v w):0<=z.log/\z.log<=k:=by
 obtain⟨D,n,f,x,h1,h2,h3,h4,h5,h6⟩:=h;have:=h2.nums;omega
theorem SX.free(h:SX B sb db k z v w)(ho:z.off=false)(l:Int):SX B sb db k ⟨z.s,z.log,z.writes,z.off,l,z.down⟩ v w:=by
 obtain⟨D,n,f,x,h1,h2,h3,h4⟩:=h;exact⟨D,n,f,x,h1,h2,⟨h3.writes,h3.off,fun hc=>by rw[<-h3.off,ho]at hc;cases hc⟩,h4⟩
end
theorem abk{D:Dk}{n f x:Int}{s:St}(hlen:D.blk.length=90)(ain:D.fits)(ed:Fit s)(hinv:∃s0 es,fK bt (b_ D) n f x s0 es/\es.foldl av s0=s){e:Ev}(he:gG e=true)(hl:(av s e).ax.length<=20)(hx:x - f≠16)(R6:x<1000000):
  (D.put (x % 16).toNat (aq (k_ bt x e))).fits/\Fit (av s e)/\∃s0 es,fK bt (b_ (D.put (x % 16).toNat (aq (k_ bt x e)))) n f (x+1) s0 es/\es.foldl av s0=av s e:=by
 obtain⟨s0,es,hi,rfl⟩:=hinv;have hxe:=hi.xe;have hle:=hi.len;have VZ:=hi.f0;refine⟨xP ain ?_ _,ed.apply he hl,s0,es++[e],?_,?_⟩
 ·have h1:=vg he
  have h2:=jL (x:=x) (cK.2 oM);rw[cI];unfold k_;rw[vA,ag2,agj];omega
 ·rw[ve hlen oM,an]
  exact hi.add he oM R6
 ·rw[al0]
  rfl
theorem dG:cJ 0=.nilIface:=if_pos rfl
theorem aY{n:Int}(h:n≠0):cJ n=.iface 30 (.int .i64 n):=if_neg h
theorem M7(B sb db:Nat)(D:Dk)(s:St)(v:aai)(n f x:Int)(e:Ev)(W:aah)(h:SD B sb db D s v n f x true W):
  ach prog 164 #[.pointer (some ⟨sb,0,none⟩),bH e] W fun r w'=>r=.returned (.iface 30 (.int .i64 6))/\Below W.heap.size W w':=by
 obtain⟨ck,nx,L⟩:=s;obtain⟨kd,⟨i,cl,su,sc,ge,ma,us,re,de⟩,id,ti⟩:=e;have hb:Below W.heap.size W (W.alloc (.cells (aN ⟨kd,⟨i,cl,su,sc,ge,ma,us,re,de⟩,id,ti⟩) 115)):=bR.alloc nR _;obtain⟨c0,c1,c2,c3,c4,c5,c6,c7,hz,aE⟩:=(h.keep hb).cells;have HB:=zH hb;clear h hb;unfold aN at*;unfold bH aN;dsimp only at*
 go_in
 go_wp2_with fail;go_ret;exact⟨rfl,HB.O⟩
theorem LU(B sb db:Nat)(D:Dk)(s:St)(v:aai)(n f x:Int)(W:aah)(h:SD B sb db D s v n f x true W):
  ach prog 115 #[.pointer (some ⟨sb,0,none⟩)] W fun r w'=>r=.returned (.iface 30 (.int .i64 6))/\W=w':=by
 obtain⟨ck,nx,L⟩:=s;obtain⟨c0,c1,c2,c3,c4,c5,c6,c7,hz,aE⟩:=h.cells;clear h
 go_in
 go_wp2_with fail;go_ret;exact⟨rfl,rfl⟩
def BN(W:aah)(B sb db k:Nat)(r:SS×Int)(e:akB)(w':aah):Prop:=
 e=.returned (cJ r.2)/\fS sb db W w'/\∃v',SX B sb db (k+1) r.1 v' w'
theorem abU{B sb db k:Nat}{z:SS}{v:aai}{W:aah}(h:SX B sb db k z v W)(hk:k<1000000):
  ach prog 115 #[.pointer (some ⟨sb,0,none⟩)] W (BN W B sb db k (iL z)):=by
 obtain⟨D,n,f,x,h1,h2,h3,h4,h5,h6⟩:=h;obtain⟨yU,_,VZ,hfx,R6⟩:=h2.nums;rcases hd:z.down with _|_
 ·rw[hd]at h1
  refine(DT B sb db D z.s v n f x W h1 h2.fits h2.fit yU oM oM R6).mono ?_;rintro e w' ⟨ok,D1,Gs,dX,⟨rfl,rfl,oV⟩|⟨rfl,rfl,oV⟩⟩
  ·obtain⟨a,b,_,_⟩:=h2.GQ oM Gs
   obtain⟨hr,hdr⟩:=(h3.save Gs).1 rfl;obtain⟨ks,kl,ko,kd⟩:=mJ (z.s.ax.length+1) z;rw[GP hd hr];refine⟨rfl,dX,v,D1,n+1,x,x,?_,?_,hdr.same rfl rfl rfl,by show(0:Int)=x - x;omega,by omega,by omega⟩
   ·show SD B sb db D1 (eH _ z).s v (n+1) x x (eH _ z).down w'
    rw[ks,kd,hd];exact oV
   ·show DI B db D1 (n+1) x x (eH _ z).s w'
    rw[ks];exact oV.di a h2.fit (b rfl)
  ·obtain⟨a,_,c,_⟩:=h2.GQ oM Gs
   obtain⟨m,hr,hdr⟩:=(h3.save Gs).2 rfl;obtain⟨ks,kl,ko,kd⟩:=mJ m z;rw[LQ hd hr];refine⟨rfl,dX,v,D1,n,f,x,?_,?_,hdr,?_,by omega,by omega⟩
   ·show SD B sb db D1 (eH _ z).s v n f x true w'
    rw[ks];exact oV
   ·show DI B db D1 n f x (eH _ z).s w'
    rw[ks];exact oV.di a h2.fit (c rfl)
   ·show(eH m z).log=x - f
    rw[kl,h4]
 ·have zm:=h1
  rw[hd]at zm;refine(LU B sb db D z.s v n f x W zm).mono ?_;rintro e w' ⟨rfl,rfl⟩;rw[OC hd];exact⟨rfl,fS.refl _ _ _,v,D,n,f,x,h1,h2,h3,h4,by omega,by omega⟩
theorem O6{B sb db k:Nat}{z:SS}{v:aai}{W:aah}(h:SX B sb db k z v W)(hk:k<1000000)(ev:Ev)(hs:ev.bA.short 5000):
  ach prog 164 #[.pointer (some ⟨sb,0,none⟩),bH ev] W (BN W B sb db k (cO z ev)):=by
 obtain⟨D,n,f,x,h1,h2,h3,h4,h5,h6⟩:=h;obtain⟨yU,_,VZ,hfx,R6⟩:=h2.nums;rcases hd:z.down with _|_
 ·have zm:=h1
  rw[hd]at zm;refine(Tu B sb db D z.s v n f x ev W zm hs h2.fits h2.fit yU oM VZ hfx oM).mono ?_;rintro e w' ⟨dX,⟨he,rfl,oV⟩|⟨he,hl,rfl,oV⟩|⟨he,hl,hxf,hr⟩|⟨he,hl,hxf,D1,Gs,hr⟩|⟨he,hl,hxf,D1,Gs,rfl,oV⟩⟩
  ·rw[UN hd he]
   refine⟨rfl,dX,v,D,n,f,x,?_,oV.di h2.fits h2.fit h2.inv,h3,h4,by omega,by omega⟩;rw[hd];exact oV
  ·rw[Q_ hd he hl]
   refine⟨rfl,dX,v,D,n,f,x,?_,oV.di h2.fits h2.fit h2.inv,h3,h4,by omega,by omega⟩;rw[hd];exact oV
  ·rw[UO hd he hl (by rw[h4];exact hxf)]
   rcases hr with⟨ho,rfl,oV⟩|⟨ho,rfl,v',oV⟩
   ·rw[Gu (by rw[h3.Az];exact ho)]
    exact⟨rfl,dX,v,D,n,f,x,oV,oV.di h2.fits h2.fit h2.inv,h3.down,h4,by omega,by omega⟩
   ·rw[KW (by rw[h3.Az];exact ho)]
    obtain⟨a,b,c⟩:=h2.put he hl hxf oM;refine⟨rfl,dX,v',_,n,f,x+1,?_,oV.di a b c,(h3.put _ _).same rfl rfl rfl,?_,by omega,by omega⟩
    ·show SD B sb db _ (av z.s ev) v' n f (x+1) z.down w'
     rw[hd];exact oV
    ·show z.log+1=x+1 - f
     omega
  ·obtain⟨a,b,_,hlen⟩:=h2.GQ oM Gs
   obtain⟨dI,hdr⟩:=(h3.save Gs).1 rfl;obtain⟨ks,kl,ko,kd⟩:=mJ (z.s.ax.length+1) z;have aak:DR (afm (eH (z.s.ax.length+1) z) 0) D1:=hdr.same rfl rfl rfl;rw[FQ hd he hl (by rw[h4];exact hxf),GP hd dI,if_pos rfl];rcases hr with⟨ho,rfl,oV⟩|⟨ho,rfl,v',oV⟩
   ·rw[Gu (by rw[aak.Az];exact ho)]
    refine⟨rfl,dX,v,D1,n+1,x,x,?_,?_,aak.down,by show(0:Int)=x - x;omega,by omega,by omega⟩
    ·show SD B sb db D1 (eH _ z).s v (n+1) x x true w'
     rw[ks];exact oV
    ·show DI B db D1 (n+1) x x (eH _ z).s w'
     rw[ks];exact oV.di a h2.fit (b rfl)
   ·rw[KW (by rw[aak.Az];exact ho)]
    (obtain⟨a',b',c'⟩:=abk hlen a h2.fit (b rfl) he hl oM oM;refine⟨rfl,dX,v',_,n+1,x,x+1,?_,oV.di a' b' c',(aak.put _ _).same rfl rfl rfl,by show(0:Int)+1=x+1 - x;omega,by omega,by omega⟩);(show SD B sb db _ (av z.s ev) v' (n+1) x (x+1) (eH _ z).down w');rw[kd,hd];exact oV
  ·obtain⟨a,_,c,_⟩:=h2.GQ oM Gs
   obtain⟨m,dI,hdr⟩:=(h3.save Gs).2 rfl;obtain⟨ks,kl,ko,kd⟩:=mJ m z;rw[FQ hd he hl (by rw[h4];exact hxf),LQ hd dI,if_neg (show ¬ (14:Int)=0 by decide)];refine⟨rfl,dX,v,D1,n,f,x,?_,?_,hdr,?_,by omega,by omega⟩
   ·show SD B sb db D1 (eH _ z).s v n f x true w'
    rw[ks];exact oV
   ·show DI B db D1 n f x (eH _ z).s w'
    rw[ks];exact oV.di a h2.fit (c rfl)
   ·show(eH m z).log=x - f
    rw[kl,h4]
 ·have zm:=h1
  rw[hd]at zm;refine(M7 B sb db D z.s v n f x ev W zm).mono ?_;rintro e w' ⟨rfl,hb⟩;rw[Q9 hd];exact⟨rfl,fS.aG hb,v,D,n,f,x,h1.keep hb,h2.keep hb,h3,h4,by omega,by omega⟩
theorem Yk{B sb db k:Nat}{z:SS}{v:aai}{W:aah}(h:SX B sb db k z v W)(c:Int):
  ach prog 100 #[.pointer (some ⟨db,0,none⟩),.int .i64 c] W fun e w'=>e=.returned (.tuple #[])/\SX B sb db k (Ve z c) v w'/\W.grownBy w' (some db):=by
 obtain⟨D,n,f,x,h1,h2,h3,h4,h5,h6⟩:=h;refine(Vm db D c W h1.fM).mono ?_;rintro e w' ⟨rfl,hd,hg⟩;exact⟨rfl,⟨_,n,f,x,h1.wrote hd hg,h2.cut hd hg,h3.cutAt c,h4,h5,h6⟩,hg⟩
def upS(z:SS):SS:=⟨z.s,z.log,z.writes,z.off,z.left,false⟩
def ack(W:aah)(B sb db k:Nat)(z:SS)(v:aai)(e:akB)(w':aah):Prop:=
 ∃BB v',e=.returned (.tuple #[.pointer (some ⟨BB,0,none⟩),.nilIface])/\SX B BB db k (upS z) v' w'/\SX B sb db k z v w'/\W.heap.size<=BB/\Below W.heap.size W w'
theorem abT{B sb db k:Nat}{z:SS}{v:aai}{W:aah}(h:SX B sb db k z v W):
  ach prog 37 #[.pointer (some ⟨db,0,none⟩)] W (ack W B sb db k z v):=by
 have h0:=h;obtain⟨D,n,f,x,h1,h2,h3,h4,h5,h6⟩:=h;refine(P3 h2).mono ?_;rintro e w' ⟨BB,v',rfl,Gs,Ax,hb⟩;exact⟨BB,v',rfl,⟨D,n,f,x,Gs.sd,Gs.di,h3.same rfl rfl rfl,h4,h5,h6⟩,h0.keep hb,Ax,hb⟩
theorem uR{B db:Nat}{W:aah}(h:DI B db Dk.none_ 0 0 0 oI W):
  ach prog 37 #[.pointer (some ⟨db,0,none⟩)] W fun e w'=>∃sb v,e=.returned (.tuple #[.pointer (some ⟨sb,0,none⟩),.nilIface])/\SX B sb db 0 Og v w'/\W.heap.size<=sb/\Below W.heap.size W w':=by
 refine(P3 h).mono ?_;rintro e w' ⟨sb,v,rfl,Gs,Ax,hb⟩;exact⟨sb,v,rfl,⟨Dk.none_,0,0,0,Gs.sd,Gs.di,⟨rfl,rfl,fun h=>by cases h⟩,rfl,Int.le_refl _,Int.le_refl _⟩,Ax,hb⟩
theorem kQ{B sb db k:Nat}{z:SS}{v:aai}{W:aah}(h:SX B sb db k z v W):
  ach prog 149 #[.pointer (some ⟨sb,0,none⟩)] W (fJ W z.s):=by
 obtain⟨D,n,f,x,h1,h2,h3⟩:=h;exact Mi B sb db z.s v n f x z.down W h1.st h1.row (by have:=h2.fit.len;omega)
theorem af1{B sb db k:Nat}{z:SS}{v:aai}{W:aah}(h:SX B sb db k z v W):
  ach prog 110 #[.pointer (some ⟨sb,0,none⟩)] W fun e w'=>e=.returned (.int .i64 z.log)/\Below W.heap.size W w':=by
 obtain⟨D,n,f,x,h1,h2,h3,h4,_⟩:=h;obtain⟨yU,_,VZ,hfx,R6⟩:=h2.nums;rw[h4];exact Hg sb db z.s v n f x z.down W h1.st VZ hfx R6
theorem abS{B sb db k:Nat}{z:SS}{v:aai}{W:aah}(h:SX B sb db k z v W):
  ach prog 112 #[.pointer (some ⟨sb,0,none⟩)] W fun e w'=>e=.returned (.bool z.down)/\Below W.heap.size W w':=by
 obtain⟨D,n,f,x,h1,h2,h3⟩:=h;exact O1 sb db z.s v n f x z.down W h1.st
theorem Ty{B sb db k:Nat}{z:SS}{v:aai}{W:aah}(h:SX B sb db k z v W):
  ach prog 120 #[.pointer (some ⟨db,0,none⟩)] W fun e w'=>e=.returned (.int .i64 z.writes)/\W=w':=by
 obtain⟨D,n,f,x,h1,h2,h3,h4,_⟩:=h;rw[h3.writes];exact Ke db D W h1.fM
def ao6(sb:Nat)(r:Ru):Array aai:=#[.pointer (some ⟨sb,0,none⟩),.int .i64 r.key,.int .i64 r.idle,.int .i64 r.oA,.int .i64 r.access]
structure SW(B vb sb db k:Nat)(r:Ru)(z:SS)(v:aai)(w:aah):Prop where
 at_:aC w vb 122 (ao6 sb r)
 sx:SX B sb db k z v w
 right:LL r=true
 bv:B<=vb
theorem vz{r:Ru}(h:LL r=true):bZ r.key=true/\bZ r.idle=true/\bZ r.oA=true/\bZ r.access=true:=by
 unfold LL at h;simp only[Bool.and_eq_true]at h;exact⟨h.1.1.1,h.1.1.2,h.1.2,h.2⟩
section
variable{B vb sb db k:Nat}{r:Ru}{z:SS}{v:aai}{w w':aah}
theorem SW.keep(h:SW B vb sb db k r z v w)(hb:Below w.heap.size w w'):SW B vb sb db k r z v w':=⟨h.at_.aj hb,h.sx.keep hb,h.right,h.bv⟩
theorem SW.drew(h:SW B vb sb db k r z v w):SW B vb sb db k r z v w.drew:=⟨h.at_,h.sx.drew,h.right,h.bv⟩
theorem SW.later(h:SW B vb sb db k r z v w):SW B vb sb db (k+1) r z v w:=⟨h.at_,h.sx.later,h.right,h.bv⟩
theorem SW.two{k':Nat}{z':SS}(h:SW B vb sb db k r z v w)(t:fS sb db w w')(hs:SX B sb db k' z' v' w'):SW B vb sb db k' r z' v' w':=by
 obtain⟨⟨ca,ha⟩,cb,hb⟩:=h.sx.blocks;exact⟨h.at_.two t (h.at_.Gx ha dC) (h.at_.Gx hb dC),hs,h.right,h.bv⟩
theorem SW.gN(h:SW B vb sb db k r z v w):w.cell? ⟨vb,0,none⟩=some (.pointer (some ⟨sb,0,none⟩))/\w.cell? ⟨vb,1,none⟩=some (.int .i64 r.key)/\w.cell? ⟨vb,2,none⟩=some (.int .i64 r.idle)/\w.cell? ⟨vb,3,none⟩=some (.int .i64 r.oA)/\w.cell? ⟨vb,4,none⟩=some (.int .i64 r.access)/\vb<w.heap.size:=
 ⟨h.at_.cell 0,h.at_.cell 1,h.at_.cell 2,h.at_.cell 3,h.at_.cell 4,h.at_.lt⟩
end
def Q7(W:aah)(B vb sb db k:Nat)(r:Ru)(q:SS×Int)(e:akB)(w':aah):Prop:=
 e=.returned (cJ q.2)/\fS sb db W w'/\∃v',SW B vb sb db (k+1) r q.1 v' w'
theorem pM(a b:Int)(w:aah)(ha:0<=a/\a<=1099511627776)(hb:0<=b/\b<=1099511627776):ach prog 158 #[.int .i64 a,.int .i64 b] w fun e w'=>e=.returned (.int .i64 (iD a b))/\w=w':=by
 obtain⟨a0,a1⟩:=ha;obtain⟨b0,b1⟩:=hb;unfold iD
 by_cases h:a+b>1099511627776
 ·rw[if_pos h]
  go_in
  go_wp2_with fail;go_ret;refine⟨?_,rfl⟩
  show aiD (Value.int _ _)=_
  congr 2
  omega
 ·rw[if_neg h]
  go_in
  go_wp2_with fail;go_ret;refine⟨?_,rfl⟩
  show aiD (Value.int _ _)=_
  congr 2
  omega
def FB(vb sb fb:Nat)(i:Int)(cl su sc:ByteArray)(ge ma us:Int)(re:ByteArray)(de:Bool)(w:aah):Prop:=
 w.cell? ⟨vb,0,none⟩=some (.pointer (some ⟨sb,0,none⟩))/\w.cell? ⟨fb,0,none⟩=some (.int .i64 i)/\w.cell? ⟨fb,1,none⟩=some (.string cl)/\w.cell? ⟨fb,2,none⟩=some (.string su)/\w.cell? ⟨fb,3,none⟩=some (.string sc)/\w.cell? ⟨fb,4,none⟩=some (.int .i64 ge)/\
  w.cell? ⟨fb,5,none⟩=some (.int .i64 ma)/\w.cell? ⟨fb,6,none⟩=some (.int .i64 us)/\w.cell? ⟨fb,7,none⟩=some (.string re)/\w.cell? ⟨fb,8,none⟩=some (.bool de)
theorem FB.of{vb sb fb:Nat}{i:Int}{cl su sc:ByteArray}{ge ma us:Int}{re:ByteArray}{de:Bool}{w:aah}(h:w.cell? ⟨vb,0,none⟩=some (.pointer (some ⟨sb,0,none⟩)))(hb:aC w fb T (au ⟨i,cl,su,sc,ge,ma,us,re,de⟩)):FB vb sb fb i cl su sc ge ma us re de w:=
 ⟨h,hb.cell 0,hb.cell 1,hb.cell 2,hb.cell 3,hb.cell 4,hb.cell 5,hb.cell 6,hb.cell 7,hb.cell 8⟩
theorem SX.apart{B sb db k:Nat}{z:SS}{v:aai}{w:aah}(h:SX B sb db k z v w){cs:Array aai}(hb:aC w g T cs)(h1:T≠109)(h2:T≠84):g≠sb/\g≠db:=by
 obtain⟨⟨ca,ha⟩,cb,hc⟩:=h.blocks;exact⟨hb.Gx ha h1,hb.Gx hc h2⟩
theorem Jf{B vb sb db k:Nat}{r:Ru}{z:SS}{v:aai}{W:aah}(h:SW B vb sb db k r z v W)(hk:k<1000000)(f:az)(hf:f.short 5000):
  ach prog 152 #[.pointer (some ⟨vb,0,none⟩),cM f] W (Q7 W B vb sb db k r (cO z (bU f))):=by
 have HA:Hid (∀w,SX B sb db k z v w->ach prog 164 #[.pointer (some ⟨sb,0,none⟩),bH (bU f)] w (BN w B sb db k (cO z (bU f)))):=zH fun w h=>O6 h hk (bU f) hf
 have H:=zH h;generalize cO z (bU f)=q at*;obtain⟨i,cl,su,sc,ge,ma,us,re,de⟩:=f;unfold bH aN bU at HA;unfold cM au;dsimp only at*;clear h hf;have cN:Below W.heap.size W (W.alloc (.cells #[.int .i64 i,.string cl,.string su,.string sc,.int .i64 ge,.int .i64 ma,.int .i64 us,.string re,.bool de] 113)):=bR.alloc nR _;have mP:=zH cN;have H1:=zH (H.O.keep cN);obtain⟨c0,c1,c2,c3,c4,aE⟩:=H1.O.gN;clear cN
 go_in
 go_wp2_with fail;have xS:aC (W.alloc (.cells #[.int .i64 i,.string cl,.string su,.string sc,.int .i64 ge,.int .i64 ma,.int .i64 us,.string re,.bool de] 113)).drew W.heap.size 113 #[.int .i64 i,.string cl,.string su,.string sc,.int .i64 ge,.int .i64 ma,.int .i64 us,.string re,.bool de]:=aC.new W _ _;have HD:FB vb sb W.heap.size i cl su sc ge ma us re de (W.alloc (.cells #[.int .i64 i,.string cl,.string su,.string sc,.int .i64 ge,.int .i64 ma,.int .i64 us,.string re,.bool de] 113)).drew:=FB.of c0 xS;have a8:=zH H1.O.drew;have EH:=zH xS;have jV:=zH (fS.aG (a:=sb) (b:=db) (bB mP.O));unfold FB at HD;clear xS c0 c1 c2 c3 c4 aE
 go_region_held3 (fun w'=>w'.cell? ⟨vb,0,none⟩=some (.pointer (some ⟨sb,0,none⟩))/\w'.cell? ⟨W.heap.size,0,none⟩=some (.int .i64 i)/\w'.cell? ⟨W.heap.size,1,none⟩=some (.string cl)/\w'.cell? ⟨W.heap.size,2,none⟩=some (.string su)/\w'.cell? ⟨W.heap.size,3,none⟩=some (.string sc)/\w'.cell? ⟨W.heap.size,4,none⟩=some (.int .i64 ge)/\
   w'.cell? ⟨W.heap.size,5,none⟩=some (.int .i64 ma)/\w'.cell? ⟨W.heap.size,6,none⟩=some (.int .i64 us)/\w'.cell? ⟨W.heap.size,7,none⟩=some (.string re)/\w'.cell? ⟨W.heap.size,8,none⟩=some (.bool de))
  (first
   |with_reducible assumption
   |with_reducible exact HD)
  (first
   |(go_at_call 164;(with_reducible refine(HA.O _ a8.O.sx).mono ?_);rintro x' w2 ⟨rfl,dX,v2,vV⟩
     have vL:Q7 W B vb sb db k r q (.returned (cJ q.2)) w2:=⟨rfl,jV.O.T dX,v2,a8.O.two dX vV⟩;have Wq:=FB.of (i:=i) (cl:=cl) (su:=su) (sc:=sc) (ge:=ge) (ma:=ma) (us:=us) (re:=re) (de:=de) ((a8.O.two dX vV).gN.1) (EH.O.two dX (a8.O.sx.apart EH.O dC dC).1 (a8.O.sx.apart EH.O dC dC).2);unfold FB at Wq))
 go_wp2_with fail;go_ret;exact vL
theorem SQ(ha:bZ a=true)(hb:bZ b=true):eP 1 a b 0=true:=by unfold eP;rw[ha,hb];decide
theorem AQ{B vb sb db k:Nat}{r:Ru}{z:SS}{v:aai}{W:aah}(h:SW B vb sb db k r z v W)(f:az)(h1:bZ f.id=true)(h2:bZ f.gen=true):
  ach prog 153 #[.pointer (some ⟨vb,0,none⟩),cM f] W fun e w'=>e=.returned (.string (fB r f))/\Below W.heap.size W w':=by
 have HA:Hid (∀w,eN w->ach prog 119 #[.int .i64 r.key,v4 1 f.id f.gen 0] w fun e w'=>e=.returned (.tuple #[.string (fB r f),.nilIface])/\Below w.heap.size w w'):=zH fun w hT=>jz r.key 1 f.id f.gen 0 w hT (SQ h1 h2)
 have H:=zH h;generalize fB r f=x at*;obtain⟨i,cl,su,sc,ge,ma,us,re,de⟩:=f;unfold v4 at HA;unfold cM au;dsimp only at*;clear h h1 h2;have cN:Below W.heap.size W (W.alloc (.cells #[.int .i64 i,.string cl,.string su,.string sc,.int .i64 ge,.int .i64 ma,.int .i64 us,.string re,.bool de] 113)):=bR.alloc nR _;have mP:=zH cN;have H1:=zH (H.O.keep cN);obtain⟨c0,c1,c2,c3,c4,aE⟩:=H1.O.gN;have xS:aC (W.alloc (.cells #[.int .i64 i,.string cl,.string su,.string sc,.int .i64 ge,.int .i64 ma,.int .i64 us,.string re,.bool de] 113)).drew W.heap.size 113 #[.int .i64 i,.string cl,.string su,.string sc,.int .i64 ge,.int .i64 ma,.int .i64 us,.string re,.bool de]:=aC.new W _ _;have HT:=zH H1.O.drew.sx.env.cq;have jV:=zH (bB mP.O)
 have HD:(W.alloc (.cells #[.int .i64 i,.string cl,.string su,.string sc,.int .i64 ge,.int .i64 ma,.int .i64 us,.string re,.bool de] 113)).drew.cell? ⟨vb,1,none⟩=some (.int .i64 r.key)/\(W.alloc (.cells #[.int .i64 i,.string cl,.string su,.string sc,.int .i64 ge,.int .i64 ma,.int .i64 us,.string re,.bool de] 113)).drew.cell? ⟨W.heap.size,0,none⟩=some (.int .i64 i)/\
  (W.alloc (.cells #[.int .i64 i,.string cl,.string su,.string sc,.int .i64 ge,.int .i64 ma,.int .i64 us,.string re,.bool de] 113)).drew.cell? ⟨W.heap.size,4,none⟩=some (.int .i64 ge):=⟨c1,xS.cell 0,xS.cell 4⟩
 clear cN c0 c1 c2 c3 c4 aE
 go_in
 go_wp2_with fail
 go_region_held3 (fun w'=>w'.cell? ⟨vb,1,none⟩=some (.int .i64 r.key)/\w'.cell? ⟨W.heap.size,0,none⟩=some (.int .i64 i)/\w'.cell? ⟨W.heap.size,4,none⟩=some (.int .i64 ge))
  (first
   |with_reducible assumption
   |with_reducible exact HD)
  (first
   |(go_at_call 119;(with_reducible refine(HA.O _ HT.O).mono ?_);rintro x' w2 ⟨rfl,hb⟩
     have vL:=below_2 jV.O hb;have Wq:w2.cell? ⟨vb,1,none⟩=some (.int .i64 r.key)/\w2.cell? ⟨W.heap.size,0,none⟩=some (.int .i64 i)/\w2.cell? ⟨W.heap.size,4,none⟩=some (.int .i64 ge):=⟨(H1.O.drew.keep hb).gN.2.1,(xS.aj hb).cell 0,(xS.aj hb).cell 4⟩))
 go_wp2_with fail;go_ret;exact⟨rfl,vL⟩
theorem oH(ck nx:Int)(a:Option Addr)(n c:Nat)(w:aah):(Instr.field 107 (.agg #[.int .i64 ck,.int .i64 nx,.slice a n c]) 0).run prog w=.ok (.int .i64 ck) w:=kR
theorem abO(ck nx:Int)(a:Option Addr)(n c:Nat)(w:aah):(Instr.field 107 (.agg #[.int .i64 ck,.int .i64 nx,.slice a n c]) 2).run prog w=.ok (.slice a n c) w:=kR
theorem VD(id:Int)(bx:Nat)(f:az)(w:aah)(hc:w.cell? ⟨bx,0,none⟩=some (.int .i64 id)):
  ach prog 190 #[cM f,.pointer (some ⟨bx,0,none⟩)] w fun e w'=>e=.returned (.bool (decide (f.id=id)))/\Below w.heap.size w w':=by
 obtain⟨i,cl,su,sc,ge,ma,us,re,de⟩:=f;unfold cM au;dsimp only;have cN:Below w.heap.size w (w.alloc (.cells #[.int .i64 i,.string cl,.string su,.string sc,.int .i64 ge,.int .i64 ma,.int .i64 us,.string re,.bool de] 113)):=bR.alloc nR _;have mP:=zH cN;have aE:bx<w.heap.size:=acC w _ hc;clear cN
 go_in
 go_wp2_with fail;go_ret;refine⟨?_,mP.O⟩
 show aiD (Value.bool _)=_
 congr 2
theorem Gf(f:az)(L:List az)(id:Int):findF (f::L) id=if f.id=id then some f else findF L id:=by
 unfold findF;rw[List.find?_cons]
 by_cases h:f.id=id
 ·simp[h]
 ·simp[h]
def Zf(L:List az)(id:Int)(W:aah)(e:akB)(w':aah):Prop:=
 Below W.heap.size W w'/\((∃(j:Nat) (f:az),L[j]?=some f/\findF L id=some f/\e=.returned (.int .i64 j))\/(findF L id=none/\e=.returned (.int .i64 (-1))))
theorem Gh{L:List az}{k:Nat}(h:∀j f,j<k->L[j]?=some f->f.id≠id):findF L id=findF (L.drop k) id:=by
 induction k generalizing L with
 |zero=>rfl
 |succ k ih=>
  cases L with
  |nil=>rfl
  |cons g L=>
   rw[Gf,if_neg (h 0 g (Nat.succ_pos _) rfl),List.drop_succ_cons];exact ih fun j f hj hf=>h (j+1) f (Nat.succ_lt_succ hj) (by simpa using hf)
def ag3(W:aah)(bx B:Nat)(v:aai)(L:List az)(id:Int)(i:aai)(w:aah):Prop:=∃k:Nat,k<=L.length/\i=.int .i64 k/\Below W.heap.size W w/\bz w B v L/\w.cell? ⟨bx,0,none⟩=some (.int .i64 id)/\∀j f,j<k->L[j]?=some f->f.id≠id
theorem find_index(B bx:Nat)(v:aai)(L:List az)(id:Int)(W:aah)(hr:bz W B v L)(hl:L.length<=1000000)(hc:W.cell? ⟨bx,0,none⟩=some (.int .i64 id)):
  ach prog 189 #[v,.func (.func 190) #[] #[.pointer (some ⟨bx,0,none⟩)]] W (Zf L id W):=by
 obtain⟨sa,sc,rfl⟩:=hr.slice;have HR:=zH hr;have HC:=zH hc;clear hr hc
 go_in
 go_wp2_with fail
 go_loopw [8] (fun i wr=>ag3 W bx B (.slice sa L.length sc) L id i wr) (fun i _=>L.length - (ahZ i).toNat)
 case atStart=>exact⟨0,ahW _,rfl,Below.refl _ _,HR.O,HC.O,fun j f hj=>absurd hj (Nat.not_lt_zero _)⟩
 case round=>
  obtain⟨k,hk,rfl,hb,hr,hc,nJ⟩:=hrel;have HB:=zH hb;have FN:=zH hr;have HC1:=zH hc;have Jr:=zH nJ;clear hb hr hc nJ HR HC
  by_cases aE:k<L.length
  ·obtain⟨g,rfl,_,ra⟩:=FN.O.lit aE
   (obtain⟨f,hf⟩:∃f,L[k]?=some f:=⟨_,ag8 aE⟩;have HF:=zH hf;have HO:=zH (fun w h=>VD id bx f w h));by_cases hid:f.id=id
   ·have HID:=zH hid
    (rw[decide_eq_true hid]at HO;obtain⟨i,cl,su,eF,ge,ma,us,re,de⟩:=f;obtain⟨c0,c1,c2,c3,c4,c5,c6,c7,c8⟩:=ra.nine hf;unfold cM au at HO;dsimp only at HO;have h0:(0:Int)<=(k:Int):=by omega);(have h1:(k:Int)<(L.length:Int):=by omega);clear hf ra hid;go_wp2_with fail;refine(HO.O _ HC1.O).mono ?_;rintro e w2 ⟨rfl,hb⟩;have gS:=zH (below_2 HB.O hb);clear hb;go_wp2_with fail;go_ret;refine⟨gS.O,.inl ⟨k,_,HF.O,?_,rfl⟩⟩;have anl:=(ag6.1 HF.O).1;rw[Gh Jr.O,List.drop_eq_getElem_cons anl,Gf];have he:=(ag6.1 HF.O).2;rw[he,if_pos HID.O]
   ·have HID:=zH hid
    (rw[decide_eq_false hid]at HO;obtain⟨i,cl,su,eF,ge,ma,us,re,de⟩:=f;obtain⟨c0,c1,c2,c3,c4,c5,c6,c7,c8⟩:=ra.nine hf;unfold cM au at HO;dsimp only at HO;have h0:(0:Int)<=(k:Int):=by omega);(have h1:(k:Int)<(L.length:Int):=by omega);clear hf ra hid;go_wp2_with fail;refine(HO.O _ HC1.O).mono ?_;rintro e w2 ⟨rfl,hb⟩;have gS:=zH (below_2 HB.O hb);have MZ:=zH (FN.O.below hb);have HC2:=zH ((hb.cell (p:=⟨bx,0,none⟩) (acC wr _ HC1.O)).T HC1.O);clear hb;go_wp2_with fail;go_roundw
    case rel=>exact⟨k+1,by omega,by go_num,gS.O,MZ.O,HC2.O,fun j f hj hf=>by
     by_cases e:j=k
     ·subst e
      rw[HF.O]at hf;cases hf;exact HID.O
     ·exact Jr.O j f oM hf⟩
    case measure=>simp[ahZ];omega
  ·have MN:k=L.length:=by omega
   go_wp2_with fail;go_ret;refine⟨HB.O,.inr ⟨?_,rfl⟩⟩;rw[Gh Jr.O,MN,List.drop_length];rfl
def Py(L:List az)(id:Int)(W:aah)(e:akB)(w':aah):Prop:=
 Below W.heap.size W w'/\((∃f,findF L id=some f/\f∈L/\e=.returned (.tuple #[cM f,.bool true]))\/(findF L id=none/\e=.returned (.tuple #[cM az.zero,.bool false])))
theorem lK{w:aah}{f0:az}(h:aC w g T (au f0))(i:Int)(cl su sc:ByteArray)(ge ma us:Int)(re:ByteArray)(de:Bool):
  aC (((((((((w.setCell ⟨g,0,none⟩ (.int .i64 i)).setCell ⟨g,1,none⟩ (.string cl)).setCell ⟨g,2,none⟩ (.string su)).setCell ⟨g,3,none⟩ (.string sc)).setCell ⟨g,4,none⟩ (.int .i64 ge)).setCell ⟨g,5,none⟩ (.int .i64 ma)).setCell ⟨g,6,none⟩ (.int .i64 us)).setCell ⟨g,7,none⟩ (.string re)).setCell ⟨g,8,none⟩ (.bool de)) g T (au ⟨i,cl,su,sc,ge,ma,us,re,de⟩)/\
   w.grownBy (((((((((w.setCell ⟨g,0,none⟩ (.int .i64 i)).setCell ⟨g,1,none⟩ (.string cl)).setCell ⟨g,2,none⟩ (.string su)).setCell ⟨g,3,none⟩ (.string sc)).setCell ⟨g,4,none⟩ (.int .i64 ge)).setCell ⟨g,5,none⟩ (.int .i64 ma)).setCell ⟨g,6,none⟩ (.int .i64 us)).setCell ⟨g,7,none⟩ (.string re)).setCell ⟨g,8,none⟩ (.bool de)) (some g):=by
 obtain⟨i0,cl0,su0,sc0,ge0,ma0,us0,re0,de0⟩:=f0;have e0:=h.dD 0 (.int .i64 i) (cs':=au ⟨i,cl0,su0,sc0,ge0,ma0,us0,re0,de0⟩) rfl;have e1:=e0.dD 1 (.string cl) (cs':=au ⟨i,cl,su0,sc0,ge0,ma0,us0,re0,de0⟩) rfl;have e2:=e1.dD 2 (.string su) (cs':=au ⟨i,cl,su,sc0,ge0,ma0,us0,re0,de0⟩) rfl;have e3:=e2.dD 3 (.string sc) (cs':=au ⟨i,cl,su,sc,ge0,ma0,us0,re0,de0⟩) rfl;have e4:=e3.dD 4 (.int .i64 ge) (cs':=au ⟨i,cl,su,sc,ge,ma0,us0,re0,de0⟩) rfl;have e5:=e4.dD 5 (.int .i64 ma) (cs':=au ⟨i,cl,su,sc,ge,ma,us0,re0,de0⟩) rfl;have e6:=e5.dD 6 (.int .i64 us) (cs':=au ⟨i,cl,su,sc,ge,ma,us,re0,de0⟩) rfl;have e7:=e6.dD 7 (.string re) (cs':=au ⟨i,cl,su,sc,ge,ma,us,re,de0⟩) rfl;have e8:=e7.dD 8 (.bool de) (cs':=au ⟨i,cl,su,sc,ge,ma,us,re,de⟩) rfl;refine⟨e8,?_⟩;refine ak ?_ (.inl rfl) _;refine ak ?_ (.inl rfl) _;refine ak ?_ (.inl rfl) _;refine ak ?_ (.inl rfl) _;refine ak ?_ (.inl rfl) _;refine ak ?_ (.inl rfl) _;refine ak ?_ (.inl rfl) _;refine ak ?_ (.inl rfl) _;exact cC w g ⟨g,0,none⟩ rfl _
theorem Kv{W w:aah}{L:List az}{f:az}{b:Bool}(hb:Below W.heap.size W w)(hr:aC w (W.heap.size+1) 113 (au f))(hp:A.tmps.getD 4 agp=.pointer (some ⟨W.heap.size+1,0,none⟩))(hx:A.tmps.getD 5 agp=.bool b)(hd:A.defers=[])(h:(b=true/\findF L id=some f/\f∈L)\/(b=false/\f=az.zero/\findF L id=none)):
  bodyPost prog f154 (Py L id W) Exit.ret A w:=by
 refine bodyPost_ret (jw rfl A.tmps w _ _ _ _ _ hp hx hr underlying113 rfl kR) hd ⟨hb,?_⟩;rcases h with⟨rfl,h1,h2⟩|⟨rfl,rfl,h1⟩
 ·exact .inl ⟨f,h1,h2,rfl⟩
 ·exact .inr ⟨h1,rfl⟩
theorem Mj{B vb sb db k:Nat}{r:Ru}{z:SS}{v:aai}{W:aah}(h:SW B vb sb db k r z v W)(id:Int):
  ach prog 154 #[.pointer (some ⟨vb,0,none⟩),.int .i64 id] W (Py z.s.ax id W):=by
 have gJ:=zH (fun w (h:SW B vb sb db k r z v w)=>(kQ h.sx).mono fun _ _ h=>j7 h);have hlen:=h.sx.fit.len;have H:=zH h;clear h;generalize z.s.ax=L at*;generalize z.s.clock=ck at*;generalize z.s.next=nx at*;unfold oZ at gJ;have HFI:=zH (fun B bx v w hr hc=>find_index B bx v L id w hr oM hc);clear hlen;have cN:=gK W (.cells #[.int .i64 id] 3) (.cells (au az.zero) 113);have mP:=zH cN;have H1:=zH (H.O.keep cN);have UA:=zH ((aC.new W 3 #[.int .i64 id]).alloc (.cells (au az.zero) 113))
 have hf1:aC ((W.alloc (.cells #[.int .i64 id] 3)).alloc (.cells (au az.zero) 113)) (W.heap.size+1) 113 (au az.zero):=by
  have:=aC.new (W.alloc (.cells #[.int .i64 id] 3)) 113 (au az.zero);rw[show(W.alloc (.cells #[.int .i64 id] 3)).heap.size=W.heap.size+1 by simp]at this;exact this
 have Jq:=zH hf1;clear cN hf1 H;unfold au az.zero at mP H1 UA Jq;dsimp only at mP H1 UA Jq;obtain⟨c0,c1,c2,c3,c4,aE⟩:=H1.O.gN
 go_in
 go_wp2_with fail;refine(gJ.O _ H1.O).mono ?_;rintro e w1 ⟨a1,ac,rfl,hr,hb⟩;have jf:=zH (below_2 mP.O hb);have FN:=zH hr;have HI2:=zH (UA.O.aj hb);have FK:=zH (Jq.O.aj hb);have hsf:=abO ck nx a1 L.length ac;clear hr hb H1 UA Jq mP c0 c1 c2 c3 c4 aE gJ;go_wp2_with fail;refine(HFI.O _ _ _ _ FN.O (HI2.O.cell 0)).mono ?_;rintro e w2 ⟨hb,⟨j,f,hj,Ey,rfl⟩|⟨Ey,rfl⟩⟩
 ·have Qm:=(ag6.1 hj).1
  have ay:=ahG hj;have vo:=FN.O.below hb;obtain⟨g,hga,_,ra⟩:=vo.lit Qm;subst hga;have gS:=zH (below_2 jf.O hb);have JI:=zH (FK.O.aj hb);have MF:=zH Ey;have HM:=zH ay;obtain⟨i,cl,su,eF,ge,ma,us,re,de⟩:=f;obtain⟨c0,c1,c2,c3,c4,c5,c6,c7,c8⟩:=ra.nine hj;have h0:(0:Int)<=(j:Int):=by omega
  have h1:(j:Int)<(L.length:Int):=by omega
  have hz:=JI.O.frozen;obtain⟨z0,z1,z2,z3,z4,z5,z6,z7,z8⟩:=cj JI.O;clear Ey ay hj ra vo hb FN jf FK HI2 HFI;go_wp2_with fail;obtain⟨n1,n2⟩:=lK (f0:=az.zero) JI.O i cl su eF ge ma us re de;exact Kv (gS.O.grown n2 gS.O.size (fun i hi=>by cases hi;exact alZ _)) n1 rfl rfl rfl (.inl ⟨rfl,MF.O,HM.O⟩)
 ·have gS:=zH (below_2 jf.O hb)
  have JI:=zH (FK.O.aj hb);have MF:=zH Ey;have hz:=JI.O.frozen;obtain⟨z0,z1,z2,z3,z4,z5,z6,z7,z8⟩:=cj JI.O;clear Ey hb FN jf FK HI2 HFI;go_wp2_with fail;obtain⟨n1,n2⟩:=lK (f0:=az.zero) JI.O 0 ⟨#[]⟩ ⟨#[]⟩ ⟨#[]⟩ 0 0 0 ⟨#[]⟩ false;exact Kv (gS.O.grown n2 gS.O.size (fun i hi=>by cases hi;exact alZ _)) n1 rfl rfl rfl (.inr ⟨rfl,rfl,MF.O⟩)
def jd(s:St)(q:Int×Int×Int×Int×Int):az:=if q.1≠0 then az.zero else(findF s.ax q.2.2.1).getD az.zero
def gY(r:Ru)(s:St)(q:Int×Int×Int×Int×Int)(kind:Int):Int:=
 if q.1≠0 then q.1 else if q.2.1≠kind then 1 else match findF s.ax q.2.2.1 with
  |none=>7
  |some f=>if f.dead then 6 else if C_ r s.clock f then 10 else 0
def xA(r:Ru)(s:St)(q:Int×Int×Int×Int×Int)(kind:Int)(W:aah)(e:akB)(w':aah):Prop:=
 e=.returned (.tuple #[v4 q.2.1 q.2.2.1 q.2.2.2.1 q.2.2.2.2,cM (jd s q),cJ (gY r s q kind)])/\Below W.heap.size W w'
theorem zK{P:Program}{fn:Func}{p q u:Tmp}{ty tz:TypeId}(h:fn.results=#[.cell p ty,.cell q tz,.tmp u])(tmps:Array aai)(w:aah)(g g2:Nat)(t t2:TypeId)(cs cs2:Array aai)(d d2:TypeDesc)(x:aai)(hp:tmps.getD p agp=.pointer (some ⟨g,0,none⟩))(hq:tmps.getD q agp=.pointer (some ⟨g2,0,none⟩))(hx:tmps.getD u agp=x)(hg:aC w g t cs)(Ez:aC w g2 t2 cs2)(hu:P.underlying ty=some d)(hd:(match d with| .struct _| .array _ _=>true|_=>false)=true)(hi:(P.info? ty).map (·.size)=some cs.size)(hu2:P.underlying tz=some d2)(hd2:(match d2 with| .struct _| .array _ _=>true|_=>false)=true)(hi2:(P.info? tz).map (·.size)=some cs2.size):
  (results fn tmps).run P w=.ok (.tuple #[.agg cs,.agg cs2,x]) w:=by
 have e:(results fn tmps).run P w=((asAddr (tmps.getD p agp)).run P w).andThen fun a cG=>((loadVar ty a).run P cG).andThen fun v fQ=>((asAddr (tmps.getD q agp)).run P fQ).andThen fun b af9=>((loadVar tz b).run P af9).andThen fun v' YM=>.ok (.tuple #[v,v',tmps.getD u agp]) YM:=by
  simp only[results,h];simp[Sem.run_bind,alj]
 rw[e,hp,hq,hx];simp only[asAddr,Sem.run_pure,alj];rw[al1 w g t ty cs (0,0) d hg hu hd hi];simp only;rw[al1 w g2 t2 tz cs2 (0,0) d2 Ez hu2 hd2 hi2]
theorem mG{r:Ru}{s:St}{q:Int×Int×Int×Int×Int}{kind:Int}{W w:aah}{c d e:Int}{f:az}(hb:Below W.heap.size W w)(ht:aC w W.heap.size 170 #[.int .i64 a,.int .i64 b,.int .i64 c,.int .i64 d])(hf:aC w (W.heap.size+1) 113 (au f))(hp:A.tmps.getD 6 agp=.pointer (some ⟨W.heap.size,0,none⟩))(hq:A.tmps.getD 7 agp=.pointer (some ⟨W.heap.size+1,0,none⟩))(hx:A.tmps.getD 8 agp=cJ e)(hd:A.defers=[])(h1:q.2=(a,b,c,d))(h2:f=jd s q)(h3:e=gY r s q kind):
  bodyPost prog f157 (xA r s q kind W) Exit.ret A w:=by
 refine bodyPost_ret (zK rfl A.tmps w _ _ _ _ _ _ _ _ _ hp hq hx ht hf underlying170 rfl kR underlying113 rfl kR) hd ⟨?_,hb⟩;rw[h1,<-h2,<-h3];rfl
theorem eX{w:aah}{g2:Nat}{T2:TypeId}{a0 b0 c0 d0:aai}{f0:az}(h:aC w g T #[a0,b0,c0,d0])(h2:aC w g2 T2 (au f0))(eZ:g≠g2)(a b c d:Int)(f:az):∃w',w'=(((((((((((((w.setCell ⟨g,0,none⟩ (.int .i64 a)).setCell ⟨g,1,none⟩ (.int .i64 b)).setCell ⟨g,2,none⟩ (.int .i64 c)).setCell ⟨g,3,none⟩ (.int .i64 d)).setCell ⟨g2,0,none⟩ (.int .i64 f.id)).setCell ⟨g2,1,none⟩ (.string f.aL)).setCell ⟨g2,2,none⟩ (.string f.aF)).setCell ⟨g2,3,none⟩ (.string f.scope)).setCell ⟨g2,4,none⟩ (.int .i64 f.gen)).setCell ⟨g2,5,none⟩ (.int .i64 f.made)).setCell ⟨g2,6,none⟩ (.int .i64 f.used)).setCell ⟨g2,7,none⟩ (.string f.request)).setCell ⟨g2,8,none⟩ (.bool f.dead))/\
  aC w' g T #[.int .i64 a,.int .i64 b,.int .i64 c,.int .i64 d]/\aC w' g2 T2 (au f)/\∀{B:Nat} {W:aah},Below B W w->B<=g->B<=g2->B<=w.heap.size->Below B W w':=by
 have e0:=h.dD 0 (.int .i64 a) (cs':=#[.int .i64 a,b0,c0,d0]) rfl;have e1:=e0.dD 1 (.int .i64 b) (cs':=#[.int .i64 a,.int .i64 b,c0,d0]) rfl;have e2:=e1.dD 2 (.int .i64 c) (cs':=#[.int .i64 a,.int .i64 b,.int .i64 c,d0]) rfl;have e3:=e2.dD 3 (.int .i64 d) (cs':=#[.int .i64 a,.int .i64 b,.int .i64 c,.int .i64 d]) rfl;have g0:=cC w g ⟨g,0,none⟩ rfl (.int .i64 a);have g1:=ak g0 (p:=⟨g,1,none⟩) (.inl rfl) (.int .i64 b);have g2':=ak g1 (p:=⟨g,2,none⟩) (.inl rfl) (.int .i64 c);have g3:=ak g2' (p:=⟨g,3,none⟩) (.inl rfl) (.int .i64 d);have hf3:=h2.grown g3 (by simpa using eZ.symm);obtain⟨n1,n2⟩:=lK hf3 f.id f.aL f.aF f.scope f.gen f.made f.used f.request f.dead;refine⟨_,rfl,e3.grown n2 (by simpa using eZ),n1,fun hb h1 Um h3=>?_⟩;have lV:=hb.grown g3 h3 (fun i hi=>by cases hi;exact h1);exact lV.grown n2 (aiC h3 g3.size) (fun i hi=>by cases hi;exact Um)
theorem cS{w:aah}{a b c d:aai}(h:aC w g T #[a,b,c,d]):w.cell? ⟨g,0,none⟩=some a/\w.cell? ⟨g,1,none⟩=some b/\w.cell? ⟨g,2,none⟩=some c/\w.cell? ⟨g,3,none⟩=some d:=⟨h.cell 0,h.cell 1,h.cell 2,h.cell 3⟩
theorem DV{B vb sb db k:Nat}{r:Ru}{z:SS}{v:aai}{W:aah}(h:SW B vb sb db k r z v W)(t:ByteArray)(kind:Int)(ht:t.size<=5000):
  ach prog 157 #[.pointer (some ⟨vb,0,none⟩),.string t,.int .i64 kind] W (xA r z.s (cv r t) kind W):=by
 have HTR:Hid (∀w,SW B vb sb db k r z v w->ach prog 195 #[.int .i64 r.key,.string t] w (wy w (cv r t))):=zH fun w h=>Pg r.key t w ht h.sx.env.iV h.sx.env.cq h.sx.env.iE
 have MF:=zH (fun w id (h:SW B vb sb db k r z v w)=>Mj h id);have gJ:=zH (fun w (h:SW B vb sb db k r z v w)=>(kQ h.sx).mono fun _ _ h=>j7 h);have ed:=h.sx.fit;have lu:=vz h.right;have H:=zH h;clear h;generalize cv r t=q at*;obtain⟨qe,qk,qf,qg,qd⟩:=q;generalize z.s=s at*;obtain⟨ck,nx,L⟩:=s;unfold wy v4 at HTR;unfold oZ at gJ;dsimp only at*;have cN:=gK W (.cells #[.int .i64 0,.int .i64 0,.int .i64 0,.int .i64 0] 170) (.cells (au az.zero) 113);have mP:=zH cN;have H1:=zH (H.O.keep cN);have EL:=zH ((aC.new W 170 #[.int .i64 0,.int .i64 0,.int .i64 0,.int .i64 0]).alloc (.cells (au az.zero) 113))
 have hf1:aC ((W.alloc (.cells #[.int .i64 0,.int .i64 0,.int .i64 0,.int .i64 0] 170)).alloc (.cells (au az.zero) 113)) (W.heap.size+1) 113 (au az.zero):=by
  have:=aC.new (W.alloc (.cells #[.int .i64 0,.int .i64 0,.int .i64 0,.int .i64 0] 170)) 113 (au az.zero);rw[show(W.alloc (.cells #[.int .i64 0,.int .i64 0,.int .i64 0,.int .i64 0] 170)).heap.size=W.heap.size+1 by simp]at this;exact this
 have Jq:=zH hf1;clear cN hf1 H;unfold au az.zero at mP H1 EL Jq;dsimp only at mP H1 EL Jq;obtain⟨c0,c1,c2,c3,c4,aE⟩:=H1.O.gN
 go_in
 go_wp2_with fail;refine(HTR.O _ H1.O).mono ?_;rintro e w1 ⟨rfl,hb⟩;have jf:=zH (below_2 mP.O hb);have H2:=zH (H1.O.keep hb);have YS:=zH (EL.O.aj hb);have FK:=zH (Jq.O.aj hb);clear hb H1 EL Jq mP c0 c1 c2 c3 c4 aE HTR
 by_cases hq:qe=0
 ·subst hq
  have e0:cJ 0=.nilIface:=dG;rw[e0];clear e0;obtain⟨c0,c1,c2,c3,c4,aE⟩:=H2.O.gN;have cN:=(Below.refl w1.heap.size w1).alloc nR (.cells #[.int .i64 qk,.int .i64 qf,.int .i64 qg,.int .i64 qd] 170);have H3:=zH (H2.O.keep cN);have Ju:=zH (YS.O.aj cN);have JI:=zH (FK.O.aj cN);have jb:=zH (below_2 jf.O cN);have HV3:=zH (aC.new w1 170 #[.int .i64 qk,.int .i64 qf,.int .i64 qg,.int .i64 qd]);clear cN;go_wp2_with fail;have ami:=FK.O.lt;clear c0 c1 c2 c3 c4 aE H2 YS FK jf;refine(MF.O _ _ H3.O).mono ?_;generalize hw3:w1.alloc (.cells #[.int .i64 qk,.int .i64 qf,.int .i64 qg,.int .i64 qd] 170)=w3 at*;have at6:W.heap.size+1<w1.heap.size:=ami;generalize hv:w1.heap.size=tb at*;clear hw3 hv;rintro e w4 ⟨hb,⟨f,Ey,ay,rfl⟩|⟨Ey,rfl⟩⟩
  ·have H4:=zH (H3.O.keep hb)
   (have Jv:=zH (Ju.O.aj hb);have T_:=zH (JI.O.aj hb);have HV4:=zH (HV3.O.aj hb);have wq:=zH (below_2 jb.O hb);have qx:=zH Ey;obtain⟨_,_,gm,gu,_⟩:=bV (ed.ax f ay);have xu:=zH (fun w=>pM f.used r.idle w (by have:=aX.1 gu;omega) (by have:=aX.1 lu.2.1;omega));have xq:=zH (fun w=>pM f.made r.oA w (by have:=aX.1 gm;omega) (by have:=aX.1 lu.2.2.1;omega));clear hb Ey ay H3 Ju JI HV3 jb MF gm gu;obtain⟨i,cl,su,eF,ge,ma,us,re,de⟩:=f;unfold cM au;dsimp only at*;obtain⟨c0,c1,c2,c3,c4,aE⟩:=H4.O.gN;go_wp2_with fail;have cN:=(Below.refl w4.heap.size w4).alloc nR (.cells #[.int .i64 i,.string cl,.string su,.string eF,.int .i64 ge,.int .i64 ma,.int .i64 us,.string re,.bool de] 113);have AW:=zH (aC.new w4 113 #[.int .i64 i,.string cl,.string su,.string eF,.int .i64 ge,.int .i64 ma,.int .i64 us,.string re,.bool de]);have H5:=zH (H4.O.keep cN);have UE:=zH (Jv.O.aj cN);have Uz:=zH (T_.O.aj cN);have UF:=zH (HV4.O.aj cN);have Uy:=zH (below_2 wq.O cN);have hfl:=T_.O.lt;clear cN Jv T_ HV4 wq H4 c0 c1 c2 c3 c4 aE;refine(gJ.O _ H5.O).mono ?_;generalize w4.alloc (.cells #[.int .i64 i,.string cl,.string su,.string eF,.int .i64 ge,.int .i64 ma,.int .i64 us,.string re,.bool de] 113)=w4b at*;have am3:W.heap.size+1<w4.heap.size:=hfl;generalize w4.heap.size=fb at*;rintro e w5 ⟨a5,ac5,rfl,hr5,hb⟩;have H6:=zH (H5.O.keep hb);have BR:=zH (UE.O.aj hb);have Ib:=zH (Uz.O.aj hb);have HV5:=zH (UF.O.aj hb);have HG5:=zH (AW.O.aj hb);have qu:=zH (below_2 Uy.O hb);clear hr5 hb H5 UE Uz UF Uy AW gJ;have Un:=oH ck nx a5 L.length ac5;obtain⟨_,_,d2,d3,_,aE⟩:=H6.O.gN;obtain⟨v0,v1,v2,v3⟩:=cS HV5.O;obtain⟨g0,g1,g2,g3,g4,g5,g6,g7,g8⟩:=cj (i:=i) (cl:=cl) (su:=su) (sc:=eF) (ge:=ge) (ma:=ma) (us:=us) (re:=re) (de:=de) HG5.O;obtain⟨t0,t1,t2,t3⟩:=cS BR.O;have htz:=BR.O.frozen;obtain⟨z0,z1,z2,z3,z4,z5,z6,z7,z8⟩:=cj (i:=0) (cl:=⟨#[]⟩) (su:=⟨#[]⟩) (sc:=⟨#[]⟩) (ge:=0) (ma:=0) (us:=0) (re:=⟨#[]⟩) (de:=false) Ib.O;have hz:=Ib.O.frozen);by_cases hk:qk=kind
   ·have gU:(qk != kind)=false:=by simpa using hk
    have HK:=zH hk;clear hk;cases de
    ·by_cases hu:iD us r.idle<ck
     ·have hu':decide (iD us r.idle<ck)=true:=decide_eq_true hu
      go_wp2_with fail
      go_quiet ((first
       |(go_at_call 158;exact alY ((xu.O _).mono fun _ _ h=>⟨h.1,h.2.symm⟩))
       |(go_at_call 158;exact alY ((xq.O _).mono fun _ _ h=>⟨h.1,h.2.symm⟩))))
      (go_wp2_with fail;have Sz:tb≠W.heap.size:=by omega);(have SB:tb≠W.heap.size+1:=by omega);(have Sn:fb≠W.heap.size:=by omega);(have Sq:fb≠W.heap.size+1:=by omega);go_region;go_wp2_with fail;obtain⟨_,rfl,n1,n2,n3⟩:=eX (f0:=az.zero) (BR.O.drewN (nq+1)) (Ib.O.drewN (nq+1)) oM qk qf qg qd ⟨i,cl,su,eF,ge,ma,us,re,false⟩;exact mG (r:=r) (q:=(0,qk,qf,qg,qd)) (s:=⟨ck,nx,L⟩) (kind:=kind) (e:=10) (f:=⟨i,cl,su,eF,ge,ma,us,re,false⟩) (n3 (below_drewN qu.O (nq+1)) nR (alZ _) qu.O.size) n1 n2 rfl rfl (by rw[aY (show(10:Int)≠0 by decide)];rfl) rfl rfl (by unfold jd;rw[if_neg (show ¬ (0:Int)≠0 by decide)];first|rw[qx.O];rfl|rw[qx.O]) (by unfold gY;rw[if_neg (show ¬ (0:Int)≠0 by decide)];rw[if_neg (by rw[HK.O];exact fun h=>h rfl),qx.O];simp[C_,hu])
     ·have hu':decide (iD us r.idle<ck)=false:=decide_eq_false hu
      by_cases hm:iD ma r.oA<ck
      ·have Bq:decide (iD ma r.oA<ck)=true:=decide_eq_true hm
       go_wp2_with fail
       go_quiet ((first
        |(go_at_call 158;exact alY ((xu.O _).mono fun _ _ h=>⟨h.1,h.2.symm⟩))
        |(go_at_call 158;exact alY ((xq.O _).mono fun _ _ h=>⟨h.1,h.2.symm⟩))))
       (go_wp2_with fail;have Sz:tb≠W.heap.size:=by omega);(have SB:tb≠W.heap.size+1:=by omega);(have Sn:fb≠W.heap.size:=by omega);(have Sq:fb≠W.heap.size+1:=by omega);go_region;go_wp2_with fail;obtain⟨_,rfl,n1,n2,n3⟩:=eX (f0:=az.zero) (BR.O.drewN (nq+1)) (Ib.O.drewN (nq+1)) oM qk qf qg qd ⟨i,cl,su,eF,ge,ma,us,re,false⟩;exact mG (r:=r) (q:=(0,qk,qf,qg,qd)) (s:=⟨ck,nx,L⟩) (kind:=kind) (e:=10) (f:=⟨i,cl,su,eF,ge,ma,us,re,false⟩) (n3 (below_drewN qu.O (nq+1)) nR (alZ _) qu.O.size) n1 n2 rfl rfl (by rw[aY (show(10:Int)≠0 by decide)];rfl) rfl rfl (by unfold jd;rw[if_neg (show ¬ (0:Int)≠0 by decide)];first|rw[qx.O];rfl|rw[qx.O]) (by unfold gY;rw[if_neg (show ¬ (0:Int)≠0 by decide)];rw[if_neg (by rw[HK.O];exact fun h=>h rfl),qx.O];simp[C_,hm])
      ·have Bq:decide (iD ma r.oA<ck)=false:=decide_eq_false hm
       go_wp2_with fail
       go_quiet ((first
        |(go_at_call 158;exact alY ((xu.O _).mono fun _ _ h=>⟨h.1,h.2.symm⟩))
        |(go_at_call 158;exact alY ((xq.O _).mono fun _ _ h=>⟨h.1,h.2.symm⟩))))
       (go_wp2_with fail;have Sz:tb≠W.heap.size:=by omega);(have SB:tb≠W.heap.size+1:=by omega);(have Sn:fb≠W.heap.size:=by omega);(have Sq:fb≠W.heap.size+1:=by omega);go_region;go_wp2_with fail;obtain⟨_,rfl,n1,n2,n3⟩:=eX (f0:=az.zero) (BR.O.drewN (nq+1)) (Ib.O.drewN (nq+1)) oM qk qf qg qd ⟨i,cl,su,eF,ge,ma,us,re,false⟩;exact mG (r:=r) (q:=(0,qk,qf,qg,qd)) (s:=⟨ck,nx,L⟩) (kind:=kind) (e:=0) (f:=⟨i,cl,su,eF,ge,ma,us,re,false⟩) (n3 (below_drewN qu.O (nq+1)) nR (alZ _) qu.O.size) n1 n2 rfl rfl rfl rfl rfl (by unfold jd;rw[if_neg (show ¬ (0:Int)≠0 by decide)];first|rw[qx.O];rfl|rw[qx.O]) (by unfold gY;rw[if_neg (show ¬ (0:Int)≠0 by decide)];rw[if_neg (by rw[HK.O];exact fun h=>h rfl),qx.O];simp[C_,hu,hm])
    ·go_wp2_with (first
      |(go_at_call 158;(with_reducible refine(xu.O _).mono ?_);rintro e w' ⟨rfl,rfl⟩)
      |(go_at_call 158;(with_reducible refine(xq.O _).mono ?_);rintro e w' ⟨rfl,rfl⟩))
     (have Sz:tb≠W.heap.size:=by omega);(have SB:tb≠W.heap.size+1:=by omega);(have Sn:fb≠W.heap.size:=by omega);(have Sq:fb≠W.heap.size+1:=by omega);go_region;go_wp2_with fail;obtain⟨_,rfl,n1,n2,n3⟩:=eX (f0:=az.zero) BR.O Ib.O oM qk qf qg qd ⟨i,cl,su,eF,ge,ma,us,re,true⟩;exact mG (r:=r) (q:=(0,qk,qf,qg,qd)) (s:=⟨ck,nx,L⟩) (kind:=kind) (e:=6) (f:=⟨i,cl,su,eF,ge,ma,us,re,true⟩) (bB (n3 qu.O nR (alZ _) qu.O.size)) n1.drew n2.drew rfl rfl (by rw[aY (show(6:Int)≠0 by decide)];rfl) rfl rfl (by unfold jd;rw[if_neg (show ¬ (0:Int)≠0 by decide)];first|rw[qx.O];rfl|rw[qx.O]) (by unfold gY;rw[if_neg (show ¬ (0:Int)≠0 by decide)];rw[if_neg (by rw[HK.O];exact fun h=>h rfl),qx.O];rfl)
   ·have gU:(qk != kind)=true:=by simpa using hk
    go_wp2_with (first
     |(go_at_call 158;(with_reducible refine(xu.O _).mono ?_);rintro e w' ⟨rfl,rfl⟩)
     |(go_at_call 158;(with_reducible refine(xq.O _).mono ?_);rintro e w' ⟨rfl,rfl⟩))
    (have Sz:tb≠W.heap.size:=by omega);(have SB:tb≠W.heap.size+1:=by omega);(have Sn:fb≠W.heap.size:=by omega);(have Sq:fb≠W.heap.size+1:=by omega);go_region;go_wp2_with fail;obtain⟨_,rfl,n1,n2,n3⟩:=eX (f0:=az.zero) BR.O Ib.O oM qk qf qg qd ⟨i,cl,su,eF,ge,ma,us,re,de⟩;exact mG (r:=r) (q:=(0,qk,qf,qg,qd)) (s:=⟨ck,nx,L⟩) (kind:=kind) (e:=1) (f:=⟨i,cl,su,eF,ge,ma,us,re,de⟩) (bB (n3 qu.O nR (alZ _) qu.O.size)) n1.drew n2.drew rfl rfl (by rw[aY (show(1:Int)≠0 by decide)];rfl) rfl rfl (by unfold jd;rw[if_neg (show ¬ (0:Int)≠0 by decide)];first|rw[qx.O];rfl|rw[qx.O]) (by unfold gY;rw[if_neg (show ¬ (0:Int)≠0 by decide)];rw[if_pos hk])
  ·have H4:=zH (H3.O.keep hb)
   (have Jv:=zH (Ju.O.aj hb);have T_:=zH (JI.O.aj hb);have HV4:=zH (HV3.O.aj hb);have wq:=zH (below_2 jb.O hb);have qx:=zH Ey;have xu:=zH (fun w=>pM 0 r.idle w oM (by have:=aX.1 lu.2.1;omega));have xq:=zH (fun w=>pM 0 r.oA w oM (by have:=aX.1 lu.2.2.1;omega));clear hb Ey H3 Ju JI HV3 jb MF;unfold cM au az.zero;dsimp only at*;obtain⟨c0,c1,c2,c3,c4,aE⟩:=H4.O.gN;go_wp2_with fail;have cN:=(Below.refl w4.heap.size w4).alloc nR (.cells #[.int .i64 0,.string ⟨#[]⟩,.string ⟨#[]⟩,.string ⟨#[]⟩,.int .i64 0,.int .i64 0,.int .i64 0,.string ⟨#[]⟩,.bool false] 113);have AW:=zH (aC.new w4 113 #[.int .i64 0,.string ⟨#[]⟩,.string ⟨#[]⟩,.string ⟨#[]⟩,.int .i64 0,.int .i64 0,.int .i64 0,.string ⟨#[]⟩,.bool false]);have H5:=zH (H4.O.keep cN);have UE:=zH (Jv.O.aj cN);have Uz:=zH (T_.O.aj cN);have UF:=zH (HV4.O.aj cN);have Uy:=zH (below_2 wq.O cN);have hfl:=T_.O.lt;clear cN Jv T_ HV4 wq H4 c0 c1 c2 c3 c4 aE;refine(gJ.O _ H5.O).mono ?_;generalize w4.alloc (.cells #[.int .i64 0,.string ⟨#[]⟩,.string ⟨#[]⟩,.string ⟨#[]⟩,.int .i64 0,.int .i64 0,.int .i64 0,.string ⟨#[]⟩,.bool false] 113)=w4b at*;have am3:W.heap.size+1<w4.heap.size:=hfl;generalize w4.heap.size=fb at*;rintro e w5 ⟨a5,ac5,rfl,hr5,hb⟩;have H6:=zH (H5.O.keep hb);have BR:=zH (UE.O.aj hb);have Ib:=zH (Uz.O.aj hb);have HV5:=zH (UF.O.aj hb);have HG5:=zH (AW.O.aj hb);have qu:=zH (below_2 Uy.O hb);clear hr5 hb H5 UE Uz UF Uy AW gJ;have Un:=oH ck nx a5 L.length ac5;obtain⟨_,_,d2,d3,_,aE⟩:=H6.O.gN;obtain⟨v0,v1,v2,v3⟩:=cS HV5.O;obtain⟨g0,g1,g2,g3,g4,g5,g6,g7,g8⟩:=cj (i:=0) (cl:=⟨#[]⟩) (su:=⟨#[]⟩) (sc:=⟨#[]⟩) (ge:=0) (ma:=0) (us:=0) (re:=⟨#[]⟩) (de:=false) HG5.O;obtain⟨t0,t1,t2,t3⟩:=cS BR.O;have htz:=BR.O.frozen;obtain⟨z0,z1,z2,z3,z4,z5,z6,z7,z8⟩:=cj (i:=0) (cl:=⟨#[]⟩) (su:=⟨#[]⟩) (sc:=⟨#[]⟩) (ge:=0) (ma:=0) (us:=0) (re:=⟨#[]⟩) (de:=false) Ib.O;have hz:=Ib.O.frozen);by_cases hk:qk=kind
   ·have gU:(qk != kind)=false:=by simpa using hk
    have HK:=zH hk;clear hk
    go_wp2_with (first
     |(go_at_call 158;(with_reducible refine(xu.O _).mono ?_);rintro e w' ⟨rfl,rfl⟩)
     |(go_at_call 158;(with_reducible refine(xq.O _).mono ?_);rintro e w' ⟨rfl,rfl⟩))
    (have Sz:tb≠W.heap.size:=by omega);(have SB:tb≠W.heap.size+1:=by omega);(have Sn:fb≠W.heap.size:=by omega);(have Sq:fb≠W.heap.size+1:=by omega);go_region;go_wp2_with fail;obtain⟨_,rfl,n1,n2,n3⟩:=eX (f0:=az.zero) BR.O Ib.O oM qk qf qg qd az.zero;exact mG (r:=r) (q:=(0,qk,qf,qg,qd)) (s:=⟨ck,nx,L⟩) (kind:=kind) (e:=7) (f:=az.zero) (bB (n3 qu.O nR (alZ _) qu.O.size)) n1.drew n2.drew rfl rfl (by rw[aY (show(7:Int)≠0 by decide)];rfl) rfl rfl (by unfold jd;rw[if_neg (show ¬ (0:Int)≠0 by decide)];first|rw[qx.O];rfl|rw[qx.O]) (by unfold gY;rw[if_neg (show ¬ (0:Int)≠0 by decide)];rw[if_neg (by rw[HK.O];exact fun h=>h rfl),qx.O])
   ·have gU:(qk != kind)=true:=by simpa using hk
    go_wp2_with (first
     |(go_at_call 158;(with_reducible refine(xu.O _).mono ?_);rintro e w' ⟨rfl,rfl⟩)
     |(go_at_call 158;(with_reducible refine(xq.O _).mono ?_);rintro e w' ⟨rfl,rfl⟩))
    (have Sz:tb≠W.heap.size:=by omega);(have SB:tb≠W.heap.size+1:=by omega);(have Sn:fb≠W.heap.size:=by omega);(have Sq:fb≠W.heap.size+1:=by omega);go_region;go_wp2_with fail;obtain⟨_,rfl,n1,n2,n3⟩:=eX (f0:=az.zero) BR.O Ib.O oM qk qf qg qd az.zero;exact mG (r:=r) (q:=(0,qk,qf,qg,qd)) (s:=⟨ck,nx,L⟩) (kind:=kind) (e:=1) (f:=az.zero) (bB (n3 qu.O nR (alZ _) qu.O.size)) n1.drew n2.drew rfl rfl (by rw[aY (show(1:Int)≠0 by decide)];rfl) rfl rfl (by unfold jd;rw[if_neg (show ¬ (0:Int)≠0 by decide)];first|rw[qx.O];rfl|rw[qx.O]) (by unfold gY;rw[if_neg (show ¬ (0:Int)≠0 by decide)];rw[if_pos hk])
 ·have e0:cJ qe=.iface 30 (.int .i64 qe):=aY hq
  rw[e0];clear e0;obtain⟨t0,t1,t2,t3⟩:=cS YS.O;have htz:=YS.O.frozen;obtain⟨z0,z1,z2,z3,z4,z5,z6,z7,z8⟩:=cj (i:=0) (cl:=⟨#[]⟩) (su:=⟨#[]⟩) (sc:=⟨#[]⟩) (ge:=0) (ma:=0) (us:=0) (re:=⟨#[]⟩) (de:=false) FK.O;have hz:=FK.O.frozen;have MR:W.heap.size+1<w1.heap.size:=FK.O.lt;have hw0:W.heap.size<w1.heap.size:=YS.O.lt;go_wp2_with fail;obtain⟨_,rfl,n1,n2,n3⟩:=eX (f0:=az.zero) YS.O FK.O oM qk qf qg qd az.zero;exact mG ((n3 jf.O nR (alZ _) oM).alloc sO _) (n1.alloc _) (n2.alloc _) rfl rfl (by rw[aY hq];rfl) rfl rfl (by unfold jd;rw[if_pos hq]) (by unfold gY;rw[if_pos hq])
end Go.Proofs.YtjligkmjlenofaaGreatDoor
