/- Part of the proof. -/
import Derived.Test.YtjligkmjlenofaaGreatDoorV08
set_option maxHeartbeats 40000000
set_option maxRecDepth 100000
open Go.Act renaming put->agu
open ByteArray renaming empty->akG
open List renaming getD_eq_getElem?_getD->akH,getElem?_eq_getElem->ag8,all_eq_true->aaJ
open Nat renaming lt_of_lt_of_le->ae7
open Bool renaming false_eq_true->akg,and_eq_true->aaB
open Go renaming Value->aai,World->aah
open Go.World renaming block_lt_of_cell?->acC
namespace Go.Proofs.YtjligkmjlenofaaGreatDoor
open Go.Proofs.Tryz
open Go.RowKit Go.Sort
variable{p:Addr}{v:aai}{j:Nat}
theorem aaT:(prog.info? 3).map (fun i=>(i.zero,i.size,i.bytes))=some (some (.int .i64 0),1,8):=kR
def alK(W0:aah)(L:List BL)(O i:aai)(w:aah):Prop:=∃j:Nat,j<=5/\i=.int .i64 j/\LN W0 L j O w
structure LB(W:aah)(st:St)(u:aai)(gn:Nat)(a b:Int)(gw:Nat)(t:ByteArray)(w:aah):Prop where
 ld:LD W st u w
 n0:w.cell? ⟨gn,0,none⟩=some (.int .i64 a)
 n1:w.cell? ⟨gn,1,none⟩=some (.int .i64 b)
 w5:w.cell? ⟨gw,5,none⟩=some (.string t)
 hn:W.heap.size<gn
 hw:W.heap.size<gw
section
variable{W w w':aah}{st:St}{u:aai}{gn gw:Nat}{a b:Int}{t:ByteArray}
theorem cell_kept(h:w.cell? p=some v)(hb:Below w.heap.size w w'):w'.cell? p=some v:=by
 rw[hb.cell (p:=p) (acC w _ h)];exact h
theorem ze{g:Nat}(h:w.cell? p=some v)(hg:w.grownBy w' (some g))(eZ:p.block≠g):w'.cell? p=some v:=by
 rw[World.cell?_of_block (w:=w) (hg.block p.block (acC w _ h) (by simpa using eZ))];exact h
theorem LB.keep(h:LB W st u gn a b gw t w)(hb:Below w.heap.size w w'):LB W st u gn a b gw t w':=⟨h.ld.keep hb,cell_kept h.n0 hb,cell_kept h.n1 hb,cell_kept h.w5 hb,h.hn,h.hw⟩
theorem LB.three(h:LB W st u gn a b gw t w):w.cell? ⟨gn,0,none⟩=some (.int .i64 a)/\w.cell? ⟨gn,1,none⟩=some (.int .i64 b)/\w.cell? ⟨gw,5,none⟩=some (.string t):=⟨h.n0,h.n1,h.w5⟩
theorem LB.drew(h:LB W st u gn a b gw t w):LB W st u gn a b gw t w.drew:=⟨h.ld.drew,h.n0,h.n1,h.w5,h.hn,h.hw⟩
theorem LB.put(h:LB W st u gn a b gw t w)(st':St){u':aai}(hr:bz w (W.heap.size+1) u' st'.ax):
  LB W st' u' gn a b gw t (((w.setCell ⟨W.heap.size,0,none⟩ (.int .i64 st'.clock)).setCell ⟨W.heap.size,1,none⟩ (.int .i64 st'.next)).setCell ⟨W.heap.size,2,none⟩ u'):=by
 obtain⟨k,g⟩:=h.ld.put st' hr;have h1:=h.hn;have h2:=h.hw;exact⟨k,ze h.n0 g sO,ze h.n1 g sO,ze h.w5 g sO,h1,h2⟩
end
def LF(W:aah)(blk:Nat->BL)(at_:Nat)(s0:St)(N:Nat)(gn:Nat)(a b:Int)(gw:Nat)(t:ByteArray)(all i:aai)(w:aah):Prop:=
 ∃(m:Nat) (st:St) (u:aai) (al:BL),m<=N/\i=.int .i64 m/\all=.string (aq al)/\lm blk at_ s0 m=some (st,al)/\LB W st u gn a b gw t w
theorem QH{x:BL}(h:jc x=false\/rQ (aa x)=false):jU x=false:=by
 unfold jU;rcases h with h|h<;>simp[h]
section
variable{tg:Int->BL->BL}{blk:Nat->BL}{k:Nat}{L:List BL}
theorem VG(hj:j<5)(hL:L.length=6)(h:jU (L.getD j [])=false):(L.take 5).all jU=false:=by
 rw[Bool.eq_false_iff];intro ha;have:=aaJ.1 ha (L.getD j []) (by rw[akH,ag8 oM];exact List.mem_take_iff_getElem.2 ⟨j,by omega,rfl⟩);rw[h]at this;cases this
theorem VF(hL:L.length=6)(h:∀j,j<5->jU (L.getD j [])=true):(L.take 5).all jU=true:=by
 rw[aaJ];intro x hx;obtain⟨j,hj,rfl⟩:=List.mem_take_iff_getElem.1 hx;have:=h j oM
 rwa[akH,ag8 oM]at this
theorem Gv(hj:j<5)(hL:L.length=6)(h:jU (L.getD j [])=false):sU tg blk k L=none:=by
 unfold sU;rw[VG hj hL h];rfl
theorem Ob(h:20<aa (L.getD 4 [])):sU tg blk k L=none:=by
 unfold sU;rw[decide_eq_false (by omega:¬ aa (L.getD 4 [])<=20),Bool.and_false];rfl
theorem Oa(hf:lm blk (aI k) ⟨aa (L.getD 2 []),aa (L.getD 3 []),[]⟩ (aa (L.getD 4 [])).toNat=none):sU tg blk k L=none:=by
 unfold sU;rw[hf];simp
theorem Si(hL:L.length=6)(h:∀j,j<5->jU (L.getD j [])=true)(h4:aa (L.getD 4 [])<=20){st:St}{al:BL}(hf:lm blk (aI k) ⟨aa (L.getD 2 []),aa (L.getD 3 []),[]⟩ (aa (L.getD 4 [])).toNat=some (st,al)):
  sU tg blk k L=if tg 1 al=L.getD 5 []/\aa (L.getD 0 []) % 2=(k:Int)then some (aa (L.getD 0 []),aa (L.getD 1 []),st)else none:=by
 unfold sU;rw[VF hL h,decide_eq_true h4,hf];rfl
end
theorem Od(B sb db:Nat)(D:Dk)(s:St)(v:aai)(n f x:Int)(down:Bool)(W:aah)(h:SD B sb db D s v n f x down W)(hf:D.fits)(k:Nat)(hk:k<2)(l:BL)(Qp:iA bt (b_ D (aI k))=some l)(MP:l.length<=240)(hl6:(parts 32 l).length=6):
  Calls prog 54 #[.pointer (some ⟨sb,0,none⟩),.int .i64 k] W (Bi W (sU bt (b_ D) k (parts 32 l))):=by
 obtain⟨i0,RV,sQ,vp,mY⟩:=info_parts aaT;have HS:=zH h;have H0:Hid (LD W ⟨0,0,[]⟩ (.slice none 0 0) (W.alloc (.cells (kY ⟨0,0,[]⟩ (.slice none 0 0)) 107))):=zH LD.start;have YR:=zH (fun w=>xd (k:Int) w oM oM);rw[XR]at YR;have IG:=Dq k;have EK:=zH (fun w hd=>nU db D (aI k) w hd oM);have EJ:=zH (fun w=>kP (D.blk.getD (aI k) akG) w (by have:=hf (aI k);omega))
 have EJ:Hid (∀w,Calls prog 85 #[.string (D.blk.getD (aI k) akG)] w fun e w'=>e=.returned (.tuple #[.string (aq l),.bool true])/\Below w.heap.size w w'):=zH fun w=>by
  have h1:=EJ.O w;have h2:iA bt (D.blk.getD (aI k) akG).data.toList=some l:=Qp;rw[h2]at h1;refine h1.mono ?_;rintro e w' ⟨⟨x2,b2,rfl,rfl,rfl⟩,hb⟩;exact⟨rfl,hb⟩
 have AX:=zH (fun w hm=>qU 32 (aq l) w.heap.size w (by rw[cI];omega) hm nR);rw[an]at AX;have HWL:=zH (bO 32 l 240 MP);generalize parts 32 l=L at*;generalize aq l=tl at*;generalize vK:D.blk.getD (aI k) akG=blk at EJ EK;obtain⟨ck,nx,Ls⟩:=s;obtain⟨c0,c1,c2,c3,c4,c5,c6,c7,z,aE⟩:=h.cells;have HF:=zH hf;clear h Qp hf vK;unfold kY at H0;dsimp only at H0
 go_in
 go_wp2_with fail;refine(YR.O _).mono ?_;rintro e w1 ⟨rfl,rfl⟩;go_wp2_with fail;refine(EK.O _ (HS.O.keep H0.O.below).fM).mono ?_;rintro e w2 ⟨rfl,rfl⟩;go_wp2_with fail;refine(EJ.O _).mono ?_;rintro e w3 ⟨rfl,hb⟩;have H3:=zH (H0.O.keep hb);clear hb;go_wp2_with fail;refine(AX.O _ (HS.O.keep H3.O.below).env.iV).mono ?_;rintro e w4 ⟨v4,rfl,kF,hb⟩;obtain⟨g4,c4',rfl,hg4,atl,hc4,ata, -⟩:=kF.parts;have H4:=zH (H3.O.keep hb);have HW6:Hid (∀w,Below w4.heap.size w4 w->∀j,j<6->w.cell? ⟨g4,j,none⟩=some (.string (aq (L.getD j [])))):=zH fun w hb j hj=>(kF.below hb).cell j oM
 have am6:W.heap.size<g4:=ae7 H3.O.cells.2.2.2.2 hg4;have hN:=zH (LN.start w4 L);clear hb H3 H0 kF c0 c1 c2 c3 c4 c5 c6 c7 z aE AX EJ YR;rw[hl6]at hc4 ⊢;go_wp2_with fail
 go_loopw [13,53] (fun O i wr=>alK w4 L O i wr) (fun _ i _=>5 - (intOf i).toNat)
 case atStart=>exact⟨0,Nat.zero_le _,rfl,hN.O⟩
 case round=>
  obtain⟨j,hj,rfl,hln⟩:=hrel;have YQ:=zH hln;clear hln
  by_cases hj5:j<5
  ·have hc:=HW6.O wr YQ.O.below j oM
   (have hws:(aq (L.getD j [])).size<=240:=by rw[cI];exact HWL.O _ (by rw[akH,ag8 oM];exact List.getElem_mem oM));rcases hE:jc (L.getD j [])with _|_
   ·have HA:=zH (fun w hv=>Bj (aq (L.getD j [])) w oM hv (by rw[an];exact hE))
    (have cT:=Gv (tg:=bt) (blk:=b_ D) (k:=k) hj5 hl6 (QH (.inl hE));generalize aq (L.getD j [])=word at*;go_wp2_with fail;refine(HA.O _ (HS.O.keep (H4.O.keep YQ.O.below).below).env.iE).mono ?_;rintro e w5 ⟨⟨te,pe,rfl⟩,hb⟩;have H5:=zH ((H4.O.keep YQ.O.below).keep hb);clear hb hc;obtain⟨m0,m1,m2,mz,mlt⟩:=H5.O.cells;go_wp2_with fail);go_region;go_wp2_with fail;exact kH (LD.same H5.O).drew (by rw[cT]) rfl rfl rfl rfl rfl
   ·have HA:=zH (fun w=>tP (aq (L.getD j [])) w oM (by rw[an];exact hE))
    rw[an]at HA;rcases hM:rQ (aa (L.getD j []))with _|_
    ·have cT:=Gv (tg:=bt) (blk:=b_ D) (k:=k) hj5 hl6 (QH (.inr hM))
     have hm2:aa (L.getD j [])<0\/1099511627777<aa (L.getD j []):=by
      unfold rQ at hM;rw[Bool.and_eq_false_iff,decide_eq_false_iff_not,decide_eq_false_iff_not]at hM;omega
     clear hM;generalize aa (L.getD j [])=xj at*;generalize aq (L.getD j [])=word at*;go_wp2_with fail;refine(HA.O _).mono ?_;rintro e w5 ⟨rfl,hb⟩;have H5:=zH ((H4.O.keep YQ.O.below).keep hb);clear hb hc;obtain⟨m0,m1,m2,mz,mlt⟩:=H5.O.cells;rcases hm2 with hm2|hm2
     all_goals
      go_wp2_with fail;go_region;go_wp2_with fail;exact kH (LD.same H5.O).drew (by rw[cT]) rfl rfl rfl rfl rfl
    ·have HNM:Hid (jU (L.getD j [])=true):=zH (by unfold jU;rw[hE,hM];rfl)
     have hM':=cK.1 hM;clear hM;generalize R7:aa (L.getD j [])=xj at*;have HXJ:=zH R7;clear R7;generalize aq (L.getD j [])=word at*;go_wp2_with fail;refine(HA.O _).mono ?_;rintro e w5 ⟨rfl,hb⟩;have EL:=zH (YQ.O.call hb);have kF:=EL.O.row;have oU:=EL.O.below.size;clear hb hc
     go_wp2_with
      (at_builtin;refine wpList_append_own _ rfl _ _ 120 rfl w4.heap.size 3 i0 (.int .i64 0) 1 8 underlying120 RV sQ vp mY rfl dC _ _ _ rfl (kF.alloc _) ⟨w5.heap.size,0,none⟩ 1 1 [.int .i64 xj] rfl rfl (cell_one_new _ _ _) (fun x hx=>by simp at hx;subst hx;rfl) mL oM sO ?_;intro v' w7 eE cZ mB
       have HO:=zH eE;have HG:=zH cZ;clear eE cZ mB kF)
     go_roundw;(case rel=>exact⟨j+1,by omega,by go_num,LN.next EL.O oM HNM.O (by rw[HXJ.O]) HO.O HG.O⟩);case measure=>simp[intOf];omega
  ·obtain rfl:j=5:=by omega
   obtain⟨gn,cn,rfl,hcn,hgn,atm,n0,n1,n2,n3,n4⟩:=YQ.O.gN hl6;have HNU:=zH YQ.O.nums;have H5:=zH (H4.O.keep YQ.O.below);have hw5:=HW6.O wr YQ.O.below 5 oM;have am_:W.heap.size<gn:=ae7 H4.O.cells.2.2.2.2 hgn;have acd:=zH (fun h=>Ob (tg:=bt) (blk:=b_ D) (k:=k) (L:=L) h);have HFN:=zH (fun m (hm:m<=(aa (L.getD 4 [])).toNat) hf=>Oa (tg:=bt) (CB (blk:=b_ D) (at_:=aI k) (s:=⟨aa (L.getD 2 []),aa (L.getD 3 []),[]⟩) (n:=m) hf hm));have HEN:=zH (fun h4 st al hf=>Si (tg:=bt) (blk:=b_ D) (k:=k) hl6 HNU.O h4 (st:=st) (al:=al) hf)
   have he0:0<=aa (L.getD 4 []):=by
    have:=HNU.O 4 oM;unfold jU at this;rw[aaB]at this;exact(cK.1 this.2).1
   have ha0:0<=aa (L.getD 0 []):=by
    have:=HNU.O 0 oM;unfold jU at this;rw[aaB]at this;exact(cK.1 this.2).1
   (clear YQ HW6 EK H4 hN HNU EJ;obtain⟨m0,m1,m2,mz,mlt⟩:=H5.O.cells;generalize hlo:sU bt (b_ D) k L=o at*;generalize hna:aa (L.getD 0 [])=a at*;generalize hnb:aa (L.getD 1 [])=b at*;generalize hnc:aa (L.getD 2 [])=c at*;generalize hnd:aa (L.getD 3 [])=d at*;generalize eZ:aa (L.getD 4 [])=en at*;generalize dX:aq (L.getD 5 [])=tw at*;have Ig:Hid (tw=aq (L.getD 5 [])):=zH dX.symm;clear hlo hna hnb hnc hnd eZ dX;obtain⟨N,rfl⟩:∃N:Nat,en=(N:Int):=⟨en.toNat,by omega⟩);by_cases asS:20<N
   ·go_wp2_with fail
    go_region;go_wp2_with fail;exact kH (LD.same H5.O).drew (by rw[acd.O oM]) rfl rfl rfl rfl rfl
   ·go_wp2_with fail
    go_region;(go_wp2_with fail;have aha:Hid (LB W ⟨0,0,[]⟩ (.slice none 0 0) gn a b g4 tw wr):=zH ⟨H5.O,n0,n1,hw5,am_,am6⟩;have HLB:=zH (LB.drew (aha.O.put ⟨c,d,[]⟩ (u':=.slice none 0 0) (bz.nil _ _)));dsimp only at HLB;clear aha H5 n0 n1 n2 n3 n4 hw5 m0 m1 m2 mz mlt;generalize (((wr.setCell ⟨W.heap.size,0,none⟩ (.int .i64 c)).setCell ⟨W.heap.size,1,none⟩ (.int .i64 d)).setCell ⟨W.heap.size,2,none⟩ (.slice none 0 0)).drew=w6 at*);(go_loopw [18,93] (fun all i wr=>LF W (b_ D) (aI k) ⟨c,d,[]⟩ N gn a b g4 tw all i wr) (fun _ i _=>N - (intOf i).toNat));case atStart=>exact⟨0,_,_,[],Nat.zero_le _,rfl,rfl,CC,HLB.O⟩
    case round=>
     (obtain⟨m,st,u,al,hm,rfl,rfl,hfs,hlb⟩:=hrel;obtain⟨ua,uc,rfl⟩:=hlb.ld.row.slice;have HFS:=zH hfs;have HL:=zH hlb;clear hlb;obtain⟨fR,Y5,cN⟩:=Kr (abP c d) rfl (wD HF.O) m oM st al hfs;have PG:=zH fR;clear hfs fR;have as6:(aq al).size<=5000:=by rw[cI];omega);by_cases hmN:m<N
     ·obtain⟨c0,c1,c2,c3,c4,c5,c6,c7,z,aE⟩:=(HS.O.keep HL.O.ld.below).cells
      (have EK:=zH (fun w hd=>nU db D (aI k+1+m) w hd oM);have YX:((aI k+1+m:Nat):Int)=(aI k:Int)+1+(m:Int):=by omega);(rw[YX]at EK;have hbs:=HF.O (aI k+1+m);have UB:Hid (∀w,WB w w->bX w->Calls prog 87 #[.string (D.blk.getD (aI k+1+m) akG)] w (o4 w (jM (b_ D (aI k+1+m))) (if kK (b_ D (aI k+1+m))then 0 else 3))):=zH fun w hw he=>P9 _ w oM hw he);have qF:=Cz HFS.O
      have CI:aq al++(D.blk.getD (aI k+1+m) akG++⟨#[10]⟩)=aq (al++b_ D (aI k+1+m)++[10]):=by
       rw[<-pO,<-pO,ByteArray.append_assoc];unfold b_;rw[gC];rfl
      have HAP:=zH CI;have BQ:=HFN.O (m+1) oM;have Zm:=zH (fun h=>GN (l:=b_ D (aI k+1+m)) h);rw[qF]at BQ;have JK:=zH qF;clear CI YX qF;generalize D.blk.getD (aI k+1+m) akG=bm at*;generalize jM (b_ D (aI k+1+m))=ev at*;generalize kK (b_ D (aI k+1+m))=rb at*;rcases rb with _|_
      ·simp only[akg,if_false]at UB
       (simp only[Bool.false_and,akg,if_false]at BQ;clear JK HAP Zm;obtain⟨kd,⟨i,cl,su,sc,ge,ma,us,re,de⟩,id,ti⟩:=ev;go_wp2_with fail;refine(EK.O _ (HS.O.keep HL.O.ld.below).fM).mono ?_;rintro e w1 ⟨rfl,rfl⟩;go_wp2_with fail;refine(UB.O _ (HS.O.keep HL.O.ld.below).env.wb (HS.O.keep HL.O.ld.below).env.iE).mono ?_;rintro e w2 ⟨rfl,hb⟩;have HL2:=zH (HL.O.keep hb);clear hb c0 c1 c2 c3 c4 c5 c6 c7 z aE UB EK HL;have PD:=zH (HL2.O.keep (bR.alloc nR (.cells (aN ⟨kd,⟨i,cl,su,sc,ge,ma,us,re,de⟩,id,ti⟩) 115)));unfold bH aN;unfold aN at PD;dsimp only at PD ⊢;obtain⟨JB,JC,sL⟩:=st;rw[show cJ 3=.iface 30 (.int .i64 3)from rfl];go_wp2_with fail;generalize w2.alloc (.cells #[.int .i64 kd,.int .i64 i,.string cl,.string su,.string sc,.int .i64 ge,.int .i64 ma,.int .i64 us,.string re,.bool de,.int .i64 id,.int .i64 ti] 115)=w3 at*;obtain⟨m0,m1,m2,mz,mlt⟩:=PD.O.ld.cells);go_region;go_wp2_with fail;exact kH (LD.same PD.O.ld).drew (by rw[BQ trivial]) rfl rfl rfl rfl rfl
      ·simp only[if_true]at UB
       (have yT:=Zm.O rfl);by_cases hkd:ev.kind=1
       ·rw[decide_eq_true hkd]at JK
        simp only[Bool.and_self,if_true]at JK
        have HA:Hid (∀(w:aah) (v:aai),bz w (W.heap.size+1) v st.ax->Calls prog 56 #[je st v,bH ev] w (oZ w (av st ev).clock (av st ev).next (av st ev).ax)):=
         zH fun w v hr=>(Cv _ v st ev w hr PG.O (IS yT) (IT yT)).mono fun _ _ h=>j7 h
        clear BQ Zm yT;generalize av st ev=st' at*;obtain⟨ZM,nx',L'⟩:=st';unfold oZ je kY bH aN at HA;obtain⟨kd,⟨i,cl,su,sc,ge,ma,us,re,de⟩,id,ti⟩:=ev;obtain⟨JB,JC,sL⟩:=st;dsimp only at hkd HA;subst hkd;go_wp2_with fail;refine(EK.O _ (HS.O.keep HL.O.ld.below).fM).mono ?_;rintro e w1 ⟨rfl,rfl⟩;go_wp2_with fail;refine(UB.O _ (HS.O.keep HL.O.ld.below).env.wb (HS.O.keep HL.O.ld.below).env.iE).mono ?_;rintro e w2 ⟨rfl,hb⟩;have HL2:=zH (HL.O.keep hb);clear hb c0 c1 c2 c3 c4 c5 c6 c7 z aE UB EK HL;have PD:=zH (HL2.O.keep (bR.alloc nR (.cells (aN ⟨1,⟨i,cl,su,sc,ge,ma,us,re,de⟩,id,ti⟩) 115)));have HE3:=zH (aC.new w2 115 (aN ⟨1,⟨i,cl,su,sc,ge,ma,us,re,de⟩,id,ti⟩));unfold bH aN;unfold aN at PD;dsimp only at PD ⊢;rw[show cJ 0=.nilIface from rfl];obtain⟨m0,m1,m2,mz,mlt⟩:=HL2.O.ld.cells;go_wp2_with fail;refine(HA.O _ _ PD.O.ld.row).mono ?_;rintro e w4 ⟨a1,c1,rfl,jT,hb⟩;have iS:=ae7 HL2.O.ld.fH.lt (show w2.heap.size<=(w2.alloc (.cells (aN ⟨1,⟨i,cl,su,sc,ge,ma,us,re,de⟩,id,ti⟩) 115)).heap.size by simp);have HL4:=zH (PD.O.keep hb);have vo:=jT.mono (B':=W.heap.size+1) iS;have HL5:=zH (HL4.O.put ⟨ZM,nx',L'⟩ vo);clear m0 m1 m2 mz mlt jT vo hb;obtain⟨m0,m1,m2,mz,mlt⟩:=HL4.O.ld.cells;go_wp2_with fail;refine⟨?_,?measure⟩
        repeat apply Exists.intro
        refine⟨?rel,rfl⟩;(case rel=>exact⟨m+1,_,_,_,by omega,by go_num,by rw[HAP.O],JK.O,HL5.O⟩);case measure=>simp[intOf];omega
       ·rw[decide_eq_false hkd]at BQ
        (simp only[Bool.and_false,akg,if_false]at BQ;clear JK HAP Zm yT;obtain⟨kd,⟨i,cl,su,sc,ge,ma,us,re,de⟩,id,ti⟩:=ev;dsimp only at hkd;go_wp2_with fail;refine(EK.O _ (HS.O.keep HL.O.ld.below).fM).mono ?_;rintro e w1 ⟨rfl,rfl⟩;go_wp2_with fail;refine(UB.O _ (HS.O.keep HL.O.ld.below).env.wb (HS.O.keep HL.O.ld.below).env.iE).mono ?_;rintro e w2 ⟨rfl,hb⟩;have HL2:=zH (HL.O.keep hb);clear hb c0 c1 c2 c3 c4 c5 c6 c7 z aE UB EK HL;have PD:=zH (HL2.O.keep (bR.alloc nR (.cells (aN ⟨kd,⟨i,cl,su,sc,ge,ma,us,re,de⟩,id,ti⟩) 115)));unfold bH aN;unfold aN at PD;dsimp only at PD ⊢;obtain⟨JB,JC,sL⟩:=st;rw[show cJ 0=.nilIface from rfl];go_wp2_with fail;generalize w2.alloc (.cells #[.int .i64 kd,.int .i64 i,.string cl,.string su,.string sc,.int .i64 ge,.int .i64 ma,.int .i64 us,.string re,.bool de,.int .i64 id,.int .i64 ti] 115)=w3 at*;obtain⟨m0,m1,m2,mz,mlt⟩:=PD.O.ld.cells);go_region;go_wp2_with fail;exact kH (LD.same PD.O.ld).drew (by rw[BQ trivial]) rfl rfl rfl rfl rfl
     ·obtain rfl:m=N:=by omega
      have JH:=zH (HEN.O oM st al (by rw[Int.toNat_natCast];exact HFS.O));have MI:=zH (fun w=>vr 1 (aq al) w oM);rw[an]at MI;clear HEN HFN acd HLB;obtain⟨JB,JC,sL⟩:=st;have atY:a.tmod 2=a % 2:=Int.tmod_eq_emod_of_nonneg ha0
      have hqt:((⟨(bt 1 al).toArray⟩:ByteArray).toList == tw.toList)=decide (bt 1 al=L.getD 5 []):=by
       rw[Ig.O,ByteArray.toList_eq,toList_txt,Bool.eq_iff_iff];simp
      generalize (⟨(bt 1 al).toArray⟩:ByteArray)=tgs at*;generalize aq al=als at*;go_wp2_with fail;by_cases hc:bt 1 al=L.getD 5 []
      ·rw[decide_eq_true hc]at hqt
       (refine bC (LB W ⟨JB,JC,sL⟩ (.slice ua sL.length uc) gn a b g4 tw) [] kR ?_;have a8:=HL.O.drew;refine cg 2 0 aS ?_;refine cg 2 1 aS ?_;refine cg 2 2 aS ?_;refine cg 2 3 aS ?_;refine cg 2 4 aS ?_;refine cg 2 5 aS ?_;refine cg 2 6 aS ?_;refine cg 2 7 aS ?_;refine cg 2 9 aS ?_;refine cg 2 10 aS ?_;refine cg 2 11 aS ?_;refine aB 8 ?_;intro K8 KD;go_simp;refine(MI.O _).mono ?_;rintro e w5 ⟨rfl,hb⟩;have kW:=a8.keep hb);(try dsimp only);(refine KD.O _ _ (fun _=>kW) ?_);(try simp only[agu]);(refine cg 2 12 aS ?_;refine cg 2 13 aS ?_;refine dA 2 (i:=14) (v:= ?v14) rfl kR kR kR kR kR (fun _ _ _ h=>h) (by go_simp) ?aoa aS ?aoM);(case aoa=>(intro w dm;obtain⟨s0,s1,s2⟩:=dm.three;obtain⟨m0,m1,m2,mz,mlt⟩:=dm.ld.cells;go_simp;(try with_reducible rfl)));(simp only[agu];refine dA 2 (i:=15) (v:= ?v15) rfl kR kR kR kR kR (fun _ _ _ h=>h) (by go_simp) ?aob aS ?aoN);(case aob=>(intro w dm;obtain⟨s0,s1,s2⟩:=dm.three;obtain⟨m0,m1,m2,mz,mlt⟩:=dm.ld.cells;go_simp;(try with_reducible rfl)));(simp only[agu];refine dA 2 (i:=16) (v:= ?v16) rfl kR kR kR kR kR (fun _ _ _ h=>h) (by go_simp) ?aoc aS ?aoO);(case aoc=>(intro w dm;obtain⟨s0,s1,s2⟩:=dm.three;obtain⟨m0,m1,m2,mz,mlt⟩:=dm.ld.cells;go_simp;(try with_reducible rfl)));(simp only[agu];refine dA 2 (i:=17) (v:= ?v17) rfl kR kR kR kR kR (fun _ _ _ h=>h) (by go_simp) ?aod aS ?aoP);(case aod=>(intro w dm;obtain⟨s0,s1,s2⟩:=dm.three;obtain⟨m0,m1,m2,mz,mlt⟩:=dm.ld.cells;go_simp;(try with_reducible rfl)));(simp only[agu];refine dA 2 (i:=18) (v:= ?EC) rfl kR kR kR kR kR (fun _ _ _ h=>h) (by go_simp) ?aoe aS ?aoQ);(case aoe=>(intro w dm;obtain⟨s0,s1,s2⟩:=dm.three;obtain⟨m0,m1,m2,mz,mlt⟩:=dm.ld.cells;go_simp;(try with_reducible rfl)));(simp only[agu];refine dA 2 (i:=19) (v:= ?ED) rfl kR kR kR kR kR (fun _ _ _ h=>h) (by go_simp) ?aof aS ?aoR);(case aof=>(intro w dm;obtain⟨s0,s1,s2⟩:=dm.three;obtain⟨m0,m1,m2,mz,mlt⟩:=dm.ld.cells;go_simp;(try with_reducible rfl)));(simp only[agu];refine dA 2 (i:=20) (v:= ?v20) rfl kR kR kR kR kR (fun _ _ _ h=>h) (by go_simp) ?aog aS ?aoS);(case aog=>(intro w dm;obtain⟨s0,s1,s2⟩:=dm.three;obtain⟨m0,m1,m2,mz,mlt⟩:=dm.ld.cells;go_simp;(try with_reducible rfl)));simp only[agu];refine aB 21 ?_;intro K21 VL;go_simp;(try dsimp only);(refine VL.O _ _ (fun _=>kW) ?_);(try simp only[agu]);refine aB 22 ?_;intro K22 aec;go_simp;(try dsimp only);(refine aec.O _ _ (fun _=>kW) ?_);(try simp only[agu]);(obtain⟨m0,m1,m2,mz,mlt⟩:=kW.ld.cells;have M0:=kW.put ⟨JB,JC,sL⟩ kW.ld.row;refine aB 23 ?_;intro K23 aed;go_simp);(try dsimp only);(refine aed.O _ _ (fun _=>M0) ?_);(try simp only[agu]);refine aB 24 ?_;intro K24 aee;go_simp;(try dsimp only);(refine aee.O _ _ (fun _=>M0) ?_);(try simp only[agu]);refine bJ kR ?_ _;go_wp2_with fail;refine kH (o:=o) M0.ld ?_ rfl rfl rfl rfl rfl;rw[JH.O];by_cases Gp:a % 2=(k:Int)
       ·rw[if_pos ⟨hc,Gp⟩]
        exact⟨by simpa using Gp,rfl⟩
       ·rw[if_neg fun h=>Gp h.2]
        simpa using Gp
      ·rw[decide_eq_false hc]at hqt
       (refine bC (LB W ⟨JB,JC,sL⟩ (.slice ua sL.length uc) gn a b g4 tw) [] kR ?_;have a8:=HL.O.drew;refine cg 2 0 aS ?_;refine cg 2 1 aS ?_;refine cg 2 2 aS ?_;refine cg 2 3 aS ?_;refine cg 2 4 aS ?_;refine cg 2 5 aS ?_;refine cg 2 6 aS ?_;refine cg 2 7 aS ?_;refine cg 2 9 aS ?_;refine cg 2 10 aS ?_;refine cg 2 11 aS ?_;refine aB 8 ?_;intro K8 KD;go_simp;refine(MI.O _).mono ?_;rintro e w5 ⟨rfl,hb⟩;have kW:=a8.keep hb);(try dsimp only);(refine KD.O _ _ (fun _=>kW) ?_);(try simp only[agu]);(refine cg 2 12 aS ?_;refine cg 2 13 aS ?_;refine jS 2 (i:=14) rfl kR kR kR kR kR (fun _ _ _ h=>h) (by go_simp) aS ?_;simp only[agu];refine jS 2 (i:=15) rfl kR kR kR kR kR (fun _ _ _ h=>h) (by go_simp) aS ?_;simp only[agu];refine jS 2 (i:=16) rfl kR kR kR kR kR (fun _ _ _ h=>h) (by go_simp) aS ?_;simp only[agu];refine jS 2 (i:=17) rfl kR kR kR kR kR (fun _ _ _ h=>h) (by go_simp) aS ?_;simp only[agu];refine jS 2 (i:=18) rfl kR kR kR kR kR (fun _ _ _ h=>h) (by go_simp) aS ?_;simp only[agu];refine jS 2 (i:=19) rfl kR kR kR kR kR (fun _ _ _ h=>h) (by go_simp) aS ?_;simp only[agu];refine dA 2 (i:=20) (v:= ?n20) rfl kR kR kR kR kR (fun _ _ _ h=>h) (by go_simp) ?anr aS ?auF);(case anr=>(intro w dm;obtain⟨s0,s1,s2⟩:=dm.three;obtain⟨m0,m1,m2,mz,mlt⟩:=dm.ld.cells;go_simp;(try with_reducible rfl)));simp only[agu];refine aB 21 ?_;intro K21 VL;go_simp;(try dsimp only);(refine VL.O _ _ (fun _=>kW) ?_);(try simp only[agu]);refine aB 22 ?_;intro K22 aec;go_simp;(try dsimp only);(refine aec.O _ _ (fun _=>kW) ?_);(try simp only[agu]);(obtain⟨m0,m1,m2,mz,mlt⟩:=kW.ld.cells;have M0:=kW.put ⟨JB,JC,sL⟩ kW.ld.row;refine aB 23 ?_;intro K23 aed;go_simp);(try dsimp only);(refine aed.O _ _ (fun _=>M0) ?_);(try simp only[agu]);refine aB 24 ?_;intro K24 aee;go_simp;(try dsimp only);(refine aee.O _ _ (fun _=>M0) ?_);(try simp only[agu]);refine bJ kR ?_ _;go_wp2_with fail;refine kH (o:=o) M0.ld ?_ rfl rfl rfl rfl rfl;rw[JH.O,if_neg fun h=>hc h.1]
theorem O2(B sb db:Nat)(D:Dk)(s:St)(v:aai)(n f x:Int)(down:Bool)(W:aah)(h:SD B sb db D s v n f x down W)(hf:D.fits)(k:Nat)(hk:k<2):
  Calls prog 54 #[.pointer (some ⟨sb,0,none⟩),.int .i64 k] W (Bi W (jm bt (b_ D) k)):=by
 rcases ho:iA bt (b_ D (aI k))with _|l
 ·rw[Oc bt ho]
  exact La B sb db D s v n f x down W h hf k hk [] false ho (fun _=>rfl) dC (.inl rfl)
 ·have hl:=GA ho
  have hb:=wD hf (aI k)
  by_cases h6:(parts 32 l).length=6
  ·rw[K_ bt ho h6]
   exact Od B sb db D s v n f x down W h hf k hk l ho oM h6
  ·rw[Sj bt ho h6]
   exact La B sb db D s v n f x down W h hf k hk l true ho (fun h=>by cases h) oM (.inr h6)
end Go.Proofs.YtjligkmjlenofaaGreatDoor
