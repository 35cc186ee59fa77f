/-
  rotorref.ReadToken where the tag may be: the walk.
-/
import Derived.Test.YtepjcdjpikbbjaaGreatDoorU00
import Derived.Test.YtepjcdjpikbbjaaGreatDoorU27
import Derived.Deep.RegionHeld3
set_option maxHeartbeats 8000000
set_option maxRecDepth 100000
namespace Go.Proofs.YtepjcdjpikbbjaaGreatDoor
open Go.Proofs.Tryz
open Go.RowKit Go.Sort
structure RX (W:World) (nb:Nat) (n0 n1 n2:Int) (w:World):Prop where
 rk:RK W w
 arr:aj w nb 244 #[.int .i64 n0,.int .i64 n1,.int .i64 n2]
theorem RX.keep {W w w':World} {nb:Nat} {n0 n1 n2:Int} (h:RX W nb n0 n1 n2 w) (hb:Below w.heap.size w w'):RX W nb n0 n1 n2 w':=⟨h.rk.keep hb,h.arr.below' hb⟩
theorem RX.named {W w:World} {nb:Nat} {n0 n1 n2:Int} (_h:RX W nb n0 n1 n2 w): ∃ x,x=w:=⟨w,rfl⟩
theorem RX.drew {W w:World} {nb:Nat} {n0 n1 n2:Int} (h:RX W nb n0 n1 n2 w) (n:Nat):RX W nb n0 n1 n2 (w.drewN n):=h.keep (aF (Below.refl _ _) n)
theorem RX.facts {W w:World} {nb:Nat} {n0 n1 n2:Int} (h:RX W nb n0 n1 n2 w):w.cell? ⟨nb,0,none⟩=some (.int .i64 n0)∧w.cell? ⟨nb,1,none⟩=some (.int .i64 n1)∧w.cell? ⟨nb,2,none⟩=some (.int .i64 n2)∧nb<w.heap.size:=
 ⟨h.arr.cell 0,h.arr.cell 1,h.arr.cell 2,h.arr.lt⟩
theorem jz {W w w':World} {nb tb:Nat} {n0 n1 n2:Int} {x y z u:Value} (h0:w.cell? ⟨tb,0,none⟩=some x) (h1:w.cell? ⟨tb,1,none⟩=some y) (h2:w.cell? ⟨tb,2,none⟩=some z) (h3:w.cell? ⟨tb,3,none⟩=some u) (h:RX W nb n0 n1 n2 w) (hb:Below w.heap.size w w'):
  w'.cell? ⟨tb,0,none⟩=some x∧w'.cell? ⟨tb,1,none⟩=some y∧w'.cell? ⟨tb,2,none⟩=some z∧w'.cell? ⟨tb,3,none⟩=some u∧RX W nb n0 n1 n2 w':=by
 have hlt:tb<w.heap.size:=World.block_lt_of_cell? w _ h0;exact⟨(hb.cell (p:=⟨tb,0,none⟩) hlt).trans h0,(hb.cell (p:=⟨tb,1,none⟩) hlt).trans h1,(hb.cell (p:=⟨tb,2,none⟩) hlt).trans h2,(hb.cell (p:=⟨tb,3,none⟩) hlt).trans h3,h.keep hb⟩
theorem pj {a b c:Int} (h:bN 2 a b c=true):ba c=true:=by
 simp[bN]at h;exact h.1.1
theorem oQ {w w':World} {tb:Nat} {x0 x1 x2 x3:Value} (h:w.cell? ⟨tb,0,none⟩=some x0∧w.cell? ⟨tb,1,none⟩=some x1∧w.cell? ⟨tb,2,none⟩=some x2∧w.cell? ⟨tb,3,none⟩=some x3) (hb:Below w.heap.size w w'):
  w'.cell? ⟨tb,0,none⟩=some x0∧w'.cell? ⟨tb,1,none⟩=some x1∧w'.cell? ⟨tb,2,none⟩=some x2∧w'.cell? ⟨tb,3,none⟩=some x3:=by
 obtain⟨h0,h1,h2,h3⟩:=h;have hlt:tb<w.heap.size:=World.block_lt_of_cell? w _ h0;exact⟨(hb.cell (p:=⟨tb,0,none⟩) hlt).trans h0,(hb.cell (p:=⟨tb,1,none⟩) hlt).trans h1,(hb.cell (p:=⟨tb,2,none⟩) hlt).trans h2,(hb.cell (p:=⟨tb,3,none⟩) hlt).trans h3⟩
theorem Fi (key:Int) {T B:ByteArray} {L:List (List UInt8)} (hL:parts 46 B.data.toList=L):(T.toList == (ke key B).toList)=decide (T.data.toList=aQ key (bM 46 L)):=by
 rw[←hL,hJ,ByteArray.toList_eq,ByteArray.toList_eq];have:(ke key B).data.toList=aQ key B.data.toList:=by simp[ke]
 rw[this,Bool.eq_iff_iff];simp
theorem uX (key:Int) (s B T:ByteArray) (k:Nat) (W:World) (hs:s.size≤5000) (h:Jn s B T k) (hb:lE T.data.toList=true) (hm:dt W) (hT:bH W) (hT2:cW W) (hv:bf W):
  Calls prog 141 #[.int .i64 key,.string s] W (fK W (iV (fun B=>aQ key B) (parts 46 s.data.toList))):=by
 have HR:=zH (RK.start hm hT hT2 hv);have HL:=zH (fun w=>Tryz.strings_LastIndexByte s 46 oM w);rw[h.at_]at HL;have hk:=h.lt;have hE:=h.tag;have hE2:=h.body;have HPT:=zH h.parts;have HTB:=zH hb;have hz:T.size=s.size - (k+1):=by rw[←hE,ByteArray.size_extract];omega
 have hzB:B.size=k:=by rw[←hE2,ByteArray.size_extract];omega
 have hBs:B.size≤5000:=by omega
 have hk0: ¬ (k:Int)<0:=by omega
 have hTs:T.size≤5000:=by omega
 have h16:T.size=16:=by
  unfold lE at hb;rw[Bool.and_eq_true]at hb;have:=hb.1;rw[decide_eq_true_eq,aq]at this;exact this
 have e16:((T.size:Int) != 16)=false:=by simp;omega
 have ht16:16≤T.size:=by omega
 have hlen:=be 46 _ 5000 (by rw[aq];exact hBs:B.data.toList.length≤5000);have HLN:=zH hlen;have hpl:=fP 46 B.data.toList;rw[aq]at hpl;have hpp:=ph 46 B.data.toList;have HSP:=zH (fun w (hm:dt w) (hw:W.heap.size+1≤w.heap.size)=>fT 46 B (W.heap.size+1) w oM hm hw);clear h hm hT hT2 hv hb hz h16 hzB hlen;go_enter Tryz.func141,Tryz.ntmps141;go_wp2_with (go_at_call 155;refine(HL.out _).mono ?_;rintro e w1 ⟨rfl,rfl⟩);clear hE
 go_loop [30] (fun i=>Fq T i) (fun i=>16 - (intOf i).toNat)
 case atStart=>exact⟨0,by omega,rfl,fun m _ hm=>by omega⟩
 case round=>
  obtain⟨j,hj,rfl,hno⟩:=hrel;clear hno
  by_cases hlt:j<16
  ·have hjT:j<T.size:=by omega
   have hcase:=wo T j hjT;rw[E6 HTB.out j hjT]at hcase;have HI:=zH (fun w=>Tryz.strings_IndexByte ⟨#[48,49,50,51,52,53,54,55,56,57,97,98,99,100,101,102]⟩ (T[j].toNat:Int) w);generalize Lib.indexByte (⟨#[48,49,50,51,52,53,54,55,56,57,97,98,99,100,101,102]⟩:ByteArray).data.toList ((T[j].toNat:Int).toNat.toUInt8)=n at*;have hn:0≤n:=by simpa using hcase.symm
   have hn2: ¬ n<0:=by omega
   clear hcase;go_wp2_with (go_at_call 194;refine(HI.out _).mono ?_;rintro e w2 ⟨rfl,rfl⟩)
   go_round
   case rel=>exact⟨j+1,by omega,by go_num,fun m hm hmj=>E6 HTB.out m hm⟩
   case measure=>simp[intOf];omega
  ·generalize hL:parts 46 B.data.toList=L at*
   have HL2:=zH hL;clear hL
   go_wp2_with
    (go_at_call 13;refine(HSP.out _ HR.out.maxl (by simp)).mono ?_;rintro e w3 ⟨v,rfl,hr,hb⟩
     have HR3:=zH (HR.out.keep hb);obtain⟨g,cap,rfl,hg1,hg2,hcap,hmax,_⟩:=hr.parts;have HROW:=zH hr;clear hr hb)
   all_goals
    have HRN:=zH (RN.start HR3.out HROW.out hg1 hg2);have hnb:w3.heap.size=w3.heap.size:=rfl;generalize w3.alloc (.cells #[.int .i64 0,.int .i64 0,.int .i64 0] 244)=w4 at*;generalize w3.heap.size=nb at*;clear HR3 HROW hnb
    go_loopw [47] (fun i w=>Js W L (.slice (some ⟨g,0,none⟩) L.length cap) nb i w) (fun i _=>L.length - (intOf i).toNat)
    case atStart=>exact⟨0,Nat.zero_le _,rfl,HRN.out⟩
    case round=>
     obtain⟨m,hm,rfl,hrn⟩:=hrel;have HRN2:=zH hrn
     by_cases hml:m<L.length - 1
     ·first
      |(exfalso;omega)
      |(have hc:=hrn.row.cell (m+1) oM
        have hc':wr.cell? ⟨g,1+m,none⟩=some (.string (ah (L.getD (m+1) []))):=by rw[Nat.add_comm 1 m];exact hc
        have hcl:=HLN.out (L.getD (m+1) []) (by simp[List.getD,show m+1<L.length by omega]);have hts:=av (L.getD (m+1) []);have htd:=ak (L.getD (m+1) []);generalize hx:L.getD (m+1) []=x at*;have HX:=zH hx;have HTD:=zH htd;have hxs:(ah x).size≤1000000:=by omega
        clear hx htd hts;generalize ah x=y at*
        by_cases h3:m<3
        ·have HAT:=zH (fun w (hv:bf w)=>Br y w hxs hv)
         have harr: ∀ w,RN W L (.slice (some ⟨g,0,none⟩) L.length cap) nb (kW L m) w→w.cell? ⟨nb,m,none⟩=some (.int .i64 0)∧w.frozen? ⟨nb,m,none⟩=false∧nb<w.heap.size:=fun w h=>by
          refine⟨?_,h.arr.frozen m,h.arr.lt⟩;rw[h.arr.cell m];have:m=0∨m=1∨m=2:=by omega
          rcases this with rfl|rfl|rfl<;>simp[kW,cx]
         have HARR:=zH harr;clear harr
         go_wp2_with
          (go_at_call 51;refine(HAT.out _ HRN2.out.rk.errs).mono ?_;rintro e w5 ⟨⟨ev,rfl⟩,hb5⟩
           have HRN3:=zH (HRN2.out.keep hb5);obtain⟨q1,q2,q3⟩:=HARR.out _ HRN3.out;clear hb5)
         go_roundw
         case rel=>
          refine⟨m+1,by omega,by go_num,?_⟩;have h:=HRN3.out.set m (.int .i64 (ab y.data.toList));rw[HTD.out,←HX.out,BE L m h3]at h;rw[HTD.out,←HX.out];exact h
         case measure=>simp[intOf];omega
        ·go_wp2_with fail
         go_roundw
         case rel=>exact⟨m+1,by omega,by go_num,by rw[CI L m h3];exact HRN2.out⟩
         case measure=>simp[intOf];omega)
     ·have em:m=L.length - 1:=by omega
      clear hrn;have HTC:=zH (Be B L HL2.out);rw[←em]at HTC;have HRX:Hid (RX W nb (cx L m 0) (cx L m 1) (cx L m 2) wr):=zH ⟨HRN2.out.rk,HRN2.out.arr⟩;clear em HRN2 HRN;go_wp2_with fail;generalize cx L m 0=n0 at*;generalize cx L m 1=n1 at*;generalize cx L m 2=n2 at*;refine wp_loop_rounds 3 ?_;rcases HTC.out with⟨⟨hr1,hb1⟩,htok⟩|⟨miss1,⟨hr2,hb2⟩,htok⟩|⟨miss1,miss2,htok⟩
      ·rw[rounds_succ]
       obtain⟨a0,a1,a2,lnb⟩:=HRX.out.facts;go_wp2_with fail;have HX1h:=zH (HRX.out.keep ((Below.refl _ _).alloc (Nat.le_refl _) (.cells #[.int .i64 1,.int .i64 n0,.int .i64 n1,.int .i64 0] 109)));have HT1h:=zH (aj.new wr 109 #[.int .i64 1,.int .i64 n0,.int .i64 n1,.int .i64 0]);generalize wr.alloc (.cells #[.int .i64 1,.int .i64 n0,.int .i64 n1,.int .i64 0] 109)=wa1h at*;generalize wr.heap.size=tb1h at*;clear a0 a1 a2 lnb;have HW1h:=zH (cu key 1 n0 n1 0 wa1h HX1h.out.rk.tens HX1h.out.rk.tab hr1 (.inl ⟨rfl,rfl⟩));have HBD1h:=zH (fun w (hT:bH w)=>gx 1 n0 n1 0 w hT hr1);unfold v4 at*;go_at_call 49;refine HW1h.out.mono ?_;rintro e wb1h ⟨rfl,hb⟩;have HY1h:=zH (HX1h.out.keep hb);have HU1h:=zH (HT1h.out.below' hb);clear hb;go_wp2_with fail;have hc0:=HU1h.out.cell 0;have hc1:=HU1h.out.cell 1;have hc2:=HU1h.out.cell 2;have hc3:=HU1h.out.cell 3;simp at hc0 hc1 hc2 hc3;have hslB: ∀ w:World,(Instr.slice 9 (.string s) none (some (.int .i64 (k:Int))) none).run prog w=.ok (.string B) w:=fun w=>by rw[run_slice_string_h w 9 _ underlying9 .i64 (k:Int) oM oM,show(k:Int).toNat=k by omega,hE2]
       have hY2:RX W nb n0 n1 n2 wb1h.drew:=HY1h.out.drew 1;have hq1:bz 1 n0 n1 0=B:=hb1;generalize bz 1 n0 n1 0=bs1h at*;have eqb:(bs1h.toList == B.toList)=true:=by rw[hq1];simp
       clear hq1 hb1
       go_region_held3 (fun w'=>w'.cell? ⟨tb1h,0,none⟩=some (.int .i64 1)∧w'.cell? ⟨tb1h,1,none⟩=some (.int .i64 n0)∧w'.cell? ⟨tb1h,2,none⟩=some (.int .i64 n1)∧w'.cell? ⟨tb1h,3,none⟩=some (.int .i64 0)∧RX W nb n0 n1 n2 w')
        (first
         |(refine⟨?_,?_,?_,?_,hY2⟩<;>go_keep)
         |(go_split_ands
           exact jz aS aS aS aS aS aS))
        ((go_at_call 99;refine(HBD1h.out _ (by(go_split_ands;exact RK.tens (RX.rk (W:=W) (nb:=nb) (n0:=n0) (n1:=n1) (n2:=n2) aS)))).mono ?_;rintro e w1 ⟨rfl,hb1⟩))
       go_split_ands
       rename_i s0 s1 s2 s3 rX
       obtain⟨wz1h,hwz⟩:=RX.named rX;subst hwz;have HZ1h:=zH rX;have HZT1h:=zH (And.intro s0 (And.intro s1 (And.intro s2 s3)));clear s0 s1 s2 s3 rX hY2 hc0 hc1 hc2 hc3
       skip
       skip
       have HTG:=zH (fun w (hT:cW w)=>lu key B w oM hT);have HTQ:=zH (Fi key (T:=T) HL2.out);generalize ke key B=TG at*;go_wp2_with fail;go_at_call 48;refine(HTG.out _ HZ1h.out.rk.tab).mono ?_;rintro e wt ⟨rfl,hbt⟩;have HF:=zH (HZ1h.out.keep hbt);obtain⟨t0,t1,t2,t3⟩:=oQ HZT1h.out hbt;clear hbt;obtain⟨⟨r0,r1,r2,r3⟩,⟨f0,f1,f2,f3⟩,lW⟩:=HF.out.rk.facts
       skip
       cases hq:(T.toList == TG.toList)
       ·have HQ:=zH (HTQ.out.symm.trans hq)
        go_wp2_with fail;rw[HPT.out,fj HTB.out,htok];simp only[of_decide_eq_false HQ.out,if_false];exact fe (bj HF.out.rk.below _ _ _ _) (bu HF.out.rk.res _ _ _ _) rfl rfl rfl
       ·have HQ:=zH (HTQ.out.symm.trans hq)
        go_wp2_with fail;rw[HPT.out,fj HTB.out,htok];simp only[of_decide_eq_true HQ.out,if_true];exact fe (bj HF.out.rk.below _ _ _ _) (bu HF.out.rk.res _ _ _ _) rfl rfl rfl
      ·have ok2:=pj hr2
       rcases miss1 with hw1|⟨hr1,hb1⟩
       ·rw[rounds_succ]
        obtain⟨a0,a1,a2,lnb⟩:=HRX.out.facts;go_wp2_with fail;have HX1w:=zH (HRX.out.keep ((Below.refl _ _).alloc (Nat.le_refl _) (.cells #[.int .i64 1,.int .i64 n0,.int .i64 n1,.int .i64 0] 109)));have HT1w:=zH (aj.new wr 109 #[.int .i64 1,.int .i64 n0,.int .i64 n1,.int .i64 0]);generalize wr.alloc (.cells #[.int .i64 1,.int .i64 n0,.int .i64 n1,.int .i64 0] 109)=wa1w at*;generalize wr.heap.size=tb1w at*;clear a0 a1 a2 lnb;have HW1w:=zH (fc key 1 n0 n1 0 wa1w hw1);unfold v4 at*;go_at_call 49;refine HW1w.out.mono ?_;rintro e wb1w ⟨rfl,hb⟩;have HY1w:=zH (HX1w.out.keep hb);have HU1w:=zH (HT1w.out.below' hb);clear hb;go_wp2_with fail
        go_quiet (fail)
        have HZ1w:=zH (HY1w.out.drew nq);generalize wb1w.drewN nq=wz1w at*;go_wp2_with fail;go_wp2_with fail;rw[rounds_succ];obtain⟨a0,a1,a2,lnb⟩:=HZ1w.out.facts;go_wp2_with fail;have HX2h:=zH (HZ1w.out.keep ((Below.refl _ _).alloc (Nat.le_refl _) (.cells #[.int .i64 2,.int .i64 n0,.int .i64 n1,.int .i64 n2] 109)));have HT2h:=zH (aj.new wz1w 109 #[.int .i64 2,.int .i64 n0,.int .i64 n1,.int .i64 n2]);generalize wz1w.alloc (.cells #[.int .i64 2,.int .i64 n0,.int .i64 n1,.int .i64 n2] 109)=wa2h at*;generalize wz1w.heap.size=tb2h at*;clear a0 a1 a2 lnb;have HW2h:=zH (cu key 2 n0 n1 n2 wa2h HX2h.out.rk.tens HX2h.out.rk.tab hr2 (.inr ⟨rfl,ok2⟩));have HBD2h:=zH (fun w (hT:bH w)=>gx 2 n0 n1 n2 w hT hr2);unfold v4 at*;go_at_call 49;refine HW2h.out.mono ?_;rintro e wb2h ⟨rfl,hb⟩;have HY2h:=zH (HX2h.out.keep hb);have HU2h:=zH (HT2h.out.below' hb);clear hb;go_wp2_with fail;have hc0:=HU2h.out.cell 0;have hc1:=HU2h.out.cell 1;have hc2:=HU2h.out.cell 2;have hc3:=HU2h.out.cell 3;simp at hc0 hc1 hc2 hc3;have hslB: ∀ w:World,(Instr.slice 9 (.string s) none (some (.int .i64 (k:Int))) none).run prog w=.ok (.string B) w:=fun w=>by rw[run_slice_string_h w 9 _ underlying9 .i64 (k:Int) oM oM,show(k:Int).toNat=k by omega,hE2]
        have hY2:RX W nb n0 n1 n2 wb2h.drew:=HY2h.out.drew 1;have hq2:bz 2 n0 n1 n2=B:=hb2;generalize bz 2 n0 n1 n2=bs2h at*;have eqb:(bs2h.toList == B.toList)=true:=by rw[hq2];simp
        clear hq2 hb2
        go_region_held3 (fun w'=>w'.cell? ⟨tb2h,0,none⟩=some (.int .i64 2)∧w'.cell? ⟨tb2h,1,none⟩=some (.int .i64 n0)∧w'.cell? ⟨tb2h,2,none⟩=some (.int .i64 n1)∧w'.cell? ⟨tb2h,3,none⟩=some (.int .i64 n2)∧RX W nb n0 n1 n2 w')
         (first
          |(refine⟨?_,?_,?_,?_,hY2⟩<;>go_keep)
          |(go_split_ands
            exact jz aS aS aS aS aS aS))
         ((go_at_call 99;refine(HBD2h.out _ (by(go_split_ands;exact RK.tens (RX.rk (W:=W) (nb:=nb) (n0:=n0) (n1:=n1) (n2:=n2) aS)))).mono ?_;rintro e w1 ⟨rfl,hb1⟩))
        go_split_ands
        rename_i s0 s1 s2 s3 rX
        obtain⟨wz2h,hwz⟩:=RX.named rX;subst hwz;have HZ2h:=zH rX;have HZT2h:=zH (And.intro s0 (And.intro s1 (And.intro s2 s3)));clear s0 s1 s2 s3 rX hY2 hc0 hc1 hc2 hc3
        skip
        have HTG:=zH (fun w (hT:cW w)=>lu key B w oM hT);have HTQ:=zH (Fi key (T:=T) HL2.out);generalize ke key B=TG at*;go_wp2_with fail;go_at_call 48;refine(HTG.out _ HZ2h.out.rk.tab).mono ?_;rintro e wt ⟨rfl,hbt⟩;have HF:=zH (HZ2h.out.keep hbt);obtain⟨t0,t1,t2,t3⟩:=oQ HZT2h.out hbt;clear hbt;obtain⟨⟨r0,r1,r2,r3⟩,⟨f0,f1,f2,f3⟩,lW⟩:=HF.out.rk.facts
        skip
        cases hq:(T.toList == TG.toList)
        ·have HQ:=zH (HTQ.out.symm.trans hq)
         go_wp2_with fail;rw[HPT.out,fj HTB.out,htok];simp only[of_decide_eq_false HQ.out,if_false];exact fe (bj HF.out.rk.below _ _ _ _) (bu HF.out.rk.res _ _ _ _) rfl rfl rfl
        ·have HQ:=zH (HTQ.out.symm.trans hq)
         go_wp2_with fail;rw[HPT.out,fj HTB.out,htok];simp only[of_decide_eq_true HQ.out,if_true];exact fe (bj HF.out.rk.below _ _ _ _) (bu HF.out.rk.res _ _ _ _) rfl rfl rfl
       ·rw[rounds_succ]
        obtain⟨a0,a1,a2,lnb⟩:=HRX.out.facts;go_wp2_with fail;have HX1r:=zH (HRX.out.keep ((Below.refl _ _).alloc (Nat.le_refl _) (.cells #[.int .i64 1,.int .i64 n0,.int .i64 n1,.int .i64 0] 109)));have HT1r:=zH (aj.new wr 109 #[.int .i64 1,.int .i64 n0,.int .i64 n1,.int .i64 0]);generalize wr.alloc (.cells #[.int .i64 1,.int .i64 n0,.int .i64 n1,.int .i64 0] 109)=wa1r at*;generalize wr.heap.size=tb1r at*;clear a0 a1 a2 lnb;have HW1r:=zH (cu key 1 n0 n1 0 wa1r HX1r.out.rk.tens HX1r.out.rk.tab hr1 (.inl ⟨rfl,rfl⟩));have HBD1r:=zH (fun w (hT:bH w)=>gx 1 n0 n1 0 w hT hr1);unfold v4 at*;go_at_call 49;refine HW1r.out.mono ?_;rintro e wb1r ⟨rfl,hb⟩;have HY1r:=zH (HX1r.out.keep hb);have HU1r:=zH (HT1r.out.below' hb);clear hb;go_wp2_with fail;have hc0:=HU1r.out.cell 0;have hc1:=HU1r.out.cell 1;have hc2:=HU1r.out.cell 2;have hc3:=HU1r.out.cell 3;simp at hc0 hc1 hc2 hc3;have hslB: ∀ w:World,(Instr.slice 9 (.string s) none (some (.int .i64 (k:Int))) none).run prog w=.ok (.string B) w:=fun w=>by rw[run_slice_string_h w 9 _ underlying9 .i64 (k:Int) oM oM,show(k:Int).toNat=k by omega,hE2]
        have hY2:RX W nb n0 n1 n2 wb1r.drew:=HY1r.out.drew 1;have hq1:bz 1 n0 n1 0≠B:=hb1;generalize bz 1 n0 n1 0=bs1r at*;have eqb:(bs1r.toList == B.toList)=false:=by rw[ByteArray.toList_eq,ByteArray.toList_eq];simpa using fun h=>hq1 (by rw[←bJ bs1r,h,bJ])
        clear hq1 hb1
        go_region_held3 (fun w'=>w'.cell? ⟨tb1r,0,none⟩=some (.int .i64 1)∧w'.cell? ⟨tb1r,1,none⟩=some (.int .i64 n0)∧w'.cell? ⟨tb1r,2,none⟩=some (.int .i64 n1)∧w'.cell? ⟨tb1r,3,none⟩=some (.int .i64 0)∧RX W nb n0 n1 n2 w')
         (first
          |(refine⟨?_,?_,?_,?_,hY2⟩<;>go_keep)
          |(go_split_ands
            exact jz aS aS aS aS aS aS))
         ((go_at_call 99;refine(HBD1r.out _ (by(go_split_ands;exact RK.tens (RX.rk (W:=W) (nb:=nb) (n0:=n0) (n1:=n1) (n2:=n2) aS)))).mono ?_;rintro e w1 ⟨rfl,hb1⟩))
        go_split_ands
        rename_i s0 s1 s2 s3 rX
        obtain⟨wz1r,hwz⟩:=RX.named rX;subst hwz;have HZ1r:=zH rX;have HZT1r:=zH (And.intro s0 (And.intro s1 (And.intro s2 s3)));clear s0 s1 s2 s3 rX hY2 hc0 hc1 hc2 hc3
        skip
        go_wp2_with fail;rw[rounds_succ];obtain⟨a0,a1,a2,lnb⟩:=HZ1r.out.facts;go_wp2_with fail;have HX2h:=zH (HZ1r.out.keep ((Below.refl _ _).alloc (Nat.le_refl _) (.cells #[.int .i64 2,.int .i64 n0,.int .i64 n1,.int .i64 n2] 109)));have HT2h:=zH (aj.new wz1r 109 #[.int .i64 2,.int .i64 n0,.int .i64 n1,.int .i64 n2]);generalize wz1r.alloc (.cells #[.int .i64 2,.int .i64 n0,.int .i64 n1,.int .i64 n2] 109)=wa2h at*;generalize wz1r.heap.size=tb2h at*;clear a0 a1 a2 lnb;have HW2h:=zH (cu key 2 n0 n1 n2 wa2h HX2h.out.rk.tens HX2h.out.rk.tab hr2 (.inr ⟨rfl,ok2⟩));have HBD2h:=zH (fun w (hT:bH w)=>gx 2 n0 n1 n2 w hT hr2);unfold v4 at*;go_at_call 49;refine HW2h.out.mono ?_;rintro e wb2h ⟨rfl,hb⟩;have HY2h:=zH (HX2h.out.keep hb);have HU2h:=zH (HT2h.out.below' hb);clear hb;go_wp2_with fail;have hc0:=HU2h.out.cell 0;have hc1:=HU2h.out.cell 1;have hc2:=HU2h.out.cell 2;have hc3:=HU2h.out.cell 3;simp at hc0 hc1 hc2 hc3;have hslB: ∀ w:World,(Instr.slice 9 (.string s) none (some (.int .i64 (k:Int))) none).run prog w=.ok (.string B) w:=fun w=>by rw[run_slice_string_h w 9 _ underlying9 .i64 (k:Int) oM oM,show(k:Int).toNat=k by omega,hE2]
        have hY2:RX W nb n0 n1 n2 wb2h.drew:=HY2h.out.drew 1;have hq2:bz 2 n0 n1 n2=B:=hb2;generalize bz 2 n0 n1 n2=bs2h at*;have eqb:(bs2h.toList == B.toList)=true:=by rw[hq2];simp
        clear hq2 hb2
        go_region_held3 (fun w'=>w'.cell? ⟨tb2h,0,none⟩=some (.int .i64 2)∧w'.cell? ⟨tb2h,1,none⟩=some (.int .i64 n0)∧w'.cell? ⟨tb2h,2,none⟩=some (.int .i64 n1)∧w'.cell? ⟨tb2h,3,none⟩=some (.int .i64 n2)∧RX W nb n0 n1 n2 w')
         (first
          |(refine⟨?_,?_,?_,?_,hY2⟩<;>go_keep)
          |(go_split_ands
            exact jz aS aS aS aS aS aS))
         ((go_at_call 99;refine(HBD2h.out _ (by(go_split_ands;exact RK.tens (RX.rk (W:=W) (nb:=nb) (n0:=n0) (n1:=n1) (n2:=n2) aS)))).mono ?_;rintro e w1 ⟨rfl,hb1⟩))
        go_split_ands
        rename_i s0 s1 s2 s3 rX
        obtain⟨wz2h,hwz⟩:=RX.named rX;subst hwz;have HZ2h:=zH rX;have HZT2h:=zH (And.intro s0 (And.intro s1 (And.intro s2 s3)));clear s0 s1 s2 s3 rX hY2 hc0 hc1 hc2 hc3
        skip
        have HTG:=zH (fun w (hT:cW w)=>lu key B w oM hT);have HTQ:=zH (Fi key (T:=T) HL2.out);generalize ke key B=TG at*;go_wp2_with fail;go_at_call 48;refine(HTG.out _ HZ2h.out.rk.tab).mono ?_;rintro e wt ⟨rfl,hbt⟩;have HF:=zH (HZ2h.out.keep hbt);obtain⟨t0,t1,t2,t3⟩:=oQ HZT2h.out hbt;clear hbt;obtain⟨⟨r0,r1,r2,r3⟩,⟨f0,f1,f2,f3⟩,lW⟩:=HF.out.rk.facts
        skip
        cases hq:(T.toList == TG.toList)
        ·have HQ:=zH (HTQ.out.symm.trans hq)
         go_wp2_with fail;rw[HPT.out,fj HTB.out,htok];simp only[of_decide_eq_false HQ.out,if_false];exact fe (bj HF.out.rk.below _ _ _ _) (bu HF.out.rk.res _ _ _ _) rfl rfl rfl
        ·have HQ:=zH (HTQ.out.symm.trans hq)
         go_wp2_with fail;rw[HPT.out,fj HTB.out,htok];simp only[of_decide_eq_true HQ.out,if_true];exact fe (bj HF.out.rk.below _ _ _ _) (bu HF.out.rk.res _ _ _ _) rfl rfl rfl
      ·rcases miss1 with hw1|⟨hr1,hb1⟩
       ·rcases miss2 with hw2|⟨hr2,hb2⟩
        ·rw[rounds_succ]
         obtain⟨a0,a1,a2,lnb⟩:=HRX.out.facts;go_wp2_with fail;have HX1w:=zH (HRX.out.keep ((Below.refl _ _).alloc (Nat.le_refl _) (.cells #[.int .i64 1,.int .i64 n0,.int .i64 n1,.int .i64 0] 109)));have HT1w:=zH (aj.new wr 109 #[.int .i64 1,.int .i64 n0,.int .i64 n1,.int .i64 0]);generalize wr.alloc (.cells #[.int .i64 1,.int .i64 n0,.int .i64 n1,.int .i64 0] 109)=wa1w at*;generalize wr.heap.size=tb1w at*;clear a0 a1 a2 lnb;have HW1w:=zH (fc key 1 n0 n1 0 wa1w hw1);unfold v4 at*;go_at_call 49;refine HW1w.out.mono ?_;rintro e wb1w ⟨rfl,hb⟩;have HY1w:=zH (HX1w.out.keep hb);have HU1w:=zH (HT1w.out.below' hb);clear hb;go_wp2_with fail
         go_quiet (fail)
         have HZ1w:=zH (HY1w.out.drew nq);generalize wb1w.drewN nq=wz1w at*;go_wp2_with fail;go_wp2_with fail;rw[rounds_succ];obtain⟨a0,a1,a2,lnb⟩:=HZ1w.out.facts;go_wp2_with fail;have HX2w:=zH (HZ1w.out.keep ((Below.refl _ _).alloc (Nat.le_refl _) (.cells #[.int .i64 2,.int .i64 n0,.int .i64 n1,.int .i64 n2] 109)));have HT2w:=zH (aj.new wz1w 109 #[.int .i64 2,.int .i64 n0,.int .i64 n1,.int .i64 n2]);generalize wz1w.alloc (.cells #[.int .i64 2,.int .i64 n0,.int .i64 n1,.int .i64 n2] 109)=wa2w at*;generalize wz1w.heap.size=tb2w at*;clear a0 a1 a2 lnb;have HW2w:=zH (fc key 2 n0 n1 n2 wa2w hw2);unfold v4 at*;go_at_call 49;refine HW2w.out.mono ?_;rintro e wb2w ⟨rfl,hb⟩;have HY2w:=zH (HX2w.out.keep hb);have HU2w:=zH (HT2w.out.below' hb);clear hb;go_wp2_with fail
         go_quiet (fail)
         have HZ2w:=zH (HY2w.out.drew nq);generalize wb2w.drewN nq=wz2w at*;go_wp2_with fail;go_wp2_with fail;rw[rounds_succ];obtain⟨⟨r0,r1,r2,r3⟩,⟨f0,f1,f2,f3⟩,lW⟩:=HZ2w.out.rk.facts;go_wp2_with fail;rw[HPT.out,fj HTB.out,htok];exact fe (bj HZ2w.out.rk.below _ _ _ _) (bu HZ2w.out.rk.res _ _ _ _) rfl rfl rfl
        ·have ok2:=pj hr2
         rw[rounds_succ];obtain⟨a0,a1,a2,lnb⟩:=HRX.out.facts;go_wp2_with fail;have HX1w:=zH (HRX.out.keep ((Below.refl _ _).alloc (Nat.le_refl _) (.cells #[.int .i64 1,.int .i64 n0,.int .i64 n1,.int .i64 0] 109)));have HT1w:=zH (aj.new wr 109 #[.int .i64 1,.int .i64 n0,.int .i64 n1,.int .i64 0]);generalize wr.alloc (.cells #[.int .i64 1,.int .i64 n0,.int .i64 n1,.int .i64 0] 109)=wa1w at*;generalize wr.heap.size=tb1w at*;clear a0 a1 a2 lnb;have HW1w:=zH (fc key 1 n0 n1 0 wa1w hw1);unfold v4 at*;go_at_call 49;refine HW1w.out.mono ?_;rintro e wb1w ⟨rfl,hb⟩;have HY1w:=zH (HX1w.out.keep hb);have HU1w:=zH (HT1w.out.below' hb);clear hb;go_wp2_with fail
         go_quiet (fail)
         have HZ1w:=zH (HY1w.out.drew nq);generalize wb1w.drewN nq=wz1w at*;go_wp2_with fail;go_wp2_with fail;rw[rounds_succ];obtain⟨a0,a1,a2,lnb⟩:=HZ1w.out.facts;go_wp2_with fail;have HX2r:=zH (HZ1w.out.keep ((Below.refl _ _).alloc (Nat.le_refl _) (.cells #[.int .i64 2,.int .i64 n0,.int .i64 n1,.int .i64 n2] 109)));have HT2r:=zH (aj.new wz1w 109 #[.int .i64 2,.int .i64 n0,.int .i64 n1,.int .i64 n2]);generalize wz1w.alloc (.cells #[.int .i64 2,.int .i64 n0,.int .i64 n1,.int .i64 n2] 109)=wa2r at*;generalize wz1w.heap.size=tb2r at*;clear a0 a1 a2 lnb;have HW2r:=zH (cu key 2 n0 n1 n2 wa2r HX2r.out.rk.tens HX2r.out.rk.tab hr2 (.inr ⟨rfl,ok2⟩));have HBD2r:=zH (fun w (hT:bH w)=>gx 2 n0 n1 n2 w hT hr2);unfold v4 at*;go_at_call 49;refine HW2r.out.mono ?_;rintro e wb2r ⟨rfl,hb⟩;have HY2r:=zH (HX2r.out.keep hb);have HU2r:=zH (HT2r.out.below' hb);clear hb;go_wp2_with fail;have hc0:=HU2r.out.cell 0;have hc1:=HU2r.out.cell 1;have hc2:=HU2r.out.cell 2;have hc3:=HU2r.out.cell 3;simp at hc0 hc1 hc2 hc3;have hslB: ∀ w:World,(Instr.slice 9 (.string s) none (some (.int .i64 (k:Int))) none).run prog w=.ok (.string B) w:=fun w=>by rw[run_slice_string_h w 9 _ underlying9 .i64 (k:Int) oM oM,show(k:Int).toNat=k by omega,hE2]
         have hY2:RX W nb n0 n1 n2 wb2r.drew:=HY2r.out.drew 1;have hq2:bz 2 n0 n1 n2≠B:=hb2;generalize bz 2 n0 n1 n2=bs2r at*;have eqb:(bs2r.toList == B.toList)=false:=by rw[ByteArray.toList_eq,ByteArray.toList_eq];simpa using fun h=>hq2 (by rw[←bJ bs2r,h,bJ])
         clear hq2 hb2
         go_region_held3 (fun w'=>w'.cell? ⟨tb2r,0,none⟩=some (.int .i64 2)∧w'.cell? ⟨tb2r,1,none⟩=some (.int .i64 n0)∧w'.cell? ⟨tb2r,2,none⟩=some (.int .i64 n1)∧w'.cell? ⟨tb2r,3,none⟩=some (.int .i64 n2)∧RX W nb n0 n1 n2 w')
          (first
           |(refine⟨?_,?_,?_,?_,hY2⟩<;>go_keep)
           |(go_split_ands
             exact jz aS aS aS aS aS aS))
          ((go_at_call 99;refine(HBD2r.out _ (by(go_split_ands;exact RK.tens (RX.rk (W:=W) (nb:=nb) (n0:=n0) (n1:=n1) (n2:=n2) aS)))).mono ?_;rintro e w1 ⟨rfl,hb1⟩))
         go_split_ands
         rename_i s0 s1 s2 s3 rX
         obtain⟨wz2r,hwz⟩:=RX.named rX;subst hwz;have HZ2r:=zH rX;have HZT2r:=zH (And.intro s0 (And.intro s1 (And.intro s2 s3)));clear s0 s1 s2 s3 rX hY2 hc0 hc1 hc2 hc3
         skip
         go_wp2_with fail;rw[rounds_succ];obtain⟨⟨r0,r1,r2,r3⟩,⟨f0,f1,f2,f3⟩,lW⟩:=HZ2r.out.rk.facts;go_wp2_with fail;rw[HPT.out,fj HTB.out,htok];exact fe (bj HZ2r.out.rk.below _ _ _ _) (bu HZ2r.out.rk.res _ _ _ _) rfl rfl rfl
       ·rcases miss2 with hw2|⟨hr2,hb2⟩
        ·rw[rounds_succ]
         obtain⟨a0,a1,a2,lnb⟩:=HRX.out.facts;go_wp2_with fail;have HX1r:=zH (HRX.out.keep ((Below.refl _ _).alloc (Nat.le_refl _) (.cells #[.int .i64 1,.int .i64 n0,.int .i64 n1,.int .i64 0] 109)));have HT1r:=zH (aj.new wr 109 #[.int .i64 1,.int .i64 n0,.int .i64 n1,.int .i64 0]);generalize wr.alloc (.cells #[.int .i64 1,.int .i64 n0,.int .i64 n1,.int .i64 0] 109)=wa1r at*;generalize wr.heap.size=tb1r at*;clear a0 a1 a2 lnb;have HW1r:=zH (cu key 1 n0 n1 0 wa1r HX1r.out.rk.tens HX1r.out.rk.tab hr1 (.inl ⟨rfl,rfl⟩));have HBD1r:=zH (fun w (hT:bH w)=>gx 1 n0 n1 0 w hT hr1);unfold v4 at*;go_at_call 49;refine HW1r.out.mono ?_;rintro e wb1r ⟨rfl,hb⟩;have HY1r:=zH (HX1r.out.keep hb);have HU1r:=zH (HT1r.out.below' hb);clear hb;go_wp2_with fail;have hc0:=HU1r.out.cell 0;have hc1:=HU1r.out.cell 1;have hc2:=HU1r.out.cell 2;have hc3:=HU1r.out.cell 3;simp at hc0 hc1 hc2 hc3;have hslB: ∀ w:World,(Instr.slice 9 (.string s) none (some (.int .i64 (k:Int))) none).run prog w=.ok (.string B) w:=fun w=>by rw[run_slice_string_h w 9 _ underlying9 .i64 (k:Int) oM oM,show(k:Int).toNat=k by omega,hE2]
         have hY2:RX W nb n0 n1 n2 wb1r.drew:=HY1r.out.drew 1;have hq1:bz 1 n0 n1 0≠B:=hb1;generalize bz 1 n0 n1 0=bs1r at*;have eqb:(bs1r.toList == B.toList)=false:=by rw[ByteArray.toList_eq,ByteArray.toList_eq];simpa using fun h=>hq1 (by rw[←bJ bs1r,h,bJ])
         clear hq1 hb1
         go_region_held3 (fun w'=>w'.cell? ⟨tb1r,0,none⟩=some (.int .i64 1)∧w'.cell? ⟨tb1r,1,none⟩=some (.int .i64 n0)∧w'.cell? ⟨tb1r,2,none⟩=some (.int .i64 n1)∧w'.cell? ⟨tb1r,3,none⟩=some (.int .i64 0)∧RX W nb n0 n1 n2 w')
          (first
           |(refine⟨?_,?_,?_,?_,hY2⟩<;>go_keep)
           |(go_split_ands
             exact jz aS aS aS aS aS aS))
          ((go_at_call 99;refine(HBD1r.out _ (by(go_split_ands;exact RK.tens (RX.rk (W:=W) (nb:=nb) (n0:=n0) (n1:=n1) (n2:=n2) aS)))).mono ?_;rintro e w1 ⟨rfl,hb1⟩))
         go_split_ands
         rename_i s0 s1 s2 s3 rX
         obtain⟨wz1r,hwz⟩:=RX.named rX;subst hwz;have HZ1r:=zH rX;have HZT1r:=zH (And.intro s0 (And.intro s1 (And.intro s2 s3)));clear s0 s1 s2 s3 rX hY2 hc0 hc1 hc2 hc3
         skip
         go_wp2_with fail;rw[rounds_succ];obtain⟨a0,a1,a2,lnb⟩:=HZ1r.out.facts;go_wp2_with fail;have HX2w:=zH (HZ1r.out.keep ((Below.refl _ _).alloc (Nat.le_refl _) (.cells #[.int .i64 2,.int .i64 n0,.int .i64 n1,.int .i64 n2] 109)));have HT2w:=zH (aj.new wz1r 109 #[.int .i64 2,.int .i64 n0,.int .i64 n1,.int .i64 n2]);generalize wz1r.alloc (.cells #[.int .i64 2,.int .i64 n0,.int .i64 n1,.int .i64 n2] 109)=wa2w at*;generalize wz1r.heap.size=tb2w at*;clear a0 a1 a2 lnb;have HW2w:=zH (fc key 2 n0 n1 n2 wa2w hw2);unfold v4 at*;go_at_call 49;refine HW2w.out.mono ?_;rintro e wb2w ⟨rfl,hb⟩;have HY2w:=zH (HX2w.out.keep hb);have HU2w:=zH (HT2w.out.below' hb);clear hb;go_wp2_with fail
         go_quiet (fail)
         have HZ2w:=zH (HY2w.out.drew nq);generalize wb2w.drewN nq=wz2w at*;go_wp2_with fail;go_wp2_with fail;rw[rounds_succ];obtain⟨⟨r0,r1,r2,r3⟩,⟨f0,f1,f2,f3⟩,lW⟩:=HZ2w.out.rk.facts;go_wp2_with fail;rw[HPT.out,fj HTB.out,htok];exact fe (bj HZ2w.out.rk.below _ _ _ _) (bu HZ2w.out.rk.res _ _ _ _) rfl rfl rfl
        ·have ok2:=pj hr2
         rw[rounds_succ];obtain⟨a0,a1,a2,lnb⟩:=HRX.out.facts;go_wp2_with fail;have HX1r:=zH (HRX.out.keep ((Below.refl _ _).alloc (Nat.le_refl _) (.cells #[.int .i64 1,.int .i64 n0,.int .i64 n1,.int .i64 0] 109)));have HT1r:=zH (aj.new wr 109 #[.int .i64 1,.int .i64 n0,.int .i64 n1,.int .i64 0]);generalize wr.alloc (.cells #[.int .i64 1,.int .i64 n0,.int .i64 n1,.int .i64 0] 109)=wa1r at*;generalize wr.heap.size=tb1r at*;clear a0 a1 a2 lnb;have HW1r:=zH (cu key 1 n0 n1 0 wa1r HX1r.out.rk.tens HX1r.out.rk.tab hr1 (.inl ⟨rfl,rfl⟩));have HBD1r:=zH (fun w (hT:bH w)=>gx 1 n0 n1 0 w hT hr1);unfold v4 at*;go_at_call 49;refine HW1r.out.mono ?_;rintro e wb1r ⟨rfl,hb⟩;have HY1r:=zH (HX1r.out.keep hb);have HU1r:=zH (HT1r.out.below' hb);clear hb;go_wp2_with fail;have hc0:=HU1r.out.cell 0;have hc1:=HU1r.out.cell 1;have hc2:=HU1r.out.cell 2;have hc3:=HU1r.out.cell 3;simp at hc0 hc1 hc2 hc3;have hslB: ∀ w:World,(Instr.slice 9 (.string s) none (some (.int .i64 (k:Int))) none).run prog w=.ok (.string B) w:=fun w=>by rw[run_slice_string_h w 9 _ underlying9 .i64 (k:Int) oM oM,show(k:Int).toNat=k by omega,hE2]
         have hY2:RX W nb n0 n1 n2 wb1r.drew:=HY1r.out.drew 1;have hq1:bz 1 n0 n1 0≠B:=hb1;generalize bz 1 n0 n1 0=bs1r at*;have eqb:(bs1r.toList == B.toList)=false:=by rw[ByteArray.toList_eq,ByteArray.toList_eq];simpa using fun h=>hq1 (by rw[←bJ bs1r,h,bJ])
         clear hq1 hb1
         go_region_held3 (fun w'=>w'.cell? ⟨tb1r,0,none⟩=some (.int .i64 1)∧w'.cell? ⟨tb1r,1,none⟩=some (.int .i64 n0)∧w'.cell? ⟨tb1r,2,none⟩=some (.int .i64 n1)∧w'.cell? ⟨tb1r,3,none⟩=some (.int .i64 0)∧RX W nb n0 n1 n2 w')
          (first
           |(refine⟨?_,?_,?_,?_,hY2⟩<;>go_keep)
           |(go_split_ands
             exact jz aS aS aS aS aS aS))
          ((go_at_call 99;refine(HBD1r.out _ (by(go_split_ands;exact RK.tens (RX.rk (W:=W) (nb:=nb) (n0:=n0) (n1:=n1) (n2:=n2) aS)))).mono ?_;rintro e w1 ⟨rfl,hb1⟩))
         go_split_ands
         rename_i s0 s1 s2 s3 rX
         obtain⟨wz1r,hwz⟩:=RX.named rX;subst hwz;have HZ1r:=zH rX;have HZT1r:=zH (And.intro s0 (And.intro s1 (And.intro s2 s3)));clear s0 s1 s2 s3 rX hY2 hc0 hc1 hc2 hc3
         skip
         go_wp2_with fail;rw[rounds_succ];obtain⟨a0,a1,a2,lnb⟩:=HZ1r.out.facts;go_wp2_with fail;have HX2r:=zH (HZ1r.out.keep ((Below.refl _ _).alloc (Nat.le_refl _) (.cells #[.int .i64 2,.int .i64 n0,.int .i64 n1,.int .i64 n2] 109)));have HT2r:=zH (aj.new wz1r 109 #[.int .i64 2,.int .i64 n0,.int .i64 n1,.int .i64 n2]);generalize wz1r.alloc (.cells #[.int .i64 2,.int .i64 n0,.int .i64 n1,.int .i64 n2] 109)=wa2r at*;generalize wz1r.heap.size=tb2r at*;clear a0 a1 a2 lnb;have HW2r:=zH (cu key 2 n0 n1 n2 wa2r HX2r.out.rk.tens HX2r.out.rk.tab hr2 (.inr ⟨rfl,ok2⟩));have HBD2r:=zH (fun w (hT:bH w)=>gx 2 n0 n1 n2 w hT hr2);unfold v4 at*;go_at_call 49;refine HW2r.out.mono ?_;rintro e wb2r ⟨rfl,hb⟩;have HY2r:=zH (HX2r.out.keep hb);have HU2r:=zH (HT2r.out.below' hb);clear hb;go_wp2_with fail;have hc0:=HU2r.out.cell 0;have hc1:=HU2r.out.cell 1;have hc2:=HU2r.out.cell 2;have hc3:=HU2r.out.cell 3;simp at hc0 hc1 hc2 hc3;have hslB: ∀ w:World,(Instr.slice 9 (.string s) none (some (.int .i64 (k:Int))) none).run prog w=.ok (.string B) w:=fun w=>by rw[run_slice_string_h w 9 _ underlying9 .i64 (k:Int) oM oM,show(k:Int).toNat=k by omega,hE2]
         have hY2:RX W nb n0 n1 n2 wb2r.drew:=HY2r.out.drew 1;have hq2:bz 2 n0 n1 n2≠B:=hb2;generalize bz 2 n0 n1 n2=bs2r at*;have eqb:(bs2r.toList == B.toList)=false:=by rw[ByteArray.toList_eq,ByteArray.toList_eq];simpa using fun h=>hq2 (by rw[←bJ bs2r,h,bJ])
         clear hq2 hb2
         go_region_held3 (fun w'=>w'.cell? ⟨tb2r,0,none⟩=some (.int .i64 2)∧w'.cell? ⟨tb2r,1,none⟩=some (.int .i64 n0)∧w'.cell? ⟨tb2r,2,none⟩=some (.int .i64 n1)∧w'.cell? ⟨tb2r,3,none⟩=some (.int .i64 n2)∧RX W nb n0 n1 n2 w')
          (first
           |(refine⟨?_,?_,?_,?_,hY2⟩<;>go_keep)
           |(go_split_ands
             exact jz aS aS aS aS aS aS))
          ((go_at_call 99;refine(HBD2r.out _ (by(go_split_ands;exact RK.tens (RX.rk (W:=W) (nb:=nb) (n0:=n0) (n1:=n1) (n2:=n2) aS)))).mono ?_;rintro e w1 ⟨rfl,hb1⟩))
         go_split_ands
         rename_i s0 s1 s2 s3 rX
         obtain⟨wz2r,hwz⟩:=RX.named rX;subst hwz;have HZ2r:=zH rX;have HZT2r:=zH (And.intro s0 (And.intro s1 (And.intro s2 s3)));clear s0 s1 s2 s3 rX hY2 hc0 hc1 hc2 hc3
         skip
         go_wp2_with fail;rw[rounds_succ];obtain⟨⟨r0,r1,r2,r3⟩,⟨f0,f1,f2,f3⟩,lW⟩:=HZ2r.out.rk.facts;go_wp2_with fail;rw[HPT.out,fj HTB.out,htok];exact fe (bj HZ2r.out.rk.below _ _ _ _) (bu HZ2r.out.rk.res _ _ _ _) rfl rfl rfl
end Go.Proofs.YtepjcdjpikbbjaaGreatDoor
