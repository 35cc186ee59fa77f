/-
  store.Store's load: a slot of six words.
-/
import Derived.Test.YtepjcdjpikbbjaaGreatDoorU00
import Derived.Test.YtepjcdjpikbbjaaGreatDoorU17
import Derived.Test.YtepjcdjpikbbjaaGreatDoorU23
import Derived.Test.YtepjcdjpikbbjaaGreatDoorU09
import Derived.Test.YtepjcdjpikbbjaaGreatDoorU14
set_option maxHeartbeats 40000000
set_option maxRecDepth 100000
namespace Go.Proofs.YtepjcdjpikbbjaaGreatDoor
open Go.Proofs.Tryz
open Go.RowKit Go.Sort
theorem F8:(prog.info? 3).map (fun i=>(i.zero,i.size,i.bytes))=some (some (.int .i64 0),1,8):=kR
def Jo (W0:World) (L:List (List UInt8)) (out i:Value) (w:World):Prop:= ∃ j:Nat,j≤5∧i=.int .i64 j∧LN W0 L j out w
structure LB (W:World) (st:St) (u:Value) (gn:Nat) (a b:Int) (gw:Nat) (t:ByteArray) (w:World):Prop where
 ld:LD W st u w
 n0:w.cell? ⟨gn,0,none⟩=some (.int .i64 a)
 n1:w.cell? ⟨gn,1,none⟩=some (.int .i64 b)
 w5:w.cell? ⟨gw,5,none⟩=some (.string t)
 hn:W.heap.size<gn
 hw:W.heap.size<gw
section
variable {W w w':World} {st:St} {u:Value} {gn gw:Nat} {a b:Int} {t:ByteArray}
theorem oW {p:Addr} {v:Value} (h:w.cell? p=some v) (hb:Below w.heap.size w w'):w'.cell? p=some v:=by
 rw[hb.cell (p:=p) (World.block_lt_of_cell? w _ h)];exact h
theorem pt {p:Addr} {v:Value} {g:Nat} (h:w.cell? p=some v) (hg:w.grownBy w' (some g)) (hne:p.block≠g):w'.cell? p=some v:=by
 rw[World.cell?_of_block (w:=w) (hg.block p.block (World.block_lt_of_cell? w _ h) (by simpa using hne))];exact h
theorem LB.keep (h:LB W st u gn a b gw t w) (hb:Below w.heap.size w w'):LB W st u gn a b gw t w':=⟨h.ld.keep hb,oW h.n0 hb,oW h.n1 hb,oW h.w5 hb,h.hn,h.hw⟩
theorem LB.three (h:LB W st u gn a b gw t w):w.cell? ⟨gn,0,none⟩=some (.int .i64 a)∧w.cell? ⟨gn,1,none⟩=some (.int .i64 b)∧w.cell? ⟨gw,5,none⟩=some (.string t):=⟨h.n0,h.n1,h.w5⟩
theorem LB.drew (h:LB W st u gn a b gw t w):LB W st u gn a b gw t w.drew:=⟨h.ld.drew,h.n0,h.n1,h.w5,h.hn,h.hw⟩
theorem LB.put (h:LB W st u gn a b gw t w) (st':St) {u':Value} (hr:aD w (W.heap.size+1) u' st'.fams):
  LB W st' u' gn a b gw t (((w.setCell ⟨W.heap.size,0,none⟩ (.int .i64 st'.clock)).setCell ⟨W.heap.size,1,none⟩ (.int .i64 st'.next)).setCell ⟨W.heap.size,2,none⟩ u'):=by
 obtain⟨k,g⟩:=h.ld.put st' hr;have h1:=h.hn;have h2:=h.hw;exact⟨k,pt h.n0 g (by simp;omega),pt h.n1 g (by simp;omega),pt h.w5 g (by simp;omega),h1,h2⟩
end
def LF (W:World) (blk:Nat→List UInt8) (at_:Nat) (s0:St) (N:Nat) (gn:Nat) (a b:Int) (gw:Nat) (t:ByteArray) (all i:Value) (w:World):Prop:=
 ∃ (m:Nat) (st:St) (u:Value) (al:List UInt8),m≤N∧i=.int .i64 m∧all=.string (ah al)∧gY blk at_ s0 m=some (st,al)∧LB W st u gn a b gw t w
theorem zU {x:List UInt8} (h:dL x=false∨kt (ab x)=false):gd x=false:=by
 unfold gd;rcases h with h|h<;>simp[h]
section
variable {tg:Int→List UInt8→List UInt8} {blk:Nat→List UInt8} {k:Nat} {L:List (List UInt8)}
theorem Ex {j:Nat} (hj:j<5) (hL:L.length=6) (h:gd (L.getD j [])=false):(L.take 5).all gd=false:=by
 rw[Bool.eq_false_iff];intro ha;have:=List.all_eq_true.1 ha (L.getD j []) (by rw[List.getD_eq_getElem?_getD,List.getElem?_eq_getElem oM];exact List.mem_take_iff_getElem.2 ⟨j,by omega,rfl⟩);rw[h]at this;cases this
theorem EN (hL:L.length=6) (h: ∀ j,j<5→gd (L.getD j [])=true):(L.take 5).all gd=true:=by
 rw[List.all_eq_true];intro x hx;obtain⟨j,hj,rfl⟩:=List.mem_take_iff_getElem.1 hx;have:=h j oM
 rwa[List.getD_eq_getElem?_getD,List.getElem?_eq_getElem oM]at this
theorem uu {j:Nat} (hj:j<5) (hL:L.length=6) (h:gd (L.getD j [])=false):kV tg blk k L=none:=by
 unfold kV;rw[Ex hj hL h];rfl
theorem yP (h:20<ab (L.getD 4 [])):kV tg blk k L=none:=by
 unfold kV;rw[decide_eq_false (by omega: ¬ ab (L.getD 4 [])≤20),Bool.and_false];rfl
theorem yq (hf:gY blk (ay k) ⟨ab (L.getD 2 []),ab (L.getD 3 []),[]⟩ (ab (L.getD 4 [])).toNat=none):kV tg blk k L=none:=by
 unfold kV;rw[hf];simp
theorem Bk (hL:L.length=6) (h: ∀ j,j<5→gd (L.getD j [])=true) (h4:ab (L.getD 4 [])≤20) {st:St} {al:List UInt8} (hf:gY blk (ay k) ⟨ab (L.getD 2 []),ab (L.getD 3 []),[]⟩ (ab (L.getD 4 [])).toNat=some (st,al)):
  kV tg blk k L=if tg 1 al=L.getD 5 []∧ab (L.getD 0 []) % 2=(k:Int)then some (ab (L.getD 0 []),ab (L.getD 1 []),st)else none:=by
 unfold kV;rw[EN hL h,decide_eq_true h4,hf];rfl
end
theorem yF (B sb db:Nat) (D:Dk) (s:St) (v:Value) (n f x:Int) (down:Bool) (W:World) (h:SD B sb db D s v n f x down W) (hf:D.fits) (k:Nat) (hk:k<2) (l:List UInt8) (hol:eE aQ (bK D (ay k))=some l) (hll:l.length≤240) (hl6:(parts 32 l).length=6):
  Calls prog 52 #[.pointer (some ⟨sb,0,none⟩),.int .i64 k] W (qj W (kV aQ (bK D) k (parts 32 l))):=by
 obtain⟨i0,hii,hz0,hz1,hz2⟩:=info_parts F8;have HS:=zH h;have H0:Hid (LD W ⟨0,0,[]⟩ (.slice none 0 0) (W.alloc (.cells (dN ⟨0,0,[]⟩ (.slice none 0 0)) 83))):=zH LD.start;have HSL:=zH (fun w=>nD (k:Int) w oM oM);rw[Ez]at HSL;have htop:=sK k;have HRD:=zH (fun w hd=>iW db D (ay k) w hd oM);have HOP:=zH (fun w=>gg (D.blk.getD (ay k) ByteArray.empty) w (by have:=hf (ay k);omega))
 have HOP:Hid (∀ w,Calls prog 105 #[.string (D.blk.getD (ay k) ByteArray.empty)] w fun e w'=>e=.returned (.tuple #[.string (ah l),.bool true])∧Below w.heap.size w w'):=zH fun w=>by
  have h1:=HOP.out w;have h2:eE aQ (D.blk.getD (ay k) ByteArray.empty).data.toList=some l:=hol;rw[h2]at h1;refine h1.mono ?_;rintro e w' ⟨⟨x2,b2,rfl,rfl,rfl⟩,hb⟩;exact⟨rfl,hb⟩
 have HSP:=zH (fun w hm=>fT 32 (ah l) w.heap.size w (by rw[bB];omega) hm (Nat.le_refl _));rw[ak]at HSP;have HWL:=zH (be 32 l 240 hll);generalize parts 32 l=L at*;generalize ah l=tl at*;generalize hblk:D.blk.getD (ay k) ByteArray.empty=blk at HOP HRD;obtain⟨ck,nx,Ls⟩:=s;obtain⟨c0,c1,c2,c3,c4,c5,c6,c7,z,hlt⟩:=h.cells;have HF:=zH hf;clear h hol hf hblk;unfold dN at H0;dsimp only at H0;go_enter Tryz.func52,Tryz.ntmps52;go_wp2_with fail;go_at_call 103;refine(HSL.out _).mono ?_;rintro e w1 ⟨rfl,rfl⟩;go_wp2_with fail;refine(HRD.out _ (HS.out.keep H0.out.below).disk).mono ?_;rintro e w2 ⟨rfl,rfl⟩;go_wp2_with fail;go_at_call 105;refine(HOP.out _).mono ?_;rintro e w3 ⟨rfl,hb⟩;have H3:=zH (H0.out.keep hb);clear hb;go_wp2_with fail;go_at_call 13;refine(HSP.out _ (HS.out.keep H3.out.below).env.maxl).mono ?_;rintro e w4 ⟨v4,rfl,hrow,hb⟩;obtain⟨g4,c4',rfl,hg4,hg4',hc4,hc4',-⟩:=hrow.parts;have H4:=zH (H3.out.keep hb);have HW6:Hid (∀ w,Below w4.heap.size w4 w→ ∀ j,j<6→w.cell? ⟨g4,j,none⟩=some (.string (ah (L.getD j [])))):=zH fun w hb j hj=>(hrow.below hb).cell j oM
 have hg40:W.heap.size<g4:=Nat.lt_of_lt_of_le H3.out.cells.2.2.2.2 hg4;have hN:=zH (LN.start w4 L);clear hb H3 H0 hrow c0 c1 c2 c3 c4 c5 c6 c7 z hlt HSP HOP HSL;rw[hl6]at hc4 ⊢;go_wp2_with fail
 go_loopw [13,53] (fun out i wr=>Jo w4 L out i wr) (fun _ i _=>5 - (intOf i).toNat)
 case atStart=>exact⟨0,Nat.zero_le _,rfl,hN.out⟩
 case round=>
  obtain⟨j,hj,rfl,hln⟩:=hrel;have HLN:=zH hln;clear hln
  by_cases hj5:j<5
  ·have hc:=HW6.out wr HLN.out.below j oM
   have hws:(ah (L.getD j [])).size≤240:=by rw[bB];exact HWL.out _ (by rw[List.getD_eq_getElem?_getD,List.getElem?_eq_getElem oM];exact List.getElem_mem oM)
   rcases hE:dL (L.getD j [])with _|_
   ·have HA:=zH (fun w hv=>nW (ah (L.getD j [])) w oM hv (by rw[ak];exact hE))
    have hbad:=uu (tg:=aQ) (blk:=bK D) (k:=k) hj5 hl6 (zU (.inl hE));generalize ah (L.getD j [])=word at*;go_wp2_with fail;go_at_call 51;refine(HA.out _ (HS.out.keep (H4.out.keep HLN.out.below).below).env.errs).mono ?_;rintro e w5 ⟨⟨te,pe,rfl⟩,hb⟩;have H5:=zH ((H4.out.keep HLN.out.below).keep hb);clear hb hc;obtain⟨m0,m1,m2,mz,mlt⟩:=H5.out.cells;go_wp2_with fail
    go_region
    go_wp2_with fail;exact gk (LD.same H5.out).drew (by rw[hbad]) rfl rfl rfl rfl rfl
   ·have HA:=zH (fun w=>j3 (ah (L.getD j [])) w oM (by rw[ak];exact hE))
    rw[ak]at HA;rcases hM:kt (ab (L.getD j []))with _|_
    ·have hbad:=uu (tg:=aQ) (blk:=bK D) (k:=k) hj5 hl6 (zU (.inr hM))
     have hm2:ab (L.getD j [])<0∨1099511627777<ab (L.getD j []):=by
      unfold kt at hM;rw[Bool.and_eq_false_iff,decide_eq_false_iff_not,decide_eq_false_iff_not]at hM;omega
     clear hM;generalize ab (L.getD j [])=xj at*;generalize ah (L.getD j [])=word at*;go_wp2_with fail;go_at_call 51;refine(HA.out _).mono ?_;rintro e w5 ⟨rfl,hb⟩;have H5:=zH ((H4.out.keep HLN.out.below).keep hb);clear hb hc;obtain⟨m0,m1,m2,mz,mlt⟩:=H5.out.cells;rcases hm2 with hm2|hm2
     all_goals
      go_wp2_with fail
      go_region
      go_wp2_with fail;exact gk (LD.same H5.out).drew (by rw[hbad]) rfl rfl rfl rfl rfl
    ·have HNM:Hid (gd (L.getD j [])=true):=zH (by unfold gd;rw[hE,hM];rfl)
     have hM':=bO.1 hM;clear hM;generalize hxj:ab (L.getD j [])=xj at*;have HXJ:=zH hxj;clear hxj;generalize ah (L.getD j [])=word at*;go_wp2_with fail;go_at_call 51;refine(HA.out _).mono ?_;rintro e w5 ⟨rfl,hb⟩;have HT1:=zH (HLN.out.call hb);have hrow:=HT1.out.row;have hB2:=HT1.out.below.size;clear hb hc
     go_wp2_with
      (at_builtin;refine wpList_append_own _ rfl _ _ 88 rfl w4.heap.size 3 i0 (.int .i64 0) 1 8 underlying88 hii hz0 hz1 hz2 rfl dC _ _ _ rfl (hrow.alloc _) ⟨w5.heap.size,0,none⟩ 1 1 [.int .i64 xj] rfl rfl (cell_one_new _ _ _) (fun x hx=>by simp at hx;subst hx;rfl) (by unfold maxLen;omega) oM (by simp;omega) ?_;intro v' w7 hown hgrow hnil
       have HO:=zH hown;have HG:=zH hgrow;clear hown hgrow hnil hrow)
     go_roundw
     case rel=>exact⟨j+1,by omega,by go_num,LN.next HT1.out oM HNM.out (by rw[HXJ.out]) HO.out HG.out⟩
     case measure=>simp[intOf];omega
  ·obtain rfl:j=5:=by omega
   obtain⟨gn,cn,rfl,hcn,hgn,hgn',n0,n1,n2,n3,n4⟩:=HLN.out.five hl6;have HNU:=zH HLN.out.nums;have H5:=zH (H4.out.keep HLN.out.below);have hw5:=HW6.out wr HLN.out.below 5 oM;have hgn0:W.heap.size<gn:=Nat.lt_of_lt_of_le H4.out.cells.2.2.2.2 hgn;have HMANY:=zH (fun h=>yP (tg:=aQ) (blk:=bK D) (k:=k) (L:=L) h);have HFN:=zH (fun m (hm:m≤(ab (L.getD 4 [])).toNat) hf=>yq (tg:=aQ) (rf (blk:=bK D) (at_:=ay k) (s:=⟨ab (L.getD 2 []),ab (L.getD 3 []),[]⟩) (n:=m) hf hm));have HEN:=zH (fun h4 st al hf=>Bk (tg:=aQ) (blk:=bK D) (k:=k) hl6 HNU.out h4 (st:=st) (al:=al) hf)
   have he0:0≤ab (L.getD 4 []):=by
    have:=HNU.out 4 oM;unfold gd at this;rw[Bool.and_eq_true]at this;exact(bO.1 this.2).1
   have ha0:0≤ab (L.getD 0 []):=by
    have:=HNU.out 0 oM;unfold gd at this;rw[Bool.and_eq_true]at this;exact(bO.1 this.2).1
   clear HLN HW6 HRD H4 hN HNU HOP;obtain⟨m0,m1,m2,mz,mlt⟩:=H5.out.cells;generalize hlo:kV aQ (bK D) k L=o at*;generalize hna:ab (L.getD 0 [])=a at*;generalize hnb:ab (L.getD 1 [])=b at*;generalize hnc:ab (L.getD 2 [])=c at*;generalize hnd:ab (L.getD 3 [])=d at*;generalize hne:ab (L.getD 4 [])=en at*;generalize htw:ah (L.getD 5 [])=tw at*;have HTW:Hid (tw=ah (L.getD 5 [])):=zH htw.symm;clear hlo hna hnb hnc hnd hne htw;obtain⟨N,rfl⟩: ∃ N:Nat,en=(N:Int):=⟨en.toNat,by omega⟩
   by_cases hN20:20<N
   ·go_wp2_with fail
    go_region
    go_wp2_with fail;exact gk (LD.same H5.out).drew (by rw[HMANY.out oM]) rfl rfl rfl rfl rfl
   ·go_wp2_with fail
    go_region
    go_wp2_with fail;have HLB0:Hid (LB W ⟨0,0,[]⟩ (.slice none 0 0) gn a b g4 tw wr):=zH ⟨H5.out,n0,n1,hw5,hgn0,hg40⟩;have HLB:=zH (LB.drew (HLB0.out.put ⟨c,d,[]⟩ (u':=.slice none 0 0) (aD.nil _ _)));dsimp only at HLB;clear HLB0 H5 n0 n1 n2 n3 n4 hw5 m0 m1 m2 mz mlt;generalize (((wr.setCell ⟨W.heap.size,0,none⟩ (.int .i64 c)).setCell ⟨W.heap.size,1,none⟩ (.int .i64 d)).setCell ⟨W.heap.size,2,none⟩ (.slice none 0 0)).drew=w6 at*
    go_loopw [18,93] (fun all i wr=>LF W (bK D) (ay k) ⟨c,d,[]⟩ N gn a b g4 tw all i wr) (fun _ i _=>N - (intOf i).toNat)
    case atStart=>exact⟨0,_,_,[],Nat.zero_le _,rfl,rfl,sB,HLB.out⟩
    case round=>
     obtain⟨m,st,u,al,hm,rfl,rfl,hfs,hlb⟩:=hrel;obtain⟨ua,uc,rfl⟩:=hlb.ld.row.slice;have HFS:=zH hfs;have HL:=zH hlb;clear hlb;obtain⟨hok,hsl,hal⟩:=xp (FJ c d) rfl (nh HF.out) m oM st al hfs;have HOK:=zH hok;clear hfs hok;have hals:(ah al).size≤5000:=by rw[bB];omega
     by_cases hmN:m<N
     ·obtain⟨c0,c1,c2,c3,c4,c5,c6,c7,z,hlt⟩:=(HS.out.keep HL.out.ld.below).cells
      have HRD:=zH (fun w hd=>iW db D (ay k+1+m) w hd oM);have hat:((ay k+1+m:Nat):Int)=(ay k:Int)+1+(m:Int):=by omega
      rw[hat]at HRD;have hbs:=HF.out (ay k+1+m);have HRE:Hid (∀ w,WB w w→bf w→Calls prog 106 #[.string (D.blk.getD (ay k+1+m) ByteArray.empty)] w (jA w (fX (bK D (ay k+1+m))) (if gK (bK D (ay k+1+m))then 0 else 3))):=zH fun w hw he=>Ai _ w oM hw he
      have hstep:=qB HFS.out
      have hap:ah al++(D.blk.getD (ay k+1+m) ByteArray.empty++⟨#[10]⟩)=ah (al++bK D (ay k+1+m)++[10]):=by
       rw[←gD,←gD,ByteArray.append_assoc];unfold bK;rw[bJ];rfl
      have HAP:=zH hap;have HFM:=HFN.out (m+1) oM;have HMAY:=zH (fun h=>tI (l:=bK D (ay k+1+m)) h);rw[hstep]at HFM;have HSTEP:=zH hstep;clear hap hat hstep;generalize D.blk.getD (ay k+1+m) ByteArray.empty=bm at*;generalize fX (bK D (ay k+1+m))=ev at*;generalize gK (bK D (ay k+1+m))=rb at*;rcases rb with _|_
      ·simp only[Bool.false_eq_true,if_false]at HRE
       simp only[Bool.false_and,Bool.false_eq_true,if_false]at HFM;clear HSTEP HAP HMAY;obtain⟨kd,⟨i,cl,su,sc,ge,ma,us,re,de⟩,id,ti⟩:=ev;go_wp2_with fail;refine(HRD.out _ (HS.out.keep HL.out.ld.below).disk).mono ?_;rintro e w1 ⟨rfl,rfl⟩;go_wp2_with fail;go_at_call 106;refine(HRE.out _ (HS.out.keep HL.out.ld.below).env.wb (HS.out.keep HL.out.ld.below).env.errs).mono ?_;rintro e w2 ⟨rfl,hb⟩;have HL2:=zH (HL.out.keep hb);clear hb c0 c1 c2 c3 c4 c5 c6 c7 z hlt HRE HRD HL;have HL3:=zH (HL2.out.keep ((Below.refl _ _).alloc (Nat.le_refl _) (.cells (ax ⟨kd,⟨i,cl,su,sc,ge,ma,us,re,de⟩,id,ti⟩) 116)));unfold aE ax;unfold ax at HL3;dsimp only at HL3 ⊢;obtain⟨sck,snx,sL⟩:=st;rw[show bV 3=.iface 57 (.int .i64 3)from rfl];go_wp2_with fail;generalize w2.alloc (.cells #[.int .i64 kd,.int .i64 i,.string cl,.string su,.string sc,.int .i64 ge,.int .i64 ma,.int .i64 us,.string re,.bool de,.int .i64 id,.int .i64 ti] 116)=w3 at*;obtain⟨m0,m1,m2,mz,mlt⟩:=HL3.out.ld.cells
       go_region
       go_wp2_with fail;exact gk (LD.same HL3.out.ld).drew (by rw[HFM trivial]) rfl rfl rfl rfl rfl
      ·simp only[if_true]at HRE
       have hev:=HMAY.out rfl
       by_cases hkd:ev.kind=1
       ·rw[decide_eq_true hkd]at HSTEP
        simp only[Bool.and_self,if_true]at HSTEP
        have HA:Hid (∀ (w:World) (v:Value),aD w (W.heap.size+1) v st.fams→Calls prog 54 #[dj st v,aE ev] w (iS w (am st ev).clock (am st ev).next (am st ev).fams)):=
         zH fun w v hr=>(sk _ v st ev w hr HOK.out (uQ hev) (uM hev)).mono fun _ _ h=>fG h
        clear HFM HMAY hev;generalize am st ev=st' at*;obtain⟨ck',nx',L'⟩:=st';unfold iS dj dN aE ax at HA;obtain⟨kd,⟨i,cl,su,sc,ge,ma,us,re,de⟩,id,ti⟩:=ev;obtain⟨sck,snx,sL⟩:=st;dsimp only at hkd HA;subst hkd;go_wp2_with fail;refine(HRD.out _ (HS.out.keep HL.out.ld.below).disk).mono ?_;rintro e w1 ⟨rfl,rfl⟩;go_wp2_with fail;go_at_call 106;refine(HRE.out _ (HS.out.keep HL.out.ld.below).env.wb (HS.out.keep HL.out.ld.below).env.errs).mono ?_;rintro e w2 ⟨rfl,hb⟩;have HL2:=zH (HL.out.keep hb);clear hb c0 c1 c2 c3 c4 c5 c6 c7 z hlt HRE HRD HL;have HL3:=zH (HL2.out.keep ((Below.refl _ _).alloc (Nat.le_refl _) (.cells (ax ⟨1,⟨i,cl,su,sc,ge,ma,us,re,de⟩,id,ti⟩) 116)));have HE3:=zH (aj.new w2 116 (ax ⟨1,⟨i,cl,su,sc,ge,ma,us,re,de⟩,id,ti⟩));unfold aE ax;unfold ax at HL3;dsimp only at HL3 ⊢;rw[show bV 0=.nilIface from rfl];obtain⟨m0,m1,m2,mz,mlt⟩:=HL2.out.ld.cells;go_wp2_with fail;go_at_call 54;refine(HA.out _ _ HL3.out.ld.row).mono ?_;rintro e w4 ⟨a1,c1,rfl,hr1,hb⟩;have hsz:=Nat.lt_of_lt_of_le HL2.out.ld.res.lt (show w2.heap.size≤(w2.alloc (.cells (ax ⟨1,⟨i,cl,su,sc,ge,ma,us,re,de⟩,id,ti⟩) 116)).heap.size by simp);have HL4:=zH (HL3.out.keep hb);have hr2:=hr1.mono (B':=W.heap.size+1) hsz;have HL5:=zH (HL4.out.put ⟨ck',nx',L'⟩ hr2);clear m0 m1 m2 mz mlt hr1 hr2 hb;obtain⟨m0,m1,m2,mz,mlt⟩:=HL4.out.ld.cells;go_wp2_with fail;refine⟨?_,?measure⟩
        repeat apply Exists.intro
        refine⟨?rel,rfl⟩
        case rel=>exact⟨m+1,_,_,_,by omega,by go_num,by rw[HAP.out],HSTEP.out,HL5.out⟩
        case measure=>simp[intOf];omega
       ·rw[decide_eq_false hkd]at HFM
        simp only[Bool.and_false,Bool.false_eq_true,if_false]at HFM;clear HSTEP HAP HMAY hev;obtain⟨kd,⟨i,cl,su,sc,ge,ma,us,re,de⟩,id,ti⟩:=ev;dsimp only at hkd;go_wp2_with fail;refine(HRD.out _ (HS.out.keep HL.out.ld.below).disk).mono ?_;rintro e w1 ⟨rfl,rfl⟩;go_wp2_with fail;go_at_call 106;refine(HRE.out _ (HS.out.keep HL.out.ld.below).env.wb (HS.out.keep HL.out.ld.below).env.errs).mono ?_;rintro e w2 ⟨rfl,hb⟩;have HL2:=zH (HL.out.keep hb);clear hb c0 c1 c2 c3 c4 c5 c6 c7 z hlt HRE HRD HL;have HL3:=zH (HL2.out.keep ((Below.refl _ _).alloc (Nat.le_refl _) (.cells (ax ⟨kd,⟨i,cl,su,sc,ge,ma,us,re,de⟩,id,ti⟩) 116)));unfold aE ax;unfold ax at HL3;dsimp only at HL3 ⊢;obtain⟨sck,snx,sL⟩:=st;rw[show bV 0=.nilIface from rfl];go_wp2_with fail;generalize w2.alloc (.cells #[.int .i64 kd,.int .i64 i,.string cl,.string su,.string sc,.int .i64 ge,.int .i64 ma,.int .i64 us,.string re,.bool de,.int .i64 id,.int .i64 ti] 116)=w3 at*;obtain⟨m0,m1,m2,mz,mlt⟩:=HL3.out.ld.cells
        go_region
        go_wp2_with fail;exact gk (LD.same HL3.out.ld).drew (by rw[HFM trivial]) rfl rfl rfl rfl rfl
     ·obtain rfl:m=N:=by omega
      have HEND:=zH (HEN.out oM st al (by rw[Int.toNat_natCast];exact HFS.out));have HTG:=zH (fun w=>me 1 (ah al) w oM);rw[ak]at HTG;clear HEN HFN HMANY HLB;obtain⟨sck,snx,sL⟩:=st;have hrem:a.tmod 2=a % 2:=Int.tmod_eq_emod_of_nonneg ha0
      have hqt:((⟨(aQ 1 al).toArray⟩:ByteArray).toList == tw.toList)=decide (aQ 1 al=L.getD 5 []):=by
       rw[HTW.out,ByteArray.toList_eq,bn,Bool.eq_iff_iff];simp
      generalize (⟨(aQ 1 al).toArray⟩:ByteArray)=tgs at*;generalize ah al=als at*;go_wp2_with fail
      by_cases hc:aQ 1 al=L.getD 5 []
      ·rw[decide_eq_true hc]at hqt
       refine aR (LB W ⟨sck,snx,sL⟩ (.slice ua sL.length uc) gn a b g4 tw) [] kR ?_;have HSD:=HL.out.drew;refine aa 2 (i:=0) (v:= ?v0) rfl kR kR kR kR kR (fun _ _ _ h=>h) (by rfl) ?hy0 aS ?rest0
       case hy0=>(intro w hSw;obtain⟨s0,s1,s2⟩:=hSw.three;obtain⟨m0,m1,m2,mz,mlt⟩:=hSw.ld.cells;go_simp;(try with_reducible rfl))
       simp only[Act.put];refine aa 2 (i:=1) (v:= ?v1) rfl kR kR kR kR kR (fun _ _ _ h=>h) (by rfl) ?hy1 aS ?rest1
       case hy1=>(intro w hSw;obtain⟨s0,s1,s2⟩:=hSw.three;obtain⟨m0,m1,m2,mz,mlt⟩:=hSw.ld.cells;go_simp;(try with_reducible rfl))
       simp only[Act.put];refine aa 2 (i:=2) (v:= ?v2) rfl kR kR kR kR kR (fun _ _ _ h=>h) (by rfl) ?hy2 aS ?rest2
       case hy2=>(intro w hSw;obtain⟨s0,s1,s2⟩:=hSw.three;obtain⟨m0,m1,m2,mz,mlt⟩:=hSw.ld.cells;go_simp;(try with_reducible rfl))
       simp only[Act.put];refine aa 2 (i:=3) (v:= ?v3) rfl kR kR kR kR kR (fun _ _ _ h=>h) (by rfl) ?hy3 aS ?rest3
       case hy3=>(intro w hSw;obtain⟨s0,s1,s2⟩:=hSw.three;obtain⟨m0,m1,m2,mz,mlt⟩:=hSw.ld.cells;go_simp;(try with_reducible rfl))
       simp only[Act.put];refine aa 2 (i:=4) (v:= ?v4) rfl kR kR kR kR kR (fun _ _ _ h=>h) (by rfl) ?hy4 aS ?rest4
       case hy4=>(intro w hSw;obtain⟨s0,s1,s2⟩:=hSw.three;obtain⟨m0,m1,m2,mz,mlt⟩:=hSw.ld.cells;go_simp;(try with_reducible rfl))
       simp only[Act.put];refine aa 2 (i:=5) (v:= ?v5) rfl kR kR kR kR kR (fun _ _ _ h=>h) (by rfl) ?hy5 aS ?rest5
       case hy5=>(intro w hSw;obtain⟨s0,s1,s2⟩:=hSw.three;obtain⟨m0,m1,m2,mz,mlt⟩:=hSw.ld.cells;go_simp;(try with_reducible rfl))
       simp only[Act.put];refine aa 2 (i:=6) (v:= ?v6) rfl kR kR kR kR kR (fun _ _ _ h=>h) (by rfl) ?hy6 aS ?rest6
       case hy6=>(intro w hSw;obtain⟨s0,s1,s2⟩:=hSw.three;obtain⟨m0,m1,m2,mz,mlt⟩:=hSw.ld.cells;go_simp;(try with_reducible rfl))
       simp only[Act.put];refine aa 2 (i:=7) (v:= ?v7) rfl kR kR kR kR kR (fun _ _ _ h=>h) (by rfl) ?hy7 aS ?rest7
       case hy7=>(intro w hSw;obtain⟨s0,s1,s2⟩:=hSw.three;obtain⟨m0,m1,m2,mz,mlt⟩:=hSw.ld.cells;go_simp;(try with_reducible rfl))
       simp only[Act.put];refine aa 2 (i:=9) (v:= ?v9) rfl kR kR kR kR kR (fun _ _ _ h=>h) (by rfl) ?hy9 aS ?rest9
       case hy9=>(intro w hSw;obtain⟨s0,s1,s2⟩:=hSw.three;obtain⟨m0,m1,m2,mz,mlt⟩:=hSw.ld.cells;go_simp;(try with_reducible rfl))
       simp only[Act.put];refine aa 2 (i:=10) (v:= ?v10) rfl kR kR kR kR kR (fun _ _ _ h=>h) (by rfl) ?hy10 aS ?rest10
       case hy10=>(intro w hSw;obtain⟨s0,s1,s2⟩:=hSw.three;obtain⟨m0,m1,m2,mz,mlt⟩:=hSw.ld.cells;go_simp;(try with_reducible rfl))
       simp only[Act.put];refine aa 2 (i:=11) (v:= ?v11) rfl kR kR kR kR kR (fun _ _ _ h=>h) (by rfl) ?hy11 aS ?rest11
       case hy11=>(intro w hSw;obtain⟨s0,s1,s2⟩:=hSw.three;obtain⟨m0,m1,m2,mz,mlt⟩:=hSw.ld.cells;go_simp;(try with_reducible rfl))
       simp only[Act.put];refine ai (i:=8) kR rfl ?_;intro K8 hK8;go_simp;go_at_call 107;refine(HTG.out _).mono ?_;rintro e w5 ⟨rfl,hb⟩;have HSD5:=HSD.keep hb
       try dsimp only
       refine hK8.out _ _ (fun _=>HSD5) ?_
       try simp only[Act.put]
       refine aa 2 (i:=12) (v:= ?v12) rfl kR kR kR kR kR (fun _ _ _ h=>h) (by rfl) ?hy12 aS ?rest12
       case hy12=>(intro w hSw;obtain⟨s0,s1,s2⟩:=hSw.three;obtain⟨m0,m1,m2,mz,mlt⟩:=hSw.ld.cells;go_simp;(try with_reducible rfl))
       simp only[Act.put];refine aa 2 (i:=13) (v:= ?v13) rfl kR kR kR kR kR (fun _ _ _ h=>h) (by rfl) ?hy13 aS ?rest13
       case hy13=>(intro w hSw;obtain⟨s0,s1,s2⟩:=hSw.three;obtain⟨m0,m1,m2,mz,mlt⟩:=hSw.ld.cells;go_simp;(try with_reducible rfl))
       simp only[Act.put];refine aa 2 (i:=14) (v:= ?v14) rfl kR kR kR kR kR (fun _ _ _ h=>h) (by go_simp) ?hy14 aS ?rest14
       case hy14=>(intro w hSw;obtain⟨s0,s1,s2⟩:=hSw.three;obtain⟨m0,m1,m2,mz,mlt⟩:=hSw.ld.cells;go_simp;(try with_reducible rfl))
       simp only[Act.put];refine aa 2 (i:=15) (v:= ?v15) rfl kR kR kR kR kR (fun _ _ _ h=>h) (by go_simp) ?hy15 aS ?rest15
       case hy15=>(intro w hSw;obtain⟨s0,s1,s2⟩:=hSw.three;obtain⟨m0,m1,m2,mz,mlt⟩:=hSw.ld.cells;go_simp;(try with_reducible rfl))
       simp only[Act.put];refine aa 2 (i:=16) (v:= ?v16) rfl kR kR kR kR kR (fun _ _ _ h=>h) (by go_simp) ?hy16 aS ?rest16
       case hy16=>(intro w hSw;obtain⟨s0,s1,s2⟩:=hSw.three;obtain⟨m0,m1,m2,mz,mlt⟩:=hSw.ld.cells;go_simp;(try with_reducible rfl))
       simp only[Act.put];refine aa 2 (i:=17) (v:= ?v17) rfl kR kR kR kR kR (fun _ _ _ h=>h) (by go_simp) ?hy17 aS ?rest17
       case hy17=>(intro w hSw;obtain⟨s0,s1,s2⟩:=hSw.three;obtain⟨m0,m1,m2,mz,mlt⟩:=hSw.ld.cells;go_simp;(try with_reducible rfl))
       simp only[Act.put];refine aa 2 (i:=18) (v:= ?v18) rfl kR kR kR kR kR (fun _ _ _ h=>h) (by go_simp) ?hy18 aS ?rest18
       case hy18=>(intro w hSw;obtain⟨s0,s1,s2⟩:=hSw.three;obtain⟨m0,m1,m2,mz,mlt⟩:=hSw.ld.cells;go_simp;(try with_reducible rfl))
       simp only[Act.put];refine aa 2 (i:=19) (v:= ?v19) rfl kR kR kR kR kR (fun _ _ _ h=>h) (by go_simp) ?hy19 aS ?rest19
       case hy19=>(intro w hSw;obtain⟨s0,s1,s2⟩:=hSw.three;obtain⟨m0,m1,m2,mz,mlt⟩:=hSw.ld.cells;go_simp;(try with_reducible rfl))
       simp only[Act.put];refine aa 2 (i:=20) (v:= ?v20) rfl kR kR kR kR kR (fun _ _ _ h=>h) (by go_simp) ?hy20 aS ?rest20
       case hy20=>(intro w hSw;obtain⟨s0,s1,s2⟩:=hSw.three;obtain⟨m0,m1,m2,mz,mlt⟩:=hSw.ld.cells;go_simp;(try with_reducible rfl))
       simp only[Act.put];refine ai (i:=21) kR rfl ?_;intro K21 hK21;go_simp
       try dsimp only
       refine hK21.out _ _ (fun _=>HSD5) ?_
       try simp only[Act.put]
       refine ai (i:=22) kR rfl ?_;intro K22 hK22;go_simp
       try dsimp only
       refine hK22.out _ _ (fun _=>HSD5) ?_
       try simp only[Act.put]
       obtain⟨m0,m1,m2,mz,mlt⟩:=HSD5.ld.cells;have HSD6:=HSD5.put ⟨sck,snx,sL⟩ HSD5.ld.row;refine ai (i:=23) kR rfl ?_;intro K23 hK23;go_simp
       try dsimp only
       refine hK23.out _ _ (fun _=>HSD6) ?_
       try simp only[Act.put]
       refine ai (i:=24) kR rfl ?_;intro K24 hK24;go_simp
       try dsimp only
       refine hK24.out _ _ (fun _=>HSD6) ?_
       try simp only[Act.put]
       refine aX kR ?_ _;go_wp2_with fail;refine gk (o:=o) HSD6.ld ?_ rfl rfl rfl rfl rfl;rw[HEND.out]
       by_cases hk2:a % 2=(k:Int)
       ·rw[if_pos ⟨hc,hk2⟩]
        exact⟨by simpa using hk2,rfl⟩
       ·rw[if_neg fun h=>hk2 h.2]
        simpa using hk2
      ·rw[decide_eq_false hc]at hqt
       refine aR (LB W ⟨sck,snx,sL⟩ (.slice ua sL.length uc) gn a b g4 tw) [] kR ?_;have HSD:=HL.out.drew;refine aa 2 (i:=0) (v:= ?n0) rfl kR kR kR kR kR (fun _ _ _ h=>h) (by rfl) ?hn0 aS ?rn0
       case hn0=>(intro w hSw;obtain⟨s0,s1,s2⟩:=hSw.three;obtain⟨m0,m1,m2,mz,mlt⟩:=hSw.ld.cells;go_simp;(try with_reducible rfl))
       simp only[Act.put];refine aa 2 (i:=1) (v:= ?n1) rfl kR kR kR kR kR (fun _ _ _ h=>h) (by rfl) ?hn1 aS ?rn1
       case hn1=>(intro w hSw;obtain⟨s0,s1,s2⟩:=hSw.three;obtain⟨m0,m1,m2,mz,mlt⟩:=hSw.ld.cells;go_simp;(try with_reducible rfl))
       simp only[Act.put];refine aa 2 (i:=2) (v:= ?n2) rfl kR kR kR kR kR (fun _ _ _ h=>h) (by rfl) ?hn2 aS ?rn2
       case hn2=>(intro w hSw;obtain⟨s0,s1,s2⟩:=hSw.three;obtain⟨m0,m1,m2,mz,mlt⟩:=hSw.ld.cells;go_simp;(try with_reducible rfl))
       simp only[Act.put];refine aa 2 (i:=3) (v:= ?n3) rfl kR kR kR kR kR (fun _ _ _ h=>h) (by rfl) ?hn3 aS ?rn3
       case hn3=>(intro w hSw;obtain⟨s0,s1,s2⟩:=hSw.three;obtain⟨m0,m1,m2,mz,mlt⟩:=hSw.ld.cells;go_simp;(try with_reducible rfl))
       simp only[Act.put];refine aa 2 (i:=4) (v:= ?n4) rfl kR kR kR kR kR (fun _ _ _ h=>h) (by rfl) ?hn4 aS ?rn4
       case hn4=>(intro w hSw;obtain⟨s0,s1,s2⟩:=hSw.three;obtain⟨m0,m1,m2,mz,mlt⟩:=hSw.ld.cells;go_simp;(try with_reducible rfl))
       simp only[Act.put];refine aa 2 (i:=5) (v:= ?n5) rfl kR kR kR kR kR (fun _ _ _ h=>h) (by rfl) ?hn5 aS ?rn5
       case hn5=>(intro w hSw;obtain⟨s0,s1,s2⟩:=hSw.three;obtain⟨m0,m1,m2,mz,mlt⟩:=hSw.ld.cells;go_simp;(try with_reducible rfl))
       simp only[Act.put];refine aa 2 (i:=6) (v:= ?n6) rfl kR kR kR kR kR (fun _ _ _ h=>h) (by rfl) ?hn6 aS ?rn6
       case hn6=>(intro w hSw;obtain⟨s0,s1,s2⟩:=hSw.three;obtain⟨m0,m1,m2,mz,mlt⟩:=hSw.ld.cells;go_simp;(try with_reducible rfl))
       simp only[Act.put];refine aa 2 (i:=7) (v:= ?n7) rfl kR kR kR kR kR (fun _ _ _ h=>h) (by rfl) ?hn7 aS ?rn7
       case hn7=>(intro w hSw;obtain⟨s0,s1,s2⟩:=hSw.three;obtain⟨m0,m1,m2,mz,mlt⟩:=hSw.ld.cells;go_simp;(try with_reducible rfl))
       simp only[Act.put];refine aa 2 (i:=9) (v:= ?n9) rfl kR kR kR kR kR (fun _ _ _ h=>h) (by rfl) ?hn9 aS ?rn9
       case hn9=>(intro w hSw;obtain⟨s0,s1,s2⟩:=hSw.three;obtain⟨m0,m1,m2,mz,mlt⟩:=hSw.ld.cells;go_simp;(try with_reducible rfl))
       simp only[Act.put];refine aa 2 (i:=10) (v:= ?n10) rfl kR kR kR kR kR (fun _ _ _ h=>h) (by rfl) ?hn10 aS ?rn10
       case hn10=>(intro w hSw;obtain⟨s0,s1,s2⟩:=hSw.three;obtain⟨m0,m1,m2,mz,mlt⟩:=hSw.ld.cells;go_simp;(try with_reducible rfl))
       simp only[Act.put];refine aa 2 (i:=11) (v:= ?n11) rfl kR kR kR kR kR (fun _ _ _ h=>h) (by rfl) ?hn11 aS ?rn11
       case hn11=>(intro w hSw;obtain⟨s0,s1,s2⟩:=hSw.three;obtain⟨m0,m1,m2,mz,mlt⟩:=hSw.ld.cells;go_simp;(try with_reducible rfl))
       simp only[Act.put];refine ai (i:=8) kR rfl ?_;intro K8 hK8;go_simp;go_at_call 107;refine(HTG.out _).mono ?_;rintro e w5 ⟨rfl,hb⟩;have HSD5:=HSD.keep hb
       try dsimp only
       refine hK8.out _ _ (fun _=>HSD5) ?_
       try simp only[Act.put]
       refine aa 2 (i:=12) (v:= ?n12) rfl kR kR kR kR kR (fun _ _ _ h=>h) (by rfl) ?hn12 aS ?rn12
       case hn12=>(intro w hSw;obtain⟨s0,s1,s2⟩:=hSw.three;obtain⟨m0,m1,m2,mz,mlt⟩:=hSw.ld.cells;go_simp;(try with_reducible rfl))
       simp only[Act.put];refine aa 2 (i:=13) (v:= ?n13) rfl kR kR kR kR kR (fun _ _ _ h=>h) (by rfl) ?hn13 aS ?rn13
       case hn13=>(intro w hSw;obtain⟨s0,s1,s2⟩:=hSw.three;obtain⟨m0,m1,m2,mz,mlt⟩:=hSw.ld.cells;go_simp;(try with_reducible rfl))
       simp only[Act.put];refine fV 2 (i:=14) rfl kR kR kR kR kR (fun _ _ _ h=>h) (by go_simp) aS ?_;simp only[Act.put];refine fV 2 (i:=15) rfl kR kR kR kR kR (fun _ _ _ h=>h) (by go_simp) aS ?_;simp only[Act.put];refine fV 2 (i:=16) rfl kR kR kR kR kR (fun _ _ _ h=>h) (by go_simp) aS ?_;simp only[Act.put];refine fV 2 (i:=17) rfl kR kR kR kR kR (fun _ _ _ h=>h) (by go_simp) aS ?_;simp only[Act.put];refine fV 2 (i:=18) rfl kR kR kR kR kR (fun _ _ _ h=>h) (by go_simp) aS ?_;simp only[Act.put];refine fV 2 (i:=19) rfl kR kR kR kR kR (fun _ _ _ h=>h) (by go_simp) aS ?_;simp only[Act.put];refine aa 2 (i:=20) (v:= ?n20) rfl kR kR kR kR kR (fun _ _ _ h=>h) (by go_simp) ?hn20 aS ?rn20
       case hn20=>(intro w hSw;obtain⟨s0,s1,s2⟩:=hSw.three;obtain⟨m0,m1,m2,mz,mlt⟩:=hSw.ld.cells;go_simp;(try with_reducible rfl))
       simp only[Act.put];refine ai (i:=21) kR rfl ?_;intro K21 hK21;go_simp
       try dsimp only
       refine hK21.out _ _ (fun _=>HSD5) ?_
       try simp only[Act.put]
       refine ai (i:=22) kR rfl ?_;intro K22 hK22;go_simp
       try dsimp only
       refine hK22.out _ _ (fun _=>HSD5) ?_
       try simp only[Act.put]
       obtain⟨m0,m1,m2,mz,mlt⟩:=HSD5.ld.cells;have HSD6:=HSD5.put ⟨sck,snx,sL⟩ HSD5.ld.row;refine ai (i:=23) kR rfl ?_;intro K23 hK23;go_simp
       try dsimp only
       refine hK23.out _ _ (fun _=>HSD6) ?_
       try simp only[Act.put]
       refine ai (i:=24) kR rfl ?_;intro K24 hK24;go_simp
       try dsimp only
       refine hK24.out _ _ (fun _=>HSD6) ?_
       try simp only[Act.put]
       refine aX kR ?_ _;go_wp2_with fail;refine gk (o:=o) HSD6.ld ?_ rfl rfl rfl rfl rfl;rw[HEND.out,if_neg fun h=>hc h.1]
theorem yp (B sb db:Nat) (D:Dk) (s:St) (v:Value) (n f x:Int) (down:Bool) (W:World) (h:SD B sb db D s v n f x down W) (hf:D.fits) (k:Nat) (hk:k<2):
  Calls prog 52 #[.pointer (some ⟨sb,0,none⟩),.int .i64 k] W (qj W (fh aQ (bK D) k)):=by
 rcases ho:eE aQ (bK D (ay k))with _|l
 ·rw[yY aQ ho]
  exact xC B sb db D s v n f x down W h hf k hk [] false ho (fun _=>rfl) dC (.inl rfl)
 ·have hl:=tR ho
  have hb:=nh hf (ay k)
  by_cases h6:(parts 32 l).length=6
  ·rw[wj aQ ho h6]
   exact yF B sb db D s v n f x down W h hf k hk l ho oM h6
  ·rw[CC aQ ho h6]
   exact xC B sb db D s v n f x down W h hf k hk l true ho (fun h=>by cases h) oM (.inr h6)
end Go.Proofs.YtepjcdjpikbbjaaGreatDoor
