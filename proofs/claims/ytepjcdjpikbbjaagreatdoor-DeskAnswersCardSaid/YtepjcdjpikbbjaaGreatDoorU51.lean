/-
  The desk: a session.
-/
import Derived.Test.YtepjcdjpikbbjaaGreatDoorU00
import Derived.Test.YtepjcdjpikbbjaaGreatDoorU48
import Derived.RangeFuncKeeps
import Derived.Test.YtepjcdjpikbbjaaGreatDoorU40
import Derived.Test.YtepjcdjpikbbjaaGreatDoorU43
import Derived.Test.YtepjcdjpikbbjaaGreatDoorU49
import Derived.Test.YtepjcdjpikbbjaaGreatDoorU44
import Derived.Test.YtepjcdjpikbbjaaGreatDoorU45
import Derived.Test.YtepjcdjpikbbjaaGreatDoorU50
import Derived.Test.YtepjcdjpikbbjaaGreatDoorU46
set_option maxHeartbeats 8000000
set_option maxRecDepth 100000
namespace Go.Proofs.YtepjcdjpikbbjaaGreatDoor
open Go.Proofs.Tryz
open Go.RowKit Go.Sort Go.Lib
attribute [local go_sem] Oper.semAt_some
theorem Ib (l:List UInt8):Lib.trimSuffix l [10]=eK l:=by
 unfold eK Lib.trimSuffix
 by_cases h:l.getLast?=some 10
 ·obtain⟨a,rfl⟩:=List.getLast?_eq_some_iff.1 h
  have h2:Lib.hasSuffix (a++[10]) [10]=true:=by simp[Lib.hasSuffix]
  rw[if_pos h,if_pos h2];simp
 ·have h2: ¬ Lib.hasSuffix l [10]=true:=by
   intro h3;apply h;obtain⟨t,rfl⟩:=List.isSuffixOf_iff_suffix.1 h3;simp
  rw[if_neg h,if_neg h2]
theorem FK (s:ByteArray):(⟨(Lib.trimSuffix s.data.toList [10]).toArray⟩:ByteArray)=ah (eK s.data.toList):=by
 rw[Ib];rfl
theorem BN (W:World) (henv:pR W.heap.size W) (he:da W) (hg:1<W.heap.size) (s:ByteArray) (hs:s.size≤5000):
  Calls prog 5 #[.string s] W fun e w'=>(e=.returned (.string (rZ s.data.toList))∧ ∀ p,p<+:iK s.data.toList→DZ (kU p).1)∧Below W.heap.size W w':=by
 refine(callsIn_wide (n:=3)).1 ?_;have HF:=zH (xo W henv he hg);have f1:Fence.wide.fn 7:=trivial;have f2:Fence.wide.fn 9:=trivial;have f3:Fence.wide.fn 8:=trivial;have f4:Fence.wide.fn 12:=trivial;have h1:1≤3:=by decide
 refine callsIn_of_wp_marks Tryz.func5 rfl trivial ?_ rfl;simp only[Tryz.ntmps5,List.size_toArray,List.length_cons,List.length_nil,Nat.reduceAdd,Nat.reduceSub,Array.replicate_succ,Array.replicate_zero,List.push_toArray,List.append_toArray,List.nil_append,List.cons_append]
 have HT:Hid (∀ w,Calls prog 9 #[.string s,.string ⟨#[10]⟩] w fun e w'=>e=.returned (.string (ah (eK s.data.toList)))∧w'=w):=zH (fun w=>by
  rw[←FK];exact Tryz.strings_TrimSuffix s ⟨#[10]⟩ w oM)
 have hs2: ¬ ((20000:Int)<(s.size:Int)):=by omega
 gi_wp2_with (first
  |(gi_at_call 7;refine(callsIn_wide.2 (HF.out _)).mono ?_;rintro e w4 ⟨rfl,hd,hst⟩
    have hbx:=(ov W).2.1.stay hst rfl;have hc:=hbx.cell 0)
  |(gi_at_call 9;refine(callsIn_wide.2 (HT.out _)).mono ?_;rintro e w5 ⟨rfl,hw5⟩;obtain rfl:=hw5.symm)
  |(gi_at_call 8;refine(callsIn_wide.2 (EU _ _)).mono ?_;rintro e w6 ⟨rfl,hq⟩))
 have hG:4<W.heap.size:=henv.gm
 have hm4:dt w4:=by
  obtain⟨vb,sb,db,v,hk⟩:=hd;exact hk.env.maxl
 obtain⟨hI0,hsq,hle⟩:=iD.start (t:=ah (eK s.data.toList)) hd hbx hm4
 have hlen:(eK s.data.toList).length≤5000:=by
  have h1:s.data.toList.length=s.size:=aq _;unfold eK;split
  ·rw[List.length_dropLast];omega
  ·omega
 have hqd:(ah (eK s.data.toList)).data.toList=eK s.data.toList:=ak _;have hsz:(ah (eK s.data.toList)).size≤5000:=hlen;have hll:iK s.data.toList=parts 10 (ah (eK s.data.toList)).data.toList:=by rw[hqd,yr]
 have hpl:(parts 10 (ah (eK s.data.toList)).data.toList).length≤5001:=by
  have:=fP 10 (eK s.data.toList);rw[hqd];omega
 have hsd:rZ s.data.toList=(kU (parts 10 (ah (eK s.data.toList)).data.toList)).2:=by unfold rZ kU;rw[hll]
 generalize ah (eK s.data.toList)=t at*;have hw6:(gp (w4.alloc (.cells #[.pointer none,.slice none 0 0] 38)) t).heap.size=w4.heap.size+4:=by unfold gp;simp
 refine mG rfl h1 (gf:=56) (lb:=#[.pointer (some ⟨w4.heap.size+1+1,0,none⟩),.pointer (some ⟨w4.heap.size+1,0,none⟩),.pointer (some ⟨w4.heap.size+1+1+1,0,none⟩)]) rfl trivial
  (enters_of Tryz.func56 kR rfl) (C5 (3 - 1) (w4.heap.size+1) dC t _ oM hsq oM) rfl yI (fun _ _ _=>zh) Dn
  (iD W w4.heap.size (w4.heap.size+1)) (fun xs A A' l hA hg hl ho=>hA.odd hg oM hG ho) (fun pre A A' hA hT=>hA.turn hT oM hG) (fun W' _ hg=>hI0.keep ⟨hg.os,hg.tape,hg.output,hg.size,fun k hk=>hg.block k hk (by simp)⟩)
  (fun x=>{tmps:=#[.string s,undef,.string ⟨#[]⟩,.pointer (some ⟨W.heap.size+1,0,none⟩),.pointer (some ⟨w4.heap.size,0,none⟩),.string (ah x),.string s,.int .i64 s.size,.bool false,
   .agg #[.pointer none,.pointer none,.pointer none,.int .i64 0,.int .i64 0,.int .i64 0,.int .i64 0],.pointer (some ⟨W.heap.size,0,none⟩),.pointer (some ⟨W.heap.size,0,none⟩),.slice (some ⟨W.heap.size+1+1,0,none⟩) 4 4,.string (ah jc),.string s,.string t,Jj (w4.heap.size+1),.string (ah x),undef,undef,undef,undef,undef,undef],defers:=[]}) ?assign ?body ?done
 case assign=>
  intro l x W' K hK
  gi_wp2
  exact hK
 case body=>
  intro l pre x W' hI hp
  have hpl2:pre.length<5001:=by
   have:=hp.length_le;rw[List.length_append,List.length_singleton]at this;omega
  have hx:x.length≤5000:=by
   have hm:x∈parts 10 t.data.toList:=hp.subset (by simp);exact be 10 _ 5000 (by rw[i6];exact hsz) x hm
  obtain⟨vb,sb,db,v,hdk⟩:=hI.dk;have hc:=hI.box.cell 0;have hz:=hI.zs pre (List.prefix_refl _);have g1:Fence.wide.fn 11:=trivial;have g2:Fence.wide.fn 10:=trivial;obtain⟨d',ans,hda⟩: ∃ d' ans,cJ (kU pre).1 x=(d',ans):=⟨_,_,rfl⟩;have HL0:=CE hdk oM hI.ok (fun n L=>(qh _ n L).ok) (ah x) (by show x.length≤_;omega);have e0:cJ ⟨(kU pre).1.r,(kU pre).1.z⟩ x=(d',ans):=hda;unfold nG at HL0;rw[ak,e0]at HL0;have HL:=zH HL0;have HI:=zH hI
  have hn7: ∀ w7,vL W W.heap.size (pre.length+1) d' w7→ans.size≤100000:=fun w7 h7=>by
   have:=uR (d:=(kU pre).1) ⟨hz.fit,hz.ru,hI.ok,hz.lg⟩ x (by rw[hda];exact(h7.dz oM).fit);rw[hda]at this;exact this
  have hsI:=hI.sz;have hGl:W.heap.size≤W'.heap.size:=hdk.below.size;have h10:(⟨#[10]⟩:ByteArray).size=1:=rfl
  have hnx: ∀ w1 w2,vL W W.heap.size (pre.length+1) d' w1→bt W' w1→IsBuilder 38 5 W.heap.size w4.heap.size (strCells (kU pre).2++strCells (ans++⟨#[10]⟩)) w2→Below W.heap.size w1 w2→fW w1 w2→
   iD W w4.heap.size (w4.heap.size+1) (pre++[x]) w2∧KeepsOthers W' w2∧xS (w4.heap.size+1) W' w2:=fun w1 w2 a1 a2 a3 a4 a5=>HI.out.next oM hG (by rw[hda];exact a1) a2 (by rw[hda];exact a3) a4 a5
  have HNX:=zH hnx;have HN7:=zH hn7;clear hI hdk hz HL0 e0 hnx hn7
  gi_wp2_with (gi_at_call 11;refine(CallsIn.inRound l (callsIn_wide.2 HL.out)).mono ?_;rintro e w7 ⟨rfl,hd7,hst7⟩
               have hq7:=HN7.out w7 hd7;have hadd:=bi ans ⟨#[10]⟩ oM;have H7:=zH hd7;have HS7:=zH hst7;have hs7:=hst7.size;clear hd7 hst7)
  have HB7:=oa HI.out.bld (qc.of_stay HS7.out);have HW7:=yS W.heap.size w4.heap.size _ (ans++⟨#[10]⟩) w7 HB7 (by rw[strCells_length,ByteArray.size_append];omega) oM;refine(CallsIn.inRound l (callsIn_wide.2 HW7)).mono ?_;rintro e w8 ⟨rfl,hb8,hbl8,ho8⟩;have HN:=zH (HNX.out w7 w8 H7.out HS7.out hb8 hbl8 ho8);clear hb8 hbl8 ho8 HW7 HB7
  gi_wp2
  exact⟨HN.out.2.1,HN.out.2.2,HN.out.1⟩
 case done=>
  intro D W' hD hI hDk;have hbw:IsBuilder 38 5 W.heap.size w4.heap.size (Lib.byteCells (kU (parts 10 t.data.toList)).2.data.toList) W':=hI.bld;obtain⟨vb,sb,db,v,hk⟩:=id hI.dk
  have hblt:w4.heap.size<W'.heap.size:=by
   rcases hI.bld with h|h
   ·exact h.lt
   ·exact h.lt
  have hDb:some D≠some w4.heap.size:=by
   intro e;cases e;rw[hw6]at hD;omega
  have HBL:=zH hk.below;have HZ:=zH hI.zs;have HS:=zH (Tryz.Builder_String_any_k W.heap.size w4.heap.size _ W' (IsBuilderF.of hbw) hk.below.size);clear hI hbw hk;rw[←hll]at HZ;rw[←hsd]at HS;clear hsd hll hqd;obtain⟨y,hy⟩: ∃ y,y=rZ s.data.toList:=⟨_,rfl⟩;rw[←hy]at HS;have HY:=zH hy;clear hy
  gi_wp2_with (gi_at_call 12;refine(callsIn_wide.2 HS.out).mono ?_;rintro e w8 ⟨rfl,_,hb8,hk8⟩)
  have hD8:w8.heap[D]?=some (.deferred (some [])):=hk8 D _ hDk hDb (fun c fz e=>by cases e);refine⟨by simp,.inl ⟨_,_,rfl,run_takeDeferred hD8,?_⟩⟩;exact⟨_,results_tmp rfl _ _ _,⟨by rw[←HY.out];rfl,HZ.out⟩,(HBL.out.trans hb8).trans (belowK_b (w:=W) (Nat.le_refl _) w8 D _ _ oM hD8 rfl rfl)⟩
section
variable {W w:World} {mb hb qb rb:Nat} {r:Ru} {z:SS} {v:Value}
theorem yn (h:iL W mb hb qb rb r z v w) (hz:RZ r z) (hwr:cP z.writes) (g off c:Nat) (L:List (List UInt8)) (hw:iF w g off L) (hl: ∀ x∈L,x.length≤5000):
  Calls prog 15 #[.pointer (some ⟨hb,0,none⟩),.string ⟨#[116,105,99,107]⟩,.slice (some ⟨g,off,none⟩) L.length c] w (bw W w mb hb (gS ⟨r,z⟩ L)):=by
 by_cases hL:L.length=1
 ·rcases L with _|⟨a,_|⟨_,L⟩⟩
  ·exact absurd hL (by simp)
  ·clear hL
   have d0:w.cell? ⟨g,off,none⟩=some (.string (ah a)):=hw.2 0 a rfl;have l0:=hl a (by simp);obtain⟨⟩:=ey hw hl hwr;obtain⟨wcs,hwb⟩:=hw.1
   show Calls prog 15 #[.pointer (some ⟨hb,0,none⟩),.string ⟨#[116,105,99,107]⟩,.slice (some ⟨g,off,none⟩) 1 c] w (bw W w mb hb (gS ⟨r,z⟩ [a]))
   have HWR:=zH hwr;clear hw hl hwr;have hal:=(Below.refl w.heap.size w).alloc (Nat.le_refl _) (.cells #[.slice (some ⟨g,off,none⟩) 1 c] 34);have H0:=zH (h.keep hal);have d0:=(hal.cell (p:=⟨g,off,none⟩) (World.block_lt_of_cell? _ _ d0)).trans d0;have D0:=zH d0;have hfc:=H0.out.forms;have hlk:(Instr.lookup 87 (.map (some mb)) (.string ⟨#[116,105,99,107]⟩) true).run prog _=.ok (.tuple #[.string ⟨#[110]⟩,.bool true]) _:=H0.out.look jd dC;obtain⟨i0,hii,hz0,hz1,hz2⟩:=info_parts kq;have HBX:=zH (aj.new w 34 #[.slice (some ⟨g,off,none⟩) 1 c]);have HWB:=zH (hwb.below' hal);clear hwb;have HAL:=zH hal;have HZ:=zH hz;clear h hal hz;have hmf: ∀ (fn:Fn) (first cap:Array Value) (w:World),(Instr.makeFunc fn first cap).run prog w=.ok (.func fn first cap) w:=fun _ _ _ _=>rfl
   go_enter Tryz.func15,Tryz.ntmps15;go_wp2_with fail;refine wp_loop_rounds 2 ?_;generalize w.alloc (.cells #[.slice (some ⟨g,off,none⟩) 1 c] 34)=w0 at*;have HNS:=zH (NS.nil w0);clear hfc hlk;rw[rounds_succ];go_wp2_with fail;go_at_call 31;rcases hn0:aC a with _|_
   ·refine(ju a l0 hn0 (H0.out.keep HNS.out.bl)).mono ?_
    rintro e wn ⟨rfl,hbn⟩;have HQ:=zH (HNS.out.keep hbn);clear hbn;go_wp2_with fail;go_ret2;exact cf (d:=⟨r,z⟩) (H0.out.keep HQ.out.bl) (ae HAL.out HQ.out.bl) dC (by simp[gS,hn0])
   refine(gj a l0 hn0 (H0.out.keep HNS.out.bl)).mono ?_;rintro e v0 ⟨rfl,hbn⟩;dsimp only;have HK0:=zH (HNS.out.keep hbn);clear hbn;have hrow:=HK0.out.own;have hsz:=HK0.out.bl.size
   go_wp2_with
    (at_builtin;refine wpList_append_own _ rfl _ _ 88 rfl w0.heap.size 3 i0 (.int .i64 0) 1 8 underlying88 hii hz0 hz1 hz2 rfl dC _ _ _ rfl (hrow.alloc _) ⟨v0.heap.size,0,none⟩ 1 1 [.int .i64 (ab a)] rfl rfl (cell_one_new _ _ _) (fun x hx=>by simp at hx;subst hx;rfl) (by unfold maxLen;simp) (by simp) (by simp;omega) ?_;intro y0 x0 hown hgrow hnil
     have HM0:=zH (HK0.out.app hown hgrow);clear hown hgrow hnil hrow hsz)
   obtain⟨ng,nc,rfl,hng,hnc⟩:=HM0.out.cells (by simp);have n0:=hnc 0 (ab a) rfl;clear hnc;have d0:=(HM0.out.bl.cell (p:=⟨g,off,none⟩) (World.block_lt_of_cell? _ _ D0.out)).trans D0.out;have HH:=zH (H0.out.keep HM0.out.bl);have HB:=zH (ae HAL.out HM0.out.bl);have HBX:=zH (HBX.out.below' HM0.out.bl);have HWB:=zH (HWB.out.below' HM0.out.bl);have hbx:=HBX.out.cell 0;have hh:=HH.out.at_.cell 0;obtain⟨s0,s1,s2,s3,s4,slt⟩:=HH.out.rv.five;rw[rounds_succ];go_wp2_with fail;go_at_call 43;refine(Fd HH.out.rv HZ.out (ab a)).mono ?_;rintro e w8 ⟨rfl,hg,v8,hr⟩;have hy:gS ⟨r,z⟩ [a]=(⟨r,(ar () z (dY z.s (ab a))).1⟩,aL (ar () z (dY z.s (ab a))).1.s.clock,(ar () z (dY z.s (ab a))).2.2):=by simp[gS,hn0]
   have hok:cP (ar () z (dY z.s (ab a))).1.s.clock:=Ga HZ.out.fit (ab a);generalize ar () z (dY z.s (ab a))=P at*;obtain⟨z8,t8,c8⟩:=P;dsimp only at hr hy hok ⊢;have HH8:=zH (HH.out.turn hg hr);have HS8:=zH ((cR.of_below HB.out).trans HH8.out.2);clear hg hr s0 s1 s2 s3 s4 slt;obtain⟨s0,s1,s2,s3,s4,slt⟩:=HH8.out.1.rv.five;obtain⟨r0,r1,r2,rlt⟩:=HH8.out.1.rv.three;go_wp2_with fail;go_at_call 16;refine(jW HH8.out.1 z8.s.clock hok).mono ?_;rintro e w9 ⟨rfl,hb9⟩;have HT:=zH (vG HS8.out HH8.out.1 hb9);clear hb9;go_wp2_with fail;go_ret2
   try rw[hy]
   exact HT.out _ _ c8 (fun _=>rfl)
  ·exact absurd hL (by simp)
 ·refine(cF h jd dC _ L.length (some ⟨g,off,none⟩) c rfl (fun F hF=>by cases (show some _=some F from hF);simpa using fun e=>hL e.symm)).mono ?_
  rintro e w' ⟨rfl,hb⟩;refine cf (d:=⟨r,z⟩) (h.keep hb) hb dC ?_;rcases L with _|⟨a,_|⟨_,L⟩⟩
  ·rfl
  ·exact absurd rfl hL
  ·rfl
end
section
variable {W w:World} {mb hb qb rb:Nat} {r:Ru} {z:SS} {v:Value}
theorem vq (h:iL W mb hb qb rb r z v w) (hz:RZ r z) (hwr:cP z.writes) (g off c:Nat) (L:List (List UInt8)) (hw:iF w g off L) (hl: ∀ x∈L,x.length≤5000):
  Calls prog 15 #[.pointer (some ⟨hb,0,none⟩),.string ⟨#[119,114,105,116,101,115]⟩,.slice (some ⟨g,off,none⟩) L.length c] w (bw W w mb hb (eZ ⟨r,z⟩ L)):=by
 by_cases hL:L.length=0
 ·rcases L with _|⟨_,L⟩
  ·clear hL
   obtain⟨⟩:=ey hw hl hwr;obtain⟨wcs,hwb⟩:=hw.1
   show Calls prog 15 #[.pointer (some ⟨hb,0,none⟩),.string ⟨#[119,114,105,116,101,115]⟩,.slice (some ⟨g,off,none⟩) 0 c] w (bw W w mb hb (eZ ⟨r,z⟩ []))
   have HWR:=zH hwr;clear hw hl hwr;have hal:=(Below.refl w.heap.size w).alloc (Nat.le_refl _) (.cells #[.slice (some ⟨g,off,none⟩) 0 c] 34);have H0:=zH (h.keep hal);have hfc:=H0.out.forms;have hlk:(Instr.lookup 87 (.map (some mb)) (.string ⟨#[119,114,105,116,101,115]⟩) true).run prog _=.ok (.tuple #[.string ⟨#[]⟩,.bool true]) _:=H0.out.look eh dC;have HBX:=zH (aj.new w 34 #[.slice (some ⟨g,off,none⟩) 0 c]);have HWB:=zH (hwb.below' hal);clear hwb;have HAL:=zH hal;have HZ:=zH hz;clear h hal hz;have hmf: ∀ (fn:Fn) (first cap:Array Value) (w:World),(Instr.makeFunc fn first cap).run prog w=.ok (.func fn first cap) w:=fun _ _ _ _=>rfl
   go_enter Tryz.func15,Tryz.ntmps15;go_wp2_with fail;refine wp_loop_rounds 1 ?_;generalize w.alloc (.cells #[.slice (some ⟨g,off,none⟩) 0 c] 34)=w0 at*;have HNS:=zH (NS.nil w0);clear hfc hlk;have HH:=zH (H0.out.keep HNS.out.bl);have HB:=zH (ae HAL.out HNS.out.bl);have HBX:=zH (HBX.out.below' HNS.out.bl);have HWB:=zH (HWB.out.below' HNS.out.bl);have hbx:=HBX.out.cell 0;have hh:=HH.out.at_.cell 0;obtain⟨s0,s1,s2,s3,s4,slt⟩:=HH.out.rv.five;rw[rounds_succ];obtain⟨⟨ck,nx,F⟩,lg,wr,off_,lf,dn⟩:=z;obtain⟨r0,r1,r2,r3,r4,r5,r6,r7,rz,rlt⟩:=HH.out.rv.ra.cells;have hok:cP wr:=HWR.out;go_wp2_with fail;go_at_call 16;refine(jW HH.out wr hok).mono ?_;rintro e w9 ⟨rfl,hb9⟩;have HT:=zH (vG (cR.of_below HB.out) HH.out hb9);clear hb9;go_wp2_with fail;go_ret2
   try rw[hy]
   exact HT.out _ (aL wr) 0 (fun _=>rfl)
  ·exact absurd hL (by simp)
 ·refine(cF h eh dC _ L.length (some ⟨g,off,none⟩) c rfl (fun F hF=>by cases (show some _=some F from hF);simpa using fun e=>hL e.symm)).mono ?_
  rintro e w' ⟨rfl,hb⟩;refine cf (d:=⟨r,z⟩) (h.keep hb) hb dC ?_;rcases L with _|⟨_,L⟩
  ·exact absurd rfl hL
  ·rfl
end
theorem sI {W w:World} {mb hb qb rb:Nat} {r:Ru} {z:SS} {v:Value} (h:iL W mb hb qb rb r z v w) (hz:RZ r z) (hwr:cP z.writes) (g off c:Nat) (x:List UInt8) (hxl:x.length≤5000) (L:List (List UInt8)) (hw:iF w g off L) (hl: ∀ y∈L,y.length≤5000):
  Calls prog 15 #[.pointer (some ⟨hb,0,none⟩),.string (ah x),.slice (some ⟨g,off,none⟩) L.length c] w (bw W w mb hb (cE ⟨r,z⟩ x L)):=by
 by_cases h_cut:x=jQ
 ·subst h_cut
  exact BU h hz hwr g off c L hw hl
 by_cases h_families:x=cQ
 ·subst h_families
  exact qG h hz hwr g off c L hw hl
 by_cases h_grant:x=fJ
 ·subst h_grant
  exact xI h hz hwr g off c L hw hl
 by_cases h_help:x=je
 ·subst h_help
  exact yK h hz hwr g off c L hw hl
 by_cases h_kill:x=gA
 ·subst h_kill
  exact yH h hz hwr g off c L hw hl
 by_cases h_least:x=fB
 ·subst h_least
  exact xW h hz hwr g off c L hw hl
 by_cases h_log:x=mT
 ·subst h_log
  exact Bb h hz hwr g off c L hw hl
 by_cases h_mint:x=jt
 ·subst h_mint
  exact yl h hz hwr g off c L hw hl
 by_cases h_new:x=jc
 ·subst h_new
  exact A1 h hz hwr g off c L hw hl
 by_cases h_open:x=fg
 ·subst h_open
  exact ym h hz hwr g off c L hw hl
 by_cases h_rotate:x=ee
 ·subst h_rotate
  exact vj h hz hwr g off c L hw hl
 by_cases h_save:x=gG
 ·subst h_save
  exact yN h hz hwr g off c L hw hl
 by_cases h_show:x=jb
 ·subst h_show
  exact ze h hz hwr g off c L hw hl
 by_cases h_sweep:x=fE
 ·subst h_sweep
  exact xq h hz hwr g off c L hw hl
 by_cases h_tag:x=jp
 ·subst h_tag
  exact Bx h hz hwr g off c L hw hl
 by_cases h_tick:x=jd
 ·subst h_tick
  exact yn h hz hwr g off c L hw hl
 by_cases h_token:x=fx
 ·subst h_token
  exact wv h hz hwr g off c L hw hl
 by_cases h_writes:x=eh
 ·subst h_writes
  exact vq h hz hwr g off c L hw hl
 have hf:km x=none:=by
  unfold km;rw[if_neg (by rintro(h|h|h)<;>contradiction)];rw[if_neg (by rintro(h|h|h|h|h|h|h)<;>contradiction)];rw[if_neg (by rintro(h|h)<;>contradiction)];rw[if_neg (by rintro(h|h|h)<;>contradiction)];rw[if_neg h_new];rw[if_neg h_tag];rw[if_neg h_token]
 refine(cF h x hxl _ L.length (some ⟨g,off,none⟩) c rfl (fun F hF=>by rw[hf]at hF;cases hF)).mono ?_;rintro e w' ⟨rfl,hb⟩;refine cf (d:=⟨r,z⟩) (h.keep hb) hb dC ?_;unfold cE;rw[if_neg h_cut,if_neg h_families,if_neg h_grant,if_neg h_help,if_neg h_kill,if_neg h_least,if_neg h_log,if_neg h_mint,if_neg h_new,if_neg h_open,if_neg h_rotate,if_neg h_save,if_neg h_show,if_neg h_sweep,if_neg h_tag,if_neg h_tick,if_neg h_token,if_neg h_writes]
def wx (w:World) (lg:Nat) (L:List (List UInt8)):Prop:=(∃ cs,aj w lg 9 cs)∧ ∀ j x,L[j]?=some x→w.cell? ⟨lg,j,none⟩=some (.string (ah x))
theorem wx.stay {w w':World} {lg:Nat} {L:List (List UInt8)} (h:wx w lg L) (k:cR w w'):wx w' lg L:=by
 obtain⟨⟨cs,hb⟩,hc⟩:=h;exact⟨⟨cs,hb.stayR k rfl⟩,fun j x hx=>dq (hc j x hx) hb k rfl⟩
theorem ml {w:World} {B lg lc n:Nat} {L:List (List UInt8)} (h:gi w B (.slice (some ⟨lg,0,none⟩) n lc) L):wx w lg L:=by
 obtain⟨g,cap,e,h1,h2⟩:=h;injection e with e1 e2 e3
 injection e1 with e1
 injection e1 with e1
 subst e1;subst e3;rcases h2 with⟨e,_⟩|⟨g',cap',cur,e,_,hg,_,_,_,ht⟩
 ·cases e
 ·injection e with e1 e2 e3
  injection e1 with e1
  injection e1 with e1
  subst e1;refine⟨⟨cur,hg⟩,fun j x hx=>?_⟩;have hlt:=(List.getElem?_eq_some_iff.1 hx).1;have e:(cur.toList.take (L.length*1))[j]?=some (.string (ah x)):=by rw[ht,List.getElem?_map,hx];rfl
  rw[List.getElem?_take_of_lt oM]at e;rw[cell_of_row w lg j cur 9 (0,0) hg,←Array.getElem?_toList,e]
theorem AW {w:World} {B:Nat} {ws:Value} {L:List (List UInt8)} (h:w.ownsRow B 9 1 ws L.length (L.map encStr)) (hL:L≠ []): ∃ wg wc,ws=.slice (some ⟨wg,0,none⟩) L.length wc∧L.length≤wc∧iF w wg 0 L:=by
 rcases h.2 with⟨_,h0⟩|⟨g,cap,cur,rfl,_,hg,hn,_,_,ht⟩
 ·exact absurd (List.eq_nil_of_length_eq_zero h0) hL
 ·refine⟨g,cap,rfl,hn,⟨cur,hg⟩,fun j x hx=>?_⟩
  have hlt:=(List.getElem?_eq_some_iff.1 hx).1;have e:(cur.toList.take (L.length*1))[j]?=some (.string (ah x)):=by rw[ht,List.getElem?_map,hx];rfl
  rw[List.getElem?_take_of_lt oM]at e;rw[Nat.zero_add,cell_of_row w g j cur 9 (0,0) hg,←Array.getElem?_toList,e]
theorem iF.tail_ {w:World} {g:Nat} {x:List UInt8} {L:List (List UInt8)} (h:iF w g 0 (x::L)):iF w g 1 L:=⟨h.1,fun j y hy=>by
 have:=h.2 (j+1) y hy
 rwa[Nat.zero_add,Nat.add_comm j 1]at this⟩
theorem iF.nil_ {w:World} {g off off':Nat} {L:List (List UInt8)} (h:iF w g off L):iF w g off' []:=⟨h.1,fun j y hy=>by cases hy⟩
def I7 (W:World) (mb hb lg m:Nat) (LL:List (List UInt8)) (out i:Value) (w:World):Prop:=
 ∃ k:Nat,k≤m∧i=.int .i64 k∧out=.string (kU (LL.take k)).2∧Jt W mb hb (kU (LL.take k)).1 w∧wx w lg LL
def mL (L:List (List UInt8)):List (List UInt8):=L.filter fun x=>decide (x≠ [])
theorem zO {M:List (List UInt8)} {j:Nat} {y:List UInt8} (h:M[j]?=some y):mL (M.take (j+1))=if y=[]then mL (M.take j)else mL (M.take j)++[y]:=by
 unfold mL;rw[List.take_add_one,h,List.filter_append]
 by_cases hy:y=[]
 ·subst hy
  simp
 ·simp[hy]
def I9 (w0:World) (M:List (List UInt8)) (ws i:Value) (w:World):Prop:=
 ∃ k:Nat,k≤M.length∧i=.int .i64 k∧Below w0.heap.size w0 w∧w.ownsRow w0.heap.size 9 1 ws (mL (M.take k)).length ((mL (M.take k)).map encStr)
theorem AQ (y:List UInt8):((ah y).toList == [])=decide (y=[]):=by
 rw[bn,Bool.eq_iff_iff];simp
theorem wF (W:World) (mb:Nat) (henv:pR W.heap.size W) (htab:cW W) (hg15:9<W.heap.size) (hfm:jy W mb) (s:ByteArray) (hs:s.size≤5000) (hz: ∀ p,p<+:iK s.data.toList→DZ (kU p).1):
  Calls prog 6 #[.string s] W fun e w'=>e=.returned (.string (rZ s.data.toList))∧Below W.heap.size W w':=by
 have HSP:=zH (fT 10 s W.heap.size W oM henv.maxl (Nat.le_refl _));have hs2: ¬ ((20000:Int)<(s.size:Int)):=by omega
 have hls:s.data.toList.length=s.size:=aq _;have hpl:=fP 10 s.data.toList;have hne:=fk 10 s.data.toList;have hwl:=fun x (hx:x∈parts 10 s.data.toList)=>be 10 s.data.toList 5000 oM x hx
 have HSD:Hid (rZ s.data.toList=(kU (iK s.data.toList)).2):=zH rfl;have HL:=zH (show iK s.data.toList=if 1<(parts 10 s.data.toList).length∧(parts 10 s.data.toList).getLast?=some []then(parts 10 s.data.toList).dropLast else parts 10 s.data.toList from rfl);generalize parts 10 s.data.toList=P at*;obtain⟨Q,x,rfl⟩: ∃ Q x,P=Q++[x]:=⟨P.dropLast,P.getLast hne,(List.dropLast_concat_getLast hne).symm⟩;have hPl:(Q++[x]).length=Q.length+1:=by simp
 have hlast:(Q++[x]).getLast?=some x:=by simp
 rw[hPl,hlast]at HL;rw[List.dropLast_concat]at HL
 have hcase:(1≤Q.length∧x=[]∧iK s.data.toList=Q)∨(1≤Q.length∧x≠ []∧iK s.data.toList=Q++[x])∨(Q.length=0∧iK s.data.toList=Q++[x]):=by
  by_cases h0:Q.length=0
  ·exact .inr (.inr ⟨h0,by rw[HL.out,if_neg oM]⟩)
  ·by_cases hx:x=[]
   ·exact .inl ⟨by omega,hx,by rw[HL.out,if_pos ⟨by omega,by rw[hx]⟩]⟩
   ·exact .inr (.inl ⟨by omega,hx,by rw[HL.out,if_neg (by rintro⟨_,h⟩;cases h;exact hx rfl)]⟩)
 rw[hPl]at hpl;clear HL;generalize iK s.data.toList=LL at*
 have hxe:((ah x).toList == [])=decide (x=[]):=by
  rw[bn,Bool.eq_iff_iff];simp
 rcases hcase with⟨h1,hx,hLe⟩|⟨h1,hx,hLe⟩|⟨h1,hLe⟩
 case' inl=>
  subst hLe;rw[decide_eq_true hx]at hxe;clear hx;go_enter Tryz.func6,Tryz.ntmps6;go_wp2_with fail;go_at_call 13;refine HSP.out.mono ?_;rintro e w1 ⟨v,rfl,hrow,hb1⟩;obtain⟨lg,lc,rfl,hlg,hlt,hln,hlm,hLH⟩:=hrow.parts;have hLn:=ml hrow;have hcx:=hLn.2 LL.length x (by simp);rw[hPl]at*;go_wp2_with fail;have hLL:wx w1 lg LL:=⟨hLn.1,fun j y hy=>hLn.2 j y (by rw[List.getElem?_append_left (List.getElem?_eq_some_iff.1 hy).1];exact hy)⟩;have hwl2: ∀ y∈LL,y.length≤5000:=fun y hy=>hwl y (List.mem_append_left _ hy)
  clear hLn hcx hrow hLH HSP hwl hs2 hne hlast hxe hln hPl;have hl5:LL.length≤5002:=by omega
  generalize hmm:LL.length=m at*
 case' inr.inl=>
  rw[decide_eq_false hx]at hxe;clear hx;go_enter Tryz.func6,Tryz.ntmps6;go_wp2_with fail;go_at_call 13;refine HSP.out.mono ?_;rintro e w1 ⟨v,rfl,hrow,hb1⟩;obtain⟨lg,lc,rfl,hlg,hlt,hln,hlm,hLH⟩:=hrow.parts;have hLn:=ml hrow;have hcx:=hLn.2 Q.length x (by simp);rw[hPl]at*;go_wp2_with fail;rw[←hLe]at hLn hwl;have hLL:wx w1 lg LL:=hLn;have hwl2: ∀ y∈LL,y.length≤5000:=hwl;have hmm:LL.length=Q.length+1:=by rw[hLe];simp
  clear hLn hcx hrow hLH HSP hwl hs2 hne hlast hxe hln hPl hLe;have hl5:LL.length≤5002:=by omega
  generalize Q.length+1=m at*
 case' inr.inr=>
  have HM1:=zH (show LL.length=1 by rw[hLe,List.length_append,h1];rfl);go_enter Tryz.func6,Tryz.ntmps6;go_wp2_with fail;go_at_call 13;refine HSP.out.mono ?_;rintro e w1 ⟨v,rfl,hrow,hb1⟩;obtain⟨lg,lc,rfl,hlg,hlt,hln,hlm,hLH⟩:=hrow.parts;have hLn:=ml hrow;rw[hPl]at*;rw[h1]at*;go_wp2_with fail;rw[←hLe]at hLn hwl;have hLL:wx w1 lg LL:=hLn;have hwl2: ∀ y∈LL,y.length≤5000:=hwl;have hmm:=HM1.out;clear hLn hrow hLH HSP hwl hs2 hne hlast hxe hln hPl hLe;have hl5:LL.length≤5002:=by omega
  generalize (1:Nat)=m at hmm ⊢
 all_goals
  go_at_call 14;refine(uo _).mono ?_;rintro e w2 ⟨sb,rfl,hra,hsb,hb2⟩;have HFA:=zH (tX hz);have HZ:=zH hz;have HWL:=zH hwl2;have H0:=zH (Eb henv htab hg15 hfm (ae hb1 hb2) hra (by have:=hb1.size;omega));have hal:=((Below.refl w2.heap.size w2).alloc (Nat.le_refl _) (.cells #[.pointer (some ⟨sb,0,none⟩),.int .i64 1,.int .i64 20,.int .i64 100,.int .i64 5] 54));have HL0:=zH (hLL.stay (cR.of_below (ae hb2 (hal.alloc hal.size (.cells #[.pointer (some ⟨w2.heap.size,0,none⟩)] 56)))));clear hal hb1 hb2 hra hz hwl2 hLL henv htab;go_wp2_with fail;generalize (w2.alloc (.cells #[.pointer (some ⟨sb,0,none⟩),.int .i64 1,.int .i64 20,.int .i64 100,.int .i64 5] 54)).alloc (.cells #[.pointer (some ⟨w2.heap.size,0,none⟩)] 56)=w4 at*
  go_loopw [5,43] (fun out i wr=>I7 W mb (w2.heap.size+1) lg m LL out i wr) (fun _ i _=>m - (intOf i).toNat)
  case atStart=>exact⟨0,Nat.zero_le _,rfl,rfl,⟨_,_,_,H0.out⟩,HL0.out⟩
  case round=>
   obtain⟨k,hk,rfl,rfl,hE,hL⟩:=hrel;have HLn:=zH hL;clear hL
   by_cases hlt:k<m
   ·obtain⟨x,hx⟩: ∃ x,LL[k]?=some x:=⟨_,List.getElem?_eq_getElem oM⟩
    have hcl:=HLn.out.2 k x hx;have hxl:=HWL.out x (List.mem_of_getElem? hx);have htk:LL.take (k+1)=LL.take k++[x]:=by rw[List.take_add_one,hx];rfl
    have HDZ:=zH (HZ.out (LL.take k) (List.take_prefix _ _));have HFK:=zH (HFA.out k oM);have HFK1:=zH (HFA.out (k+1) oM);have HNX:=zH (iz (LL.take k) x);rw[←htk]at HNX;obtain⟨q1,hq1⟩: ∃ q1,kU (LL.take (k+1))=q1:=⟨_,rfl⟩;rw[hq1]at HNX HFK1;have HQ1:=zH hq1;clear hq1;generalize kU (LL.take k)=q0 at*;obtain⟨⟨r,z⟩,o⟩:=q0;dsimp only at HDZ HFK HNX hE ⊢;obtain⟨qb,rb,v,hw⟩:=hE;dsimp only at hw;have HW:=zH hw;have HSP:=zH (fT 32 (ah x) wr.heap.size wr (by have:(ah x).size=x.length:=rfl;omega) hw.rv.env.maxl (Nat.le_refl _));rw[ak]at HSP;have h0:(0:Int)≤(k:Int):=by omega
    have h1:(k:Int)<(m:Int):=by omega
    clear hw htk;go_wp2_with fail;go_at_call 13;refine HSP.out.mono ?_;rintro e w5 ⟨vw,rfl,hrow,hb5⟩;obtain⟨rg,rc,rfl,hrg,hrlt,hrn,hrm,hrH⟩:=hrow.parts;have HRn:=zH (ml hrow);have HW5:=zH (HW.out.keep hb5);have HL5:=zH (HLn.out.stay (cR.of_below hb5));have hpw:=fP 32 x;have HWD:Hid (fC x=mL (parts 32 x)):=zH rfl;have hpx:=fun y (hy:y∈parts 32 x)=>be 32 x 5000 hxl y hy
    have HPX:=zH hpx;clear hpx;clear hb5 hrow hrH HSP hcl;generalize parts 32 x=M at*;go_wp2_with fail;obtain⟨i0,hii,hz0,hz1,hz2⟩:=info_parts ms
    go_loopw [8,50] (fun ws i wq=>I9 w5 M ws i wq) (fun _ i _=>M.length - (intOf i).toNat)
    case atStart=>exact⟨0,Nat.zero_le _,rfl,Below.refl _ _,World.ownsRow_nil _ _ _ _⟩
    case round=>
     obtain⟨j,hj,rfl,hbq,hown⟩:=hrel;have HO:=zH hown;have HBQ:=zH hbq;clear hown hbq
     by_cases hjl:j<M.length
     ·obtain⟨y,hy⟩: ∃ y,M[j]?=some y:=⟨_,List.getElem?_eq_getElem hjl⟩
      have hcy:=(HBQ.out.cell (p:=⟨rg,j,none⟩) hrlt).trans (HRn.out.2 j y hy);have HNF:=zH (zO hy);have hye:=AQ y;have hj0:(0:Int)≤(j:Int):=by omega
      have hj1:(j:Int)<(M.length:Int):=by omega
      have hjs:(mL (M.take j)).length≤j:=by
       have h1:=List.length_filter_le (fun x:List UInt8=>decide (x≠ [])) (M.take j);have h2:=List.length_take_le j M;unfold mL;omega
      clear hy
      by_cases hy0:y=[]
      ·rw[decide_eq_true hy0]at hye
       rw[if_pos hy0]at HNF;clear hy0;go_wp2_with fail;go_roundw
       case rel=>exact⟨j+1,by omega,by go_num,HBQ.out,by rw[HNF.out];exact HO.out⟩
       case measure=>simp[intOf];omega
      ·rw[decide_eq_false hy0]at hye
       rw[if_neg hy0]at HNF;clear hy0;have hrow:=HO.out;have hsz:=HBQ.out.size;generalize mL (M.take j)=G at*
       go_wp2_with
        (at_builtin;refine wpList_append_own _ rfl _ _ 34 rfl w5.heap.size 9 i0 (.string ByteArray.empty) 1 16 underlying34 hii hz0 hz1 hz2 rfl dC _ _ _ rfl (hrow.alloc _) ⟨_,0,none⟩ 1 1 [.string (ah y)] rfl rfl (cell_one_new _ _ _) (fun x hx=>by simp at hx;subst hx;rfl) (by unfold maxLen;omega) oM (by simp;omega) ?_;intro v' w7 hown hgrow hnil
         have HO2:=zH hown;have HG2:=zH hgrow;clear hown hgrow hnil hrow)
       go_roundw
       case rel=>exact⟨j+1,by omega,by go_num,(HBQ.out.alloc hsz _).grown HG2.out (by simp;omega) (fun i e=>(HO.out.lt i e).1),by rw[HNF.out,List.length_append,List.map_append];exact HO2.out⟩
       case measure=>simp[intOf];omega
     ·obtain rfl:j=M.length:=by omega
      have hown:=HO.out;rw[List.take_length,←HWD.out]at hown;have H6:=zH (HW5.out.keep HBQ.out);have HL6:=zH (HL5.out.stay (cR.of_below HBQ.out));have hqs:q1.2.size≤100001*(k+1):=HFK1.out.2
      have hln: ∀ y∈fC x,y.length≤5000:=fun y hy=>by
       rw[HWD.out]at hy;exact HPX.out y (List.mem_filter.1 hy).1
      have HLN:=zH hln;clear hln hjl HO;rcases hwl:fC x with _|⟨n,L⟩
      ·have hld:cJ ⟨r,z⟩ x=(⟨r,z⟩,⟨#[111,107]⟩):=by unfold cJ;rw[hwl]
       rw[hld]at HNX;rw[HNX.out]at hqs;dsimp only at hqs;rw[ByteArray.size_append]at hqs;have q3:=bi ⟨#[111,107]⟩ ⟨#[10]⟩ dC;have q4:=bi o (⟨#[111,107]⟩++⟨#[10]⟩) oM;rw[hwl]at hown;rcases hown.2 with⟨rfl,_⟩|⟨wg,wc,cur,rfl,_,_,_,_,_,_⟩
       all_goals
        clear hown hld hwl;go_wp2_with fail;go_roundw
        case rel=>exact⟨k+1,by omega,by go_num,by rw[HQ1.out,HNX.out],by rw[HQ1.out,HNX.out];exact⟨_,_,_,H6.out⟩,HL6.out⟩
        case measure=>simp[intOf];omega
      ·have hld:cJ ⟨r,z⟩ x=told (cE ⟨r,z⟩ n L):=by unfold cJ;rw[hwl]
       rw[hld]at HNX;rw[hwl]at hown HLN;obtain⟨wg,wc,rfl,hwc,hwAt⟩:=AW hown (by simp);have hc0:wr.cell? ⟨wg,0,none⟩=some (.string (ah n)):=hwAt.2 0 n rfl;have HWA:=zH hwAt;have hh6:=H6.out.at_.cell 0;simp only[List.length_cons]at hwc ⊢;have hRZ:RZ r z:=⟨HDZ.out.fit,HDZ.out.lg,HDZ.out.ru⟩;obtain⟨⟨wcs,hwb⟩,_⟩:=id hwAt;have hcd:wr.drew.cell? ⟨wg,0,none⟩=some (.string (ah n)):=hc0;clear hwAt hown hld hwl
       by_cases hw1:wc=1
       ·subst hw1
        obtain rfl:L=[]:=List.eq_nil_of_length_eq_zero oM;simp only[List.length_nil,Nat.zero_add];have HDO:=zH (sI H6.out.drew hRZ HFK.out.1 wg 0 0 n (HLN.out n (by simp)) [] HWA.out.nil_ (fun y hy=>by cases hy));rw[List.length_nil]at HDO;have hokc:cP (cE ⟨r,z⟩ n []).2.2:=(qh ⟨r,z⟩ n []).ok;unfold told at HNX;generalize cE ⟨r,z⟩ n []=AA at*;obtain⟨d',t',c'⟩:=AA;dsimp only at HNX hokc;go_wp2_with fail
        go_region_held3 (fun w'=>w'.cell? ⟨wg,0,none⟩=some (.string (ah n)))
         (first
          |with_reducible assumption
          |with_reducible exact hcd)
         (first
          |(go_at_call 15;(with_reducible refine HDO.out.mono ?_);rintro x' w8 ⟨⟨t,rfl,ht⟩,hE8,hst8⟩
            have hs8:w8.cell? ⟨wg,0,none⟩=some (.string (ah n)):=dq hcd hwb hst8 rfl))
        obtain⟨qb8,rb8,v8,hw8⟩:=hE8;have H8:=zH hw8;have HL8:=zH ((HL6.out.stay (cR.of_below (au (Below.refl _ _)))).stay hst8)
        try dsimp only at ht H8
        clear hw8 hst8 hs8 hcd hwb HDO
        by_cases hc:c'=0
        ·subst hc
         obtain rfl:=ht rfl;rw[if_pos rfl]at HNX;rw[HNX.out]at hqs;dsimp only at hqs;rw[ByteArray.size_append,ByteArray.size_append]at hqs;have q3:=bi t ⟨#[10]⟩ oM;have q4:=bi o (t++⟨#[10]⟩) (by rw[ByteArray.size_append];omega);clear ht;go_wp2_with fail;go_roundw
         case rel=>exact⟨k+1,by omega,by go_num,by rw[HQ1.out,HNX.out],by rw[HQ1.out,HNX.out];exact⟨_,_,_,H8.out⟩,HL8.out⟩
         case measure=>simp[intOf];omega
        ·rw[if_neg hc]at HNX
         rw[HNX.out]at hqs;dsimp only at hqs;rw[ByteArray.size_append,ByteArray.size_append]at hqs;have hcb:(c' == 0)=false:=beq_eq_false_iff_ne.2 hc;have hex:nB c'=⟨#[101,114,114,111,114,32]⟩++aL c':=rfl;rw[hex]at hqs HNX;have hes:=ByteArray.size_append (a:=⟨#[101,114,114,111,114,32]⟩) (b:=aL c');rw[hes]at hqs;have q2:=bi ⟨#[101,114,114,111,114,32]⟩ (aL c') oM;have q3:=bi (⟨#[101,114,114,111,114,32]⟩++aL c') ⟨#[10]⟩ (by rw[hes];omega);have q4:=bi o (⟨#[101,114,114,111,114,32]⟩++aL c'++⟨#[10]⟩) (by rw[ByteArray.size_append,hes];omega);have HTO:=zH (jW H8.out c' hokc);clear ht hex hes;go_wp2_with fail;go_at_call 16;refine HTO.out.mono ?_;rintro e w9 ⟨rfl,hb9⟩;have H9:=zH (H8.out.keep hb9);have HL9:=zH (HL8.out.stay (cR.of_below hb9));clear hb9;go_wp2_with fail;go_roundw
         case rel=>exact⟨k+1,by omega,by go_num,by rw[HQ1.out,HNX.out],by rw[HQ1.out,HNX.out];exact⟨_,_,_,H9.out⟩,HL9.out⟩
         case measure=>simp[intOf];omega
       ·obtain⟨cc,rfl⟩: ∃ cc,wc=cc+2:=⟨wc - 2,by omega⟩
        have HDO:=zH (sI H6.out.drew hRZ HFK.out.1 wg 1 (cc+1) n (HLN.out n (by simp)) L HWA.out.tail_ (fun y hy=>HLN.out y (List.mem_cons_of_mem _ hy)));have hokc:cP (cE ⟨r,z⟩ n L).2.2:=(qh ⟨r,z⟩ n L).ok;unfold told at HNX;generalize cE ⟨r,z⟩ n L=AA at*;obtain⟨d',t',c'⟩:=AA;dsimp only at HNX hokc;have l0:(1:Int)≤(↑L.length:Int)+1:=by omega
        have l1:(↑L.length:Int)+1≤(↑cc:Int)+2:=by omega
        have l2:(1:Int)≤(↑cc:Int)+2:=by omega
        have l3:(0:Int)≤(↑L.length:Int)+1:=by omega
        go_wp2_with fail
        go_region_held3 (fun w'=>w'.cell? ⟨wg,0,none⟩=some (.string (ah n)))
         (first
          |with_reducible assumption
          |with_reducible exact hcd)
         (first
          |(go_at_call 15;(with_reducible refine HDO.out.mono ?_);rintro x' w8 ⟨⟨t,rfl,ht⟩,hE8,hst8⟩
            have hs8:w8.cell? ⟨wg,0,none⟩=some (.string (ah n)):=dq hcd hwb hst8 rfl))
        obtain⟨qb8,rb8,v8,hw8⟩:=hE8;have H8:=zH hw8;have HL8:=zH ((HL6.out.stay (cR.of_below (au (Below.refl _ _)))).stay hst8)
        try dsimp only at ht H8
        clear hw8 hst8 hs8 hcd hwb HDO
        by_cases hc:c'=0
        ·subst hc
         obtain rfl:=ht rfl;rw[if_pos rfl]at HNX;rw[HNX.out]at hqs;dsimp only at hqs;rw[ByteArray.size_append,ByteArray.size_append]at hqs;have q3:=bi t ⟨#[10]⟩ oM;have q4:=bi o (t++⟨#[10]⟩) (by rw[ByteArray.size_append];omega);clear ht;go_wp2_with fail;go_roundw
         case rel=>exact⟨k+1,by omega,by go_num,by rw[HQ1.out,HNX.out],by rw[HQ1.out,HNX.out];exact⟨_,_,_,H8.out⟩,HL8.out⟩
         case measure=>simp[intOf];omega
        ·rw[if_neg hc]at HNX
         rw[HNX.out]at hqs;dsimp only at hqs;rw[ByteArray.size_append,ByteArray.size_append]at hqs;have hcb:(c' == 0)=false:=beq_eq_false_iff_ne.2 hc;have hex:nB c'=⟨#[101,114,114,111,114,32]⟩++aL c':=rfl;rw[hex]at hqs HNX;have hes:=ByteArray.size_append (a:=⟨#[101,114,114,111,114,32]⟩) (b:=aL c');rw[hes]at hqs;have q2:=bi ⟨#[101,114,114,111,114,32]⟩ (aL c') oM;have q3:=bi (⟨#[101,114,114,111,114,32]⟩++aL c') ⟨#[10]⟩ (by rw[hes];omega);have q4:=bi o (⟨#[101,114,114,111,114,32]⟩++aL c'++⟨#[10]⟩) (by rw[ByteArray.size_append,hes];omega);have HTO:=zH (jW H8.out c' hokc);clear ht hex hes;go_wp2_with fail;go_at_call 16;refine HTO.out.mono ?_;rintro e w9 ⟨rfl,hb9⟩;have H9:=zH (H8.out.keep hb9);have HL9:=zH (HL8.out.stay (cR.of_below hb9));clear hb9;go_wp2_with fail;go_roundw
         case rel=>exact⟨k+1,by omega,by go_num,by rw[HQ1.out,HNX.out],by rw[HQ1.out,HNX.out];exact⟨_,_,_,H9.out⟩,HL9.out⟩
         case measure=>simp[intOf];omega
   ·obtain rfl:k=m:=by omega
    have hte:LL.take k=LL:=by rw[←hmm,List.take_length]
    rw[hte]at hE ⊢;obtain⟨qb,rb,v,hw⟩:=hE;have HB:=zH hw.below;clear hw;go_wp2_with fail;go_ret;exact⟨by rw[HSD.out];rfl,HB.out⟩
theorem jy.below {W w:World} {mb:Nat} (h:jy W mb) (hb:Below W.heap.size W w):jy w mb:=
 ⟨(hb.cell (p:=⟨0,0,none⟩) (World.block_lt_of_cell? W _ h.cell)).trans h.cell,Nat.lt_of_lt_of_le h.lt hb.size,fun x u hx hu=>h.look x u hx (hu.trans (hb.block _ h.lt))⟩
theorem Do (W:World) (s:ByteArray) (hs:20000<s.size):
  Calls prog 6 #[.string s] W fun e w'=>e=.returned (.string ⟨#[101,114,114,111,114,32,52,10]⟩)∧w'=W:=by
 go_enter Tryz.func6,Tryz.ntmps6;go_wp2_with fail
 all_goals first|(exfalso;omega)|(go_ret;exact⟨rfl,rfl⟩)
theorem vr (W:World) (mb:Nat) (henv:pR W.heap.size W) (he:da W) (htab:cW W) (hfm:jy W mb) (s:ByteArray) (hs:s.size≤4611686018427387904):
  Calls prog 3 #[.string s] W fun e w'=>e=.returned (.bool true)∧Below W.heap.size W w':=by
 have hg15:=htab.lt
 by_cases h1:s.size≤4000
 ·have HS:=zH (BN W henv he he.lt s oM)
  have HR:=zH (fun w (hb:Below W.heap.size W w) hz=>wF w mb ⟨(henv.keep hb).tens,(henv.keep hb).maxl,(henv.keep hb).errs,(henv.keep hb).tens.lt,(henv.keep hb).maxl.lt,(henv.keep hb).errs.lt.1,(henv.keep hb).errs.lt.2⟩ (htab.below hb hg15) (Nat.lt_of_lt_of_le hg15 hb.size) (hfm.below hb) s oM hz);generalize rZ s.data.toList=y at*;have hsame:(y.toList == y.toList)=true:=by simp
  have k1: ¬ (4000:Int)<(s.size:Int):=by omega
  have k2: ¬ (30000:Int)<(s.size:Int):=by omega
  clear henv he htab hfm;go_enter Tryz.func3,Tryz.ntmps3;go_wp2_with fail;go_at_call 5;refine HS.out.mono ?_;rintro e w1 ⟨⟨rfl,hz⟩,hb1⟩;dsimp only;have HB1:=zH hb1;have HZ:=zH hz;clear hb1 hz;go_wp2_with fail;go_at_call 6;refine(HR.out _ HB1.out HZ.out).mono ?_;rintro e w2 ⟨rfl,hb2⟩;dsimp only;have HB2:=zH (ae HB1.out hb2);clear hb2;go_wp2_with fail
  all_goals first|(exfalso;omega)|(go_ret;exact⟨rfl,HB2.out⟩)
 ·by_cases h2:20000<s.size∧s.size≤30000
  ·obtain⟨h3,h4⟩:=h2
   have HS:=zH (fun w=>u3 w s h3);have HR:=zH (fun w=>Do w s h3);have k1:(4000:Int)<(s.size:Int):=by omega
   have k2: ¬ (s.size:Int)≤20000:=by omega
   have k3: ¬ (30000:Int)<(s.size:Int):=by omega
   clear henv he htab hfm;go_enter Tryz.func3,Tryz.ntmps3;go_wp2_with fail;go_at_call 5;refine(HS.out _).mono ?_;rintro e w1 ⟨rfl,hw1⟩;obtain rfl:=hw1.symm;go_wp2_with fail;go_at_call 6;refine(HR.out _).mono ?_;rintro e w2 ⟨rfl,hw2⟩;obtain rfl:=hw2.symm;go_wp2_with fail
   all_goals first|(exfalso;omega)|(go_ret;exact⟨rfl,Below.refl _ _⟩)
  ·have k1:(4000:Int)<(s.size:Int):=by omega
   have k2:((s.size:Int)≤20000)∨(30000:Int)<(s.size:Int):=by omega
   clear henv he htab hfm;rcases k2 with k2|k2
   ·go_enter Tryz.func3,Tryz.ntmps3
    go_wp2_with fail
    all_goals first|(exfalso;omega)|(go_ret;exact⟨rfl,Below.refl _ _⟩)
   ·have k3: ¬ (s.size:Int)≤20000:=by omega
    go_enter Tryz.func3,Tryz.ntmps3;go_wp2_with fail
    all_goals first|(exfalso;omega)|(go_ret;exact⟨rfl,Below.refl _ _⟩)
end Go.Proofs.YtepjcdjpikbbjaaGreatDoor
