/-
  The desk's commands: rotate.
-/
import Derived.Test.YtepjcdjpikbbjaaGreatDoorU00
import Derived.Test.YtepjcdjpikbbjaaGreatDoorU33
import Derived.Defers
import Derived.Recover
import Derived.Laws.Pointers
import Derived.Test.YtepjcdjpikbbjaaGreatDoorU40
import Derived.Test.YtepjcdjpikbbjaaGreatDoorU43
set_option maxHeartbeats 8000000
set_option maxRecDepth 100000
namespace Go.Proofs.YtepjcdjpikbbjaaGreatDoor
open Go.Proofs.Tryz
open Go.RowKit Go.Sort
section
variable {W w:World} {xb vb sb db k:Nat} {r:Ru} {z:SS} {v:Value}
theorem vP (h:bP W xb vb sb db k r z v w) (hk:k<1000000) (g off c:Nat) (L:List (List UInt8)) (hw:eN w g off L) (hl: ∀ x∈L,x.length≤5000):
  Calls prog 71 #[.pointer (some ⟨xb,0,none⟩),.slice (some ⟨g,off,none⟩) L.length c] w (dh W w xb k (eD ⟨r,z⟩ L)):=by
 obtain⟨⟩:=gT hk hw hl
 by_cases hL:L.length=3
 ·rcases L with _|⟨a,_|⟨b,_|⟨c_,_|⟨_,L⟩⟩⟩⟩
  ·exact absurd hL (by simp)
  ·exact absurd hL (by simp)
  ·exact absurd hL (by simp)
  ·clear hL
   have HWT:=zH hw;have d0:=hw.2 0 a rfl;have d1:=hw.2 1 b rfl;have d2:=hw.2 2 c_ rfl;have l0:=hl a (by simp);have l1:=hl b (by simp);have l2:=hl c_ (by simp);simp only[Nat.add_zero,List.length_cons,List.length_nil,Nat.zero_add,Nat.reduceAdd]at*;clear hw hl;have H:=zH h;have HPL:=zH (fun w=>ni (ah c_) w);have HC:=zH (fun w (h:bP W xb vb sb db k r z v w)=>zt h.sw hk (ah a) (ah b) (bG (ah c_)) (by rw[av];exact l0) (by rw[av];exact l1) (gc _ (by rw[av];exact l2)));unfold dl at HC;have hD:eD ⟨r,z⟩ [a,b,c_]=(⟨r,(ar aI z (dG r z.s (ah a) (ah b) (bG (ah c_)))).1⟩,(ar aI z (dG r z.s (ah a) (ah b) (bG (ah c_)))).2):=rfl;rw[hD];clear hD;generalize ar aI z (dG r z.s (ah a) (ah b) (bG (ah c_)))=Q at*;generalize bG (ah c_)=pc at*;obtain⟨z9,got,code⟩:=Q;dsimp only at HC ⊢;obtain⟨c0,c1,c2,c3,c4,c5,c6,hlt⟩:=h.seven;clear h hk
   by_cases hq:code=0
   ·subst hq
    rw[cH]at HC;go_enter Tryz.func71,Tryz.ntmps71;go_wp2_with fail;go_at_call 17;refine(aY _ 3 c w).mono ?_;rintro e w0 ⟨rfl,rfl⟩;go_wp2_with fail;have HSD:=H.out.drew;have HBD:=zH (au (Below.refl w.heap.size w));have HD:w.drew.cell? ⟨xb,2,none⟩=some (.pointer (some ⟨vb,0,none⟩))∧w.drew.cell? ⟨g,off,none⟩=some (.string (ah a))∧w.drew.cell? ⟨g,off+1,none⟩=some (.string (ah b))∧w.drew.cell? ⟨g,off+2,none⟩=some (.string (ah c_)):=⟨HSD.call,HWT.out.drew.three⟩;clear c0 c1 c2 c3 c4 c5 c6 hlt d0 d1 d2
    go_region_held3 (fun w'=>w'.cell? ⟨xb,2,none⟩=some (.pointer (some ⟨vb,0,none⟩))∧w'.cell? ⟨g,off,none⟩=some (.string (ah a))∧w'.cell? ⟨g,off+1,none⟩=some (.string (ah b))∧w'.cell? ⟨g,off+2,none⟩=some (.string (ah c_)))
     (first
      |with_reducible assumption
      |with_reducible exact HD)
     (first
      |(go_at_call 124;(with_reducible refine(HPL.out _).mono ?_);rintro x' w2 ⟨rfl,rfl⟩)
      |(go_at_call 131;(with_reducible refine(HC.out _ HSD).mono ?_);rintro x' w3 ⟨rfl,htw,v3,hs⟩
        have h3:=HSD.two htw hs;have hst:=(bt.of_below HBD.out).trans h3.2;have hx3:w3.cell? ⟨xb,2,none⟩=some (.pointer (some ⟨vb,0,none⟩))∧w3.cell? ⟨g,off,none⟩=some (.string (ah a))∧w3.cell? ⟨g,off+1,none⟩=some (.string (ah b))∧w3.cell? ⟨g,off+2,none⟩=some (.string (ah c_)):=⟨h3.1.call,(HWT.out.stay hst).three⟩))
    have HD3:=zH h3.1;have HST:=zH hst;clear htw hs h3 hst hx3 HD HSD HBD HPL HC;go_wp2_with fail;go_at_call 20;refine(bR _).mono ?_;rintro x' w4 ⟨rfl,rfl⟩;go_wp2_with fail;go_ret;exact⟨.inl ⟨rfl,rfl⟩,⟨vb,sb,db,_,HD3.out⟩,HST.out⟩
   ·rw[aP hq]at HC
    have HQ0:=zH hq;clear hq;go_enter Tryz.func71,Tryz.ntmps71;go_wp2_with fail;go_at_call 17;refine(aY _ 3 c w).mono ?_;rintro e w0 ⟨rfl,rfl⟩;go_wp2_with fail;have HSD:=H.out.drew;have HBD:=zH (au (Below.refl w.heap.size w));have HD:w.drew.cell? ⟨xb,2,none⟩=some (.pointer (some ⟨vb,0,none⟩))∧w.drew.cell? ⟨g,off,none⟩=some (.string (ah a))∧w.drew.cell? ⟨g,off+1,none⟩=some (.string (ah b))∧w.drew.cell? ⟨g,off+2,none⟩=some (.string (ah c_)):=⟨HSD.call,HWT.out.drew.three⟩;clear c0 c1 c2 c3 c4 c5 c6 hlt d0 d1 d2
    go_region_held3 (fun w'=>w'.cell? ⟨xb,2,none⟩=some (.pointer (some ⟨vb,0,none⟩))∧w'.cell? ⟨g,off,none⟩=some (.string (ah a))∧w'.cell? ⟨g,off+1,none⟩=some (.string (ah b))∧w'.cell? ⟨g,off+2,none⟩=some (.string (ah c_)))
     (first
      |with_reducible assumption
      |with_reducible exact HD)
     (first
      |(go_at_call 124;(with_reducible refine(HPL.out _).mono ?_);rintro x' w2 ⟨rfl,rfl⟩)
      |(go_at_call 131;(with_reducible refine(HC.out _ HSD).mono ?_);rintro x' w3 ⟨rfl,htw,v3,hs⟩
        have h3:=HSD.two htw hs;have hst:=(bt.of_below HBD.out).trans h3.2;have hx3:w3.cell? ⟨xb,2,none⟩=some (.pointer (some ⟨vb,0,none⟩))∧w3.cell? ⟨g,off,none⟩=some (.string (ah a))∧w3.cell? ⟨g,off+1,none⟩=some (.string (ah b))∧w3.cell? ⟨g,off+2,none⟩=some (.string (ah c_)):=⟨h3.1.call,(HWT.out.stay hst).three⟩))
    have HD3:=zH h3.1;have HST:=zH hst;clear htw hs h3 hst hx3 HD HSD HBD HPL HC;go_wp2_with fail;go_at_call 20;refine(cS code _ HD3.out.et).mono ?_;rintro x' w4 ⟨rfl,hb⟩;dsimp only;exact⟨rfl,.inr ⟨HQ0.out,rfl⟩,⟨vb,sb,db,_,(HD3.out.keep hb)⟩,HST.out.trans (bt.of_below hb)⟩
  ·exact absurd hL (by simp)
 ·have hbad:eD ⟨r,z⟩ L=bad ⟨r,z⟩ 3:=by
   unfold eD;split
   ·exact absurd rfl hL
   ·rfl
  rw[hbad];have HM:=zH (cO (some ⟨g,off,none⟩) L.length c 3 w h.et (by simpa using(show(L.length:Int)≠3 by omega)));have H:=zH h;clear h hw hl hL hbad hk;unfold cG at HM;go_enter Tryz.func71,Tryz.ntmps71;go_wp2_with fail;go_at_call 17;refine HM.out.mono ?_;rintro e w0 ⟨rfl,hb⟩;dsimp only;exact⟨rfl,H.out.thrown hb dC⟩
end
theorem pb (p:Addr) (w:World):
  CallsD prog 25 #[.pointer (some p)] .returning w fun e u' w'=>e=.returned (.tuple #[])∧u'=.returning∧w'=w:=by
 refine callsD_of_wpS Tryz.func25 rfl fun c₀ cs hu=>?_
 apply wpS_seq;apply wpS_region;simp[wpOpsS,go_sem,recoverD,hu,Tryz.ntmps25,Exit.thenS];apply wpS_seq;apply wpS_region;simp[wpOpsS,go_sem,Exit.thenS];refine wpS_cond (t:=false) (by simp[Act.eval]) ?_;simp only[Bool.false_eq_true,if_false];refine wpS_of_wp (wp_skip ?_);cases c₀
 simp_all[bodyPostS,results,Tryz.results25]
theorem Fe (v:Value) (xT:TypeId) (w:World):(Instr.typeAssert (.iface 73 v) xT 73 true).run prog w=.ok (.tuple #[v,.bool true]) w:=kR
def DP (p:Addr) (c:Int) (w:World) (e:Ending) (u':FrameMode) (w':World):Prop:=
 e=.returned (.tuple #[])∧u'=.panicking [{v:=.iface 73 (.agg #[.int .i64 c]),recovered:=true}]∧ ∃ w2,Below w.heap.size w w2∧w'=w2.setCell p (.string (nB c))
theorem lr (p:Addr) (c:Int) (x:Value) (w:World) (hc:cP c) (hp:w.cell? p=some x) (hz:w.frozen? p=false) (hT:bH w):
  CallsD prog 25 #[.pointer (some p)] (.panicking (wD c)) w (DP p c w):=by
 have hA:=Fe;have HIT:=zH (fun w hT=>iw c hc.1 hc.2 w hT);have hlt:=World.block_lt_of_cell? w _ hp;refine callsD_of_wpS Tryz.func25 rfl fun c₀ cs hu=>?_
 unfold wD at hu;simp only[Tryz.ntmps25,List.size_toArray,List.length_cons,List.length_nil,Nat.reduceAdd,Nat.reduceSub,Array.replicate_succ,Array.replicate_zero,List.push_toArray,List.append_toArray,List.nil_append,List.cons_append];apply wpS_seq;apply wpS_region;simp[wpOpsS,go_sem,recoverD,hu,Exit.thenS];apply wpS_seq;apply wpS_region;simp[wpOpsS,go_sem,Exit.thenS];refine wpS_cond (t:=true) (by simp[Act.eval]) ?_;simp only[if_true];refine wpS_of_wp ?_;clear hu;generalize hQ:bodyPostS prog Tryz.f25 c₀ cs (DP p c w)=Q;have HAL:=zH ((Below.refl w.heap.size w).alloc (Nat.le_refl _) (.cells #[.int .i64 c] 73));have HT:=zH (hT.below HAL.out hT.lt)
 have hsz:(aL c).size≤21:=by
  have:=Lib.itoa_length_le c hc.1 hc.2
  show(Lib.itoa c).toArray.size≤21
  rw[List.size_toArray];exact this
 have HP:=zH hp;have HZ:=zH hz;clear hT hc hp hz;go_wp2_with fail;go_at_call 26;refine(HIT.out _ HT.out).mono ?_;rintro e w2 ⟨rfl,hb⟩;dsimp only;have HB:=zH (ae HAL.out hb);have hp2:w2.cell? p=some x:=(HB.out.cell hlt).trans HP.out;have hz2:w2.frozen? p=false:=(HB.out.frozen hlt).trans HZ.out;have HE:=zH (show(⟨#[101,114,114,111,114,32]⟩:ByteArray)++aL c=nB c from rfl);clear hb HP HZ HT HIT HAL;generalize aL c=y at*;go_wp2_with fail;subst hQ;exact⟨rfl,_,rfl,_,results_none rfl _ _ _,rfl,rfl,w2,HB.out,by rw[←HE.out]⟩
section
variable {W w:World} {mb hb qb rb:Nat} {r:Ru} {z:SS} {v:Value}
theorem yl (h:iL W mb hb qb rb r z v w) (hz:RZ r z) (hwr:cP z.writes) (g off c:Nat) (L:List (List UInt8)) (hw:iF w g off L) (hl: ∀ x∈L,x.length≤5000):
  Calls prog 15 #[.pointer (some ⟨hb,0,none⟩),.string ⟨#[109,105,110,116]⟩,.slice (some ⟨g,off,none⟩) L.length c] w (bw W w mb hb (jM ⟨r,z⟩ L)):=by
 by_cases hL:L.length=1
 ·rcases L with _|⟨a,_|⟨_,L⟩⟩
  ·exact absurd hL (by simp)
  ·clear hL
   have d0:w.cell? ⟨g,off,none⟩=some (.string (ah a)):=hw.2 0 a rfl;have l0:=hl a (by simp);obtain⟨⟩:=ey hw hl hwr;obtain⟨wcs,hwb⟩:=hw.1
   show Calls prog 15 #[.pointer (some ⟨hb,0,none⟩),.string ⟨#[109,105,110,116]⟩,.slice (some ⟨g,off,none⟩) 1 c] w (bw W w mb hb (jM ⟨r,z⟩ [a]))
   have HWR:=zH hwr;clear hw hl hwr;have hal:=(Below.refl w.heap.size w).alloc (Nat.le_refl _) (.cells #[.slice (some ⟨g,off,none⟩) 1 c] 34);have H0:=zH (h.keep hal);have d0:=(hal.cell (p:=⟨g,off,none⟩) (World.block_lt_of_cell? _ _ d0)).trans d0;have D0:=zH d0;have hfc:=H0.out.forms;have hlk:(Instr.lookup 87 (.map (some mb)) (.string ⟨#[109,105,110,116]⟩) true).run prog _=.ok (.tuple #[.string ⟨#[119]⟩,.bool true]) _:=H0.out.look jt dC;have HBX:=zH (aj.new w 34 #[.slice (some ⟨g,off,none⟩) 1 c]);have HWB:=zH (hwb.below' hal);clear hwb;have HAL:=zH hal;have HZ:=zH hz;clear h hal hz;have hmf: ∀ (fn:Fn) (first cap:Array Value) (w:World),(Instr.makeFunc fn first cap).run prog w=.ok (.func fn first cap) w:=fun _ _ _ _=>rfl
   go_enter Tryz.func15,Tryz.ntmps15;go_wp2_with fail;refine wp_loop_rounds 2 ?_;generalize w.alloc (.cells #[.slice (some ⟨g,off,none⟩) 1 c] 34)=w0 at*;have HNS:=zH (NS.nil w0);clear hfc hlk;rw[rounds_succ];go_wp2_with fail;have d0:=(HNS.out.bl.cell (p:=⟨g,off,none⟩) (World.block_lt_of_cell? _ _ D0.out)).trans D0.out;have HH:=zH (H0.out.keep HNS.out.bl);have HB:=zH (ae HAL.out HNS.out.bl);have HBX:=zH (HBX.out.below' HNS.out.bl);have HWB:=zH (HWB.out.below' HNS.out.bl);have hbx:=HBX.out.cell 0;have hh:=HH.out.at_.cell 0;obtain⟨s0,s1,s2,s3,s4,slt⟩:=HH.out.rv.five;rw[rounds_succ];go_wp2_with fail;go_at_call 37;refine(Ed HH.out.rv HZ.out (ah a) (by show a.length≤_;omega)).mono ?_;rintro e w8 ⟨rfl,hb8⟩;have hy:jM ⟨r,z⟩ [a]=(⟨r,z⟩,jL r z.s (ah a)):=rfl;generalize jL r z.s (ah a)=P at*;obtain⟨t8,c8⟩:=P;dsimp only at hy ⊢;have HT:=zH (kB (w:=w) HH.out HB.out hb8);clear hb8;go_wp2_with fail;go_ret2
   try rw[hy]
   exact HT.out _ _ c8 (fun _=>rfl)
  ·exact absurd hL (by simp)
 ·refine(cF h jt dC _ L.length (some ⟨g,off,none⟩) c rfl (fun F hF=>by cases (show some _=some F from hF);simpa using fun e=>hL e.symm)).mono ?_
  rintro e w' ⟨rfl,hb⟩;refine cf (d:=⟨r,z⟩) (h.keep hb) hb dC ?_;rcases L with _|⟨a,_|⟨_,L⟩⟩
  ·rfl
  ·exact absurd rfl hL
  ·rfl
end
section
variable {W w:World} {mb hb qb rb:Nat} {r:Ru} {z:SS} {v:Value}
theorem xq (h:iL W mb hb qb rb r z v w) (hz:RZ r z) (hwr:cP z.writes) (g off c:Nat) (L:List (List UInt8)) (hw:iF w g off L) (hl: ∀ x∈L,x.length≤5000):
  Calls prog 15 #[.pointer (some ⟨hb,0,none⟩),.string ⟨#[115,119,101,101,112]⟩,.slice (some ⟨g,off,none⟩) L.length c] w (bw W w mb hb (gr ⟨r,z⟩ L)):=by
 by_cases hL:L.length=0
 ·rcases L with _|⟨_,L⟩
  ·clear hL
   obtain⟨⟩:=ey hw hl hwr;obtain⟨wcs,hwb⟩:=hw.1
   show Calls prog 15 #[.pointer (some ⟨hb,0,none⟩),.string ⟨#[115,119,101,101,112]⟩,.slice (some ⟨g,off,none⟩) 0 c] w (bw W w mb hb (gr ⟨r,z⟩ []))
   have HWR:=zH hwr;clear hw hl hwr;have hal:=(Below.refl w.heap.size w).alloc (Nat.le_refl _) (.cells #[.slice (some ⟨g,off,none⟩) 0 c] 34);have H0:=zH (h.keep hal);have hfc:=H0.out.forms;have hlk:(Instr.lookup 87 (.map (some mb)) (.string ⟨#[115,119,101,101,112]⟩) true).run prog _=.ok (.tuple #[.string ⟨#[]⟩,.bool true]) _:=H0.out.look fE dC;have HBX:=zH (aj.new w 34 #[.slice (some ⟨g,off,none⟩) 0 c]);have HWB:=zH (hwb.below' hal);clear hwb;have HAL:=zH hal;have HZ:=zH hz;clear h hal hz;have hmf: ∀ (fn:Fn) (first cap:Array Value) (w:World),(Instr.makeFunc fn first cap).run prog w=.ok (.func fn first cap) w:=fun _ _ _ _=>rfl
   go_enter Tryz.func15,Tryz.ntmps15;go_wp2_with fail;refine wp_loop_rounds 1 ?_;generalize w.alloc (.cells #[.slice (some ⟨g,off,none⟩) 0 c] 34)=w0 at*;have HNS:=zH (NS.nil w0);clear hfc hlk;have HH:=zH (H0.out.keep HNS.out.bl);have HB:=zH (ae HAL.out HNS.out.bl);have HBX:=zH (HBX.out.below' HNS.out.bl);have HWB:=zH (HWB.out.below' HNS.out.bl);have hbx:=HBX.out.cell 0;have hh:=HH.out.at_.cell 0;obtain⟨s0,s1,s2,s3,s4,slt⟩:=HH.out.rv.five;rw[rounds_succ];have hok:cP (ar 0 z (bW r z.s)).2.1:=xX HZ.out.fit;go_wp2_with fail;go_at_call 44;refine(AU HH.out.rv HZ.out).mono ?_;rintro e w8 ⟨rfl,hg,v8,hr⟩;have hy:gr ⟨r,z⟩ []=(⟨r,(ar 0 z (bW r z.s)).1⟩,aL (ar 0 z (bW r z.s)).2.1,(ar 0 z (bW r z.s)).2.2):=rfl;generalize ar 0 z (bW r z.s)=P at*;obtain⟨z8,t8,c8⟩:=P;dsimp only at hr hy hok ⊢;have HH8:=zH (HH.out.turn hg hr);have HD8:=zH HH8.out.1.drew;have HS8:=zH ((cR.of_below HB.out).trans HH8.out.2);clear hg hr;go_wp2_with fail;go_at_call 16;refine(jW HH8.out.1 t8 hok).mono ?_;rintro e w9 ⟨rfl,hb9⟩;have HT:=zH (vG HS8.out HH8.out.1 hb9);clear hb9;go_wp2_with fail;go_ret2
   try rw[hy]
   exact HT.out _ _ c8 (fun _=>rfl)
  ·exact absurd hL (by simp)
 ·refine(cF h fE dC _ L.length (some ⟨g,off,none⟩) c rfl (fun F hF=>by cases (show some _=some F from hF);simpa using fun e=>hL e.symm)).mono ?_
  rintro e w' ⟨rfl,hb⟩;refine cf (d:=⟨r,z⟩) (h.keep hb) hb dC ?_;rcases L with _|⟨_,L⟩
  ·exact absurd rfl hL
  ·rfl
end
end Go.Proofs.YtepjcdjpikbbjaaGreatDoor
