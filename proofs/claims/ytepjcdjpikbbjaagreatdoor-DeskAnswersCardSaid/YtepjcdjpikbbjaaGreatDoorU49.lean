/-
  rotorref's desk: cut.
-/
import Derived.Test.YtepjcdjpikbbjaaGreatDoorU00
import Derived.Test.YtepjcdjpikbbjaaGreatDoorU40
import Derived.Test.YtepjcdjpikbbjaaGreatDoorU43
import Derived.Test.YtepjcdjpikbbjaaGreatDoorU33
import Derived.Test.YtepjcdjpikbbjaaGreatDoorU32
import Derived.Test.YtepjcdjpikbbjaaGreatDoorU20
import Derived.Test.YtepjcdjpikbbjaaGreatDoorU17
set_option maxHeartbeats 8000000
set_option maxRecDepth 100000
namespace Go.Proofs.YtepjcdjpikbbjaaGreatDoor
open Go.Proofs.Tryz
open Go.RowKit Go.Sort
section
variable {W w:World} {mb hb qb rb:Nat} {r:Ru} {z:SS} {v:Value}
theorem BU (h:iL W mb hb qb rb r z v w) (hz:RZ r z) (hwr:cP z.writes) (g off c:Nat) (L:List (List UInt8)) (hw:iF w g off L) (hl: ∀ x∈L,x.length≤5000):
  Calls prog 15 #[.pointer (some ⟨hb,0,none⟩),.string ⟨#[99,117,116]⟩,.slice (some ⟨g,off,none⟩) L.length c] w (bw W w mb hb (lp ⟨r,z⟩ L)):=by
 by_cases hL:L.length=1
 ·rcases L with _|⟨a,_|⟨_,L⟩⟩
  ·exact absurd hL (by simp)
  ·clear hL
   have d0:w.cell? ⟨g,off,none⟩=some (.string (ah a)):=hw.2 0 a rfl;have l0:=hl a (by simp);obtain⟨⟩:=ey hw hl hwr;obtain⟨wcs,hwb⟩:=hw.1
   show Calls prog 15 #[.pointer (some ⟨hb,0,none⟩),.string ⟨#[99,117,116]⟩,.slice (some ⟨g,off,none⟩) 1 c] w (bw W w mb hb (lp ⟨r,z⟩ [a]))
   have HWR:=zH hwr;clear hw hl hwr;have hal:=(Below.refl w.heap.size w).alloc (Nat.le_refl _) (.cells #[.slice (some ⟨g,off,none⟩) 1 c] 34);have H0:=zH (h.keep hal);have d0:=(hal.cell (p:=⟨g,off,none⟩) (World.block_lt_of_cell? _ _ d0)).trans d0;have D0:=zH d0;have hfc:=H0.out.forms;have hlk:(Instr.lookup 87 (.map (some mb)) (.string ⟨#[99,117,116]⟩) true).run prog _=.ok (.tuple #[.string ⟨#[110]⟩,.bool true]) _:=H0.out.look jQ dC;obtain⟨i0,hii,hz0,hz1,hz2⟩:=info_parts kq;have HBX:=zH (aj.new w 34 #[.slice (some ⟨g,off,none⟩) 1 c]);have HWB:=zH (hwb.below' hal);clear hwb;have HAL:=zH hal;have HZ:=zH hz;clear h hal hz;have hmf: ∀ (fn:Fn) (first cap:Array Value) (w:World),(Instr.makeFunc fn first cap).run prog w=.ok (.func fn first cap) w:=fun _ _ _ _=>rfl
   go_enter Tryz.func15,Tryz.ntmps15;go_wp2_with fail;refine wp_loop_rounds 2 ?_;generalize w.alloc (.cells #[.slice (some ⟨g,off,none⟩) 1 c] 34)=w0 at*;have HNS:=zH (NS.nil w0);clear hfc hlk;rw[rounds_succ];go_wp2_with fail;go_at_call 31;rcases hn0:aC a with _|_
   ·refine(ju a l0 hn0 (H0.out.keep HNS.out.bl)).mono ?_
    rintro e wn ⟨rfl,hbn⟩;have HQ:=zH (HNS.out.keep hbn);clear hbn;go_wp2_with fail;go_ret2;exact cf (d:=⟨r,z⟩) (H0.out.keep HQ.out.bl) (ae HAL.out HQ.out.bl) dC (by simp[lp,hn0])
   refine(gj a l0 hn0 (H0.out.keep HNS.out.bl)).mono ?_;rintro e v0 ⟨rfl,hbn⟩;dsimp only;have HK0:=zH (HNS.out.keep hbn);clear hbn;have hrow:=HK0.out.own;have hsz:=HK0.out.bl.size
   go_wp2_with
    (at_builtin;refine wpList_append_own _ rfl _ _ 88 rfl w0.heap.size 3 i0 (.int .i64 0) 1 8 underlying88 hii hz0 hz1 hz2 rfl dC _ _ _ rfl (hrow.alloc _) ⟨v0.heap.size,0,none⟩ 1 1 [.int .i64 (ab a)] rfl rfl (cell_one_new _ _ _) (fun x hx=>by simp at hx;subst hx;rfl) (by unfold maxLen;simp) (by simp) (by simp;omega) ?_;intro y0 x0 hown hgrow hnil
     have HM0:=zH (HK0.out.app hown hgrow);clear hown hgrow hnil hrow hsz)
   obtain⟨ng,nc,rfl,hng,hnc⟩:=HM0.out.cells (by simp);have n0:=hnc 0 (ab a) rfl;clear hnc;have d0:=(HM0.out.bl.cell (p:=⟨g,off,none⟩) (World.block_lt_of_cell? _ _ D0.out)).trans D0.out;have HH:=zH (H0.out.keep HM0.out.bl);have HB:=zH (ae HAL.out HM0.out.bl);have HBX:=zH (HBX.out.below' HM0.out.bl);have HWB:=zH (HWB.out.below' HM0.out.bl);have hbx:=HBX.out.cell 0;have hh:=HH.out.at_.cell 0;obtain⟨s0,s1,s2,s3,s4,slt⟩:=HH.out.rv.five;rw[rounds_succ];have hy:lp ⟨r,z⟩ [a]=(⟨r,wK z (ab a)⟩,ah jQ,0):=by simp[lp,hn0]
   have hq0:qb≠rb:=HH.out.rv.at_.ne_ HH.out.rv.ra dC;have hr0:ng≠rb:=by have:=H0.out.rv.three.2.2.2;omega
   have HHd:=zH HH.out.drew;have HBd:=zH (au HB.out);have HD:(x0:World).drew.cell? ⟨qb,0,none⟩=some (.pointer (some ⟨rb,0,none⟩))∧(x0:World).drew.cell? ⟨ng,0,none⟩=some (.int .i64 (ab a)):=⟨s0,n0⟩;have HHD:=zH HD;go_wp2_with fail
   go_region_held3 (fun w'=>w'.cell? ⟨qb,0,none⟩=some (.pointer (some ⟨rb,0,none⟩))∧w'.cell? ⟨ng,0,none⟩=some (.int .i64 (ab a)))
    (first
     |with_reducible assumption
     |with_reducible exact HD)
    (first
     |(go_at_call 42;(with_reducible refine(Gi rb z v (ab a) _ HHd.out.rv.ra).mono ?_);rintro x' w8 ⟨rfl,ha,hg⟩
       have hs8:w8.cell? ⟨qb,0,none⟩=some (.pointer (some ⟨rb,0,none⟩))∧w8.cell? ⟨ng,0,none⟩=some (.int .i64 (ab a)):=⟨qX HHD.out.1 hg hq0,qX HHD.out.2 hg hr0⟩))
   have HT:=zH (iY (w:=w) HHd.out HBd.out hg (HHd.out.rv.turn hg ha (HHd.out.rv.rr.kept hg (HHd.out.rv.rr.apart HHd.out.rv.ra dC))));clear ha hg hs8;go_wp2_with fail;go_ret2
   try rw[hy]
   exact HT.out _ _ 0 (fun _=>rfl)
  ·exact absurd hL (by simp)
 ·refine(cF h jQ dC _ L.length (some ⟨g,off,none⟩) c rfl (fun F hF=>by cases (show some _=some F from hF);simpa using fun e=>hL e.symm)).mono ?_
  rintro e w' ⟨rfl,hb⟩;refine cf (d:=⟨r,z⟩) (h.keep hb) hb dC ?_;rcases L with _|⟨a,_|⟨_,L⟩⟩
  ·rfl
  ·exact absurd rfl hL
  ·rfl
end
section
variable {W w:World} {mb hb qb rb:Nat} {r:Ru} {z:SS} {v:Value}
theorem xI (h:iL W mb hb qb rb r z v w) (hz:RZ r z) (hwr:cP z.writes) (g off c:Nat) (L:List (List UInt8)) (hw:iF w g off L) (hl: ∀ x∈L,x.length≤5000):
  Calls prog 15 #[.pointer (some ⟨hb,0,none⟩),.string ⟨#[103,114,97,110,116]⟩,.slice (some ⟨g,off,none⟩) L.length c] w (bw W w mb hb (gC ⟨r,z⟩ L)):=by
 by_cases hL:L.length=3
 ·rcases L with _|⟨a,_|⟨b,_|⟨c_,_|⟨_,L⟩⟩⟩⟩
  ·exact absurd hL (by simp)
  ·exact absurd hL (by simp)
  ·exact absurd hL (by simp)
  ·clear hL
   have d0:w.cell? ⟨g,off,none⟩=some (.string (ah a)):=hw.2 0 a rfl;have l0:=hl a (by simp);have d1:w.cell? ⟨g,off+1,none⟩=some (.string (ah b)):=hw.2 1 b rfl;have l1:=hl b (by simp);have d2:w.cell? ⟨g,off+2,none⟩=some (.string (ah c_)):=hw.2 2 c_ rfl;have l2:=hl c_ (by simp);obtain⟨⟩:=ey hw hl hwr;obtain⟨wcs,hwb⟩:=hw.1
   show Calls prog 15 #[.pointer (some ⟨hb,0,none⟩),.string ⟨#[103,114,97,110,116]⟩,.slice (some ⟨g,off,none⟩) 3 c] w (bw W w mb hb (gC ⟨r,z⟩ [a,b,c_]))
   have HWR:=zH hwr;clear hw hl hwr;have hal:=(Below.refl w.heap.size w).alloc (Nat.le_refl _) (.cells #[.slice (some ⟨g,off,none⟩) 3 c] 34);have H0:=zH (h.keep hal);have d0:=(hal.cell (p:=⟨g,off,none⟩) (World.block_lt_of_cell? _ _ d0)).trans d0;have D0:=zH d0;have d1:=(hal.cell (p:=⟨g,off+1,none⟩) (World.block_lt_of_cell? _ _ d1)).trans d1;have D1:=zH d1;have d2:=(hal.cell (p:=⟨g,off+2,none⟩) (World.block_lt_of_cell? _ _ d2)).trans d2;have D2:=zH d2;have hfc:=H0.out.forms;have hlk:(Instr.lookup 87 (.map (some mb)) (.string ⟨#[103,114,97,110,116]⟩) true).run prog _=.ok (.tuple #[.string ⟨#[119,119,119]⟩,.bool true]) _:=H0.out.look fJ dC;have HBX:=zH (aj.new w 34 #[.slice (some ⟨g,off,none⟩) 3 c]);have HWB:=zH (hwb.below' hal);clear hwb;have HAL:=zH hal;have HZ:=zH hz;clear h hal hz;have hmf: ∀ (fn:Fn) (first cap:Array Value) (w:World),(Instr.makeFunc fn first cap).run prog w=.ok (.func fn first cap) w:=fun _ _ _ _=>rfl
   go_enter Tryz.func15,Tryz.ntmps15;go_wp2_with fail;refine wp_loop_rounds 4 ?_;generalize w.alloc (.cells #[.slice (some ⟨g,off,none⟩) 3 c] 34)=w0 at*;have HNS:=zH (NS.nil w0);clear hfc hlk;rw[rounds_succ];go_wp2_with fail;rw[rounds_succ];go_wp2_with fail;rw[rounds_succ];go_wp2_with fail;have d0:=(HNS.out.bl.cell (p:=⟨g,off,none⟩) (World.block_lt_of_cell? _ _ D0.out)).trans D0.out;have d1:=(HNS.out.bl.cell (p:=⟨g,off+1,none⟩) (World.block_lt_of_cell? _ _ D1.out)).trans D1.out;have d2:=(HNS.out.bl.cell (p:=⟨g,off+2,none⟩) (World.block_lt_of_cell? _ _ D2.out)).trans D2.out;have HH:=zH (H0.out.keep HNS.out.bl);have HB:=zH (ae HAL.out HNS.out.bl);have HBX:=zH (HBX.out.below' HNS.out.bl);have HWB:=zH (HWB.out.below' HNS.out.bl);have hbx:=HBX.out.cell 0;have hh:=HH.out.at_.cell 0;obtain⟨s0,s1,s2,s3,s4,slt⟩:=HH.out.rv.five;rw[rounds_succ];have hy:gC ⟨r,z⟩ [a,b,c_]=(⟨r,(ar aI z (bL r z.s (ah a) (ah b) (bG (ah c_)))).1⟩,(ar aI z (bL r z.s (ah a) (ah b) (bG (ah c_)))).2):=rfl;have HHd:=zH HH.out.drew;have HBd:=zH (au HB.out);have HD:(w0:World).drew.cell? ⟨w.heap.size,0,none⟩=some (.slice (some ⟨g,off,none⟩) 3 c)∧(w0:World).drew.cell? ⟨g,off,none⟩=some (.string (ah a))∧(w0:World).drew.cell? ⟨g,off+1,none⟩=some (.string (ah b))∧(w0:World).drew.cell? ⟨g,off+2,none⟩=some (.string (ah c_)):=⟨hbx,d0,d1,d2⟩;have HHD:=zH HD;have HR:=zH (Bj HHd.out.rv HZ.out (ah a) (ah b) (bG (ah c_)) (by show a.length≤_;omega) (by show b.length≤_;omega) (gc _ (by show c_.length≤_;omega)));unfold cr at HR;have HTX:Hid (∀ (u:World),u.cell? ⟨w.heap.size,0,none⟩=some (.slice (some ⟨g,off,none⟩) 3 c)→u.cell? ⟨g,off+2,none⟩=some (.string (ah c_))→Calls prog 32 #[.int .i64 2,.pointer (some ⟨w.heap.size,0,none⟩)] u fun e w'=>e=.returned (.string (bG (ah c_)))∧u=w'):=zH (fun u h0 h1=>nt u w.heap.size g off c 3 2 c_ h0 dC h1);generalize ar aI z (bL r z.s (ah a) (ah b) (bG (ah c_)))=P at*;obtain⟨z8,t8,c8⟩:=P;dsimp only at HR hy;go_wp2_with fail
   go_region_held3 (fun w'=>w'.cell? ⟨w.heap.size,0,none⟩=some (.slice (some ⟨g,off,none⟩) 3 c)∧w'.cell? ⟨g,off,none⟩=some (.string (ah a))∧w'.cell? ⟨g,off+1,none⟩=some (.string (ah b))∧w'.cell? ⟨g,off+2,none⟩=some (.string (ah c_)))
    (first
     |with_reducible assumption
     |with_reducible exact HD)
    (first
     |(go_at_call 32;(with_reducible refine(HTX.out _ HHD.out.1 HHD.out.2.2.2).mono ?_);rintro x' w8 ⟨rfl,rfl⟩)
     |(go_at_call 35;(with_reducible refine HR.out.mono ?_);rintro x' w9 ⟨rfl,hg,v9,hr⟩
       have hst:=(HHd.out.turn hg hr).2;have hs9:w9.cell? ⟨w.heap.size,0,none⟩=some (.slice (some ⟨g,off,none⟩) 3 c)∧w9.cell? ⟨g,off,none⟩=some (.string (ah a))∧w9.cell? ⟨g,off+1,none⟩=some (.string (ah b))∧w9.cell? ⟨g,off+2,none⟩=some (.string (ah c_)):=⟨dq HHD.out.1 HBX.out hst rfl,dq HHD.out.2.1 HWB.out hst rfl,dq HHD.out.2.2.1 HWB.out hst rfl,dq HHD.out.2.2.2 HWB.out hst rfl⟩))
   have HT:=zH (iY (w:=w) HHd.out HBd.out hg hr);clear hg hr hst hs9;go_wp2_with fail;go_ret2
   try rw[hy]
   exact HT.out _ _ c8 (fun _=>rfl)
  ·exact absurd hL (by simp)
 ·refine(cF h fJ dC _ L.length (some ⟨g,off,none⟩) c rfl (fun F hF=>by cases (show some _=some F from hF);simpa using fun e=>hL e.symm)).mono ?_
  rintro e w' ⟨rfl,hb⟩;refine cf (d:=⟨r,z⟩) (h.keep hb) hb dC ?_;rcases L with _|⟨a,_|⟨b,_|⟨c_,_|⟨_,L⟩⟩⟩⟩
  ·rfl
  ·rfl
  ·rfl
  ·exact absurd rfl hL
  ·rfl
end
section
variable {W w:World} {mb hb qb rb:Nat} {r:Ru} {z:SS} {v:Value}
theorem xW (h:iL W mb hb qb rb r z v w) (hz:RZ r z) (hwr:cP z.writes) (g off c:Nat) (L:List (List UInt8)) (hw:iF w g off L) (hl: ∀ x∈L,x.length≤5000):
  Calls prog 15 #[.pointer (some ⟨hb,0,none⟩),.string ⟨#[108,101,97,115,116]⟩,.slice (some ⟨g,off,none⟩) L.length c] w (bw W w mb hb (ij ⟨r,z⟩ L)):=by
 by_cases hL:L.length=1
 ·rcases L with _|⟨a,_|⟨_,L⟩⟩
  ·exact absurd hL (by simp)
  ·clear hL
   have d0:w.cell? ⟨g,off,none⟩=some (.string (ah a)):=hw.2 0 a rfl;have l0:=hl a (by simp);obtain⟨⟩:=ey hw hl hwr;obtain⟨wcs,hwb⟩:=hw.1
   show Calls prog 15 #[.pointer (some ⟨hb,0,none⟩),.string ⟨#[108,101,97,115,116]⟩,.slice (some ⟨g,off,none⟩) 1 c] w (bw W w mb hb (ij ⟨r,z⟩ [a]))
   have HWR:=zH hwr;clear hw hl hwr;have hal:=(Below.refl w.heap.size w).alloc (Nat.le_refl _) (.cells #[.slice (some ⟨g,off,none⟩) 1 c] 34);have H0:=zH (h.keep hal);have d0:=(hal.cell (p:=⟨g,off,none⟩) (World.block_lt_of_cell? _ _ d0)).trans d0;have D0:=zH d0;have hfc:=H0.out.forms;have hlk:(Instr.lookup 87 (.map (some mb)) (.string ⟨#[108,101,97,115,116]⟩) true).run prog _=.ok (.tuple #[.string ⟨#[119]⟩,.bool true]) _:=H0.out.look fB dC;have HBX:=zH (aj.new w 34 #[.slice (some ⟨g,off,none⟩) 1 c]);have HWB:=zH (hwb.below' hal);clear hwb;have HAL:=zH hal;have HZ:=zH hz;clear h hal hz;have hmf: ∀ (fn:Fn) (first cap:Array Value) (w:World),(Instr.makeFunc fn first cap).run prog w=.ok (.func fn first cap) w:=fun _ _ _ _=>rfl
   go_enter Tryz.func15,Tryz.ntmps15;go_wp2_with fail;refine wp_loop_rounds 2 ?_;generalize w.alloc (.cells #[.slice (some ⟨g,off,none⟩) 1 c] 34)=w0 at*;have HNS:=zH (NS.nil w0);clear hfc hlk;rw[rounds_succ];go_wp2_with fail;have d0:=(HNS.out.bl.cell (p:=⟨g,off,none⟩) (World.block_lt_of_cell? _ _ D0.out)).trans D0.out;have HH:=zH (H0.out.keep HNS.out.bl);have HB:=zH (ae HAL.out HNS.out.bl);have HBX:=zH (HBX.out.below' HNS.out.bl);have HWB:=zH (HWB.out.below' HNS.out.bl);have hbx:=HBX.out.cell 0;have hh:=HH.out.at_.cell 0;obtain⟨s0,s1,s2,s3,s4,slt⟩:=HH.out.rv.five;rw[rounds_succ];go_wp2_with fail;go_at_call 32;refine(nt _ w.heap.size g off c 1 0 a hbx dC d0).mono ?_;rintro e w8 ⟨rfl,rfl⟩;go_wp2_with fail;go_at_call 46;refine(mu (bG (ah a)) _ (gc _ (by show a.length≤_;omega))).mono ?_;rintro e w9 ⟨rfl,hb9⟩;have HB9:=zH hb9;clear hb9;go_wp2_with fail;go_at_call 47;refine(rQ _ _).mono ?_;rintro e w10 ⟨rfl,rfl⟩;have HT:=zH (kB (w:=w) (r:=r) (z:=z) HH.out HB.out HB9.out);go_wp2_with fail;go_ret2;exact HT.out _ _ _ (fun _=>ki _)
  ·exact absurd hL (by simp)
 ·refine(cF h fB dC _ L.length (some ⟨g,off,none⟩) c rfl (fun F hF=>by cases (show some _=some F from hF);simpa using fun e=>hL e.symm)).mono ?_
  rintro e w' ⟨rfl,hb⟩;refine cf (d:=⟨r,z⟩) (h.keep hb) hb dC ?_;rcases L with _|⟨a,_|⟨_,L⟩⟩
  ·rfl
  ·exact absurd rfl hL
  ·rfl
end
section
variable {W w:World} {mb hb qb rb:Nat} {r:Ru} {z:SS} {v:Value}
theorem Bb (h:iL W mb hb qb rb r z v w) (hz:RZ r z) (hwr:cP z.writes) (g off c:Nat) (L:List (List UInt8)) (hw:iF w g off L) (hl: ∀ x∈L,x.length≤5000):
  Calls prog 15 #[.pointer (some ⟨hb,0,none⟩),.string ⟨#[108,111,103]⟩,.slice (some ⟨g,off,none⟩) L.length c] w (bw W w mb hb (nL ⟨r,z⟩ L)):=by
 by_cases hL:L.length=0
 ·rcases L with _|⟨_,L⟩
  ·clear hL
   obtain⟨⟩:=ey hw hl hwr;obtain⟨wcs,hwb⟩:=hw.1
   show Calls prog 15 #[.pointer (some ⟨hb,0,none⟩),.string ⟨#[108,111,103]⟩,.slice (some ⟨g,off,none⟩) 0 c] w (bw W w mb hb (nL ⟨r,z⟩ []))
   have HWR:=zH hwr;clear hw hl hwr;have hal:=(Below.refl w.heap.size w).alloc (Nat.le_refl _) (.cells #[.slice (some ⟨g,off,none⟩) 0 c] 34);have H0:=zH (h.keep hal);have hfc:=H0.out.forms;have hlk:(Instr.lookup 87 (.map (some mb)) (.string ⟨#[108,111,103]⟩) true).run prog _=.ok (.tuple #[.string ⟨#[]⟩,.bool true]) _:=H0.out.look mT dC;have HBX:=zH (aj.new w 34 #[.slice (some ⟨g,off,none⟩) 0 c]);have HWB:=zH (hwb.below' hal);clear hwb;have HAL:=zH hal;have HZ:=zH hz;clear h hal hz;have hmf: ∀ (fn:Fn) (first cap:Array Value) (w:World),(Instr.makeFunc fn first cap).run prog w=.ok (.func fn first cap) w:=fun _ _ _ _=>rfl
   go_enter Tryz.func15,Tryz.ntmps15;go_wp2_with fail;refine wp_loop_rounds 1 ?_;generalize w.alloc (.cells #[.slice (some ⟨g,off,none⟩) 0 c] 34)=w0 at*;have HNS:=zH (NS.nil w0);clear hfc hlk;have HH:=zH (H0.out.keep HNS.out.bl);have HB:=zH (ae HAL.out HNS.out.bl);have HBX:=zH (HBX.out.below' HNS.out.bl);have HWB:=zH (HWB.out.below' HNS.out.bl);have hbx:=HBX.out.cell 0;have hh:=HH.out.at_.cell 0;obtain⟨s0,s1,s2,s3,s4,slt⟩:=HH.out.rv.five;rw[rounds_succ];have hlg:=HZ.out.lg;obtain⟨⟨ck,nx,F⟩,lg,wr,off_,lf,dn⟩:=z;obtain⟨r0,r1,r2,r3,r4,r5,r6,r7,rz,rlt⟩:=HH.out.rv.ra.cells;dsimp only at hlg;have hok:cP lg:=⟨by omega,by omega⟩;have hz1:=cC (L:=[lg]) (by simp) (by simpa using hok);have hz2:(fy dn).size≤5:=by cases dn<;>decide
   have h32:(⟨#[32]⟩:ByteArray).size=1:=rfl;have q1:=bi (cg [lg]) ⟨#[32]⟩ oM;have q2:=bi (cg [lg]++⟨#[32]⟩) (fy dn) (by rw[ByteArray.size_append];omega);have HHd:=zH HH.out.drew;have HBd:=zH (au HB.out);have HD:(w0:World).drew.cell? ⟨qb,0,none⟩=some (.pointer (some ⟨rb,0,none⟩))∧(w0:World).drew.cell? ⟨rb,3,none⟩=some (.int .i64 lg)∧(w0:World).drew.cell? ⟨rb,7,none⟩=some (.bool dn):=⟨s0,r3,r7⟩;have HHD:=zH HD;have hal:=(Below.refl w0.drew.heap.size w0.drew).alloc (Nat.le_refl _) (.cells #[.int .i64 lg] 3);have HAl:World.cell? (w0.alloc (.cells #[.int .i64 lg] 3)).drew ⟨qb,0,none⟩=some (.pointer (some ⟨rb,0,none⟩))∧World.cell? (w0.alloc (.cells #[.int .i64 lg] 3)).drew ⟨rb,3,none⟩=some (.int .i64 lg)∧World.cell? (w0.alloc (.cells #[.int .i64 lg] 3)).drew ⟨rb,7,none⟩=some (.bool dn):=⟨aB HHD.out.1 hal,aB HHD.out.2.1 hal,aB HHD.out.2.2 hal⟩;have HTO:Hid (Calls prog 16 #[.slice (some ⟨w0.heap.size,0,none⟩) 1 1] (w0.alloc (.cells #[.int .i64 lg] 3)).drew fun e w'=>e=.returned (.string (aL lg))∧Below w0.drew.heap.size w0.drew w'):=zH (jW HHd.out lg hok);rw[show aL lg=cg [lg]from rfl]at HTO;have HFB:Hid (∀ w,Calls prog 45 #[.bool dn] w fun e w'=>e=.returned (.string (fy dn))∧w=w'):=zH (fun w=>(Tryz.strconv_FormatBool dn w).mono fun e w' h=>⟨by rw[h.1,pZ],h.2.symm⟩);have hy:nL ⟨r,⟨⟨ck,nx,F⟩,lg,wr,off_,lf,dn⟩⟩ []=(⟨r,⟨⟨ck,nx,F⟩,lg,wr,off_,lf,dn⟩⟩,cg [lg]++⟨#[32]⟩++fy dn,0):=rfl;generalize cg [lg]=y at*;generalize fy dn=y2 at*;clear hal;go_wp2_with fail
   go_region_held3 (fun w'=>w'.cell? ⟨qb,0,none⟩=some (.pointer (some ⟨rb,0,none⟩))∧w'.cell? ⟨rb,3,none⟩=some (.int .i64 lg)∧w'.cell? ⟨rb,7,none⟩=some (.bool dn))
    (first
     |with_reducible assumption
     |with_reducible exact HAl)
    (first
     |(go_at_call 45;(with_reducible refine(HFB.out _).mono ?_);rintro x' w8 ⟨rfl,rfl⟩)
     |(go_at_call 16;(with_reducible refine HTO.out.mono ?_);rintro x' w9 ⟨rfl,hb9⟩
       have hs9:World.cell? w9 ⟨qb,0,none⟩=some (.pointer (some ⟨rb,0,none⟩))∧World.cell? w9 ⟨rb,3,none⟩=some (.int .i64 lg)∧World.cell? w9 ⟨rb,7,none⟩=some (.bool dn):=⟨aB HHD.out.1 hb9,aB HHD.out.2.1 hb9,aB HHD.out.2.2 hb9⟩))
   have HT:=zH (kB (w:=w) HHd.out HBd.out hb9);clear hb9 hs9;go_wp2_with fail;go_ret2
   try rw[hy]
   exact HT.out _ _ 0 (fun _=>rfl)
  ·exact absurd hL (by simp)
 ·refine(cF h mT dC _ L.length (some ⟨g,off,none⟩) c rfl (fun F hF=>by cases (show some _=some F from hF);simpa using fun e=>hL e.symm)).mono ?_
  rintro e w' ⟨rfl,hb⟩;refine cf (d:=⟨r,z⟩) (h.keep hb) hb dC ?_;rcases L with _|⟨_,L⟩
  ·exact absurd rfl hL
  ·rfl
end
section
variable {W w:World} {mb hb qb rb:Nat} {r:Ru} {z:SS} {v:Value}
theorem vj (h:iL W mb hb qb rb r z v w) (hz:RZ r z) (hwr:cP z.writes) (g off c:Nat) (L:List (List UInt8)) (hw:iF w g off L) (hl: ∀ x∈L,x.length≤5000):
  Calls prog 15 #[.pointer (some ⟨hb,0,none⟩),.string ⟨#[114,111,116,97,116,101]⟩,.slice (some ⟨g,off,none⟩) L.length c] w (bw W w mb hb (eD ⟨r,z⟩ L)):=by
 by_cases hL:L.length=3
 ·rcases L with _|⟨a,_|⟨b,_|⟨c_,_|⟨_,L⟩⟩⟩⟩
  ·exact absurd hL (by simp)
  ·exact absurd hL (by simp)
  ·exact absurd hL (by simp)
  ·clear hL
   have d0:w.cell? ⟨g,off,none⟩=some (.string (ah a)):=hw.2 0 a rfl;have l0:=hl a (by simp);have d1:w.cell? ⟨g,off+1,none⟩=some (.string (ah b)):=hw.2 1 b rfl;have l1:=hl b (by simp);have d2:w.cell? ⟨g,off+2,none⟩=some (.string (ah c_)):=hw.2 2 c_ rfl;have l2:=hl c_ (by simp);obtain⟨⟩:=ey hw hl hwr;obtain⟨wcs,hwb⟩:=hw.1
   show Calls prog 15 #[.pointer (some ⟨hb,0,none⟩),.string ⟨#[114,111,116,97,116,101]⟩,.slice (some ⟨g,off,none⟩) 3 c] w (bw W w mb hb (eD ⟨r,z⟩ [a,b,c_]))
   have HWR:=zH hwr;clear hw hl hwr;have hal:=(Below.refl w.heap.size w).alloc (Nat.le_refl _) (.cells #[.slice (some ⟨g,off,none⟩) 3 c] 34);have H0:=zH (h.keep hal);have d0:=(hal.cell (p:=⟨g,off,none⟩) (World.block_lt_of_cell? _ _ d0)).trans d0;have D0:=zH d0;have d1:=(hal.cell (p:=⟨g,off+1,none⟩) (World.block_lt_of_cell? _ _ d1)).trans d1;have D1:=zH d1;have d2:=(hal.cell (p:=⟨g,off+2,none⟩) (World.block_lt_of_cell? _ _ d2)).trans d2;have D2:=zH d2;have hfc:=H0.out.forms;have hlk:(Instr.lookup 87 (.map (some mb)) (.string ⟨#[114,111,116,97,116,101]⟩) true).run prog _=.ok (.tuple #[.string ⟨#[119,119,119]⟩,.bool true]) _:=H0.out.look ee dC;have HBX:=zH (aj.new w 34 #[.slice (some ⟨g,off,none⟩) 3 c]);have HWB:=zH (hwb.below' hal);clear hwb;have HAL:=zH hal;have HZ:=zH hz;clear h hal hz;have hmf: ∀ (fn:Fn) (first cap:Array Value) (w:World),(Instr.makeFunc fn first cap).run prog w=.ok (.func fn first cap) w:=fun _ _ _ _=>rfl
   go_enter Tryz.func15,Tryz.ntmps15;go_wp2_with fail;refine wp_loop_rounds 4 ?_;generalize w.alloc (.cells #[.slice (some ⟨g,off,none⟩) 3 c] 34)=w0 at*;have HNS:=zH (NS.nil w0);clear hfc hlk;rw[rounds_succ];go_wp2_with fail;rw[rounds_succ];go_wp2_with fail;rw[rounds_succ];go_wp2_with fail;have d0:=(HNS.out.bl.cell (p:=⟨g,off,none⟩) (World.block_lt_of_cell? _ _ D0.out)).trans D0.out;have d1:=(HNS.out.bl.cell (p:=⟨g,off+1,none⟩) (World.block_lt_of_cell? _ _ D1.out)).trans D1.out;have d2:=(HNS.out.bl.cell (p:=⟨g,off+2,none⟩) (World.block_lt_of_cell? _ _ D2.out)).trans D2.out;have HH:=zH (H0.out.keep HNS.out.bl);have HB:=zH (ae HAL.out HNS.out.bl);have HBX:=zH (HBX.out.below' HNS.out.bl);have HWB:=zH (HWB.out.below' HNS.out.bl);have hbx:=HBX.out.cell 0;have hh:=HH.out.at_.cell 0;obtain⟨s0,s1,s2,s3,s4,slt⟩:=HH.out.rv.five;rw[rounds_succ];have hy:eD ⟨r,z⟩ [a,b,c_]=(⟨r,(ar aI z (dG r z.s (ah a) (ah b) (bG (ah c_)))).1⟩,(ar aI z (dG r z.s (ah a) (ah b) (bG (ah c_)))).2):=rfl;have HHd:=zH HH.out.drew;have HBd:=zH (au HB.out);have HD:(w0:World).drew.cell? ⟨w.heap.size,0,none⟩=some (.slice (some ⟨g,off,none⟩) 3 c)∧(w0:World).drew.cell? ⟨g,off,none⟩=some (.string (ah a))∧(w0:World).drew.cell? ⟨g,off+1,none⟩=some (.string (ah b))∧(w0:World).drew.cell? ⟨g,off+2,none⟩=some (.string (ah c_)):=⟨hbx,d0,d1,d2⟩;have HHD:=zH HD;have HR:=zH (zJ HHd.out.rv HZ.out (ah a) (ah b) (bG (ah c_)) (by show a.length≤_;omega) (by show b.length≤_;omega) (gc _ (by show c_.length≤_;omega)));unfold cr at HR;have HTX:Hid (∀ (u:World),u.cell? ⟨w.heap.size,0,none⟩=some (.slice (some ⟨g,off,none⟩) 3 c)→u.cell? ⟨g,off+2,none⟩=some (.string (ah c_))→Calls prog 32 #[.int .i64 2,.pointer (some ⟨w.heap.size,0,none⟩)] u fun e w'=>e=.returned (.string (bG (ah c_)))∧u=w'):=zH (fun u h0 h1=>nt u w.heap.size g off c 3 2 c_ h0 dC h1);generalize ar aI z (dG r z.s (ah a) (ah b) (bG (ah c_)))=P at*;obtain⟨z8,t8,c8⟩:=P;dsimp only at HR hy;go_wp2_with fail
   go_region_held3 (fun w'=>w'.cell? ⟨w.heap.size,0,none⟩=some (.slice (some ⟨g,off,none⟩) 3 c)∧w'.cell? ⟨g,off,none⟩=some (.string (ah a))∧w'.cell? ⟨g,off+1,none⟩=some (.string (ah b))∧w'.cell? ⟨g,off+2,none⟩=some (.string (ah c_)))
    (first
     |with_reducible assumption
     |with_reducible exact HD)
    (first
     |(go_at_call 32;(with_reducible refine(HTX.out _ HHD.out.1 HHD.out.2.2.2).mono ?_);rintro x' w8 ⟨rfl,rfl⟩)
     |(go_at_call 36;(with_reducible refine HR.out.mono ?_);rintro x' w9 ⟨rfl,hg,v9,hr⟩
       have hst:=(HHd.out.turn hg hr).2;have hs9:w9.cell? ⟨w.heap.size,0,none⟩=some (.slice (some ⟨g,off,none⟩) 3 c)∧w9.cell? ⟨g,off,none⟩=some (.string (ah a))∧w9.cell? ⟨g,off+1,none⟩=some (.string (ah b))∧w9.cell? ⟨g,off+2,none⟩=some (.string (ah c_)):=⟨dq HHD.out.1 HBX.out hst rfl,dq HHD.out.2.1 HWB.out hst rfl,dq HHD.out.2.2.1 HWB.out hst rfl,dq HHD.out.2.2.2 HWB.out hst rfl⟩))
   have HT:=zH (iY (w:=w) HHd.out HBd.out hg hr);clear hg hr hst hs9;go_wp2_with fail;go_ret2
   try rw[hy]
   exact HT.out _ _ c8 (fun _=>rfl)
  ·exact absurd hL (by simp)
 ·refine(cF h ee dC _ L.length (some ⟨g,off,none⟩) c rfl (fun F hF=>by cases (show some _=some F from hF);simpa using fun e=>hL e.symm)).mono ?_
  rintro e w' ⟨rfl,hb⟩;refine cf (d:=⟨r,z⟩) (h.keep hb) hb dC ?_;rcases L with _|⟨a,_|⟨b,_|⟨c_,_|⟨_,L⟩⟩⟩⟩
  ·rfl
  ·rfl
  ·rfl
  ·exact absurd rfl hL
  ·rfl
end
end Go.Proofs.YtepjcdjpikbbjaaGreatDoor
