/-
  rotorref's desk: new.
-/
import Derived.Test.YtepjcdjpikbbjaaGreatDoorU00
import Derived.Test.YtepjcdjpikbbjaaGreatDoorU40
import Derived.Test.YtepjcdjpikbbjaaGreatDoorU43
import Derived.Test.YtepjcdjpikbbjaaGreatDoorU05
import Derived.Test.YtepjcdjpikbbjaaGreatDoorU38
set_option maxHeartbeats 16000000
set_option maxRecDepth 100000
namespace Go.Proofs.YtepjcdjpikbbjaaGreatDoor
open Go.Proofs.Tryz
open Go.RowKit Go.Sort
section
variable {W w:World} {mb hb qb rb:Nat} {r:Ru} {z:SS} {v:Value}
theorem A1 (h:iL W mb hb qb rb r z v w) (hz:RZ r z) (hwr:cP z.writes) (g off c:Nat) (L:List (List UInt8)) (hw:iF w g off L) (hl: ∀ x∈L,x.length≤5000):
  Calls prog 15 #[.pointer (some ⟨hb,0,none⟩),.string ⟨#[110,101,119]⟩,.slice (some ⟨g,off,none⟩) L.length c] w (bw W w mb hb (j4 ⟨r,z⟩ L)):=by
 by_cases hL:L.length=4
 ·rcases L with _|⟨a,_|⟨b,_|⟨c_,_|⟨e_,_|⟨_,L⟩⟩⟩⟩⟩
  ·exact absurd hL (by simp)
  ·exact absurd hL (by simp)
  ·exact absurd hL (by simp)
  ·exact absurd hL (by simp)
  ·clear hL
   have d0:w.cell? ⟨g,off,none⟩=some (.string (ah a)):=hw.2 0 a rfl;have l0:=hl a (by simp);have d1:w.cell? ⟨g,off+1,none⟩=some (.string (ah b)):=hw.2 1 b rfl;have l1:=hl b (by simp);have d2:w.cell? ⟨g,off+2,none⟩=some (.string (ah c_)):=hw.2 2 c_ rfl;have l2:=hl c_ (by simp);have d3:w.cell? ⟨g,off+3,none⟩=some (.string (ah e_)):=hw.2 3 e_ rfl;have l3:=hl e_ (by simp);obtain⟨⟩:=ey hw hl hwr;obtain⟨wcs,hwb⟩:=hw.1
   show Calls prog 15 #[.pointer (some ⟨hb,0,none⟩),.string ⟨#[110,101,119]⟩,.slice (some ⟨g,off,none⟩) 4 c] w (bw W w mb hb (j4 ⟨r,z⟩ [a,b,c_,e_]))
   have HWR:=zH hwr;clear hw hl hwr;have hal:=(Below.refl w.heap.size w).alloc (Nat.le_refl _) (.cells #[.slice (some ⟨g,off,none⟩) 4 c] 34);have H0:=zH (h.keep hal);have d0:=(hal.cell (p:=⟨g,off,none⟩) (World.block_lt_of_cell? _ _ d0)).trans d0;have D0:=zH d0;have d1:=(hal.cell (p:=⟨g,off+1,none⟩) (World.block_lt_of_cell? _ _ d1)).trans d1;have D1:=zH d1;have d2:=(hal.cell (p:=⟨g,off+2,none⟩) (World.block_lt_of_cell? _ _ d2)).trans d2;have D2:=zH d2;have d3:=(hal.cell (p:=⟨g,off+3,none⟩) (World.block_lt_of_cell? _ _ d3)).trans d3;have D3:=zH d3;have hfc:=H0.out.forms;have hlk:(Instr.lookup 87 (.map (some mb)) (.string ⟨#[110,101,119]⟩) true).run prog _=.ok (.tuple #[.string ⟨#[110,110,110,110]⟩,.bool true]) _:=H0.out.look jc dC;obtain⟨i0,hii,hz0,hz1,hz2⟩:=info_parts kq;have HBX:=zH (aj.new w 34 #[.slice (some ⟨g,off,none⟩) 4 c]);have HWB:=zH (hwb.below' hal);clear hwb;have HAL:=zH hal;have HZ:=zH hz;clear h hal hz;have hmf: ∀ (fn:Fn) (first cap:Array Value) (w:World),(Instr.makeFunc fn first cap).run prog w=.ok (.func fn first cap) w:=fun _ _ _ _=>rfl
   go_enter Tryz.func15,Tryz.ntmps15;go_wp2_with fail;refine wp_loop_rounds 5 ?_;generalize w.alloc (.cells #[.slice (some ⟨g,off,none⟩) 4 c] 34)=w0 at*;have HNS:=zH (NS.nil w0);clear hfc hlk;rw[rounds_succ];go_wp2_with fail;go_at_call 31;rcases hn0:aC a with _|_
   ·refine(ju a l0 hn0 (H0.out.keep HNS.out.bl)).mono ?_
    rintro e wn ⟨rfl,hbn⟩;have HQ:=zH (HNS.out.keep hbn);clear hbn;go_wp2_with fail;go_ret2;exact cf (d:=⟨r,z⟩) (H0.out.keep HQ.out.bl) (ae HAL.out HQ.out.bl) dC (by simp[j4,hn0])
   refine(gj a l0 hn0 (H0.out.keep HNS.out.bl)).mono ?_;rintro e v0 ⟨rfl,hbn⟩;dsimp only;have HK0:=zH (HNS.out.keep hbn);clear hbn;have hrow:=HK0.out.own;have hsz:=HK0.out.bl.size
   go_wp2_with
    (at_builtin;refine wpList_append_own _ rfl _ _ 88 rfl w0.heap.size 3 i0 (.int .i64 0) 1 8 underlying88 hii hz0 hz1 hz2 rfl dC _ _ _ rfl (hrow.alloc _) ⟨v0.heap.size,0,none⟩ 1 1 [.int .i64 (ab a)] rfl rfl (cell_one_new _ _ _) (fun x hx=>by simp at hx;subst hx;rfl) (by unfold maxLen;simp) (by simp) (by simp;omega) ?_;intro y0 x0 hown hgrow hnil
     have HM0:=zH (HK0.out.app hown hgrow);clear hown hgrow hnil hrow hsz)
   have d1:=(HM0.out.bl.cell (p:=⟨g,off+1,none⟩) (World.block_lt_of_cell? _ _ D1.out)).trans D1.out;have d2:=(HM0.out.bl.cell (p:=⟨g,off+2,none⟩) (World.block_lt_of_cell? _ _ D2.out)).trans D2.out;have d3:=(HM0.out.bl.cell (p:=⟨g,off+3,none⟩) (World.block_lt_of_cell? _ _ D3.out)).trans D3.out;rw[rounds_succ];go_wp2_with fail;go_at_call 31;rcases hn1:aC b with _|_
   ·refine(ju b l1 hn1 (H0.out.keep HM0.out.bl)).mono ?_
    rintro e wn ⟨rfl,hbn⟩;have HQ:=zH (HM0.out.keep hbn);clear hbn;go_wp2_with fail;go_ret2;exact cf (d:=⟨r,z⟩) (H0.out.keep HQ.out.bl) (ae HAL.out HQ.out.bl) dC (by simp[j4,hn0,hn1])
   refine(gj b l1 hn1 (H0.out.keep HM0.out.bl)).mono ?_;rintro e v1 ⟨rfl,hbn⟩;dsimp only;have HK1:=zH (HM0.out.keep hbn);clear hbn;have hrow:=HK1.out.own;have hsz:=HK1.out.bl.size
   go_wp2_with
    (at_builtin;refine wpList_append_own _ rfl _ _ 88 rfl w0.heap.size 3 i0 (.int .i64 0) 1 8 underlying88 hii hz0 hz1 hz2 rfl dC _ _ _ rfl (hrow.alloc _) ⟨v1.heap.size,0,none⟩ 1 1 [.int .i64 (ab b)] rfl rfl (cell_one_new _ _ _) (fun x hx=>by simp at hx;subst hx;rfl) (by unfold maxLen;simp) (by simp) (by simp;omega) ?_;intro y1 x1 hown hgrow hnil
     have HM1:=zH (HK1.out.app hown hgrow);clear hown hgrow hnil hrow hsz)
   have d2:=(HM1.out.bl.cell (p:=⟨g,off+2,none⟩) (World.block_lt_of_cell? _ _ D2.out)).trans D2.out;have d3:=(HM1.out.bl.cell (p:=⟨g,off+3,none⟩) (World.block_lt_of_cell? _ _ D3.out)).trans D3.out;rw[rounds_succ];go_wp2_with fail;go_at_call 31;rcases hn2:aC c_ with _|_
   ·refine(ju c_ l2 hn2 (H0.out.keep HM1.out.bl)).mono ?_
    rintro e wn ⟨rfl,hbn⟩;have HQ:=zH (HM1.out.keep hbn);clear hbn;go_wp2_with fail;go_ret2;exact cf (d:=⟨r,z⟩) (H0.out.keep HQ.out.bl) (ae HAL.out HQ.out.bl) dC (by simp[j4,hn0,hn1,hn2])
   refine(gj c_ l2 hn2 (H0.out.keep HM1.out.bl)).mono ?_;rintro e v2 ⟨rfl,hbn⟩;dsimp only;have HK2:=zH (HM1.out.keep hbn);clear hbn;have hrow:=HK2.out.own;have hsz:=HK2.out.bl.size
   go_wp2_with
    (at_builtin;refine wpList_append_own _ rfl _ _ 88 rfl w0.heap.size 3 i0 (.int .i64 0) 1 8 underlying88 hii hz0 hz1 hz2 rfl dC _ _ _ rfl (hrow.alloc _) ⟨v2.heap.size,0,none⟩ 1 1 [.int .i64 (ab c_)] rfl rfl (cell_one_new _ _ _) (fun x hx=>by simp at hx;subst hx;rfl) (by unfold maxLen;simp) (by simp) (by simp;omega) ?_;intro y2 x2 hown hgrow hnil
     have HM2:=zH (HK2.out.app hown hgrow);clear hown hgrow hnil hrow hsz)
   have d3:=(HM2.out.bl.cell (p:=⟨g,off+3,none⟩) (World.block_lt_of_cell? _ _ D3.out)).trans D3.out;rw[rounds_succ];go_wp2_with fail;go_at_call 31;rcases hn3:aC e_ with _|_
   ·refine(ju e_ l3 hn3 (H0.out.keep HM2.out.bl)).mono ?_
    rintro e wn ⟨rfl,hbn⟩;have HQ:=zH (HM2.out.keep hbn);clear hbn;go_wp2_with fail;go_ret2;exact cf (d:=⟨r,z⟩) (H0.out.keep HQ.out.bl) (ae HAL.out HQ.out.bl) dC (by simp[j4,hn0,hn1,hn2,hn3])
   refine(gj e_ l3 hn3 (H0.out.keep HM2.out.bl)).mono ?_;rintro e v3 ⟨rfl,hbn⟩;dsimp only;have HK3:=zH (HM2.out.keep hbn);clear hbn;have hrow:=HK3.out.own;have hsz:=HK3.out.bl.size
   go_wp2_with
    (at_builtin;refine wpList_append_own _ rfl _ _ 88 rfl w0.heap.size 3 i0 (.int .i64 0) 1 8 underlying88 hii hz0 hz1 hz2 rfl dC _ _ _ rfl (hrow.alloc _) ⟨v3.heap.size,0,none⟩ 1 1 [.int .i64 (ab e_)] rfl rfl (cell_one_new _ _ _) (fun x hx=>by simp at hx;subst hx;rfl) (by unfold maxLen;simp) (by simp) (by simp;omega) ?_;intro y3 x3 hown hgrow hnil
     have HM3:=zH (HK3.out.app hown hgrow);clear hown hgrow hnil hrow hsz)
   obtain⟨ng,nc,rfl,hng,hnc⟩:=HM3.out.cells (by simp);have n0:=hnc 0 (ab a) rfl;have n1:=hnc 1 (ab b) rfl;have n2:=hnc 2 (ab c_) rfl;have n3:=hnc 3 (ab e_) rfl;clear hnc;have d0:=(HM3.out.bl.cell (p:=⟨g,off,none⟩) (World.block_lt_of_cell? _ _ D0.out)).trans D0.out;have d1:=(HM3.out.bl.cell (p:=⟨g,off+1,none⟩) (World.block_lt_of_cell? _ _ D1.out)).trans D1.out;have d2:=(HM3.out.bl.cell (p:=⟨g,off+2,none⟩) (World.block_lt_of_cell? _ _ D2.out)).trans D2.out;have d3:=(HM3.out.bl.cell (p:=⟨g,off+3,none⟩) (World.block_lt_of_cell? _ _ D3.out)).trans D3.out;have HH:=zH (H0.out.keep HM3.out.bl);have HB:=zH (ae HAL.out HM3.out.bl);have HBX:=zH (HBX.out.below' HM3.out.bl);have HWB:=zH (HWB.out.below' HM3.out.bl);have hbx:=HBX.out.cell 0;have hh:=HH.out.at_.cell 0;obtain⟨s0,s1,s2,s3,s4,slt⟩:=HH.out.rv.five;rw[rounds_succ];have HHd:=zH HH.out.drew;have HBd:=zH (au HB.out);have HD:(x3:World).drew.cell? ⟨ng,0,none⟩=some (.int .i64 (ab a))∧(x3:World).drew.cell? ⟨ng,1,none⟩=some (.int .i64 (ab b))∧(x3:World).drew.cell? ⟨ng,2,none⟩=some (.int .i64 (ab c_))∧(x3:World).drew.cell? ⟨ng,3,none⟩=some (.int .i64 (ab e_)):=⟨n0,n1,n2,n3⟩;have HHD:=zH HD;obtain⟨e0,e1,e2,e3⟩:=HHD.out;have hal:=(Below.refl x3.heap.size x3).alloc (Nat.le_refl _) (.cells #[.int .i64 0,.int .i64 0,.int .i64 0,.int .i64 0] 30);have f0:(x3.alloc (.cells #[.int .i64 0,.int .i64 0,.int .i64 0,.int .i64 0] 30)).cell? ⟨ng,0,none⟩=some (.int .i64 (ab a)):=aB n0 hal;have f1:(x3.alloc (.cells #[.int .i64 0,.int .i64 0,.int .i64 0,.int .i64 0] 30)).cell? ⟨ng,1,none⟩=some (.int .i64 (ab b)):=aB n1 hal;have f2:(x3.alloc (.cells #[.int .i64 0,.int .i64 0,.int .i64 0,.int .i64 0] 30)).cell? ⟨ng,2,none⟩=some (.int .i64 (ab c_)):=aB n2 hal;have f3:(x3.alloc (.cells #[.int .i64 0,.int .i64 0,.int .i64 0,.int .i64 0] 30)).cell? ⟨ng,3,none⟩=some (.int .i64 (ab e_)):=aB n3 hal;have k0:(x3.alloc (.cells #[.int .i64 0,.int .i64 0,.int .i64 0,.int .i64 0] 30)).drew.cell? ⟨ng,0,none⟩=some (.int .i64 (ab a)):=f0;have k1:(x3.alloc (.cells #[.int .i64 0,.int .i64 0,.int .i64 0,.int .i64 0] 30)).drew.cell? ⟨ng,1,none⟩=some (.int .i64 (ab b)):=f1;have k2:(x3.alloc (.cells #[.int .i64 0,.int .i64 0,.int .i64 0,.int .i64 0] 30)).drew.cell? ⟨ng,2,none⟩=some (.int .i64 (ab c_)):=f2;have k3:(x3.alloc (.cells #[.int .i64 0,.int .i64 0,.int .i64 0,.int .i64 0] 30)).drew.cell? ⟨ng,3,none⟩=some (.int .i64 (ab e_)):=f3;have hnb:=aj.new x3 30 #[.int .i64 0,.int .i64 0,.int .i64 0,.int .i64 0];have hz0:=hnb.frozen 0;have hz1':=hnb.frozen 1;have hz2':=hnb.frozen 2;have hz3':=hnb.frozen 3;have w0_:=hnb.cell 0;have w1_:=hnb.cell 1;have w2_:=hnb.cell 2;have w3_:=hnb.cell 3;go_wp2_with fail
   go_region
   clear f0 f1 f2 f3 k0 k1 k2 k3 e0 e1 e2 e3 hnb hz0 hz1' hz2' hz3' w0_ w1_ w2_ w3_ hal HHD HD HHd HBd n0 n1 n2 n3;have hal:=au ((Below.refl x3.heap.size x3).alloc (Nat.le_refl _) (.cells #[.int .i64 (ab a),.int .i64 (ab b),.int .i64 (ab c_),.int .i64 (ab e_)] 30));have H4:=zH (HH.out.keep hal);have HB4:=zH (ae HB.out hal);have HK4:=zH ((aj.new x3 30 #[.int .i64 (ab a),.int .i64 (ab b),.int .i64 (ab c_),.int .i64 (ab e_)]).drew);clear hal hh s0 s1 s2 s3 s4 slt hbx d0 d1 d2 d3;generalize (x3.alloc (.cells #[.int .i64 (ab a),.int .i64 (ab b),.int .i64 (ab c_),.int .i64 (ab e_)] 30)).drew=x4 at*;generalize x3.heap.size=nb at*;have hn:(aC a&&aC b&&aC c_&&aC e_)=true:=by rw[hn0,hn1,hn2,hn3];rfl
   obtain⟨y0,y1,y2,y3⟩:=aN HK4.out;have hh:=H4.out.at_.cell 0;have hhz:=H4.out.at_.frozen 0;rcases hru:sP ⟨ab a,ab b,ab c_,ab e_⟩with _|_
   ·have hy:j4 ⟨r,z⟩ [a,b,c_,e_]=bad ⟨r,z⟩ 2:=by
     show(if _ then _ else _)=_
     rw[if_pos hn];exact if_neg (by rw[hru];decide)
    go_wp2_with fail;go_at_call 33;refine(uC ⟨ab a,ab b,ab c_,ab e_⟩ x4).mono ?_;rintro e w5 ⟨rfl,hb5⟩;rw[hru];have HT:=zH (cf (d:=⟨r,z⟩) (w:=w) (t:=⟨#[]⟩) (H4.out.keep hb5) (ae HB4.out hb5) (show(2:Int)≠0 by decide) hy);clear hb5 hy;go_wp2_with fail;go_ret2;exact HT.out
   ·have hy:j4 ⟨r,z⟩ [a,b,c_,e_]=(⟨⟨ab a,ab b,ab c_,ab e_⟩,nu⟩,ah jc,0):=by
     show(if _ then _ else _)=_
     rw[if_pos hn];exact if_pos hru
    go_wp2_with fail;go_at_call 33;refine(uC ⟨ab a,ab b,ab c_,ab e_⟩ x4).mono ?_;rintro e w5 ⟨rfl,hb5⟩;rw[hru];have H5:=zH (H4.out.keep hb5);have HB5:=zH (ae HB4.out hb5);have hh5:=H5.out.at_.cell 0;have HK5:=zH (HK4.out.below' hb5);clear hb5 hh hhz y0 y1 y2 y3;go_wp2_with fail;refine aR (fun w'=>Below w5.heap.size w5 w') [7] kR ?_;have HSD:Below w5.heap.size w5 w5.drew:=au (Below.refl _ _);refine aa 16 (i:=0) (v:= ?v0) rfl kR kR kR kR kR (fun _ _ _ h=>h) (by rfl) ?hy0 HSD ?rest0
    case hy0=>(intro u hSu;obtain⟨y0,y1,y2,y3⟩:=aN (HK5.out.below' hSu);go_simp;(try with_reducible rfl))
    simp only[Act.put];refine aa 16 (i:=2) (v:= ?v2) rfl kR kR kR kR kR (fun _ _ _ h=>h) (by rfl) ?hy2 HSD ?rest2
    case hy2=>(intro u hSu;obtain⟨y0,y1,y2,y3⟩:=aN (HK5.out.below' hSu);go_simp;(try with_reducible rfl))
    simp only[Act.put];refine ai (i:=1) kR rfl ?_;intro K1 hK1;go_simp;go_at_call 14;refine(uo _).mono ?_;rintro e w6 ⟨sb,rfl,hra,hsb,hb6⟩;dsimp only;have h6:Below w5.heap.size w5 w6:=ae HSD hb6;refine hK1.out _ _ (fun _=>h6) ?_
    try simp only[Act.put]
    refine ai (i:=3) kR rfl ?_;intro K3 hK3;go_simp;refine hK3.out _ _ (fun _=>h6) ?_
    try simp only[Act.put]
    refine ai (i:=4) kR rfl ?_;intro K4 hK4;go_simp;have HN:=zH (Ej H5.out h6 hra (by have:=HSD.size;omega) ⟨ab a,ab b,ab c_,ab e_⟩);unfold oP at HN;dsimp only at HN;have h7:=h6.alloc h6.size (.cells #[.pointer (some ⟨sb,0,none⟩),.int .i64 (ab a),.int .i64 (ab b),.int .i64 (ab c_),.int .i64 (ab e_)] 54);refine hK4.out _ _ (fun _=>h7) ?_
    try simp only[Act.put]
    have H7:=zH (H5.out.keep h7);have z7:=H7.out.at_.frozen 0;have c7:=H7.out.at_.cell 0;have l7:=H7.out.at_.lt;generalize w6.alloc (.cells #[.pointer (some ⟨sb,0,none⟩),.int .i64 (ab a),.int .i64 (ab b),.int .i64 (ab c_),.int .i64 (ab e_)] 54)=w7 at*;refine ai (i:=5) kR rfl ?_;intro K5 hK5;go_simp;refine hK5.out _ _ (fun _=>h7) ?_
    try simp only[Act.put]
    refine ai (i:=6) kR rfl ?_;intro K6 hK6;go_simp;refine hK6.out _ _ (fun _=>h7) ?_
    try simp only[Act.put]
    refine ai (i:=7) kR rfl ?_;intro K7 hK7;go_simp;refine hK7.out _ _ (fun h=>by cases h) ?_
    try simp only[Act.put]
    refine aX kR ?_ _;go_wp2_with fail;go_ret2
    try rw[hy]
    exact⟨⟨_,rfl,fun _=>rfl⟩,⟨_,_,_,HN.out.1⟩,(cR.of_below HB5.out).trans HN.out.2⟩
  ·exact absurd hL (by simp)
 ·refine(cF h jc dC _ L.length (some ⟨g,off,none⟩) c rfl (fun F hF=>by cases (show some _=some F from hF);simpa using fun e=>hL e.symm)).mono ?_
  rintro e w' ⟨rfl,hb⟩;refine cf (d:=⟨r,z⟩) (h.keep hb) hb dC ?_;rcases L with _|⟨a,_|⟨b,_|⟨c_,_|⟨e_,_|⟨_,L⟩⟩⟩⟩⟩
  ·rfl
  ·rfl
  ·rfl
  ·rfl
  ·exact absurd rfl hL
  ·rfl
end
section
variable {W w:World} {mb hb qb rb:Nat} {r:Ru} {z:SS} {v:Value}
theorem wv (h:iL W mb hb qb rb r z v w) (hz:RZ r z) (hwr:cP z.writes) (g off c:Nat) (L:List (List UInt8)) (hw:iF w g off L) (hl: ∀ x∈L,x.length≤5000):
  Calls prog 15 #[.pointer (some ⟨hb,0,none⟩),.string ⟨#[116,111,107,101,110]⟩,.slice (some ⟨g,off,none⟩) L.length c] w (bw W w mb hb (dT ⟨r,z⟩ L)):=by
 by_cases hL:L.length=4
 ·rcases L with _|⟨a,_|⟨b,_|⟨c_,_|⟨e_,_|⟨_,L⟩⟩⟩⟩⟩
  ·exact absurd hL (by simp)
  ·exact absurd hL (by simp)
  ·exact absurd hL (by simp)
  ·exact absurd hL (by simp)
  ·clear hL
   have d0:w.cell? ⟨g,off,none⟩=some (.string (ah a)):=hw.2 0 a rfl;have l0:=hl a (by simp);have d1:w.cell? ⟨g,off+1,none⟩=some (.string (ah b)):=hw.2 1 b rfl;have l1:=hl b (by simp);have d2:w.cell? ⟨g,off+2,none⟩=some (.string (ah c_)):=hw.2 2 c_ rfl;have l2:=hl c_ (by simp);have d3:w.cell? ⟨g,off+3,none⟩=some (.string (ah e_)):=hw.2 3 e_ rfl;have l3:=hl e_ (by simp);obtain⟨⟩:=ey hw hl hwr;obtain⟨wcs,hwb⟩:=hw.1
   show Calls prog 15 #[.pointer (some ⟨hb,0,none⟩),.string ⟨#[116,111,107,101,110]⟩,.slice (some ⟨g,off,none⟩) 4 c] w (bw W w mb hb (dT ⟨r,z⟩ [a,b,c_,e_]))
   have HWR:=zH hwr;clear hw hl hwr;have hal:=(Below.refl w.heap.size w).alloc (Nat.le_refl _) (.cells #[.slice (some ⟨g,off,none⟩) 4 c] 34);have H0:=zH (h.keep hal);have d0:=(hal.cell (p:=⟨g,off,none⟩) (World.block_lt_of_cell? _ _ d0)).trans d0;have D0:=zH d0;have d1:=(hal.cell (p:=⟨g,off+1,none⟩) (World.block_lt_of_cell? _ _ d1)).trans d1;have D1:=zH d1;have d2:=(hal.cell (p:=⟨g,off+2,none⟩) (World.block_lt_of_cell? _ _ d2)).trans d2;have D2:=zH d2;have d3:=(hal.cell (p:=⟨g,off+3,none⟩) (World.block_lt_of_cell? _ _ d3)).trans d3;have D3:=zH d3;have hfc:=H0.out.forms;have hlk:(Instr.lookup 87 (.map (some mb)) (.string ⟨#[116,111,107,101,110]⟩) true).run prog _=.ok (.tuple #[.string ⟨#[119,110,110,110]⟩,.bool true]) _:=H0.out.look fx dC;obtain⟨i0,hii,hz0,hz1,hz2⟩:=info_parts kq;have HBX:=zH (aj.new w 34 #[.slice (some ⟨g,off,none⟩) 4 c]);have HWB:=zH (hwb.below' hal);clear hwb;have HAL:=zH hal;have HZ:=zH hz;clear h hal hz;have hmf: ∀ (fn:Fn) (first cap:Array Value) (w:World),(Instr.makeFunc fn first cap).run prog w=.ok (.func fn first cap) w:=fun _ _ _ _=>rfl
   go_enter Tryz.func15,Tryz.ntmps15;go_wp2_with fail;refine wp_loop_rounds 5 ?_;generalize w.alloc (.cells #[.slice (some ⟨g,off,none⟩) 4 c] 34)=w0 at*;have HNS:=zH (NS.nil w0);clear hfc hlk;rw[rounds_succ];go_wp2_with fail;rw[rounds_succ];go_wp2_with fail;go_at_call 31;rcases hn1:aC b with _|_
   ·refine(ju b l1 hn1 (H0.out.keep HNS.out.bl)).mono ?_
    rintro e wn ⟨rfl,hbn⟩;have HQ:=zH (HNS.out.keep hbn);clear hbn;go_wp2_with fail;go_ret2;exact cf (d:=⟨r,z⟩) (H0.out.keep HQ.out.bl) (ae HAL.out HQ.out.bl) dC (by simp[dT,hn1])
   refine(gj b l1 hn1 (H0.out.keep HNS.out.bl)).mono ?_;rintro e v1 ⟨rfl,hbn⟩;dsimp only;have HK1:=zH (HNS.out.keep hbn);clear hbn;have hrow:=HK1.out.own;have hsz:=HK1.out.bl.size
   go_wp2_with
    (at_builtin;refine wpList_append_own _ rfl _ _ 88 rfl w0.heap.size 3 i0 (.int .i64 0) 1 8 underlying88 hii hz0 hz1 hz2 rfl dC _ _ _ rfl (hrow.alloc _) ⟨v1.heap.size,0,none⟩ 1 1 [.int .i64 (ab b)] rfl rfl (cell_one_new _ _ _) (fun x hx=>by simp at hx;subst hx;rfl) (by unfold maxLen;simp) (by simp) (by simp;omega) ?_;intro y1 x1 hown hgrow hnil
     have HM1:=zH (HK1.out.app hown hgrow);clear hown hgrow hnil hrow hsz)
   have d2:=(HM1.out.bl.cell (p:=⟨g,off+2,none⟩) (World.block_lt_of_cell? _ _ D2.out)).trans D2.out;have d3:=(HM1.out.bl.cell (p:=⟨g,off+3,none⟩) (World.block_lt_of_cell? _ _ D3.out)).trans D3.out;rw[rounds_succ];go_wp2_with fail;go_at_call 31;rcases hn2:aC c_ with _|_
   ·refine(ju c_ l2 hn2 (H0.out.keep HM1.out.bl)).mono ?_
    rintro e wn ⟨rfl,hbn⟩;have HQ:=zH (HM1.out.keep hbn);clear hbn;go_wp2_with fail;go_ret2;exact cf (d:=⟨r,z⟩) (H0.out.keep HQ.out.bl) (ae HAL.out HQ.out.bl) dC (by simp[dT,hn1,hn2])
   refine(gj c_ l2 hn2 (H0.out.keep HM1.out.bl)).mono ?_;rintro e v2 ⟨rfl,hbn⟩;dsimp only;have HK2:=zH (HM1.out.keep hbn);clear hbn;have hrow:=HK2.out.own;have hsz:=HK2.out.bl.size
   go_wp2_with
    (at_builtin;refine wpList_append_own _ rfl _ _ 88 rfl w0.heap.size 3 i0 (.int .i64 0) 1 8 underlying88 hii hz0 hz1 hz2 rfl dC _ _ _ rfl (hrow.alloc _) ⟨v2.heap.size,0,none⟩ 1 1 [.int .i64 (ab c_)] rfl rfl (cell_one_new _ _ _) (fun x hx=>by simp at hx;subst hx;rfl) (by unfold maxLen;simp) (by simp) (by simp;omega) ?_;intro y2 x2 hown hgrow hnil
     have HM2:=zH (HK2.out.app hown hgrow);clear hown hgrow hnil hrow hsz)
   have d3:=(HM2.out.bl.cell (p:=⟨g,off+3,none⟩) (World.block_lt_of_cell? _ _ D3.out)).trans D3.out;rw[rounds_succ];go_wp2_with fail;go_at_call 31;rcases hn3:aC e_ with _|_
   ·refine(ju e_ l3 hn3 (H0.out.keep HM2.out.bl)).mono ?_
    rintro e wn ⟨rfl,hbn⟩;have HQ:=zH (HM2.out.keep hbn);clear hbn;go_wp2_with fail;go_ret2;exact cf (d:=⟨r,z⟩) (H0.out.keep HQ.out.bl) (ae HAL.out HQ.out.bl) dC (by simp[dT,hn1,hn2,hn3])
   refine(gj e_ l3 hn3 (H0.out.keep HM2.out.bl)).mono ?_;rintro e v3 ⟨rfl,hbn⟩;dsimp only;have HK3:=zH (HM2.out.keep hbn);clear hbn;have hrow:=HK3.out.own;have hsz:=HK3.out.bl.size
   go_wp2_with
    (at_builtin;refine wpList_append_own _ rfl _ _ 88 rfl w0.heap.size 3 i0 (.int .i64 0) 1 8 underlying88 hii hz0 hz1 hz2 rfl dC _ _ _ rfl (hrow.alloc _) ⟨v3.heap.size,0,none⟩ 1 1 [.int .i64 (ab e_)] rfl rfl (cell_one_new _ _ _) (fun x hx=>by simp at hx;subst hx;rfl) (by unfold maxLen;simp) (by simp) (by simp;omega) ?_;intro y3 x3 hown hgrow hnil
     have HM3:=zH (HK3.out.app hown hgrow);clear hown hgrow hnil hrow hsz)
   obtain⟨ng,nc,rfl,hng,hnc⟩:=HM3.out.cells (by simp);have n0:=hnc 0 (ab b) rfl;have n1:=hnc 1 (ab c_) rfl;have n2:=hnc 2 (ab e_) rfl;clear hnc;have d0:=(HM3.out.bl.cell (p:=⟨g,off,none⟩) (World.block_lt_of_cell? _ _ D0.out)).trans D0.out;have d1:=(HM3.out.bl.cell (p:=⟨g,off+1,none⟩) (World.block_lt_of_cell? _ _ D1.out)).trans D1.out;have d2:=(HM3.out.bl.cell (p:=⟨g,off+2,none⟩) (World.block_lt_of_cell? _ _ D2.out)).trans D2.out;have d3:=(HM3.out.bl.cell (p:=⟨g,off+3,none⟩) (World.block_lt_of_cell? _ _ D3.out)).trans D3.out;have HH:=zH (H0.out.keep HM3.out.bl);have HB:=zH (ae HAL.out HM3.out.bl);have HBX:=zH (HBX.out.below' HM3.out.bl);have HWB:=zH (HWB.out.below' HM3.out.bl);have hbx:=HBX.out.cell 0;have hh:=HH.out.at_.cell 0;obtain⟨s0,s1,s2,s3,s4,slt⟩:=HH.out.rv.five;rw[rounds_succ];have hmm:= @run_makeMap prog;have m0:oz prog 9 3 (x3.alloc (.map #[] 0)) x3.heap.size 0 (fun _=>0):=oz.made x3;obtain⟨w1,e1,m1,g1⟩:=m0.put (T:=106) underlying106 underlying9 underlying3 (by unfold maxLen;omega) [114] dC 1 dC;obtain⟨w2,e2,m2,g2⟩:=m1.put (T:=106) underlying106 underlying9 underlying3 (by unfold maxLen;omega) [97] dC 2 dC;have e3:=m2.look (T:=106) underlying106 underlying9 underlying3 (Tryz.zeroValue3 _) a (by unfold maxLen;omega)
   have hkn:(if a=[97]then(2:Int)else if a=[114]then 1 else 0)=fL a:=by
    unfold fL
    by_cases h1:a=[114]
    ·subst h1;rfl
    ·by_cases h2:a=[97]
     ·subst h2;rfl
     ·rw[if_neg h2,if_neg h1,if_neg h1,if_neg h2]
   rw[hkn]at e3;have b1:=((Below.refl x3.heap.size x3).alloc (Nat.le_refl _) (.map #[] 0)).grown g1 (by simp) (fun i hi=>by cases hi;exact Nat.le_refl _);have b2:=b1.grown g2 b1.size (fun i hi=>by cases hi;exact Nat.le_refl _);have e1':(Instr.mapUpdate 106 (.map (some x3.heap.size)) (.string ⟨#[114]⟩) (.int .i64 1)).run prog (x3.alloc (.map #[] 0))=.ok () w1:=e1;have e2':(Instr.mapUpdate 106 (.map (some x3.heap.size)) (.string ⟨#[97]⟩) (.int .i64 2)).run prog w1=.ok () w2:=e2;have hcs:a.length≤5000:=l0;have d0a:(x3.alloc (.map #[] 0)).cell? ⟨g,off,none⟩=some (.string (ah a)):=aB d0 ((Below.refl x3.heap.size x3).alloc (Nat.le_refl _) (.map #[] 0));have bxa:(x3.alloc (.map #[] 0)).cell? ⟨w.heap.size,0,none⟩=some (.slice (some ⟨g,off,none⟩) 4 c):=aB hbx ((Below.refl x3.heap.size x3).alloc (Nat.le_refl _) (.map #[] 0));have d0b:=aB d0 b1;have d0c:=aB d0 b2;have bxb:=aB hbx b1;have bxc:=aB hbx b2;have H2:=zH (HH.out.keep b2);have HB2:=zH (ae HB.out b2);have p0:=aB n0 b2;have p1:=aB n1 b2;have p2:=aB n2 b2;obtain⟨t0,t1,t2,t3,t4,tlt⟩:=H2.out.rv.five;clear e1 e2 m0 m1 m2 g1 g2 b1 b2 s0 s1 s2 s3 s4 slt n0 n1 n2;have hn:(aC b&&aC c_&&aC e_)=true:=by rw[hn1,hn2,hn3];rfl
   have hD:dT ⟨r,z⟩ [a,b,c_,e_]=(if fL a≠0∧(aC b&&aC c_&&aC e_)=true then(if bN (fL a) (ab b) (ab c_) (ab e_)=true then(⟨r,z⟩,jT r.key (fL a) (ab b) (ab c_) (ab e_),0)else bad ⟨r,z⟩ 1)else bad ⟨r,z⟩ 3):=rfl;have HD_:=zH hD;clear hD hkn;have HH:=H2;have HB:=HB2;generalize fL a=kd at*
   by_cases hk0:kd=0
   ·subst hk0
    have hy:dT ⟨r,z⟩ [a,b,c_,e_]=bad ⟨r,z⟩ 3:=by rw[HD_.out,if_neg (fun h=>h.1 rfl)]
    have HT:=zH (cf (d:=⟨r,z⟩) (w:=w) (t:=⟨#[]⟩) H2.out HB2.out (show(3:Int)≠0 by decide) hy);clear hy;go_wp2_with fail;go_ret2;exact HT.out
   ·have hkd: ¬ kd=0:=hk0
    have hkb:(kd == 0)=false:=beq_eq_false_iff_ne.2 hk0;have HHd:=zH HH.out.drew;have HBd:=zH (au HB.out);have HD:(w2:World).drew.cell? ⟨qb,1,none⟩=some (.int .i64 r.key)∧(w2:World).drew.cell? ⟨ng,0,none⟩=some (.int .i64 (ab b))∧(w2:World).drew.cell? ⟨ng,1,none⟩=some (.int .i64 (ab c_))∧(w2:World).drew.cell? ⟨ng,2,none⟩=some (.int .i64 (ab e_)):=⟨t1,p0,p1,p2⟩;have HHD:=zH HD;rcases hri:bN kd (ab b) (ab c_) (ab e_)with _|_
    ·have hy:dT ⟨r,z⟩ [a,b,c_,e_]=bad ⟨r,z⟩ 1:=by rw[HD_.out,if_pos ⟨hk0,hn⟩,if_neg (by rw[hri];decide)]
     have HW:=zH (fc r.key kd (ab b) (ab c_) (ab e_) w2.drew hri);unfold v4 at HW;go_wp2_with fail
     go_region_held3 (fun w'=>w'.cell? ⟨qb,1,none⟩=some (.int .i64 r.key)∧w'.cell? ⟨ng,0,none⟩=some (.int .i64 (ab b))∧w'.cell? ⟨ng,1,none⟩=some (.int .i64 (ab c_))∧w'.cell? ⟨ng,2,none⟩=some (.int .i64 (ab e_)))
      (first
       |with_reducible assumption
       |with_reducible exact HD)
      (first
       |(go_at_call 49;(with_reducible refine HW.out.mono ?_);rintro x' w8 ⟨rfl,hb8⟩
         have hs8:w8.cell? ⟨qb,1,none⟩=some (.int .i64 r.key)∧w8.cell? ⟨ng,0,none⟩=some (.int .i64 (ab b))∧w8.cell? ⟨ng,1,none⟩=some (.int .i64 (ab c_))∧w8.cell? ⟨ng,2,none⟩=some (.int .i64 (ab e_)):=⟨aB HHD.out.1 hb8,aB HHD.out.2.1 hb8,aB HHD.out.2.2.1 hb8,aB HHD.out.2.2.2 hb8⟩))
     have HT:=zH (cf (d:=⟨r,z⟩) (w:=w) (t:=⟨#[]⟩) (HHd.out.keep hb8) (ae HBd.out hb8) (show(1:Int)≠0 by decide) hy);clear hb8 hs8 hy;go_wp2_with fail;go_ret2;exact HT.out
    ·have hy:dT ⟨r,z⟩ [a,b,c_,e_]=(⟨r,z⟩,jT r.key kd (ab b) (ab c_) (ab e_),0):=by rw[HD_.out,if_pos ⟨hk0,hn⟩,if_pos hri]
     have HW:=zH (cu r.key kd (ab b) (ab c_) (ab e_) w2.drew HHd.out.rv.env.tens HHd.out.rv.tab hri (nY.1 hri).1);unfold v4 at HW;generalize jT r.key kd (ab b) (ab c_) (ab e_)=y at*;go_wp2_with fail
     go_region_held3 (fun w'=>w'.cell? ⟨qb,1,none⟩=some (.int .i64 r.key)∧w'.cell? ⟨ng,0,none⟩=some (.int .i64 (ab b))∧w'.cell? ⟨ng,1,none⟩=some (.int .i64 (ab c_))∧w'.cell? ⟨ng,2,none⟩=some (.int .i64 (ab e_)))
      (first
       |with_reducible assumption
       |with_reducible exact HD)
      (first
       |(go_at_call 49;(with_reducible refine HW.out.mono ?_);rintro x' w8 ⟨rfl,hb8⟩
         have hs8:w8.cell? ⟨qb,1,none⟩=some (.int .i64 r.key)∧w8.cell? ⟨ng,0,none⟩=some (.int .i64 (ab b))∧w8.cell? ⟨ng,1,none⟩=some (.int .i64 (ab c_))∧w8.cell? ⟨ng,2,none⟩=some (.int .i64 (ab e_)):=⟨aB HHD.out.1 hb8,aB HHD.out.2.1 hb8,aB HHD.out.2.2.1 hb8,aB HHD.out.2.2.2 hb8⟩))
     have HT:=zH (kB (w:=w) HHd.out HBd.out hb8);clear hb8 hs8;go_wp2_with fail;go_ret2
     try rw[hy]
     exact HT.out _ _ 0 (fun _=>rfl)
  ·exact absurd hL (by simp)
 ·refine(cF h fx dC _ L.length (some ⟨g,off,none⟩) c rfl (fun F hF=>by cases (show some _=some F from hF);simpa using fun e=>hL e.symm)).mono ?_
  rintro e w' ⟨rfl,hb⟩;refine cf (d:=⟨r,z⟩) (h.keep hb) hb dC ?_;rcases L with _|⟨a,_|⟨b,_|⟨c_,_|⟨e_,_|⟨_,L⟩⟩⟩⟩⟩
  ·rfl
  ·rfl
  ·rfl
  ·rfl
  ·exact absurd rfl hL
  ·rfl
end
end Go.Proofs.YtepjcdjpikbbjaaGreatDoor
