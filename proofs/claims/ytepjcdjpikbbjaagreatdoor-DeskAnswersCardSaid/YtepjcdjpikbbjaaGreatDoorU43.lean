/-
  The desk's commands: sweep, writes, help, least.
-/
import Derived.Test.YtepjcdjpikbbjaaGreatDoorU00
import Derived.Test.YtepjcdjpikbbjaaGreatDoorU33
import Derived.Test.YtepjcdjpikbbjaaGreatDoorU34
import Derived.Test.YtepjcdjpikbbjaaGreatDoorU22
import Derived.Test.YtepjcdjpikbbjaaGreatDoorU41
import Derived.Test.YtepjcdjpikbbjaaGreatDoorU42
set_option maxHeartbeats 4000000
set_option maxRecDepth 100000
namespace Go.Proofs.YtepjcdjpikbbjaaGreatDoor
open Go.Proofs.Tryz
open Go.RowKit Go.Sort
theorem EE {r:Ru} {z:SS} (h:iQ z.s):ba (ar 0 z (bW r z.s)).2.1=true:=by
 unfold bW;rcases hf:ku r z.s with _|f
 ·rfl
 ·have hm:f∈z.s.fams:=List.mem_of_find?_eq_some hf
  dsimp only[ar];split
  ·exact(bo (h.fams f hm)).1
  ·rfl
section
variable {W w:World} {xb vb sb db k:Nat} {r:Ru} {z:SS} {v:Value}
theorem yw (h:bP W xb vb sb db k r z v w) (hk:k<1000000) (g off c:Nat) (L:List (List UInt8)) (hw:eN w g off L) (hl: ∀ x∈L,x.length≤5000):
  Calls prog 74 #[.pointer (some ⟨xb,0,none⟩),.slice (some ⟨g,off,none⟩) L.length c] w (dh W w xb k (gr ⟨r,z⟩ L)):=by
 obtain⟨⟩:=gT hk hw hl
 by_cases hL:L.length=0
 ·obtain rfl:L=[]:=List.eq_nil_of_length_eq_zero hL
  clear hL hw hl;simp only[List.length_nil];have H:=zH h;have HC:=zH (CF h.sw hk);unfold iu at HC;have hD:gr ⟨r,z⟩ []=(⟨r,(ar 0 z (bW r z.s)).1⟩,aL (ar 0 z (bW r z.s)).2.1,(ar 0 z (bW r z.s)).2.2):=rfl;rw[hD];have HOK:=zH (EE (r:=r) h.sw.sx.fit);clear hD;generalize ar 0 z (bW r z.s)=Q at*;obtain⟨z9,got,code⟩:=Q;dsimp only at HC HOK ⊢;have HIT:=zH (fun w hT=>hU got HOK.out w hT);obtain⟨c0,c1,c2,c3,c4,c5,c6,hlt⟩:=h.seven;clear h hk
  by_cases hq:code=0
  ·subst hq
   rw[cH]at HC;go_enter Tryz.func74,Tryz.ntmps74;go_wp2_with fail;go_at_call 17;refine(aY _ 0 c w).mono ?_;rintro e w0 ⟨rfl,rfl⟩;go_wp2_with fail;go_at_call 134;refine HC.out.mono ?_;rintro x' w3 ⟨rfl,htw,v3,hs⟩;dsimp only;have h3:=H.out.two htw hs;have HD3:=zH h3.1;have HST:=zH h3.2;clear htw hs h3 HC c0 c1 c2 c3 c4 c5 c6 hlt;go_wp2_with fail;go_at_call 20;refine(bR _).mono ?_;rintro x' w4 ⟨rfl,rfl⟩;go_wp2_with fail;go_at_call 26;refine(HIT.out _ HD3.out.env.tens).mono ?_;rintro x' w6 ⟨rfl,hb6⟩;have HB6:=zH hb6;clear hb6;go_wp2_with fail;go_ret;exact⟨.inl ⟨rfl,rfl⟩,⟨vb,sb,db,_,HD3.out.keep HB6.out⟩,HST.out.trans (bt.of_below HB6.out)⟩
  ·rw[aP hq]at HC
   have HQ0:=zH hq;clear hq;go_enter Tryz.func74,Tryz.ntmps74;go_wp2_with fail;go_at_call 17;refine(aY _ 0 c w).mono ?_;rintro e w0 ⟨rfl,rfl⟩;go_wp2_with fail;go_at_call 134;refine HC.out.mono ?_;rintro x' w3 ⟨rfl,htw,v3,hs⟩;dsimp only;have h3:=H.out.two htw hs;have HD3:=zH h3.1;have HST:=zH h3.2;clear htw hs h3 HC c0 c1 c2 c3 c4 c5 c6 hlt;go_wp2_with fail;go_at_call 20;refine(cS code _ HD3.out.et).mono ?_;rintro x' w4 ⟨rfl,hb⟩;dsimp only;exact⟨rfl,.inr ⟨HQ0.out,rfl⟩,⟨vb,sb,db,_,(HD3.out.keep hb)⟩,HST.out.trans (bt.of_below hb)⟩
 ·have hbad:gr ⟨r,z⟩ L=bad ⟨r,z⟩ 3:=by
   unfold gr;split
   ·exact absurd rfl hL
   ·rfl
  rw[hbad];have HM:=zH (cO (some ⟨g,off,none⟩) L.length c 0 w h.et (by simpa using(show(L.length:Int)≠0 by omega)));have H:=zH h;clear h hw hl hL hbad hk;unfold cG at HM;go_enter Tryz.func74,Tryz.ntmps74;go_wp2_with fail;go_at_call 17;refine HM.out.mono ?_;rintro e w0 ⟨rfl,hb⟩;dsimp only;exact⟨rfl,H.out.thrown hb dC⟩
theorem xM (h:bP W xb vb sb db k r z v w) (hk:k<1000000) (g off c:Nat) (L:List (List UInt8)) (hw:eN w g off L) (hl: ∀ x∈L,x.length≤5000) (hok:cP z.writes):
  Calls prog 78 #[.pointer (some ⟨xb,0,none⟩),.slice (some ⟨g,off,none⟩) L.length c] w (dh W w xb k (eZ ⟨r,z⟩ L)):=by
 obtain⟨⟩:=gT hk hw hl
 by_cases hL:L.length=0
 ·obtain rfl:L=[]:=List.eq_nil_of_length_eq_zero hL
  clear hL hw hl;simp only[List.length_nil];have H:=zH h;have HC:=zH (Cb h.sw.sx);have hD:eZ ⟨r,z⟩ []=(⟨r,z⟩,aL z.writes,0):=rfl;rw[hD];have HOK:=zH hok;have HIT:=zH (fun w hT=>iw z.writes HOK.out.1 HOK.out.2 w hT);obtain⟨c0,c1,c2,c3,c4,c5,c6,hlt⟩:=h.seven;clear h hk hD;go_enter Tryz.func78,Tryz.ntmps78;go_wp2_with fail;go_at_call 17;refine(aY _ 0 c w).mono ?_;rintro e w0 ⟨rfl,rfl⟩;go_wp2_with fail;go_at_call 137;refine HC.out.mono ?_;rintro x' w3 ⟨rfl,rfl⟩;dsimp only;go_wp2_with fail;go_at_call 26;refine(HIT.out _ H.out.env.tens).mono ?_;rintro x' w6 ⟨rfl,hb6⟩;have HB6:=zH hb6;clear hb6;go_wp2_with fail;go_ret;exact H.out.told HB6.out _
 ·have hbad:eZ ⟨r,z⟩ L=bad ⟨r,z⟩ 3:=by
   unfold eZ;split
   ·exact absurd rfl hL
   ·rfl
  rw[hbad];have HM:=zH (cO (some ⟨g,off,none⟩) L.length c 0 w h.et (by simpa using(show(L.length:Int)≠0 by omega)));have H:=zH h;clear h hw hl hL hbad hk;unfold cG at HM;go_enter Tryz.func78,Tryz.ntmps78;go_wp2_with fail;go_at_call 17;refine HM.out.mono ?_;rintro e w0 ⟨rfl,hb⟩;dsimp only;exact⟨rfl,H.out.thrown hb dC⟩
theorem BL (h:bP W xb vb sb db k r z v w) (hk:k<1000000) (g off c:Nat) (L:List (List UInt8)) (hw:eN w g off L) (hl: ∀ x∈L,x.length≤5000):
  Calls prog 65 #[.pointer (some ⟨xb,0,none⟩),.slice (some ⟨g,off,none⟩) L.length c] w (dh W w xb k (jY ⟨r,z⟩ L)):=by
 obtain⟨⟩:=gT hk hw hl
 by_cases hL:L.length=0
 ·obtain rfl:L=[]:=List.eq_nil_of_length_eq_zero hL
  clear hL hw hl;simp only[List.length_nil];have H:=zH h;have hD:jY ⟨r,z⟩ []=(⟨r,z⟩,xf,0):=rfl;rw[hD];clear h hk hD;go_enter Tryz.func65,Tryz.ntmps65;go_wp2_with fail;go_at_call 17;refine(aY _ 0 c w).mono ?_;rintro e w0 ⟨rfl,rfl⟩;go_wp2_with fail;go_ret;exact H.out.told (Below.refl _ _) _
 ·have hbad:jY ⟨r,z⟩ L=bad ⟨r,z⟩ 3:=by
   unfold jY;split
   ·exact absurd rfl hL
   ·rfl
  rw[hbad];have HM:=zH (cO (some ⟨g,off,none⟩) L.length c 0 w h.et (by simpa using(show(L.length:Int)≠0 by omega)));have H:=zH h;clear h hw hl hL hbad hk;unfold cG at HM;go_enter Tryz.func65,Tryz.ntmps65;go_wp2_with fail;go_at_call 17;refine HM.out.mono ?_;rintro e w0 ⟨rfl,hb⟩;dsimp only;exact⟨rfl,H.out.thrown hb dC⟩
theorem yX (h:bP W xb vb sb db k r z v w) (hk:k<1000000) (g off c:Nat) (L:List (List UInt8)) (hw:eN w g off L) (hl: ∀ x∈L,x.length≤5000):
  Calls prog 67 #[.pointer (some ⟨xb,0,none⟩),.slice (some ⟨g,off,none⟩) L.length c] w (dh W w xb k (ij ⟨r,z⟩ L)):=by
 obtain⟨⟩:=gT hk hw hl
 by_cases hL:L.length=1
 ·rcases L with _|⟨a,_|⟨_,L⟩⟩
  ·exact absurd hL (by simp)
  ·clear hL
   have HWT:=zH hw;have d0:=hw.2 0 a rfl;have l0:=hl a (by simp);simp only[Nat.add_zero,List.length_cons,List.length_nil,Nat.zero_add]at*;clear hw hl;have H:=zH h;have HPL:=zH (fun w=>ni (ah a) w);have hsz:=gc (ah a) (n:=5000) (by rw[av];exact l0);have hD:ij ⟨r,z⟩ [a]=(⟨r,z⟩,dU (ah (aT (bG (ah a)).data.toList)),aw (bG (ah a)).data.toList):=rfl;rw[hD];clear hD;generalize bG (ah a)=pc at*;have HC:=zH (fun w (h:bP W xb vb sb db k r z v w)=>fo pc w hsz h.env.maxl);generalize aw pc.data.toList=code at*;generalize ah (aT pc.data.toList)=ls at*;have HW:=zH (fun w=>uw ls w);clear h hk hsz
   by_cases hq:code=0
   ·subst hq
    rw[cH]at HC;go_enter Tryz.func67,Tryz.ntmps67;go_wp2_with fail;go_at_call 17;refine(aY _ 1 c w).mono ?_;rintro e w0 ⟨rfl,rfl⟩;go_wp2_with fail;go_at_call 124;refine(HPL.out _).mono ?_;rintro x' w2 ⟨rfl,rfl⟩;dsimp only;go_wp2_with fail;go_at_call 126;refine(HC.out _ H.out).mono ?_;rintro x' w3 ⟨rfl,hb⟩;dsimp only;have HB3:=zH hb;clear hb HC HPL d0;go_wp2_with fail;go_at_call 20;refine(bR _).mono ?_;rintro x' w4 ⟨rfl,rfl⟩;go_wp2_with fail;go_at_call 127;refine(HW.out _).mono ?_;rintro x' w4 ⟨rfl,rfl⟩;go_wp2_with fail;go_ret;exact H.out.told HB3.out _
   ·rw[aP hq]at HC
    have HQ0:=zH hq;clear hq;go_enter Tryz.func67,Tryz.ntmps67;go_wp2_with fail;go_at_call 17;refine(aY _ 1 c w).mono ?_;rintro e w0 ⟨rfl,rfl⟩;go_wp2_with fail;go_at_call 124;refine(HPL.out _).mono ?_;rintro x' w2 ⟨rfl,rfl⟩;dsimp only;go_wp2_with fail;go_at_call 126;refine(HC.out _ H.out).mono ?_;rintro x' w3 ⟨rfl,hb⟩;dsimp only;have HB3:=zH hb;clear hb HC HPL d0;go_wp2_with fail;go_at_call 20;refine(cS code _ (H.out.keep HB3.out).et).mono ?_;rintro x' w4 ⟨rfl,hb⟩;dsimp only;exact⟨rfl,H.out.thrown (ae HB3.out hb) HQ0.out⟩
  ·exact absurd hL (by simp)
 ·have hbad:ij ⟨r,z⟩ L=bad ⟨r,z⟩ 3:=by
   unfold ij;split
   ·exact absurd rfl hL
   ·rfl
  rw[hbad];have HM:=zH (cO (some ⟨g,off,none⟩) L.length c 1 w h.et (by simpa using(show(L.length:Int)≠1 by omega)));have H:=zH h;clear h hw hl hL hbad hk;unfold cG at HM;go_enter Tryz.func67,Tryz.ntmps67;go_wp2_with fail;go_at_call 17;refine HM.out.mono ?_;rintro e w0 ⟨rfl,hb⟩;dsimp only;exact⟨rfl,H.out.thrown hb dC⟩
end
theorem SW.more {B vb sb db k:Nat} {r:Ru} {z:SS} {v:Value} {w:World} (h:SW B vb sb db k r z v w): ∀ n:Nat,SW B vb sb db (k+n) r z v w
 |0=>h
 |n+1=>(SW.more h n).later
theorem bP.more {W w:World} {xb vb sb db k:Nat} {r:Ru} {z:SS} {v:Value} (h:bP W xb vb sb db k r z v w) (n:Nat):bP W xb vb sb db (k+n) r z v w:=⟨h.at_,h.sw.more n,h.bx,h.below,h.err,h.eg⟩
theorem cU.done {W w w':World} {xb vb sb db k:Nat} {r:Ru} {z:SS} {v:Value} {a b c e:List UInt8} {x:Ending} (h:bP W xb vb sb db k r z v w) (hf:cU W w xb a b c e x w'):dh W w xb k (j4 ⟨r,z⟩ [a,b,c,e]) x w':=by
 have hn:j4 ⟨r,z⟩ [a,b,c,e]=if (aC a&&aC b&&aC c&&aC e)=true then(if sP ⟨ab a,ab b,ab c,ab e⟩=true then(⟨⟨ab a,ab b,ab c,ab e⟩,nu⟩,ah jc,0)else bad ⟨r,z⟩ 2)else bad ⟨r,z⟩ 3:=rfl
 rw[hn];rcases hf with⟨hc,rfl,⟨vb',sb',db',v',hd⟩,hst⟩|⟨hc,rfl,hb⟩
 ·unfold pX at hc
  split at hc
  ·rename_i h1
   split at hc
   ·rename_i h2
    rw[if_pos h1,if_pos h2];exact⟨.inl ⟨rfl,rfl⟩,⟨vb',sb',db',v',by have:=hd.more (k+1);rw[Nat.zero_add]at this;exact this⟩,hst⟩
   ·cases hc
  ·cases hc
 ·unfold pX at hc ⊢
  split at hc
  ·rename_i h1
   split at hc
   ·exact absurd rfl hc
   ·rename_i h2
    rw[if_pos h1,if_pos h1,if_neg h2,if_neg h2];exact h.thrown hb (c:=2) dC
  ·rename_i h1
   rw[if_neg h1,if_neg h1];exact h.thrown hb (c:=3) dC
section
variable {W w:World} {xb vb sb db k:Nat} {r:Ru} {z:SS} {v:Value}
theorem Ep (h:bP W xb vb sb db k r z v w) (hk:k<1000000) (g off c:Nat) (L:List (List UInt8)) (hw:eN w g off L) (hl: ∀ x∈L,x.length≤5000):
  Calls prog 7 #[.pointer (some ⟨xb,0,none⟩),.slice (some ⟨g,off,none⟩) L.length c] w (dh W w xb k (j4 ⟨r,z⟩ L)):=by
 obtain⟨⟩:=gT hk hw hl
 by_cases hL:L.length=4
 ·rcases L with _|⟨a,_|⟨b,_|⟨c_,_|⟨e_,_|⟨_,L⟩⟩⟩⟩⟩
  ·exact absurd hL (by simp)
  ·exact absurd hL (by simp)
  ·exact absurd hL (by simp)
  ·exact absurd hL (by simp)
  ·clear hL
   have HWT:=zH hw;have d0:=hw.2 0 a rfl;have d1:=hw.2 1 b rfl;have d2:=hw.2 2 c_ rfl;have d3:=hw.2 3 e_ rfl;have l0:=hl a (by simp);have l1:=hl b (by simp);have l2:=hl c_ (by simp);have l3:=hl e_ (by simp);simp only[Nat.add_zero,List.length_cons,List.length_nil,Nat.zero_add,Nat.reduceAdd]at*;clear hw hl;have hf:=qO (W:=W) (w:=w) (xb:=xb) (g:=g) (off:=off) (cp:=c) (a:=a) (b:=b) (c:=c_) (e:=e_) (show aj w xb 32 #[.pointer (some ⟨db,0,none⟩),.pointer (some ⟨sb,0,none⟩),.pointer (some ⟨vb,0,none⟩),.int .i64 r.key,.int .i64 r.idle,.int .i64 r.life,.int .i64 r.access]from h.at_) h.bx ⟨h.below,Below.refl _ _,h.env,HWT.out,h.err,h.eg⟩ l0 l1 l2 l3;exact hf.mono fun _ _ q=>q.done h
  ·exact absurd hL (by simp)
 ·have hbad:j4 ⟨r,z⟩ L=bad ⟨r,z⟩ 3:=by
   unfold j4;split
   ·exact absurd rfl hL
   ·rfl
  rw[hbad];have HM:=zH (cO (some ⟨g,off,none⟩) L.length c 4 w h.et (by simpa using(show(L.length:Int)≠4 by omega)));have H:=zH h;clear h hw hl hL hbad hk;unfold cG at HM;go_enter Tryz.func7,Tryz.ntmps7;go_wp2_with fail;go_at_call 17;refine HM.out.mono ?_;rintro e w0 ⟨rfl,hb⟩;dsimp only;exact⟨rfl,H.out.thrown hb dC⟩
end
theorem AD {key a b c d:Int} (h:bN a b c d=true):(jT key a b c d).size≤100:=by
 have h1:=i8 a b c d h;unfold jT;have h2:(⟨#[46]⟩:ByteArray).size=1:=rfl;have h3:=jV key (bz a b c d);rw[ByteArray.size_append,ByteArray.size_append];omega
theorem tL {r:Ru} {f:an} (h1:ba f.id=true) (h2:ba f.gen=true):(bX r f).size≤100:=AD (by unfold bN;rw[h1,h2];rfl)
def nl (b:ByteArray):Prop:=b.size≤100000
theorem bD:nl aI:=Nat.zero_le _
theorem uW {x:Int} (h:cP x):nl (aL x):=by
 have e:aL x=cg [x]:=rfl;have:=cC (L:=[x]) (by simp) (by simpa using h);rw[e];unfold nl;omega
theorem Eq {key a b c d:Int} (h:bN a b c d=true):nl (jT key a b c d):=Nat.le_trans (AD h) dC
theorem Hr {z:SS} {ev:Ev} (h:(aV z ev).2=0):dp ev=true:=by
 cases hv:dp ev
 ·exfalso
  unfold aV at h;split at h
  ·exact absurd (show(6:Int)=0 from h) dC
  ·exact absurd (show(1:Int)=0 from h) dC
 ·rfl
theorem zV {z:SS} {p:ln ByteArray} (h: ∀ t c,p=.say t c→nl t) (k: ∀ ev t c,p=.put ev t c→dp ev=true→nl t):nl (ar aI z p).2.1:=by
 cases p with
 |say t c=>exact h t c rfl
 |put ev t c=>
  by_cases h0:(aV z ev).2=0
  ·have:ar aI z (.put ev t c)=((aV z ev).1,t,c):=if_pos h0
   rw[this];exact k ev t c rfl (Hr h0)
  ·have:ar aI z (.put ev t c)=((aV z ev).1,aI,(aV z ev).2):=if_neg h0
   rw[this];exact bD
theorem F7 {f:an} (h:dp (aW f)=true):gy f=true:=by
 unfold dp aW at h;simpa using h
theorem En {r:Ru} {f:an} (h:dp (aW f)=true):nl (bX r f):=by
 obtain⟨h1,h2,_⟩:=bo (F7 h);exact Nat.le_trans (tL h1 h2) dC
theorem AN {r:Ru} {s:St} (h:iQ s) (t:ByteArray) (kind:Int):(gO r s t kind).e≠0∨gy (gO r s t kind).f=true:=by
 unfold gO;split
 ·rename_i h1
  exact .inl h1
 ·split
  ·exact .inl dC
  ·split
   ·exact .inl dC
   ·rename_i f hf
    have hm:f∈s.fams:=List.mem_of_find?_eq_some hf;split
    ·exact .inl dC
    ·split
     ·exact .inl dC
     ·exact .inr (h.fams f hm)
theorem IU {a b:Int} (ha:ba a=true) (hb:ba b=true):ba (cK a b)=true:=by
 rw[az]at*;unfold cK;split<;>omega
theorem FC {r:Ru} {s:St} (h:iQ s) (hr:sP r=true) (t:ByteArray):nl (jL r s t).1:=by
 unfold jL Ax;rcases AN h t 1 (r:=r)with h0|h0
 ·rw[if_pos h0]
  exact bD
 ·split
  ·exact bD
  ·split
   ·exact bD
   ·split
    ·exact bD
    ·obtain⟨h1,h2,_⟩:=bo h0
     have ha:ba r.access=true:=by
      unfold sP at hr;simp only[Bool.and_eq_true]at hr;exact hr.2
     exact Eq (by unfold bN;rw[h1,h2,IU h.clock ha];rfl)
theorem BX {r:Ru} {z:SS} (h:iQ z.s) (t request sc:ByteArray):nl (ar aI z (dG r z.s t request sc)).2.1:=by
 refine zV (fun x c e=>?_) (fun ev x c e he=>?_)
 ·unfold dG cZ at e
  rcases AN h t 1 (r:=r)with h0|h0
  ·rw[if_pos h0]at e
   split at e<;>(cases e;exact bD)
  ·obtain⟨h1,h2,_⟩:=bo h0
   (repeat' split at e)<;>first|(cases e;exact bD)|(cases e;exact Nat.le_trans (tL h1 h2) dC)|cases e
 ·unfold dG cZ at e
  (repeat' split at e)<;>first|(cases e;exact bD)|(cases e;exact En he)|cases e
theorem E0 {r:Ru} {z:SS} (a b c:ByteArray):nl (ar aI z (bL r z.s a b c)).2.1:=by
 refine zV (fun x c e=>?_) (fun ev x c e he=>?_)
 ·unfold bL at e
  (repeat' split at e)<;>first|(cases e;exact bD)|cases e
 ·unfold bL at e
  (repeat' split at e)<;>first|(cases e;exact En he)|cases e
theorem F4 {s:St} (h:iQ s):nl (vO s):=by
 have:=wL h;rw[←tv];exact this
theorem Gg {r:Ru} {s:St} (h:iQ s) (t:ByteArray):nl (iE (iI r s t).1):=Nat.le_trans (j5 (rW h t)) dC
theorem Ey (l:List UInt8):nl (dU (ah (aT l))):=Nat.le_trans (fH _ (n:=45) (by rw[bB];exact d9 l) dC) dC
theorem Iu (key:Int) (l:List UInt8):nl (ah (aQ key l)):=by
 unfold nl;rw[bB];unfold aQ;rw[dZ]
 decide
theorem Ij {x:Int} (h:cP x) (b:Bool):nl (cg [x]++⟨#[32]⟩++fy b):=by
 have h1:=cC (L:=[x]) (by simp) (by simpa using h);have h2:(⟨#[32]⟩:ByteArray).size=1:=rfl;have h3:(fy b).size≤5:=by cases b<;>decide
 unfold nl;rw[ByteArray.size_append,ByteArray.size_append];omega
theorem GZ:cP 0:=⟨by decide,by decide⟩
theorem nr {b:ByteArray} (h:b.size≤100000):nl b:=h
theorem xX {r:Ru} {z:SS} (h:iQ z.s):cP (ar 0 z (bW r z.s)).2.1:=by
 unfold bW;split
 ·exact GZ
 ·rename_i f hf
  have hm:f∈z.s.fams:=List.mem_of_find?_eq_some hf;have:=jj (bo (h.fams f hm)).1;unfold ar;dsimp only;split
  ·exact this
  ·exact GZ
theorem Fa {r:Ru} {z:SS} (h:iQ z.s):nl (aL (ar 0 z (bW r z.s)).2.1):=uW (xX h)
theorem Gr:nl (ah jQ):=nr dC
theorem Fs:nl (ah gA):=nr dC
theorem FN:nl (ah jc):=nr dC
theorem EJ:nl (ah fg):=nr dC
theorem DD:nl (ah gG):=nr dC
theorem Iv:nl ⟨#[111,107]⟩:=nr dC
theorem DA:nl xf:=nr dC
structure DH (d:DS):Prop where
 fit:iQ d.z.s
 ru:sP d.r=true
 ok:cP d.z.writes
 lg:0≤d.z.log∧d.z.log≤1000000
section
variable {d:DS} (H:DH d) (L:List (List UInt8))
include H
theorem GJ:nl (lp d L).2.1:=by
 obtain⟨h,hr,hw,hg⟩:=H;unfold lp
 (repeat' split)<;>first|exact bD|exact Gr
theorem uU:nl (cX d L).2.1:=by
 obtain⟨h,hr,hw,hg⟩:=H;unfold cX;split<;>first|exact bD|exact F4 h
theorem BK:nl (gC d L).2.1:=by
 obtain⟨h,hr,hw,hg⟩:=H;unfold gC;split<;>first|exact bD|exact E0 _ _ _
theorem DE:nl (jY d L).2.1:=by
 obtain⟨h,hr,hw,hg⟩:=H;unfold jY;split<;>first|exact bD|exact DA
theorem C3:nl (iH d L).2.1:=by
 obtain⟨h,hr,hw,hg⟩:=H;unfold iH
 (repeat' split)<;>first|exact bD|exact Fs
theorem BT:nl (ij d L).2.1:=by
 obtain⟨h,hr,hw,hg⟩:=H;unfold ij;split<;>first|exact bD|exact Ey _
theorem Gm:nl (nL d L).2.1:=by
 obtain⟨h,hr,hw,hg⟩:=H;unfold nL;split<;>first|exact bD|exact Ij ⟨by omega,by omega⟩ _
theorem Dv:nl (jM d L).2.1:=by
 obtain⟨h,hr,hw,hg⟩:=H;unfold jM;split<;>first|exact bD|exact FC h hr _
theorem FP:nl (j4 d L).2.1:=by
 obtain⟨h,hr,hw,hg⟩:=H;unfold j4
 (repeat' split)<;>first|exact bD|exact FN
theorem Fk:nl (j6 d L).2.1:=by
 obtain⟨h,hr,hw,hg⟩:=H;unfold j6;split<;>first|exact bD|exact EJ
theorem zi:nl (eD d L).2.1:=by
 obtain⟨h,hr,hw,hg⟩:=H;unfold eD;split<;>first|exact bD|exact BX h _ _ _
theorem EI:nl (jI d L).2.1:=by
 obtain⟨h,hr,hw,hg⟩:=H;unfold jI;split<;>first|exact bD|exact DD
theorem Ea:nl (jJ d L).2.1:=by
 obtain⟨h,hr,hw,hg⟩:=H;unfold jJ;split<;>first|exact bD|exact Gg h _
theorem Bp:nl (gr d L).2.1:=by
 obtain⟨h,hr,hw,hg⟩:=H;unfold gr;split<;>first|exact bD|exact Fa h
theorem FR:nl (mF d L).2.1:=by
 obtain⟨h,hr,hw,hg⟩:=H;rcases L with _|⟨a,_|⟨b,_|⟨_,L⟩⟩⟩
 ·exact bD
 ·exact bD
 ·show nl (if aC a=true then(d,ah (aQ (ab a) b),(0:Int))else bad d 3).2.1
  by_cases hn:aC a=true
  ·rw[if_pos hn]
   exact Iu _ _
  ·rw[if_neg hn]
   exact bD
 ·exact bD
theorem ET (h':iQ (gS d L).1.z.s):nl (gS d L).2.1:=by
 obtain⟨h,hr,hw,hg⟩:=H;unfold gS at h' ⊢;split
 ·split
  ·rename_i hn
   dsimp only at h';rw[if_pos hn]at h';exact uW (jj h'.clock)
  ·exact bD
 ·exact bD
theorem BV:nl (dT d L).2.1:=by
 obtain⟨h,hr,hw,hg⟩:=H;unfold dT
 (repeat' split)<;>first|exact bD|(rename_i hh;exact Eq hh)
theorem zm:nl (eZ d L).2.1:=by
 obtain⟨h,hr,hw,hg⟩:=H;unfold eZ;split<;>first|exact bD|exact uW hw
theorem GK (n:List UInt8) (h':iQ (cE d n L).1.z.s):nl (cE d n L).2.1:=by
 unfold cE at h' ⊢
 by_cases h_cut:n=jQ
 ·simp only[if_pos h_cut]at h' ⊢
  exact GJ H L
 simp only[if_neg h_cut]at h' ⊢
 by_cases h_families:n=cQ
 ·simp only[if_pos h_families]at h' ⊢
  exact uU H L
 simp only[if_neg h_families]at h' ⊢
 by_cases h_grant:n=fJ
 ·simp only[if_pos h_grant]at h' ⊢
  exact BK H L
 simp only[if_neg h_grant]at h' ⊢
 by_cases h_help:n=je
 ·simp only[if_pos h_help]at h' ⊢
  exact DE H L
 simp only[if_neg h_help]at h' ⊢
 by_cases h_kill:n=gA
 ·simp only[if_pos h_kill]at h' ⊢
  exact C3 H L
 simp only[if_neg h_kill]at h' ⊢
 by_cases h_least:n=fB
 ·simp only[if_pos h_least]at h' ⊢
  exact BT H L
 simp only[if_neg h_least]at h' ⊢
 by_cases h_log:n=mT
 ·simp only[if_pos h_log]at h' ⊢
  exact Gm H L
 simp only[if_neg h_log]at h' ⊢
 by_cases h_mint:n=jt
 ·simp only[if_pos h_mint]at h' ⊢
  exact Dv H L
 simp only[if_neg h_mint]at h' ⊢
 by_cases h_new:n=jc
 ·simp only[if_pos h_new]at h' ⊢
  exact FP H L
 simp only[if_neg h_new]at h' ⊢
 by_cases h_open:n=fg
 ·simp only[if_pos h_open]at h' ⊢
  exact Fk H L
 simp only[if_neg h_open]at h' ⊢
 by_cases h_rotate:n=ee
 ·simp only[if_pos h_rotate]at h' ⊢
  exact zi H L
 simp only[if_neg h_rotate]at h' ⊢
 by_cases h_save:n=gG
 ·simp only[if_pos h_save]at h' ⊢
  exact EI H L
 simp only[if_neg h_save]at h' ⊢
 by_cases h_show:n=jb
 ·simp only[if_pos h_show]at h' ⊢
  exact Ea H L
 simp only[if_neg h_show]at h' ⊢
 by_cases h_sweep:n=fE
 ·simp only[if_pos h_sweep]at h' ⊢
  exact Bp H L
 simp only[if_neg h_sweep]at h' ⊢
 by_cases h_tagC:n=jp
 ·simp only[if_pos h_tagC]at h' ⊢
  exact FR H L
 simp only[if_neg h_tagC]at h' ⊢
 by_cases h_tick:n=jd
 ·simp only[if_pos h_tick]at h' ⊢
  exact ET H L h'
 simp only[if_neg h_tick]at h' ⊢
 by_cases h_token:n=fx
 ·simp only[if_pos h_token]at h' ⊢
  exact BV H L
 simp only[if_neg h_token]at h' ⊢
 by_cases h_writes:n=eh
 ·simp only[if_pos h_writes]at h' ⊢
  exact zm H L
 simp only[if_neg h_writes]at h' ⊢;exact bD
end
theorem uR {d:DS} (H:DH d) (l:List UInt8) (h':iQ (cJ d l).1.z.s):nl (cJ d l).2:=by
 unfold cJ at h' ⊢;split
 ·exact Iv
 ·rename_i n L e
  rw[e]at h';have hn:=GK H L n h';have hc:=(qh d n L).ok;unfold told;dsimp only;split
  ·exact hn
  ·have h1:=uW hc
   have h2:(⟨#[101,114,114,111,114,32]⟩:ByteArray).size=6:=rfl;have h3:=cC (L:=[(cE d n L).2.2]) (by simp) (by simpa using hc);have e:aL (cE d n L).2.2=cg [(cE d n L).2.2]:=rfl;unfold nl nB;rw[ByteArray.size_append,e];omega
theorem qr (x:Int) (w:World):Calls prog 83 #[.int .i64 x,.int .i64 0,.int .i64 1099511627776] w fun e w'=>e=.returned (.bool (ba x))∧w=w':=nZ x 0 1099511627776 w
theorem uC (r:Ru) (W:World):Calls prog 33 #[.agg #[.int .i64 r.key,.int .i64 r.idle,.int .i64 r.life,.int .i64 r.access]] W fun e w'=>e=.returned (.bool (sP r))∧Below W.heap.size W w':=by
 obtain⟨ky,il,li,ac⟩:=r;unfold sP;dsimp only;have H1:=zH (fun w=>qr ky w);have H2:=zH (fun w=>qr il w);have H3:=zH (fun w=>qr li w);have H4:=zH (fun w=>qr ac w);have hal:Below W.heap.size W (W.alloc (.cells #[.int .i64 ky,.int .i64 il,.int .i64 li,.int .i64 ac] 30)):=(Below.refl _ _).alloc (Nat.le_refl _) _;have HAL:=zH hal;obtain⟨y0,y1,y2,y3⟩:=aN (aj.new W 30 #[.int .i64 ky,.int .i64 il,.int .i64 li,.int .i64 ac]);clear hal;cases h1:ba ky
 all_goals cases h2:ba il
 all_goals cases h3:ba li
 all_goals cases h4:ba ac
 all_goals
  rw[h1]at H1;rw[h2]at H2;rw[h3]at H3;rw[h4]at H4;clear h1 h2 h3 h4;go_enter Tryz.func33,Tryz.ntmps33
  go_wp2_with (first
   |(go_at_call 83;(with_reducible refine(H1.out _).mono ?_);rintro e w' ⟨rfl,rfl⟩)
   |(go_at_call 83;(with_reducible refine(H2.out _).mono ?_);rintro e w' ⟨rfl,rfl⟩)
   |(go_at_call 83;(with_reducible refine(H3.out _).mono ?_);rintro e w' ⟨rfl,rfl⟩)
   |(go_at_call 83;(with_reducible refine(H4.out _).mono ?_);rintro e w' ⟨rfl,rfl⟩))
  go_ret;exact⟨rfl,HAL.out⟩
end Go.Proofs.YtepjcdjpikbbjaaGreatDoor
