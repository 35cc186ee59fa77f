/-
  store.Store's Add: an event is let be.
-/
import Derived.Test.YtepjcdjpikbbjaaGreatDoorU00
import Derived.Test.YtepjcdjpikbbjaaGreatDoorU18
import Derived.Test.YtepjcdjpikbbjaaGreatDoorU14
import Derived.Test.YtepjcdjpikbbjaaGreatDoorU23
import Derived.Deep.RegionHeld3
set_option maxHeartbeats 8000000
set_option maxRecDepth 100000
namespace Go.Proofs.YtepjcdjpikbbjaaGreatDoor
open Go.Proofs.Tryz
open Go.RowKit Go.Sort
def vp (B sb db:Nat) (D:Dk) (s:St) (v:Value) (n f x:Int) (e:Ev) (r:Ending) (w':World):Prop:=
 (pw D=true∧r=.returned (.iface 57 (.int .i64 14))∧SD B sb db D s v n f x true w')∨
 (pw D=false∧r=.returned .nilIface∧ ∃ v',SD B sb db (D.put (x % 16).toNat (ah (gV aQ x e))) (am s e) v' n f (x+1) false w')
def oV (W:World) (B sb db:Nat) (D:Dk) (s:St) (v:Value) (n f x:Int) (e:Ev) (r:Ending) (w':World):Prop:=
 dH sb db W w'∧(
  (dp e=false∧r=.returned (.iface 57 (.int .i64 1))∧SD B sb db D s v n f x false w')∨
  (dp e=true∧20<(am s e).fams.length∧r=.returned (.iface 57 (.int .i64 12))∧SD B sb db D s v n f x false w')∨
  (dp e=true∧(am s e).fams.length≤20∧x - f≠16∧vp B sb db D s v n f x e r w')∨
  (dp e=true∧(am s e).fams.length≤20∧x - f=16∧ ∃ D1,mc D (ay ((n+1) % 2).toNat) s.fams (ah (gR aQ (n+1) x s)) D1 true∧vp B sb db D1 s v (n+1) x x e r w')∨
  (dp e=true∧(am s e).fams.length≤20∧x - f=16∧ ∃ D1,mc D (ay ((n+1) % 2).toNat) s.fams (ah (gR aQ (n+1) x s)) D1 false∧r=.returned (.iface 57 (.int .i64 14))∧SD B sb db D1 s v n f x true w'))
structure SA (W:World) (B sb db:Nat) (D:Dk) (s:St) (v:Value) (n f x:Int) (down:Bool) (e:Ev) (w:World):Prop where
 sd:SD B sb db D s v n f x down w
 ev:aj w W.heap.size 116 (ax e)
 two:dH sb db W w
 nb:sb<W.heap.size∧db<W.heap.size
section
variable {W w w':World} {B sb db:Nat} {D:Dk} {s:St} {v:Value} {n f x:Int} {down:Bool} {e:Ev}
theorem SA.start (h:SD B sb db D s v n f x down W):SA W B sb db D s v n f x down e (W.alloc (.cells (ax e) 116)):=by
 have hb:Below W.heap.size W (W.alloc (.cells (ax e) 116)):=(Below.refl _ _).alloc (Nat.le_refl _) _;exact⟨h.keep hb,aj.new W _ _,dH.of_below hb,aj.lt h.st,h.disk.at_.lt⟩
theorem SA.keep (h:SA W B sb db D s v n f x down e w) (hb:Below w.heap.size w w'):SA W B sb db D s v n f x down e w':=⟨h.sd.keep hb,h.ev.below' hb,h.two.trans (dH.of_below hb),h.nb⟩
theorem SA.three {ck nx:Int} {L:List an} (h:SA W B sb db D ⟨ck,nx,L⟩ v n f x down e w):w.cell? ⟨sb,1,none⟩=some (.int .i64 ck)∧w.cell? ⟨sb,2,none⟩=some (.int .i64 nx)∧w.cell? ⟨sb,3,none⟩=some v:=⟨aj.cell h.sd.st 1,aj.cell h.sd.st 2,aj.cell h.sd.st 3⟩
theorem SA.drew (h:SA W B sb db D s v n f x down e w):SA W B sb db D s v n f x down e w.drew:=⟨h.sd.drew,h.ev,h.two.trans (dH.of_drew _),h.nb⟩
end
theorem SD.became {B sb db:Nat} {D:Dk} {s:St} {v:Value} {n f x:Int} {w:World} (h:SD B sb db D s v n f x false w) (s':St) {v':Value} (hr:aD w B v' s'.fams) (x':Int):
  SD B sb db D s' v' n f x' false ((((w.setCell ⟨sb,1,none⟩ (.int .i64 s'.clock)).setCell ⟨sb,2,none⟩ (.int .i64 s'.next)).setCell ⟨sb,3,none⟩ v').setCell ⟨sb,6,none⟩ (.int .i64 x'))∧w.grownBy ((((w.setCell ⟨sb,1,none⟩ (.int .i64 s'.clock)).setCell ⟨sb,2,none⟩ (.int .i64 s'.next)).setCell ⟨sb,3,none⟩ v').setCell ⟨sb,6,none⟩ (.int .i64 x')) (some sb):=by
 obtain⟨h1,h2,h3⟩:=h.apart;have e1:=aj.put_ h.st 1 (.int .i64 s'.clock) (cs':=dM db ⟨s'.clock,s.next,s.fams⟩ v n f x false) rfl;have e2:=aj.put_ e1 2 (.int .i64 s'.next) (cs':=dM db ⟨s'.clock,s'.next,s.fams⟩ v n f x false) rfl;have e3:=aj.put_ e2 3 v' (cs':=dM db s' v' n f x false) rfl;have e4:=aj.put_ e3 6 (.int .i64 x') (cs':=dM db s' v' n f x' false) rfl;have g1:=aZ w sb ⟨sb,1,none⟩ rfl (.int .i64 s'.clock);have g2:=ag g1 (p:=⟨sb,2,none⟩) (.inl rfl) (.int .i64 s'.next);have g3:=ag g2 (p:=⟨sb,3,none⟩) (.inl rfl) v';have hg:=ag g3 (p:=⟨sb,6,none⟩) (.inl rfl) (.int .i64 x');have hb:Below B w _:=(Below.refl B w).grown hg h.big (fun k hk=>by cases hk;exact h.bs);exact⟨⟨h.env.keep hb,e4,h.disk.grown hg (by simpa using Ne.symm h3),hr.kept hg (hr.apart h.st dC),h.bs,h.bd⟩,hg⟩
theorem SD.zs {B sb db:Nat} {D:Dk} {s:St} {v:Value} {n f x:Int} {down:Bool} {w:World} (h:SD B sb db D s v n f x down w):w.cell? ⟨sb,0,none⟩=some (.pointer (some ⟨db,0,none⟩))∧w.cell? ⟨sb,6,none⟩=some (.int .i64 x):=⟨aj.cell h.st 0,aj.cell h.st 6⟩
theorem ql {w:World} {g:Nat} {T:TypeId} {z0 z1 z2:Value} (h:aj w g T #[z0,z1,z2]) (c n v:Value):aj (((w.setCell ⟨g,0,none⟩ c).setCell ⟨g,1,none⟩ n).setCell ⟨g,2,none⟩ v) g T #[c,n,v]∧w.grownBy (((w.setCell ⟨g,0,none⟩ c).setCell ⟨g,1,none⟩ n).setCell ⟨g,2,none⟩ v) (some g):=by
 have e1:=h.put_ 0 c (cs':=#[c,z1,z2]) rfl;have e2:=e1.put_ 1 n (cs':=#[c,n,z2]) rfl;have e3:=e2.put_ 2 v (cs':=#[c,n,v]) rfl;have g1:=aZ w g ⟨g,0,none⟩ rfl c;have g2:=ag g1 (p:=⟨g,1,none⟩) (.inl rfl) n;exact⟨e3,ag g2 (p:=⟨g,2,none⟩) (.inl rfl) v⟩
theorem IP (B sb db:Nat) (D:Dk) (s:St) (v:Value) (n f x:Int) (e:Ev) (W:World) (h:SD B sb db D s v n f x false W) (hs:e.fam.short 5000) (he:dp e=false):
  Calls prog 190 #[.pointer (some ⟨sb,0,none⟩),aE e] W (oV W B sb db D s v n f x e):=by
 have H0:=zH (SA.start (e:=e) h);have HW:=zH (fun w hw=>CX e w hs hw he);have HE:=zH he;have HG:Hid (∀ w',SA W B sb db D s v n f x false e w'→oV W B sb db D s v n f x e (.returned (.iface 57 (.int .i64 1))) w'):=zH fun w' hw=>⟨hw.two,.inl ⟨he,rfl,hw.sd⟩⟩
 obtain⟨ck,nx,L⟩:=s;obtain⟨c0,c1,c2,c3,c4,c5,c6,c7,z,hlt⟩:=h.cells;obtain⟨kd,⟨i,cl,su,sc,ge,ma,us,re,de⟩,id,ti⟩:=e;unfold aE ax at*;dsimp only at*;clear h he;go_enter Tryz.func190,Tryz.ntmps190;go_wp2_with fail;go_at_call 186;refine(HW.out _ H0.out.sd.env.wb).mono ?_;rintro r w1 ⟨rfl,hb⟩;go_wp2_with fail;go_ret;exact HG.out _ (H0.out.keep hb)
theorem GA (B sb db:Nat) (D:Dk) (s:St) (v:Value) (n f x:Int) (e:Ev) (W:World) (h:SD B sb db D s v n f x false W) (hs:e.fam.short 5000) (he:dp e=true) (hf:D.fits) (hfit:iQ s) (h0:0≤n) (h1:n<1000000) (h2:0≤f) (h3:f≤x) (h4:x<1000000):
  Calls prog 190 #[.pointer (some ⟨sb,0,none⟩),aE e] W (oV W B sb db D s v n f x e):=by
 have H0:=zH (SA.start (e:=e) h);have HW:=zH (fun w hw=>og e w hs hw he)
 have HA:Hid (∀ (w:World) (v:Value),aD w B v s.fams→Calls prog 54 #[dj s v,aE e] w (iS w (am s e).clock (am s e).next (am s e).fams)):=
  zH fun w v hr=>(sk _ v s e w hr hfit.ok (uQ he) (uM he)).mono fun _ _ h=>fG h
 have HE:=zH he;have HF:=zH hf;have HI:=zH hfit;obtain⟨sa,scp,rfl⟩:=h.row.slice;obtain⟨ck,nx,L⟩:=s;have hel:=mt he;have hes:(ah (iy e)).size≤180:=by rw[bB];exact hel
 obtain⟨c0,c1,c2,c3,c4,c5,c6,c7,z,hlt⟩:=h.cells;generalize hst:am ⟨ck,nx,L⟩ e=st' at*;have HST:=zH hst;clear hst;obtain⟨ck',nx',L'⟩:=st';dsimp only at*;generalize hxl:ah (iy e)=xl at*;have HXL:=zH hxl;obtain⟨kd,⟨i,cl,su,sc,ge,ma,us,re,de⟩,id,ti⟩:=e;unfold iS dj dN aE ax at HA;unfold aE ax at HW;unfold ax at H0;unfold aE ax;dsimp only at*;clear h he hf hfit hxl;go_enter Tryz.func190,Tryz.ntmps190;go_wp2_with fail;go_at_call 186;refine(HW.out _ H0.out.sd.env.wb).mono ?_;rintro r w1 ⟨rfl,hb⟩;have H1:=zH (H0.out.keep hb);clear hb c0 c1 c2 c3 c4 c5 c6 c7 z hlt H0 HW;go_wp2_with fail;refine aR (SA W B sb db D ⟨ck,nx,L⟩ (.slice sa L.length scp) n f x false ⟨kd,⟨i,cl,su,sc,ge,ma,us,re,de⟩,id,ti⟩) [7] kR ?_;have HSD:=H1.out.drew;refine aa 2 (i:=0) (v:= ?v0) rfl kR kR kR kR kR (fun _ _ _ h=>h) (by rfl) ?hy0 aS ?rest0
 case hy0=>(intro w hSw;obtain⟨c1,c2,c3⟩:=hSw.three;obtain⟨e0,e1,e2,e3,e4,e5,e6,e7,e8,e9,e10,e11⟩:=bg hSw.ev;go_simp;(try with_reducible rfl))
 simp only[Act.put];refine aa 2 (i:=1) (v:= ?v1) rfl kR kR kR kR kR (fun _ _ _ h=>h) (by rfl) ?hy1 aS ?rest1
 case hy1=>(intro w hSw;obtain⟨c1,c2,c3⟩:=hSw.three;obtain⟨e0,e1,e2,e3,e4,e5,e6,e7,e8,e9,e10,e11⟩:=bg hSw.ev;go_simp;(try with_reducible rfl))
 simp only[Act.put];refine aa 2 (i:=2) (v:= ?v2) rfl kR kR kR kR kR (fun _ _ _ h=>h) (by rfl) ?hy2 aS ?rest2
 case hy2=>(intro w hSw;obtain⟨c1,c2,c3⟩:=hSw.three;obtain⟨e0,e1,e2,e3,e4,e5,e6,e7,e8,e9,e10,e11⟩:=bg hSw.ev;go_simp;(try with_reducible rfl))
 simp only[Act.put];refine aa 2 (i:=3) (v:= ?v3) rfl kR kR kR kR kR (fun _ _ _ h=>h) (by rfl) ?hy3 aS ?rest3
 case hy3=>(intro w hSw;obtain⟨c1,c2,c3⟩:=hSw.three;obtain⟨e0,e1,e2,e3,e4,e5,e6,e7,e8,e9,e10,e11⟩:=bg hSw.ev;go_simp;(try with_reducible rfl))
 simp only[Act.put];refine aa 2 (i:=4) (v:= ?v4) rfl kR kR kR kR kR (fun _ _ _ h=>h) (by rfl) ?hy4 aS ?rest4
 case hy4=>(intro w hSw;obtain⟨c1,c2,c3⟩:=hSw.three;obtain⟨e0,e1,e2,e3,e4,e5,e6,e7,e8,e9,e10,e11⟩:=bg hSw.ev;go_simp;(try with_reducible rfl))
 simp only[Act.put];refine fA (i:=5) (j:=6) kR rfl rfl ?cA ?cB
 case' cA=>
  intro K5 hK5;go_simp;go_at_call 54;refine(HA.out _ _ HSD.sd.row).mono ?_;rintro r w2 ⟨a1,ac,rfl,hr1,hb⟩;have HSD2:=HSD.keep hb;have hr2:=hr1.mono (B':=B) HSD.sd.big
  try dsimp only
  refine hK5.out _ _ (fun _=>HSD2) ?_
  try simp only[Act.put]
  refine ai (i:=6) kR rfl ?_;intro K6 hK6;go_simp;have hb3:=(Below.refl w2.heap.size w2).alloc (Nat.le_refl _) (.cells #[.int .i64 0,.int .i64 0,.slice none 0 0] 83);have HSD3:=HSD2.keep hb3;have hz:=aj.new w2 83 #[.int .i64 0,.int .i64 0,.slice none 0 0];have hr3:=hr2.below hb3;refine hK6.out _ _ (fun _=>HSD3) ?_
  try simp only[Act.put]
  obtain⟨hz1,hz2⟩:=ql hz (.int .i64 ck') (.int .i64 nx') (.slice a1 L'.length ac);have hb4:=hb3.grown hz2 hb3.size (fun _ hk=>by cases hk;exact Nat.le_refl _);have hne:Value.ownBlock (.slice a1 L'.length ac)≠some w2.heap.size:=fun he=>by have:=(hr2.lt _ he).2;omega
  have HS:=zH (HSD2.keep hb4);have HT:=zH hz1;have HR:=zH (hr3.kept hz2 hne);have hlt2:w2.heap.size<(w2.alloc (.cells #[.int .i64 0,.int .i64 0,.slice none 0 0] 83)).heap.size:=hz.lt;obtain⟨d0,d1,d2⟩:=dQ hz;have dz:=hz.frozen;generalize w2.alloc (.cells #[.int .i64 0,.int .i64 0,.slice none 0 0] 83)=w2a at*;refine ai (i:=7) kR rfl ?_;intro K7 hK7;go_simp
  try dsimp only
  refine hK7.out _ _ (fun h=>absurd h dC) ?_;refine aX kR ?_ _;have hgb:sb<w2.heap.size∧db<w2.heap.size:=⟨aj.lt HSD2.sd.st,HSD2.sd.disk.at_.lt⟩;generalize w2.heap.size=tb at*;generalize ((w2a.setCell ⟨tb,0,none⟩ (.int .i64 ck')).setCell ⟨tb,1,none⟩ (.int .i64 nx')).setCell ⟨tb,2,none⟩ (.slice a1 L'.length ac)=w3 at*;clear hz hz1 hz2 hb3 hb4 hr1 hr2 hr3 HSD HSD2 HSD3 hb H1 d0 d1 d2 dz;clear hlt2
 case' cB=>
  intro K6 hK6;go_simp;have hb3:Below w1.drew.heap.size w1.drew (w1.alloc (.cells #[.int .i64 0,.int .i64 0,.slice none 0 0] 83)).drew:=(Below.refl w1.heap.size w1.drew).alloc (Nat.le_refl _) _;have HSD3:=HSD.keep hb3;have hz:aj (w1.alloc (.cells #[.int .i64 0,.int .i64 0,.slice none 0 0] 83)).drew w1.heap.size 83 #[.int .i64 0,.int .i64 0,.slice none 0 0]:=aj.new w1 _ _;refine hK6.out _ _ (fun _=>HSD3) ?_
  try simp only[Act.put]
  refine ai (i:=5) kR rfl ?_;intro K5 hK5;go_simp;go_at_call 54;have hsz1:w1.heap.size<(w1.alloc (.cells #[.int .i64 0,.int .i64 0,.slice none 0 0] 83)).drew.heap.size:=hz.lt;have hgb:sb<w1.heap.size∧db<w1.heap.size:=⟨aj.lt HSD.sd.st,HSD.sd.disk.at_.lt⟩;generalize (w1.alloc (.cells #[.int .i64 0,.int .i64 0,.slice none 0 0] 83)).drew=w1a at*;refine(HA.out _ _ HSD3.sd.row).mono ?_;rintro r w2 ⟨a1,ac,rfl,hr1,hb⟩;have HSD2:=HSD3.keep hb;have hz0:=hz.below' hb;have hb2:=ae hb3 hb;have hr2:=hr1.mono (B':=B) HSD3.sd.big
  try dsimp only
  refine hK5.out _ _ (fun _=>HSD2) ?_
  try simp only[Act.put]
  obtain⟨hz1,hz2⟩:=ql hz0 (.int .i64 ck') (.int .i64 nx') (.slice a1 L'.length ac);have hb4:=hb2.grown hz2 hb2.size (fun _ hk=>by cases hk;exact Nat.le_refl _);have hne:Value.ownBlock (.slice a1 L'.length ac)≠some w1.heap.size:=fun he=>by have:=(hr1.lt _ he).1;omega
  have HS:=zH (HSD.keep hb4);have HT:=zH hz1;have HR:=zH (hr2.kept hz2 hne);obtain⟨d0,d1,d2⟩:=dQ hz0;have dz:=hz0.frozen;refine ai (i:=7) kR rfl ?_;intro K7 hK7;go_simp
  try dsimp only
  refine hK7.out _ _ (fun h=>absurd h dC) ?_;refine aX kR ?_ _;clear HSD3 hsz1 hb hz0;generalize w1.heap.size=tb at*;generalize ((w2.setCell ⟨tb,0,none⟩ (.int .i64 ck')).setCell ⟨tb,1,none⟩ (.int .i64 nx')).setCell ⟨tb,2,none⟩ (.slice a1 L'.length ac)=w3 at*;clear hz hz1 hz2 hb3 hb4 hb2 hr1 hr2 HSD HSD2 H1 d0 d1 d2 dz hne
 all_goals
  obtain⟨c0,c1,c2,c3,c4,c5,c6,c7,z,hlt⟩:=HS.out.sd.cells;obtain⟨d0,d1,d2⟩:=dQ HT.out
  by_cases hmany:20<L'.length
  ·go_wp2_with fail
   go_ret;exact⟨HS.out.two,.inr (.inl ⟨HE.out,by rw[HST.out];exact hmany,rfl,HS.out.sd⟩)⟩
  have HLG:=zH (tS sb db ⟨ck,nx,L⟩ _ n f x false w3 HS.out.sd.st h2 h3 oM);go_wp2_with fail;go_at_call 128;refine HLG.out.mono ?_;rintro r w4 ⟨rfl,hb⟩;have HS4:=zH (HS.out.keep hb);have HT4:=zH (HT.out.below' hb);have HR4:=zH (HR.out.below hb);clear hb HLG HS HT HR c0 c1 c2 c3 c4 c5 c6 c7 z hlt d0 d1 d2
  by_cases hfull:x - f=16
  case' pos=>
   have HSV:=zH (qC B sb db D ⟨ck,nx,L⟩ _ n f x w4 HS4.out.sd HF.out HI.out h0 h1 oM oM);go_wp2_with fail;go_at_call 132;refine HSV.out.mono ?_;rintro r w5 ⟨ok,D1,hso,htw,hres⟩;rcases hres with⟨rfl,rfl,hsd⟩|⟨rfl,rfl,hsd⟩
   rotate_left
   ·go_wp2_with fail
    go_ret;exact⟨HS4.out.two.trans htw,.inr (.inr (.inr (.inr ⟨HE.out,by rw[HST.out];show L'.length≤20;omega,hfull,D1,hso,rfl,hsd⟩)))⟩
   have HC: ∃ D1 n1 f1,SD B sb db D1 ⟨ck,nx,L⟩ (.slice sa L.length scp) n1 f1 x false w5∧dH sb db W w5∧aj w5 tb 83 #[.int .i64 ck',.int .i64 nx',.slice a1 L'.length ac]∧aD w5 B (.slice a1 L'.length ac) L'∧
     ∀ r w',vp B sb db D1 ⟨ck,nx,L⟩ (.slice sa L.length scp) n1 f1 x ⟨kd,⟨i,cl,su,sc,ge,ma,us,re,de⟩,id,ti⟩ r w'→dH sb db W w'→oV W B sb db D ⟨ck,nx,L⟩ (.slice sa L.length scp) n f x ⟨kd,⟨i,cl,su,sc,ge,ma,us,re,de⟩,id,ti⟩ r w':=
    ⟨D1,n+1,x,hsd,HS4.out.two.trans htw,aj.two HT4.out htw (by have:=hgb.1;have:=hgb.2;omega) (by have:=hgb.1;have:=hgb.2;omega),HR4.out.two htw (HR4.out.apart HS4.out.sd.st dC) (HR4.out.apart HS4.out.sd.disk.at_ dC),
     fun r w' hr ht=>⟨ht,.inr (.inr (.inr (.inl ⟨HE.out,by rw[HST.out];show L'.length≤20;omega,hfull,D1,hso,hr⟩)))⟩⟩
   clear HSV HS4 HT4 HR4 hso htw hsd;go_wp2_with fail
  case' neg=>
   have hfull1:(x - f == 16)=false:=by simpa using hfull
   have HC: ∃ D1 n1 f1,SD B sb db D1 ⟨ck,nx,L⟩ (.slice sa L.length scp) n1 f1 x false w4∧dH sb db W w4∧aj w4 tb 83 #[.int .i64 ck',.int .i64 nx',.slice a1 L'.length ac]∧aD w4 B (.slice a1 L'.length ac) L'∧
     ∀ r w',vp B sb db D1 ⟨ck,nx,L⟩ (.slice sa L.length scp) n1 f1 x ⟨kd,⟨i,cl,su,sc,ge,ma,us,re,de⟩,id,ti⟩ r w'→dH sb db W w'→oV W B sb db D ⟨ck,nx,L⟩ (.slice sa L.length scp) n f x ⟨kd,⟨i,cl,su,sc,ge,ma,us,re,de⟩,id,ti⟩ r w':=
    ⟨D,n,f,HS4.out.sd,HS4.out.two,HT4.out,HR4.out,fun r w' hr ht=>⟨ht,.inr (.inr (.inl ⟨HE.out,by rw[HST.out];show L'.length≤20;omega,hfull,hr⟩))⟩⟩
   clear HS4 HT4 HR4;go_wp2_with fail;generalize w4=w5 at*
  all_goals
   obtain⟨D1,n1,f1,hsd,htw,htb,hrw,hend⟩:=HC;have HS5:=zH hsd;have HW5:=zH htw;have HT5:=zH htb;have HR5:=zH hrw;have HEND:=zH hend;clear hsd htw htb hrw hend;obtain⟨j,hj,hj2⟩: ∃ j:Nat,x.tmod 16=(j:Int)∧(x % 16).toNat=j:=⟨(x % 16).toNat,by rw[Int.tmod_eq_emod_of_nonneg oM];omega,rfl⟩;have hj16:j<16:=by omega
   have hxM:kt x=true:=bO.2 oM;have HIT:=zH (fun w hT=>qo x hxM w hT);have hxl:(Lib.itoa x).length≤13:=fY hxM;have hgl:bM 32 [Lib.itoa x,iy ⟨kd,⟨i,cl,su,sc,ge,ma,us,re,de⟩,id,ti⟩]=Lib.itoa x++32::iy ⟨kd,⟨i,cl,su,sc,ge,ma,us,re,de⟩,id,ti⟩:=rfl;have HSE:=zH (fun w v B h=>oe B v [Lib.itoa x,iy ⟨kd,⟨i,cl,su,sc,ge,ma,us,re,de⟩,id,ti⟩] w h (by show 2≤100;decide) (by rw[hgl,List.length_append,List.length_cons];omega));have hre:ah (kT aQ (bM 32 [Lib.itoa x,iy ⟨kd,⟨i,cl,su,sc,ge,ma,us,re,de⟩,id,ti⟩]))=ah (gV aQ x ⟨kd,⟨i,cl,su,sc,ge,ma,us,re,de⟩,id,ti⟩):=rfl;rw[hre]at HSE
   have hrs:(ah (gV aQ x ⟨kd,⟨i,cl,su,sc,ge,ma,us,re,de⟩,id,ti⟩)).size≤240:=by
    rw[bB];unfold gV;rw[mn,List.length_append,List.length_cons];omega
   have HROW:Hid (∀ w:World,gi (w.alloc (.cells #[.string (aL x),.string xl] 9)) w.heap.size (.slice (some ⟨w.heap.size,0,none⟩) 2 2) [Lib.itoa x,iy ⟨kd,⟨i,cl,su,sc,ge,ma,us,re,de⟩,id,ti⟩]):=zH fun w=>by
    rw[←HXL.out];exact gi.new (L:=[Lib.itoa x,iy ⟨kd,⟨i,cl,su,sc,ge,ma,us,re,de⟩,id,ti⟩]) (Nat.le_refl _) (by show 2≤maxLen;decide)
   clear hre hgl hxM hxl;generalize hrd:ah (gV aQ x ⟨kd,⟨i,cl,su,sc,ge,ma,us,re,de⟩,id,ti⟩)=rd at*;have HRD:=zH hrd;clear hrd;generalize aL x=ix at*;have HC0:=SD.zs (SD.drew HS5.out);rcases hoff:pw D1 with _|_
   ·have HWR:=zH (fun w h=>mR db D1 j rd w h oM hrs hoff)
    have HOO:=zH hoff;clear hoff hrs;obtain⟨c0,c1,c2,c3,c4,c5,c6,c7,z,hlt⟩:=HS5.out.cells
    go_region_held3 (fun w'=>w'.cell? ⟨sb,0,none⟩=some (.pointer (some ⟨db,0,none⟩))∧w'.cell? ⟨sb,6,none⟩=some (.int .i64 x))
     (first
      |with_reducible assumption
      |with_reducible exact HC0
      |with_reducible exact SD.zs hs6
      |with_reducible exact SD.zs hs6a
      |exact SD.zs hs6a
      |with_reducible exact SD.zs hs7
      |with_reducible exact SD.zs hs8)
     (first
      |(go_at_call 26;with_reducible refine(HIT.out _ (SD.env (SD.drew HS5.out)).tens).mono ?_;rintro e w6 ⟨rfl,hb6⟩
        have hs6:=SD.keep (SD.drew HS5.out) hb6;have hba:=(Below.refl w6.heap.size w6).alloc (Nat.le_refl _) (.cells #[.string ix,.string xl] 9);have hs6a:=SD.keep hs6 hba)
      |(go_at_call 189;with_reducible refine(HSE.out _ _ _ (HROW.out _)).mono ?_;rintro e w7 ⟨rfl,hb7⟩
        have hs7:=SD.keep hs6a hb7)
      |(go_at_call 187;with_reducible refine(HWR.out _ (SD.disk hs7)).mono ?_;rintro e w8 ⟨rfl,hd8,hg8⟩
        have hs8:=SD.wrote hs7 hd8 hg8))
    have HS8:=zH hs8;have HT8:=zH ((((DW HT5.out).below' hb6).below' hba).below' hb7 |>.grown hg8 (by simp;have:=hgb.2;omega));have hr7:=((aD.below (w:=w5.drew) HR5.out hb6).below hba).below hb7;have HR8:=zH (hr7.kept hg8 (hr7.apart hs7.disk.at_ dC));have HW8:=zH (((((HW5.out.trans (dH.of_drew _)).trans (dH.of_below hb6)).trans (dH.of_below hba)).trans (dH.of_below hb7)).trans (dH.of_two hg8));clear hs8 hs7 hs6a hs6 hb6 hba hb7 hd8 hg8 hr7 HS5 HT5 HR5 HW5 HC0 c0 c1 c2 c3 c4 c5 c6 c7 z hlt;obtain⟨c0,c1,c2,c3,c4,c5,c6,c7,z,hlt⟩:=HS8.out.cells;obtain⟨d0,d1,d2⟩:=dQ HT8.out;go_wp2_with fail;go_ret;obtain⟨k1,k2⟩:=HS8.out.became ⟨ck',nx',L'⟩ HR8.out (x+1);refine HEND.out _ _ (.inr ⟨HOO.out,rfl,.slice a1 L'.length ac,?_⟩) (HW8.out.trans (dH.of_one k2));rw[HST.out,hj2,HRD.out];exact k1
   ·obtain⟨q1,q2⟩:=vA hoff
    have HWR:=zH (fun w h=>jq db D1 (j:Int) rd w h oM oM hrs q1 q2);have HOO:=zH hoff;clear hoff hrs q1 q2;obtain⟨c0,c1,c2,c3,c4,c5,c6,c7,z,hlt⟩:=HS5.out.cells
    go_region_held3 (fun w'=>w'.cell? ⟨sb,0,none⟩=some (.pointer (some ⟨db,0,none⟩))∧w'.cell? ⟨sb,6,none⟩=some (.int .i64 x))
     (first
      |with_reducible assumption
      |with_reducible exact HC0
      |with_reducible exact SD.zs hs6
      |with_reducible exact SD.zs hs6a
      |exact SD.zs hs6a
      |with_reducible exact SD.zs hs7
      |with_reducible exact SD.zs hs8)
     (first
      |(go_at_call 26;with_reducible refine(HIT.out _ (SD.env (SD.drew HS5.out)).tens).mono ?_;rintro e w6 ⟨rfl,hb6⟩
        have hs6:=SD.keep (SD.drew HS5.out) hb6;have hba:=(Below.refl w6.heap.size w6).alloc (Nat.le_refl _) (.cells #[.string ix,.string xl] 9);have hs6a:=SD.keep hs6 hba)
      |(go_at_call 189;with_reducible refine(HSE.out _ _ _ (HROW.out _)).mono ?_;rintro e w7 ⟨rfl,hb7⟩
        have hs7:=SD.keep hs6a hb7)
      |(go_at_call 187;with_reducible refine(HWR.out _ (SD.disk hs7)).mono ?_;rintro e w8 ⟨rfl,rfl⟩
        skip))
    have HS7:=zH hs7;have HW7:=zH ((((HW5.out.trans (dH.of_drew _)).trans (dH.of_below hb6)).trans (dH.of_below hba)).trans (dH.of_below hb7));clear hs7 hs6a hs6 hb6 hba hb7 HS5 HT5 HR5 HW5 HC0 c0 c1 c2 c3 c4 c5 c6 c7 z hlt;obtain⟨c0,c1,c2,c3,c4,c5,c6,c7,z,hlt⟩:=HS7.out.cells;go_wp2_with fail;refine(nz sb db ⟨ck,nx,L⟩ _ n1 f1 x false _ HS7.out.st).mono ?_;rintro r w9 ⟨rfl,hs9,hg9⟩;have HS9:=zH (HS7.out.noted hs9 hg9);have HW9:=zH (HW7.out.trans (dH.of_one hg9));clear hs9 hg9;go_wp2_with fail;go_ret;exact HEND.out _ _ (.inl ⟨HOO.out,rfl,HS9.out⟩) HW9.out
theorem Cs (B sb db:Nat) (D:Dk) (s:St) (v:Value) (n f x:Int) (e:Ev) (W:World) (h:SD B sb db D s v n f x false W) (hs:e.fam.short 5000) (hf:D.fits) (hfit:iQ s) (h0:0≤n) (h1:n<1000000) (h2:0≤f) (h3:f≤x) (h4:x<1000000):
  Calls prog 190 #[.pointer (some ⟨sb,0,none⟩),aE e] W (oV W B sb db D s v n f x e):=by
 rcases he:dp e with _|_
 ·exact IP B sb db D s v n f x e W h hs he
 ·exact GA B sb db D s v n f x e W h hs he hf hfit h0 h1 h2 h3 h4
end Go.Proofs.YtepjcdjpikbbjaaGreatDoor
