/-
  What the last step of every statement that is a card wants.
-/
import Derived.Test.YtepjcdjpikbbjaaGreatDoorU00
import Derived.Test.YtepjcdjpikbbjaaGreatDoorCards
import Derived.Test.YtepjcdjpikbbjaaGreatDoorTie
import Derived.Test.YtepjcdjpikbbjaaGreatDoorU26
import Derived.Test.YtepjcdjpikbbjaaGreatDoorU17
import Derived.Test.YtepjcdjpikbbjaaGreatDoorU22
import Derived.Test.YtepjcdjpikbbjaaGreatDoorU12
import Derived.Test.YtepjcdjpikbbjaaGreatDoorU05
import Derived.Test.YtepjcdjpikbbjaaGreatDoorU24
import Derived.Test.YtepjcdjpikbbjaaGreatDoorU20
import Derived.Test.YtepjcdjpikbbjaaGreatDoorU21
import Derived.Test.YtepjcdjpikbbjaaGreatDoorU10
import Derived.RegionTactic
import Derived.Test.YtepjcdjpikbbjaaGreatDoorU16
set_option maxHeartbeats 8000000
set_option maxRecDepth 100000
namespace Go.Proofs.YtepjcdjpikbbjaaGreatDoor
open Go.Proofs.Tryz
open Go.RowKit Go.Sort
section
variable {w w':World} {rb:Nat} {z:SS} {v:Value}
theorem gX.below' (h:gX w rb z v) (hb:Below w.heap.size w w'):gX w' rb z v:=aj.below' h hb
theorem gX.apart {B:Nat} {v':Value} {L:List an} (h:gX w rb z v) (hr:aD w B v' L):v'.ownBlock≠some rb:=hr.apart h dC
theorem gX.become (h:gX w rb z v) (n ck nx:Int) (L:List an) (v':Value):
  gX ((((w.setCell ⟨rb,3,none⟩ (.int .i64 n)).setCell ⟨rb,0,none⟩ (.int .i64 ck)).setCell ⟨rb,1,none⟩ (.int .i64 nx)).setCell ⟨rb,2,none⟩ v') rb ⟨⟨ck,nx,L⟩,n,z.writes,z.off,z.left,z.down⟩ v'∧
   w.grownBy ((((w.setCell ⟨rb,3,none⟩ (.int .i64 n)).setCell ⟨rb,0,none⟩ (.int .i64 ck)).setCell ⟨rb,1,none⟩ (.int .i64 nx)).setCell ⟨rb,2,none⟩ v') (some rb):=by
 have e0:=aj.put_ h 3 (.int .i64 n) (cs':=pG (CS z n) v) rfl;have e1:=aj.put_ e0 0 (.int .i64 ck) (cs':=pG ⟨⟨ck,z.s.next,z.s.fams⟩,n,z.writes,z.off,z.left,z.down⟩ v) rfl;have e2:=aj.put_ e1 1 (.int .i64 nx) (cs':=pG ⟨⟨ck,nx,z.s.fams⟩,n,z.writes,z.off,z.left,z.down⟩ v) rfl;have e3:=aj.put_ e2 2 v' (cs':=pG ⟨⟨ck,nx,L⟩,n,z.writes,z.off,z.left,z.down⟩ v') rfl;have g0:=aZ w rb ⟨rb,3,none⟩ rfl (.int .i64 n);have g1:=ag g0 (p:=⟨rb,0,none⟩) (.inl rfl) (.int .i64 ck);have g2:=ag g1 (p:=⟨rb,1,none⟩) (.inl rfl) (.int .i64 nx);exact⟨e3,ag g2 (p:=⟨rb,2,none⟩) (.inl rfl) v'⟩
end
theorem qm (z:SS):(df z).1.s=z.s∧((df z).2=0→(df z).1.log=0):=by
 have hrun: ∀ (n:Nat) (z:SS),(lh n z).1.s=z.s:=by
  intro n
  induction n with
  |zero=>intro z;rfl
  |succ n ih=>
   intro z;rcases ho:kC z with _|_
   ·rw[sJ n ho,ih];rfl
   ·rw[vf n ho];rfl
 unfold df;split
 ·exact⟨rfl,fun h=>absurd h (show ¬ (6:Int)=0 by decide)⟩
 ·split
  ·exact⟨hrun _ z,fun _=>rfl⟩
  ·exact⟨hrun _ z,fun h=>absurd h (show ¬ (14:Int)=0 by decide)⟩
def kH (W:World) (B rb:Nat) (r:SS×Int) (e:Ending) (w':World):Prop:=e=.returned (.int .i64 r.2)∧W.grownBy w' (some rb)∧ ∃ v',gX w' rb r.1 v'∧aD w' B v' r.1.s.fams
structure RG (W:World) (B rb:Nat) (z:SS) (v:Value) (e:Ev) (w:World):Prop where
 at_:gX w rb z v
 row:aD w B v z.s.fams
 ev:aj w W.heap.size 145 (ax e)
 only:W.grownBy w (some rb)
 lt:rb<W.heap.size
 big:B≤W.heap.size
section
variable {W w w':World} {B rb:Nat} {z:SS} {v:Value} {e:Ev}
theorem RG.start (h:gX W rb z v) (hr:aD W B v z.s.fams) (hB:B≤W.heap.size):RG W B rb z v e (W.alloc (.cells (ax e) 145)):=by
 have hb:Below W.heap.size W (W.alloc (.cells (ax e) 145)):=(Below.refl _ _).alloc (Nat.le_refl _) _;exact⟨h.below' hb,hr.below hb,aj.new W _ _,aG hb _,aj.lt h,hB⟩
theorem RG.keep (h:RG W B rb z v e w) (hb:Below w.heap.size w w'):RG W B rb z v e w':=⟨h.at_.below' hb,h.row.below hb,h.ev.below' hb,ii h.only hb,h.lt,h.big⟩
theorem RG.turn (h:RG W B rb z v e w) {z':SS} (ha:gX w' rb z' v) (hs:z'.s=z.s) (hg:w.grownBy w' (some rb)):RG W B rb z' v e w':=
 ⟨ha,by rw[hs];exact h.row.kept hg (h.at_.apart h.row),h.ev.grown hg (by simpa using h.ev.ne_ h.at_ dC),aU h.only hg,h.lt,h.big⟩
theorem RG.done (h:RG W B rb z v e w) (c:Int):kH W B rb (z,c) (.returned (.int .i64 c)) w:=⟨rfl,h.only,v,h.at_,h.row⟩
theorem RG.twelve {kd i:Int} {cl su sc:ByteArray} {ge ma us:Int} {re:ByteArray} {de:Bool} {id ti:Int} (h:RG W B rb z v ⟨kd,⟨i,cl,su,sc,ge,ma,us,re,de⟩,id,ti⟩ w):
  w.cell? ⟨W.heap.size,0,none⟩=some (.int .i64 kd)∧w.cell? ⟨W.heap.size,1,none⟩=some (.int .i64 i)∧w.cell? ⟨W.heap.size,2,none⟩=some (.string cl)∧w.cell? ⟨W.heap.size,3,none⟩=some (.string su)∧w.cell? ⟨W.heap.size,4,none⟩=some (.string sc)∧w.cell? ⟨W.heap.size,5,none⟩=some (.int .i64 ge)∧
  w.cell? ⟨W.heap.size,6,none⟩=some (.int .i64 ma)∧w.cell? ⟨W.heap.size,7,none⟩=some (.int .i64 us)∧w.cell? ⟨W.heap.size,8,none⟩=some (.string re)∧w.cell? ⟨W.heap.size,9,none⟩=some (.bool de)∧w.cell? ⟨W.heap.size,10,none⟩=some (.int .i64 id)∧w.cell? ⟨W.heap.size,11,none⟩=some (.int .i64 ti):=
 ⟨h.ev.cell 0,h.ev.cell 1,h.ev.cell 2,h.ev.cell 3,h.ev.cell 4,h.ev.cell 5,h.ev.cell 6,h.ev.cell 7,h.ev.cell 8,h.ev.cell 9,h.ev.cell 10,h.ev.cell 11⟩
theorem RG.drew (h:RG W B rb z v e w):RG W B rb z v e w.drew:=⟨h.at_,h.row,h.ev,lZ h.only,h.lt,h.big⟩
theorem RG.now (h:RG W B rb z v e w):B≤w.heap.size:=Nat.le_trans h.big h.only.size
theorem RG.three {ck nx:Int} {L:List an} {lg wr:Int} {off:Bool} {lf:Int} {dn:Bool} (h:RG W B rb ⟨⟨ck,nx,L⟩,lg,wr,off,lf,dn⟩ v e w):w.cell? ⟨rb,0,none⟩=some (.int .i64 ck)∧w.cell? ⟨rb,1,none⟩=some (.int .i64 nx)∧w.cell? ⟨rb,2,none⟩=some v:=⟨aj.cell h.at_ 0,aj.cell h.at_ 1,aj.cell h.at_ 2⟩
theorem RG.some_ (h:RG W B rb z v e w):w.cell? ⟨rb,0,none⟩=some (.int .i64 z.s.clock)∧w.cell? ⟨rb,1,none⟩=some (.int .i64 z.s.next)∧w.cell? ⟨rb,2,none⟩=some v∧w.cell? ⟨rb,3,none⟩=some (.int .i64 z.log)∧w.cell? ⟨rb,7,none⟩=some (.bool z.down)∧(∀ j,w.frozen? ⟨rb,j,none⟩=false)∧rb<w.heap.size:=
 ⟨aj.cell h.at_ 0,aj.cell h.at_ 1,aj.cell h.at_ 2,aj.cell h.at_ 3,aj.cell h.at_ 7,aj.frozen h.at_,aj.lt h.at_⟩
end
def Hq (W:World) (e:Ending) (w':World):Prop:= ∃ rb,e=.returned (.pointer (some ⟨rb,0,none⟩))∧gX w' rb nu (.slice none 0 0)∧W.heap.size≤rb∧Below W.heap.size W w'
theorem uo (W:World):Calls prog 14 #[] W (Hq W):=by
 go_enter Tryz.func14,Tryz.ntmps14;go_wp2_with fail;go_ret;exact⟨_,rfl,aj.new W _ _,Nat.le_refl _,(Below.refl _ _).alloc (Nat.le_refl _) _⟩
section
variable (B rb:Nat) (z:SS) (v:Value) (ev:Ev) (W:World)
theorem uL (h:gX W rb z v) (hr:aD W B v z.s.fams) (hB:B≤W.heap.size) (hd:z.down=true):
  Calls prog 91 #[.pointer (some ⟨rb,0,none⟩),aE ev] W (kH W B rb (aV z ev)):=by
 rw[uq hd];have H:=zH (RG.start (e:=ev) h hr hB);obtain⟨kd,⟨i,cl,su,sc,ge,ma,us,re,de⟩,id,ti⟩:=ev;obtain⟨c0,c1,c2,c3,c7,hz,hlt⟩:=H.out.some_;rw[hd]at c7;clear h hr hd;unfold ax at*;unfold aE ax;dsimp only at*;go_enter Tryz.func91,Tryz.ntmps91;go_wp2_with fail;go_ret;exact H.out.done 6
theorem wV (h:gX W rb z v) (hr:aD W B v z.s.fams) (hB:B≤W.heap.size) (hd:z.down=false) (hs:ev.fam.short 5000) (he:dp ev=false):
  Calls prog 91 #[.pointer (some ⟨rb,0,none⟩),aE ev] W (kH W B rb (aV z ev)):=by
 rw[x7 hd he];have H:=zH (RG.start (e:=ev) h hr hB);have HY:=zH (fun w=>Ar ev w hs);rw[he]at HY;clear he hs;obtain⟨kd,⟨i,cl,su,sc,ge,ma,us,re,de⟩,id,ti⟩:=ev;obtain⟨c0,c1,c2,c3,c7,hz,hlt⟩:=H.out.some_;obtain⟨e0,e1,e2,e3,e4,e5,e6,e7,e8,e9,e10,e11⟩:=H.out.twelve;rw[hd]at c7;clear h hr hd;unfold aE at HY;unfold ax at*;unfold aE ax;dsimp only at*;go_enter Tryz.func91,Tryz.ntmps91;go_wp2_with fail;go_at_call 142;refine(HY.out _).mono ?_;rintro e w1 ⟨rfl,hb⟩;have H1:=zH (H.out.keep hb);clear hb;go_wp2_with fail;go_ret;exact H1.out.done 1
end
theorem vZ (B rb:Nat) (z:SS) (v:Value) (ev:Ev) (W:World) (h:gX W rb z v) (hr:aD W B v z.s.fams) (hB:B≤W.heap.size) (hok:kn z.s) (hd:z.down=false) (hs:ev.fam.short 5000) (he:dp ev=true) (hll:z.s.fams.length≤1000000) (hlg:0≤z.log∧z.log≤1000000):
  Calls prog 91 #[.pointer (some ⟨rb,0,none⟩),aE ev] W (kH W B rb (aV z ev)):=by
 have H:=zH (RG.start (e:=ev) h hr hB);have HY:=zH (fun w=>Ar ev w hs);rw[he]at HY;obtain⟨sa,sc,rfl⟩:=hr.slice
 have HAP:Hid (∀ w,aD w B (.slice sa z.s.fams.length sc) z.s.fams→Calls prog 143 #[dj z.s (.slice sa z.s.fams.length sc),aE ev] w (iS w (am z.s ev).clock (am z.s ev).next (am z.s ev).fams)):=
  zH fun w hr=>(Bh B _ z.s ev w hr hok he).mono fun _ _ h=>fG h
 have HFULL:=zH (fun hl=>tC (z:=z) (e:=ev) hd he hl);have HONE:=zH (fun hl h16=>xw (z:=z) (e:=ev) hd he hl h16);have HSAVE:=zH (fun hl h16=>o9 (z:=z) (e:=ev) hd he hl h16);have HOL:=zH hll;obtain⟨hlg0,hlg1⟩:=hlg;clear he hs h hr hok hll;obtain⟨⟨ck,nx,L⟩,lg,wr,of,lf,dn⟩:=z;dsimp only at hd;subst hd;generalize aV ⟨⟨ck,nx,L⟩,lg,wr,of,lf,false⟩ ev=R at*;generalize hs2:am ⟨ck,nx,L⟩ ev=s2 at*;clear hs2;obtain⟨ck2,nx2,L2⟩:=s2;obtain⟨kd,⟨i,cl,su,scp,ge,ma,us,re,de⟩,id,ti⟩:=ev;obtain⟨c0,c1,c2,c3,c7,hz,hlt⟩:=H.out.some_;obtain⟨e0,e1,e2,e3,e4,e5,e6,e7,e8,e9,e10,e11⟩:=H.out.twelve;unfold aE at HY;unfold iS dj dN aE at HAP;unfold ax at*;unfold aE ax;dsimp only at*;go_enter Tryz.func91,Tryz.ntmps91;go_wp2_with fail;go_at_call 142;refine(HY.out _).mono ?_;rintro e w1 ⟨rfl,hb⟩;have H1:=zH (H.out.keep hb);clear hb H HY c0 c1 c2 c3 c7 hz hlt e0 e1 e2 e3 e4 e5 e6 e7 e8 e9 e10 e11;obtain⟨c0,c1,c2,c3,c7,hz,hlt⟩:=H1.out.some_;obtain⟨e0,e1,e2,e3,e4,e5,e6,e7,e8,e9,e10,e11⟩:=H1.out.twelve;dsimp only at*;go_wp2_with fail;have HSD:=H1.out.drew;clear c0 c1 c2 c3 c7 hz hlt e0 e1 e2 e3 e4 e5 e6 e7 e8 e9 e10 e11;refine aR (RG W B rb ⟨⟨ck,nx,L⟩,lg,wr,of,lf,false⟩ (.slice sa L.length sc) ⟨kd,⟨i,cl,su,scp,ge,ma,us,re,de⟩,id,ti⟩) [7] kR ?_;refine aa 2 (i:=0) (v:= ?v0) rfl kR kR kR kR kR (fun _ _ _ h=>h) (by rfl) ?hy0 aS ?rest0
 case hy0=>(intro w hSw;obtain⟨c0,c1,c2⟩:=hSw.three;obtain⟨e0,e1,e2,e3,e4,e5,e6,e7,e8,e9,e10,e11⟩:=hSw.twelve;go_simp;(try with_reducible rfl))
 simp only[Act.put];refine aa 2 (i:=1) (v:= ?v1) rfl kR kR kR kR kR (fun _ _ _ h=>h) (by rfl) ?hy1 aS ?rest1
 case hy1=>(intro w hSw;obtain⟨c0,c1,c2⟩:=hSw.three;obtain⟨e0,e1,e2,e3,e4,e5,e6,e7,e8,e9,e10,e11⟩:=hSw.twelve;go_simp;(try with_reducible rfl))
 simp only[Act.put];refine aa 2 (i:=2) (v:= ?v2) rfl kR kR kR kR kR (fun _ _ _ h=>h) (by rfl) ?hy2 aS ?rest2
 case hy2=>(intro w hSw;obtain⟨c0,c1,c2⟩:=hSw.three;obtain⟨e0,e1,e2,e3,e4,e5,e6,e7,e8,e9,e10,e11⟩:=hSw.twelve;go_simp;(try with_reducible rfl))
 simp only[Act.put];refine aa 2 (i:=3) (v:= ?v3) rfl kR kR kR kR kR (fun _ _ _ h=>h) (by rfl) ?hy3 aS ?rest3
 case hy3=>(intro w hSw;obtain⟨c0,c1,c2⟩:=hSw.three;obtain⟨e0,e1,e2,e3,e4,e5,e6,e7,e8,e9,e10,e11⟩:=hSw.twelve;go_simp;(try with_reducible rfl))
 simp only[Act.put];refine aa 2 (i:=4) (v:= ?v4) rfl kR kR kR kR kR (fun _ _ _ h=>h) (by rfl) ?hy4 aS ?rest4
 case hy4=>(intro w hSw;obtain⟨c0,c1,c2⟩:=hSw.three;obtain⟨e0,e1,e2,e3,e4,e5,e6,e7,e8,e9,e10,e11⟩:=hSw.twelve;go_simp;(try with_reducible rfl))
 simp only[Act.put];refine fA (i:=5) (j:=6) kR rfl rfl ?cA ?cB
 case' cA=>
  intro K5 hK5;go_simp;go_at_call 143;refine(HAP.out _ HSD.row).mono ?_;rintro r w2 ⟨a1,ac,rfl,hr1,hb⟩;have HSD2:=HSD.keep hb;have hr2:=hr1.mono (B':=B) HSD.now
  try dsimp only
  refine hK5.out _ _ (fun _=>HSD2) ?_
  try simp only[Act.put]
  refine ai (i:=6) kR rfl ?_;intro K6 hK6;go_simp;have hb3:=(Below.refl w2.heap.size w2).alloc (Nat.le_refl _) (.cells #[.int .i64 0,.int .i64 0,.slice none 0 0] 83);have HSD3:=HSD2.keep hb3;have hz:=aj.new w2 83 #[.int .i64 0,.int .i64 0,.slice none 0 0];have hr3:=hr2.below hb3;refine hK6.out _ _ (fun _=>HSD3) ?_
  try simp only[Act.put]
  obtain⟨hz1,hz2⟩:=ql hz (.int .i64 ck2) (.int .i64 nx2) (.slice a1 L2.length ac);have hb4:=hb3.grown hz2 hb3.size (fun _ hk=>by cases hk;exact Nat.le_refl _);have hne:Value.ownBlock (.slice a1 L2.length ac)≠some w2.heap.size:=fun he=>by have:=(hr2.lt _ he).2;omega
  have HS:=zH (HSD2.keep hb4);have HT:=zH hz1;have HR:=zH (hr3.kept hz2 hne);have hlt2:w2.heap.size<(w2.alloc (.cells #[.int .i64 0,.int .i64 0,.slice none 0 0] 83)).heap.size:=hz.lt;obtain⟨d0,d1,d2⟩:=dQ hz;have dz:=hz.frozen;generalize w2.alloc (.cells #[.int .i64 0,.int .i64 0,.slice none 0 0] 83)=w2a at*;refine ai (i:=7) kR rfl ?_;intro K7 hK7;go_simp
  try dsimp only
  refine hK7.out _ _ (fun h=>absurd h dC) ?_;refine aX kR ?_ _;have hgb:W.heap.size≤w2.heap.size:=HSD2.only.size;generalize w2.heap.size=tb at*;generalize ((w2a.setCell ⟨tb,0,none⟩ (.int .i64 ck2)).setCell ⟨tb,1,none⟩ (.int .i64 nx2)).setCell ⟨tb,2,none⟩ (.slice a1 L2.length ac)=w3 at*;clear hz hz1 hz2 hb3 hb4 hr1 hr2 hr3 HSD HSD2 HSD3 hb H1 d0 d1 d2 dz;clear hlt2
 case' cB=>
  intro K6 hK6;go_simp;have hb3:Below w1.drew.heap.size w1.drew (w1.alloc (.cells #[.int .i64 0,.int .i64 0,.slice none 0 0] 83)).drew:=(Below.refl w1.heap.size w1.drew).alloc (Nat.le_refl _) _;have HSD3:=HSD.keep hb3;have hz:aj (w1.alloc (.cells #[.int .i64 0,.int .i64 0,.slice none 0 0] 83)).drew w1.heap.size 83 #[.int .i64 0,.int .i64 0,.slice none 0 0]:=aj.new w1 _ _;refine hK6.out _ _ (fun _=>HSD3) ?_
  try simp only[Act.put]
  refine ai (i:=5) kR rfl ?_;intro K5 hK5;go_simp;go_at_call 143;have hsz1:w1.heap.size<(w1.alloc (.cells #[.int .i64 0,.int .i64 0,.slice none 0 0] 83)).drew.heap.size:=hz.lt;have hgb:W.heap.size≤w1.heap.size:=H1.out.only.size;generalize (w1.alloc (.cells #[.int .i64 0,.int .i64 0,.slice none 0 0] 83)).drew=w1a at*;refine(HAP.out _ HSD3.row).mono ?_;rintro r w2 ⟨a1,ac,rfl,hr1,hb⟩;have HSD2:=HSD3.keep hb;have hz0:=hz.below' hb;have hb2:=ae hb3 hb;have hr2:=hr1.mono (B':=B) HSD3.now
  try dsimp only
  refine hK5.out _ _ (fun _=>HSD2) ?_
  try simp only[Act.put]
  obtain⟨hz1,hz2⟩:=ql hz0 (.int .i64 ck2) (.int .i64 nx2) (.slice a1 L2.length ac);have hb4:=hb2.grown hz2 hb2.size (fun _ hk=>by cases hk;exact Nat.le_refl _);have hne:Value.ownBlock (.slice a1 L2.length ac)≠some w1.heap.size:=fun he=>by have:=(hr1.lt _ he).1;omega
  have HS:=zH (HSD.keep hb4);have HT:=zH hz1;have HR:=zH (hr2.kept hz2 hne);obtain⟨d0,d1,d2⟩:=dQ hz0;have dz:=hz0.frozen;refine ai (i:=7) kR rfl ?_;intro K7 hK7;go_simp
  try dsimp only
  refine hK7.out _ _ (fun h=>absurd h dC) ?_;refine aX kR ?_ _;clear HSD3 hsz1 hb hz0;generalize w1.heap.size=tb at*;generalize ((w2.setCell ⟨tb,0,none⟩ (.int .i64 ck2)).setCell ⟨tb,1,none⟩ (.int .i64 nx2)).setCell ⟨tb,2,none⟩ (.slice a1 L2.length ac)=w3 at*;clear hz hz1 hz2 hb3 hb4 hb2 hr1 hr2 HSD HSD2 H1 d0 d1 d2 dz hne
 all_goals
  obtain⟨d0,d1,d2⟩:=dQ HT.out;obtain⟨c0,c1,c2,c3,c7,hz,hlt⟩:=HS.out.some_;dsimp only at c0 c1 c2 c3 c7
  by_cases hl:20<L2.length
  ·have hx:=HFULL.out hl
   have HX:=zH hx;clear hx;go_wp2_with fail;go_ret;rw[HX.out];exact HS.out.done 12
  ·by_cases h16:lg=16
   ·have hx:=HSAVE.out oM h16
    have HX:=zH hx;have HA:=zH HS.out.at_;have HG:=zH HS.out.only;have HW:=zH HS.out.row;have HSV:=zH (qm ⟨⟨ck,nx,L⟩,lg,wr,of,lf,false⟩);have HRS:=zH (wX rb _ _ B w3 HS.out.at_ HS.out.row (by have:=HOL.out;dsimp only at this ⊢;omega));subst h16;clear hx HS;generalize df ⟨⟨ck,nx,L⟩,16,wr,of,lf,false⟩=Q at*;obtain⟨z1,cq⟩:=Q;dsimp only at*;go_wp2_with fail;go_at_call 41;refine HRS.out.mono ?_;rintro e w4 ⟨rfl,hra,hg⟩;have HA4:=zH hra;have HG4:=zH (aU HG.out hg);have HT4:=zH (HT.out.grown hg (by simpa using HT.out.ne_ HA.out dC));have HR4:=zH (HR.out.kept hg (HA.out.apart HR.out));have HW4:=zH (HW.out.kept hg (HA.out.apart HW.out));clear hra hg HA HG HT HR HW HRS d0 d1 d2 c0 c1 c2 c3 c7 hz hlt;dsimp only at*
    by_cases hq:cq=0
    ·subst hq
     have hx:=HX.out;rw[if_pos rfl]at hx;obtain⟨hs1,hs2⟩:=HSV.out;have hl0:=hs2 rfl;have HX:=zH hx;have HA:=HA4;have HG:=HG4;have HT:=HT4;have HR:=HR4;have HW:=HW4;have HS1:=zH hs1;have hlz:z1.log=0:=hl0;have HLZ:=zH hlz;clear hx hs1 hs2 hl0 HA4 HG4 HT4 HR4 HW4 hlz;rcases ho:kC z1 with _|_
     ·have HO:=zH ho
      clear ho;go_wp2_with fail;go_at_call 90;refine(kE rb z1 _ w4 HA.out HO.out).mono ?_;rintro e w5 ⟨rfl,hra,hg⟩;have HA5:=zH hra;have HG5:=zH (aU HG.out hg);have HT5:=zH (HT.out.grown hg (by simpa using HT.out.ne_ HA.out dC));have HR5:=zH (HR.out.kept hg (HA.out.apart HR.out));clear hra hg HA HG HT HR;have hlast:R=(Di (kD z1) ⟨ck2,nx2,L2⟩,0):=by rw[HX.out];exact oJ HO.out
      have HL:=zH hlast;have hbe:=HA5.out.become ((z1).log+1) ck2 nx2 L2 (.slice a1 L2.length ac);have HBE:=zH hbe;have HBR:=zH (HR5.out.kept hbe.2 (HA5.out.apart HR5.out));obtain⟨d0,d1,d2⟩:=dQ HT5.out;have c3:w5.cell? ⟨rb,3,none⟩=some (.int .i64 (z1).log):=aj.cell HA5.out 3;have c0:w5.cell? ⟨rb,0,none⟩=some (.int .i64 (kD z1).s.clock):=aj.cell HA5.out 0;have c1:w5.cell? ⟨rb,1,none⟩=some (.int .i64 (kD z1).s.next):=aj.cell HA5.out 1;have c2:w5.cell? ⟨rb,2,none⟩=some (.slice sa L.length sc):=aj.cell HA5.out 2;have hfz:=aj.frozen HA5.out;have hnt:tb≠rb:=HT5.out.ne_ HA5.out dC;have hnt':rb≠tb:=hnt.symm;clear hlast hbe;rw[HLZ.out]at c3 HBE HBR;have hds:(0:Int)+1=1:=rfl;rw[hds]at HBE HBR;go_wp2_with fail;go_ret;rw[HL.out];exact⟨rfl,aU HG5.out HBE.out.2,_,(by unfold Di;rw[show(kD z1).log+1=1 from by show z1.log+1=1;rw[HLZ.out];rfl];exact HBE.out.1),HBR.out⟩
     ·have HO:=zH ho
      clear ho;go_wp2_with fail;go_at_call 90;refine(jR rb z1 _ w4 HA.out HO.out).mono ?_;rintro e w5 ⟨rfl,hra,hg⟩;have HA5:=zH hra;have HG5:=zH (aU HG.out hg);have HW5:=zH (HW.out.kept hg (HA.out.apart HW.out));clear hra hg HA HG HT HR HW;have hlast:R=(jF z1,14):=by rw[HX.out];exact mq HO.out
      have HL:=zH hlast;clear hlast;go_wp2_with fail;go_ret;rw[HL.out];exact⟨rfl,HG5.out,_,HA5.out,(by rw[show(jF z1).s=z1.s from rfl,HS1.out];exact HW5.out)⟩
    ·have hq':(cq == 0)=false:=by simpa using hq
     have hx:=HX.out;rw[if_neg hq]at hx;obtain⟨hs1,hs2⟩:=HSV.out;have HS1:=zH hs1;have HX:=zH hx;clear hx hs1 hs2;go_wp2_with fail;go_ret;rw[HX.out];exact⟨rfl,HG4.out,_,HA4.out,by rw[HS1.out];exact HW4.out⟩
   ·have hx:=HONE.out oM h16
    have HX:=zH hx;have h16':(lg == 16)=false:=by simpa using h16
    have HA:=zH HS.out.at_;have HG:=zH HS.out.only;have HW:=zH HS.out.row;clear hx HS;rcases ho:kC (SS.mk ⟨ck,nx,L⟩ lg wr of lf false)with _|_
    ·have HO:=zH ho
     clear ho;go_wp2_with fail;go_at_call 90;refine(kE rb (SS.mk ⟨ck,nx,L⟩ lg wr of lf false) _ w3 HA.out HO.out).mono ?_;rintro e w5 ⟨rfl,hra,hg⟩;have HA5:=zH hra;have HG5:=zH (aU HG.out hg);have HT5:=zH (HT.out.grown hg (by simpa using HT.out.ne_ HA.out dC));have HR5:=zH (HR.out.kept hg (HA.out.apart HR.out));clear hra hg HA HG HT HR;have hlast:R=(Di (kD (SS.mk ⟨ck,nx,L⟩ lg wr of lf false)) ⟨ck2,nx2,L2⟩,0):=by rw[HX.out];exact oJ HO.out
     have HL:=zH hlast;have hbe:=HA5.out.become (((SS.mk ⟨ck,nx,L⟩ lg wr of lf false)).log+1) ck2 nx2 L2 (.slice a1 L2.length ac);have HBE:=zH hbe;have HBR:=zH (HR5.out.kept hbe.2 (HA5.out.apart HR5.out));obtain⟨d0,d1,d2⟩:=dQ HT5.out;have c3:w5.cell? ⟨rb,3,none⟩=some (.int .i64 ((SS.mk ⟨ck,nx,L⟩ lg wr of lf false)).log):=aj.cell HA5.out 3;have c0:w5.cell? ⟨rb,0,none⟩=some (.int .i64 (kD (SS.mk ⟨ck,nx,L⟩ lg wr of lf false)).s.clock):=aj.cell HA5.out 0;have c1:w5.cell? ⟨rb,1,none⟩=some (.int .i64 (kD (SS.mk ⟨ck,nx,L⟩ lg wr of lf false)).s.next):=aj.cell HA5.out 1;have c2:w5.cell? ⟨rb,2,none⟩=some (.slice sa L.length sc):=aj.cell HA5.out 2;have hfz:=aj.frozen HA5.out;have hnt:tb≠rb:=HT5.out.ne_ HA5.out dC;have hnt':rb≠tb:=hnt.symm;clear hlast hbe
     try dsimp only at c3 c0 c1 c2 HBE
     go_wp2_with fail;go_ret;rw[HL.out];exact⟨rfl,aU HG5.out HBE.out.2,_,HBE.out.1,HBR.out⟩
    ·have HO:=zH ho
     clear ho;go_wp2_with fail;go_at_call 90;refine(jR rb (SS.mk ⟨ck,nx,L⟩ lg wr of lf false) _ w3 HA.out HO.out).mono ?_;rintro e w5 ⟨rfl,hra,hg⟩;have HA5:=zH hra;have HG5:=zH (aU HG.out hg);have HW5:=zH (HW.out.kept hg (HA.out.apart HW.out));clear hra hg HA HG HT HR HW;have hlast:R=(jF (SS.mk ⟨ck,nx,L⟩ lg wr of lf false),14):=by rw[HX.out];exact mq HO.out
     have HL:=zH hlast;clear hlast;go_wp2_with fail;go_ret;rw[HL.out];exact⟨rfl,HG5.out,_,HA5.out,HW5.out⟩
theorem sA (B rb:Nat) (z:SS) (v:Value) (ev:Ev) (W:World) (h:gX W rb z v) (hr:aD W B v z.s.fams) (hB:B≤W.heap.size) (hfit:iQ z.s) (hs:ev.fam.short 5000) (hlg:0≤z.log∧z.log≤1000000):
  Calls prog 91 #[.pointer (some ⟨rb,0,none⟩),aE ev] W (kH W B rb (aV z ev)):=by
 rcases hd:z.down with _|_
 ·rcases he:dp ev with _|_
  ·exact wV B rb z v ev W h hr hB hd hs he
  ·exact vZ B rb z v ev W h hr hB hfit.ok hd hs he (by have:=hfit.len;omega) hlg
 ·exact uL B rb z v ev W h hr hB hd
structure RV (B qb rb:Nat) (r:Ru) (z:SS) (v:Value) (w:World):Prop where
 at_:aj w qb 54 (oP rb r)
 ra:gX w rb z v
 rr:aD w B v z.s.fams
 big:B≤w.heap.size
 env:pR B w
 tab:cW w
 g15:9<B
 rb_:B≤rb
section
variable {B qb rb:Nat} {r:Ru} {z:SS} {v:Value} {w w':World}
theorem RV.keep (h:RV B qb rb r z v w) (hb:Below w.heap.size w w'):RV B qb rb r z v w':=⟨h.at_.below' hb,h.ra.below' hb,h.rr.below hb,Nat.le_trans h.big hb.size,h.env.new h.big hb,h.tab.below hb h.tab.lt,h.g15,h.rb_⟩
theorem RV.drew (h:RV B qb rb r z v w):RV B qb rb r z v w.drew:=h.keep (au (Below.refl _ _))
theorem RV.five (h:RV B qb rb r z v w):w.cell? ⟨qb,0,none⟩=some (.pointer (some ⟨rb,0,none⟩))∧w.cell? ⟨qb,1,none⟩=some (.int .i64 r.key)∧w.cell? ⟨qb,2,none⟩=some (.int .i64 r.idle)∧w.cell? ⟨qb,3,none⟩=some (.int .i64 r.life)∧w.cell? ⟨qb,4,none⟩=some (.int .i64 r.access)∧qb<w.heap.size:=
 ⟨h.at_.cell 0,h.at_.cell 1,h.at_.cell 2,h.at_.cell 3,h.at_.cell 4,h.at_.lt⟩
theorem RV.three (h:RV B qb rb r z v w):w.cell? ⟨rb,0,none⟩=some (.int .i64 z.s.clock)∧w.cell? ⟨rb,1,none⟩=some (.int .i64 z.s.next)∧w.cell? ⟨rb,2,none⟩=some v∧rb<w.heap.size:=⟨aj.cell h.ra 0,aj.cell h.ra 1,aj.cell h.ra 2,aj.lt h.ra⟩
theorem RV.turn {z':SS} {v':Value} (h:RV B qb rb r z v w) (hg:w.grownBy w' (some rb)) (ha:gX w' rb z' v') (hr:aD w' B v' z'.s.fams):RV B qb rb r z' v' w':=by
 have hb:Below B w w':=(Below.refl _ _).grown hg h.big (fun i hi=>by cases hi;exact h.rb_);exact⟨h.at_.grown hg (by simpa using aj.ne_ h.at_ h.ra dC),ha,hr,Nat.le_trans h.big hg.size,h.env.keep hb,h.tab.below hb h.g15,h.g15,h.rb_⟩
end
def IN (W:World) (B qb rb:Nat) (r:Ru) (q:SS×Int) (e:Ending) (w':World):Prop:=
 e=.returned (.int .i64 q.2)∧W.grownBy w' (some rb)∧ ∃ v',RV B qb rb r q.1 v' w'
theorem uS (a b:Int) (w:World) (ha:0≤a∧a≤1099511627776) (hb:0≤b∧b≤1099511627776):Calls prog 89 #[.int .i64 a,.int .i64 b] w fun e w'=>e=.returned (.int .i64 (cK a b))∧w=w':=by
 obtain⟨a0,a1⟩:=ha;obtain⟨b0,b1⟩:=hb;unfold cK
 by_cases h:a+b>1099511627776
 ·rw[if_pos h]
  go_enter Tryz.func89,Tryz.ntmps89;go_wp2_with fail;go_ret;exact⟨rfl,rfl⟩
 ·rw[if_neg h]
  go_enter Tryz.func89,Tryz.ntmps89;go_wp2_with fail;go_ret;exact⟨rfl,rfl⟩
theorem vK {B qb rb:Nat} {r:Ru} {z:SS} {v:Value} {W:World} (h:RV B qb rb r z v W) (hfit:iQ z.s) (hlg:0≤z.log∧z.log≤1000000) (f:an) (hf:f.short 5000):
  Calls prog 85 #[.pointer (some ⟨qb,0,none⟩),aO f] W (IN W B qb rb r (aV z (aW f))):=by
 have HA:Hid (∀ w,RV B qb rb r z v w→Calls prog 91 #[.pointer (some ⟨rb,0,none⟩),aE (aW f)] w (kH w B rb (aV z (aW f)))):=zH fun w h=>sA B rb z v (aW f) w h.ra h.rr h.big hfit hf hlg
 have H:=zH h;generalize aV z (aW f)=q at*;obtain⟨i,cl,su,sc,ge,ma,us,re,de⟩:=f;unfold aE ax aW at HA;unfold aO af;dsimp only at*;clear h hf hfit hlg;have hal:Below W.heap.size W (W.alloc (.cells #[.int .i64 i,.string cl,.string su,.string sc,.int .i64 ge,.int .i64 ma,.int .i64 us,.string re,.bool de] 95)):=(Below.refl _ _).alloc (Nat.le_refl _) _;have HAL:=zH hal;have H1:=zH (H.out.keep hal);obtain⟨c0,c1,c2,c3,c4,hlt⟩:=H1.out.five;clear hal;go_enter Tryz.func85,Tryz.ntmps85;go_wp2_with fail;have hfb:aj (W.alloc (.cells #[.int .i64 i,.string cl,.string su,.string sc,.int .i64 ge,.int .i64 ma,.int .i64 us,.string re,.bool de] 95)).drew W.heap.size 95 #[.int .i64 i,.string cl,.string su,.string sc,.int .i64 ge,.int .i64 ma,.int .i64 us,.string re,.bool de]:=aj.new W _ _;have HSD:=zH H1.out.drew;have HFB:=zH hfb;have HBD:=zH (aG (au HAL.out) (some rb));have HD:(W.alloc (.cells #[.int .i64 i,.string cl,.string su,.string sc,.int .i64 ge,.int .i64 ma,.int .i64 us,.string re,.bool de] 95)).drew.cell? ⟨qb,0,none⟩=some (.pointer (some ⟨rb,0,none⟩))∧(W.alloc (.cells #[.int .i64 i,.string cl,.string su,.string sc,.int .i64 ge,.int .i64 ma,.int .i64 us,.string re,.bool de] 95)).drew.cell? ⟨W.heap.size,0,none⟩=some (.int .i64 i)∧(W.alloc (.cells #[.int .i64 i,.string cl,.string su,.string sc,.int .i64 ge,.int .i64 ma,.int .i64 us,.string re,.bool de] 95)).drew.cell? ⟨W.heap.size,1,none⟩=some (.string cl)∧(W.alloc (.cells #[.int .i64 i,.string cl,.string su,.string sc,.int .i64 ge,.int .i64 ma,.int .i64 us,.string re,.bool de] 95)).drew.cell? ⟨W.heap.size,2,none⟩=some (.string su)∧(W.alloc (.cells #[.int .i64 i,.string cl,.string su,.string sc,.int .i64 ge,.int .i64 ma,.int .i64 us,.string re,.bool de] 95)).drew.cell? ⟨W.heap.size,3,none⟩=some (.string sc)∧(W.alloc (.cells #[.int .i64 i,.string cl,.string su,.string sc,.int .i64 ge,.int .i64 ma,.int .i64 us,.string re,.bool de] 95)).drew.cell? ⟨W.heap.size,4,none⟩=some (.int .i64 ge)∧(W.alloc (.cells #[.int .i64 i,.string cl,.string su,.string sc,.int .i64 ge,.int .i64 ma,.int .i64 us,.string re,.bool de] 95)).drew.cell? ⟨W.heap.size,5,none⟩=some (.int .i64 ma)∧(W.alloc (.cells #[.int .i64 i,.string cl,.string su,.string sc,.int .i64 ge,.int .i64 ma,.int .i64 us,.string re,.bool de] 95)).drew.cell? ⟨W.heap.size,6,none⟩=some (.int .i64 us)∧(W.alloc (.cells #[.int .i64 i,.string cl,.string su,.string sc,.int .i64 ge,.int .i64 ma,.int .i64 us,.string re,.bool de] 95)).drew.cell? ⟨W.heap.size,7,none⟩=some (.string re)∧(W.alloc (.cells #[.int .i64 i,.string cl,.string su,.string sc,.int .i64 ge,.int .i64 ma,.int .i64 us,.string re,.bool de] 95)).drew.cell? ⟨W.heap.size,8,none⟩=some (.bool de):=⟨c0,hfb.cell 0,hfb.cell 1,hfb.cell 2,hfb.cell 3,hfb.cell 4,hfb.cell 5,hfb.cell 6,hfb.cell 7,hfb.cell 8⟩;clear hfb c0 c1 c2 c3 c4 hlt
 go_region_held3 (fun w'=>w'.cell? ⟨qb,0,none⟩=some (.pointer (some ⟨rb,0,none⟩))∧w'.cell? ⟨W.heap.size,0,none⟩=some (.int .i64 i)∧w'.cell? ⟨W.heap.size,1,none⟩=some (.string cl)∧w'.cell? ⟨W.heap.size,2,none⟩=some (.string su)∧w'.cell? ⟨W.heap.size,3,none⟩=some (.string sc)∧w'.cell? ⟨W.heap.size,4,none⟩=some (.int .i64 ge)∧w'.cell? ⟨W.heap.size,5,none⟩=some (.int .i64 ma)∧w'.cell? ⟨W.heap.size,6,none⟩=some (.int .i64 us)∧w'.cell? ⟨W.heap.size,7,none⟩=some (.string re)∧w'.cell? ⟨W.heap.size,8,none⟩=some (.bool de))
  (first
   |with_reducible assumption
   |with_reducible exact HD)
  (first
   |(go_at_call 91;(with_reducible refine(HA.out _ HSD.out).mono ?_);rintro x' w2 ⟨rfl,hg,v2,ha,hr⟩
     have hs2:=HSD.out.turn hg ha hr;have hend:IN W B qb rb r q (.returned (.int .i64 q.2)) w2:=⟨rfl,aU HBD.out hg,v2,hs2⟩;have hk:=HFB.out.grown hg (by simpa using HFB.out.ne_ HSD.out.ra dC);have hx2:w2.cell? ⟨qb,0,none⟩=some (.pointer (some ⟨rb,0,none⟩))∧w2.cell? ⟨W.heap.size,0,none⟩=some (.int .i64 i)∧w2.cell? ⟨W.heap.size,1,none⟩=some (.string cl)∧w2.cell? ⟨W.heap.size,2,none⟩=some (.string su)∧w2.cell? ⟨W.heap.size,3,none⟩=some (.string sc)∧w2.cell? ⟨W.heap.size,4,none⟩=some (.int .i64 ge)∧w2.cell? ⟨W.heap.size,5,none⟩=some (.int .i64 ma)∧w2.cell? ⟨W.heap.size,6,none⟩=some (.int .i64 us)∧w2.cell? ⟨W.heap.size,7,none⟩=some (.string re)∧w2.cell? ⟨W.heap.size,8,none⟩=some (.bool de):=⟨hs2.five.1,hk.cell 0,hk.cell 1,hk.cell 2,hk.cell 3,hk.cell 4,hk.cell 5,hk.cell 6,hk.cell 7,hk.cell 8⟩))
 go_wp2_with fail;go_ret;exact hend
def km (x:List UInt8):Option (List UInt8):=
 if x=jQ∨x=gA∨x=jd then some [110]
 else if x=cQ∨x=je∨x=mT∨x=fg∨x=gG∨x=fE∨x=eh then some []
 else if x=fJ∨x=ee then some [119,119,119]
 else if x=fB∨x=jt∨x=jb then some [119]
 else if x=jc then some [110,110,110,110]
 else if x=jp then some [110,119]
 else if x=fx then some [119,110,110,110]
 else none
structure jy (W:World) (mb:Nat):Prop where
 cell:W.cell? ⟨0,0,none⟩=some (.map (some mb))
 lt:mb<W.heap.size
 look: ∀ (x:List UInt8) (w:World),x.length≤5000→w.heap[mb]?=W.heap[mb]?→(Instr.lookup 87 (.map (some mb)) (.string (ah x)) true).run prog w=.ok (.tuple #[.string (ah ((km x).getD [])),.bool (km x).isSome]) w
structure iL (W:World) (mb hb qb rb:Nat) (r:Ru) (z:SS) (v:Value) (w:World):Prop where
 at_:aj w hb 56 #[.pointer (some ⟨qb,0,none⟩)]
 rv:RV W.heap.size qb rb r z v w
 below:Below W.heap.size W w
 fm:jy W mb
 bh:W.heap.size≤hb
 bq:W.heap.size≤qb
def Dg (t:TypeId):Bool:=t == 85 || t == 56
def Hj:Obj→Bool
 | .cells _ t _=>Dg t
 |_=>false
structure cR (w w':World):Prop where
 size:w.heap.size≤w'.heap.size
 block: ∀ (i:Nat) (o:Obj),w.heap[i]?=some o→Hj o=false→w'.heap[i]?=some o
section
variable {w w' w'':World}
theorem cR.trans (h:cR w w') (k:cR w' w''):cR w w'':=⟨Nat.le_trans h.size k.size,fun i o hi hm=>k.block i o (h.block i o hi hm) hm⟩
theorem cR.of_below (h:Below w.heap.size w w'):cR w w':=⟨h.size,fun i _ hi _=>(h.block i (Array.getElem?_eq_some_iff.1 hi).1).trans hi⟩
theorem cR.of_one {x:Nat} {t:TypeId} {cs:Array Value} (h:w.grownBy w' (some x)) (hx:aj w x t cs) (ht:Dg t=true):cR w w':=
 ⟨h.size,fun i o hi hm=>by
  have hlt:=(Array.getElem?_eq_some_iff.1 hi).1;refine(h.block i hlt ?_).trans hi;intro he;cases he;unfold aj at hx;rw[hx]at hi;cases hi;rw[show Hj (.cells cs t (0,0))=Dg t from rfl,ht]at hm;cases hm⟩
theorem aj.stayR {g:Nat} {t:TypeId} {cs:Array Value} (h:aj w g t cs) (k:cR w w') (ht:Dg t=false):aj w' g t cs:=k.block g _ h ht
end
section
variable {W w w':World} {mb hb qb rb:Nat} {r:Ru} {z:SS} {v:Value}
theorem iL.keep (h:iL W mb hb qb rb r z v w) (k:Below w.heap.size w w'):iL W mb hb qb rb r z v w':=⟨h.at_.below' k,h.rv.keep k,ae h.below k,h.fm,h.bh,h.bq⟩
theorem iL.drew (h:iL W mb hb qb rb r z v w):iL W mb hb qb rb r z v w.drew:=h.keep (au (Below.refl _ _))
theorem iL.forms (h:iL W mb hb qb rb r z v w):w.cell? ⟨0,0,none⟩=some (.map (some mb)):=(h.below.cell (p:=⟨0,0,none⟩) (World.block_lt_of_cell? W _ h.fm.cell)).trans h.fm.cell
theorem iL.look (h:iL W mb hb qb rb r z v w) (x:List UInt8) (hx:x.length≤5000):(Instr.lookup 87 (.map (some mb)) (.string (ah x)) true).run prog w=.ok (.tuple #[.string (ah ((km x).getD [])),.bool (km x).isSome]) w:=h.fm.look x w hx (h.below.block _ h.fm.lt)
theorem iL.turn {z':SS} {v':Value} (h:iL W mb hb qb rb r z v w) (hg:w.grownBy w' (some rb)) (hr:RV W.heap.size qb rb r z' v' w'):iL W mb hb qb rb r z' v' w'∧cR w w':=
 ⟨⟨h.at_.grown hg (by simpa using h.at_.ne_ h.rv.ra dC),hr,h.below.grown hg h.below.size (fun i hi=>by cases hi;exact h.rv.rb_),h.fm,h.bh,h.bq⟩,cR.of_one hg h.rv.ra rfl⟩
theorem iL.other {qb' rb':Nat} {r':Ru} {z':SS} {v':Value} (h:iL W mb hb qb rb r z v w) (hg:w.grownBy w' (some hb)) (ha:aj w' hb 56 #[.pointer (some ⟨qb',0,none⟩)]) (hr:RV W.heap.size qb' rb' r' z' v' w') (hq:W.heap.size≤qb'):iL W mb hb qb' rb' r' z' v' w'∧cR w w':=
 ⟨⟨ha,hr,h.below.grown hg h.below.size (fun i hi=>by cases hi;exact h.bh),h.fm,h.bh,hq⟩,cR.of_one hg h.at_ rfl⟩
end
def Jt (W:World) (mb hb:Nat) (d:DS) (w:World):Prop:= ∃ qb rb v,iL W mb hb qb rb d.r d.z v w
def I1 (a:pD) (e:Ending):Prop:= ∃ t,e=.returned (.tuple #[.string t,.int .i64 a.2.2])∧(a.2.2=0→t=a.2.1)
def bw (W w:World) (mb hb:Nat) (a:pD) (e:Ending) (w':World):Prop:=I1 a e∧Jt W mb hb a.1 w'∧cR w w'
section
variable {W w w':World} {mb hb qb rb:Nat} {r:Ru} {z:SS} {v:Value}
theorem iL.told (h:iL W mb hb qb rb r z v w) (k:Below w.heap.size w w') (t t':ByteArray) (c:Int) (hc:c=0→t=t'):bw W w mb hb (⟨r,z⟩,t',c) (.returned (.tuple #[.string t,.int .i64 c])) w':=
 ⟨⟨t,rfl,hc⟩,⟨qb,rb,v,h.keep k⟩,cR.of_below k⟩
end
def iF (w:World) (g off:Nat) (L:List (List UInt8)):Prop:=(∃ cs,aj w g 9 cs)∧ ∀ j x,L[j]?=some x→w.cell? ⟨g,off+j,none⟩=some (.string (ah x))
theorem Bo {a:List UInt8}:bG (ah a)=if a=[95]then aI else ah a:=by
 unfold bG;rw[ak]
theorem pC {B qb rb:Nat} {r:Ru} {z:SS} {v:Value} {W:World} (h:RV B qb rb r z v W) (f:an) (h1:ba f.id=true) (h2:ba f.gen=true):
  Calls prog 86 #[.pointer (some ⟨qb,0,none⟩),aO f] W fun e w'=>e=.returned (.string (bX r f))∧Below W.heap.size W w':=by
 have HA:Hid (∀ w,RV B qb rb r z v w→Calls prog 49 #[.int .i64 r.key,v4 1 f.id f.gen 0] w fun e w'=>e=.returned (.tuple #[.string (bX r f),.int .i64 0])∧Below w.heap.size w w'):=zH fun w h=>cu r.key 1 f.id f.gen 0 w h.env.tens h.tab (tW h1 h2) (.inl ⟨rfl,rfl⟩)
 have H:=zH h;generalize bX r f=x at*;obtain⟨i,cl,su,sc,ge,ma,us,re,de⟩:=f;unfold v4 at HA;unfold aO af;dsimp only at*;clear h h1 h2;have hal:Below W.heap.size W (W.alloc (.cells #[.int .i64 i,.string cl,.string su,.string sc,.int .i64 ge,.int .i64 ma,.int .i64 us,.string re,.bool de] 95)):=(Below.refl _ _).alloc (Nat.le_refl _) _;have HAL:=zH hal;have H1:=zH (H.out.keep hal);obtain⟨c0,c1,c2,c3,c4,hlt⟩:=H1.out.five;have hfb:aj (W.alloc (.cells #[.int .i64 i,.string cl,.string su,.string sc,.int .i64 ge,.int .i64 ma,.int .i64 us,.string re,.bool de] 95)).drew W.heap.size 95 #[.int .i64 i,.string cl,.string su,.string sc,.int .i64 ge,.int .i64 ma,.int .i64 us,.string re,.bool de]:=aj.new W _ _;have HSD:=zH H1.out.drew;have HBD:=zH (au HAL.out)
 have HD:(W.alloc (.cells #[.int .i64 i,.string cl,.string su,.string sc,.int .i64 ge,.int .i64 ma,.int .i64 us,.string re,.bool de] 95)).drew.cell? ⟨qb,1,none⟩=some (.int .i64 r.key)∧(W.alloc (.cells #[.int .i64 i,.string cl,.string su,.string sc,.int .i64 ge,.int .i64 ma,.int .i64 us,.string re,.bool de] 95)).drew.cell? ⟨W.heap.size,0,none⟩=some (.int .i64 i)∧
  (W.alloc (.cells #[.int .i64 i,.string cl,.string su,.string sc,.int .i64 ge,.int .i64 ma,.int .i64 us,.string re,.bool de] 95)).drew.cell? ⟨W.heap.size,4,none⟩=some (.int .i64 ge):=⟨c1,hfb.cell 0,hfb.cell 4⟩
 clear hal c0 c1 c2 c3 c4 hlt;go_enter Tryz.func86,Tryz.ntmps86;go_wp2_with fail
 go_region_held3 (fun w'=>w'.cell? ⟨qb,1,none⟩=some (.int .i64 r.key)∧w'.cell? ⟨W.heap.size,0,none⟩=some (.int .i64 i)∧w'.cell? ⟨W.heap.size,4,none⟩=some (.int .i64 ge))
  (first
   |with_reducible assumption
   |with_reducible exact HD)
  (first
   |(go_at_call 49;(with_reducible refine(HA.out _ HSD.out).mono ?_);rintro x' w2 ⟨rfl,hb⟩
     have hend:=ae HBD.out hb;have hx2:w2.cell? ⟨qb,1,none⟩=some (.int .i64 r.key)∧w2.cell? ⟨W.heap.size,0,none⟩=some (.int .i64 i)∧w2.cell? ⟨W.heap.size,4,none⟩=some (.int .i64 ge):=⟨(HSD.out.keep hb).five.2.1,(hfb.below' hb).cell 0,(hfb.below' hb).cell 4⟩))
 go_wp2_with fail;go_ret;exact⟨rfl,hend⟩
theorem AH {B qb rb:Nat} {r:Ru} {z:SS} {v:Value} {W:World} (h:RV B qb rb r z v W) (hru:sP r=true) (f:an) (hf:gy f=true):
  Calls prog 92 #[.pointer (some ⟨qb,0,none⟩),aO f] W fun e w'=>e=.returned (.bool (kZ r z.s.clock f))∧Below W.heap.size W w':=by
 have hr:=i1 hru;obtain⟨_,_,gm,gu,_⟩:=bo hf;have HAD:=zH uS;have ru1:=az.1 gu;have ru2:=az.1 hr.2.1;have ru3:=az.1 gm;have ru4:=az.1 hr.2.2.1;have hold:kZ r z.s.clock f=(decide (cK f.used r.idle<z.s.clock) || decide (cK f.made r.life<z.s.clock)):=rfl;rw[hold];obtain⟨i,cl,su,sc,ge,ma,us,re,de⟩:=f;unfold aO af;dsimp only at*;have hal:Below W.heap.size W (W.alloc (.cells #[.int .i64 i,.string cl,.string su,.string sc,.int .i64 ge,.int .i64 ma,.int .i64 us,.string re,.bool de] 95)):=(Below.refl _ _).alloc (Nat.le_refl _) _;have HAL:=zH hal;have h1:=h.keep hal;obtain⟨c0,c1,c2,c3,c4,hlt⟩:=h1.five;obtain⟨d0,_,_,hlt2⟩:=h1.three;have HG:=zH (aj.new W 95 #[.int .i64 i,.string cl,.string su,.string sc,.int .i64 ge,.int .i64 ma,.int .i64 us,.string re,.bool de]);generalize z.s.clock=ck at*;clear h h1 hr gm gu hf hold hru hal;go_enter Tryz.func92,Tryz.ntmps92;go_wp2_with fail;generalize W.alloc (.cells #[.int .i64 i,.string cl,.string su,.string sc,.int .i64 ge,.int .i64 ma,.int .i64 us,.string re,.bool de] 95)=w1 at*;obtain⟨g0,g1,g2,g3,g4,g5,g6,g7,g8⟩:=aA HG.out
 by_cases hu:cK us r.idle<ck
 ·have hu':decide (cK us r.idle<ck)=true:=decide_eq_true hu
  go_quiet ((go_at_call 89;refine Calls.quiet_of_same ((HAD.out _ _ _ ?_ ?_).mono fun _ _ h=>⟨h.1,h.2.symm⟩)<;>assumption))
  go_wp2_with fail;go_ret;exact⟨by show Ending.returned (Value.bool _)=Ending.returned (Value.bool _);simp[hu],aF HAL.out nq⟩
 ·have hu':decide (cK us r.idle<ck)=false:=decide_eq_false hu
  go_quiet ((go_at_call 89;refine Calls.quiet_of_same ((HAD.out _ _ _ ?_ ?_).mono fun _ _ h=>⟨h.1,h.2.symm⟩)<;>assumption))
  go_wp2_with fail;go_ret;exact⟨by show Ending.returned (Value.bool _)=Ending.returned (Value.bool _);simp,aF HAL.out nq⟩
def ig (W:World) (B qb rb:Nat) (r:Ru) (z:SS) (p:ln Unit) (e:Ending) (w':World):Prop:=
 e=.returned (.int .i64 (ar () z p).2.2)∧W.grownBy w' (some rb)∧ ∃ v',RV B qb rb r (ar () z p).1 v' w'
theorem ig.say {W w:World} {B qb rb:Nat} {r:Ru} {z:SS} {v:Value} {c:Int} (h:RV B qb rb r z v w) (hb:Below W.heap.size W w):ig W B qb rb r z (.say () c) (.returned (.int .i64 c)) w:=⟨rfl,aG hb _,v,h⟩
theorem ig.put {W w:World} {B qb rb:Nat} {r:Ru} {z:SS} {v':Value} {ev:Ev} (ht:W.grownBy w (some rb)) (h:RV B qb rb r (aV z ev).1 v' w):ig W B qb rb r z (.put ev () 0) (.returned (.int .i64 (aV z ev).2)) w:=by
 by_cases hc:(aV z ev).2=0
 ·have e:ar () z (.put ev () 0)=((aV z ev).1,(),0):=if_pos hc
  unfold ig;rw[e,hc];exact⟨rfl,ht,v',h⟩
 ·have e:ar () z (.put ev () 0)=((aV z ev).1,(),(aV z ev).2):=if_neg hc
  unfold ig;rw[e];exact⟨rfl,ht,v',h⟩
def cx (L:List (List UInt8)) (k i:Nat):Int:=if i<k then ab (L.getD (i+1) [])else 0
def kW (L:List (List UInt8)) (k:Nat):Array Value:=#[.int .i64 (cx L k 0),.int .i64 (cx L k 1),.int .i64 (cx L k 2)]
structure RN (W:World) (L:List (List UInt8)) (v:Value) (nb:Nat) (cs:Array Value) (w:World):Prop where
 rk:RK W w
 row:gi w (W.heap.size+1) v L
 arr:aj w nb 244 cs
 ne:W.heap.size<nb
 vne:v.ownBlock≠some nb
theorem RN.keep {W w w':World} {L:List (List UInt8)} {v:Value} {nb:Nat} {cs:Array Value} (h:RN W L v nb cs w) (hb:Below w.heap.size w w'):RN W L v nb cs w':=
 ⟨h.rk.keep hb,h.row.below hb,h.arr.below' hb,h.ne,h.vne⟩
theorem RN.set {W w:World} {L:List (List UInt8)} {v:Value} {nb:Nat} {cs:Array Value} (h:RN W L v nb cs w) (i:Nat) (u:Value):RN W L v nb (cs.setIfInBounds i u) (w.setCell ⟨nb,i,none⟩ u):=by
 have hg:w.grownBy (w.setCell ⟨nb,i,none⟩ u) (some nb):=ag (bT w _) (.inl rfl) u;exact⟨h.rk.keepB ((Below.refl nb w).setCell (Nat.le_refl _) u) h.ne,h.row.kept hg h.vne,h.arr.set_ i u,h.ne,h.vne⟩
theorem BE (L:List (List UInt8)) (k:Nat) (hk:k<3):(kW L k).setIfInBounds k (.int .i64 (ab (L.getD (k+1) [])))=kW L (k+1):=by
 have:k=0∨k=1∨k=2:=by omega
 rcases this with rfl|rfl|rfl<;>simp[kW,cx]
theorem CI (L:List (List UInt8)) (k:Nat) (hk: ¬ k<3):kW L (k+1)=kW L k:=by
 unfold kW cx;rw[if_pos oM,if_pos oM,if_pos oM,if_pos oM,if_pos oM,if_pos oM]
theorem Br (s:ByteArray) (w:World) (hs:s.size≤1000000) (hv:bf w):
  Calls prog 51 #[.string s] w fun e w'=>(∃ ev,e=.returned (.tuple #[.int .i64 (ab s.data.toList),ev]))∧Below w.heap.size w w':=by
 cases hE:dL s.data.toList
 ·exact(nW s w hs hv hE).mono fun e w' ⟨⟨te,pe,h⟩,hb⟩=>⟨⟨_,h⟩,hb⟩
 ·exact(j3 s w hs hE).mono fun e w' ⟨h,hb⟩=>⟨⟨_,h⟩,hb⟩
theorem RN.start {W w:World} {L:List (List UInt8)} {g cap:Nat} (h:RK W w) (hr:gi w (W.heap.size+1) (.slice (some ⟨g,0,none⟩) L.length cap) L) (hg1:W.heap.size+1≤g) (hg2:g<w.heap.size):
  RN W L (.slice (some ⟨g,0,none⟩) L.length cap) w.heap.size (kW L 0) (w.alloc (.cells #[.int .i64 0,.int .i64 0,.int .i64 0] 244)):=by
 have e:kW L 0=#[.int .i64 0,.int .i64 0,.int .i64 0]:=by simp[kW,cx]
 rw[e];exact⟨h.keep ((Below.refl _ _).alloc (Nat.le_refl _) _),hr.alloc _,aj.new w _ _,by omega,by simp[Value.ownBlock];omega⟩
def Js (W:World) (L:List (List UInt8)) (v:Value) (nb:Nat) (i:Value) (w:World):Prop:= ∃ k:Nat,k≤L.length - 1∧i=.int .i64 k∧RN W L v nb (kW L k) w
theorem Aw {a b c d:Int} (h:a=1∨a=2):bz a b c d=ah (jC a b c d):=by
 have e (x:Int):aL x=ah (Lib.itoa x):=rfl;rcases h with rfl|rfl
 ·rw[bz,jC,if_pos rfl,if_pos rfl,e,e,show(⟨#[114,46]⟩:ByteArray)=ah [114,46]from rfl,show(⟨#[46]⟩:ByteArray)=ah [46]from rfl]
  simp only[gD]
 ·rw[bz,jC,if_neg dC,if_neg dC,e,e,e,show(⟨#[97,46]⟩:ByteArray)=ah [97,46]from rfl,show(⟨#[46]⟩:ByteArray)=ah [46]from rfl]
  simp only[gD]
theorem nY {a b c d:Int}:bN a b c d=true↔ux a b c d:=by
 unfold bN ux;simp[and_assoc]
def BZ (a b c d:Int) (B:ByteArray):Prop:=bN a b c d=false∨(bN a b c d=true∧bz a b c d≠B)
def Jl (a b c d:Int) (B:ByteArray):Prop:=bN a b c d=true∧bz a b c d=B
theorem zT {a b c d:Int} {B:ByteArray} (h: ¬ Jl a b c d B):BZ a b c d B:=by
 unfold BZ;cases hr:bN a b c d
 ·exact .inl rfl
 ·exact .inr ⟨rfl,fun e=>h ⟨hr,e⟩⟩
theorem Ah {a b c d:Int} {B:ByteArray} (h:Jl a b c d B):ux a b c d∧jC a b c d=B.data.toList:=by
 have h1:=nY.1 h.1;refine⟨h1,?_⟩;have e:=h.2;rw[Aw (h1.1.imp (·.1) (·.1))]at e;rw[←e,ak]
theorem Be (B:ByteArray) (L:List (List UInt8)) (hL:parts 46 B.data.toList=L):
  (Jl 1 (cx L (L.length - 1) 0) (cx L (L.length - 1) 1) 0 B∧ia L=some (1,cx L (L.length - 1) 0,cx L (L.length - 1) 1,0))∨
  (BZ 1 (cx L (L.length - 1) 0) (cx L (L.length - 1) 1) 0 B∧Jl 2 (cx L (L.length - 1) 0) (cx L (L.length - 1) 1) (cx L (L.length - 1) 2) B∧ia L=some (2,cx L (L.length - 1) 0,cx L (L.length - 1) 1,cx L (L.length - 1) 2))∨
  (BZ 1 (cx L (L.length - 1) 0) (cx L (L.length - 1) 1) 0 B∧BZ 2 (cx L (L.length - 1) 0) (cx L (L.length - 1) 1) (cx L (L.length - 1) 2) B∧ia L=none):=by
 have none_of {a b c d:Int} (hn:ia L=none):BZ a b c d B:=zT fun h=>by
  have h2:=Ah h;have h3:=Bn h2.1;rw[h2.2,hL,hn]at h3;cases h3
 cases e:ia L with
 |none=>exact .inr (.inr ⟨none_of e,none_of e,rfl⟩)
 |some q=>
  obtain⟨a,b,c,d⟩:=q;have h1:=AX (B:=B.data.toList) (by rw[hL];exact e);have hp:=rI h1.1;rw[h1.2,hL]at hp;obtain⟨hk,hb,hc⟩:=id h1.1
  have hit:bz a b c d=B:=by
   rw[Aw (hk.imp (·.1) (·.1)),h1.2,bJ]
  rcases hk with⟨rfl,rfl⟩|⟨rfl,hd⟩
  ·rw[if_pos rfl]at hp
   have e0:cx L (L.length - 1) 0=b:=by rw[hp];simp[cx,bQ hb]
   have e1:cx L (L.length - 1) 1=c:=by rw[hp];simp[cx,bQ hc]
   rw[e0,e1];exact .inl ⟨⟨nY.2 h1.1,hit⟩,rfl⟩
  ·rw[if_neg dC]at hp
   have e0:cx L (L.length - 1) 0=b:=by rw[hp];simp[cx,bQ hb]
   have e1:cx L (L.length - 1) 1=c:=by rw[hp];simp[cx,bQ hc]
   have e2:cx L (L.length - 1) 2=d:=by rw[hp];simp[cx,bQ hd]
   rw[e0,e1,e2];refine .inr (.inl ⟨zT fun h=>?_,⟨nY.2 h1.1,hit⟩,rfl⟩);have h2:=(Ah h).2;rw[←h1.2]at h2;simp[jC]at h2
theorem fj {F:List UInt8→List UInt8} {L:List (List UInt8)} {t:List UInt8} (ht:lE t=true):
  iV F (L++[t])=match ia L with
   |none=>(3,0,0,0,0)
   |some (a,b,c,d)=>if t=F (bM 46 L)then(0,a,b,c,d)else(5,0,0,0,0):=by
 unfold iV;have e1:(L++[t]).dropLast=L:=by simp
 have e2:(L++[t]).getLastD []=t:=by simp
 rw[e1,e2,ht];rfl
theorem E4 {L:List (List UInt8)} (h:L.Nodup) (x:List UInt8):L.count x=if L.contains x then 1 else 0:=by
 by_cases hx:x∈L
 ·rw[if_pos (List.contains_iff_mem.2 hx)]
  have h1:=List.nodup_iff_count.1 h x;have h2:=List.count_pos_iff.2 hx;omega
 ·rw[List.count_eq_zero.2 hx,if_neg (fun h=>hx (List.contains_iff_mem.1 h))]
def Fz (b:List UInt8) (w:List UInt8):Bool:=(aK b).contains w
def Ix (a b:List UInt8) (n i:Value):Prop:= ∃ k:Nat,k≤(aK a).length∧i=.int .i64 k∧n=.int .i64 (((aK a).take k).countP (Fz b))
def Id (b x:List UInt8) (N:Nat) (n j:Value):Prop:= ∃ k:Nat,k≤(aK b).length∧j=.int .i64 k∧n=.int .i64 ((N+((aK b).take k).count x:Nat))
theorem Ay {L:List (List UInt8)} {k:Nat} (h:k<L.length):L.take (k+1)=L.take k++[L.getD k []]:=by
 rw[List.take_add_one,List.getElem?_eq_getElem h];simp[List.getD,h]
theorem rF (L:List (List UInt8)) (p:List UInt8→Bool) (k:Nat):(L.take k).countP p≤k:=Nat.le_trans List.countP_le_length (List.length_take_le _ _)
theorem sR (L:List (List UInt8)) (x:List UInt8) (k:Nat):(L.take k).count x≤k:=Nat.le_trans List.count_le_length (List.length_take_le _ _)
theorem uY (a b:List UInt8):decide (((aK a).countP (Fz b):Int)=((aK a).length:Int))=jG a b:=by
 rw[Bool.eq_iff_iff,decide_eq_true_eq];unfold jG;rw[List.all_eq_true];have:((aK a).countP (Fz b):Int)=((aK a).length:Int)↔(aK a).countP (Fz b)=(aK a).length:=by omega
 rw[this,List.countP_eq_length];rfl
theorem y9 (a b:ByteArray) (W:World) (ha:a.size≤5000) (hb:b.size≤5000):
  Calls prog 88 #[.string a,.string b] W fun e w'=>e=.returned (.tuple #[.bool (jr a.data.toList b.data.toList),.int .i64 (lB a.data.toList b.data.toList)])∧Below W.heap.size W w':=by
 have H1:=zH (o0 a W ha);have HB:=zH (fun w=>o0 b w hb)
 by_cases h0:aw a.data.toList=0
 ·have E:=zH h0
  have W2:=zH (zP (b:=b.data.toList) h0);clear h0
  by_cases h1:aw b.data.toList=0
  ·have E2:=zH h1
   have W3:=zH (show lB a.data.toList b.data.toList=0 by rw[W2.out,h1]);clear h1;go_enter Tryz.func88,Tryz.ntmps88;go_wp2_with fail;go_at_call 94;refine H1.out.mono ?_;rintro e w1 ⟨v,rfl,hr1,hb1⟩;rw[E.out];have HR1:=zH hr1;have HB1:=zH hb1;clear hr1 hb1;go_wp2_with fail;go_at_call 94;refine(HB.out _).mono ?_;rintro e w2 ⟨u,rfl,hr2,hb2⟩;rw[E2.out];have HR2:=zH (cM.below HR1.out hb2);have HR3:=zH hr2;have HB2:=zH (HB1.out.trans (hb2.mono HB1.out.size));have hl1:=(fd a.data.toList).1;have hl2:=(fd b.data.toList).1;obtain⟨A,cap,ev,hcA⟩:=HR2.out.slice;subst ev;obtain⟨B,cap',eu,hcB⟩:=HR3.out.slice;subst eu;have HCA:=zH hcA;have HCB:=zH hcB;clear hr2 hb2 hcA hcB;go_wp2_with fail
   go_loop [9,32] (fun n i=>Ix a.data.toList b.data.toList n i) (fun _ i=>(aK a.data.toList).length - (intOf i).toNat)
   case atStart=>exact⟨0,Nat.zero_le _,rfl,rfl⟩
   case round=>
    obtain⟨k,hk,rfl,rfl⟩:=hrel;have hcl:=rF (aK a.data.toList) (Fz b.data.toList) k
    by_cases hlt:k<(aK a.data.toList).length
    ·obtain⟨g,eA,hc⟩:=HCA.out k hlt
     subst eA;have HT:=zH (Ay hlt);generalize hx:(aK a.data.toList).getD k []=x at*;have HX:=zH hx;clear hx;generalize hN:((aK a.data.toList).take k).countP (Fz b.data.toList)=N at*;have HN:=zH hN;clear hN;go_wp2_with fail
     go_loop [9,38] (fun n i=>Id b.data.toList x N n i) (fun _ i=>(aK b.data.toList).length - (intOf i).toNat)
     case atStart=>exact⟨0,Nat.zero_le _,rfl,by simp⟩
     case round=>
      obtain⟨j,hj,rfl,rfl⟩:=hrel;have hcl2:=sR (aK b.data.toList) x j
      by_cases hjt:j<(aK b.data.toList).length
      ·obtain⟨g2,eB,hc2⟩:=HCB.out j hjt
       subst eB;have HT2:=zH (Ay hjt);generalize hy:(aK b.data.toList).getD j []=y at*;have HY:=zH hy;clear hy;generalize hM:((aK b.data.toList).take j).count x=M at*;have HM:=zH hM;clear hM
       by_cases hxy:x=y
       ·have et:((ah x).toList == (ah y).toList)=true:=by rw[hxy];simp
        have HXY:=zH hxy;clear hxy;go_wp2_with fail
        go_round
        case rel=>
         refine⟨j+1,by omega,by go_num,?_⟩;rw[HT2.out,List.count_append,HM.out,HXY.out];simp;go_num
        case measure=>simp[intOf];omega
       ·have et:((ah x).toList == (ah y).toList)=false:=by rw[bn,bn];simpa using hxy
        have HXY:=zH hxy;clear hxy;go_wp2_with fail
        go_round
        case rel=>
         refine⟨j+1,by omega,by go_num,?_⟩;rw[HT2.out,List.count_append,HM.out,List.count_singleton];rw[if_neg (by simpa using fun h=>HXY.out h.symm)];go_num
        case measure=>simp[intOf];omega
      ·have ej:j=(aK b.data.toList).length:=by omega
       have hcount:=E4 (uf b.data.toList).nodup x;have HC:=zH (show((aK b.data.toList).take j).count x=if Fz b.data.toList x then 1 else 0 by rw[ej,List.take_length,hcount];rfl);clear hcount ej;generalize ((aK b.data.toList).take j).count x=M at*;go_wp2_with fail
       go_round
       case rel=>
        refine⟨k+1,by omega,by go_num,?_⟩;rw[HT.out,List.countP_append,HN.out,HC.out];cases hin:Fz b.data.toList x
        ·simp[hin]
        ·simp[hin]
       case measure=>simp[intOf];omega
    ·have ek:k=(aK a.data.toList).length:=by omega
     have HW:=zH (show decide ((((aK a.data.toList).take k).countP (Fz b.data.toList):Int)=((aK a.data.toList).length:Int))=jG a.data.toList b.data.toList by
      rw[ek,List.take_length];exact uY _ _)
     clear ek;generalize ((aK a.data.toList).take k).countP (Fz b.data.toList)=N at*;go_wp2_with fail;go_ret2;refine⟨?_,HB2.out⟩;rw[W3.out];unfold jr;rw[W3.out,←HW.out];simp;rfl
  ·have E2:=zH (show(aw b.data.toList == 0)=false by simpa using h1)
   have E3:=zH h1;have W3:=zH (mo (a:=a.data.toList) (b:=b.data.toList) (by rw[W2.out];exact h1));clear h1;go_enter Tryz.func88,Tryz.ntmps88;go_wp2_with fail;go_at_call 94;refine H1.out.mono ?_;rintro e w1 ⟨v,rfl,hr1,hb1⟩;rw[E.out];have HB1:=zH hb1;clear hr1 hb1;go_wp2_with fail;go_at_call 94;refine(HB.out _).mono ?_;rintro e w2 ⟨u,rfl,hr2,hb2⟩;have HB2:=zH (HB1.out.trans (hb2.mono HB1.out.size));clear hr2 hb2;have e3:=E3.out;have e4:=E2.out;go_wp2_with fail;go_ret2;exact⟨by rw[W3.out,W2.out];rfl,HB2.out⟩
 ·have E2:=zH (show(aw a.data.toList == 0)=false by simpa using h0)
  have E3:=zH h0;have W2:=zH (AM (b:=b.data.toList) h0);have W3:=zH (mo (a:=a.data.toList) (b:=b.data.toList) (by rw[W2.out];exact h0));clear h0;go_enter Tryz.func88,Tryz.ntmps88;go_wp2_with fail;go_at_call 94;refine H1.out.mono ?_;rintro e w1 ⟨v,rfl,hr1,hb1⟩;have HB1:=zH hb1;clear hr1 hb1;have e3:=E3.out;have e4:=E2.out;go_wp2_with fail;go_ret2;exact⟨by rw[W3.out,W2.out];rfl,HB1.out⟩
end Go.Proofs.YtepjcdjpikbbjaaGreatDoor
