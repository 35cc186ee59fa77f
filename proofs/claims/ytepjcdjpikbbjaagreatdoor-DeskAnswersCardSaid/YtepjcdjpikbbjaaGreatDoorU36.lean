/-
  rotorref's service: Tick; the plans of the others.
-/
import Derived.Test.YtepjcdjpikbbjaaGreatDoorU00
import Derived.Test.YtepjcdjpikbbjaaGreatDoorU27
import Derived.Test.YtepjcdjpikbbjaaGreatDoorU05
set_option maxHeartbeats 20000000
set_option maxRecDepth 100000
namespace Go.Proofs.YtepjcdjpikbbjaaGreatDoor
open Go.Proofs.Tryz
open Go.RowKit Go.Sort
structure RZ (r:Ru) (z:SS):Prop where
 fit:iQ z.s
 lg:0≤z.log∧z.log≤1000000
 ru:sP r=true
def cr (W:World) (B qb rb:Nat) (r:Ru) (z:SS) (p:ln ByteArray) (e:Ending) (w':World):Prop:=
 e=.returned (.tuple #[.string (ar aI z p).2.1,.int .i64 (ar aI z p).2.2])∧W.grownBy w' (some rb)∧ ∃ v',RV B qb rb r (ar aI z p).1 v' w'
section
variable {W w:World} {B qb rb:Nat} {r:Ru} {z:SS} {v v':Value} {ev:Ev} {t:ByteArray} {c i:Int}
theorem cr.say (h:RV B qb rb r z v w) (hb:Below W.heap.size W w):cr W B qb rb r z (.say t c) (.returned (.tuple #[.string t,.int .i64 c])) w:=⟨rfl,aG hb _,v,h⟩
theorem cr.bad (hc:(aV z ev).2≠0) (ht:W.grownBy w (some rb)) (h:RV B qb rb r (aV z ev).1 v' w):cr W B qb rb r z (.put ev t c) (.returned (.tuple #[.string aI,.int .i64 (aV z ev).2])) w:=by
 have e:ar aI z (.put ev t c)=((aV z ev).1,aI,(aV z ev).2):=if_neg hc;unfold cr;rw[e];exact⟨rfl,ht,v',h⟩
theorem cr.good (hc:(aV z ev).2=0) (ht:W.grownBy w (some rb)) (h:RV B qb rb r (aV z ev).1 v' w):cr W B qb rb r z (.put ev t c) (.returned (.tuple #[.string t,.int .i64 c])) w:=by
 have e:ar aI z (.put ev t c)=((aV z ev).1,t,c):=if_pos hc;unfold cr;rw[e];exact⟨rfl,ht,v',h⟩
end
def gL (W:World) (B qb rb:Nat) (r:Ru) (z:SS) (p:ln Int) (e:Ending) (w':World):Prop:=
 e=.returned (.tuple #[.int .i64 (ar 0 z p).2.1,.int .i64 (ar 0 z p).2.2])∧W.grownBy w' (some rb)∧ ∃ v',RV B qb rb r (ar 0 z p).1 v' w'
section
variable {W w:World} {B qb rb:Nat} {r:Ru} {z:SS} {v v':Value} {ev:Ev} {c i:Int}
theorem gL.say (h:RV B qb rb r z v w) (hb:Below W.heap.size W w):gL W B qb rb r z (.say i c) (.returned (.tuple #[.int .i64 i,.int .i64 c])) w:=⟨rfl,aG hb _,v,h⟩
theorem gL.bad (hc:(aV z ev).2≠0) (ht:W.grownBy w (some rb)) (h:RV B qb rb r (aV z ev).1 v' w):gL W B qb rb r z (.put ev i c) (.returned (.tuple #[.int .i64 0,.int .i64 (aV z ev).2])) w:=by
 have e:ar 0 z (.put ev i c)=((aV z ev).1,0,(aV z ev).2):=if_neg hc;unfold gL;rw[e];exact⟨rfl,ht,v',h⟩
theorem gL.good (hc:(aV z ev).2=0) (ht:W.grownBy w (some rb)) (h:RV B qb rb r (aV z ev).1 v' w):gL W B qb rb r z (.put ev i c) (.returned (.tuple #[.int .i64 i,.int .i64 c])) w:=by
 have e:ar 0 z (.put ev i c)=((aV z ev).1,i,c):=if_pos hc;unfold gL;rw[e];exact⟨rfl,ht,v',h⟩
end
theorem Hn (n:Int):(decide ((0:Int)≤n)&&decide (n≤1099511627776))=ba n:=rfl
section
variable {W:World} {B qb rb:Nat} {r:Ru} {z:SS} {v:Value}
theorem Fd (h:RV B qb rb r z v W) (hz:RZ r z) (n:Int):
  Calls prog 43 #[.pointer (some ⟨qb,0,none⟩),.int .i64 n] W (ig W B qb rb r z (dY z.s n)):=by
 have hfit:=hz.fit;have HIN:=zH (fun w=>nZ n 0 1099511627776 w);have H:=zH h;clear h;rw[Hn]at HIN
 by_cases hn:ba n=true
 ·obtain⟨hn0,hn1⟩:=az.1 hn
  have hp:dY z.s n=.put (gH (cK z.s.clock n)) () 0:=by unfold dY;rw[hn];rfl
  have HP:=zH hp;have HAD:=zH (fun w=>uS z.s.clock n w (az.1 hfit.clock) ⟨hn0,hn1⟩);have HA:Hid (∀ w,RV B qb rb r z v w→Calls prog 91 #[.pointer (some ⟨rb,0,none⟩),aE (gH (cK z.s.clock n))] w (kH w B rb (aV z (gH (cK z.s.clock n))))):=zH fun w h=>sA B rb z v _ w h.ra h.rr h.big hfit (by show an.zero.short 5000;unfold an.short an.zero;dsimp only;refine⟨by decide,by decide,by decide,by decide⟩) hz.lg
  generalize hQ:aV z (gH (cK z.s.clock n))=q at*;have HQ:=zH hQ;generalize cK z.s.clock n=cn at*;unfold aE ax gH at HA;unfold an.zero at HA;dsimp only at HA;rw[hn]at HIN;obtain⟨c0,c1,c2,c3,c4,hlt⟩:=H.out.five;obtain⟨d0,d1,d2,hlt2⟩:=H.out.three;clear hp hn hfit hQ c1 c2 c3 c4 d1 d2 hz;go_enter Tryz.func43,Tryz.ntmps43;go_wp2_with fail;go_at_call 83;refine(HIN.out _).mono ?_;rintro e w1 ⟨rfl,rfl⟩;go_wp2_with fail;have HSD:=H.out.drew;have HBD:=zH (au (Below.refl W.heap.size W));clear c0 hlt d0 hlt2;refine aR (RV B qb rb r z v) [15,16] kR ?_;refine aa 16 (i:=0) (v:= ?v0) rfl kR kR kR kR kR (fun _ _ _ h=>h) (by rfl) ?hy0 HSD ?rest0
  case hy0=>(intro w hSw;obtain⟨c0,c1,c2,c3,c4,_⟩:=RV.five hSw;obtain⟨d0,d1,d2,_⟩:=RV.three hSw;go_simp;(try with_reducible rfl))
  simp only[Act.put];refine aa 16 (i:=1) (v:= ?v1) rfl kR kR kR kR kR (fun _ _ _ h=>h) (by rfl) ?hy1 HSD ?rest1
  case hy1=>(intro w hSw;obtain⟨c0,c1,c2,c3,c4,_⟩:=RV.five hSw;obtain⟨d0,d1,d2,_⟩:=RV.three hSw;go_simp;(try with_reducible rfl))
  simp only[Act.put];refine aa 16 (i:=2) (v:= ?v2) rfl kR kR kR kR kR (fun _ _ _ h=>h) (by rfl) ?hy2 HSD ?rest2
  case hy2=>(intro w hSw;obtain⟨c0,c1,c2,c3,c4,_⟩:=RV.five hSw;obtain⟨d0,d1,d2,_⟩:=RV.three hSw;go_simp;(try with_reducible rfl))
  simp only[Act.put];refine aa 16 (i:=3) (v:= ?v3) rfl kR kR kR kR kR (fun _ _ _ h=>h) (by rfl) ?hy3 HSD ?rest3
  case hy3=>(intro w hSw;obtain⟨c0,c1,c2,c3,c4,_⟩:=RV.five hSw;obtain⟨d0,d1,d2,_⟩:=RV.three hSw;go_simp;(try with_reducible rfl))
  simp only[Act.put];refine aa 16 (i:=4) (v:= ?v4) rfl kR kR kR kR kR (fun _ _ _ h=>h) (by rfl) ?hy4 HSD ?rest4
  case hy4=>(intro w hSw;obtain⟨c0,c1,c2,c3,c4,_⟩:=RV.five hSw;obtain⟨d0,d1,d2,_⟩:=RV.three hSw;go_simp;(try with_reducible rfl))
  simp only[Act.put];refine aa 16 (i:=5) (v:= ?v5) rfl kR kR kR kR kR (fun _ _ _ h=>h) (by rfl) ?hy5 HSD ?rest5
  case hy5=>(intro w hSw;obtain⟨c0,c1,c2,c3,c4,_⟩:=RV.five hSw;obtain⟨d0,d1,d2,_⟩:=RV.three hSw;go_simp;(try with_reducible rfl))
  simp only[Act.put];refine aa 16 (i:=6) (v:= ?v6) rfl kR kR kR kR kR (fun _ _ _ h=>h) (by rfl) ?hy6 HSD ?rest6
  case hy6=>(intro w hSw;obtain⟨c0,c1,c2,c3,c4,_⟩:=RV.five hSw;obtain⟨d0,d1,d2,_⟩:=RV.three hSw;go_simp;(try with_reducible rfl))
  simp only[Act.put];refine aa 16 (i:=7) (v:= ?v7) rfl kR kR kR kR kR (fun _ _ _ h=>h) (by rfl) ?hy7 HSD ?rest7
  case hy7=>(intro w hSw;obtain⟨c0,c1,c2,c3,c4,_⟩:=RV.five hSw;obtain⟨d0,d1,d2,_⟩:=RV.three hSw;go_simp;(try with_reducible rfl))
  simp only[Act.put];refine aa 16 (i:=8) (v:= ?v8) rfl kR kR kR kR kR (fun _ _ _ h=>h) (by rfl) ?hy8 HSD ?rest8
  case hy8=>(intro w hSw;obtain⟨c0,c1,c2,c3,c4,_⟩:=RV.five hSw;obtain⟨d0,d1,d2,_⟩:=RV.three hSw;go_simp;(try with_reducible rfl))
  simp only[Act.put];refine aa 16 (i:=9) (v:= ?v9) rfl kR kR kR kR kR (fun _ _ _ h=>h) (by rfl) ?hy9 HSD ?rest9
  case hy9=>(intro w hSw;obtain⟨c0,c1,c2,c3,c4,_⟩:=RV.five hSw;obtain⟨d0,d1,d2,_⟩:=RV.three hSw;go_simp;(try with_reducible rfl))
  simp only[Act.put];refine aa 16 (i:=10) (v:= ?v10) rfl kR kR kR kR kR (fun _ _ _ h=>h) (by rfl) ?hy10 HSD ?rest10
  case hy10=>(intro w hSw;obtain⟨c0,c1,c2,c3,c4,_⟩:=RV.five hSw;obtain⟨d0,d1,d2,_⟩:=RV.three hSw;go_simp;(try with_reducible rfl))
  simp only[Act.put];refine aa 16 (i:=11) (v:= ?v11) rfl kR kR kR kR kR (fun _ _ _ h=>h) (by rfl) ?hy11 HSD ?rest11
  case hy11=>(intro w hSw;obtain⟨c0,c1,c2,c3,c4,_⟩:=RV.five hSw;obtain⟨d0,d1,d2,_⟩:=RV.three hSw;go_simp;(try with_reducible rfl))
  simp only[Act.put];refine aa 16 (i:=12) (v:= ?v12) rfl kR kR kR kR kR (fun _ _ _ h=>h) (by rfl) ?hy12 HSD ?rest12
  case hy12=>(intro w hSw;obtain⟨c0,c1,c2,c3,c4,_⟩:=RV.five hSw;obtain⟨d0,d1,d2,_⟩:=RV.three hSw;go_simp;(try with_reducible rfl))
  simp only[Act.put];refine ai (i:=13) kR rfl ?_;intro K13 hK13;go_simp;go_at_call 89;refine(HAD.out _).mono ?_;rintro x' w2 ⟨rfl,rfl⟩
  try dsimp only
  refine hK13.out _ _ (fun _=>HSD) ?_
  try simp only[Act.put]
  refine aa 16 (i:=14) (v:= ?v14) rfl kR kR kR kR kR (fun _ _ _ h=>h) (by rfl) ?hy14 HSD ?rest14
  case hy14=>(intro w hSw;obtain⟨c0,c1,c2,c3,c4,_⟩:=RV.five hSw;obtain⟨d0,d1,d2,_⟩:=RV.three hSw;go_simp;(try with_reducible rfl))
  simp only[Act.put];refine ai (i:=15) kR rfl ?_;intro K15 hK15;go_simp;go_at_call 91;refine(HA.out _ HSD).mono ?_;rintro x' w2 ⟨rfl,hg,v2,ha,hr⟩;have hs2:=HSD.turn hg ha hr;have hend:IN W B qb rb r q (.returned (.int .i64 q.2)) w2:=⟨rfl,aU (aG HBD.out _) hg,v2,hs2⟩
  try dsimp only
  refine hK15.out _ _ (fun h=>absurd h dC) ?_
  try simp only[Act.put]
  refine ai (i:=16) kR rfl ?_;intro K16 hK16;go_simp
  try dsimp only
  refine hK16.out _ _ (fun h=>absurd h dC) ?_;refine aX kR ?_ _;clear HSD hs2 hg ha hr;go_wp2_with fail;go_ret;obtain⟨-,htw,v3,h3⟩:=hend;rw[HP.out,←HQ.out];rw[←HQ.out]at h3;exact ig.put htw h3
 ·have hn':ba n=false:=by simpa using hn
  have hp:dY z.s n=.say () 2:=by unfold dY;rw[if_pos hn']
  have HP:=zH hp;rw[hn']at HIN;clear hp hn hn';go_enter Tryz.func43,Tryz.ntmps43;go_wp2_with fail;go_at_call 83;refine(HIN.out _).mono ?_;rintro e w1 ⟨rfl,rfl⟩;go_wp2_with fail;go_ret;rw[HP.out];exact ig.say H.out (Below.refl _ _)
end
def Hi (W:World) (B qb rb:Nat) (r:Ru) (z:SS) (v:Value) (p:an→Bool) (i:Value) (w:World):Prop:= ∃ j:Nat,j≤z.s.fams.length∧i=.int .i64 j∧Below W.heap.size W w∧RV B qb rb r z v w∧ ∀ m f,m<j→z.s.fams[m]?=some f→p f=false
end Go.Proofs.YtepjcdjpikbbjaaGreatDoor
