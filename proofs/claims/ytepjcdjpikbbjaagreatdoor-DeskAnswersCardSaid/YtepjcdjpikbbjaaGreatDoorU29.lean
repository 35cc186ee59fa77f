/-
  A service: Grant.
-/
import Derived.Test.YtepjcdjpikbbjaaGreatDoorU00
import Derived.Test.YtepjcdjpikbbjaaGreatDoorU28
import Derived.Test.YtepjcdjpikbbjaaGreatDoorU11
set_option maxHeartbeats 4000000
set_option maxRecDepth 100000
namespace Go.Proofs.YtepjcdjpikbbjaaGreatDoor
open Go.Proofs.Tryz
open Go.RowKit Go.Sort
def dl (W:World) (B vb sb db k:Nat) (r:Ru) (z:SS) (p:ln ByteArray) (e:Ending) (w':World):Prop:=
 e=.returned (.tuple #[.string (ar aI z p).2.1,bV (ar aI z p).2.2])∧dH sb db W w'∧ ∃ v',SW B vb sb db (k+1) r (ar aI z p).1 v' w'
theorem dl.say {W w:World} {B vb sb db k:Nat} {r:Ru} {z:SS} {v:Value} {t:ByteArray} {c:Int} (h:SW B vb sb db k r z v w) (hb:Below W.heap.size W w) (u:Value) (hu:u=bV c):dl W B vb sb db k r z (.say t c) (.returned (.tuple #[.string t,u])) w:=
 ⟨by rw[hu];rfl,dH.of_below hb,v,h.later⟩
theorem dl.bad {W w:World} {B vb sb db k:Nat} {r:Ru} {z:SS} {v':Value} {ev:Ev} {t:ByteArray} {c:Int} (hc:(aV z ev).2≠0) (ht:dH sb db W w) (h:SW B vb sb db (k+1) r (aV z ev).1 v' w):dl W B vb sb db k r z (.put ev t c) (.returned (.tuple #[.string aI,bV (aV z ev).2])) w:=by
 have e:ar aI z (.put ev t c)=((aV z ev).1,aI,(aV z ev).2):=if_neg hc;unfold dl;rw[e];exact⟨rfl,ht,v',h⟩
theorem dl.good {W w:World} {B vb sb db k:Nat} {r:Ru} {z:SS} {v':Value} {ev:Ev} {t:ByteArray} {c:Int} (hc:(aV z ev).2=0) (ht:dH sb db W w) (h:SW B vb sb db (k+1) r (aV z ev).1 v' w) (u:Value) (hu:u=bV c):dl W B vb sb db k r z (.put ev t c) (.returned (.tuple #[.string t,u])) w:=by
 have e:ar aI z (.put ev t c)=((aV z ev).1,t,c):=if_pos hc;unfold dl;rw[e,hu];exact⟨rfl,ht,v',h⟩
theorem SW.tm {B vb sb db k:Nat} {r:Ru} {z:SS} {v:Value} {w:World} (h:SW B vb sb db k r z v w):bH w∧dt w∧bf w:=⟨h.sx.env.tens,h.sx.env.maxl,h.sx.env.errs⟩
section
variable {B vb sb db k:Nat} {r:Ru} {z:SS} {v:Value} {W:World}
theorem BB (h:SW B vb sb db k r z v W) (hk:k<1000000) (client subject sc:ByteArray) (h1:client.size≤5000) (h2:subject.size≤5000) (h3:sc.size≤5000):
  Calls prog 123 #[.pointer (some ⟨vb,0,none⟩),.string client,.string subject,.string sc] W (dl W B vb sb db k r z (bL r z.s client subject sc)):=by
 have HN1:=zH (fun w=>mx client w h1);have HN2:=zH (fun w=>mx subject w h2);have HLS:=zH (fun w hm=>fo sc w h3 hm);have HST:=zH (fun w (h:SW B vb sb db k r z v w)=>(gM h.sx).mono fun _ _ h=>fG h);have H:=zH h;clear h;rcases hn1:bF client.data.toList with _|_
 ·have hp:bL r z.s client subject sc=.say aI 1:=by unfold bL;rw[hn1];rfl
  have HP:=zH hp;rw[hn1]at HN1;clear hp hn1;go_enter Tryz.func123,Tryz.ntmps123;go_wp2_with fail;go_at_call 178;refine(HN1.out _).mono ?_;rintro e w1 ⟨rfl,hb⟩;have H1:=zH (H.out.keep hb);have HB1:=zH hb;clear hb;go_wp2_with fail;go_ret2;rw[HP.out];exact dl.say H1.out HB1.out _ (aP dC).symm
 ·rw[hn1]at HN1
  rcases hn2:bF subject.data.toList with _|_
  ·have hp:bL r z.s client subject sc=.say aI 1:=by unfold bL;rw[hn1,hn2];rfl
   have HP:=zH hp;rw[hn2]at HN2;clear hp hn1 hn2;go_enter Tryz.func123,Tryz.ntmps123;go_wp2_with fail;go_at_call 178;refine(HN1.out _).mono ?_;rintro e w1 ⟨rfl,hb⟩;have H1:=zH (H.out.keep hb);have HB1:=zH hb;clear hb;go_wp2_with fail;go_at_call 178;refine(HN2.out _).mono ?_;rintro e w2 ⟨rfl,hb⟩;have H2:=zH (H1.out.keep hb);have HB2:=zH (ae HB1.out hb);clear hb;go_wp2_with fail;go_ret2;rw[HP.out];exact dl.say H2.out HB2.out _ (aP dC).symm
  ·rw[hn2]at HN2
   have HNA:=zH (show(bF client.data.toList&&bF subject.data.toList)=true by rw[hn1,hn2];rfl);have HNN:=zH (And.intro hn1 hn2);clear hn1 hn2;go_enter Tryz.func123,Tryz.ntmps123;go_wp2_with fail;go_at_call 178;refine(HN1.out _).mono ?_;rintro e w1 ⟨rfl,hb⟩;have H1:=zH (H.out.keep hb);have HB1:=zH hb;clear hb HN1;go_wp2_with fail;go_at_call 178;refine(HN2.out _).mono ?_;rintro e w2 ⟨rfl,hb⟩;have H2:=zH (H1.out.keep hb);have HB2:=zH (ae HB1.out hb);clear hb HN2 H1 HB1;go_wp2_with fail;go_at_call 126;refine(HLS.out _ H2.out.tm.2.1).mono ?_;rintro e w3 ⟨rfl,hb⟩;have H3:=zH (H2.out.keep hb);have HB3:=zH (ae HB2.out hb);clear hb HLS H2 HB2
   by_cases hsn:aw sc.data.toList=0
   ·have e0:bV (aw sc.data.toList)=.nilIface:=by rw[hsn];exact cH
    rw[e0];have HSN:=zH hsn;clear e0 hsn;obtain⟨c0,c1,c2,c3,c4,hlt⟩:=H3.out.five;go_wp2_with fail;go_at_call 177;refine(HST.out _ H3.out).mono ?_;rintro e w4 ⟨a4,ac4,rfl,hr4,hb⟩;have H4:=zH (H3.out.keep hb);have HB4:=zH (ae HB3.out hb);clear hr4 hb H3 HB3 HST c0 c1 c2 c3 c4 hlt
    by_cases hnx:1099511627776<z.s.next
    ·have hp:bL r z.s client subject sc=.say aI 4:=by unfold bL;rw[HNA.out,if_neg dC,if_neg (by rw[HSN.out];decide),if_pos hnx]
     have HP:=zH hp;have hal:=(Below.refl w4.heap.size w4).alloc (Nat.le_refl _) (.cells #[.int .i64 z.s.clock,.int .i64 z.s.next,.slice a4 z.s.fams.length ac4] 83);have HAL:=zH hal;clear hp hal;go_wp2_with fail;go_ret2;rw[HP.out];exact dl.say (H4.out.keep HAL.out) (ae HB4.out HAL.out) _ (aP dC).symm
    ·by_cases hln:20≤z.s.fams.length
     ·have hp:bL r z.s client subject sc=.say aI 12:=by unfold bL;rw[HNA.out,if_neg dC,if_neg (by rw[HSN.out];decide),if_neg hnx,if_pos hln]
      have HP:=zH hp;have hal:=(Below.refl w4.heap.size w4).alloc (Nat.le_refl _) (.cells #[.int .i64 z.s.clock,.int .i64 z.s.next,.slice a4 z.s.fams.length ac4] 83);have HAL:=zH hal;clear hp hal;go_wp2_with fail;go_ret2;rw[HP.out];exact dl.say (H4.out.keep HAL.out) (ae HB4.out HAL.out) _ (aP dC).symm
     ·have hp:bL r z.s client subject sc=.put (aW (cw z.s client subject sc)) (bX r (cw z.s client subject sc)) 0:=by unfold bL;rw[HNA.out,if_neg dC,if_neg (by rw[HSN.out];decide),if_neg hnx,if_neg hln]
      have HP:=zH hp;have hal:=bZ w4 (.cells #[.int .i64 z.s.clock,.int .i64 z.s.next,.slice a4 z.s.fams.length ac4] 83) (.cells (af (cw z.s client subject sc)) 95)
      have hfb:aj ((w4.alloc (.cells #[.int .i64 z.s.clock,.int .i64 z.s.next,.slice a4 z.s.fams.length ac4] 83)).alloc (.cells (af (cw z.s client subject sc)) 95)) (w4.heap.size+1) 95 (af (cw z.s client subject sc)):=by
       have:=aj.new (w4.alloc (.cells #[.int .i64 z.s.clock,.int .i64 z.s.next,.slice a4 z.s.fams.length ac4] 83)) 95 (af (cw z.s client subject sc));rw[show(w4.alloc (.cells #[.int .i64 z.s.clock,.int .i64 z.s.next,.slice a4 z.s.fams.length ac4] 83)).heap.size=w4.heap.size+1 by simp]at this;exact this
      have HFB:=zH hfb;have H5:=zH (H4.out.keep hal);have HB5:=zH (ae HB4.out hal);have hfit:=H4.out.sx.fit;have hnM:=bO.1 hfit.next;have hidN:ba z.s.next=true:=az.2 oM;have hlst:=d9 sc.data.toList;have hcn:=cI HNN.out.1;have hsn9:=cI HNN.out.2
      have hshort:(cw z.s client subject sc).short 5000:=by
       unfold cw an.short aI;dsimp only;rw[bB];have e1:client.size=client.data.toList.length:=(aq client).symm;have e2:subject.size=subject.data.toList.length:=(aq subject).symm;refine⟨by omega,by omega,by omega,by show 0≤5000;omega⟩
      have HPT:=zH (fun w (h:SW B vb sb db k r z v w)=>vu h hk (cw z.s client subject sc) hshort);have HRF:=zH (fun w z' v' (h:SW B vb sb db (k+1) r z' v' w)=>pP h (cw z.s client subject sc) hidN (show ba 0=true by decide));unfold aO at HPT HRF;generalize hQ:aV z (aW (cw z.s client subject sc))=Q at*;have HQ:=zH hQ;generalize hX:bX r (cw z.s client subject sc)=X at*;generalize hF:aW (cw z.s client subject sc)=FE at*;unfold cw af at HPT HRF HFB H5 HB5;unfold aI at HPT HRF HFB H5 HB5;dsimp only at HPT HRF HFB H5 HB5;clear hX hF hQ;clear hp hal hfb hfit hnM hidN hlst hcn hsn9 hshort H4 HB4;go_wp2_with fail;go_at_call 179;refine(HPT.out _ H5.out).mono ?_;rintro e w6 ⟨rfl,htw,v6,h6⟩;have H6:=zH h6;have HT6:=zH ((dH.of_below HB5.out).trans htw);have HF6:=zH (HFB.out.two htw (H5.out.sx.apart HFB.out dC dC).1 (H5.out.sx.apart HFB.out dC dC).2);clear htw h6 HFB H5 HB5 HPT
      by_cases hq:Q.2=0
      ·have e0:bV Q.2=.nilIface:=by rw[hq];exact cH
       rw[e0];have HQ0:=zH hq;clear e0 hq;obtain⟨f0,f1,f2,f3,f4,f5,f6,f7,f8⟩:=aA HF6.out;go_wp2_with fail;go_at_call 180;refine(HRF.out _ _ _ H6.out).mono ?_;rintro e w7 ⟨rfl,hb⟩;have H7:=zH (H6.out.keep hb);have HT7:=zH (HT6.out.trans (dH.of_below hb));clear hb H6 HT6 f0 f1 f2 f3 f4 f5 f6 f7 f8 HF6;go_wp2_with fail;go_ret2;rw[HP.out];exact dl.good (by rw[HQ.out];exact HQ0.out) HT7.out (by rw[HQ.out];exact H7.out) _ cH.symm
      ·have e0:bV Q.2=.iface 57 (.int .i64 Q.2):=aP hq
       have HE0:=zH e0;rw[e0];have HQ0:=zH hq;clear e0 hq;go_wp2_with fail;go_ret2;rw[HP.out,←HE0.out,←HQ.out];exact dl.bad (by rw[HQ.out];exact HQ0.out) HT6.out (by rw[HQ.out];exact H6.out)
   ·have e0:bV (aw sc.data.toList)=.iface 57 (.int .i64 (aw sc.data.toList)):=aP hsn
    have hp:bL r z.s client subject sc=.say aI (aw sc.data.toList):=by unfold bL;rw[HNA.out,if_neg dC,if_pos hsn]
    have HP:=zH hp;have HE0:=zH e0;rw[e0];clear e0 hp hsn;go_wp2_with fail;go_ret2;rw[HP.out];exact dl.say H3.out HB3.out _ HE0.out.symm
end
def iR (W:World) (B vb sb db k:Nat) (r:Ru) (z:SS) (p:ln Unit) (e:Ending) (w':World):Prop:=
 e=.returned (bV (ar () z p).2.2)∧dH sb db W w'∧ ∃ v',SW B vb sb db (k+1) r (ar () z p).1 v' w'
theorem iR.say {W w:World} {B vb sb db k:Nat} {r:Ru} {z:SS} {v:Value} {c:Int} (h:SW B vb sb db k r z v w) (hb:Below W.heap.size W w) (u:Value) (hu:u=bV c):iR W B vb sb db k r z (.say () c) (.returned u) w:=
 ⟨by rw[hu];rfl,dH.of_below hb,v,h.later⟩
theorem iR.put {W w:World} {B vb sb db k:Nat} {r:Ru} {z:SS} {v':Value} {ev:Ev} (ht:dH sb db W w) (h:SW B vb sb db (k+1) r (aV z ev).1 v' w):iR W B vb sb db k r z (.put ev () 0) (.returned (bV (aV z ev).2)) w:=by
 by_cases hc:(aV z ev).2=0
 ·have e:ar () z (.put ev () 0)=((aV z ev).1,(),0):=if_pos hc
  unfold iR;rw[e,hc];exact⟨rfl,ht,v',h⟩
 ·have e:ar () z (.put ev () 0)=((aV z ev).1,(),(aV z ev).2):=if_neg hc
  unfold iR;rw[e];exact⟨rfl,ht,v',h⟩
section
variable {B vb sb db k:Nat} {r:Ru} {z:SS} {v:Value} {W:World}
theorem El (h:SW B vb sb db k r z v W) (hk:k<1000000) (id:Int):
  Calls prog 125 #[.pointer (some ⟨vb,0,none⟩),.int .i64 id] W (iR W B vb sb db k r z (eF z.s id)):=by
 have HFD:=zH (vU h id);have hfit:=h.sx.fit;have H:=zH h;clear h;go_enter Tryz.func125,Tryz.ntmps125;go_wp2_with fail;go_at_call 181;refine HFD.out.mono ?_;rintro e w1 ⟨hb,⟨f,hfd,hmem,rfl⟩|⟨hfd,rfl⟩⟩
 ·have H1:=zH (H.out.keep hb)
  have HB1:=zH hb;have hfb:=hfit.fams f hmem;rcases hd:f.dead with _|_
  ·have hp:eF z.s id=.put (aW (eS f)) () 0:=by unfold eF;rw[hfd];simp[hd]
   have HP:=zH hp;have hsh:=dP hfb;have hsh2:(eS f).short 5000:=hsh;have HPT:=zH (fun w (h:SW B vb sb db k r z v w)=>vu h hk (eS f) hsh2);generalize hQ:aV z (aW (eS f))=Q at*;have HQ:=zH hQ;generalize aW (eS f)=FE at*;unfold aO eS at HPT;obtain⟨i,cl,su,scp,ge,ma,us,re,de⟩:=f;unfold af at HPT;dsimp only at hd HPT;subst hd;unfold aO af;dsimp only;have hal:=(Below.refl w1.heap.size w1).alloc (Nat.le_refl _) (.cells #[.int .i64 i,.string cl,.string su,.string scp,.int .i64 ge,.int .i64 ma,.int .i64 us,.string re,.bool true] 95);have H2:=zH (H1.out.keep hal);have HB2:=zH (ae HB1.out hal);clear hp hfd hmem hfb hsh hsh2 hb hal H HFD hQ;go_wp2_with fail;go_at_call 179;refine(HPT.out _ H2.out).mono ?_;rintro e w3 ⟨rfl,htw,v3,h3⟩;have H3:=zH h3;have HT3:=zH ((dH.of_below HB2.out).trans htw);clear htw h3;go_wp2_with fail;go_ret;rw[HP.out,←HQ.out];exact iR.put HT3.out (by rw[HQ.out];exact H3.out)
  ·have hp:eF z.s id=.say () 6:=by unfold eF;rw[hfd];simp[hd]
   have HP:=zH hp;obtain⟨i,cl,su,scp,ge,ma,us,re,de⟩:=f;dsimp only at hd;subst hd;unfold aO af;dsimp only;have hal:=(Below.refl w1.heap.size w1).alloc (Nat.le_refl _) (.cells #[.int .i64 i,.string cl,.string su,.string scp,.int .i64 ge,.int .i64 ma,.int .i64 us,.string re,.bool true] 95);have HAL:=zH hal;clear hp hfd hmem hfb hb H HFD hal;go_wp2_with fail;go_ret;rw[HP.out];exact iR.say (H1.out.keep HAL.out) (ae HB1.out HAL.out) _ (aP dC).symm
 ·have hp:eF z.s id=.say () 7:=by unfold eF;rw[hfd]
  have HP:=zH hp;unfold aO af an.zero;dsimp only;have hal:=(Below.refl w1.heap.size w1).alloc (Nat.le_refl _) (.cells #[.int .i64 0,.string ⟨#[]⟩,.string ⟨#[]⟩,.string ⟨#[]⟩,.int .i64 0,.int .i64 0,.int .i64 0,.string ⟨#[]⟩,.bool false] 95);have HAL:=zH hal;have H1:=zH (H.out.keep hb);have HB1:=zH hb;clear hp hfd hb H HFD hal;go_wp2_with fail;go_ret;rw[HP.out];exact iR.say (H1.out.keep HAL.out) (ae HB1.out HAL.out) _ (aP dC).symm
end
section
variable {B vb sb db k:Nat} {r:Ru} {z:SS} {v:Value} {W:World}
theorem CN (h:SW B vb sb db k r z v W) (hk:k<1000000) (n:Int):
  Calls prog 135 #[.pointer (some ⟨vb,0,none⟩),.int .i64 n] W (iR W B vb sb db k r z (dY z.s n)):=by
 have HST:=zH (fun w (h:SW B vb sb db k r z v w)=>(gM h.sx).mono fun _ _ h=>fG h);have hfit:=h.sx.fit;have H:=zH h;clear h
 by_cases hn:ba n=true
 ·obtain⟨hn0,hn1⟩:=az.1 hn
  have hp:dY z.s n=.put (gH (cK z.s.clock n)) () 0:=by unfold dY;rw[hn];rfl
  have HP:=zH hp;have HAD:=zH (fun w=>jH z.s.clock n w (az.1 hfit.clock) ⟨hn0,hn1⟩);have HA:Hid (∀ w,SX B sb db k z v w→Calls prog 190 #[.pointer (some ⟨sb,0,none⟩),aE (gH (cK z.s.clock n))] w (qI w B sb db k (aV z (gH (cK z.s.clock n))))):=zH fun w h=>yo h hk _ (by show an.zero.short 5000;unfold an.short an.zero;dsimp only;refine⟨by decide,by decide,by decide,by decide⟩)
  generalize hQ:aV z (gH (cK z.s.clock n))=q at*;have HQ:=zH hQ;generalize cK z.s.clock n=cn at*;unfold aE ax gH at HA;unfold an.zero at HA;dsimp only at HA;obtain⟨c0,c1,c2,c3,c4,hlt⟩:=H.out.five;clear hp hn hfit hQ c1 c2 c3 c4;go_enter Tryz.func135,Tryz.ntmps135;go_wp2_with fail;have HSD:=zH H.out.drew;have HD:W.drew.cell? ⟨vb,0,none⟩=some (.pointer (some ⟨sb,0,none⟩)):=c0;clear c0 hlt
  go_region_held3 (fun w'=>w'.cell? ⟨vb,0,none⟩=some (.pointer (some ⟨sb,0,none⟩)))
   (first
    |with_reducible assumption
    |with_reducible exact HD)
   (first
    |(go_at_call 184;(with_reducible refine(HAD.out _).mono ?_);rintro x' w2 ⟨rfl,rfl⟩)
    |(go_at_call 177;(with_reducible refine(HST.out _ HSD.out).mono ?_);rintro x' w2 ⟨a4,ac4,rfl,hr4,hb⟩
      have HS2:=zH (HSD.out.keep hb);have HB2:=zH (ae (au (Below.refl W.heap.size W)) hb);have hx2:=HS2.out.five.1;have hsc:=jk z.s.clock z.s.next a4 z.s.fams.length ac4;clear hr4 hb)
    |(go_at_call 190;(with_reducible refine(HA.out _ HS2.out.sx).mono ?_);rintro x' w2 ⟨rfl,htw,v2,hsx⟩
      have hend:BH W B vb sb db k r q (.returned (bV q.2)) w2:=⟨rfl,(dH.of_below HB2.out).trans htw,v2,HS2.out.two htw hsx⟩;have hx2:=(HS2.out.two htw hsx).five.1))
  go_wp2_with fail;go_ret;obtain⟨-,htw,v3,h3⟩:=hend;rw[HP.out,←HQ.out];rw[←HQ.out]at h3;exact iR.put htw h3
 ·have hp:dY z.s n=.say () 2:=by unfold dY;rw[if_pos (by simpa using hn)]
  have HP:=zH hp
  have hbad:n<0∨1099511627776<n:=by
   by_cases h0:n<0
   ·exact .inl h0
   ·exact .inr (by by_cases h1:1099511627776<n;exact h1;exact absurd (az.2 ⟨by omega,by omega⟩) hn)
  clear hp hn;rcases hbad with hbad|hbad
  ·go_enter Tryz.func135,Tryz.ntmps135
   go_wp2_with fail;go_ret;rw[HP.out];exact iR.say H.out (Below.refl _ _) _ (aP dC).symm
  ·have h0: ¬ n<0:=by omega
   go_enter Tryz.func135,Tryz.ntmps135;go_wp2_with fail;go_ret;rw[HP.out];exact iR.say H.out (Below.refl _ _) _ (aP dC).symm
end
theorem vi (r:Ru) (s:St) (t:ByteArray) (kind:Int):(gO r s t kind).e=co r s (a8 r t) kind:=by
 unfold gO co
 by_cases h1:(a8 r t).1≠0
 ·rw[if_pos h1,if_pos h1]
 ·rw[if_neg h1,if_neg h1]
  by_cases h2:(a8 r t).2.1≠kind
  ·rw[if_pos h2,if_pos h2]
  ·rw[if_neg h2,if_neg h2]
   rcases dR s.fams (a8 r t).2.2.1 with _|f
   ·rfl
   ·rcases hd:f.dead with _|_
    ·rcases ho:kZ r s.clock f with _|_<;>simp[hd,ho]
    ·simp[hd]
theorem ib {r:Ru} {s:St} {t:ByteArray} {kind:Int} (h:co r s (a8 r t) kind=0):
  (gO r s t kind).gen=(a8 r t).2.2.2.1∧(gO r s t kind).ends=(a8 r t).2.2.2.2∧(gO r s t kind).f=dI s (a8 r t)∧dI s (a8 r t)∈s.fams∧dR s.fams (a8 r t).2.2.1=some (dI s (a8 r t)):=by
 unfold co at h;unfold gO dI
 by_cases h1:(a8 r t).1≠0
 ·rw[if_pos h1]at h
  exact absurd h h1
 ·rw[if_neg h1]at h
  rw[if_neg h1,if_neg h1]
  by_cases h2:(a8 r t).2.1≠kind
  ·rw[if_pos h2]at h
   cases h
  ·rw[if_neg h2]at h
   rw[if_neg h2];rcases hf:dR s.fams (a8 r t).2.2.1 with _|f
   ·rw[hf]at h
    cases h
   ·rw[hf]at h
    rcases hd:f.dead with _|_
    ·rcases ho:kZ r s.clock f with _|_
     ·simp only[hd,ho]
      refine⟨by simp,by simp,by simp,?_,by simp⟩;exact List.mem_of_find?_eq_some hf
     ·simp[hd,ho]at h
    ·simp[hd]at h
theorem sZ {W w:World} {A:Act} {s:St} {v:Value} (hr:aD w W.heap.size v s.fams) (h1:v.ownBlock≠some W.heap.size) (hb:Below W.heap.size W w)
  (h3:aj w W.heap.size 83 #[.int .i64 0,.int .i64 0,.slice none 0 0])
  (hp:A.tmps.getD 2 undef=.pointer (some ⟨W.heap.size,0,none⟩)) (hd:A.defers=[]):
  bodyPost prog Tryz.f120 (cD W s) Exit.ret A (((w.setCell ⟨W.heap.size,0,none⟩ (.int .i64 s.clock)).setCell ⟨W.heap.size,1,none⟩ (.int .i64 s.next)).setCell ⟨W.heap.size,2,none⟩ v):=by
 have e1:=h3.put_ 0 (.int .i64 s.clock) (cs':=#[.int .i64 s.clock,.int .i64 0,.slice none 0 0]) rfl;have e2:=e1.put_ 1 (.int .i64 s.next) (cs':=#[.int .i64 s.clock,.int .i64 s.next,.slice none 0 0]) rfl;have e3:=e2.put_ 2 v (cs':=dN s v) rfl;have g1:=aZ w W.heap.size ⟨W.heap.size,0,none⟩ rfl (.int .i64 s.clock);have g2:=ag g1 (p:=⟨W.heap.size,1,none⟩) (.inl rfl) (.int .i64 s.next);have g3:=ag g2 (p:=⟨W.heap.size,2,none⟩) (.inl rfl) v;have kb3:=hb.grown g3 hb.size (fun j hj=>by cases hj;exact Nat.le_refl _);have kr3:=hr.kept g3 h1;generalize ((w.setCell ⟨W.heap.size,0,none⟩ (.int .i64 s.clock)).setCell ⟨W.heap.size,1,none⟩ (.int .i64 s.next)).setCell ⟨W.heap.size,2,none⟩ v=w2 at*;exact bodyPost_ret (results_cell_row rfl A.tmps w2 _ _ _ (0,0) _ hp e3 underlying83 rfl kR) hd ⟨v,rfl,kr3,kb3⟩
section
variable {B vb sb db k:Nat} {r:Ru} {z:SS} {v:Value} {W:World}
theorem tH (h:SW B vb sb db k r z v W):
  Calls prog 120 #[.pointer (some ⟨vb,0,none⟩)] W (cD W z.s):=by
 have HST:=zH (fun w (h:SW B vb sb db k r z v w)=>(gM h.sx).mono fun _ _ h=>fG h);have hal:=(Below.refl W.heap.size W).alloc (Nat.le_refl _) (.cells #[.int .i64 0,.int .i64 0,.slice none 0 0] 83);have HAL:=zH hal;have H1:=zH (h.keep hal);have H3:=zH (aj.new W 83 #[.int .i64 0,.int .i64 0,.slice none 0 0]);have HSZ:=zH (show W.heap.size+1≤(W.alloc (.cells #[.int .i64 0,.int .i64 0,.slice none 0 0] 83)).heap.size by simp);obtain⟨c0,c1,c2,c3,c4,hlt⟩:=H1.out.five;obtain⟨s,lg,wr,of,lf,dn⟩:=z;obtain⟨ck,nx,L⟩:=s;dsimp only at*;clear h hal;go_enter Tryz.func120,Tryz.ntmps120;go_wp2_with fail;go_at_call 177;refine(HST.out _ H1.out).mono ?_;rintro e w1 ⟨a,ac,rfl,hr,hb⟩;have HR:=zH hr;have HB:=zH (ae HAL.out hb);have h3:=H3.out.below' hb;have H4:=zH h3;have z3:=h3.frozen;have l3:=h3.cell 0;have l4:=h3.cell 1;have l5:=h3.cell 2;clear hr hb h3 c0 c1 c2 c3 c4 hlt HAL H1 H3 HST;go_wp2_with fail;have hz:=HSZ.out;exact sZ (s:=⟨ck,nx,L⟩) (HR.out.mono oM) (fun he=>by have:=(HR.out.lt _ he).1;omega) HB.out H4.out rfl rfl
end
def gW (le:Int) (f:an) (qg qd ck:Int):an×Int:=if le≠0 then(an.zero,le)else if f.gen<qg then(an.zero,2)else if qd<ck then(an.zero,10)else(f,0)
theorem wl (r:Ru) (s:St) (t:ByteArray):iI r s t=gW (co r s (a8 r t) 2) (dI s (a8 r t)) (a8 r t).2.2.2.1 (a8 r t).2.2.2.2 s.clock:=by
 unfold iI Ae gW;rw[vi]
 by_cases h:co r s (a8 r t) 2≠0
 ·rw[if_pos h,if_pos h]
 ·rw[if_neg h,if_neg h]
  obtain⟨h1,h2,h3,_⟩:=ib (r:=r) (s:=s) (t:=t) (kind:=2) (by simpa using h);rw[h1,h2,h3]
def uJ (W:World) (q:an×Int) (e:Ending) (w':World):Prop:=e=.returned (.tuple #[aO q.1,bV q.2])∧Below W.heap.size W w'
theorem oA {W w:World} {A:Act} {f:an} {q:an×Int} (hb:Below W.heap.size W w) (hr:aj w W.heap.size 95 (af f)) (hp:A.tmps.getD 4 undef=.pointer (some ⟨W.heap.size,0,none⟩)) (hx:A.tmps.getD 5 undef=bV q.2) (hd:A.defers=[]) (h:f=q.1):
  bodyPost prog Tryz.f133 (uJ W q) Exit.ret A w:=by
 refine bodyPost_ret (ei rfl A.tmps w _ _ _ _ _ hp hx hr underlying95 rfl kR) hd ⟨?_,hb⟩;rw[←h];rfl
section
variable {B vb sb db k:Nat} {r:Ru} {z:SS} {v:Value} {W:World}
theorem Ft (h:SW B vb sb db k r z v W) (t:ByteArray) (ht:t.size≤5000):
  Calls prog 133 #[.pointer (some ⟨vb,0,none⟩),.string t] W (uJ W (iI r z.s t)):=by
 have HST:=zH (fun w (h:SW B vb sb db k r z v w)=>(gM h.sx).mono fun _ _ h=>fG h);have HL:=zH (fun w (h:SW B vb sb db k r z v w)=>rS h t 2 ht);rw[wl];have hal:=(Below.refl W.heap.size W).alloc (Nat.le_refl _) (.cells (af an.zero) 95);have HAL:=zH hal;have H1:=zH (h.keep hal);have HF1:=zH (aj.new W 95 (af an.zero));unfold om v4 at HL;unfold iS at HST;unfold af an.zero at HAL H1 HF1;dsimp only at HAL H1 HF1;clear h hal;generalize co r z.s (a8 r t) 2=le at*;generalize dI z.s (a8 r t)=f at*;generalize a8 r t=q at*;obtain⟨qe,qk,qf,qg,qd⟩:=q;obtain⟨i,cl,su,scp,ge,ma,us,re,de⟩:=f;unfold aO af at HL;dsimp only at HL;dsimp only;generalize z.s=s at*;obtain⟨ck,nx,L⟩:=s;dsimp only at*;go_enter Tryz.func133,Tryz.ntmps133;go_wp2_with fail;go_at_call 183;refine(HL.out _ H1.out).mono ?_;rintro e w1 ⟨rfl,hb⟩;have HB1:=zH (ae HAL.out hb);have H2:=zH (H1.out.keep hb);have HF2:=zH (HF1.out.below' hb);have hfl:=HF2.out.lt;clear hb H1 HF1 HAL HL;have hal:=bZ w1 (.cells #[.int .i64 qk,.int .i64 qf,.int .i64 qg,.int .i64 qd] 182) (.cells #[.int .i64 i,.string cl,.string su,.string scp,.int .i64 ge,.int .i64 ma,.int .i64 us,.string re,.bool de] 95);have HT3:=zH ((aj.new w1 182 #[.int .i64 qk,.int .i64 qf,.int .i64 qg,.int .i64 qd]).alloc (.cells #[.int .i64 i,.string cl,.string su,.string scp,.int .i64 ge,.int .i64 ma,.int .i64 us,.string re,.bool de] 95))
 have hg:aj ((w1.alloc (.cells #[.int .i64 qk,.int .i64 qf,.int .i64 qg,.int .i64 qd] 182)).alloc (.cells #[.int .i64 i,.string cl,.string su,.string scp,.int .i64 ge,.int .i64 ma,.int .i64 us,.string re,.bool de] 95)) (w1.heap.size+1) 95 #[.int .i64 i,.string cl,.string su,.string scp,.int .i64 ge,.int .i64 ma,.int .i64 us,.string re,.bool de]:=by
  have:=aj.new (w1.alloc (.cells #[.int .i64 qk,.int .i64 qf,.int .i64 qg,.int .i64 qd] 182)) 95 #[.int .i64 i,.string cl,.string su,.string scp,.int .i64 ge,.int .i64 ma,.int .i64 us,.string re,.bool de];rw[show(w1.alloc (.cells #[.int .i64 qk,.int .i64 qf,.int .i64 qg,.int .i64 qd] 182)).heap.size=w1.heap.size+1 by simp]at this;exact this
 have HG3:=zH hg;have H3:=zH (H2.out.keep hal);have HF3:=zH (HF2.out.below' hal);have HB3:=zH (ae HB1.out hal);have hz:=HF2.out.frozen;obtain⟨z0,z1,z2,z3,z4,z5,z6,z7,z8⟩:=aA HF2.out;have hn0:W.heap.size≠w1.heap.size:=by omega
 have hn1:W.heap.size≠w1.heap.size+1:=by omega
 clear hal hg H2
 by_cases hle:le=0
 ·subst hle
  have e0:bV 0=.nilIface:=cH;rw[e0];clear e0
  by_cases h1:ge<qg
  ·have hq:gW 0 ⟨i,cl,su,scp,ge,ma,us,re,de⟩ qg qd ck=(an.zero,2):=by unfold gW;rw[if_neg dC,if_pos h1]
   have HQ:=zH hq;clear hq H3 HT3 HG3 HF3 HB3;go_wp2_with fail;obtain⟨n1,n2⟩:=dS (f0:=an.zero) HF2.out 0 ⟨#[]⟩ ⟨#[]⟩ ⟨#[]⟩ 0 0 0 ⟨#[]⟩ false;have hb5:=HB1.out.grown n2 HB1.out.size (fun i hi=>by cases hi;exact Nat.le_refl _);have hb6:=hb5.alloc hb5.size (.cells #[.int .i64 qk,.int .i64 qf,.int .i64 qg,.int .i64 qd] 182);have hb7:=hb6.alloc hb6.size (.cells #[.int .i64 i,.string cl,.string su,.string scp,.int .i64 ge,.int .i64 ma,.int .i64 us,.string re,.bool de] 95);refine oA hb7 ((n1.alloc _).alloc _) rfl ?_ rfl ?_
   ·rw[HQ.out];rfl
   ·rw[HQ.out];rfl
  ·clear hz z0 z1 z2 z3 z4 z5 z6 z7 z8 HF2 HB1 hn0 hn1
   have H1N:=zH h1;go_wp2_with fail;generalize (w1.alloc (.cells #[.int .i64 qk,.int .i64 qf,.int .i64 qg,.int .i64 qd] 182)).alloc (.cells #[.int .i64 i,.string cl,.string su,.string scp,.int .i64 ge,.int .i64 ma,.int .i64 us,.string re,.bool de] 95)=w3 at*;have HSD:=zH H3.out.drew;have HTD:=zH HT3.out.drew;have HGD:=zH HG3.out.drew;have HFD:=zH HF3.out.drew;have HBD:=zH (au HB3.out);clear H3 HT3 HG3 HF3 HB3;have HD:w3.drew.cell? ⟨vb,0,none⟩=some (.pointer (some ⟨sb,0,none⟩))∧w3.drew.cell? ⟨w1.heap.size,3,none⟩=some (.int .i64 qd):=⟨HSD.out.five.1,HTD.out.cell 3⟩
   go_region_held3 (fun w'=>w'.cell? ⟨vb,0,none⟩=some (.pointer (some ⟨sb,0,none⟩))∧w'.cell? ⟨w1.heap.size,3,none⟩=some (.int .i64 qd))
    (first
     |with_reducible assumption
     |with_reducible exact HD)
    (first
     |(go_at_call 177;(with_reducible refine(HST.out _ HSD.out).mono ?_);rintro x' w2 ⟨a4,ac4,rfl,hr4,hb⟩
       have HF4:=zH (HFD.out.below' hb);have HG4:=zH (HGD.out.below' hb);have HB4:=zH (ae HBD.out hb);have hx2:w2.cell? ⟨vb,0,none⟩=some (.pointer (some ⟨sb,0,none⟩))∧w2.cell? ⟨w1.heap.size,3,none⟩=some (.int .i64 qd):=⟨(HSD.out.keep hb).five.1,(HTD.out.below' hb).cell 3⟩;have hsc:=jk ck nx a4 L.length ac4;clear hr4 hb))
   have hz:=HF4.out.frozen;obtain⟨z0,z1,z2,z3,z4,z5,z6,z7,z8⟩:=aA HF4.out
   by_cases h2:qd<ck
   ·have hq:gW 0 ⟨i,cl,su,scp,ge,ma,us,re,de⟩ qg qd ck=(an.zero,10):=by unfold gW;rw[if_neg dC,if_neg (Int.not_lt.2 H1N.out),if_pos h2]
    have HQ:=zH hq;clear hq;go_wp2_with fail;obtain⟨n1,n2⟩:=dS (f0:=an.zero) HF4.out 0 ⟨#[]⟩ ⟨#[]⟩ ⟨#[]⟩ 0 0 0 ⟨#[]⟩ false;refine oA (HB4.out.grown n2 HB4.out.size (fun i hi=>by cases hi;exact Nat.le_refl _)) n1 rfl ?_ rfl ?_
    ·rw[HQ.out];rfl
    ·rw[HQ.out];rfl
   ·have hq:gW 0 ⟨i,cl,su,scp,ge,ma,us,re,de⟩ qg qd ck=(⟨i,cl,su,scp,ge,ma,us,re,de⟩,0):=by unfold gW;rw[if_neg dC,if_neg (Int.not_lt.2 H1N.out),if_neg h2]
    have HQ:=zH hq;obtain⟨y0,y1,y2,y3,y4,y5,y6,y7,y8⟩:=aA HG4.out;clear hq;go_wp2_with fail;obtain⟨n1,n2⟩:=dS (f0:=an.zero) HF4.out i cl su scp ge ma us re de;refine oA (HB4.out.grown n2 HB4.out.size (fun i hi=>by cases hi;exact Nat.le_refl _)) n1 rfl ?_ rfl ?_
    ·rw[HQ.out];rfl
    ·rw[HQ.out]
 ·have e0:bV le=.iface 57 (.int .i64 le):=aP hle
  have HE:=zH e0;rw[e0];have hq:gW le ⟨i,cl,su,scp,ge,ma,us,re,de⟩ qg qd ck=(an.zero,le):=by unfold gW;rw[if_pos hle]
  have HQ:=zH hq;clear e0 hq hle H3 HT3 HG3 HF3 HB3;go_wp2_with fail;obtain⟨n1,n2⟩:=dS (f0:=an.zero) HF2.out 0 ⟨#[]⟩ ⟨#[]⟩ ⟨#[]⟩ 0 0 0 ⟨#[]⟩ false;have hb5:=HB1.out.grown n2 HB1.out.size (fun i hi=>by cases hi;exact Nat.le_refl _);have hb6:=hb5.alloc hb5.size (.cells #[.int .i64 qk,.int .i64 qf,.int .i64 qg,.int .i64 qd] 182);have hb7:=hb6.alloc hb6.size (.cells #[.int .i64 i,.string cl,.string su,.string scp,.int .i64 ge,.int .i64 ma,.int .i64 us,.string re,.bool de] 95);refine oA hb7 ((n1.alloc _).alloc _) rfl ?_ rfl ?_
  ·rw[HQ.out];exact HE.out.symm
  ·rw[HQ.out];rfl
end
end Go.Proofs.YtepjcdjpikbbjaaGreatDoor
