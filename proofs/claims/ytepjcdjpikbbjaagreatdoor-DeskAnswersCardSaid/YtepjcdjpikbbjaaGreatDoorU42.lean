/-
  rotorref's service: Show.
-/
import Derived.Test.YtepjcdjpikbbjaaGreatDoorU00
import Derived.Test.YtepjcdjpikbbjaaGreatDoorU41
import Derived.Test.YtepjcdjpikbbjaaGreatDoorU29
import Derived.Test.YtepjcdjpikbbjaaGreatDoorU10
import Derived.Test.YtepjcdjpikbbjaaGreatDoorU27
import Derived.Test.YtepjcdjpikbbjaaGreatDoorU30
import Derived.BigRegion
set_option maxHeartbeats 8000000
set_option maxRecDepth 100000
namespace Go.Proofs.YtepjcdjpikbbjaaGreatDoor
open Go.Proofs.Tryz
open Go.RowKit Go.Sort
def xi (W:World) (q:an×Int) (e:Ending) (w':World):Prop:=e=.returned (.tuple #[aO q.1,.int .i64 q.2])∧Below W.heap.size W w'
theorem mB {W w:World} {A:Act} {f:an} {q:an×Int} (hb:Below W.heap.size W w) (hr:aj w W.heap.size 95 (af f)) (hp:A.tmps.getD 4 undef=.pointer (some ⟨W.heap.size,0,none⟩)) (hx:A.tmps.getD 5 undef=.int .i64 q.2) (hd:A.defers=[]) (h:f=q.1):
  bodyPost prog Tryz.f38 (xi W q) Exit.ret A w:=by
 refine bodyPost_ret (ei rfl A.tmps w _ _ _ _ _ hp hx hr underlying95 rfl kR) hd ⟨?_,hb⟩;rw[←h];rfl
section
variable {W:World} {B qb rb:Nat} {r:Ru} {z:SS} {v:Value}
theorem CP (h:RV B qb rb r z v W) (hz:RZ r z) (t:ByteArray) (ht:t.size≤5000):
  Calls prog 38 #[.pointer (some ⟨qb,0,none⟩),.string t] W (xi W (iI r z.s t)):=by
 have HL:=zH (fun w v (h:RV B qb rb r z v w)=>oR h hz t 2 ht);rw[wl];have hll:=fun hh:co r z.s (a8 r t) 2=0=>nw hh
 have hal:=(Below.refl W.heap.size W).alloc (Nat.le_refl _) (.cells (af an.zero) 95);have HAL:=zH hal;have H1:=zH (h.keep hal);have HF1:=zH (aj.new W 95 (af an.zero));unfold lC v4 at HL;unfold af an.zero at HAL H1 HF1;dsimp only at HAL H1 HF1;clear h hal;generalize co r z.s (a8 r t) 2=le at*;generalize dI z.s (a8 r t)=f at*;generalize ip z.s (a8 r t) 2=lf at*;generalize a8 r t=q at*;obtain⟨qe,qk,qf,qg,qd⟩:=q;dsimp only at HL ⊢;go_enter Tryz.func38,Tryz.ntmps38;go_wp2_with fail;go_at_call 87;refine(HL.out _ _ H1.out).mono ?_;rintro e w1 ⟨rfl,hb⟩;have HB1:=zH (ae HAL.out hb);have H2:=zH (H1.out.keep hb);have HF2:=zH (HF1.out.below' hb);have hfl:=HF2.out.lt;clear hb H1 HF1 HAL HL;have hlf:le=0→lf=f:=hll;clear hll;obtain⟨i,cl,su,scp,ge,ma,us,re,de⟩:=lf;unfold aO af;dsimp only;have hal:=bZ w1 (.cells #[.int .i64 qk,.int .i64 qf,.int .i64 qg,.int .i64 qd] 109) (.cells #[.int .i64 i,.string cl,.string su,.string scp,.int .i64 ge,.int .i64 ma,.int .i64 us,.string re,.bool de] 95);have H3:=zH (H2.out.keep hal);have HF3:=zH (HF2.out.below' hal);have HB3:=zH (ae HB1.out hal);have hz:=HF3.out.frozen
 have hg3:aj ((w1.alloc (.cells #[.int .i64 qk,.int .i64 qf,.int .i64 qg,.int .i64 qd] 109)).alloc (.cells #[.int .i64 i,.string cl,.string su,.string scp,.int .i64 ge,.int .i64 ma,.int .i64 us,.string re,.bool de] 95)) (w1.heap.size+1) 95 #[.int .i64 i,.string cl,.string su,.string scp,.int .i64 ge,.int .i64 ma,.int .i64 us,.string re,.bool de]:=by
  have:=aj.new (w1.alloc (.cells #[.int .i64 qk,.int .i64 qf,.int .i64 qg,.int .i64 qd] 109)) 95 #[.int .i64 i,.string cl,.string su,.string scp,.int .i64 ge,.int .i64 ma,.int .i64 us,.string re,.bool de];rw[show(w1.alloc (.cells #[.int .i64 qk,.int .i64 qf,.int .i64 qg,.int .i64 qd] 109)).heap.size=w1.heap.size+1 by simp]at this;exact this
 have HG3:=zH hg3;have HT3:=zH ((aj.new w1 109 #[.int .i64 qk,.int .i64 qf,.int .i64 qg,.int .i64 qd]).alloc (.cells #[.int .i64 i,.string cl,.string su,.string scp,.int .i64 ge,.int .i64 ma,.int .i64 us,.string re,.bool de] 95));clear hg3;obtain⟨y0,y1,y2,y3,y4,y5,y6,y7,y8⟩:=aA HG3.out;obtain⟨t0,t1,t2,t3⟩:=aN HT3.out;obtain⟨z0,z1,z2,z3,z4,z5,z6,z7,z8⟩:=aA (i:=0) (cl:=⟨#[]⟩) (su:=⟨#[]⟩) (sc:=⟨#[]⟩) (ge:=0) (ma:=0) (us:=0) (re:=⟨#[]⟩) (de:=false) HF3.out;have hn0:W.heap.size≠w1.heap.size:=by omega
 have hn1:W.heap.size≠w1.heap.size+1:=by omega
 clear hal H2 HF2 HB1
 by_cases hle:le=0
 ·obtain rfl:=hlf hle
  subst hle
  by_cases h1:ge<qg
  ·have hq:gW 0 ⟨i,cl,su,scp,ge,ma,us,re,de⟩ qg qd z.s.clock=(an.zero,2):=by unfold gW;rw[if_neg dC,if_pos h1]
   have HQ:=zH hq;clear hq hlf;go_wp2_with fail
   go_quiet (fail)
   have hbd:=aF (Below.refl ((w1.alloc (.cells #[.int .i64 qk,.int .i64 qf,.int .i64 qg,.int .i64 qd] 109)).alloc (.cells #[.int .i64 i,.string cl,.string su,.string scp,.int .i64 ge,.int .i64 ma,.int .i64 us,.string re,.bool de] 95)).heap.size ((w1.alloc (.cells #[.int .i64 qk,.int .i64 qf,.int .i64 qg,.int .i64 qd] 109)).alloc (.cells #[.int .i64 i,.string cl,.string su,.string scp,.int .i64 ge,.int .i64 ma,.int .i64 us,.string re,.bool de] 95))) nq;have HF4:=zH (HF3.out.below' hbd);have HB4:=zH (ae HB3.out hbd);clear hbd;go_wp2_with fail;obtain⟨n1,n2⟩:=dS (f0:=an.zero) HF4.out 0 ⟨#[]⟩ ⟨#[]⟩ ⟨#[]⟩ 0 0 0 ⟨#[]⟩ false;refine mB (HB4.out.grown n2 HB4.out.size (fun i hi=>by cases hi;exact Nat.le_refl _)) n1 rfl ?_ rfl ?_
   ·rw[HQ.out];rfl
   ·rw[HQ.out];rfl
  ·obtain⟨c0,c1,c2,c3,c4,hlt⟩:=H3.out.five
   obtain⟨d0,d1,d2,hlt2⟩:=H3.out.three
   by_cases h2:qd<z.s.clock
   ·have hq:gW 0 ⟨i,cl,su,scp,ge,ma,us,re,de⟩ qg qd z.s.clock=(an.zero,10):=by unfold gW;rw[if_neg dC,if_neg h1,if_pos h2]
    have HQ:=zH hq;clear hq hlf;go_wp2_with fail
    go_quiet (fail)
    have hbd:=aF (Below.refl ((w1.alloc (.cells #[.int .i64 qk,.int .i64 qf,.int .i64 qg,.int .i64 qd] 109)).alloc (.cells #[.int .i64 i,.string cl,.string su,.string scp,.int .i64 ge,.int .i64 ma,.int .i64 us,.string re,.bool de] 95)).heap.size ((w1.alloc (.cells #[.int .i64 qk,.int .i64 qf,.int .i64 qg,.int .i64 qd] 109)).alloc (.cells #[.int .i64 i,.string cl,.string su,.string scp,.int .i64 ge,.int .i64 ma,.int .i64 us,.string re,.bool de] 95))) nq;have HF4:=zH (HF3.out.below' hbd);have HB4:=zH (ae HB3.out hbd);clear hbd;go_wp2_with fail;obtain⟨n1,n2⟩:=dS (f0:=an.zero) HF4.out 0 ⟨#[]⟩ ⟨#[]⟩ ⟨#[]⟩ 0 0 0 ⟨#[]⟩ false;refine mB (HB4.out.grown n2 HB4.out.size (fun i hi=>by cases hi;exact Nat.le_refl _)) n1 rfl ?_ rfl ?_
    ·rw[HQ.out];rfl
    ·rw[HQ.out];rfl
   ·have hq:gW 0 ⟨i,cl,su,scp,ge,ma,us,re,de⟩ qg qd z.s.clock=(⟨i,cl,su,scp,ge,ma,us,re,de⟩,0):=by unfold gW;rw[if_neg dC,if_neg h1,if_neg h2]
    have HQ:=zH hq;clear hq hlf;go_wp2_with fail
    go_quiet (fail)
    have hbd:=aF (Below.refl ((w1.alloc (.cells #[.int .i64 qk,.int .i64 qf,.int .i64 qg,.int .i64 qd] 109)).alloc (.cells #[.int .i64 i,.string cl,.string su,.string scp,.int .i64 ge,.int .i64 ma,.int .i64 us,.string re,.bool de] 95)).heap.size ((w1.alloc (.cells #[.int .i64 qk,.int .i64 qf,.int .i64 qg,.int .i64 qd] 109)).alloc (.cells #[.int .i64 i,.string cl,.string su,.string scp,.int .i64 ge,.int .i64 ma,.int .i64 us,.string re,.bool de] 95))) nq;have HF4:=zH (HF3.out.below' hbd);have HB4:=zH (ae HB3.out hbd);clear hbd;go_wp2_with fail;obtain⟨n1,n2⟩:=dS (f0:=an.zero) HF4.out i cl su scp ge ma us re de;refine mB (HB4.out.grown n2 HB4.out.size (fun i hi=>by cases hi;exact Nat.le_refl _)) n1 rfl ?_ rfl ?_
    ·rw[HQ.out];rfl
    ·rw[HQ.out]
 ·have hq:gW le f qg qd z.s.clock=(an.zero,le):=by unfold gW;rw[if_pos hle]
  have HQ:=zH hq;have hle':(le == 0)=false:=by simpa using hle
  have hle2:decide (le=0)=false:=decide_eq_false hle;clear hq hlf;go_wp2_with fail
  go_quiet (fail)
  have hbd:=aF (Below.refl ((w1.alloc (.cells #[.int .i64 qk,.int .i64 qf,.int .i64 qg,.int .i64 qd] 109)).alloc (.cells #[.int .i64 i,.string cl,.string su,.string scp,.int .i64 ge,.int .i64 ma,.int .i64 us,.string re,.bool de] 95)).heap.size ((w1.alloc (.cells #[.int .i64 qk,.int .i64 qf,.int .i64 qg,.int .i64 qd] 109)).alloc (.cells #[.int .i64 i,.string cl,.string su,.string scp,.int .i64 ge,.int .i64 ma,.int .i64 us,.string re,.bool de] 95))) nq;have HF4:=zH (HF3.out.below' hbd);have HB4:=zH (ae HB3.out hbd);clear hbd;go_wp2_with fail;obtain⟨n1,n2⟩:=dS (f0:=an.zero) HF4.out 0 ⟨#[]⟩ ⟨#[]⟩ ⟨#[]⟩ 0 0 0 ⟨#[]⟩ false;refine mB (HB4.out.grown n2 HB4.out.size (fun i hi=>by cases hi;exact Nat.le_refl _)) n1 rfl ?_ rfl ?_
  ·rw[HQ.out];rfl
  ·rw[HQ.out];rfl
end
section
variable {W:World} {B qb rb:Nat} {r:Ru} {z:SS} {v:Value}
theorem Bj (h:RV B qb rb r z v W) (hz:RZ r z) (client subject sc:ByteArray) (h1:client.size≤5000) (h2:subject.size≤5000) (h3:sc.size≤5000):
  Calls prog 35 #[.pointer (some ⟨qb,0,none⟩),.string client,.string subject,.string sc] W (cr W B qb rb r z (bL r z.s client subject sc)):=by
 have HN1:=zH (fun w=>kc client w h1);have HN2:=zH (fun w=>kc subject w h2);have HLS:=zH (fun w=>mu sc w h3);have hfit:=hz.fit;have hlen:=hfit.len;have HPT:=zH (fun w v f (hf:f.short 5000) (h:RV B qb rb r z v w)=>vK h hz.fit hz.lg f hf);have HRF:=zH (fun w z' v' f hi hg (h:RV B qb rb r z' v' w)=>pC h f hi hg);obtain⟨sa,sc',rfl⟩:=h.rr.slice;have H:=zH h;clear h;rcases hn1:bF client.data.toList with _|_
 ·have hp:bL r z.s client subject sc=.say aI 1:=by unfold bL;rw[hn1];rfl
  have HP:=zH hp;rw[hn1]at HN1;clear hp hn1;go_enter Tryz.func35,Tryz.ntmps35;go_wp2_with fail;go_at_call 84;refine(HN1.out _).mono ?_;rintro e w1 ⟨rfl,rfl⟩;go_wp2_with fail;go_ret2;rw[HP.out];exact cr.say H.out (Below.refl _ _)
 ·rw[hn1]at HN1
  rcases hn2:bF subject.data.toList with _|_
  ·have hp:bL r z.s client subject sc=.say aI 1:=by unfold bL;rw[hn1,hn2];rfl
   have HP:=zH hp;rw[hn2]at HN2;clear hp hn1 hn2;go_enter Tryz.func35,Tryz.ntmps35;go_wp2_with fail;go_at_call 84;refine(HN1.out _).mono ?_;rintro e w1 ⟨rfl,rfl⟩;go_wp2_with fail;go_at_call 84;refine(HN2.out _).mono ?_;rintro e w1 ⟨rfl,rfl⟩;go_wp2_with fail;go_ret2;rw[HP.out];exact cr.say H.out (Below.refl _ _)
  ·rw[hn2]at HN2
   have HNA:=zH (show(bF client.data.toList&&bF subject.data.toList)=true by rw[hn1,hn2];rfl);have HNN:=zH (And.intro hn1 hn2);clear hn1 hn2;go_enter Tryz.func35,Tryz.ntmps35;go_wp2_with fail;go_at_call 84;refine(HN1.out _).mono ?_;rintro e w1 ⟨rfl,rfl⟩;go_wp2_with fail;go_at_call 84;refine(HN2.out _).mono ?_;rintro e w1 ⟨rfl,rfl⟩;clear HN1 HN2;go_wp2_with fail;go_at_call 46;refine(HLS.out _).mono ?_;rintro e w3 ⟨rfl,hb⟩;have H3:=zH (H.out.keep hb);have HB3:=zH hb;clear hb HLS H
   by_cases hsn:aw sc.data.toList=0
   ·have e0:(.int .i64 (aw sc.data.toList):Value)=.int .i64 0:=by rw[hsn]
    rw[e0];have HSN:=zH hsn;clear e0 hsn;obtain⟨c0,c1,c2,c3,c4,hlt⟩:=H3.out.five;obtain⟨d0,d1,d2,hlt2⟩:=H3.out.three;have hal:=(Below.refl w3.heap.size w3).alloc (Nat.le_refl _) (.cells #[.int .i64 z.s.clock,.int .i64 z.s.next,.slice sa z.s.fams.length sc'] 83);have H4:=zH (H3.out.keep hal);have HB4:=zH (ae HB3.out hal);clear hal
    by_cases hnx:1099511627776<z.s.next
    ·have hp:bL r z.s client subject sc=.say aI 4:=by unfold bL;rw[HNA.out,if_neg dC,if_neg (by rw[HSN.out];decide),if_pos hnx]
     have HP:=zH hp;clear hp;go_wp2_with fail;go_ret2;rw[HP.out];exact cr.say H4.out HB4.out
    ·by_cases hln:20≤z.s.fams.length
     ·have hp:bL r z.s client subject sc=.say aI 12:=by unfold bL;rw[HNA.out,if_neg dC,if_neg (by rw[HSN.out];decide),if_neg hnx,if_pos hln]
      have HP:=zH hp;clear hp;go_wp2_with fail;go_ret2;rw[HP.out];exact cr.say H4.out HB4.out
     ·have hp:bL r z.s client subject sc=.put (aW (cw z.s client subject sc)) (bX r (cw z.s client subject sc)) 0:=by unfold bL;rw[HNA.out,if_neg dC,if_neg (by rw[HSN.out];decide),if_neg hnx,if_neg hln]
      have HP:=zH hp;have hal:=bZ w3 (.cells #[.int .i64 z.s.clock,.int .i64 z.s.next,.slice sa z.s.fams.length sc'] 83) (.cells (af (cw z.s client subject sc)) 95)
      have hfb:aj ((w3.alloc (.cells #[.int .i64 z.s.clock,.int .i64 z.s.next,.slice sa z.s.fams.length sc'] 83)).alloc (.cells (af (cw z.s client subject sc)) 95)) (w3.heap.size+1) 95 (af (cw z.s client subject sc)):=by
       have:=aj.new (w3.alloc (.cells #[.int .i64 z.s.clock,.int .i64 z.s.next,.slice sa z.s.fams.length sc'] 83)) 95 (af (cw z.s client subject sc));rw[show(w3.alloc (.cells #[.int .i64 z.s.clock,.int .i64 z.s.next,.slice sa z.s.fams.length sc'] 83)).heap.size=w3.heap.size+1 by simp]at this;exact this
      have HFB:=zH hfb;have H5:=zH (H3.out.keep hal);have HB5:=zH (ae HB3.out hal);have hnM:=bO.1 hfit.next;have hidN:ba z.s.next=true:=az.2 oM;have hlst:=d9 sc.data.toList;have hcn:=cI HNN.out.1;have hsn9:=cI HNN.out.2
      have hshort:(cw z.s client subject sc).short 5000:=by
       unfold cw an.short aI;dsimp only;rw[bB];have e1:client.size=client.data.toList.length:=(aq client).symm;have e2:subject.size=subject.data.toList.length:=(aq subject).symm;refine⟨by omega,by omega,by omega,by show 0≤5000;omega⟩
      have HP2:=zH (fun w (h:RV B qb rb r z (.slice sa z.s.fams.length sc') w)=>HPT.out w _ (cw z.s client subject sc) hshort h);have HR2:=zH (fun w z' v' (h:RV B qb rb r z' v' w)=>HRF.out w z' v' (cw z.s client subject sc) hidN (show ba 0=true by decide) h);unfold aO at HP2 HR2;generalize hQ:aV z (aW (cw z.s client subject sc))=Q at*;have HQ:=zH hQ;generalize hX:bX r (cw z.s client subject sc)=X at*;generalize hF:aW (cw z.s client subject sc)=FE at*;unfold cw af at HP2 HR2 HFB H5 HB5;unfold aI at HP2 HR2 HFB H5 HB5;dsimp only at HP2 HR2 HFB H5 HB5;clear hX hF hQ;clear hp hal hfb hnM hidN hlst hcn hsn9 hshort H4 HB4 H3 HB3 HPT HRF;go_wp2_with fail;go_at_call 85;refine(HP2.out _ H5.out).mono ?_;rintro e w6 ⟨rfl,hg,v6,h6⟩;have H6:=zH h6;have HT6:=zH (aU (aG HB5.out _) hg);have HF6:=zH (HFB.out.grown hg (by simpa using HFB.out.ne_ H5.out.ra dC));clear hg h6 HFB H5 HB5 HP2
      by_cases hq:Q.2=0
      ·have e0:(.int .i64 Q.2:Value)=.int .i64 0:=by rw[hq]
       rw[e0];have HQ0:=zH hq;clear e0 hq;obtain⟨f0,f1,f2,f3,f4,f5,f6,f7,f8⟩:=aA HF6.out;go_wp2_with fail;go_at_call 86;refine(HR2.out _ _ _ H6.out).mono ?_;rintro e w7 ⟨rfl,hb⟩;have H7:=zH (H6.out.keep hb);have HT7:=zH (aU HT6.out (aG hb _));clear hb H6 HT6 f0 f1 f2 f3 f4 f5 f6 f7 f8 HF6;go_wp2_with fail;go_ret2;rw[HP.out];exact cr.good (by rw[HQ.out];exact HQ0.out) HT7.out (by rw[HQ.out];exact H7.out)
      ·have HQ0:=zH hq
       go_wp2_with fail;go_ret2;rw[HP.out,←HQ.out];exact cr.bad (by rw[HQ.out];exact HQ0.out) HT6.out (by rw[HQ.out];exact H6.out)
   ·have hp:bL r z.s client subject sc=.say aI (aw sc.data.toList):=by unfold bL;rw[HNA.out,if_neg dC,if_pos hsn]
    have HP:=zH hp;clear hp;go_wp2_with fail;go_ret2;rw[HP.out];exact cr.say H3.out HB3.out
end
section
variable {W:World} {B qb rb:Nat} {r:Ru} {z:SS} {v:Value}
theorem zJ (h:RV B qb rb r z v W) (hz:RZ r z) (t request sc:ByteArray) (ht:t.size≤5000) (h2:request.size≤5000) (h3:sc.size≤5000):
  Calls prog 36 #[.pointer (some ⟨qb,0,none⟩),.string t,.string request,.string sc] W (cr W B qb rb r z (dG r z.s t request sc)):=by
 have HN1:=zH (fun w=>kc request w h2);have HLS:=zH (fun w=>mu sc w h3);have HL:=zH (fun w v (h:RV B qb rb r z v w)=>oR h hz t 1 ht);rw[rV];have hfit:=hz.fit;have hmem:co r z.s (a8 r t) 1=0→gy (dI z.s (a8 r t))=true:=fun hh=>hfit.fams _ (ib hh).2.2.2.1
 have hll0:=fun hh:co r z.s (a8 r t) 1=0=>nw hh
 have HPT:=zH (fun w f (hf:f.short 5000) (h:RV B qb rb r z v w)=>vK h hz.fit hz.lg f hf);have HRF:=zH (fun w z' v' f hi hg (h:RV B qb rb r z' v' w)=>pC h f hi hg);have H:=zH h;unfold lC v4 at HL;clear h hfit;rcases hn1:bF request.data.toList with _|_
 ·rw[if_pos rfl]
  rw[hn1]at HN1;go_enter Tryz.func36,Tryz.ntmps36;go_wp2_with fail;go_at_call 84;refine(HN1.out _).mono ?_;rintro e w1 ⟨rfl,rfl⟩;have H1:=H;have HB1:=zH (Below.refl W.heap.size W);clear H;go_wp2_with fail;go_ret2;exact cr.say H1.out HB1.out
 ·rw[if_neg dC]
  have HNN:=zH hn1;rw[hn1]at HN1;clear hn1;generalize co r z.s (a8 r t) 1=le at*;generalize dI z.s (a8 r t)=f at*;generalize ip z.s (a8 r t) 1=lf at*;generalize a8 r t=q at*;obtain⟨qe,qk,qf,qg,qd⟩:=q;dsimp only at HL;dsimp only;go_enter Tryz.func36,Tryz.ntmps36;go_wp2_with fail;go_at_call 84;refine(HN1.out _).mono ?_;rintro e w1 ⟨rfl,rfl⟩;have H1:=H;have HB1:=zH (Below.refl W.heap.size W);clear H HN1;go_wp2_with fail;go_at_call 87;refine(HL.out _ _ H1.out).mono ?_;rintro e w2 ⟨rfl,hb⟩;have H2:=zH (H1.out.keep hb);have HB2:=zH (ae HB1.out hb);clear hb HL H1 HB1;have hll:le=0→lf=f:=hll0;clear hll0
  by_cases hle:le=0
  ·subst hle
   obtain rfl:=hll rfl;have hfb:=hmem rfl;clear hmem;have p2:=(bo hfb).2.1;have p1:=(bo hfb).1;obtain⟨g0,g1⟩:=az.1 p2;have HFB:=zH hfb;have HP2:=zH p2;have HP1:=zH p1;clear hfb p2 p1;obtain⟨i,cl,su,scp,ge,ma,us,re,de⟩:=lf;unfold aO af;dsimp only at*;have hts:=qW request re;have hts2:=qW re request;rcases ur ge qg request.data.toList re.data.toList with h1|⟨h1,h4,h5⟩|⟨h1,h4,h5⟩|⟨h1,h4,h5⟩|h1
   ·have hp:cZ r z.s ⟨0,qg,0,⟨i,cl,su,scp,ge,ma,us,re,de⟩⟩ request sc=_:=(eo r z.s qg ⟨i,cl,su,scp,ge,ma,us,re,de⟩ request sc).trans (if_pos h1)
    have HP:=zH hp;clear hp;clear hts hts2;have hal:=bZ w2 (.cells #[.int .i64 qk,.int .i64 qf,.int .i64 qg,.int .i64 qd] 109) (.cells #[.int .i64 i,.string cl,.string su,.string scp,.int .i64 ge,.int .i64 ma,.int .i64 us,.string re,.bool de] 95);have H3:=zH (H2.out.keep hal);have HB3:=zH (ae HB2.out hal);clear hal;go_wp2_with fail;go_ret2;rw[HP.out];exact cr.say H3.out HB3.out
   ·have hp:cZ r z.s ⟨0,qg,0,⟨i,cl,su,scp,ge,ma,us,re,de⟩⟩ request sc=_:=(eo r z.s qg ⟨i,cl,su,scp,ge,ma,us,re,de⟩ request sc).trans ((if_neg h1).trans (if_pos ⟨h4,h5⟩))
    have HP:=zH hp;clear hp;rw[decide_eq_true h5]at hts;rw[decide_eq_true h5.symm]at hts2;subst h4;have hal:=bZ w2 (.cells #[.int .i64 qk,.int .i64 qf,.int .i64 (ge - 1),.int .i64 qd] 109) (.cells #[.int .i64 i,.string cl,.string su,.string scp,.int .i64 ge,.int .i64 ma,.int .i64 us,.string re,.bool de] 95);have H3:=zH (H2.out.keep hal);have HB3:=zH (ae HB2.out hal);have HRF2:=zH (fun w h=>HRF.out w z v ⟨i,cl,su,scp,ge,ma,us,re,de⟩ HP1.out HP2.out h);unfold aO af at HRF2;dsimp only at HRF2;generalize bX r ⟨i,cl,su,scp,ge,ma,us,re,de⟩=X at*;clear hal h5 HRF HPT;go_wp2_with fail;go_at_call 86;refine(HRF2.out _ H3.out).mono ?_;rintro e w4 ⟨rfl,hb⟩;have H4:=zH (H3.out.keep hb);have HB4:=zH (ae HB3.out hb);clear hb H3 HB3;go_wp2_with fail;go_ret2;rw[HP.out];exact cr.say H4.out HB4.out
   ·have hp:cZ r z.s ⟨0,qg,0,⟨i,cl,su,scp,ge,ma,us,re,de⟩⟩ request sc=_:=(eo r z.s qg ⟨i,cl,su,scp,ge,ma,us,re,de⟩ request sc).trans ((if_neg h1).trans ((if_neg (fun h=>h5 h.2)).trans (if_pos (show qg<ge by omega))))
    have HP:=zH hp;clear hp;rw[decide_eq_false h5]at hts;rw[decide_eq_false (fun h=>h5 h.symm)]at hts2;subst h4;clear h5;have hal:=bZ w2 (.cells #[.int .i64 qk,.int .i64 qf,.int .i64 (ge - 1),.int .i64 qd] 109) (.cells #[.int .i64 i,.string cl,.string su,.string scp,.int .i64 ge,.int .i64 ma,.int .i64 us,.string re,.bool true] 95);have H3:=zH (H2.out.keep hal);have HB3:=zH (ae HB2.out hal);have hsh:an.short ⟨i,cl,su,scp,ge,ma,us,re,true⟩ 5000:=dP (f:=⟨i,cl,su,scp,ge,ma,us,re,de⟩) HFB.out;have HPT2:=zH (fun w h=>HPT.out w _ hsh h);generalize hQ:aV z (aW (eS ⟨i,cl,su,scp,ge,ma,us,re,de⟩))=Q at*;have hQ2:aV z (aW ⟨i,cl,su,scp,ge,ma,us,re,true⟩)=Q:=hQ;rw[hQ2]at HPT2;have HQ:=zH hQ;generalize aW (eS ⟨i,cl,su,scp,ge,ma,us,re,de⟩)=FE at*;unfold aO af at HPT2;dsimp only at HPT2;clear hal hsh hQ hQ2 H2 HB2 HFB HPT HRF HLS;go_wp2_with fail;go_at_call 85;refine(HPT2.out _ H3.out).mono ?_;rintro e w6 ⟨rfl,htw,v6,h6⟩;have H6:=zH h6;have HT6:=zH (aU (aG HB3.out _) htw);clear htw h6 H3 HB3 HPT2
    by_cases hq:Q.2=0
    ·have e0:(.int .i64 Q.2:Value)=.int .i64 0:=by rw[hq]
     rw[e0];have HQ0:=zH hq;clear e0 hq;go_wp2_with fail;go_ret2;rw[HP.out];exact cr.good (by rw[HQ.out];exact HQ0.out) HT6.out (by rw[HQ.out];exact H6.out)
    ·have HQ0:=zH hq
     go_wp2_with fail;go_ret2;rw[←HQ.out];rw[HP.out];exact cr.bad (by rw[HQ.out];exact HQ0.out) HT6.out (by rw[HQ.out];exact H6.out)
   ·have hp:cZ r z.s ⟨0,qg,0,⟨i,cl,su,scp,ge,ma,us,re,de⟩⟩ request sc=_:=(eo r z.s qg ⟨i,cl,su,scp,ge,ma,us,re,de⟩ request sc).trans ((if_neg h1).trans ((if_neg (fun h=>h4 h.1)).trans (if_pos h5)))
    have HP:=zH hp;clear hp;clear hts hts2;have hal:=bZ w2 (.cells #[.int .i64 qk,.int .i64 qf,.int .i64 qg,.int .i64 qd] 109) (.cells #[.int .i64 i,.string cl,.string su,.string scp,.int .i64 ge,.int .i64 ma,.int .i64 us,.string re,.bool true] 95);have H3:=zH (H2.out.keep hal);have HB3:=zH (ae HB2.out hal);have hsh:an.short ⟨i,cl,su,scp,ge,ma,us,re,true⟩ 5000:=dP (f:=⟨i,cl,su,scp,ge,ma,us,re,de⟩) HFB.out;have HPT2:=zH (fun w h=>HPT.out w _ hsh h);generalize hQ:aV z (aW (eS ⟨i,cl,su,scp,ge,ma,us,re,de⟩))=Q at*;have hQ2:aV z (aW ⟨i,cl,su,scp,ge,ma,us,re,true⟩)=Q:=hQ;rw[hQ2]at HPT2;have HQ:=zH hQ;generalize aW (eS ⟨i,cl,su,scp,ge,ma,us,re,de⟩)=FE at*;unfold aO af at HPT2;dsimp only at HPT2;clear hal hsh hQ hQ2 H2 HB2 HFB HPT HRF HLS;go_wp2_with fail;go_at_call 85;refine(HPT2.out _ H3.out).mono ?_;rintro e w6 ⟨rfl,htw,v6,h6⟩;have H6:=zH h6;have HT6:=zH (aU (aG HB3.out _) htw);clear htw h6 H3 HB3 HPT2
    by_cases hq:Q.2=0
    ·have e0:(.int .i64 Q.2:Value)=.int .i64 0:=by rw[hq]
     rw[e0];have HQ0:=zH hq;clear e0 hq;go_wp2_with fail;go_ret2;rw[HP.out];exact cr.good (by rw[HQ.out];exact HQ0.out) HT6.out (by rw[HQ.out];exact H6.out)
    ·have HQ0:=zH hq
     go_wp2_with fail;go_ret2;rw[←HQ.out];rw[HP.out];exact cr.bad (by rw[HQ.out];exact HQ0.out) HT6.out (by rw[HQ.out];exact H6.out)
   ·subst h1
    have n1: ¬ qg<qg:=by omega
    have n2: ¬ (qg=qg - 1∧request.data.toList=re.data.toList):=fun h=>by have:=h.1;omega
    have hp:cZ r z.s ⟨0,qg,0,⟨i,cl,su,scp,qg,ma,us,re,de⟩⟩ request sc=_:=(eo r z.s qg ⟨i,cl,su,scp,qg,ma,us,re,de⟩ request sc).trans ((if_neg n1).trans ((if_neg n2).trans (if_neg n1)));have HP:=zH hp;clear hp;have h4:qg≠qg - 1:=by omega
    clear hts hts2 n1 n2;have hal:=bZ w2 (.cells #[.int .i64 qk,.int .i64 qf,.int .i64 qg,.int .i64 qd] 109) (.cells #[.int .i64 i,.string cl,.string su,.string scp,.int .i64 qg,.int .i64 ma,.int .i64 us,.string re,.bool de] 95);have H3:=zH (H2.out.keep hal);have HB3:=zH (ae HB2.out hal)
    have hg:aj ((w2.alloc (.cells #[.int .i64 qk,.int .i64 qf,.int .i64 qg,.int .i64 qd] 109)).alloc (.cells #[.int .i64 i,.string cl,.string su,.string scp,.int .i64 qg,.int .i64 ma,.int .i64 us,.string re,.bool de] 95)) (w2.heap.size+1) 95 (af ⟨i,cl,su,scp,qg,ma,us,re,de⟩):=by
     have:=aj.new (w2.alloc (.cells #[.int .i64 qk,.int .i64 qf,.int .i64 qg,.int .i64 qd] 109)) 95 (af ⟨i,cl,su,scp,qg,ma,us,re,de⟩);rw[show(w2.alloc (.cells #[.int .i64 qk,.int .i64 qf,.int .i64 qg,.int .i64 qd] 109)).heap.size=w2.heap.size+1 by simp]at this;exact this
    have HG3:=zH hg;have HD3:=zH hal;clear hal hg;go_wp2_with fail;go_at_call 46;refine(HLS.out _).mono ?_;rintro e w3 ⟨rfl,hb⟩;have H4:=zH (H3.out.keep hb);have HB4:=zH (ae HB3.out hb);have HG4:=zH (HG3.out.below' hb);have HD4:=zH (ae HD3.out hb);clear hb HLS H3 HB3 HG3 HD3
    by_cases hsn:aw sc.data.toList=0
    ·have e0:(.int .i64 (aw sc.data.toList):Value)=.int .i64 0:=by rw[hsn]
     rw[e0];have hp:=HP.out.trans (if_neg (fun h=>h hsn));have HSN:=zH hsn;clear e0 hsn HP;have HP:=zH hp;clear hp;have hsb:=dP HFB.out;have HWI:=zH (fun w=>y9 (ah (aT sc.data.toList)) scp w (by rw[bB];have:=d9 sc.data.toList;omega) hsb.2.2.1);obtain⟨y0,y1,y2,y3,y4,y5,y6,y7,y8⟩:=aA HG4.out;have hgz:=HG4.out.frozen;clear hsb;go_wp2_with fail;go_at_call 88;refine(HWI.out _).mono ?_;rintro e w4 ⟨rfl,hb⟩;have H5:=zH (H4.out.keep hb);have HB5:=zH (ae HB4.out hb);have HG5:=zH (HG4.out.below' hb);have HD5:=zH (ae HD4.out hb);clear hb H4 HB4 HG4 HD4 HWI y0 y1 y2 y3 y4 y5 y6 y7 y8 hgz;have etl:(ah (aT sc.data.toList)).data.toList=aT sc.data.toList:=rfl;rw[etl];clear etl;rcases hwb:jr (aT sc.data.toList) scp.data.toList with _|_
     ·have hp:=HP.out.trans (if_pos hwb)
      clear HP;have HP:=zH hp;clear hp hwb;go_wp2_with fail;go_ret2;rw[HP.out];exact cr.say H5.out HB5.out
     ·have hp:=HP.out.trans (if_neg (show ¬ jr (aT sc.data.toList) scp.data.toList=false by rw[hwb];decide))
      clear HP;obtain⟨y0,y1,y2,y3,y4,y5,y6,y7,y8⟩:=aA HG5.out;have hgz:=HG5.out.frozen
      by_cases hmx:qg=1099511627776
      ·have HP:=zH (hp.trans (if_pos hmx))
       clear hp hwb;subst hmx;go_wp2_with fail;go_ret2;rw[HP.out];exact cr.say H5.out HB5.out
      ·have HP:=zH (hp.trans (if_neg hmx))
       clear hp hwb;have hd6:=HD5.out.setCell (p:=⟨w2.heap.size+1,4,none⟩) (Nat.le_succ _) (.int .i64 (qg+1));have HD6:=zH hd6;have H6:=zH (H2.out.keep hd6);have HG6:=zH (HG5.out.put_ 4 (.int .i64 (qg+1)) (cs':=af ⟨i,cl,su,scp,qg+1,ma,us,re,de⟩) rfl);have HBW:=zH (fun w (h:Below w2.heap.size w2 w)=>ae HB2.out h);obtain⟨c0,c1,c2,c3,c4,hlt⟩:=H5.out.five;have hq1:qg+1≤1099511627776:=by omega
       clear hd6;obtain⟨d0,d1,d2,hlt2⟩:=H5.out.three;go_wp2_with fail;have hd8:=(((HD5.out.setCell (p:=⟨w2.heap.size+1,4,none⟩) (Nat.le_succ _) (.int .i64 (qg+1))).setCell (p:=⟨w2.heap.size+1,3,none⟩) (Nat.le_succ _) (.string (ah (aT sc.data.toList)))).setCell (p:=⟨w2.heap.size+1,7,none⟩) (Nat.le_succ _) (.string request)).setCell (p:=⟨w2.heap.size+1,6,none⟩) (Nat.le_succ _) (.int .i64 z.s.clock);have hd9:=au hd8;have H8:=zH (H2.out.keep hd9);have HB8:=zH (HBW.out _ hd9);have k4:=HG5.out.put_ 4 (.int .i64 (qg+1)) (cs':=af ⟨i,cl,su,scp,qg+1,ma,us,re,de⟩) rfl;have k3:=k4.put_ 3 (.string (ah (aT sc.data.toList))) (cs':=af ⟨i,cl,su,ah (aT sc.data.toList),qg+1,ma,us,re,de⟩) rfl;have k7:=k3.put_ 7 (.string request) (cs':=af ⟨i,cl,su,ah (aT sc.data.toList),qg+1,ma,us,request,de⟩) rfl;have HG8:=zH ((k7.put_ 6 (.int .i64 z.s.clock) (cs':=af ⟨i,cl,su,ah (aT sc.data.toList),qg+1,ma,z.s.clock,request,de⟩) rfl).drew);have hs0:an.short ⟨i,cl,su,scp,qg,ma,us,re,de⟩ 5000:=dP HFB.out;have hlst:=d9 sc.data.toList;have hrq:=cI HNN.out
       have hsh:an.short ⟨i,cl,su,ah (aT sc.data.toList),qg+1,ma,z.s.clock,request,de⟩ 5000:=by
        unfold an.short at hs0 ⊢;dsimp only at hs0 ⊢;rw[bB];have e1:request.size=request.data.toList.length:=(aq request).symm;exact⟨hs0.1,hs0.2.1,by omega,by omega⟩
       have HPT2:=zH (fun w h=>HPT.out w _ hsh h);have HRF2:=zH (fun w z' v' (h:RV B qb rb r z' v' w)=>HRF.out w z' v' ⟨i,cl,su,ah (aT sc.data.toList),qg+1,ma,z.s.clock,request,de⟩ HP1.out (az.2 ⟨show 0≤qg+1 by omega,hq1⟩) h);generalize hQ:aV z (aW (mJ z.s ⟨i,cl,su,scp,qg,ma,us,re,de⟩ request sc))=Q at*;have hQ2:aV z (aW ⟨i,cl,su,ah (aT sc.data.toList),qg+1,ma,z.s.clock,request,de⟩)=Q:=hQ;rw[hQ2]at HPT2;have HQ:=zH hQ;generalize hX:bX r (mJ z.s ⟨i,cl,su,scp,qg,ma,us,re,de⟩ request sc)=X at*;have hX2:bX r ⟨i,cl,su,ah (aT sc.data.toList),qg+1,ma,z.s.clock,request,de⟩=X:=hX;rw[hX2]at HRF2;generalize aW (mJ z.s ⟨i,cl,su,scp,qg,ma,us,re,de⟩ request sc)=FE at*;unfold aO af at HPT2 HRF2;dsimp only at HPT2 HRF2;clear hd8 hd9 k3 k4 k7 hs0 hlst hrq hsh hQ hQ2 hX hX2 HPT HRF HBW H2 HB2 HFB HP1 HP2 HNN H5 HB5 HG5 HD5
       go_region
       go_wp2_with fail;go_at_call 85;refine(HPT2.out _ H8.out).mono ?_;rintro e w6 ⟨rfl,htw,v6,h6⟩;have H9:=zH h6;have HT9:=zH (aU (aG HB8.out _) htw);have HF9:=zH (HG8.out.grown htw (by simpa using HG8.out.ne_ H8.out.ra dC));clear htw h6 HG8 H8 HB8 HPT2
       by_cases hq:Q.2=0
       ·have e0:(.int .i64 Q.2:Value)=.int .i64 0:=by rw[hq]
        rw[e0];have HQ0:=zH hq;clear e0 hq y0 y1 y2 y3 y4 y5 y6 y7 y8 hgz c0 c1 c2 c3 c4 hlt d0 d1 d2 hlt2;obtain⟨f0,f1,f2,f3,f4,f5,f6,f7,f8⟩:=aA HF9.out;go_wp2_with fail;go_at_call 86;refine(HRF2.out _ _ _ H9.out).mono ?_;rintro e w7 ⟨rfl,hb⟩;have H10:=zH (H9.out.keep hb);have HT10:=zH (aU HT9.out (aG hb _));clear hb H9 HT9 f0 f1 f2 f3 f4 f5 f6 f7 f8 HF9;go_wp2_with fail;go_ret2;rw[HP.out];exact cr.good (by rw[HQ.out];exact HQ0.out) HT10.out (by rw[HQ.out];exact H10.out)
       ·have HQ0:=zH hq
        go_wp2_with fail;go_ret2;rw[HP.out,←HQ.out];exact cr.bad (by rw[HQ.out];exact HQ0.out) HT9.out (by rw[HQ.out];exact H9.out)
    ·have hp:=HP.out.trans (if_pos hsn)
     clear HP;have HP:=zH hp;clear hp;go_wp2_with fail;go_ret2;rw[HP.out];exact cr.say H4.out HB4.out
  ·have HP:=zH (tV (r:=r) (s:=z.s) (qg:=qg) (f:=f) (request:=request) (sc:=sc) hle)
   obtain⟨i,cl,su,scp,ge,ma,us,re,de⟩:=lf;unfold aO af;dsimp only at*;have hal:=bZ w2 (.cells #[.int .i64 qk,.int .i64 qf,.int .i64 qg,.int .i64 qd] 109) (.cells #[.int .i64 i,.string cl,.string su,.string scp,.int .i64 ge,.int .i64 ma,.int .i64 us,.string re,.bool de] 95);have H3:=zH (H2.out.keep hal);have HB3:=zH (ae HB2.out hal);clear hal hmem;go_wp2_with fail;go_ret2;rw[HP.out];exact cr.say H3.out HB3.out
end
end Go.Proofs.YtepjcdjpikbbjaaGreatDoor
