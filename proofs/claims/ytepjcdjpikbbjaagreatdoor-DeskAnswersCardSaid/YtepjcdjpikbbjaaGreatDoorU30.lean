/-
  A service: Mint.
-/
import Derived.Test.YtepjcdjpikbbjaaGreatDoorU00
import Derived.Test.YtepjcdjpikbbjaaGreatDoorU29
set_option maxHeartbeats 4000000
set_option maxRecDepth 100000
namespace Go.Proofs.YtepjcdjpikbbjaaGreatDoor
open Go.Proofs.Tryz
open Go.RowKit Go.Sort
def gU (r:Ru) (le:Int) (f:an) (qg ck:Int):ByteArray×Int:=if le≠0 then(aI,le)else if f.gen<qg then(aI,2)else if qg<f.gen then(aI,8)else(jT r.key 2 f.id f.gen (cK ck r.access),0)
theorem xY (r:Ru) (s:St) (t:ByteArray):jL r s t=gU r (co r s (a8 r t) 1) (dI s (a8 r t)) (a8 r t).2.2.2.1 s.clock:=by
 unfold jL Ax gU;rw[vi]
 by_cases h:co r s (a8 r t) 1≠0
 ·rw[if_pos h,if_pos h]
 ·rw[if_neg h,if_neg h]
  obtain⟨h1,h2,h3,_⟩:=ib (r:=r) (s:=s) (t:=t) (kind:=1) (by simpa using h);rw[h1,h3]
def Am (W:World) (q:ByteArray×Int) (e:Ending) (w':World):Prop:=e=.returned (.tuple #[.string q.1,bV q.2])∧Below W.heap.size W w'
theorem tY {a b c:Int} (ha:ba a=true) (hb:ba b=true) (hc:ba c=true):bN 2 a b c=true:=by unfold bN;rw[ha,hb,hc];simp
theorem uV {a b:Int} (ha:ba a=true) (hb:ba b=true):ba (cK a b)=true:=by
 obtain⟨a0,a1⟩:=az.1 ha;obtain⟨b0,b1⟩:=az.1 hb;refine az.2 ?_;unfold cK;split<;>omega
section
variable {B vb sb db k:Nat} {r:Ru} {z:SS} {v:Value} {W:World}
theorem Dx (h:SW B vb sb db k r z v W) (t:ByteArray) (ht:t.size≤5000):
  Calls prog 130 #[.pointer (some ⟨vb,0,none⟩),.string t] W (Am W (jL r z.s t)):=by
 have HST:=zH (fun w (h:SW B vb sb db k r z v w)=>(gM h.sx).mono fun _ _ h=>fG h);have HL:=zH (fun w (h:SW B vb sb db k r z v w)=>rS h t 1 ht);rw[xY];have hfit:=h.sx.fit;have hru:=i1 h.right;have hmem:co r z.s (a8 r t) 1=0→gy (dI z.s (a8 r t))=true:=fun hh=>hfit.fams _ (ib hh).2.2.2.1
 have hck:=hfit.clock;have H1:=zH h;unfold om v4 at HL;unfold iS at HST;clear h hfit;generalize co r z.s (a8 r t) 1=le at*;generalize dI z.s (a8 r t)=f at*;generalize a8 r t=q at*;obtain⟨qe,qk,qf,qg,qd⟩:=q;obtain⟨i,cl,su,scp,ge,ma,us,re,de⟩:=f;unfold aO af at HL;dsimp only at HL;dsimp only;generalize z.s=s at*;obtain⟨ck,nx,L⟩:=s;dsimp only at*;have HAD:=zH (fun w=>jH ck r.access w (az.1 hck) (az.1 hru.2.2.2));go_enter Tryz.func130,Tryz.ntmps130;go_wp2_with fail;go_at_call 183;refine(HL.out _ H1.out).mono ?_;rintro e w1 ⟨rfl,hb⟩;have H2:=zH (H1.out.keep hb);have HB1:=zH hb;clear hb H1 HL;have hal:=bZ w1 (.cells #[.int .i64 qk,.int .i64 qf,.int .i64 qg,.int .i64 qd] 182) (.cells #[.int .i64 i,.string cl,.string su,.string scp,.int .i64 ge,.int .i64 ma,.int .i64 us,.string re,.bool de] 95);have HT3:=zH ((aj.new w1 182 #[.int .i64 qk,.int .i64 qf,.int .i64 qg,.int .i64 qd]).alloc (.cells #[.int .i64 i,.string cl,.string su,.string scp,.int .i64 ge,.int .i64 ma,.int .i64 us,.string re,.bool de] 95))
 have hg:aj ((w1.alloc (.cells #[.int .i64 qk,.int .i64 qf,.int .i64 qg,.int .i64 qd] 182)).alloc (.cells #[.int .i64 i,.string cl,.string su,.string scp,.int .i64 ge,.int .i64 ma,.int .i64 us,.string re,.bool de] 95)) (w1.heap.size+1) 95 #[.int .i64 i,.string cl,.string su,.string scp,.int .i64 ge,.int .i64 ma,.int .i64 us,.string re,.bool de]:=by
  have:=aj.new (w1.alloc (.cells #[.int .i64 qk,.int .i64 qf,.int .i64 qg,.int .i64 qd] 182)) 95 #[.int .i64 i,.string cl,.string su,.string scp,.int .i64 ge,.int .i64 ma,.int .i64 us,.string re,.bool de];rw[show(w1.alloc (.cells #[.int .i64 qk,.int .i64 qf,.int .i64 qg,.int .i64 qd] 182)).heap.size=w1.heap.size+1 by simp]at this;exact this
 have HG3:=zH hg;have H3:=zH (H2.out.keep hal);have HB3:=zH (ae HB1.out hal);clear hal hg H2 HB1
 by_cases hle:le=0
 ·subst hle
  have e0:bV 0=.nilIface:=cH;rw[e0];clear e0;have hfb:=hmem rfl;clear hmem
  by_cases h1:ge<qg
  ·have hq:gU r 0 ⟨i,cl,su,scp,ge,ma,us,re,de⟩ qg ck=(aI,2):=by unfold gU;rw[if_neg dC,if_pos h1]
   have HQ:=zH hq;clear hq HT3 HG3 H3;go_wp2_with fail;go_ret2;rw[HQ.out];exact⟨rfl,HB3.out⟩
  ·by_cases h2:qg<ge
   ·have hq:gU r 0 ⟨i,cl,su,scp,ge,ma,us,re,de⟩ qg ck=(aI,8):=by unfold gU;rw[if_neg dC,if_neg h1,if_pos h2]
    have HQ:=zH hq;clear hq HT3 HG3 H3;go_wp2_with fail;go_ret2;rw[HQ.out];exact⟨rfl,HB3.out⟩
   ·have hq:gU r 0 ⟨i,cl,su,scp,ge,ma,us,re,de⟩ qg ck=(jT r.key 2 i ge (cK ck r.access),0):=by unfold gU;rw[if_neg dC,if_neg h1,if_neg h2]
    have HQ:=zH hq;obtain⟨p1,p2,_⟩:=bo hfb;have HA:Hid (∀ w,bH w→Calls prog 136 #[.int .i64 r.key,v4 2 i ge (cK ck r.access)] w fun e w'=>e=.returned (.tuple #[.string (jT r.key 2 i ge (cK ck r.access)),.nilIface])∧Below w.heap.size w w'):=zH fun w hT=>fp r.key 2 i ge (cK ck r.access) w hT (tY p1 p2 (uV hck hru.2.2.2))
    unfold v4 at HA;generalize jT r.key 2 i ge (cK ck r.access)=tx at*;generalize cK ck r.access=ce at*;clear hq hfb p1 p2 hck hru;go_wp2_with fail;generalize (w1.alloc (.cells #[.int .i64 qk,.int .i64 qf,.int .i64 qg,.int .i64 qd] 182)).alloc (.cells #[.int .i64 i,.string cl,.string su,.string scp,.int .i64 ge,.int .i64 ma,.int .i64 us,.string re,.bool de] 95)=w3 at*;have HSD:=zH H3.out.drew;have HGD:=zH HG3.out.drew;have HBD:=zH (au HB3.out);clear H3 HT3 HG3 HB3;have HD:w3.drew.cell? ⟨vb,0,none⟩=some (.pointer (some ⟨sb,0,none⟩))∧w3.drew.cell? ⟨vb,1,none⟩=some (.int .i64 r.key)∧w3.drew.cell? ⟨vb,4,none⟩=some (.int .i64 r.access)∧w3.drew.cell? ⟨w1.heap.size+1,0,none⟩=some (.int .i64 i)∧w3.drew.cell? ⟨w1.heap.size+1,4,none⟩=some (.int .i64 ge):=⟨HSD.out.five.1,HSD.out.five.2.1,HSD.out.five.2.2.2.2.1,HGD.out.cell 0,HGD.out.cell 4⟩
    go_region_held3 (fun w'=>w'.cell? ⟨vb,0,none⟩=some (.pointer (some ⟨sb,0,none⟩))∧w'.cell? ⟨vb,1,none⟩=some (.int .i64 r.key)∧w'.cell? ⟨vb,4,none⟩=some (.int .i64 r.access)∧w'.cell? ⟨w1.heap.size+1,0,none⟩=some (.int .i64 i)∧w'.cell? ⟨w1.heap.size+1,4,none⟩=some (.int .i64 ge))
     (first
      |with_reducible assumption
      |with_reducible exact HD)
     (first
      |(go_at_call 184;(with_reducible refine(HAD.out _).mono ?_);rintro x' w2 ⟨rfl,rfl⟩)
      |(go_at_call 177;(with_reducible refine(HST.out _ HSD.out).mono ?_);rintro x' w2 ⟨a4,ac4,rfl,hr4,hb⟩
        have HS4:=zH (HSD.out.keep hb);have HG4:=zH (HGD.out.below' hb);have HB4:=zH (ae HBD.out hb);have hx2:w2.cell? ⟨vb,0,none⟩=some (.pointer (some ⟨sb,0,none⟩))∧w2.cell? ⟨vb,1,none⟩=some (.int .i64 r.key)∧w2.cell? ⟨vb,4,none⟩=some (.int .i64 r.access)∧w2.cell? ⟨w1.heap.size+1,0,none⟩=some (.int .i64 i)∧w2.cell? ⟨w1.heap.size+1,4,none⟩=some (.int .i64 ge):=⟨HS4.out.five.1,HS4.out.five.2.1,HS4.out.five.2.2.2.2.1,HG4.out.cell 0,HG4.out.cell 4⟩;have hsc:=jk ck nx a4 L.length ac4;clear hr4 hb)
      |(go_at_call 136;(with_reducible refine(HA.out _ HS4.out.sx.env.tens).mono ?_);rintro x' w2 ⟨rfl,hb⟩
        have hend:=ae HB4.out hb;have hx5:w2.cell? ⟨vb,0,none⟩=some (.pointer (some ⟨sb,0,none⟩))∧w2.cell? ⟨vb,1,none⟩=some (.int .i64 r.key)∧w2.cell? ⟨vb,4,none⟩=some (.int .i64 r.access)∧w2.cell? ⟨w1.heap.size+1,0,none⟩=some (.int .i64 i)∧w2.cell? ⟨w1.heap.size+1,4,none⟩=some (.int .i64 ge):=⟨(HS4.out.keep hb).five.1,(HS4.out.keep hb).five.2.1,(HS4.out.keep hb).five.2.2.2.2.1,(HG4.out.below' hb).cell 0,(HG4.out.below' hb).cell 4⟩))
    go_wp2_with fail;go_ret2;rw[HQ.out];exact⟨rfl,hend⟩
 ·have e0:bV le=.iface 57 (.int .i64 le):=aP hle
  have HE:=zH e0;rw[e0];have hq:gU r le ⟨i,cl,su,scp,ge,ma,us,re,de⟩ qg ck=(aI,le):=by unfold gU;rw[if_pos hle]
  have HQ:=zH hq;clear e0 hq hle HT3 HG3 H3 hmem;go_wp2_with fail;go_ret2;rw[HQ.out];refine⟨?_,HB3.out⟩;rw[HE.out];rfl
end
theorem rV (r:Ru) (s:St) (t request sc:ByteArray):dG r s t request sc=if bF request.data.toList=false then .say aI 1 else cZ r s ⟨co r s (a8 r t) 1,(a8 r t).2.2.2.1,0,dI s (a8 r t)⟩ request sc:=by
 unfold dG
 by_cases hn:bF request.data.toList=false
 ·rw[if_pos hn,if_pos hn]
 ·rw[if_neg hn,if_neg hn]
  unfold cZ;rw[vi]
  by_cases h:co r s (a8 r t) 1≠0
  ·rw[if_pos h,if_pos h]
  ·rw[if_neg h,if_neg h]
   obtain⟨h1,h2,h3,_⟩:=ib (r:=r) (s:=s) (t:=t) (kind:=1) (by simpa using h);rw[h1,h3]
theorem qW (a b:ByteArray):(a.toList == b.toList)=decide (a.data.toList=b.data.toList):=by
 rw[ByteArray.toList_eq,ByteArray.toList_eq,Bool.eq_iff_iff];simp
theorem eo (r:Ru) (s:St) (qg:Int) (f:an) (request sc:ByteArray):cZ r s ⟨0,qg,0,f⟩ request sc=if f.gen<qg then .say aI 2
  else if qg=f.gen - 1∧request.data.toList=f.request.data.toList then .say (bX r f) 0
  else if qg<f.gen then .put (aW (eS f)) aI 15
  else if aw sc.data.toList≠0 then .say aI (aw sc.data.toList)
  else if jr (aT sc.data.toList) f.scope.data.toList=false then .say aI 13
  else if f.gen=1099511627776 then .say aI 4
  else .put (aW (mJ s f request sc)) (bX r (mJ s f request sc)) 0:=by
 unfold cZ;exact if_neg (fun h=>h rfl)
theorem tV {r:Ru} {s:St} {qg le:Int} {f:an} {request sc:ByteArray} (h:le≠0):cZ r s ⟨le,qg,0,f⟩ request sc=.say aI le:=by
 unfold cZ;exact if_pos h
theorem ur (ge qg:Int) (a b:List UInt8):ge<qg∨(¬ ge<qg∧qg=ge - 1∧a=b)∨(¬ ge<qg∧qg=ge - 1∧a≠b)∨(¬ ge<qg∧qg≠ge - 1∧qg<ge)∨qg=ge:=by
 by_cases h1:ge<qg
 ·exact .inl h1
 ·by_cases h2:qg=ge - 1
  ·by_cases h3:a=b
   ·exact .inr (.inl ⟨h1,h2,h3⟩)
   ·exact .inr (.inr (.inl ⟨h1,h2,h3⟩))
  ·by_cases h3:qg<ge
   ·exact .inr (.inr (.inr (.inl ⟨h1,h2,h3⟩)))
   ·exact .inr (.inr (.inr (.inr oM)))
section
variable {B vb sb db k:Nat} {r:Ru} {z:SS} {v:Value} {W:World}
theorem zt (h:SW B vb sb db k r z v W) (hk:k<1000000) (t request sc:ByteArray) (ht:t.size≤5000) (h2:request.size≤5000) (h3:sc.size≤5000):
  Calls prog 131 #[.pointer (some ⟨vb,0,none⟩),.string t,.string request,.string sc] W (dl W B vb sb db k r z (dG r z.s t request sc)):=by
 have HN1:=zH (fun w=>mx request w h2);have HLS:=zH (fun w hm=>fo sc w h3 hm);have HST:=zH (fun w (h:SW B vb sb db k r z v w)=>(gM h.sx).mono fun _ _ h=>fG h);have HL:=zH (fun w (h:SW B vb sb db k r z v w)=>rS h t 1 ht);rw[rV];have hfit:=h.sx.fit;have hmem:co r z.s (a8 r t) 1=0→gy (dI z.s (a8 r t))=true:=fun hh=>hfit.fams _ (ib hh).2.2.2.1
 have hck:=hfit.clock;have HPT:=zH (fun w f (hf:f.short 5000) (h:SW B vb sb db k r z v w)=>vu h hk f hf);have HRF:=zH (fun w z' v' k f hi hg (h:SW B vb sb db k r z' v' w)=>pP h f hi hg);have H:=zH h;unfold om v4 at HL;unfold iS at HST;clear h hfit;rcases hn1:bF request.data.toList with _|_
 ·rw[if_pos rfl]
  rw[hn1]at HN1;go_enter Tryz.func131,Tryz.ntmps131;go_wp2_with fail;go_at_call 178;refine(HN1.out _).mono ?_;rintro e w1 ⟨rfl,hb⟩;have H1:=zH (H.out.keep hb);have HB1:=zH hb;clear hb;go_wp2_with fail;go_ret2;exact dl.say H1.out HB1.out _ (aP dC).symm
 ·rw[if_neg dC]
  have HNN:=zH hn1;rw[hn1]at HN1;clear hn1;generalize co r z.s (a8 r t) 1=le at*;generalize dI z.s (a8 r t)=f at*;generalize a8 r t=q at*;obtain⟨qe,qk,qf,qg,qd⟩:=q;dsimp only at HL;dsimp only;go_enter Tryz.func131,Tryz.ntmps131;go_wp2_with fail;go_at_call 178;refine(HN1.out _).mono ?_;rintro e w1 ⟨rfl,hb⟩;have H1:=zH (H.out.keep hb);have HB1:=zH hb;clear hb HN1 H;go_wp2_with fail;go_at_call 183;refine(HL.out _ H1.out).mono ?_;rintro e w2 ⟨rfl,hb⟩;have H2:=zH (H1.out.keep hb);have HB2:=zH (ae HB1.out hb);clear hb HL H1 HB1
  by_cases hle:le=0
  ·subst hle
   have e0:bV 0=.nilIface:=cH;rw[e0];clear e0;have hfb:=hmem rfl;clear hmem;have p2:=(bo hfb).2.1;have p1:=(bo hfb).1;obtain⟨g0,g1⟩:=az.1 p2;have HFB:=zH hfb;have HP2:=zH p2;have HP1:=zH p1;clear hfb p2 p1;obtain⟨i,cl,su,scp,ge,ma,us,re,de⟩:=f;unfold aO af;dsimp only at*;have hts:=qW request re;rcases ur ge qg request.data.toList re.data.toList with h1|⟨h1,h4,h5⟩|⟨h1,h4,h5⟩|⟨h1,h4,h5⟩|h1
   ·have hp:cZ r z.s ⟨0,qg,0,⟨i,cl,su,scp,ge,ma,us,re,de⟩⟩ request sc=_:=(eo r z.s qg ⟨i,cl,su,scp,ge,ma,us,re,de⟩ request sc).trans (if_pos h1)
    have HP:=zH hp;clear hp;clear hts;have hal:=bZ w2 (.cells #[.int .i64 qk,.int .i64 qf,.int .i64 qg,.int .i64 qd] 182) (.cells #[.int .i64 i,.string cl,.string su,.string scp,.int .i64 ge,.int .i64 ma,.int .i64 us,.string re,.bool de] 95);have H3:=zH (H2.out.keep hal);have HB3:=zH (ae HB2.out hal);clear hal;go_wp2_with fail;go_ret2;rw[HP.out];exact dl.say H3.out HB3.out _ (aP dC).symm
   ·have hp:cZ r z.s ⟨0,qg,0,⟨i,cl,su,scp,ge,ma,us,re,de⟩⟩ request sc=_:=(eo r z.s qg ⟨i,cl,su,scp,ge,ma,us,re,de⟩ request sc).trans ((if_neg h1).trans (if_pos ⟨h4,h5⟩))
    have HP:=zH hp;clear hp;rw[decide_eq_true h5]at hts;subst h4;have hal:=bZ w2 (.cells #[.int .i64 qk,.int .i64 qf,.int .i64 (ge - 1),.int .i64 qd] 182) (.cells #[.int .i64 i,.string cl,.string su,.string scp,.int .i64 ge,.int .i64 ma,.int .i64 us,.string re,.bool de] 95);have H3:=zH (H2.out.keep hal);have HB3:=zH (ae HB2.out hal);have HRF2:=zH (fun w h=>HRF.out w z v k ⟨i,cl,su,scp,ge,ma,us,re,de⟩ HP1.out HP2.out h);unfold aO af at HRF2;dsimp only at HRF2;generalize bX r ⟨i,cl,su,scp,ge,ma,us,re,de⟩=X at*;clear hal h5 HRF HPT;go_wp2_with fail;go_at_call 180;refine(HRF2.out _ H3.out).mono ?_;rintro e w4 ⟨rfl,hb⟩;have H4:=zH (H3.out.keep hb);have HB4:=zH (ae HB3.out hb);clear hb H3 HB3;go_wp2_with fail;go_ret2;rw[HP.out];exact dl.say H4.out HB4.out _ cH.symm
   ·have hp:cZ r z.s ⟨0,qg,0,⟨i,cl,su,scp,ge,ma,us,re,de⟩⟩ request sc=_:=(eo r z.s qg ⟨i,cl,su,scp,ge,ma,us,re,de⟩ request sc).trans ((if_neg h1).trans ((if_neg (fun h=>h5 h.2)).trans (if_pos (show qg<ge by omega))))
    have HP:=zH hp;clear hp;rw[decide_eq_false h5]at hts;subst h4;clear h5;have hal:=bZ w2 (.cells #[.int .i64 qk,.int .i64 qf,.int .i64 (ge - 1),.int .i64 qd] 182) (.cells #[.int .i64 i,.string cl,.string su,.string scp,.int .i64 ge,.int .i64 ma,.int .i64 us,.string re,.bool true] 95);have H3:=zH (H2.out.keep hal);have HB3:=zH (ae HB2.out hal);have hsh:an.short ⟨i,cl,su,scp,ge,ma,us,re,true⟩ 5000:=dP (f:=⟨i,cl,su,scp,ge,ma,us,re,de⟩) HFB.out;have HPT2:=zH (fun w h=>HPT.out w _ hsh h);generalize hQ:aV z (aW (eS ⟨i,cl,su,scp,ge,ma,us,re,de⟩))=Q at*;have hQ2:aV z (aW ⟨i,cl,su,scp,ge,ma,us,re,true⟩)=Q:=hQ;rw[hQ2]at HPT2;have HQ:=zH hQ;generalize aW (eS ⟨i,cl,su,scp,ge,ma,us,re,de⟩)=FE at*;unfold aO af at HPT2;dsimp only at HPT2;clear hal hsh hQ hQ2 H2 HB2 HFB HPT HRF HST HLS;go_wp2_with fail;go_at_call 179;refine(HPT2.out _ H3.out).mono ?_;rintro e w6 ⟨rfl,htw,v6,h6⟩;have H6:=zH h6;have HT6:=zH ((dH.of_below HB3.out).trans htw);clear htw h6 H3 HB3 HPT2
    by_cases hq:Q.2=0
    ·have e0:bV Q.2=.nilIface:=by rw[hq];exact cH
     rw[e0];have HQ0:=zH hq;clear e0 hq;go_wp2_with fail;go_ret2;rw[HP.out];exact dl.good (by rw[HQ.out];exact HQ0.out) HT6.out (by rw[HQ.out];exact H6.out) _ (aP dC).symm
    ·have e0:bV Q.2=.iface 57 (.int .i64 Q.2):=aP hq
     have HE0:=zH e0;rw[e0];have HQ0:=zH hq;clear e0 hq;go_wp2_with fail;go_ret2;rw[←HE0.out,←HQ.out];rw[HP.out];exact dl.bad (by rw[HQ.out];exact HQ0.out) HT6.out (by rw[HQ.out];exact H6.out)
   ·have hp:cZ r z.s ⟨0,qg,0,⟨i,cl,su,scp,ge,ma,us,re,de⟩⟩ request sc=_:=(eo r z.s qg ⟨i,cl,su,scp,ge,ma,us,re,de⟩ request sc).trans ((if_neg h1).trans ((if_neg (fun h=>h4 h.1)).trans (if_pos h5)))
    have HP:=zH hp;clear hp;clear hts;have hal:=bZ w2 (.cells #[.int .i64 qk,.int .i64 qf,.int .i64 qg,.int .i64 qd] 182) (.cells #[.int .i64 i,.string cl,.string su,.string scp,.int .i64 ge,.int .i64 ma,.int .i64 us,.string re,.bool true] 95);have H3:=zH (H2.out.keep hal);have HB3:=zH (ae HB2.out hal);have hsh:an.short ⟨i,cl,su,scp,ge,ma,us,re,true⟩ 5000:=dP (f:=⟨i,cl,su,scp,ge,ma,us,re,de⟩) HFB.out;have HPT2:=zH (fun w h=>HPT.out w _ hsh h);generalize hQ:aV z (aW (eS ⟨i,cl,su,scp,ge,ma,us,re,de⟩))=Q at*;have hQ2:aV z (aW ⟨i,cl,su,scp,ge,ma,us,re,true⟩)=Q:=hQ;rw[hQ2]at HPT2;have HQ:=zH hQ;generalize aW (eS ⟨i,cl,su,scp,ge,ma,us,re,de⟩)=FE at*;unfold aO af at HPT2;dsimp only at HPT2;clear hal hsh hQ hQ2 H2 HB2 HFB HPT HRF HST HLS;go_wp2_with fail;go_at_call 179;refine(HPT2.out _ H3.out).mono ?_;rintro e w6 ⟨rfl,htw,v6,h6⟩;have H6:=zH h6;have HT6:=zH ((dH.of_below HB3.out).trans htw);clear htw h6 H3 HB3 HPT2
    by_cases hq:Q.2=0
    ·have e0:bV Q.2=.nilIface:=by rw[hq];exact cH
     rw[e0];have HQ0:=zH hq;clear e0 hq;go_wp2_with fail;go_ret2;rw[HP.out];exact dl.good (by rw[HQ.out];exact HQ0.out) HT6.out (by rw[HQ.out];exact H6.out) _ (aP dC).symm
    ·have e0:bV Q.2=.iface 57 (.int .i64 Q.2):=aP hq
     have HE0:=zH e0;rw[e0];have HQ0:=zH hq;clear e0 hq;go_wp2_with fail;go_ret2;rw[←HE0.out,←HQ.out];rw[HP.out];exact dl.bad (by rw[HQ.out];exact HQ0.out) HT6.out (by rw[HQ.out];exact H6.out)
   ·subst h1
    have n1: ¬ qg<qg:=by omega
    have n2: ¬ (qg=qg - 1∧request.data.toList=re.data.toList):=fun h=>by have:=h.1;omega
    have hp:cZ r z.s ⟨0,qg,0,⟨i,cl,su,scp,qg,ma,us,re,de⟩⟩ request sc=_:=(eo r z.s qg ⟨i,cl,su,scp,qg,ma,us,re,de⟩ request sc).trans ((if_neg n1).trans ((if_neg n2).trans (if_neg n1)));have HP:=zH hp;clear hp;have h4:qg≠qg - 1:=by omega
    clear hts n1 n2;have hal:=bZ w2 (.cells #[.int .i64 qk,.int .i64 qf,.int .i64 qg,.int .i64 qd] 182) (.cells #[.int .i64 i,.string cl,.string su,.string scp,.int .i64 qg,.int .i64 ma,.int .i64 us,.string re,.bool de] 95);have H3:=zH (H2.out.keep hal);have HB3:=zH (ae HB2.out hal)
    have hg:aj ((w2.alloc (.cells #[.int .i64 qk,.int .i64 qf,.int .i64 qg,.int .i64 qd] 182)).alloc (.cells #[.int .i64 i,.string cl,.string su,.string scp,.int .i64 qg,.int .i64 ma,.int .i64 us,.string re,.bool de] 95)) (w2.heap.size+1) 95 (af ⟨i,cl,su,scp,qg,ma,us,re,de⟩):=by
     have:=aj.new (w2.alloc (.cells #[.int .i64 qk,.int .i64 qf,.int .i64 qg,.int .i64 qd] 182)) 95 (af ⟨i,cl,su,scp,qg,ma,us,re,de⟩);rw[show(w2.alloc (.cells #[.int .i64 qk,.int .i64 qf,.int .i64 qg,.int .i64 qd] 182)).heap.size=w2.heap.size+1 by simp]at this;exact this
    have HG3:=zH hg;have HD3:=zH hal;clear hal hg;go_wp2_with fail;go_at_call 126;refine(HLS.out _ H3.out.tm.2.1).mono ?_;rintro e w3 ⟨rfl,hb⟩;have H4:=zH (H3.out.keep hb);have HB4:=zH (ae HB3.out hb);have HG4:=zH (HG3.out.below' hb);have HD4:=zH (ae HD3.out hb);clear hb HLS H3 HB3 HG3 HD3
    by_cases hsn:aw sc.data.toList=0
    ·have e0:bV (aw sc.data.toList)=.nilIface:=by rw[hsn];exact cH
     rw[e0];have hp:=HP.out.trans (if_neg (fun h=>h hsn));have HSN:=zH hsn;clear e0 hsn HP;have HP:=zH hp;clear hp;have hsb:=dP HFB.out;have HWI:=zH (fun w (h:SW B vb sb db k r z v w)=>vo (ah (aT sc.data.toList)) scp w (by rw[bB];have:=d9 sc.data.toList;omega) hsb.2.2.1 h.tm.2.1);obtain⟨y0,y1,y2,y3,y4,y5,y6,y7,y8⟩:=aA HG4.out;have hgz:=HG4.out.frozen;clear hsb;go_wp2_with fail;go_at_call 185;refine(HWI.out _ H4.out).mono ?_;rintro e w4 ⟨rfl,hb⟩;have H5:=zH (H4.out.keep hb);have HB5:=zH (ae HB4.out hb);have HG5:=zH (HG4.out.below' hb);have HD5:=zH (ae HD4.out hb);clear hb H4 HB4 HG4 HD4 HWI y0 y1 y2 y3 y4 y5 y6 y7 y8 hgz;have etl:(ah (aT sc.data.toList)).data.toList=aT sc.data.toList:=rfl;rw[etl];clear etl;rcases hwb:jr (aT sc.data.toList) scp.data.toList with _|_
     ·have hp:=HP.out.trans (if_pos hwb)
      clear HP;have HP:=zH hp;clear hp hwb;go_wp2_with fail;go_ret2;rw[HP.out];exact dl.say H5.out HB5.out _ (aP dC).symm
     ·have hp:=HP.out.trans (if_neg (show ¬ jr (aT sc.data.toList) scp.data.toList=false by rw[hwb];decide))
      clear HP;obtain⟨y0,y1,y2,y3,y4,y5,y6,y7,y8⟩:=aA HG5.out;have hgz:=HG5.out.frozen
      by_cases hmx:qg=1099511627776
      ·have HP:=zH (hp.trans (if_pos hmx))
       clear hp hwb;subst hmx;go_wp2_with fail;go_ret2;rw[HP.out];exact dl.say H5.out HB5.out _ (aP dC).symm
      ·have HP:=zH (hp.trans (if_neg hmx))
       clear hp hwb;have hd6:=HD5.out.setCell (p:=⟨w2.heap.size+1,4,none⟩) (Nat.le_succ _) (.int .i64 (qg+1));have HD6:=zH hd6;have H6:=zH (H2.out.keep hd6);have HG6:=zH (HG5.out.put_ 4 (.int .i64 (qg+1)) (cs':=af ⟨i,cl,su,scp,qg+1,ma,us,re,de⟩) rfl);have HBW:=zH (fun w (h:Below w2.heap.size w2 w)=>ae HB2.out h);obtain⟨c0,c1,c2,c3,c4,hlt⟩:=H5.out.five;have hq1:qg+1≤1099511627776:=by omega
       clear hd6;go_wp2_with fail;go_at_call 177;refine(HST.out _ H6.out).mono ?_;rintro e w5 ⟨a5,ac5,rfl,hr5,hb⟩;have HD7:=zH (ae HD6.out hb);have HG7:=zH (HG6.out.below' hb);have hsc:=jk z.s.clock z.s.next a5 z.s.fams.length ac5;clear hr5 hb HD6 H6 HG6 HD5 HG5 H5 HB5 y0 y1 y2 y3 y4 y5 y6 y7 y8 hgz c0 c1 c2 c3 c4 hlt;obtain⟨y0,y1,y2,y3,y4,y5,y6,y7,y8⟩:=aA HG7.out;have hgz:=HG7.out.frozen;obtain⟨c0,c1,c2,c3,c4,hlt⟩:=(H2.out.keep HD7.out).five;have hd8:=((HD7.out.setCell (p:=⟨w2.heap.size+1,3,none⟩) (Nat.le_succ _) (.string (ah (aT sc.data.toList)))).setCell (p:=⟨w2.heap.size+1,7,none⟩) (Nat.le_succ _) (.string request)).setCell (p:=⟨w2.heap.size+1,6,none⟩) (Nat.le_succ _) (.int .i64 z.s.clock);have H8:=zH (H2.out.keep hd8);have HB8:=zH (HBW.out _ hd8);have k3:=HG7.out.put_ 3 (.string (ah (aT sc.data.toList))) (cs':=af ⟨i,cl,su,ah (aT sc.data.toList),qg+1,ma,us,re,de⟩) rfl;have k7:=k3.put_ 7 (.string request) (cs':=af ⟨i,cl,su,ah (aT sc.data.toList),qg+1,ma,us,request,de⟩) rfl;have HG8:=zH (k7.put_ 6 (.int .i64 z.s.clock) (cs':=af ⟨i,cl,su,ah (aT sc.data.toList),qg+1,ma,z.s.clock,request,de⟩) rfl);have hs0:an.short ⟨i,cl,su,scp,qg,ma,us,re,de⟩ 5000:=dP HFB.out;have hlst:=d9 sc.data.toList;have hrq:=cI HNN.out
       have hsh:an.short ⟨i,cl,su,ah (aT sc.data.toList),qg+1,ma,z.s.clock,request,de⟩ 5000:=by
        unfold an.short at hs0 ⊢;dsimp only at hs0 ⊢;rw[bB];have e1:request.size=request.data.toList.length:=(aq request).symm;exact⟨hs0.1,hs0.2.1,by omega,by omega⟩
       have HPT2:=zH (fun w h=>HPT.out w _ hsh h);have HRF2:=zH (fun w z' v' k (h:SW B vb sb db k r z' v' w)=>HRF.out w z' v' k ⟨i,cl,su,ah (aT sc.data.toList),qg+1,ma,z.s.clock,request,de⟩ HP1.out (az.2 ⟨show 0≤qg+1 by omega,hq1⟩) h);generalize hQ:aV z (aW (mJ z.s ⟨i,cl,su,scp,qg,ma,us,re,de⟩ request sc))=Q at*;have hQ2:aV z (aW ⟨i,cl,su,ah (aT sc.data.toList),qg+1,ma,z.s.clock,request,de⟩)=Q:=hQ;rw[hQ2]at HPT2;have HQ:=zH hQ;generalize hX:bX r (mJ z.s ⟨i,cl,su,scp,qg,ma,us,re,de⟩ request sc)=X at*;have hX2:bX r ⟨i,cl,su,ah (aT sc.data.toList),qg+1,ma,z.s.clock,request,de⟩=X:=hX;rw[hX2]at HRF2;generalize aW (mJ z.s ⟨i,cl,su,scp,qg,ma,us,re,de⟩ request sc)=FE at*;unfold aO af at HPT2 HRF2;dsimp only at HPT2 HRF2;clear hd8 k3 k7 hs0 hlst hrq hsh hQ hQ2 hX hX2 HPT HRF HD7 HG7 HBW H2 HB2 HST HFB HP1 HP2 HNN;go_wp2_with fail;go_at_call 179;refine(HPT2.out _ H8.out).mono ?_;rintro e w6 ⟨rfl,htw,v6,h6⟩;have H9:=zH h6;have HT9:=zH ((dH.of_below HB8.out).trans htw);have HF9:=zH (HG8.out.two htw (H8.out.sx.apart HG8.out dC dC).1 (H8.out.sx.apart HG8.out dC dC).2);clear htw h6 HG8 H8 HB8 HPT2
       by_cases hq:Q.2=0
       ·have e0:bV Q.2=.nilIface:=by rw[hq];exact cH
        rw[e0];have HQ0:=zH hq;clear e0 hq y0 y1 y2 y3 y4 y5 y6 y7 y8 hgz c0 c1 c2 c3 c4 hlt;obtain⟨f0,f1,f2,f3,f4,f5,f6,f7,f8⟩:=aA HF9.out;go_wp2_with fail;go_at_call 180;refine(HRF2.out _ _ _ _ H9.out).mono ?_;rintro e w7 ⟨rfl,hb⟩;have H10:=zH (H9.out.keep hb);have HT10:=zH (HT9.out.trans (dH.of_below hb));clear hb H9 HT9 f0 f1 f2 f3 f4 f5 f6 f7 f8 HF9;go_wp2_with fail;go_ret2;rw[HP.out];exact dl.good (by rw[HQ.out];exact HQ0.out) HT10.out (by rw[HQ.out];exact H10.out) _ cH.symm
       ·have e0:bV Q.2=.iface 57 (.int .i64 Q.2):=aP hq
        have HE0:=zH e0;rw[e0];have HQ0:=zH hq;clear e0 hq y0 y1 y2 y3 y4 y5 y6 y7 y8 hgz c0 c1 c2 c3 c4 hlt;go_wp2_with fail;go_ret2;rw[HP.out,←HE0.out,←HQ.out];exact dl.bad (by rw[HQ.out];exact HQ0.out) HT9.out (by rw[HQ.out];exact H9.out)
    ·have e0:bV (aw sc.data.toList)=.iface 57 (.int .i64 (aw sc.data.toList)):=aP hsn
     have HE0:=zH e0;rw[e0];have hp:=HP.out.trans (if_pos hsn);clear e0 hsn HP;have HP:=zH hp;clear hp;go_wp2_with fail;go_ret2;rw[HP.out];exact dl.say H4.out HB4.out _ HE0.out.symm
  ·have e0:bV le=.iface 57 (.int .i64 le):=aP hle
   have HE:=zH e0;rw[e0];have HP:=zH (tV (r:=r) (s:=z.s) (qg:=qg) (f:=f) (request:=request) (sc:=sc) hle);obtain⟨i,cl,su,scp,ge,ma,us,re,de⟩:=f;unfold aO af;dsimp only at*;have hal:=bZ w2 (.cells #[.int .i64 qk,.int .i64 qf,.int .i64 qg,.int .i64 qd] 182) (.cells #[.int .i64 i,.string cl,.string su,.string scp,.int .i64 ge,.int .i64 ma,.int .i64 us,.string re,.bool de] 95);have H3:=zH (H2.out.keep hal);have HB3:=zH (ae HB2.out hal);clear e0 hle hal hmem;go_wp2_with fail;go_ret2;rw[HP.out];exact dl.say H3.out HB3.out _ HE.out.symm
end
end Go.Proofs.YtepjcdjpikbbjaaGreatDoor
