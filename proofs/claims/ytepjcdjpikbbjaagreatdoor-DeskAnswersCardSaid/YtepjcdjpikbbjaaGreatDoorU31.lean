/-
  A service: Sweep.
-/
import Derived.Test.YtepjcdjpikbbjaaGreatDoorU00
import Derived.Test.YtepjcdjpikbbjaaGreatDoorU30
set_option maxHeartbeats 4000000
set_option maxRecDepth 100000
namespace Go.Proofs.YtepjcdjpikbbjaaGreatDoor
open Go.Proofs.Tryz
open Go.RowKit Go.Sort
def iu (W:World) (B vb sb db k:Nat) (r:Ru) (z:SS) (p:ln Int) (e:Ending) (w':World):Prop:=
 e=.returned (.tuple #[.int .i64 (ar 0 z p).2.1,bV (ar 0 z p).2.2])∧dH sb db W w'∧ ∃ v',SW B vb sb db (k+1) r (ar 0 z p).1 v' w'
theorem iu.say {W w:World} {B vb sb db k:Nat} {r:Ru} {z:SS} {v:Value} {t:Int} {c:Int} (h:SW B vb sb db k r z v w) (hb:Below W.heap.size W w) (u:Value) (hu:u=bV c):iu W B vb sb db k r z (.say t c) (.returned (.tuple #[.int .i64 t,u])) w:=
 ⟨by rw[hu];rfl,dH.of_below hb,v,h.later⟩
theorem iu.bad {W w:World} {B vb sb db k:Nat} {r:Ru} {z:SS} {v':Value} {ev:Ev} {t:Int} {c:Int} (hc:(aV z ev).2≠0) (ht:dH sb db W w) (h:SW B vb sb db (k+1) r (aV z ev).1 v' w):iu W B vb sb db k r z (.put ev t c) (.returned (.tuple #[.int .i64 0,bV (aV z ev).2])) w:=by
 have e:ar 0 z (.put ev t c)=((aV z ev).1,0,(aV z ev).2):=if_neg hc;unfold iu;rw[e];exact⟨rfl,ht,v',h⟩
theorem iu.good {W w:World} {B vb sb db k:Nat} {r:Ru} {z:SS} {v':Value} {ev:Ev} {t:Int} {c:Int} (hc:(aV z ev).2=0) (ht:dH sb db W w) (h:SW B vb sb db (k+1) r (aV z ev).1 v' w) (u:Value) (hu:u=bV c):iu W B vb sb db k r z (.put ev t c) (.returned (.tuple #[.int .i64 t,u])) w:=by
 have e:ar 0 z (.put ev t c)=((aV z ev).1,t,c):=if_pos hc;unfold iu;rw[e,hu];exact⟨rfl,ht,v',h⟩
theorem uj {p:an→Bool} {L:List an} {k:Nat} (h: ∀ j f,j<k→L[j]?=some f→p f=false):L.find? p=(L.drop k).find? p:=by
 induction k generalizing L with
 |zero=>rfl
 |succ k ih=>
  cases L with
  |nil=>rfl
  |cons g L=>
   rw[List.find?_cons,h 0 g (Nat.succ_pos _) rfl,List.drop_succ_cons];exact ih fun j f hj hf=>h (j+1) f (Nat.succ_lt_succ hj) (by simpa using hf)
theorem kN {p:an→Bool} {L:List an} {k:Nat} {f:an} (h: ∀ j f,j<k→L[j]?=some f→p f=false) (hf:L[k]?=some f) (hp:p f=true):L.find? p=some f:=by
 have hlt:=(List.getElem?_eq_some_iff.1 hf).1;rw[uj h,List.drop_eq_getElem_cons hlt,List.find?_cons,(List.getElem?_eq_some_iff.1 hf).2,hp]
theorem iq {p:an→Bool} {L:List an} (h: ∀ j f,j<L.length→L[j]?=some f→p f=false):L.find? p=none:=by
 rw[uj h,List.drop_length];rfl
def Jk (W:World) (B vb sb db k:Nat) (r:Ru) (z:SS) (v:Value) (cb:Nat) (a1:Option Addr) (ac:Nat) (i:Value) (w:World):Prop:=
 ∃ j:Nat,j≤z.s.fams.length∧i=.int .i64 j∧Below W.heap.size W w∧SW B vb sb db k r z v w∧aD w W.heap.size (.slice a1 z.s.fams.length ac) z.s.fams∧w.cell? ⟨cb,0,none⟩=some (.int .i64 z.s.clock)∧
  ∀ m f,m<j→z.s.fams[m]?=some f→(f.dead || kZ r z.s.clock f)=false
section
variable {B vb sb db k:Nat} {r:Ru} {z:SS} {v:Value} {W:World}
theorem CF (h:SW B vb sb db k r z v W) (hk:k<1000000):
  Calls prog 134 #[.pointer (some ⟨vb,0,none⟩)] W (iu W B vb sb db k r z (bW r z.s)):=by
 have HST:=zH (fun w (h:SW B vb sb db k r z v w)=>(gM h.sx).mono fun _ _ h=>fG h);have hfit:=h.sx.fit;have hru:=i1 h.right;have hlen:=hfit.len;have HA:Hid (∀ w id,SX B sb db k z v w→Calls prog 190 #[.pointer (some ⟨sb,0,none⟩),aE (eG id)] w (qI w B sb db k (aV z (eG id)))):=zH fun w id h=>yo h hk _ (by show an.zero.short 5000;unfold an.short an.zero;dsimp only;refine⟨by decide,by decide,by decide,by decide⟩)
 obtain⟨c0,c1,c2,c3,c4,hlt⟩:=h.five;have H:=zH h;clear h;go_enter Tryz.func134,Tryz.ntmps134;go_wp2_with fail;go_at_call 177;refine(HST.out _ H.out).mono ?_;rintro e w1 ⟨a1,ac,rfl,hr,hb⟩;have H1:=zH (H.out.keep hb);have HB1:=zH hb;have HR1:=zH hr;clear hr hb c0 c1 c2 c3 c4 hlt H HST;have hal:=(Below.refl w1.heap.size w1).alloc (Nat.le_refl _) (.cells #[.int .i64 z.s.clock,.int .i64 z.s.next,.slice a1 z.s.fams.length ac] 83);have H2:=zH (H1.out.keep hal);have HB2:=zH (ae HB1.out hal);have HR2:=zH (HR1.out.below hal);have HC2:=zH ((aj.new w1 83 #[.int .i64 z.s.clock,.int .i64 z.s.next,.slice a1 z.s.fams.length ac]).cell 0);have HSZ:=zH HB1.out.size;clear hal HB1 H1 HR1;go_wp2_with fail;generalize w1.alloc (.cells #[.int .i64 z.s.clock,.int .i64 z.s.next,.slice a1 z.s.fams.length ac] 83)=w2 at*;generalize w1.heap.size=cb at*
 go_loopw [16] (fun i wr=>Jk W B vb sb db k r z v cb a1 ac i wr) (fun i _=>z.s.fams.length - (intOf i).toNat)
 case atStart=>exact⟨0,Nat.zero_le _,rfl,HB2.out,H2.out,HR2.out,HC2.out,fun j f hj=>absurd hj (Nat.not_lt_zero _)⟩
 case round=>
  obtain⟨j,hj,rfl,hb,hs,hr,hc,hno⟩:=hrel;have HB:=zH hb;have HS:=zH hs;have HR3:=zH hr;have HNO:=zH hno;have HCK:=zH hc;clear hb hs hr hc hno HR2 HC2 H2 HB2
  by_cases hlt:j<z.s.fams.length
  ·obtain⟨g,rfl,_,ra⟩:=HR3.out.lit hlt
   obtain⟨f,hf⟩: ∃ f,z.s.fams[j]?=some f:=⟨_,List.getElem?_eq_getElem hlt⟩;have HF:=zH hf;obtain⟨_,_,gm,gu,_⟩:=bo (hfit.fams f (List.mem_of_getElem? hf));have HADU:=zH (fun w=>jH f.used r.idle w (by have:=az.1 gu;omega) (by have:=az.1 hru.2.1;omega));have HADM:=zH (fun w=>jH f.made r.life w (by have:=az.1 gm;omega) (by have:=az.1 hru.2.2.1;omega));have hold:(f.dead || kZ r z.s.clock f)=(f.dead || (decide (cK f.used r.idle<z.s.clock) || decide (cK f.made r.life<z.s.clock))):=rfl;have HOL:=zH hold;obtain⟨i,cl,su,scp,ge,ma,us,re,de⟩:=f;obtain⟨e0,e1,e2,e3,e4,e5,e6,e7,e8⟩:=ra.nine hf;dsimp only at HADU HADM HOL;have h0:(0:Int)≤(j:Int):=by omega
   have h1:(j:Int)<(z.s.fams.length:Int):=by omega
   clear hf ra gm gu hold;go_wp2_with fail;have hal:=(Below.refl wr.heap.size wr).alloc (Nat.le_refl _) (.cells #[.int .i64 i,.string cl,.string su,.string scp,.int .i64 ge,.int .i64 ma,.int .i64 us,.string re,.bool de] 95);have hg:=aj.new wr 95 #[.int .i64 i,.string cl,.string su,.string scp,.int .i64 ge,.int .i64 ma,.int .i64 us,.string re,.bool de];have HG4:=zH hg;have HS4:=zH (HS.out.keep hal);have HB4:=zH (ae HB.out hal);have HR4:=zH (HR3.out.below hal);have hcl:=World.block_lt_of_cell? wr _ HCK.out;have HC4:=zH ((hal.cell (p:=⟨cb,0,none⟩) hcl).trans HCK.out);have HA2:Hid (∀ w,SX B sb db k z v w→Calls prog 190 #[.pointer (some ⟨sb,0,none⟩),.agg #[.int .i64 2,.int .i64 0,.string ⟨#[]⟩,.string ⟨#[]⟩,.string ⟨#[]⟩,.int .i64 0,.int .i64 0,.int .i64 0,.string ⟨#[]⟩,.bool false,.int .i64 i,.int .i64 0]] w (qI w B sb db k (aV z (eG i)))):=zH fun w h=>HA.out w i h
   clear hal hg hcl HB HS HR3 HCK HA e0 e1 e2 e3 e4 e5 e6 e7 e8;generalize wr.alloc (.cells #[.int .i64 i,.string cl,.string su,.string scp,.int .i64 ge,.int .i64 ma,.int .i64 us,.string re,.bool de] 95)=w4 at*;generalize wr.heap.size=fb at*;obtain⟨d0,d1,d2,d3,d4,d5,d6,d7,d8⟩:=aA HG4.out;obtain⟨c0,c1,c2,c3,c4,hvb⟩:=HS4.out.five;have hck:=HC4.out;cases de
   ·by_cases hu:cK us r.idle<z.s.clock
    ·have hu':decide (cK us r.idle<z.s.clock)=true:=decide_eq_true hu
     have hp:bW r z.s=.put (eG i) i 0:=by
      unfold bW ku;rw[kN HNO.out HF.out (by rw[HOL.out];simp[hu])]
     have HP:=zH hp;generalize hQ:aV z (eG i)=Q at*;have HQ:=zH hQ;clear hp hQ HNO HF HR4 HOL;go_wp2_with fail
     go_quiet ((first
      |(go_at_call 184;exact Calls.quiet_of_same ((HADU.out _).mono fun _ _ h=>⟨h.1,h.2.symm⟩))
      |(go_at_call 184;exact Calls.quiet_of_same ((HADM.out _).mono fun _ _ h=>⟨h.1,h.2.symm⟩))))
     go_wp2_with fail;have hbd:Below w4.heap.size w4 (w4.drewN nq).drew:=au (aF (Below.refl w4.heap.size w4) nq);have HSD:=zH (HS4.out.keep hbd);have HGD:=zH (HG4.out.below' hbd);have HBD:=zH (ae HB4.out hbd);clear hbd HS4 HG4 HB4 d0 d1 d2 d3 d4 d5 d6 d7 d8 c0 c1 c2 c3 c4 hvb HC4;generalize w4.drewN nq=w5 at*;have HD:w5.drew.cell? ⟨vb,0,none⟩=some (.pointer (some ⟨sb,0,none⟩))∧w5.drew.cell? ⟨fb,0,none⟩=some (.int .i64 i):=⟨HSD.out.five.1,HGD.out.cell 0⟩
     go_region_held3 (fun w'=>w'.cell? ⟨vb,0,none⟩=some (.pointer (some ⟨sb,0,none⟩))∧w'.cell? ⟨fb,0,none⟩=some (.int .i64 i))
      (first
       |with_reducible assumption
       |with_reducible exact HD)
      (first
       |(go_at_call 190;(with_reducible refine(HA2.out _ HSD.out.sx).mono ?_);rintro x' w6 ⟨rfl,htw,v2,hsx⟩
         have hend:BH W B vb sb db k r Q (.returned (bV Q.2)) w6:=⟨rfl,(dH.of_below HBD.out).trans htw,v2,HSD.out.two htw hsx⟩;have hx2:w6.cell? ⟨vb,0,none⟩=some (.pointer (some ⟨sb,0,none⟩))∧w6.cell? ⟨fb,0,none⟩=some (.int .i64 i):=⟨(HSD.out.two htw hsx).five.1,(HGD.out.two htw (HSD.out.sx.apart HGD.out dC dC).1 (HSD.out.sx.apart HGD.out dC dC).2).cell 0⟩))
     obtain⟨-,htw,v6,h6⟩:=hend;have H6:=zH h6;have HT6:=zH htw;clear h6 htw
     by_cases hq:Q.2=0
     ·have e0:bV Q.2=.nilIface:=by rw[hq];exact cH
      rw[e0];have HQ0:=zH hq;clear e0 hq;go_wp2_with fail;go_ret2;rw[HP.out];exact iu.good (by rw[HQ.out];exact HQ0.out) HT6.out (by rw[HQ.out];exact H6.out) _ cH.symm
     ·have e0:bV Q.2=.iface 57 (.int .i64 Q.2):=aP hq
      have HE0:=zH e0;rw[e0];have HQ0:=zH hq;clear e0 hq;go_wp2_with fail;go_ret2;rw[HP.out,←HE0.out,←HQ.out];exact iu.bad (by rw[HQ.out];exact HQ0.out) HT6.out (by rw[HQ.out];exact H6.out)
    ·have hu':decide (cK us r.idle<z.s.clock)=false:=decide_eq_false hu
     by_cases hm:cK ma r.life<z.s.clock
     ·have hm':decide (cK ma r.life<z.s.clock)=true:=decide_eq_true hm
      have hp:bW r z.s=.put (eG i) i 0:=by
       unfold bW ku;rw[kN HNO.out HF.out (by rw[HOL.out];simp[hm])]
      have HP:=zH hp;generalize hQ:aV z (eG i)=Q at*;have HQ:=zH hQ;clear hp hQ HNO HF HR4 HOL;go_wp2_with fail
      go_quiet ((first
       |(go_at_call 184;exact Calls.quiet_of_same ((HADU.out _).mono fun _ _ h=>⟨h.1,h.2.symm⟩))
       |(go_at_call 184;exact Calls.quiet_of_same ((HADM.out _).mono fun _ _ h=>⟨h.1,h.2.symm⟩))))
      go_wp2_with fail;have hbd:Below w4.heap.size w4 (w4.drewN nq).drew:=au (aF (Below.refl w4.heap.size w4) nq);have HSD:=zH (HS4.out.keep hbd);have HGD:=zH (HG4.out.below' hbd);have HBD:=zH (ae HB4.out hbd);clear hbd HS4 HG4 HB4 d0 d1 d2 d3 d4 d5 d6 d7 d8 c0 c1 c2 c3 c4 hvb HC4;generalize w4.drewN nq=w5 at*;have HD:w5.drew.cell? ⟨vb,0,none⟩=some (.pointer (some ⟨sb,0,none⟩))∧w5.drew.cell? ⟨fb,0,none⟩=some (.int .i64 i):=⟨HSD.out.five.1,HGD.out.cell 0⟩
      go_region_held3 (fun w'=>w'.cell? ⟨vb,0,none⟩=some (.pointer (some ⟨sb,0,none⟩))∧w'.cell? ⟨fb,0,none⟩=some (.int .i64 i))
       (first
        |with_reducible assumption
        |with_reducible exact HD)
       (first
        |(go_at_call 190;(with_reducible refine(HA2.out _ HSD.out.sx).mono ?_);rintro x' w6 ⟨rfl,htw,v2,hsx⟩
          have hend:BH W B vb sb db k r Q (.returned (bV Q.2)) w6:=⟨rfl,(dH.of_below HBD.out).trans htw,v2,HSD.out.two htw hsx⟩;have hx2:w6.cell? ⟨vb,0,none⟩=some (.pointer (some ⟨sb,0,none⟩))∧w6.cell? ⟨fb,0,none⟩=some (.int .i64 i):=⟨(HSD.out.two htw hsx).five.1,(HGD.out.two htw (HSD.out.sx.apart HGD.out dC dC).1 (HSD.out.sx.apart HGD.out dC dC).2).cell 0⟩))
      obtain⟨-,htw,v6,h6⟩:=hend;have H6:=zH h6;have HT6:=zH htw;clear h6 htw
      by_cases hq:Q.2=0
      ·have e0:bV Q.2=.nilIface:=by rw[hq];exact cH
       rw[e0];have HQ0:=zH hq;clear e0 hq;go_wp2_with fail;go_ret2;rw[HP.out];exact iu.good (by rw[HQ.out];exact HQ0.out) HT6.out (by rw[HQ.out];exact H6.out) _ cH.symm
      ·have e0:bV Q.2=.iface 57 (.int .i64 Q.2):=aP hq
       have HE0:=zH e0;rw[e0];have HQ0:=zH hq;clear e0 hq;go_wp2_with fail;go_ret2;rw[HP.out,←HE0.out,←HQ.out];exact iu.bad (by rw[HQ.out];exact HQ0.out) HT6.out (by rw[HQ.out];exact H6.out)
     ·have hm':decide (cK ma r.life<z.s.clock)=false:=decide_eq_false hm
      have hno:(false || kZ r z.s.clock ⟨i,cl,su,scp,ge,ma,us,re,false⟩)=false:=by rw[HOL.out,hu',hm'];rfl
      have HNN:=zH hno;clear hno;go_wp2_with fail
      go_quiet ((first
       |(go_at_call 184;exact Calls.quiet_of_same ((HADU.out _).mono fun _ _ h=>⟨h.1,h.2.symm⟩))
       |(go_at_call 184;exact Calls.quiet_of_same ((HADM.out _).mono fun _ _ h=>⟨h.1,h.2.symm⟩))))
      go_wp2_with fail;have hbd:Below w4.heap.size w4 (w4.drewN nq):=aF (Below.refl w4.heap.size w4) nq;go_roundw
      case rel=>exact⟨j+1,by omega,by go_num,ae HB4.out hbd,HS4.out.keep hbd,HR4.out.below hbd,(hbd.cell (p:=⟨cb,0,none⟩) (World.block_lt_of_cell? w4 _ HC4.out)).trans HC4.out,fun m f hm hf=>by
       by_cases e:m=j
       ·subst e
        rw[HF.out]at hf;cases hf;exact HNN.out
       ·exact HNO.out m f oM hf⟩
      case measure=>simp[intOf];omega
   ·have hp:bW r z.s=.put (eG i) i 0:=by
     unfold bW ku;rw[kN HNO.out HF.out (rfl)]
    have HP:=zH hp;generalize hQ:aV z (eG i)=Q at*;have HQ:=zH hQ;clear hp hQ HNO HF HR4 HOL;go_wp2_with fail
    go_quiet ((first
     |(go_at_call 184;exact Calls.quiet_of_same ((HADU.out _).mono fun _ _ h=>⟨h.1,h.2.symm⟩))
     |(go_at_call 184;exact Calls.quiet_of_same ((HADM.out _).mono fun _ _ h=>⟨h.1,h.2.symm⟩))))
    go_wp2_with fail;have hbd:Below w4.heap.size w4 (w4.drewN nq).drew:=au (aF (Below.refl w4.heap.size w4) nq);have HSD:=zH (HS4.out.keep hbd);have HGD:=zH (HG4.out.below' hbd);have HBD:=zH (ae HB4.out hbd);clear hbd HS4 HG4 HB4 d0 d1 d2 d3 d4 d5 d6 d7 d8 c0 c1 c2 c3 c4 hvb HC4;generalize w4.drewN nq=w5 at*;have HD:w5.drew.cell? ⟨vb,0,none⟩=some (.pointer (some ⟨sb,0,none⟩))∧w5.drew.cell? ⟨fb,0,none⟩=some (.int .i64 i):=⟨HSD.out.five.1,HGD.out.cell 0⟩
    go_region_held3 (fun w'=>w'.cell? ⟨vb,0,none⟩=some (.pointer (some ⟨sb,0,none⟩))∧w'.cell? ⟨fb,0,none⟩=some (.int .i64 i))
     (first
      |with_reducible assumption
      |with_reducible exact HD)
     (first
      |(go_at_call 190;(with_reducible refine(HA2.out _ HSD.out.sx).mono ?_);rintro x' w6 ⟨rfl,htw,v2,hsx⟩
        have hend:BH W B vb sb db k r Q (.returned (bV Q.2)) w6:=⟨rfl,(dH.of_below HBD.out).trans htw,v2,HSD.out.two htw hsx⟩;have hx2:w6.cell? ⟨vb,0,none⟩=some (.pointer (some ⟨sb,0,none⟩))∧w6.cell? ⟨fb,0,none⟩=some (.int .i64 i):=⟨(HSD.out.two htw hsx).five.1,(HGD.out.two htw (HSD.out.sx.apart HGD.out dC dC).1 (HSD.out.sx.apart HGD.out dC dC).2).cell 0⟩))
    obtain⟨-,htw,v6,h6⟩:=hend;have H6:=zH h6;have HT6:=zH htw;clear h6 htw
    by_cases hq:Q.2=0
    ·have e0:bV Q.2=.nilIface:=by rw[hq];exact cH
     rw[e0];have HQ0:=zH hq;clear e0 hq;go_wp2_with fail;go_ret2;rw[HP.out];exact iu.good (by rw[HQ.out];exact HQ0.out) HT6.out (by rw[HQ.out];exact H6.out) _ cH.symm
    ·have e0:bV Q.2=.iface 57 (.int .i64 Q.2):=aP hq
     have HE0:=zH e0;rw[e0];have HQ0:=zH hq;clear e0 hq;go_wp2_with fail;go_ret2;rw[HP.out,←HE0.out,←HQ.out];exact iu.bad (by rw[HQ.out];exact HQ0.out) HT6.out (by rw[HQ.out];exact H6.out)
  ·have hkn:j=z.s.fams.length:=by omega
   have hp:bW r z.s=.say 0 8:=by
    unfold bW ku;rw[iq (fun m f hm hf=>HNO.out m f oM hf)]
   have HP:=zH hp;clear hp;go_wp2_with fail;go_ret2;rw[HP.out];exact iu.say HS.out HB.out _ (aP dC).symm
end
end Go.Proofs.YtepjcdjpikbbjaaGreatDoor
