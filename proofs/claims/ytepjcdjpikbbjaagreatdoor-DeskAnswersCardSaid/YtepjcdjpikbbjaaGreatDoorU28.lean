/-
  A service: live.
-/
import Derived.Test.YtepjcdjpikbbjaaGreatDoorU00
import Derived.Test.YtepjcdjpikbbjaaGreatDoorU26
import Derived.Test.YtepjcdjpikbbjaaGreatDoorU21
set_option maxHeartbeats 4000000
set_option maxRecDepth 100000
namespace Go.Proofs.YtepjcdjpikbbjaaGreatDoor
open Go.Proofs.Tryz
open Go.RowKit Go.Sort
def dI (s:St) (q:Int×Int×Int×Int×Int):an:=if q.1≠0 then an.zero else(dR s.fams q.2.2.1).getD an.zero
def co (r:Ru) (s:St) (q:Int×Int×Int×Int×Int) (kind:Int):Int:=
 if q.1≠0 then q.1 else if q.2.1≠kind then 1 else match dR s.fams q.2.2.1 with
  |none=>7
  |some f=>if f.dead then 6 else if kZ r s.clock f then 10 else 0
def om (r:Ru) (s:St) (q:Int×Int×Int×Int×Int) (kind:Int) (W:World) (e:Ending) (w':World):Prop:=
 e=.returned (.tuple #[v4 q.2.1 q.2.2.1 q.2.2.2.1 q.2.2.2.2,aO (dI s q),bV (co r s q kind)])∧Below W.heap.size W w'
theorem kp {P:Program} {fn:Func} {p q u:Tmp} {ty tz:TypeId} (h:fn.results=#[.cell p ty,.cell q tz,.tmp u]) (tmps:Array Value) (w:World) (g g2:Nat) (t t2:TypeId) (cs cs2:Array Value) (d d2:TypeDesc) (x:Value)
  (hp:tmps.getD p undef=.pointer (some ⟨g,0,none⟩)) (hq:tmps.getD q undef=.pointer (some ⟨g2,0,none⟩)) (hx:tmps.getD u undef=x) (hg:aj w g t cs) (hg2:aj w g2 t2 cs2)
  (hu:P.underlying ty=some d) (hd:(match d with| .struct _| .array _ _=>true|_=>false)=true) (hi:(P.info? ty).map (·.size)=some cs.size)
  (hu2:P.underlying tz=some d2) (hd2:(match d2 with| .struct _| .array _ _=>true|_=>false)=true) (hi2:(P.info? tz).map (·.size)=some cs2.size):
  (results fn tmps).run P w=.ok (.tuple #[.agg cs,.agg cs2,x]) w:=by
 have e:(results fn tmps).run P w=((asAddr (tmps.getD p undef)).run P w).andThen fun a w₁=>((loadVar ty a).run P w₁).andThen fun v w₂=>((asAddr (tmps.getD q undef)).run P w₂).andThen fun b w₃=>((loadVar tz b).run P w₃).andThen fun v' w₄=>.ok (.tuple #[v,v',tmps.getD u undef]) w₄:=by
  simp only[results,h];simp[Sem.run_bind,Result.andThen]
 rw[e,hp,hq,hx];simp only[asAddr,Sem.run_pure,Result.andThen];rw[run_loadVar_row w g t ty cs (0,0) d hg hu hd hi];simp only;rw[run_loadVar_row w g2 t2 tz cs2 (0,0) d2 hg2 hu2 hd2 hi2]
theorem iG {r:Ru} {s:St} {q:Int×Int×Int×Int×Int} {kind:Int} {W w:World} {A:Act} {a b c d e:Int} {f:an} (hb:Below W.heap.size W w) (ht:aj w W.heap.size 182 #[.int .i64 a,.int .i64 b,.int .i64 c,.int .i64 d]) (hf:aj w (W.heap.size+1) 95 (af f))
  (hp:A.tmps.getD 6 undef=.pointer (some ⟨W.heap.size,0,none⟩)) (hq:A.tmps.getD 7 undef=.pointer (some ⟨W.heap.size+1,0,none⟩)) (hx:A.tmps.getD 8 undef=bV e) (hd:A.defers=[]) (h1:q.2=(a,b,c,d)) (h2:f=dI s q) (h3:e=co r s q kind):
  bodyPost prog Tryz.f183 (om r s q kind W) Exit.ret A w:=by
 refine bodyPost_ret (kp rfl A.tmps w _ _ _ _ _ _ _ _ _ hp hq hx ht hf underlying182 rfl kR underlying95 rfl kR) hd ⟨?_,hb⟩;rw[h1,←h2,←h3];rfl
theorem bC {w:World} {g g2:Nat} {T T2:TypeId} {a0 b0 c0 d0:Value} {f0:an} (h:aj w g T #[a0,b0,c0,d0]) (h2:aj w g2 T2 (af f0)) (hne:g≠g2) (a b c d:Int) (f:an): ∃ w',w'=(((((((((((((w.setCell ⟨g,0,none⟩ (.int .i64 a)).setCell ⟨g,1,none⟩ (.int .i64 b)).setCell ⟨g,2,none⟩ (.int .i64 c)).setCell ⟨g,3,none⟩ (.int .i64 d)).setCell ⟨g2,0,none⟩ (.int .i64 f.id)).setCell ⟨g2,1,none⟩ (.string f.client)).setCell ⟨g2,2,none⟩ (.string f.subject)).setCell ⟨g2,3,none⟩ (.string f.scope)).setCell ⟨g2,4,none⟩ (.int .i64 f.gen)).setCell ⟨g2,5,none⟩ (.int .i64 f.made)).setCell ⟨g2,6,none⟩ (.int .i64 f.used)).setCell ⟨g2,7,none⟩ (.string f.request)).setCell ⟨g2,8,none⟩ (.bool f.dead))∧
  aj w' g T #[.int .i64 a,.int .i64 b,.int .i64 c,.int .i64 d]∧aj w' g2 T2 (af f)∧ ∀ {B:Nat} {W:World},Below B W w→B≤g→B≤g2→B≤w.heap.size→Below B W w':=by
 have e0:=h.put_ 0 (.int .i64 a) (cs':=#[.int .i64 a,b0,c0,d0]) rfl;have e1:=e0.put_ 1 (.int .i64 b) (cs':=#[.int .i64 a,.int .i64 b,c0,d0]) rfl;have e2:=e1.put_ 2 (.int .i64 c) (cs':=#[.int .i64 a,.int .i64 b,.int .i64 c,d0]) rfl;have e3:=e2.put_ 3 (.int .i64 d) (cs':=#[.int .i64 a,.int .i64 b,.int .i64 c,.int .i64 d]) rfl;have g0:=aZ w g ⟨g,0,none⟩ rfl (.int .i64 a);have g1:=ag g0 (p:=⟨g,1,none⟩) (.inl rfl) (.int .i64 b);have g2':=ag g1 (p:=⟨g,2,none⟩) (.inl rfl) (.int .i64 c);have g3:=ag g2' (p:=⟨g,3,none⟩) (.inl rfl) (.int .i64 d);have hf3:=h2.grown g3 (by simpa using hne.symm);obtain⟨n1,n2⟩:=dS hf3 f.id f.client f.subject f.scope f.gen f.made f.used f.request f.dead;refine⟨_,rfl,e3.grown n2 (by simpa using hne),n1,fun hb h1 h2' h3=>?_⟩;have hb3:=hb.grown g3 h3 (fun i hi=>by cases hi;exact h1);exact hb3.grown n2 (Nat.le_trans h3 g3.size) (fun i hi=>by cases hi;exact h2')
theorem aN {w:World} {g:Nat} {T:TypeId} {a b c d:Value} (h:aj w g T #[a,b,c,d]):w.cell? ⟨g,0,none⟩=some a∧w.cell? ⟨g,1,none⟩=some b∧w.cell? ⟨g,2,none⟩=some c∧w.cell? ⟨g,3,none⟩=some d:=⟨h.cell 0,h.cell 1,h.cell 2,h.cell 3⟩
theorem rS {B vb sb db k:Nat} {r:Ru} {z:SS} {v:Value} {W:World} (h:SW B vb sb db k r z v W) (t:ByteArray) (kind:Int) (ht:t.size≤5000):
  Calls prog 183 #[.pointer (some ⟨vb,0,none⟩),.string t,.int .i64 kind] W (om r z.s (a8 r t) kind W):=by
 have HTR:Hid (∀ w,SW B vb sb db k r z v w→Calls prog 225 #[.int .i64 r.key,.string t] w (nj w (a8 r t))):=zH fun w h=>zA r.key t w ht h.sx.env.maxl h.sx.env.tens h.sx.env.errs
 have HFD:=zH (fun w id (h:SW B vb sb db k r z v w)=>vU h id);have HST:=zH (fun w (h:SW B vb sb db k r z v w)=>(gM h.sx).mono fun _ _ h=>fG h);have hfit:=h.sx.fit;have hru:=i1 h.right;have H:=zH h;clear h;generalize a8 r t=q at*;obtain⟨qe,qk,qf,qg,qd⟩:=q;generalize z.s=s at*;obtain⟨ck,nx,L⟩:=s;unfold nj v4 at HTR;unfold iS at HST;dsimp only at*;have hal:=bZ W (.cells #[.int .i64 0,.int .i64 0,.int .i64 0,.int .i64 0] 182) (.cells (af an.zero) 95);have HAL:=zH hal;have H1:=zH (H.out.keep hal);have HT1:=zH ((aj.new W 182 #[.int .i64 0,.int .i64 0,.int .i64 0,.int .i64 0]).alloc (.cells (af an.zero) 95))
 have hf1:aj ((W.alloc (.cells #[.int .i64 0,.int .i64 0,.int .i64 0,.int .i64 0] 182)).alloc (.cells (af an.zero) 95)) (W.heap.size+1) 95 (af an.zero):=by
  have:=aj.new (W.alloc (.cells #[.int .i64 0,.int .i64 0,.int .i64 0,.int .i64 0] 182)) 95 (af an.zero);rw[show(W.alloc (.cells #[.int .i64 0,.int .i64 0,.int .i64 0,.int .i64 0] 182)).heap.size=W.heap.size+1 by simp]at this;exact this
 have HF1:=zH hf1;clear hal hf1 H;unfold af an.zero at HAL H1 HT1 HF1;dsimp only at HAL H1 HT1 HF1;obtain⟨c0,c1,c2,c3,c4,hlt⟩:=H1.out.five;go_enter Tryz.func183,Tryz.ntmps183;go_wp2_with fail;go_at_call 225;refine(HTR.out _ H1.out).mono ?_;rintro e w1 ⟨rfl,hb⟩;have HB1:=zH (ae HAL.out hb);have H2:=zH (H1.out.keep hb);have HT2:=zH (HT1.out.below' hb);have HF2:=zH (HF1.out.below' hb);clear hb H1 HT1 HF1 HAL c0 c1 c2 c3 c4 hlt HTR
 by_cases hq:qe=0
 ·subst hq
  have e0:bV 0=.nilIface:=cH;rw[e0];clear e0;obtain⟨c0,c1,c2,c3,c4,hlt⟩:=H2.out.five;have hal:=(Below.refl w1.heap.size w1).alloc (Nat.le_refl _) (.cells #[.int .i64 qk,.int .i64 qf,.int .i64 qg,.int .i64 qd] 182);have H3:=zH (H2.out.keep hal);have HT3:=zH (HT2.out.below' hal);have HF3:=zH (HF2.out.below' hal);have HB3:=zH (ae HB1.out hal);have HV3:=zH (aj.new w1 182 #[.int .i64 qk,.int .i64 qf,.int .i64 qg,.int .i64 qd]);clear hal;go_wp2_with fail;go_at_call 181;have hF2l:=HF2.out.lt;clear c0 c1 c2 c3 c4 hlt H2 HT2 HF2 HB1;refine(HFD.out _ _ H3.out).mono ?_;generalize hw3:w1.alloc (.cells #[.int .i64 qk,.int .i64 qf,.int .i64 qg,.int .i64 qd] 182)=w3 at*;have htb0:W.heap.size+1<w1.heap.size:=hF2l;generalize hv:w1.heap.size=tb at*;clear hw3 hv;rintro e w4 ⟨hb,⟨f,hfd,hmem,rfl⟩|⟨hfd,rfl⟩⟩
  ·have H4:=zH (H3.out.keep hb)
   have HT4:=zH (HT3.out.below' hb);have HF4:=zH (HF3.out.below' hb);have HV4:=zH (HV3.out.below' hb);have HB4:=zH (ae HB3.out hb);have HFDD:=zH hfd;obtain⟨_,_,gm,gu,_⟩:=bo (hfit.fams f hmem);have HADU:=zH (fun w=>jH f.used r.idle w (by have:=az.1 gu;omega) (by have:=az.1 hru.2.1;omega));have HADM:=zH (fun w=>jH f.made r.life w (by have:=az.1 gm;omega) (by have:=az.1 hru.2.2.1;omega));clear hb hfd hmem H3 HT3 HF3 HV3 HB3 HFD gm gu;obtain⟨i,cl,su,scp,ge,ma,us,re,de⟩:=f;unfold aO af;dsimp only at*;obtain⟨c0,c1,c2,c3,c4,hlt⟩:=H4.out.five;go_wp2_with fail;have hal:=(Below.refl w4.heap.size w4).alloc (Nat.le_refl _) (.cells #[.int .i64 i,.string cl,.string su,.string scp,.int .i64 ge,.int .i64 ma,.int .i64 us,.string re,.bool de] 95);have HG4:=zH (aj.new w4 95 #[.int .i64 i,.string cl,.string su,.string scp,.int .i64 ge,.int .i64 ma,.int .i64 us,.string re,.bool de]);have H5:=zH (H4.out.keep hal);have HT4b:=zH (HT4.out.below' hal);have HF4b:=zH (HF4.out.below' hal);have HV4b:=zH (HV4.out.below' hal);have HB4b:=zH (ae HB4.out hal);have hfl:=HF4.out.lt;clear hal HT4 HF4 HV4 HB4 H4 c0 c1 c2 c3 c4 hlt;go_at_call 177;refine(HST.out _ H5.out).mono ?_;generalize w4.alloc (.cells #[.int .i64 i,.string cl,.string su,.string scp,.int .i64 ge,.int .i64 ma,.int .i64 us,.string re,.bool de] 95)=w4b at*;have hfb0:W.heap.size+1<w4.heap.size:=hfl;generalize w4.heap.size=fb at*;rintro e w5 ⟨a5,ac5,rfl,hr5,hb⟩;have H6:=zH (H5.out.keep hb);have HT5:=zH (HT4b.out.below' hb);have HF5:=zH (HF4b.out.below' hb);have HV5:=zH (HV4b.out.below' hb);have HG5:=zH (HG4.out.below' hb);have HB5:=zH (ae HB4b.out hb);clear hr5 hb H5 HT4b HF4b HV4b HB4b HG4 HST;have hcl:=jk ck nx a5 L.length ac5;obtain⟨_,_,d2,d3,_,hlt⟩:=H6.out.five;obtain⟨v0,v1,v2,v3⟩:=aN HV5.out;obtain⟨g0,g1,g2,g3,g4,g5,g6,g7,g8⟩:=aA (i:=i) (cl:=cl) (su:=su) (sc:=scp) (ge:=ge) (ma:=ma) (us:=us) (re:=re) (de:=de) HG5.out;obtain⟨t0,t1,t2,t3⟩:=aN HT5.out;have htz:=HT5.out.frozen;obtain⟨z0,z1,z2,z3,z4,z5,z6,z7,z8⟩:=aA (i:=0) (cl:=⟨#[]⟩) (su:=⟨#[]⟩) (sc:=⟨#[]⟩) (ge:=0) (ma:=0) (us:=0) (re:=⟨#[]⟩) (de:=false) HF5.out;have hz:=HF5.out.frozen
   by_cases hk:qk=kind
   ·have hk':(qk != kind)=false:=by simpa using hk
    have HK:=zH hk;clear hk;cases de
    ·by_cases hu:cK us r.idle<ck
     ·have hu':decide (cK us r.idle<ck)=true:=decide_eq_true hu
      go_wp2_with fail
      go_quiet ((first
       |(go_at_call 184;exact Calls.quiet_of_same ((HADU.out _).mono fun _ _ h=>⟨h.1,h.2.symm⟩))
       |(go_at_call 184;exact Calls.quiet_of_same ((HADM.out _).mono fun _ _ h=>⟨h.1,h.2.symm⟩))))
      go_wp2_with fail;have ntb0:tb≠W.heap.size:=by omega
      have ntb1:tb≠W.heap.size+1:=by omega
      have nfb0:fb≠W.heap.size:=by omega
      have nfb1:fb≠W.heap.size+1:=by omega
      go_region
      go_wp2_with fail;obtain⟨_,rfl,n1,n2,n3⟩:=bC (f0:=an.zero) (HT5.out.drewN (nq+1)) (HF5.out.drewN (nq+1)) oM qk qf qg qd ⟨i,cl,su,scp,ge,ma,us,re,false⟩;exact iG (r:=r) (q:=(0,qk,qf,qg,qd)) (s:=⟨ck,nx,L⟩) (kind:=kind) (e:=10) (f:=⟨i,cl,su,scp,ge,ma,us,re,false⟩) (n3 (aF HB5.out (nq+1)) (Nat.le_refl _) (Nat.le_succ _) HB5.out.size) n1 n2 rfl rfl (by rw[aP (show(10:Int)≠0 by decide)];rfl) rfl rfl (by unfold dI;rw[if_neg (show ¬ (0:Int)≠0 by decide)];first|rw[HFDD.out];rfl|rw[HFDD.out]) (by unfold co;rw[if_neg (show ¬ (0:Int)≠0 by decide)];rw[if_neg (by rw[HK.out];exact fun h=>h rfl),HFDD.out];simp[kZ,hu])
     ·have hu':decide (cK us r.idle<ck)=false:=decide_eq_false hu
      by_cases hm:cK ma r.life<ck
      ·have hm':decide (cK ma r.life<ck)=true:=decide_eq_true hm
       go_wp2_with fail
       go_quiet ((first
        |(go_at_call 184;exact Calls.quiet_of_same ((HADU.out _).mono fun _ _ h=>⟨h.1,h.2.symm⟩))
        |(go_at_call 184;exact Calls.quiet_of_same ((HADM.out _).mono fun _ _ h=>⟨h.1,h.2.symm⟩))))
       go_wp2_with fail;have ntb0:tb≠W.heap.size:=by omega
       have ntb1:tb≠W.heap.size+1:=by omega
       have nfb0:fb≠W.heap.size:=by omega
       have nfb1:fb≠W.heap.size+1:=by omega
       go_region
       go_wp2_with fail;obtain⟨_,rfl,n1,n2,n3⟩:=bC (f0:=an.zero) (HT5.out.drewN (nq+1)) (HF5.out.drewN (nq+1)) oM qk qf qg qd ⟨i,cl,su,scp,ge,ma,us,re,false⟩;exact iG (r:=r) (q:=(0,qk,qf,qg,qd)) (s:=⟨ck,nx,L⟩) (kind:=kind) (e:=10) (f:=⟨i,cl,su,scp,ge,ma,us,re,false⟩) (n3 (aF HB5.out (nq+1)) (Nat.le_refl _) (Nat.le_succ _) HB5.out.size) n1 n2 rfl rfl (by rw[aP (show(10:Int)≠0 by decide)];rfl) rfl rfl (by unfold dI;rw[if_neg (show ¬ (0:Int)≠0 by decide)];first|rw[HFDD.out];rfl|rw[HFDD.out]) (by unfold co;rw[if_neg (show ¬ (0:Int)≠0 by decide)];rw[if_neg (by rw[HK.out];exact fun h=>h rfl),HFDD.out];simp[kZ,hm])
      ·have hm':decide (cK ma r.life<ck)=false:=decide_eq_false hm
       go_wp2_with fail
       go_quiet ((first
        |(go_at_call 184;exact Calls.quiet_of_same ((HADU.out _).mono fun _ _ h=>⟨h.1,h.2.symm⟩))
        |(go_at_call 184;exact Calls.quiet_of_same ((HADM.out _).mono fun _ _ h=>⟨h.1,h.2.symm⟩))))
       go_wp2_with fail;have ntb0:tb≠W.heap.size:=by omega
       have ntb1:tb≠W.heap.size+1:=by omega
       have nfb0:fb≠W.heap.size:=by omega
       have nfb1:fb≠W.heap.size+1:=by omega
       go_region
       go_wp2_with fail;obtain⟨_,rfl,n1,n2,n3⟩:=bC (f0:=an.zero) (HT5.out.drewN (nq+1)) (HF5.out.drewN (nq+1)) oM qk qf qg qd ⟨i,cl,su,scp,ge,ma,us,re,false⟩;exact iG (r:=r) (q:=(0,qk,qf,qg,qd)) (s:=⟨ck,nx,L⟩) (kind:=kind) (e:=0) (f:=⟨i,cl,su,scp,ge,ma,us,re,false⟩) (n3 (aF HB5.out (nq+1)) (Nat.le_refl _) (Nat.le_succ _) HB5.out.size) n1 n2 rfl rfl rfl rfl rfl (by unfold dI;rw[if_neg (show ¬ (0:Int)≠0 by decide)];first|rw[HFDD.out];rfl|rw[HFDD.out]) (by unfold co;rw[if_neg (show ¬ (0:Int)≠0 by decide)];rw[if_neg (by rw[HK.out];exact fun h=>h rfl),HFDD.out];simp[kZ,hu,hm])
    ·go_wp2_with (first
      |(go_at_call 184;(with_reducible refine(HADU.out _).mono ?_);rintro e w' ⟨rfl,rfl⟩)
      |(go_at_call 184;(with_reducible refine(HADM.out _).mono ?_);rintro e w' ⟨rfl,rfl⟩))
     have ntb0:tb≠W.heap.size:=by omega
     have ntb1:tb≠W.heap.size+1:=by omega
     have nfb0:fb≠W.heap.size:=by omega
     have nfb1:fb≠W.heap.size+1:=by omega
     go_region
     go_wp2_with fail;obtain⟨_,rfl,n1,n2,n3⟩:=bC (f0:=an.zero) HT5.out HF5.out oM qk qf qg qd ⟨i,cl,su,scp,ge,ma,us,re,true⟩;exact iG (r:=r) (q:=(0,qk,qf,qg,qd)) (s:=⟨ck,nx,L⟩) (kind:=kind) (e:=6) (f:=⟨i,cl,su,scp,ge,ma,us,re,true⟩) (au (n3 HB5.out (Nat.le_refl _) (Nat.le_succ _) HB5.out.size)) n1.drew n2.drew rfl rfl (by rw[aP (show(6:Int)≠0 by decide)];rfl) rfl rfl (by unfold dI;rw[if_neg (show ¬ (0:Int)≠0 by decide)];first|rw[HFDD.out];rfl|rw[HFDD.out]) (by unfold co;rw[if_neg (show ¬ (0:Int)≠0 by decide)];rw[if_neg (by rw[HK.out];exact fun h=>h rfl),HFDD.out];rfl)
   ·have hk':(qk != kind)=true:=by simpa using hk
    go_wp2_with (first
     |(go_at_call 184;(with_reducible refine(HADU.out _).mono ?_);rintro e w' ⟨rfl,rfl⟩)
     |(go_at_call 184;(with_reducible refine(HADM.out _).mono ?_);rintro e w' ⟨rfl,rfl⟩))
    have ntb0:tb≠W.heap.size:=by omega
    have ntb1:tb≠W.heap.size+1:=by omega
    have nfb0:fb≠W.heap.size:=by omega
    have nfb1:fb≠W.heap.size+1:=by omega
    go_region
    go_wp2_with fail;obtain⟨_,rfl,n1,n2,n3⟩:=bC (f0:=an.zero) HT5.out HF5.out oM qk qf qg qd ⟨i,cl,su,scp,ge,ma,us,re,de⟩;exact iG (r:=r) (q:=(0,qk,qf,qg,qd)) (s:=⟨ck,nx,L⟩) (kind:=kind) (e:=1) (f:=⟨i,cl,su,scp,ge,ma,us,re,de⟩) (au (n3 HB5.out (Nat.le_refl _) (Nat.le_succ _) HB5.out.size)) n1.drew n2.drew rfl rfl (by rw[aP (show(1:Int)≠0 by decide)];rfl) rfl rfl (by unfold dI;rw[if_neg (show ¬ (0:Int)≠0 by decide)];first|rw[HFDD.out];rfl|rw[HFDD.out]) (by unfold co;rw[if_neg (show ¬ (0:Int)≠0 by decide)];rw[if_pos hk])
  ·have H4:=zH (H3.out.keep hb)
   have HT4:=zH (HT3.out.below' hb);have HF4:=zH (HF3.out.below' hb);have HV4:=zH (HV3.out.below' hb);have HB4:=zH (ae HB3.out hb);have HFDD:=zH hfd;have HADU:=zH (fun w=>jH 0 r.idle w oM (by have:=az.1 hru.2.1;omega));have HADM:=zH (fun w=>jH 0 r.life w oM (by have:=az.1 hru.2.2.1;omega));clear hb hfd H3 HT3 HF3 HV3 HB3 HFD;unfold aO af an.zero;dsimp only at*;obtain⟨c0,c1,c2,c3,c4,hlt⟩:=H4.out.five;go_wp2_with fail;have hal:=(Below.refl w4.heap.size w4).alloc (Nat.le_refl _) (.cells #[.int .i64 0,.string ⟨#[]⟩,.string ⟨#[]⟩,.string ⟨#[]⟩,.int .i64 0,.int .i64 0,.int .i64 0,.string ⟨#[]⟩,.bool false] 95);have HG4:=zH (aj.new w4 95 #[.int .i64 0,.string ⟨#[]⟩,.string ⟨#[]⟩,.string ⟨#[]⟩,.int .i64 0,.int .i64 0,.int .i64 0,.string ⟨#[]⟩,.bool false]);have H5:=zH (H4.out.keep hal);have HT4b:=zH (HT4.out.below' hal);have HF4b:=zH (HF4.out.below' hal);have HV4b:=zH (HV4.out.below' hal);have HB4b:=zH (ae HB4.out hal);have hfl:=HF4.out.lt;clear hal HT4 HF4 HV4 HB4 H4 c0 c1 c2 c3 c4 hlt;go_at_call 177;refine(HST.out _ H5.out).mono ?_;generalize w4.alloc (.cells #[.int .i64 0,.string ⟨#[]⟩,.string ⟨#[]⟩,.string ⟨#[]⟩,.int .i64 0,.int .i64 0,.int .i64 0,.string ⟨#[]⟩,.bool false] 95)=w4b at*;have hfb0:W.heap.size+1<w4.heap.size:=hfl;generalize w4.heap.size=fb at*;rintro e w5 ⟨a5,ac5,rfl,hr5,hb⟩;have H6:=zH (H5.out.keep hb);have HT5:=zH (HT4b.out.below' hb);have HF5:=zH (HF4b.out.below' hb);have HV5:=zH (HV4b.out.below' hb);have HG5:=zH (HG4.out.below' hb);have HB5:=zH (ae HB4b.out hb);clear hr5 hb H5 HT4b HF4b HV4b HB4b HG4 HST;have hcl:=jk ck nx a5 L.length ac5;obtain⟨_,_,d2,d3,_,hlt⟩:=H6.out.five;obtain⟨v0,v1,v2,v3⟩:=aN HV5.out;obtain⟨g0,g1,g2,g3,g4,g5,g6,g7,g8⟩:=aA (i:=0) (cl:=⟨#[]⟩) (su:=⟨#[]⟩) (sc:=⟨#[]⟩) (ge:=0) (ma:=0) (us:=0) (re:=⟨#[]⟩) (de:=false) HG5.out;obtain⟨t0,t1,t2,t3⟩:=aN HT5.out;have htz:=HT5.out.frozen;obtain⟨z0,z1,z2,z3,z4,z5,z6,z7,z8⟩:=aA (i:=0) (cl:=⟨#[]⟩) (su:=⟨#[]⟩) (sc:=⟨#[]⟩) (ge:=0) (ma:=0) (us:=0) (re:=⟨#[]⟩) (de:=false) HF5.out;have hz:=HF5.out.frozen
   by_cases hk:qk=kind
   ·have hk':(qk != kind)=false:=by simpa using hk
    have HK:=zH hk;clear hk
    go_wp2_with (first
     |(go_at_call 184;(with_reducible refine(HADU.out _).mono ?_);rintro e w' ⟨rfl,rfl⟩)
     |(go_at_call 184;(with_reducible refine(HADM.out _).mono ?_);rintro e w' ⟨rfl,rfl⟩))
    have ntb0:tb≠W.heap.size:=by omega
    have ntb1:tb≠W.heap.size+1:=by omega
    have nfb0:fb≠W.heap.size:=by omega
    have nfb1:fb≠W.heap.size+1:=by omega
    go_region
    go_wp2_with fail;obtain⟨_,rfl,n1,n2,n3⟩:=bC (f0:=an.zero) HT5.out HF5.out oM qk qf qg qd an.zero;exact iG (r:=r) (q:=(0,qk,qf,qg,qd)) (s:=⟨ck,nx,L⟩) (kind:=kind) (e:=7) (f:=an.zero) (au (n3 HB5.out (Nat.le_refl _) (Nat.le_succ _) HB5.out.size)) n1.drew n2.drew rfl rfl (by rw[aP (show(7:Int)≠0 by decide)];rfl) rfl rfl (by unfold dI;rw[if_neg (show ¬ (0:Int)≠0 by decide)];first|rw[HFDD.out];rfl|rw[HFDD.out]) (by unfold co;rw[if_neg (show ¬ (0:Int)≠0 by decide)];rw[if_neg (by rw[HK.out];exact fun h=>h rfl),HFDD.out])
   ·have hk':(qk != kind)=true:=by simpa using hk
    go_wp2_with (first
     |(go_at_call 184;(with_reducible refine(HADU.out _).mono ?_);rintro e w' ⟨rfl,rfl⟩)
     |(go_at_call 184;(with_reducible refine(HADM.out _).mono ?_);rintro e w' ⟨rfl,rfl⟩))
    have ntb0:tb≠W.heap.size:=by omega
    have ntb1:tb≠W.heap.size+1:=by omega
    have nfb0:fb≠W.heap.size:=by omega
    have nfb1:fb≠W.heap.size+1:=by omega
    go_region
    go_wp2_with fail;obtain⟨_,rfl,n1,n2,n3⟩:=bC (f0:=an.zero) HT5.out HF5.out oM qk qf qg qd an.zero;exact iG (r:=r) (q:=(0,qk,qf,qg,qd)) (s:=⟨ck,nx,L⟩) (kind:=kind) (e:=1) (f:=an.zero) (au (n3 HB5.out (Nat.le_refl _) (Nat.le_succ _) HB5.out.size)) n1.drew n2.drew rfl rfl (by rw[aP (show(1:Int)≠0 by decide)];rfl) rfl rfl (by unfold dI;rw[if_neg (show ¬ (0:Int)≠0 by decide)];first|rw[HFDD.out];rfl|rw[HFDD.out]) (by unfold co;rw[if_neg (show ¬ (0:Int)≠0 by decide)];rw[if_pos hk])
 ·have e0:bV qe=.iface 57 (.int .i64 qe):=aP hq
  rw[e0];clear e0;obtain⟨t0,t1,t2,t3⟩:=aN HT2.out;have htz:=HT2.out.frozen;obtain⟨z0,z1,z2,z3,z4,z5,z6,z7,z8⟩:=aA (i:=0) (cl:=⟨#[]⟩) (su:=⟨#[]⟩) (sc:=⟨#[]⟩) (ge:=0) (ma:=0) (us:=0) (re:=⟨#[]⟩) (de:=false) HF2.out;have hz:=HF2.out.frozen;have hw1:W.heap.size+1<w1.heap.size:=HF2.out.lt;have hw0:W.heap.size<w1.heap.size:=HT2.out.lt;go_wp2_with fail;obtain⟨_,rfl,n1,n2,n3⟩:=bC (f0:=an.zero) HT2.out HF2.out oM qk qf qg qd an.zero;exact iG ((n3 HB1.out (Nat.le_refl _) (Nat.le_succ _) oM).alloc (by simp;omega) _) (n1.alloc _) (n2.alloc _) rfl rfl (by rw[aP hq];rfl) rfl rfl (by unfold dI;rw[if_pos hq]) (by unfold co;rw[if_pos hq])
end Go.Proofs.YtepjcdjpikbbjaaGreatDoor
