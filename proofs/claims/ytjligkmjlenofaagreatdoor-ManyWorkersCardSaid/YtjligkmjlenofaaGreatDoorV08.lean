/- Part of the proof. -/
import Derived.Test.YtjligkmjlenofaaGreatDoorV05
import Derived.Test.YtjligkmjlenofaaGreatDoorV07
set_option maxHeartbeats 4000000
set_option maxRecDepth 100000
open ByteArray renaming empty->akG
open Int renaming tmod_eq_emod_of_nonneg->aly
open Go renaming World->aah,Calls->ach,Value->aai
open Go.Lib renaming itoa->aax
open Go.ByteArray renaming toList_eq->ab3
open Option.some renaming inj->ahK
namespace Go.Proofs.YtjligkmjlenofaaGreatDoor
open Go.Proofs.Tryz
open Go.RowKit Go.Sort
def FJ(W:aah)(o:Option Ev)(x:Ending)(w':aah):Prop:=(∃(e:Ev) (b:Bool),x=.returned (.tuple #[bH e,.bool b])/\(match o with|some ev=>e=ev/\b=true|none=>b=false))/\Below W.heap.size W w'
theorem Cw{W w:aah}{A:Act}{e:Ev}{b:Bool}{o:Option Ev}(hb:Below W.heap.size W w)(hr:aC w W.heap.size 115 (aN e))(ho:match o with|some ev=>e=ev/\b=true|none=>b=false)(hp:A.tmps.getD 4 undef=.pointer (some ⟨W.heap.size,0,none⟩))(hx:A.tmps.getD 5 undef=.bool b)(hd:A.defers=[]):
  bodyPost prog f55 (FJ W o) Exit.ret A w:=
 bodyPost_ret (jw rfl A.tmps w _ _ _ _ _ hp hx hr underlying115 rfl kR) hd ⟨⟨e,b,rfl,ho⟩,hb⟩
structure SE(W:aah)(B sb db:Nat)(D:Dk)(s:St)(v:aai)(n f x:Int)(down:Bool)(w:aah):Prop where
 sd:SD B sb db D s v n f x down w
 fH:aC w W.heap.size 115 (aN Ev.zero)
 below:Below W.heap.size W w
section
variable{W w w':aah}{B sb db:Nat}{D:Dk}{s:St}{v:aai}{n f x:Int}{down:Bool}
theorem SE.keep(h:SE W B sb db D s v n f x down w)(hb:Below w.heap.size w w'):SE W B sb db D s v n f x down w':=⟨h.sd.keep hb,h.fH.aj hb,below_2 h.below hb⟩
theorem SE.start(h:SD B sb db D s v n f x down W):SE W B sb db D s v n f x down (W.alloc (.cells (aN Ev.zero) 115)):=
 ⟨h.keep (bR.alloc nR _),aC.new W _ _,bR.alloc nR _⟩
end
theorem Vf(l:BL)(hl:l.length<=5000)(w:aah)(hm:gp w):ach prog 89 #[.string (aq l),.string ⟨#[32]⟩] w fun e w'=>e=.returned (.tuple #[.string (aq (eC l)),.string (aq (cQ l)),.bool (decide (32∈l))])/\Below w.heap.size w w':=by
 obtain⟨m,hm⟩:=hm;refine(Ea (aq l) ⟨#[32]⟩ m w (by rw[cI];omega) hm).mono ?_;rintro e w' ⟨rfl,q,rfl⟩;refine⟨?_,below_drewN bR q⟩;rw[an];have:=aaR l;have e2:(⟨#[32]⟩:ByteArray).data.toList=[32]:=rfl;rw[e2,this];rfl
theorem XC(l:BL):(cQ l).length<=l.length:=by
 unfold cQ;rw[List.length_drop];have:=(List.dropWhile_sublist (p:=fun c:UInt8=>c != 32) (l:=l)).length_le;omega
theorem RD(B sb db:Nat)(D:Dk)(s:St)(v:aai)(n f x k:Int)(down:Bool)(W:aah)(h:SD B sb db D s v n f x down W)(h0:0<=f)(h1:f<=1000000)(h2:0<=k)(h3:k<=1000000)(hk:16<=k - f):
  ach prog 55 #[.pointer (some ⟨sb,0,none⟩),.int .i64 k] W (FJ W none):=by
 have H0:=zH (SE.start h);obtain⟨ck,nx,L⟩:=s;obtain⟨c0,c1,c2,c3,c4,c5,c6,c7,z,aE⟩:=h.cells;clear h;unfold aN Ev.zero az.zero at H0;dsimp only at H0
 go_in
 go_wp2_with fail;exact Cw (e:=Ev.zero) (b:=false) H0.O.below H0.O.fH rfl rfl rfl rfl
theorem Nx(B sb db:Nat)(D:Dk)(s:St)(v:aai)(n f x k:Int)(down:Bool)(W:aah)(h:SD B sb db D s v n f x down W)(hf:D.fits)(h0:0<=f)(h1:f<=1000000)(h2:0<=k)(h3:k<=1000000)(hk:k - f<16)(ho:iA bt (b_ D (k % 16).toNat)=none):
  ach prog 55 #[.pointer (some ⟨sb,0,none⟩),.int .i64 k] W (FJ W none):=by
 have H0:=zH (SE.start h);obtain⟨j,hj,YZ⟩:∃j:Nat,k.tmod 16=(j:Int)/\(k % 16).toNat=j:=⟨(k % 16).toNat,by rw[aly h2];omega,rfl⟩;have aeE:j<16:=by omega
 rw[YZ]at ho;have EK:=zH (fun w hd=>nU db D j w hd oM);have EJ:=zH (fun w=>kP (D.blk.getD j akG) w (by have:=hf j;omega));have Qp:iA bt (D.blk.getD j akG).data.toList=none:=ho;rw[Qp]at EJ;have HCU:=zH (Vf [] (Nat.zero_le _));have mB:aq []=⟨#[]⟩:=rfl;rw[mB]at HCU;generalize D.blk.getD j akG=blk at*;obtain⟨ck,nx,L⟩:=s;obtain⟨c0,c1,c2,c3,c4,c5,c6,c7,z,aE⟩:=h.cells;clear h ho Qp mB YZ;unfold aN Ev.zero az.zero at H0;dsimp only at H0
 go_in
 go_wp2_with fail;refine(EK.O _ H0.O.sd.fM).mono ?_;rintro e w1 ⟨rfl,rfl⟩;go_wp2_with fail;refine(EJ.O _).mono ?_;rintro e w2 ⟨⟨x2,b2,rfl,rfl,rfl⟩,hb⟩;have H2:=zH (H0.O.keep hb);clear hb;go_wp2_with fail;refine(HCU.O _ H2.O.sd.env.iV).mono ?_;rintro e w3 ⟨rfl,hb⟩;have H3:=zH (H2.O.keep hb);clear hb H2 H0;have aO:=H3.O.fH;have f1:=aO.frozen;obtain⟨r0,r1,r2,r3,r4,r5,r6,r7,r8,r9,m_,rV⟩:=bL (k:=0) (i:=0) (cl:=⟨#[]⟩) (su:=⟨#[]⟩) (sc:=⟨#[]⟩) (ge:=0) (ma:=0) (us:=0) (re:=⟨#[]⟩) (de:=false) (id:=0) (ti:=0) aO;clear aO;go_wp2_with fail;exact Cw (e:=Ev.zero) (b:=false) (cH (e':=Ev.zero) H3.O.below) (dy (e':=Ev.zero) H3.O.fH) rfl rfl rfl rfl
theorem Kl(B sb db:Nat)(D:Dk)(s:St)(v:aai)(n f x k:Int)(down:Bool)(W:aah)(h:SD B sb db D s v n f x down W)(hf:D.fits)(h0:0<=f)(h1:f<=1000000)(h2:0<=k)(h3:k<=1000000)(hk:k - f<16)(l:BL)(ho:iA bt (b_ D (k % 16).toNat)=some l)(MP:l.length<=240)(eZ:eC l≠aax k)(hkM:rQ k=true):
  ach prog 55 #[.pointer (some ⟨sb,0,none⟩),.int .i64 k] W (FJ W none):=by
 have H0:=zH (SE.start h);obtain⟨j,hj,YZ⟩:∃j:Nat,k.tmod 16=(j:Int)/\(k % 16).toNat=j:=⟨(k % 16).toNat,by rw[aly h2];omega,rfl⟩;have aeE:j<16:=by omega
 rw[YZ]at ho;have EK:=zH (fun w hd=>nU db D j w hd oM);have EJ:=zH (fun w=>kP (D.blk.getD j akG) w (by have:=hf j;omega));have Qp:iA bt (D.blk.getD j akG).data.toList=some l:=ho
 have EJ:Hid (∀w,ach prog 85 #[.string (D.blk.getD j akG)] w fun e w'=>e=.returned (.tuple #[.string (aq l),.bool true])/\Below w.heap.size w w'):=zH fun w=>by
  have h1:=EJ.O w;rw[Qp]at h1;refine h1.mono ?_;rintro e w' ⟨⟨x2,b2,rfl,rfl,rfl⟩,hb⟩;exact⟨rfl,hb⟩
 have HCU:=zH (Vf l oM);have Ep:=zH (fun w hT=>Br k hkM w hT)
 have hq:((aq (eC l)).toList == (bM k).toList)=false:=by
  rw[toList_txt,show(bM k).toList=aax k from by unfold bM;rw[ab3]];simpa using eZ
 generalize bM k=ik at*;generalize decide (32∈l)=fb at*;generalize aq (eC l)=th at*;generalize aq (cQ l)=tr at*;generalize aq l=tl at*;generalize D.blk.getD j akG=blk at*;obtain⟨ck,nx,L⟩:=s;obtain⟨c0,c1,c2,c3,c4,c5,c6,c7,z,aE⟩:=h.cells;clear h ho Qp YZ eZ hkM MP;unfold aN Ev.zero az.zero at H0;dsimp only at H0
 go_in
 go_wp2_with fail;refine(EK.O _ H0.O.sd.fM).mono ?_;rintro e w1 ⟨rfl,rfl⟩;go_wp2_with fail;refine(EJ.O _).mono ?_;rintro e w2 ⟨rfl,hb⟩;have H2:=zH (H0.O.keep hb);clear hb;go_wp2_with fail;refine(HCU.O _ H2.O.sd.env.iV).mono ?_;rintro e w3 ⟨rfl,hb⟩;have H3a:=zH (H2.O.keep hb);clear hb H2 H0;go_wp2_with fail;refine(Ep.O _ H3a.O.sd.env.cq).mono ?_;rintro e w4 ⟨rfl,hb⟩;have H3:=zH (H3a.O.keep hb);clear hb H3a;have aO:=H3.O.fH;have f1:=aO.frozen;obtain⟨r0,r1,r2,r3,r4,r5,r6,r7,r8,r9,m_,rV⟩:=bL (k:=0) (i:=0) (cl:=⟨#[]⟩) (su:=⟨#[]⟩) (sc:=⟨#[]⟩) (ge:=0) (ma:=0) (us:=0) (re:=⟨#[]⟩) (de:=false) (id:=0) (ti:=0) aO;clear aO;go_wp2_with fail;exact Cw (e:=Ev.zero) (b:=false) (cH (e':=Ev.zero) H3.O.below) (dy (e':=Ev.zero) H3.O.fH) rfl rfl rfl rfl
theorem bB{B:Nat}{a w:aah}(h:Below B a w):Below B a w.drew:=⟨h.os,h.tape,h.output,h.size,h.block⟩
theorem U7{w:aah}{g:Nat}{t:TypeId}{cs:Array aai}(h:aC w g t cs):aC w.drew g t cs:=h
theorem Ny(B sb db:Nat)(D:Dk)(s:St)(v:aai)(n f x k:Int)(down:Bool)(W:aah)(h:SD B sb db D s v n f x down W)(hf:D.fits)(h0:0<=f)(h1:f<=1000000)(h2:0<=k)(h3:k<=1000000)(hk:k - f<16)(l:BL)(ho:iA bt (b_ D (k % 16).toNat)=some l)(MP:l.length<=240)(eZ:eC l=aax k)(hkM:rQ k=true):
  ach prog 55 #[.pointer (some ⟨sb,0,none⟩),.int .i64 k] W (FJ W (if kK (cQ l)then some (jM (cQ l))else none)):=by
 have H0:=zH (SE.start h);obtain⟨j,hj,YZ⟩:∃j:Nat,k.tmod 16=(j:Int)/\(k % 16).toNat=j:=⟨(k % 16).toNat,by rw[aly h2];omega,rfl⟩;have aeE:j<16:=by omega
 rw[YZ]at ho;have EK:=zH (fun w hd=>nU db D j w hd oM);have EJ:=zH (fun w=>kP (D.blk.getD j akG) w (by have:=hf j;omega));have Qp:iA bt (D.blk.getD j akG).data.toList=some l:=ho
 have EJ:Hid (∀w,ach prog 85 #[.string (D.blk.getD j akG)] w fun e w'=>e=.returned (.tuple #[.string (aq l),.bool true])/\Below w.heap.size w w'):=zH fun w=>by
  have h1:=EJ.O w;rw[Qp]at h1;refine h1.mono ?_;rintro e w' ⟨⟨x2,b2,rfl,rfl,rfl⟩,hb⟩;exact⟨rfl,hb⟩
 have HCU:=zH (Vf l oM);have Ep:=zH (fun w hT=>Br k hkM w hT)
 have hq:((aq (eC l)).toList == (bM k).toList)=true:=by
  rw[toList_txt,show(bM k).toList=aax k from by unfold bM;rw[ab3]];simpa using eZ
 have hrl:=XC l
 have UB:Hid (∀w,WB w w->bX w->ach prog 87 #[.string (aq (cQ l))] w (o4 w (jM (cQ l)) (if kK (cQ l)then 0 else 3))):=zH fun w hw he=>by
  have:=P9 (aq (cQ l)) w (by rw[cI];omega) hw he;rw[an]at this;exact this
 generalize bM k=ik at*;generalize decide (32∈l)=fb at*;generalize aq (eC l)=th at*;generalize aq (cQ l)=tr at*;generalize jM (cQ l)=ev at*;generalize kK (cQ l)=rb at*;generalize aq l=tl at*;generalize D.blk.getD j akG=blk at*;obtain⟨ck,nx,L⟩:=s;obtain⟨c0,c1,c2,c3,c4,c5,c6,c7,z,aE⟩:=h.cells;clear h ho Qp YZ eZ hkM MP hrl;unfold aN Ev.zero az.zero at H0;dsimp only at H0;rcases rb with _|_
 all_goals
  simp only[Bool.false_eq_true,if_false,if_true]at UB
  go_in
  go_wp2_with fail;refine(EK.O _ H0.O.sd.fM).mono ?_;rintro e w1 ⟨rfl,rfl⟩;go_wp2_with fail;refine(EJ.O _).mono ?_;rintro e w2 ⟨rfl,hb⟩;have H2:=zH (H0.O.keep hb);clear hb;go_wp2_with fail;refine(HCU.O _ H2.O.sd.env.iV).mono ?_;rintro e w3 ⟨rfl,hb⟩;have H3a:=zH (H2.O.keep hb);clear hb H2 H0;go_wp2_with fail;refine(Ep.O _ H3a.O.sd.env.cq).mono ?_;rintro e w4 ⟨rfl,hb⟩;have H3:=zH (H3a.O.keep hb);clear hb H3a;go_wp2_with fail;refine(UB.O _ H3.O.sd.env.wb H3.O.sd.env.iE).mono ?_;rintro e w5 ⟨rfl,hb⟩;have H4:=zH (H3.O.keep hb);clear hb H3 c0 c1 c2 c3 c4 c5 c6 c7 z aE;obtain⟨kd,⟨i,cl,su,sc,ge,ma,us,re,de⟩,id,ti⟩:=ev;unfold bH aN;dsimp only
  first
   |rw[show cJ 3=.iface 30 (.int .i64 3)from rfl]
   |rw[show cJ 0=.nilIface from rfl]
  have HN:=zH (aC.new w5 115 (aN ⟨kd,⟨i,cl,su,sc,ge,ma,us,re,de⟩,id,ti⟩));have HK:=zH (H4.O.keep (bR.alloc nR (.cells (aN ⟨kd,⟨i,cl,su,sc,ge,ma,us,re,de⟩,id,ti⟩) 115)));have aO:=H4.O.fH;have f1:=aO.frozen;have f2:=aO.lt;obtain⟨r0,r1,r2,r3,r4,r5,r6,r7,r8,r9,m_,rV⟩:=bL (k:=0) (i:=0) (cl:=⟨#[]⟩) (su:=⟨#[]⟩) (sc:=⟨#[]⟩) (ge:=0) (ma:=0) (us:=0) (re:=⟨#[]⟩) (de:=false) (id:=0) (ti:=0) aO;clear aO;have f3:=HK.O.fH.frozen;unfold aN at f3;dsimp only at f3;go_wp2_with fail
  go_region
  go_wp2_with fail;have eu:=cH (e':=⟨kd,⟨i,cl,su,sc,ge,ma,us,re,de⟩,id,ti⟩) H4.O.below;have ju:=bB (eu.alloc eu.size (.cells #[.int .i64 kd,.int .i64 i,.string cl,.string su,.string sc,.int .i64 ge,.int .i64 ma,.int .i64 us,.string re,.bool de,.int .i64 id,.int .i64 ti] 115));have jT:=dy (e':=⟨kd,⟨i,cl,su,sc,ge,ma,us,re,de⟩,id,ti⟩) H4.O.fH;have vo:=U7 (jT.alloc (.cells #[.int .i64 kd,.int .i64 i,.string cl,.string su,.string sc,.int .i64 ge,.int .i64 ma,.int .i64 us,.string re,.bool de,.int .i64 id,.int .i64 ti] 115))
  first
   |exact Cw (o:=none) (b:=false) ju vo rfl rfl rfl rfl
   |exact Cw (b:=true) ju vo ⟨rfl,rfl⟩ rfl rfl rfl
theorem GA{s x:BL}(h:iA bt s=some x):x.length<=s.length:=by
 unfold iA at h;split at h
 ·rename_i y t hc
  split at h
  ·obtain rfl:=ahK h
   unfold rG at hc;split at hc
   ·obtain⟨rfl,_⟩:=Prod.mk.inj (ahK hc)
    rw[List.length_take];omega
   ·cases hc
  ·cases h
 ·cases h
theorem Mh(B sb db:Nat)(D:Dk)(s:St)(v:aai)(n f x k:Int)(down:Bool)(W:aah)(h:SD B sb db D s v n f x down W)(hf:D.fits)(h0:0<=f)(h1:f<=1000000)(h2:0<=k)(h3:k<=1000000):
  ach prog 55 #[.pointer (some ⟨sb,0,none⟩),.int .i64 k] W (FJ W (wJ bt (b_ D) f k)):=by
 have hkM:rQ k=true:=cK.2 oM;unfold wJ
 by_cases hk:k - f>=16
 ·rw[if_pos hk]
  exact RD B sb db D s v n f x k down W h h0 h1 h2 h3 hk
 ·rw[if_neg hk]
  unfold rW;rcases ho:iA bt (b_ D (k % 16).toNat)with _|l
  ·exact Nx B sb db D s v n f x k down W h hf h0 h1 h2 h3 oM ho
  ·have hl:=GA ho
   (have hb:=wD hf (k % 16).toNat;dsimp only);by_cases hh:eC l=aax k
   ·rw[if_pos hh]
    exact Ny B sb db D s v n f x k down W h hf h0 h1 h2 h3 oM l ho oM hh hkM
   ·rw[if_neg hh]
    exact Kl B sb db D s v n f x k down W h hf h0 h1 h2 h3 oM l ho oM hh hkM
end Go.Proofs.YtjligkmjlenofaaGreatDoor
