/- Part of the proof. -/
import Derived.Test.YtjligkmjlenofaaGreatDoorV09
import Derived.Lib.QuoteLoop
import Derived.Lib.RuneCountTail
set_option maxHeartbeats 8000000
set_option maxRecDepth 100000
open ByteArray renaming size_append->akI,size_extract->alM
open Go.Utf8 renaming decode->alJ
open Go.Lib renaming decodeN->alL,spansFromP->alN,spansFromP_end->alP,decode_at->alQ,closeSpans->alU,itoa->aax,goFieldsP->akK
open Go.ByteArray renaming toList_eq->ab3
open Go renaming World->aah,Calls->ach
open List renaming length_drop->ag_,length_map->ads,length_take->ag',length_nil->ajE,drop_drop->alW,map_map->alX
open Option renaming getD_none->alO,getD_some->alV
open Nat renaming add_zero->ake
namespace Go.Proofs.YtjligkmjlenofaaGreatDoor
open Go.Proofs.Tryz
open Go.RowKit Go.Sort
variable{x:Int}
def hU(x:Int):Prop:= -9223372036854775808<=x/\x<=9223372036854775807
theorem Lj(x:Int):hU (wrap64 x):=by
 unfold hU wrap64;omega
theorem uz(h:bZ x=true):hU x:=by
 have h:0<=x/\x<=1099511627776:=by simpa[bZ]using h
 exact⟨by omega,by omega⟩
theorem fU{L:List Int}(h4:L.length<=4)(hn:∀x∈L,hU x):(gb L).size<=100:=by
 have hg:=tY 32 21 (L.map aax) (by
  intro x hx;obtain⟨y,hy,rfl⟩:=List.mem_map.1 hx;exact Lib.itoa_length_le y (hn y hy).1 (hn y hy).2)
 rw[ads]at hg;unfold gb;rw[aK];omega
theorem TD.afe{W w:aah}{g:Nat}{L:List Int}{O:Value}(h:TD W g L L.length O w)(hL:L≠ [])(h4:L.length<=4)(hn:∀x∈L,hU x):
  ach prog 104 #[O,.string ⟨#[32]⟩] w fun e w'=>e=.returned (.string (gb L))/\Below w.heap.size w w':=by
 have hr:=h.row;rw[List.take_length]at hr
 have vo:w.ownsRow W.heap.size 9 1 O (L.map aax).length ((L.map aax).map encStr):=by
  rw[alX,ads];exact hr
 have hg:=fU h4 hn;unfold gb at hg;rw[aK]at hg;exact xZ 32 (uF vo (by simpa using hL)) (by rw[ads];omega) oM
theorem vf(g:Nat)(L:List Int)(W:aah)(h:WB W W)(hi:bD W g L)(hL:L≠ [])(h4:L.length<=4)(hn:∀x∈L,hU x):
  ach prog 102 #[.slice (some ⟨g,0,none⟩) L.length L.length] W fun e w'=>e=.returned (.string (gb L))/\Below W.heap.size W w':=by
 obtain⟨i0,RV,sQ,vp,mY⟩:=info_parts Jd;have H0:=zH h;have HI:=zH hi;have HN:=zH hn;have HL:=zH hL;clear h hi hn hL
 go_in
 go_wp2
 go_loopw [3,8] (fun O i wr=>Zx W g L O i wr) (fun _ i _=>L.length - (intOf i).toNat)
 case atStart=>exact⟨0,Nat.zero_le _,rfl,TD.start H0.O HI.O⟩
 case round=>
  obtain⟨k,hk,rfl,ht⟩:=hrel;have HT:=zH ht;clear ht
  by_cases aE:k<L.length
  ·have hc:=HT.O.ints k aE
   have fR:hU (L.getD k 0):=HN.O _ (by rw[List.getD_eq_getElem?_getD,List.getElem?_eq_getElem aE];exact List.getElem_mem aE);have HX:=zH (show encStr (aax (L.getD k 0))=.string (bM (L.getD k 0))from rfl);generalize hx:L.getD k 0=x at*;have HXX:=zH hx;have Ep:=zH (fun w hT=>ow x fR.1 fR.2 w hT);clear hx fR;generalize bM x=y at*;go_wp2_with fail;refine(Ep.O _ HT.O.wb.cq).mono ?_;rintro e w1 ⟨rfl,hb⟩;have EL:=zH (HT.O.call hb);have kF:=EL.O.row;have oU:=EL.O.wb.below.size;clear hb hc
   go_wp2_with
    (at_builtin;refine wpList_append_own _ rfl _ _ 22 rfl W.heap.size 9 i0 (.string ByteArray.empty) 1 16 underlying22 RV sQ vp mY rfl dC _ _ _ rfl (kF.alloc _) ⟨w1.heap.size,0,none⟩ 1 1 [.string y] rfl rfl (cell_one_new _ _ _) (fun x hx=>by simp at hx;subst hx;rfl) mL oM sO ?_;intro v' w3 eE cZ mB
     have HO:=zH eE;have HG:=zH cZ;clear eE cZ mB kF)
   go_roundw;(case rel=>exact⟨k+1,by omega,by go_num,TD.next H0.O HI.O EL.O aE (by rw[HXX.O];exact HX.O.symm) HO.O HG.O⟩);case measure=>simp[intOf];omega
  ·have hke:k=L.length:=by omega
   subst hke;have HJ:=zH (HT.O.afe HL.O h4 HN.O);go_wp2_with fail;refine HJ.O.mono ?_;rintro e w1 ⟨rfl,hb⟩;have HB:=zH (HT.O.wb.keep hb);clear hb;go_wp2_with fail;go_ret;exact⟨rfl,HB.O.below⟩
def Kh(c:Int):List PanicEntry:=[{v:=.iface 92 (.agg #[.int .i64 c]),recovered:=false}]
theorem cE(w:aah):ach prog 38 #[.nilIface] w fun e w'=>e=.returned (.tuple #[])/\w=w':=by
 go_in
 go_wp2_with fail
 go_end0
 exact⟨rfl,rfl⟩
def dF(c:Int)(w:aah)(e:Ending)(w':aah):Prop:=e=.panicked (Kh c)/\Below w.heap.size w w'
theorem dY(c:Int)(w:aah)(hg:ey w):ach prog 38 #[.iface 30 (.int .i64 c)] w (dF c w):=by
 go_in
 go_wp2_with (go_at_call 57;refine(abW c _ hg).mono ?_;rintro e w' ⟨rfl,hb⟩);exact⟨rfl,rfl,hb⟩
theorem bu(a:Option Addr)(n c:Nat)(w:aah):ach prog 35 #[.slice a n c,.int .i64 n] w fun e w'=>e=.returned (.tuple #[])/\w=w':=by
 have hd:((n:Int) != (n:Int))=false:=by simp
 go_in
 go_wp2_with fail
 go_end0
 exact⟨rfl,rfl⟩
theorem dS(a:Option Addr)(n c:Nat)(m:Int)(w:aah)(hg:ey w)(hn:(n:Int)≠m):ach prog 35 #[.slice a n c,.int .i64 m] w (dF 3 w):=by
 have hd:((n:Int) != m)=true:=by simpa using hn
 have HM:=zH (fun w h=>dY 3 w h);unfold dF at HM;have HG:=zH hg;clear hg hn
 go_in
 go_wp2_with fail;refine(HM.O _ HG.O).mono ?_;rintro e w' ⟨rfl,hb⟩;dsimp only
 trace_state
 exact⟨rfl,rfl,hb⟩
theorem Lh{l:BL}(h:jc l=true):aZ l=((bM (aa l)).toList == l):=by
 unfold aZ;rw[h,zx,Bool.true_and,Bool.eq_iff_iff];simp
theorem iI(s:ByteArray)(W:aah)(hs:s.size<=1000000)(hT:eN W)(hn:aZ s.data.toList=true):
  ach prog 36 #[.string s] W fun e w'=>e=.returned (.int .i64 (aa s.data.toList))/\Below W.heap.size W w':=by
 have hb:=nG s.data.toList
 have hE:jc s.data.toList=true:=by
  unfold aZ at hn;rw[Bool.and_eq_true]at hn;exact hn.1
 have hq:((bM (aa s.data.toList)).toList == s.toList)=true:=by
  rw[Lh hE]at hn;rw[ab3 (bs:=s)];exact hn
 have hq2:(!((bM (aa s.data.toList)).toList == s.toList))=false:=by rw[hq];rfl
 have HA:=zH (tP s W hs hE);have HI:=zH (fun w=>ow (aa s.data.toList) hb.1 hb.2 w);have HT:=zH hT;have lt:=hT.lt;clear hE hT hn hb;generalize aa s.data.toList=n at*;generalize bM n=y at*
 go_in
 go_wp2_with
  (first
  |(go_at_call 53;refine HA.O.mono ?_;rintro e w1 ⟨rfl,eu⟩
    have HB:=zH eu;clear eu)
  |(go_at_call 44;refine(HI.O _ (HT.O.below HB.O lt)).mono ?_;rintro e w2 ⟨rfl,ju⟩
    have gS:=zH (below_2 HB.O ju);clear ju))
 go_ret;exact⟨rfl,gS.O⟩
theorem j6(s:ByteArray)(W:aah)(hs:s.size<=1000000)(hT:eN W)(hv:bX W)(hg:ey W)(aE:0<W.heap.size)(hn:aZ s.data.toList=false):
  ach prog 36 #[.string s] W (dF 3 W):=by
 have hb:=nG s.data.toList;have HM:=zH (fun w h=>dY 3 w h);unfold dF at HM;have HG:=zH hg;have HT:=zH hT;have lt:=hT.lt;cases hE:jc s.data.toList
 ·have HA:=zH (Bj s W hs hv hE)
  clear hE hT hv hn hg hb;generalize aa s.data.toList=n at*
  go_in
  go_wp2_with fail;refine HA.O.mono ?_;rintro e w1 ⟨⟨te,pe,rfl⟩,eu⟩;have HB:=zH eu;clear eu;go_wp2_with fail;refine(HM.O _ (HG.O.below HB.O aE)).mono ?_;rintro e w' ⟨rfl,hb⟩;dsimp only;exact⟨rfl,rfl,below_2 HB.O hb⟩
 ·have hq:((bM (aa s.data.toList)).toList == s.toList)=false:=by
   rw[Lh hE]at hn;rw[ab3 (bs:=s)];exact hn
  have hq2:(!((bM (aa s.data.toList)).toList == s.toList))=true:=by rw[hq];rfl
  have HA:=zH (tP s W hs hE);have HI:=zH (fun w=>ow (aa s.data.toList) hb.1 hb.2 w);clear hE hT hv hn hg hb;generalize aa s.data.toList=n at*;generalize bM n=y at*
  go_in
  go_wp2_with
   (first
   |(go_at_call 53;refine HA.O.mono ?_;rintro e w1 ⟨rfl,eu⟩
     have HB:=zH eu;clear eu)
   |(go_at_call 44;refine(HI.O _ (HT.O.below HB.O lt)).mono ?_;rintro e w2 ⟨rfl,ju⟩
     have gS:=zH (below_2 HB.O ju);clear ju))
  refine(HM.O _ (HG.O.below gS.O aE)).mono ?_;rintro e w' ⟨rfl,hb⟩;dsimp only;exact⟨rfl,rfl,below_2 gS.O hb⟩
theorem FZ(s:ByteArray)(w:aah):ach prog 109 #[.string s] w fun e w'=>e=.returned (.string (jR s))/\w=w':=by
 cases h:s.toList.isEmpty
 ·have H:=zH (show jR s=s by rw[oo,decide_eq_false_iff_not]at h;unfold jR;rw[if_neg h])
  go_in
  go_wp2_with fail;go_ret;exact⟨by rw[H.O];rfl,rfl⟩
 ·have H:=zH (show jR s=⟨#[95]⟩ by rw[oo,decide_eq_true_eq]at h;unfold jR;rw[if_pos h])
  go_in
  go_wp2_with fail;go_ret;exact⟨by rw[H.O];rfl,rfl⟩
theorem wH(s:ByteArray)(w:aah):ach prog 106 #[.string s] w fun e w'=>e=.returned (.string (ef s))/\w=w':=by
 cases h:(s.toList == [95])
 ·have H:=zH (show ef s=s by unfold ef;rw[if_neg];intro e;rw[ab3,e]at h;cases h)
  go_in
  go_wp2_with fail;go_ret;exact⟨by rw[H.O];rfl,rfl⟩
 ·have H:=zH (show ef s=⟨#[]⟩ by unfold ef;rw[ab3]at h;rw[if_pos (by simpa using h)];rfl)
  go_in
  go_wp2_with fail;go_ret;exact⟨by rw[H.O];rfl,rfl⟩
theorem Lg:hU Og.writes:=⟨by decide,by decide⟩
theorem IY:∀(n:Nat) (z:SS),hU z.writes->hU (uG n z).1.writes
 |0,_,h=>h
 |n+1,z,h=>by
  unfold uG;split
  ·exact h
  ·exact IY n (E_ z) (Lj _)
theorem zO{z:SS}(h:hU z.writes):hU (iL z).1.writes:=by
 unfold iL;split
 ·exact h
 ·split
  ·exact IY _ _ h
  ·exact IY _ _ h
theorem KY{z:SS}(h:hU z.writes)(s:St):hU (vW z s).1.writes:=by
 unfold vW;split
 ·exact h
 ·exact Lj _
theorem PT{z:SS}(h:hU z.writes)(e:Ev):hU (cO z e).1.writes:=by
 unfold cO;split
 ·exact h
 ·split
  ·exact h
  ·split
   ·exact h
   ·split
    ·split
     (·exact KY (zO h) _);(·exact zO h)
    ·exact KY h _
theorem uD{α:Type}{z:SS}(h:hU z.writes)(a:α)(p:xC α):hU (bp a z p).1.writes:=by
 cases p with
 |jY _ _=>exact h
 |put ev _ _=>
  show hU (if (cO z ev).2=0 then _ else _:SS×α×Int).1.writes
  split
  ·exact PT h ev
  ·exact PT h ev
theorem ZP{d:DS}(h:hU d.z.writes)(L:List BL):hU (AZ d L).1.z.writes:=by
 unfold AZ;split
 ·split
  ·exact h
  ·exact h
 ·exact h
theorem Iu{d:DS}(h:hU d.z.writes)(L:List BL):hU (gv d L).1.z.writes:=by
 unfold gv;split
 ·exact h
 ·exact h
theorem RM{d:DS}(h:hU d.z.writes)(L:List BL):hU (ov d L).1.z.writes:=by
 unfold ov;split
 ·exact uD h _ _
 ·exact h
theorem VW{d:DS}(h:hU d.z.writes)(L:List BL):hU (uf d L).1.z.writes:=by
 unfold uf;split
 ·exact h
 ·exact h
theorem Wz{d:DS}(h:hU d.z.writes)(L:List BL):hU (sS d L).1.z.writes:=by
 unfold sS;split
 ·split
  ·exact uD h _ _
  ·exact h
 ·exact h
theorem Sg{d:DS}(h:hU d.z.writes)(L:List BL):hU (oz d L).1.z.writes:=by
 unfold oz;split
 ·exact h
 ·exact h
theorem aaU{d:DS}(h:hU d.z.writes)(L:List BL):hU (CX d L).1.z.writes:=by
 unfold CX;split
 ·exact h
 ·exact h
theorem WS{d:DS}(h:hU d.z.writes)(L:List BL):hU (ur d L).1.z.writes:=by
 unfold ur;split
 ·exact h
 ·exact h
theorem aaZ{d:DS}(h:hU d.z.writes)(L:List BL):hU (A8 d L).1.z.writes:=by
 unfold A8;split
 ·split
  ·split
   ·exact Lg
   ·exact h
  ·exact h
 ·exact h
theorem Xk{d:DS}(h:hU d.z.writes)(L:List BL):hU (uA d L).1.z.writes:=by
 unfold uA;split
 ·exact h
 ·exact h
theorem OA{d:DS}(h:hU d.z.writes)(L:List BL):hU (kL d L).1.z.writes:=by
 unfold kL;split
 ·exact uD h _ _
 ·exact h
theorem XG{d:DS}(h:hU d.z.writes)(L:List BL):hU (uH d L).1.z.writes:=by
 unfold uH;split
 ·exact zO h
 ·exact h
theorem XP{d:DS}(h:hU d.z.writes)(L:List BL):hU (uJ d L).1.z.writes:=by
 unfold uJ;split
 ·exact h
 ·exact h
theorem Tx{d:DS}(h:hU d.z.writes)(L:List BL):hU (oK d L).1.z.writes:=by
 unfold oK;split
 ·exact uD h _ _
 ·exact h
theorem abV{d:DS}(h:hU d.z.writes)(L:List BL):hU (Eb d L).1.z.writes:=by
 unfold Eb;split
 ·split
  ·exact h
  ·exact h
 ·exact h
theorem Yz{d:DS}(h:hU d.z.writes)(L:List BL):hU (ri d L).1.z.writes:=by
 unfold ri;split
 ·split
  ·exact uD h _ _
  ·exact h
 ·exact h
theorem TS{d:DS}(h:hU d.z.writes)(L:List BL):hU (oN d L).1.z.writes:=by
 unfold oN;split
 ·split
  ·split
   ·exact h
   ·exact h
  ·exact h
 ·exact h
theorem Pr{d:DS}(h:hU d.z.writes)(L:List BL):hU (kU d L).1.z.writes:=by
 unfold kU;split
 ·exact h
 ·exact h
theorem Vp{d:DS}(h:hU d.z.writes)(n:BL)(L:List BL):hU (eU d n L).1.z.writes:=by
 unfold eU
 by_cases o_:n=wG
 ·rw[if_pos o_];exact ZP h L
 rw[if_neg o_]
 by_cases dH:n=g_
 ·rw[if_pos dH];exact Iu h L
 rw[if_neg dH]
 by_cases iu:n=pW
 ·rw[if_pos iu];exact RM h L
 rw[if_neg iu]
 by_cases j8:n=vT
 ·rw[if_pos j8];exact VW h L
 rw[if_neg j8]
 by_cases j9:n=qH
 ·rw[if_pos j9];exact Wz h L
 rw[if_neg j9]
 by_cases iw:n=qa
 ·rw[if_pos iw];exact Sg h L
 rw[if_neg iw]
 by_cases pg:n=E7
 ·rw[if_pos pg];exact aaU h L
 rw[if_neg pg]
 by_cases j_:n=vX
 ·rw[if_pos j_];exact WS h L
 rw[if_neg j_]
 by_cases t_:n=uu
 ·rw[if_pos t_];exact aaZ h L
 rw[if_neg t_]
 by_cases kg:n=oD
 ·rw[if_pos kg];exact Xk h L
 rw[if_neg kg]
 by_cases fN:n=lY
 ·rw[if_pos fN];exact OA h L
 rw[if_neg fN]
 by_cases ki:n=qR
 ·rw[if_pos ki];exact XG h L
 rw[if_neg ki]
 by_cases ku:n=we
 ·rw[if_pos ku];exact XP h L
 rw[if_neg ku]
 by_cases iy:n=ql
 ·rw[if_pos iy];exact Tx h L
 rw[if_neg iy]
 by_cases ud:n=wj
 ·rw[if_pos ud];exact abV h L
 rw[if_neg ud]
 by_cases kC:n=wm
 ·rw[if_pos kC];exact Yz h L
 rw[if_neg kC]
 by_cases iz:n=qo
 ·rw[if_pos iz];exact TS h L
 rw[if_neg iz]
 by_cases fO:n=mg
 ·rw[if_pos fO];exact Pr h L
 rw[if_neg fO];exact h
theorem WG{d:DS}(h:hU d.z.writes)(l:BL):hU (eW d l).1.z.writes:=by
 unfold eW;split
 ·exact h
 ·exact Vp h _ _
def sm(x:Int):Prop:=0<=x/\x<=20
theorem sm.ok(h:sm x):hU x:=⟨by have:=h.1;omega,by have:=h.2;omega⟩
theorem s_0:sm 0:=⟨by decide,by decide⟩
theorem s_1:sm 1:=⟨by decide,by decide⟩
theorem s_2:sm 2:=⟨by decide,by decide⟩
theorem s_3:sm 3:=⟨by decide,by decide⟩
theorem s_4:sm 4:=⟨by decide,by decide⟩
theorem s_5:sm 5:=⟨by decide,by decide⟩
theorem s_6:sm 6:=⟨by decide,by decide⟩
theorem s_7:sm 7:=⟨by decide,by decide⟩
theorem s_8:sm 8:=⟨by decide,by decide⟩
theorem s_9:sm 9:=⟨by decide,by decide⟩
theorem aoW:sm 10:=⟨by decide,by decide⟩
theorem aoX:sm 11:=⟨by decide,by decide⟩
theorem aoY:sm 12:=⟨by decide,by decide⟩
theorem aoZ:sm 13:=⟨by decide,by decide⟩
theorem ao0:sm 14:=⟨by decide,by decide⟩
theorem ao1:sm 15:=⟨by decide,by decide⟩
theorem s_k(h:sm x:=by first|exact s_0|exact s_1|exact s_2|exact s_3|exact s_4|exact s_5|exact s_6|exact s_7|exact s_8|exact s_9|exact aoW|exact aoX|exact aoY|exact aoZ|exact ao0|exact ao1):sm x:=h
theorem LZ(s:BL):sm (aQ s):=by
 rcases IZ s with h|h|h<;>rw[h]<;>exact s_k
theorem s_c(h:sm x:=by first|assumption|exact s_k|exact LZ _):sm x:=h
theorem QV(z:SS):sm (iL z).2:=by
 unfold iL
 (repeat' split)<;>exact s_c
theorem QU(z:SS)(s:St):sm (vW z s).2:=by
 unfold vW
 (repeat' split)<;>exact s_c
theorem afQ(z:SS)(e:Ev):sm (cO z e).2:=by
 have h1:=QV z;have h2:=QU z (av z.s e);have h3:=QU (iL z).1 (av z.s e);unfold cO
 (repeat' split)<;>exact s_c
def GK{α:Type}:xC α->Int
 | .jY _ e=>e
 | .put _ _ e=>e
theorem yy{α:Type}(a:α)(z:SS)(p:xC α)(h:sm (GK p)):sm (bp a z p).2.2:=by
 cases p with
 |jY _ e=>exact h
 |put ev b e=>
  show sm (if (cO z ev).2=0 then((cO z ev).1,b,e)else((cO z ev).1,a,(cO z ev).2):SS×α×Int).2.2
  split
  ·exact h
  ·exact afQ z ev
theorem afR(r:Ru)(t:ByteArray):sm (cv r t).1:=by
 unfold cv tD
 (repeat' split)<;>exact s_c
theorem I2(r:Ru)(s:St)(t:ByteArray)(k:Int):sm (kG r s t k).e:=by
 have h1:=afR r t;unfold kG
 (repeat' split)<;>exact s_c
theorem abB(s:St)(id:Int):sm (GK (py s id)):=by
 unfold py
 (repeat' split)<;>exact s_k
theorem abE(s:St)(n:Int):sm (GK (pN s n)):=by
 unfold pN
 (repeat' split)<;>exact s_k
theorem XT(r:Ru)(s:St):sm (GK (fD r s)):=by
 unfold fD
 (repeat' split)<;>exact s_k
theorem XS(r:Ru)(s:St)(a b c:ByteArray):sm (GK (fA r s a b c)):=by
 unfold fA
 (repeat' split)<;>exact s_c
theorem Ta(r:Ru)(s:St)(a b c:ByteArray):sm (GK (iW r s a b c)):=by
 have h:=I2 r s a 1;unfold iW;split
 ·exact s_k
 ·generalize kG r s a 1=l at*
  unfold rotateL
  (repeat' split)<;>exact s_c
theorem abC(r:Ru)(s:St)(t:ByteArray):sm (vY r s t).2:=by
 have h:=I2 r s t 1;unfold vY;generalize kG r s t 1=l at*;unfold QA
 (repeat' split)<;>exact s_c
theorem abD(r:Ru)(s:St)(t:ByteArray):sm (qT r s t).2:=by
 have h:=I2 r s t 2;unfold qT;generalize kG r s t 2=l at*;unfold QR
 (repeat' split)<;>exact s_c
theorem JA(h:sm x:=by first|exact s_k|exact QV _|exact LZ _|exact abC _ _ _|exact abD _ _ _|exact yy _ _ _ (XS _ _ _ _ _)|exact yy _ _ _ (Ta _ _ _ _ _)|exact yy _ _ _ (abB _ _)|exact yy _ _ _ (abE _ _)|exact yy _ _ _ (XT _ _)):sm x:=h
theorem adQ(d:DS)(L:List BL):sm (AZ d L).2.2:=by
 unfold AZ
 (repeat' split)<;>exact JA
theorem Kq(d:DS)(L:List BL):sm (gv d L).2.2:=by
 unfold gv
 (repeat' split)<;>exact JA
theorem VJ(d:DS)(L:List BL):sm (ov d L).2.2:=by
 unfold ov
 (repeat' split)<;>exact JA
theorem aaq(d:DS)(L:List BL):sm (uf d L).2.2:=by
 unfold uf
 (repeat' split)<;>exact JA
theorem aaO(d:DS)(L:List BL):sm (sS d L).2.2:=by
 unfold sS
 (repeat' split)<;>exact JA
theorem WE(d:DS)(L:List BL):sm (oz d L).2.2:=by
 unfold oz
 (repeat' split)<;>exact JA
theorem afn(d:DS)(L:List BL):sm (CX d L).2.2:=by
 unfold CX
 (repeat' split)<;>exact JA
theorem aaX(d:DS)(L:List BL):sm (ur d L).2.2:=by
 unfold ur
 (repeat' split)<;>exact JA
theorem afr(d:DS)(L:List BL):sm (A8 d L).2.2:=by
 unfold A8
 (repeat' split)<;>exact JA
theorem abi(d:DS)(L:List BL):sm (uA d L).2.2:=by
 unfold uA
 (repeat' split)<;>exact JA
theorem SZ(d:DS)(L:List BL):sm (kL d L).2.2:=by
 unfold kL
 (repeat' split)<;>exact JA
theorem abx(d:DS)(L:List BL):sm (uH d L).2.2:=by
 unfold uH
 (repeat' split)<;>exact JA
theorem abA(d:DS)(L:List BL):sm (uJ d L).2.2:=by
 unfold uJ
 (repeat' split)<;>exact JA
theorem Yj(d:DS)(L:List BL):sm (oK d L).2.2:=by
 unfold oK
 (repeat' split)<;>exact JA
theorem af3(d:DS)(L:List BL):sm (Eb d L).2.2:=by
 unfold Eb
 (repeat' split)<;>exact JA
theorem abX(d:DS)(L:List BL):sm (ri d L).2.2:=by
 unfold ri
 (repeat' split)<;>exact JA
theorem YA(d:DS)(L:List BL):sm (oN d L).2.2:=by
 unfold oN
 (repeat' split)<;>exact JA
theorem T7(d:DS)(L:List BL):sm (kU d L).2.2:=by
 unfold kU
 (repeat' split)<;>exact JA
theorem P4(d:DS)(n:BL)(L:List BL):sm (eU d n L).2.2:=by
 unfold eU
 by_cases h:n=wG
 ·rw[if_pos h];exact adQ d L
 rw[if_neg h]
 by_cases h:n=g_
 ·rw[if_pos h];exact Kq d L
 rw[if_neg h]
 by_cases h:n=pW
 ·rw[if_pos h];exact VJ d L
 rw[if_neg h]
 by_cases h:n=vT
 ·rw[if_pos h];exact aaq d L
 rw[if_neg h]
 by_cases h:n=qH
 ·rw[if_pos h];exact aaO d L
 rw[if_neg h]
 by_cases h:n=qa
 ·rw[if_pos h];exact WE d L
 rw[if_neg h]
 by_cases h:n=E7
 ·rw[if_pos h];exact afn d L
 rw[if_neg h]
 by_cases h:n=vX
 ·rw[if_pos h];exact aaX d L
 rw[if_neg h]
 by_cases h:n=uu
 ·rw[if_pos h];exact afr d L
 rw[if_neg h]
 by_cases h:n=oD
 ·rw[if_pos h];exact abi d L
 rw[if_neg h]
 by_cases h:n=lY
 ·rw[if_pos h];exact SZ d L
 rw[if_neg h]
 by_cases h:n=qR
 ·rw[if_pos h];exact abx d L
 rw[if_neg h]
 by_cases h:n=we
 ·rw[if_pos h];exact abA d L
 rw[if_neg h]
 by_cases h:n=ql
 ·rw[if_pos h];exact Yj d L
 rw[if_neg h]
 by_cases h:n=wj
 ·rw[if_pos h];exact af3 d L
 rw[if_neg h]
 by_cases h:n=wm
 ·rw[if_pos h];exact abX d L
 rw[if_neg h]
 by_cases h:n=qo
 ·rw[if_pos h];exact YA d L
 rw[if_neg h]
 by_cases h:n=mg
 ·rw[if_pos h];exact T7 d L
 rw[if_neg h];exact s_k
structure rz(f:az):Prop where
 id:hU f.id
 gen:hU f.gen
 made:hU f.made
 used:hU f.used
 cl:f.aL.size<=900
 su:f.aF.size<=900
 sc:f.scope.size<=900
 re:f.request.size<=900
theorem rz.zero:rz az.zero:=⟨⟨by decide,by decide⟩,⟨by decide,by decide⟩,⟨by decide,by decide⟩,⟨by decide,by decide⟩,by decide,by decide,by decide,by decide⟩
theorem rz.of{f:az}(h:pU f=true):rz f:=by
 obtain⟨n1,n2,n3,n4,n5,n6,n7,n8⟩:=bV h;refine⟨uz n1,uz n2,uz n3,uz n4,?_,?_,?_,?_⟩
 ·have:=ff n5;rw[size_data]at this;omega
 ·have:=ff n6;rw[size_data]at this;omega
 ·have:=se n8;rw[size_data]at this;omega
 ·have:=LJ n7;rw[size_data]at this;omega
theorem oP(b:ByteArray){n:Nat}(h:b.size<=n)(h1:1<=n):(jR b).size<=n:=by
 unfold jR;split
 ·exact h1
 ·exact h
theorem En(s:ByteArray):aq (fF s.data.toList)=jR s:=by
 unfold fF jR;split
 ·rfl
 ·exact gC s
theorem zh{f:az}(h:rz f):(tW f).size<=4000:=by
 have e1:=fU (L:=[f.id]) sP (by simpa using h.id);have e2:=fU (L:=[f.gen,f.made,f.used]) sP (by simpa using⟨h.gen,h.made,h.used⟩);have e3:=oP f.scope h.sc dC;have e4:=oP f.request h.re dC;have e5:=h.cl;have e6:=h.su;have sp:(⟨#[32]⟩:ByteArray).size=1:=rfl;have sd:(⟨#[32,100,101,97,100]⟩:ByteArray).size=5:=rfl;unfold tW VA;split
 ·simp only[akI];omega
 ·simp only[akI];omega
theorem Co(s:ByteArray)(w:aah):ach prog 109 #[.string s] w fun e w'=>e=.returned (.string (aq (fF s.data.toList)))/\w=w':=by rw[En];exact FZ s w
theorem Am(f:az)(W:aah)(hf:rz f)(h:WB W W):
  ach prog 103 #[cM f] W fun x w'=>x=.returned (.string (tW f))/\Below W.heap.size W w':=by
 obtain⟨i,cl,su,sc,ge,ma,us,re,de⟩:=f;obtain⟨n1,n2,n3,n4,z2,z3,z4,z8⟩:=hf;dsimp only at n1 n2 n3 n4 z2 z3 z4 z8;have z1:=fU (L:=[i]) sP (by simpa using n1);have z5:=fU (L:=[ge,ma,us]) sP (by simpa using⟨n2,n3,n4⟩);have z6:=oP sc z4 dC;have z7:=oP re z8 dC;have UA:=zH (fun g w hw hi=>vf g [i] w hw hi sP sP (by simpa using n1));have HI3:=zH (fun g w hw hi=>vf g [ge,ma,us] w hw hi sP sP (by simpa using⟨n2,n3,n4⟩));have HW1:=zH (fun w=>Co sc w);have HW2:=zH (fun w=>Co re w);have HF:=zH (show tW ⟨i,cl,su,sc,ge,ma,us,re,de⟩=if de then gb [i]++⟨#[32]⟩++cl++⟨#[32]⟩++su++⟨#[32]⟩++jR sc++⟨#[32]⟩++gb [ge,ma,us]++⟨#[32]⟩++jR re++⟨#[32,100,101,97,100]⟩else gb [i]++⟨#[32]⟩++cl++⟨#[32]⟩++su++⟨#[32]⟩++jR sc++⟨#[32]⟩++gb [ge,ma,us]++⟨#[32]⟩++jR re from rfl);simp only[List.length_cons,ajE,Nat.zero_add,Nat.reduceAdd]at UA HI3;rw[En sc]at HW1;rw[En re]at HW2;rw[HF.O];clear HF n1 n2 n3 n4;generalize gb [i]=one at*;generalize gb [ge,ma,us]=three at*;generalize jR sc=sw at*;generalize jR re=rw_ at*;have sp:(⟨#[32]⟩:ByteArray).size=1:=rfl;have sd:(⟨#[32,100,101,97,100]⟩:ByteArray).size=5:=rfl;have q1:=ir one ⟨#[32]⟩ (by(try simp only[akI]);omega);have q2:=ir (one++⟨#[32]⟩) cl (by(try simp only[akI]);omega);have q3:=ir (one++⟨#[32]⟩++cl) ⟨#[32]⟩ (by(try simp only[akI]);omega);have q4:=ir (one++⟨#[32]⟩++cl++⟨#[32]⟩) su (by(try simp only[akI]);omega);have q5:=ir (one++⟨#[32]⟩++cl++⟨#[32]⟩++su) ⟨#[32]⟩ (by(try simp only[akI]);omega);have q6:=ir (one++⟨#[32]⟩++cl++⟨#[32]⟩++su++⟨#[32]⟩) sw (by(try simp only[akI]);omega);have q7:=ir (one++⟨#[32]⟩++cl++⟨#[32]⟩++su++⟨#[32]⟩++sw) ⟨#[32]⟩ (by(try simp only[akI]);omega);have q8:=ir (one++⟨#[32]⟩++cl++⟨#[32]⟩++su++⟨#[32]⟩++sw++⟨#[32]⟩) three (by(try simp only[akI]);omega);have q9:=ir (one++⟨#[32]⟩++cl++⟨#[32]⟩++su++⟨#[32]⟩++sw++⟨#[32]⟩++three) ⟨#[32]⟩ (by(try simp only[akI]);omega);have Ov:=ir (one++⟨#[32]⟩++cl++⟨#[32]⟩++su++⟨#[32]⟩++sw++⟨#[32]⟩++three++⟨#[32]⟩) rw_ (by(try simp only[akI]);omega);have Ow:=ir (one++⟨#[32]⟩++cl++⟨#[32]⟩++su++⟨#[32]⟩++sw++⟨#[32]⟩++three++⟨#[32]⟩++rw_) ⟨#[32,100,101,97,100]⟩ (by(try simp only[akI]);omega);clear z1 z2 z3 z4 z5 z6 z7 z8 sp sd;unfold cM au at*;dsimp only at*;have MS:=h.alloc (.cells #[.int .i64 i,.string cl,.string su,.string sc,.int .i64 ge,.int .i64 ma,.int .i64 us,.string re,.bool de] 113);have H0:=zH h;clear h;cases de
 all_goals
  simp only[Bool.false_eq_true,if_false,if_true]
  go_in
  go_wp2_with fail
 ·obtain⟨d0,d1,d2,d3,d4,d5,d6,d7,d8⟩:=cj (aC.new W 113 (au ⟨i,cl,su,sc,ge,ma,us,re,false⟩))
  unfold au at d0 d1 d2 d3 d4 d5 d6 d7 d8;dsimp only at d0 d1 d2 d3 d4 d5 d6 d7 d8;generalize W.alloc (.cells #[.int .i64 i,.string cl,.string su,.string sc,.int .i64 ge,.int .i64 ma,.int .i64 us,.string re,.bool false] 113)=w2 at*;have NY:=MS.drew;clear MS
  go_region_held3 (fun w'=>w'.cell? ⟨W.heap.size,8,none⟩=some (.bool false)/\w'.cell? ⟨W.heap.size,0,none⟩=some (.int .i64 i)/\w'.cell? ⟨W.heap.size,1,none⟩=some (.string cl)/\w'.cell? ⟨W.heap.size,2,none⟩=some (.string su)/\w'.cell? ⟨W.heap.size,3,none⟩=some (.string sc)/\w'.cell? ⟨W.heap.size,4,none⟩=some (.int .i64 ge)/\w'.cell? ⟨W.heap.size,5,none⟩=some (.int .i64 ma)/\w'.cell? ⟨W.heap.size,6,none⟩=some (.int .i64 us)/\w'.cell? ⟨W.heap.size,7,none⟩=some (.string re)/\WB W w')
   (first
    |(refine⟨?_,?_,?_,?_,?_,?_,?_,?_,?_,NY⟩<;>go_keep)
    |assumption
    |(go_split_ands
      exact vq aS aS aS aS aS aS aS aS aS aS aS)
    |(go_split_ands
      exact vq aS aS aS aS aS aS aS aS aS aS (bR.alloc nR _)))
   (first
    |(go_at_call 102;with_reducible refine(UA.O _ _ ?_ ?_).mono ?_;(·exact WB.self (by(go_split_ands;assumption)));(·first|exact bD.YU (CO _ 3 i)|exact bD.YU ((CO _ 3 i).alloc _)|exact bD.YU (Qu _ _ 3 i));rintro e w1 ⟨rfl,eu⟩)
    |(go_at_call 102;with_reducible refine(HI3.O _ _ ?_ ?_).mono ?_;(·exact WB.self (by(go_split_ands;assumption)));(·first|exact IJ _ 3 ge ma us|exact bD.below (bD.YU (Qv _ _ 3 ge ma us)) aS|exact bD.below (bD.YU ((IJ _ 3 ge ma us).alloc _)) aS);rintro e w1 ⟨rfl,eu⟩)
    |(go_at_call 109;with_reducible refine(HW1.O _).mono ?_;rintro e w1 ⟨rfl,rfl⟩)
    |(go_at_call 109;with_reducible refine(HW2.O _).mono ?_;rintro e w1 ⟨rfl,rfl⟩))
  all_goals
   go_split_ands;go_wp2_with fail;go_ret;exact⟨rfl,WB.below aS⟩
 ·obtain⟨d0,d1,d2,d3,d4,d5,d6,d7,d8⟩:=cj (aC.new W 113 (au ⟨i,cl,su,sc,ge,ma,us,re,true⟩))
  unfold au at d0 d1 d2 d3 d4 d5 d6 d7 d8;dsimp only at d0 d1 d2 d3 d4 d5 d6 d7 d8;generalize W.alloc (.cells #[.int .i64 i,.string cl,.string su,.string sc,.int .i64 ge,.int .i64 ma,.int .i64 us,.string re,.bool true] 113)=w2 at*;have NY:=MS.drew;clear MS
  go_region_held3 (fun w'=>w'.cell? ⟨W.heap.size,8,none⟩=some (.bool true)/\w'.cell? ⟨W.heap.size,0,none⟩=some (.int .i64 i)/\w'.cell? ⟨W.heap.size,1,none⟩=some (.string cl)/\w'.cell? ⟨W.heap.size,2,none⟩=some (.string su)/\w'.cell? ⟨W.heap.size,3,none⟩=some (.string sc)/\w'.cell? ⟨W.heap.size,4,none⟩=some (.int .i64 ge)/\w'.cell? ⟨W.heap.size,5,none⟩=some (.int .i64 ma)/\w'.cell? ⟨W.heap.size,6,none⟩=some (.int .i64 us)/\w'.cell? ⟨W.heap.size,7,none⟩=some (.string re)/\WB W w')
   (first
    |(refine⟨?_,?_,?_,?_,?_,?_,?_,?_,?_,NY⟩<;>go_keep)
    |assumption
    |(go_split_ands
      exact vq aS aS aS aS aS aS aS aS aS aS aS)
    |(go_split_ands
      exact vq aS aS aS aS aS aS aS aS aS aS (bR.alloc nR _)))
   (first
    |(go_at_call 102;with_reducible refine(UA.O _ _ ?_ ?_).mono ?_;(·exact WB.self (by(go_split_ands;assumption)));(·first|exact bD.YU (CO _ 3 i)|exact bD.YU ((CO _ 3 i).alloc _)|exact bD.YU (Qu _ _ 3 i));rintro e w1 ⟨rfl,eu⟩)
    |(go_at_call 102;with_reducible refine(HI3.O _ _ ?_ ?_).mono ?_;(·exact WB.self (by(go_split_ands;assumption)));(·first|exact IJ _ 3 ge ma us|exact bD.below (bD.YU (Qv _ _ 3 ge ma us)) aS|exact bD.below (bD.YU ((IJ _ 3 ge ma us).alloc _)) aS);rintro e w1 ⟨rfl,eu⟩)
    |(go_at_call 109;with_reducible refine(HW1.O _).mono ?_;rintro e w1 ⟨rfl,rfl⟩)
    |(go_at_call 109;with_reducible refine(HW2.O _).mono ?_;rintro e w1 ⟨rfl,rfl⟩))
  all_goals
   go_split_ands;go_wp2_with fail;go_ret;exact⟨rfl,WB.below aS⟩
theorem nY(s:ByteArray):s.data.toList.length=s.size:=Array.length_toList
def j5(r:Nat):Bool:=r == 32
theorem My{x:BL}(h:(32:UInt8) ∉ x)(h0:x≠ []):nu x=[x]:=by
 unfold nu;rw[lN h];simp[h0]
theorem Mz{x:BL}(h:(32:UInt8) ∉ x)(h0:x≠ [])(b:BL):nu (x++32::b)=x::nu b:=by
 unfold nu;rw[rS h,List.filter_cons,if_pos (by simpa using h0)]
theorem Jo(b:BL):nu (32::b)=nu b:=by
 unfold nu;rw[nX,List.filter_cons,if_neg sP]
theorem vR(n b0 b1 b2 b3:Nat):(alL n b0 b1 b2 b3).1=32↔b0=32:=by
 unfold alL
 repeat' split
 all_goals (constructor<;>intro h<;>(first|omega|(simp only at h;omega)|(simp only;omega)))
theorem ET(n b0 b1 b2 b3:Nat)(_h:b0≠32):(1<(alL n b0 b1 b2 b3).2->b1≠32)/\(2<(alL n b0 b1 b2 b3).2->b2≠32)/\(3<(alL n b0 b1 b2 b3).2->b3≠32)/\(alL n b0 b1 b2 b3).2<=4:=by
 unfold alL
 repeat' split
 all_goals (refine⟨fun hh=>?_,fun hh=>?_,fun hh=>?_,?_⟩<;>(first|omega|(simp only at hh;omega)|(simp only;omega)))
theorem KA(s:ByteArray)(i:Nat)(h:i<s.size):s.get! i=s.data.toList[i]'(by rw[nY];exact h):=by
 show s.data[i]! =_
 rw[getElem!_pos s.data i h,Array.getElem_toList]
theorem TF(l:BL)(a pos k:Nat)(ha:a<=pos):(l.drop a).take (pos+k - a)=(l.drop a).take (pos - a)++(l.drop pos).take k:=by
 rw[show pos+k - a=(pos - a)+k by omega,List.take_add,alW,show a+(pos - a)=pos by omega]
theorem S3(s:ByteArray)(pos:Nat)(h:pos<s.size)(hr:(alJ s pos).1≠32):(32:UInt8) ∉ (s.data.toList.drop pos).take (alJ s pos).2:=by
 have hw:=Lib.width_le (s.extract pos s.size) (by rw[alM];omega);rw[Lib.tail_decode,ake,alM]at hw;intro hm;obtain⟨j,hj,hje⟩:=List.mem_iff_getElem.1 hm;simp only[ag',ag_]at hj;simp only[List.getElem_take,List.getElem_drop]at hje;have iS:=nY s;have hb:=vR (s.size - pos) (s.get! pos).toNat (s.get! (pos+1)).toNat (s.get! (pos+2)).toNat (s.get! (pos+3)).toNat;rw[<-alQ]at hb;have h0:(s.get! pos).toNat≠32:=fun e=>hr (hb.2 e)
 obtain⟨c1,c2,c3,c4⟩:=ET (s.size - pos) (s.get! pos).toNat (s.get! (pos+1)).toNat (s.get! (pos+2)).toNat (s.get! (pos+3)).toNat h0;rw[<-alQ]at c1 c2 c3 c4;have hg:(s.get! (pos+j)).toNat=32:=by rw[KA s (pos+j) oM,hje];rfl
 rcases j with _|_|_|_|j
 ·exact h0 hg
 ·exact c1 oM hg
 ·exact c2 oM hg
 ·exact c3 oM hg
 ·omega
def pieces(s:ByteArray)(x:List (Nat×Nat)):List BL:=x.map fun y=>(s.extract y.1 y.2).data.toList
theorem Dc(s:ByteArray)(a b:List (Nat×Nat)):pieces s (a++b)=pieces s a++pieces s b:=List.map_append
theorem xN(s:ByteArray)(a b:Nat):(s.extract a b).data.toList=(s.data.toList.drop a).take (b - a):=by
 rw[ByteArray.data_extract];simp[Array.toList_extract,List.extract_eq_take_drop]
theorem OJ(s:ByteArray)(f pos:Nat)(st:Option Nat)(acc:List (Nat×Nat))(aE:pos<s.size):alN j5 s (f+1) pos st acc=(if j5 (alJ s pos).1 then(match st with|some a=>alN j5 s f (pos+(alJ s pos).2) none (acc++[(a,pos)])|none=>alN j5 s f (pos+(alJ s pos).2) none acc)else(match st with|some a=>alN j5 s f (pos+(alJ s pos).2) (some a) acc|none=>alN j5 s f (pos+(alJ s pos).2) (some pos) acc)):=by
 rw[Lib.spansFromP.eq_def];exact if_pos aE
theorem L4(s:ByteArray):∀(f pos:Nat) (st:Option Nat) (acc:List (Nat×Nat)),s.size - pos<=f->pos<=s.size->(∀a,st=some a->a<pos/\(32:UInt8) ∉ (s.data.toList.drop a).take (pos - a))->
  pieces s (alU s (alN j5 s f pos st acc))=pieces s acc++nu (s.data.toList.drop (st.getD pos)):=by
 intro f
 induction f with
 |zero=>
  intro pos st acc hf hp gX;have iS:=nY s;rw[alP _ _ _ _ _ _ oM];have Ur:pos=s.size:=by omega
  cases st with
  |none=>rw[alO,Ur,List.drop_of_length_le oM];simp[alU,nu,parts]
  |some a=>
   obtain⟨h1,h2⟩:=gX a rfl;rw[alV];have e:(s.data.toList.drop a).take (pos - a)=s.data.toList.drop a:=List.take_of_length_le (by rw[ag_];omega);rw[e]at h2;rw[My h2 (by intro h;have:=congrArg List.length h;rw[ag_]at this;simp at this;omega)];simp only[alU];rw[Dc];unfold pieces;rw[List.map_singleton,xN,<-Ur,e]
 |succ f ih=>
  intro pos st acc hf hp gX;have iS:=nY s
  by_cases aE:pos<s.size
  ·have hw:=Lib.width_le (s.extract pos s.size) (by rw[alM];omega)
   (rw[Lib.tail_decode,ake,alM]at hw;have KS:=Lib.decode_width_pos s pos aE;have VU:s.data.toList.drop pos=s.data.toList[pos]'oM::s.data.toList.drop (pos+1):=List.drop_eq_getElem_cons oM;rw[OJ s f pos st acc aE]);by_cases hb:(alJ s pos).1=32
   ·have zu:=vR (s.size - pos) (s.get! pos).toNat (s.get! (pos+1)).toNat (s.get! (pos+2)).toNat (s.get! (pos+3)).toNat
    rw[<-alQ]at zu;have h0:=zu.1 hb
    have V2:(alJ s pos).2=1:=by
     rw[alQ,h0];unfold alL;rw[if_pos oM]
    have hg:s.data.toList[pos]'oM=32:=by
     rw[KA s pos aE]at h0;exact UInt8.toNat_inj.1 (by rw[h0];rfl)
    rw[hg]at VU;rw[if_pos (by rw[hb];rfl),V2];cases st with
    |none=>
     dsimp only;rw[ih (pos+1) none acc oM oM sP,alO,alO,VU,Jo]
    |some a=>
     dsimp only;obtain⟨h1,h2⟩:=gX a rfl;rw[ih (pos+1) none _ oM oM sP,alO,alV,Dc,List.append_assoc]
     congr 1
     have ae2:s.data.toList.drop a=(s.data.toList.drop a).take (pos - a)++32::s.data.toList.drop (pos+1):=by
      rw[<-VU]
      conv=>lhs;rw[<-List.take_append_drop (pos - a) (s.data.toList.drop a)]
      rw[alW,show a+(pos - a)=pos by omega]
     have eZ:(s.data.toList.drop a).take (pos - a)≠ []:=by
      intro h;have:=congrArg List.length h;simp only[ag',ag_,ajE]at this;omega
     rw[ae2,Mz h2 eZ];unfold pieces;rw[List.map_singleton,xN];rfl
   ·have KO:=S3 s pos aE hb
    rw[if_neg (by unfold j5;simpa using hb)];cases st with
    |none=>
     dsimp only;rw[ih _ (some pos) acc oM oM (fun a ha=>by cases ha;exact⟨by omega,by rw[show pos+(alJ s pos).2 - pos=(alJ s pos).2 by omega];exact KO⟩)];rfl
    |some a=>
     dsimp only;obtain⟨h1,h2⟩:=gX a rfl
     rw[ih _ (some a) acc oM oM (fun b Ex=>by
      cases Ex;refine⟨by omega,?_⟩;rw[TF _ a pos _ oM,List.mem_append,not_or];exact⟨h2,KO⟩)]
     rfl
  ·rw[alP _ _ _ _ _ _ aE]
   have:=ih pos st acc oM hp gX;rw[alP _ _ _ _ _ _ aE]at this;exact this
theorem Iv(s:ByteArray):(akK j5 s).map (·.data.toList)=nu s.data.toList:=by
 have:=L4 s s.size 0 none [] oM oM sP;unfold akK Lib.spansOfP;rw[alX];exact this
end Go.Proofs.YtjligkmjlenofaaGreatDoor
