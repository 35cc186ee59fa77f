/-
  The desk's small words: must, words, number, plain, word.
-/
import Derived.Test.YtepjcdjpikbbjaaGreatDoorU00
import Derived.Test.YtepjcdjpikbbjaaGreatDoorU20
import Derived.Test.YtepjcdjpikbbjaaGreatDoorU08
import Derived.Test.YtepjcdjpikbbjaaGreatDoorU17
import Derived.Lib.ParseIntBTie
import Derived.Test.YtepjcdjpikbbjaaGreatDoorU05
set_option maxHeartbeats 8000000
set_option maxRecDepth 100000
namespace Go.Proofs.YtepjcdjpikbbjaaGreatDoor
open Go.Proofs.Tryz
open Go.RowKit Go.Sort
def wD (c:Int):List PanicEntry:=[{v:=.iface 73 (.agg #[.int .i64 c]),recovered:=false}]
theorem bR (w:World):Calls prog 20 #[.nilIface] w fun e w'=>e=.returned (.tuple #[])∧w=w':=by
 go_enter Tryz.func20,Tryz.ntmps20;go_wp2_with fail
 go_end0
 exact⟨rfl,rfl⟩
def cG (c:Int) (w:World) (e:Ending) (w':World):Prop:=e=.panicked (wD c)∧Below w.heap.size w w'
theorem cS (c:Int) (w:World) (hg:da w):Calls prog 20 #[.iface 57 (.int .i64 c)] w (cG c w):=by
 go_enter Tryz.func20,Tryz.ntmps20;go_wp2_with (go_at_call 55;refine(GU c _ hg).mono ?_;rintro e w' ⟨rfl,hb⟩);exact⟨rfl,rfl,hb⟩
theorem aY (a:Option Addr) (n c:Nat) (w:World):Calls prog 17 #[.slice a n c,.int .i64 n] w fun e w'=>e=.returned (.tuple #[])∧w=w':=by
 have hd:((n:Int) != (n:Int))=false:=by simp
 go_enter Tryz.func17,Tryz.ntmps17;go_wp2_with fail
 go_end0
 exact⟨rfl,rfl⟩
theorem cO (a:Option Addr) (n c:Nat) (m:Int) (w:World) (hg:da w) (hn:(n:Int)≠m):Calls prog 17 #[.slice a n c,.int .i64 m] w (cG 3 w):=by
 have hd:((n:Int) != m)=true:=by simpa using hn
 have HM:=zH (fun w h=>cS 3 w h);unfold cG at HM;have HG:=zH hg;clear hg hn;go_enter Tryz.func17,Tryz.ntmps17;go_wp2_with fail;go_at_call 20;refine(HM.out _ HG.out).mono ?_;rintro e w' ⟨rfl,hb⟩;dsimp only
 trace_state
 exact⟨rfl,rfl,hb⟩
theorem sq {l:List UInt8} (h:dL l=true):aC l=((aL (ab l)).toList == l):=by
 unfold aC;rw[h,pm,Bool.true_and,Bool.eq_iff_iff];simp
theorem eL (s:ByteArray) (W:World) (hs:s.size≤1000000) (hT:bH W) (hn:aC s.data.toList=true):
  Calls prog 18 #[.string s] W fun e w'=>e=.returned (.int .i64 (ab s.data.toList))∧Below W.heap.size W w':=by
 have hb:=gJ s.data.toList
 have hE:dL s.data.toList=true:=by
  unfold aC at hn;rw[Bool.and_eq_true]at hn;exact hn.1
 have hq:((aL (ab s.data.toList)).toList == s.toList)=true:=by
  rw[sq hE]at hn;rw[ByteArray.toList_eq (bs:=s)];exact hn
 have hq2:(!((aL (ab s.data.toList)).toList == s.toList))=false:=by rw[hq];rfl
 have HA:=zH (j3 s W hs hE);have HI:=zH (fun w=>iw (ab s.data.toList) hb.1 hb.2 w);have HT:=zH hT;have lt:=hT.lt;clear hE hT hn hb;generalize ab s.data.toList=n at*;generalize aL n=y at*;go_enter Tryz.func18,Tryz.ntmps18
 go_wp2_with
  (first
  |(go_at_call 51;refine HA.out.mono ?_;rintro e w1 ⟨rfl,hb1⟩
    have HB:=zH hb1;clear hb1)
  |(go_at_call 26;refine(HI.out _ (HT.out.below HB.out lt)).mono ?_;rintro e w2 ⟨rfl,hb2⟩
    have HB2:=zH (ae HB.out hb2);clear hb2))
 go_ret;exact⟨rfl,HB2.out⟩
theorem gE (s:ByteArray) (W:World) (hs:s.size≤1000000) (hT:bH W) (hv:bf W) (hg:da W) (hlt:1<W.heap.size) (hn:aC s.data.toList=false):
  Calls prog 18 #[.string s] W (cG 3 W):=by
 have hb:=gJ s.data.toList;have HM:=zH (fun w h=>cS 3 w h);unfold cG at HM;have HG:=zH hg;have HT:=zH hT;have lt:=hT.lt;cases hE:dL s.data.toList
 ·have HA:=zH (nW s W hs hv hE)
  clear hE hT hv hn hg hb;generalize ab s.data.toList=n at*;go_enter Tryz.func18,Tryz.ntmps18;go_wp2_with fail;go_at_call 51;refine HA.out.mono ?_;rintro e w1 ⟨⟨te,pe,rfl⟩,hb1⟩;have HB:=zH hb1;clear hb1;go_wp2_with fail;go_at_call 20;refine(HM.out _ (HG.out.below HB.out hlt)).mono ?_;rintro e w' ⟨rfl,hb⟩;dsimp only;exact⟨rfl,rfl,ae HB.out hb⟩
 ·have hq:((aL (ab s.data.toList)).toList == s.toList)=false:=by
   rw[sq hE]at hn;rw[ByteArray.toList_eq (bs:=s)];exact hn
  have hq2:(!((aL (ab s.data.toList)).toList == s.toList))=true:=by rw[hq];rfl
  have HA:=zH (j3 s W hs hE);have HI:=zH (fun w=>iw (ab s.data.toList) hb.1 hb.2 w);clear hE hT hv hn hg hb;generalize ab s.data.toList=n at*;generalize aL n=y at*;go_enter Tryz.func18,Tryz.ntmps18
  go_wp2_with
   (first
   |(go_at_call 51;refine HA.out.mono ?_;rintro e w1 ⟨rfl,hb1⟩
     have HB:=zH hb1;clear hb1)
   |(go_at_call 26;refine(HI.out _ (HT.out.below HB.out lt)).mono ?_;rintro e w2 ⟨rfl,hb2⟩
     have HB2:=zH (ae HB.out hb2);clear hb2))
  go_at_call 20;refine(HM.out _ (HG.out.below HB2.out hlt)).mono ?_;rintro e w' ⟨rfl,hb⟩;dsimp only;exact⟨rfl,rfl,ae HB2.out hb⟩
theorem uw (s:ByteArray) (w:World):Calls prog 127 #[.string s] w fun e w'=>e=.returned (.string (dU s))∧w=w':=by
 cases h:s.toList.isEmpty
 ·have H:=zH (show dU s=s by rw[hC,decide_eq_false_iff_not]at h;unfold dU;rw[if_neg h])
  go_enter Tryz.func127,Tryz.ntmps127;go_wp2_with fail;go_ret;exact⟨by rw[H.out];rfl,rfl⟩
 ·have H:=zH (show dU s=⟨#[95]⟩ by rw[hC,decide_eq_true_eq]at h;unfold dU;rw[if_pos h])
  go_enter Tryz.func127,Tryz.ntmps127;go_wp2_with fail;go_ret;exact⟨by rw[H.out];rfl,rfl⟩
theorem ni (s:ByteArray) (w:World):Calls prog 124 #[.string s] w fun e w'=>e=.returned (.string (bG s))∧w=w':=by
 cases h:(s.toList == [95])
 ·have H:=zH (show bG s=s by unfold bG;rw[if_neg];intro e;rw[ByteArray.toList_eq,e]at h;cases h)
  go_enter Tryz.func124,Tryz.ntmps124;go_wp2_with fail;go_ret;exact⟨by rw[H.out];rfl,rfl⟩
 ·have H:=zH (show bG s=⟨#[]⟩ by unfold bG;rw[ByteArray.toList_eq]at h;rw[if_pos (by simpa using h)];rfl)
  go_enter Tryz.func124,Tryz.ntmps124;go_wp2_with fail;go_ret;exact⟨by rw[H.out];rfl,rfl⟩
theorem ED (s:ByteArray) (w:World) (hs:s.size≤1000000) (h:dL s.data.toList=true):
  Calls prog 81 #[.string s,.int .i64 10,.int .i64 64] w fun e w'=>e=.returned (.tuple #[.int .i64 (ab s.data.toList),.nilIface])∧Below w.heap.size w w':=by
 unfold dL at h;unfold ab;rcases ha:Lib.atoiAll s.data.toList with v|_|_
 ·refine(Tryz.strconv_ParseInt_10_at64_ok s oM v (by rw[Lib.parseIntB_64,ha]) w).mono ?_
  rintro e w' ⟨rfl,hw⟩;refine⟨rfl,?_⟩;rcases hw with rfl|⟨t,rfl⟩
  ·exact Below.refl _ _
  ·exact Lib.bytesWorld_below w _ t
 ·rw[ha]at h;cases h
 ·rw[ha]at h;cases h
theorem GN (s:ByteArray) (w:World) (hs:s.size≤1000000) (hv:bf w) (h:dL s.data.toList=false):
  Calls prog 81 #[.string s,.int .i64 10,.int .i64 64] w fun e w'=>(∃ n,Db n e)∧Below w.heap.size w w':=by
 unfold dL at h;obtain⟨⟨t1,p1,h1⟩,t2,p2,h2⟩:=hv;rcases ha:Lib.atoiAll s.data.toList with v|_|_
 ·rw[ha]at h;cases h
 ·refine(Tryz.strconv_ParseInt_10_at64_syntax s oM (by rw[Lib.parseIntB_64,ha]) _ w h1 (.inr ⟨_,_,rfl⟩)).mono ?_
  rintro e w' ⟨N,rfl,_,_,hb⟩;exact⟨⟨_,_,_,rfl⟩,hb⟩
 ·refine(Tryz.strconv_ParseInt_10_at64_range s oM (by rw[Lib.parseIntB_64,ha]) _ w h2 (.inr ⟨_,_,rfl⟩)).mono ?_
  rintro e w' ⟨N,rfl,_,_,hb⟩;exact⟨⟨_,_,_,rfl⟩,hb⟩
theorem D6 (x:Int) (h0: -9223372036854775808≤x) (h1:x≤9223372036854775807) (w:World) (hT:bH w):
  Calls prog 82 #[.int .i64 x,.int .i64 10] w fun e w'=>e=.returned (.string (aL x))∧Below w.heap.size w w':=by
 refine(Tryz.strconv_FormatInt_10 x h0 h1 w hT).mono ?_;rintro e w' ⟨rfl,k,os,rfl⟩;exact⟨rfl,jE w k os⟩
def nJ (l:List UInt8):Int:=if aC l=true then ab l else 0
theorem sf (s:ByteArray) (W:World) (hs:s.size≤1000000) (hT:bH W) (hv:bf W):
  Calls prog 31 #[.string s] W fun e w'=>e=.returned (.tuple #[.int .i64 (nJ s.data.toList),.bool (aC s.data.toList)])∧Below W.heap.size W w':=by
 have hb:=gJ s.data.toList;have hsl:s.toList=s.data.toList:=by rw[ByteArray.toList_eq]
 cases hE:dL s.data.toList
 ·have HA:=zH (GN s W hs hv hE)
  have hn:aC s.data.toList=false:=by unfold aC;rw[hE];rfl
  rw[hn,show nJ s.data.toList=0 by unfold nJ;rw[hn];rfl];clear hE hT hv hsl hb hn;go_enter Tryz.func31,Tryz.ntmps31
  go_wp2_with
   (go_at_call 81;refine HA.out.mono ?_;rintro e w1 ⟨⟨n,te,pe,rfl⟩,hb1⟩
    have HB:=zH hb1;clear hb1)
  go_ret2;exact⟨rfl,HB.out⟩
 ·have HA:=zH (ED s W hs hE)
  have HI:=zH (fun w=>D6 (ab s.data.toList) hb.1 hb.2 w);have HT:=zH hT;have lt:=hT.lt;have hN:aC s.data.toList=((aL (ab s.data.toList)).toList == s.toList):=by rw[hsl];exact sq hE
  have hV:nJ s.data.toList=if ((aL (ab s.data.toList)).toList == s.toList)=true then ab s.data.toList else 0:=by unfold nJ;rw[hN]
  rw[hV,hN];clear hE hT hv hsl hN hV hb;generalize ab s.data.toList=n at*;generalize aL n=y at*;cases hq:(y.toList == s.toList)
  ·rw[if_neg dC]
   go_enter Tryz.func31,Tryz.ntmps31
   go_wp2_with
    (first
    |(go_at_call 81;refine HA.out.mono ?_;rintro e w1 ⟨rfl,hb1⟩
      have HB:=zH hb1;clear hb1)
    |(go_at_call 82;refine(HI.out _ (HT.out.below HB.out lt)).mono ?_;rintro e w2 ⟨rfl,hb2⟩
      have HB2:=zH (ae HB.out hb2);clear hb2))
   go_ret2;exact⟨rfl,HB2.out⟩
  ·rw[if_pos rfl]
   go_enter Tryz.func31,Tryz.ntmps31
   go_wp2_with
    (first
    |(go_at_call 81;refine HA.out.mono ?_;rintro e w1 ⟨rfl,hb1⟩
      have HB:=zH hb1;clear hb1)
    |(go_at_call 82;refine(HI.out _ (HT.out.below HB.out lt)).mono ?_;rintro e w2 ⟨rfl,hb2⟩
      have HB2:=zH (ae HB.out hb2);clear hb2))
   go_ret2;exact⟨rfl,HB2.out⟩
theorem mD.ext: ∀ {a b:List an},mD a→mD b→(∀ f,f∈a↔f∈b)→a=b
 |[],[],_,_,_=>rfl
 |[],g::b,_,_,h=>absurd ((h g).2 (List.mem_cons_self ..)) (by simp)
 |f::a,[],_,_,h=>absurd ((h f).1 (List.mem_cons_self ..)) (by simp)
 |f::a,g::b,ha,hb,h=>by
  obtain⟨a1,a2⟩:=List.pairwise_cons.1 ha;obtain⟨b1,b2⟩:=List.pairwise_cons.1 hb
  have e:f=g:=by
   rcases List.mem_cons.1 ((h f).1 (List.mem_cons_self ..))with e|h1
   ·exact e
   rcases List.mem_cons.1 ((h g).2 (List.mem_cons_self ..))with e|h2
   ·exact e.symm
   have:=a1 _ h2;have:=b1 _ h1;omega
  subst e;rw[mD.ext a2 b2];intro x;constructor
  ·intro hx
   rcases List.mem_cons.1 ((h x).1 (List.mem_cons_of_mem _ hx))with rfl|h1
   ·have:=a1 _ hx
    omega
   ·exact h1
  ·intro hx
   rcases List.mem_cons.1 ((h x).2 (List.mem_cons_of_mem _ hx))with rfl|h1
   ·have:=b1 _ hx
    omega
   ·exact h1
def fw (L:List an) (n:Int):List an:=L.filter fun f=>decide (f.id≠n)
theorem nn {L:List an} {n:Int} {f:an}:f∈fw L n↔f∈L∧f.id≠n:=by
 unfold fw;rw[List.mem_filter,decide_eq_true_eq]
theorem qM {L:List an} (h:mD L) (n:Int):mD (fw L n):=h.sublist List.filter_sublist
theorem nC (L:List an) (n:Int):(fw L n).length≤L.length:=List.length_filter_le _ _
theorem AI {L:List an} (k:Nat) {f:an}:f∈L↔f∈L.take k∨f∈L.drop k:=by
 rw[←List.mem_append,List.take_append_drop]
theorem nH {L:List an} {n:Int} (hb:jw L n=true) {f:an} (hne:f.id≠n) (h:f∈L.drop (ahead L n)):f∈L.drop (ahead L n+1):=by
 have hlt:=l6 hb;rw[List.drop_eq_getElem_cons hlt]at h;rw[lV (List.getElem?_eq_getElem hlt),decide_eq_true_eq]at hb;rcases List.mem_cons.1 h with rfl|h
 ·exact absurd hb hne
 ·exact h
theorem tf {L:List an} (ha:mD L) {n:Int} {f:an}:f∈jN L n↔f∈L∧f.id≠n:=by
 unfold jN
 by_cases hb:jw L n=true
 ·rw[if_pos hb,List.mem_append]
  constructor
  ·rintro(h|h)
   ·have:=im h
    exact⟨List.mem_of_mem_take h,by omega⟩
   ·have:=mj ha hb h
    exact⟨List.mem_of_mem_drop h,by omega⟩
  ·rintro⟨h,hne⟩
   rcases(AI (ahead L n)).1 h with h|h
   ·exact .inl h
   ·exact .inr (nH hb hne h)
 ·rw[if_neg hb]
  refine⟨fun h=>⟨h,?_⟩,fun h=>h.1⟩;rcases(AI (ahead L n)).1 h with h|h
  ·have:=im h
   omega
  ·have:=mU ha (by simpa using hb) h
   omega
theorem u7 {L:List an} (ha:mD L) (n:Int):jN L n=fw L n:=
 (o5 ha n).ext (qM ha n) fun f=>by rw[tf ha,nn]
theorem uI {L:List an} (ha:mD L) {f g:an}:g∈lS L f↔g=f∨g∈L∧g.id≠f.id:=by
 unfold lS
 by_cases hb:jw L f.id=true
 ·rw[if_pos hb,pq (l6 hb),List.mem_append,List.mem_cons]
  constructor
  ·rintro(h|rfl|h)
   ·have:=im h
    exact .inr ⟨List.mem_of_mem_take h,by omega⟩
   ·exact .inl rfl
   ·have:=mj ha hb h
    exact .inr ⟨List.mem_of_mem_drop h,by omega⟩
  ·rintro(rfl|⟨h,hne⟩)
   ·exact .inr (.inl rfl)
   ·rcases(AI (ahead L f.id)).1 h with h|h
    ·exact .inl h
    ·exact .inr (.inr (nH hb hne h))
 ·rw[if_neg hb,List.mem_append,List.mem_cons]
  constructor
  ·rintro(h|rfl|h)
   ·have:=im h
    exact .inr ⟨List.mem_of_mem_take h,by omega⟩
   ·exact .inl rfl
   ·have:=mU ha (by simpa using hb) h
    exact .inr ⟨List.mem_of_mem_drop h,by omega⟩
  ·rintro(rfl|⟨h,hne⟩)
   ·exact .inr (.inl rfl)
   ·rcases(AI (ahead L f.id)).1 h with h|h
    ·exact .inl h
    ·exact .inr (.inr h)
theorem vE {L:List an} (ha:mD L) (f:an):(fw L f.id++[f]).Pairwise fun a b=>a.id≠b.id:=by
 refine List.pairwise_append.2 ⟨(qM ha f.id).imp fun h=>by omega,List.pairwise_singleton ..,?_⟩;intro a h b hb;rw[List.mem_singleton]at hb;subst hb;exact(nn.1 h).2
theorem vT {L R:List an} (ha:mD L) {f:an} (hp:R.Perm (fw L f.id++[f])) (hs:R.Pairwise fun a b=>a.id≤b.id):R=lS L f:=by
 have hne:R.Pairwise fun a b=>a.id≠b.id:=(hp.symm.pairwise_iff fun h=>Ne.symm h).1 (vE ha f)
 have hR:mD R:=by
  refine(hs.and hne).imp ?_;rintro a b ⟨h1,h2⟩;omega
 refine hR.ext (rG ha f) fun g=>?_
 rw[hp.mem_iff,List.mem_append,List.mem_singleton,nn,uI ha];exact Or.comm
theorem lu (key:Int) (s:ByteArray) (W:World) (hs:s.size≤1000000) (hT:cW W):
 Calls prog 48 #[.int .i64 key,.string s] W fun e w'=>e=.returned (.string (ke key s))∧Below W.heap.size W w':=Aa key s W hs hT
theorem vY {W w w':World} {u x y z:Value} (h0:w.cell? ⟨W.heap.size,0,none⟩=some u) (h1:w.cell? ⟨W.heap.size,1,none⟩=some x) (h2:w.cell? ⟨W.heap.size,2,none⟩=some y) (h3:w.cell? ⟨W.heap.size,3,none⟩=some z)
  (hT:bH w) (hT2:cW w) (hB:Below W.heap.size W w) (hb:Below w.heap.size w w'):
  w'.cell? ⟨W.heap.size,0,none⟩=some u∧w'.cell? ⟨W.heap.size,1,none⟩=some x∧w'.cell? ⟨W.heap.size,2,none⟩=some y∧w'.cell? ⟨W.heap.size,3,none⟩=some z∧bH w'∧cW w'∧Below W.heap.size W w':=by
 obtain⟨a0,a1,a2,a3,a4,a5⟩:=nk h0 h1 h2 h3 hT hB hb;exact⟨a0,a1,a2,a3,a4,hT2.below hb hT2.lt,a5⟩
theorem cu (key a b c d:Int) (W:World) (hT:bH W) (hT2:cW W) (h:bN a b c d=true) (hk:(a=1∧d=0)∨(a=2∧ba d=true)):
  Calls prog 49 #[.int .i64 key,v4 a b c d] W fun e w'=>e=.returned (.tuple #[.string (jT key a b c d),.int .i64 0])∧Below W.heap.size W w':=by
 obtain⟨_,hob,hoc⟩:=jD h;have hsz:=i8 a b c d h;have hts:=jV key (bz a b c d);have e1:=cT (bz a b c d) (⟨#[46]⟩:ByteArray) 70 1 hsz dC oM;have z1:=cd (bz a b c d) (⟨#[46]⟩:ByteArray) 70 1 hsz dC;have e2:=cT _ (ke key (bz a b c d)) _ 16 z1 oM oM;have HT:=zH hT;have HT2:=zH hT2;have HB:=fun(w:World) (hw:bH w)=>gx a b c d w hw h
 have HBB:=zH HB;have htk:jT key a b c d=bz a b c d++⟨#[46]⟩++ke key (bz a b c d):=rfl;have HTK:=zH htk;have hTl:=hT.lt;have hTl2:=hT2.lt;clear hT hT2 h z1 HB htk;generalize bz a b c d=bs at*;generalize jT key a b c d=tk at*;unfold v4 at*;rcases hk with⟨rfl,rfl⟩|⟨rfl,hod⟩
 all_goals
  (go_enter Tryz.func49,Tryz.ntmps49
   go_wp2_with (go_at_call 83;refine(Et _ _).mono ?_;rintro e w1 ⟨rfl,rfl⟩))
 ·obtain⟨hc0,hc1,hc2,hc3⟩:=np (Below.refl (W.alloc (.cells #[.int .i64 1,.int .i64 b,.int .i64 c,.int .i64 0] 109)).heap.size (W.alloc (.cells #[.int .i64 1,.int .i64 b,.int .i64 c,.int .i64 0] 109)))
  have hB1:=(Below.refl W.heap.size W).alloc (Nat.le_refl _) (.cells #[.int .i64 1,.int .i64 b,.int .i64 c,.int .i64 0] 109);have hT1:=HT.out.below hB1 hTl;have hT2:=HT2.out.below hB1 hTl2;clear HT HT2;generalize W.alloc (.cells #[.int .i64 1,.int .i64 b,.int .i64 c,.int .i64 0] 109)=w0 at*;have hT1':bH w0.drew:=hT1;have hT2':cW w0.drew:=hT2;have hB2:Below W.heap.size W w0.drew:=⟨hB1.os,hB1.tape,hB1.output,hB1.size,hB1.block⟩
  go_region_held3 (fun w'=>w'.cell? ⟨W.heap.size,0,none⟩=some (.int .i64 1)∧w'.cell? ⟨W.heap.size,1,none⟩=some (.int .i64 b)∧w'.cell? ⟨W.heap.size,2,none⟩=some (.int .i64 c)∧w'.cell? ⟨W.heap.size,3,none⟩=some (.int .i64 0)∧bH w'∧cW w'∧Below W.heap.size W w')
   (first
    |(refine⟨?_,?_,?_,?_,hT1',hT2',hB2⟩<;>go_keep)
    |(go_split_ands
      exact vY aS aS aS aS aS aS aS aS))
   (first
    |(go_at_call 99;refine(HBB.out _ (by(go_split_ands;assumption))).mono ?_;rintro e w1 ⟨rfl,hb1⟩)
    |(go_at_call 48;refine(lu _ _ _ oM (by(go_split_ands;assumption))).mono ?_;rintro e w1 ⟨rfl,hb1⟩))
  all_goals
   (go_wp2_with fail
    go_ret2;exact⟨by rw[HTK.out];rfl,by(go_split_ands;assumption)⟩)
 ·obtain⟨hc0,hc1,hc2,hc3⟩:=np (Below.refl (W.alloc (.cells #[.int .i64 2,.int .i64 b,.int .i64 c,.int .i64 d] 109)).heap.size (W.alloc (.cells #[.int .i64 2,.int .i64 b,.int .i64 c,.int .i64 d] 109)))
  have hB1:=(Below.refl W.heap.size W).alloc (Nat.le_refl _) (.cells #[.int .i64 2,.int .i64 b,.int .i64 c,.int .i64 d] 109);have hT1:=HT.out.below hB1 hTl;have hT2:=HT2.out.below hB1 hTl2;clear HT HT2;generalize W.alloc (.cells #[.int .i64 2,.int .i64 b,.int .i64 c,.int .i64 d] 109)=w0 at*;have hT1':bH w0.drew:=hT1;have hT2':cW w0.drew:=hT2;have hB2:Below W.heap.size W w0.drew:=⟨hB1.os,hB1.tape,hB1.output,hB1.size,hB1.block⟩
  go_region_held3 (fun w'=>w'.cell? ⟨W.heap.size,0,none⟩=some (.int .i64 2)∧w'.cell? ⟨W.heap.size,1,none⟩=some (.int .i64 b)∧w'.cell? ⟨W.heap.size,2,none⟩=some (.int .i64 c)∧w'.cell? ⟨W.heap.size,3,none⟩=some (.int .i64 d)∧bH w'∧cW w'∧Below W.heap.size W w')
   (first
    |(refine⟨?_,?_,?_,?_,hT1',hT2',hB2⟩<;>go_keep)
    |(go_split_ands
      exact vY aS aS aS aS aS aS aS aS))
   (first
    |(go_at_call 99;refine(HBB.out _ (by(go_split_ands;assumption))).mono ?_;rintro e w1 ⟨rfl,hb1⟩)
    |(go_at_call 48;refine(lu _ _ _ oM (by(go_split_ands;assumption))).mono ?_;rintro e w1 ⟨rfl,hb1⟩))
  all_goals
   (go_wp2_with fail
    go_ret2;exact⟨by rw[HTK.out];rfl,by(go_split_ands;assumption)⟩)
theorem fc (key a b c d:Int) (W:World) (hr:bN a b c d=false):
  Calls prog 49 #[.int .i64 key,v4 a b c d] W fun e w'=>e=.returned (.tuple #[.string ⟨#[]⟩,.int .i64 1])∧Below W.heap.size W w':=by
 have h:(a=1∧d=0)∨(a=1∧((d == 0)=false∧decide (d=0)=false))∨(a=2)∨((a == 1)=false∧(a == 2)=false∧decide (a=1)=false∧decide (a=2)=false):=by
  by_cases h1:a=1<;>by_cases h2:a=2<;>by_cases h3:d=0<;>simp[h1,h2,h3]<;>omega
 have HR:=zH hr;clear hr;unfold v4;obtain⟨ob,hob⟩: ∃ ob,ba b=ob:=⟨_,rfl⟩;obtain⟨od,hod⟩: ∃ od,ba d=od:=⟨_,rfl⟩;obtain⟨oc,hoc⟩: ∃ oc,ba c=oc:=⟨_,rfl⟩;rcases h with⟨rfl,rfl⟩|⟨rfl,hd,hd'⟩|rfl|⟨h1,h2,h1',h2'⟩
 all_goals cases ob<;>cases od<;>cases oc
 all_goals first
  |(exfalso;have hr:=HR.out;simp[bN, *]at hr;done)
  |(exfalso;have hz:ba 0=true:=by decide
    simp[hz]at hod;done)
  |(clear HR
    go_enter Tryz.func49,Tryz.ntmps49;go_wp2_with (go_at_call 83;refine(Et _ _).mono ?_;rintro e w1 ⟨rfl,rfl⟩);go_ret2;exact⟨rfl,(Below.refl _ _).alloc (Nat.le_refl _) _⟩)
theorem gi.at_ {w w':World} {B0 B:Nat} {v:Value} {L:List (List UInt8)} (h:gi w B0 v L) (hb:Below B w w') (hv: ∀ g,v.ownBlock=some g→g<B):gi w' B0 v L:=by
 obtain⟨g,cap,rfl,ho⟩:=h;refine⟨g,cap,rfl,ho.1,?_⟩;rcases ho.2 with h0|⟨g',cap',cur,e,h1,h2,h3⟩
 ·exact .inl h0
 ·refine .inr ⟨g',cap',cur,e,h1,?_,h3⟩
  rw[hb.block g' (hv g' (by rw[e];rfl))];exact h2
structure TK (W:World) (L:List (List UInt8)) (g cap tb B:Nat) (k:Int) (w:World):Prop where
 tr:TR W L (.slice (some ⟨g,0,none⟩) L.length cap) w
 tk:aj w tb 182 #[.int .i64 k,.int .i64 0,.int .i64 0,.int .i64 0]
 hB:B≤w.heap.size
 tbB:tb<B
 gB:g<B
 WB:W.heap.size<B
 ne1:W.heap.size≠tb
 ne2:g≠tb
 ne3:W.heap.size≠g
 gl:5<B∧6<B∧7<B
theorem TK.keep {W w w':World} {L:List (List UInt8)} {g cap tb B:Nat} {k:Int} (h:TK W L g cap tb B k w) (hb:Below B w w'):TK W L g cap tb B k w':=
 ⟨⟨h.tr.below.trans (hb.mono (Nat.le_of_lt h.WB)),h.tr.res.below hb h.WB,h.tr.row.at_ hb (fun x hx=>by simp[Value.ownBlock]at hx;subst hx;exact h.gB),h.tr.tens.below hb h.gl.2.2,h.tr.errs.below hb h.gl.1 h.gl.2.1⟩,
   h.tk.below hb h.tbB,Nat.le_trans h.hB hb.size,h.tbB,h.gB,h.WB,h.ne1,h.ne2,h.ne3,h.gl⟩
theorem TK.keep' {W w w':World} {L:List (List UInt8)} {g cap tb B:Nat} {k:Int} (h:TK W L g cap tb B k w) (hb:Below w.heap.size w w'):TK W L g cap tb B k w':=h.keep (hb.mono h.hB)
theorem TK.grown {W w w':World} {L:List (List UInt8)} {g cap tb B:Nat} {k:Int} {row:Option Nat} (h:TK W L g cap tb B k w) (hg:w.grownBy w' row) (hr: ∀ i,row=some i→B≤i):TK W L g cap tb B k w':=
 h.keep ((Below.refl B w).grown hg h.hB hr)
theorem TK.start {W w1:World} {L:List (List UInt8)} {g cap:Nat} (h:TR W L (.slice (some ⟨g,0,none⟩) L.length cap) w1) (hg1:W.heap.size+1≤g) (hg2:g<w1.heap.size) (k:Int):
  TK W L g cap w1.heap.size (w1.heap.size+1) k (w1.alloc (.cells #[.int .i64 k,.int .i64 0,.int .i64 0,.int .i64 0] 182)):=by
 have hrl:=h.res.lt;have h3:=h.errs.lt;have h4:=h.tens.lt;exact⟨h.keep ((Below.refl _ _).alloc (Nat.le_refl _) _),aj.new w1 _ _,by simp,by omega,by omega,by omega,by omega,by omega,by omega,by omega,by omega,by omega⟩
theorem TK.facts {W w:World} {L:List (List UInt8)} {g cap tb B:Nat} {k:Int} (h:TK W L g cap tb B k w):
  (∀ j,j<L.length→w.cell? ⟨g,j,none⟩=some (.string (ah (L.getD j []))))∧(w.cell? ⟨W.heap.size,0,none⟩=some (.int .i64 0)∧w.cell? ⟨W.heap.size,1,none⟩=some (.int .i64 0)∧w.cell? ⟨W.heap.size,2,none⟩=some (.int .i64 0)∧w.cell? ⟨W.heap.size,3,none⟩=some (.int .i64 0))∧
  (w.frozen? ⟨W.heap.size,0,none⟩=false∧w.frozen? ⟨W.heap.size,1,none⟩=false∧w.frozen? ⟨W.heap.size,2,none⟩=false∧w.frozen? ⟨W.heap.size,3,none⟩=false)∧
  (w.cell? ⟨tb,0,none⟩=some (.int .i64 k)∧w.cell? ⟨tb,1,none⟩=some (.int .i64 0)∧w.cell? ⟨tb,2,none⟩=some (.int .i64 0)∧w.cell? ⟨tb,3,none⟩=some (.int .i64 0))∧
  (w.frozen? ⟨tb,0,none⟩=false∧w.frozen? ⟨tb,1,none⟩=false∧w.frozen? ⟨tb,2,none⟩=false∧w.frozen? ⟨tb,3,none⟩=false)∧g<w.heap.size∧tb<w.heap.size∧W.heap.size<w.heap.size:=by
 have hr:=h.tr.res;have hk:=h.tk
 exact⟨fun j hj=>h.tr.row.cell j hj,⟨hr.cell 0,hr.cell 1,hr.cell 2,hr.cell 3⟩,⟨hr.frozen 0,hr.frozen 1,hr.frozen 2,hr.frozen 3⟩,⟨hk.cell 0,hk.cell 1,hk.cell 2,hk.cell 3⟩,⟨hk.frozen 0,hk.frozen 1,hk.frozen 2,hk.frozen 3⟩,
  Nat.lt_of_lt_of_le h.gB h.hB,Nat.lt_of_lt_of_le h.tbB h.hB,Nat.lt_of_lt_of_le h.WB h.hB⟩
structure TE (W:World) (tb:Nat) (cs:Array Value) (w:World):Prop where
 below:Below W.heap.size W w
 res:aj w W.heap.size 182 #[.int .i64 0,.int .i64 0,.int .i64 0,.int .i64 0]
 tk:aj w tb 182 cs
 tens:bH w
 lt:W.heap.size<tb
 WT:7<W.heap.size
theorem TE.of_tk {W w:World} {L:List (List UInt8)} {g cap tb B:Nat} {k:Int} (h:TK W L g cap tb B k w) (ht:W.heap.size<tb) (hg:7<W.heap.size):TE W tb #[.int .i64 k,.int .i64 0,.int .i64 0,.int .i64 0] w:=⟨h.tr.below,h.tr.res,h.tk,h.tr.tens,ht,hg⟩
theorem Fx {w:World} (h:bH w) {p:Addr} (hp:7≠p.block) (u:Value):bH (w.setCell p u):=by
 unfold bH Lib.TabIs at*;unfold World.var? at*;simp only[uP,Option.bind_some]at h ⊢;rw[Below.heap_setCell w p u _ hp];exact h
theorem TE.set {W w:World} {tb:Nat} {cs:Array Value} (h:TE W tb cs w) (i:Nat) (u:Value):TE W tb (cs.setIfInBounds i u) (w.setCell ⟨tb,i,none⟩ u):=
 ⟨h.below.setCell (Nat.le_of_lt h.lt) u,h.res.far (Nat.ne_of_lt h.lt) u,h.tk.set_ i u,Fx h.tens (by have:=h.lt;have:=h.WT;simp;omega) u,h.lt,h.WT⟩
theorem TE.drew {W w:World} {tb:Nat} {cs:Array Value} (h:TE W tb cs w):TE W tb cs w.drew:=⟨aF h.below 1,h.res,h.tk,h.tens,h.lt,h.WT⟩
theorem TE.keep {W w w':World} {tb:Nat} {cs:Array Value} (h:TE W tb cs w) (hb:Below w.heap.size w w'):TE W tb cs w':=
 ⟨h.below.trans (hb.mono h.below.size),h.res.below' hb,h.tk.below' hb,h.tens.below hb h.tens.lt,h.lt,h.WT⟩
theorem TE.facts {W w:World} {tb:Nat} {x0 x1 x2 x3:Value} (h:TE W tb #[x0,x1,x2,x3] w):
  (w.cell? ⟨W.heap.size,0,none⟩=some (.int .i64 0)∧w.cell? ⟨W.heap.size,1,none⟩=some (.int .i64 0)∧w.cell? ⟨W.heap.size,2,none⟩=some (.int .i64 0)∧w.cell? ⟨W.heap.size,3,none⟩=some (.int .i64 0))∧
  (w.frozen? ⟨W.heap.size,0,none⟩=false∧w.frozen? ⟨W.heap.size,1,none⟩=false∧w.frozen? ⟨W.heap.size,2,none⟩=false∧w.frozen? ⟨W.heap.size,3,none⟩=false)∧
  (w.cell? ⟨tb,0,none⟩=some x0∧w.cell? ⟨tb,1,none⟩=some x1∧w.cell? ⟨tb,2,none⟩=some x2∧w.cell? ⟨tb,3,none⟩=some x3)∧W.heap.size<w.heap.size∧tb<w.heap.size:=by
 have hr:=h.res;have hk:=h.tk;exact⟨⟨hr.cell 0,hr.cell 1,hr.cell 2,hr.cell 3⟩,⟨hr.frozen 0,hr.frozen 1,hr.frozen 2,hr.frozen 3⟩,⟨hk.cell 0,hk.cell 1,hk.cell 2,hk.cell 3⟩,hr.lt,hk.lt⟩
theorem FX {x y:List UInt8} (hx:fa x=true) (hy:fa y=true):bN 1 (ab x) (ab y) 0=true:=by simp[bN,(gq.1 hx).1,(gq.1 hy).1]
theorem GV {x y z:List UInt8} (hx:fa x=true) (hy:fa y=true) (hz:fa z=true):bN 2 (ab x) (ab y) (ab z)=true:=by simp[bN,(gq.1 hx).1,(gq.1 hy).1,(gq.1 hz).1]
theorem ly {x:List UInt8} (hx:fa x=true):aL (ab x)=ah x:=by
 unfold aL ah;rw[(gq.1 hx).2]
theorem FW {x y:List UInt8} (hx:fa x=true) (hy:fa y=true):bz 1 (ab x) (ab y) 0=ah (bM 46 [[114],x,y]):=by
 rw[bz,if_pos rfl,ly hx,ly hy,show(⟨#[114,46]⟩:ByteArray)=ah [114,46]from rfl,show(⟨#[46]⟩:ByteArray)=ah [46]from rfl];simp only[gD];simp[bM]
theorem Gp {x y z:List UInt8} (hx:fa x=true) (hy:fa y=true) (hz:fa z=true):bz 2 (ab x) (ab y) (ab z)=ah (bM 46 [[97],x,y,z]):=by
 rw[bz,if_neg dC,ly hx,ly hy,ly hz,show(⟨#[97,46]⟩:ByteArray)=ah [97,46]from rfl,show(⟨#[46]⟩:ByteArray)=ah [46]from rfl];simp only[gD];simp[bM]
theorem E7 (key:Int) {TT BS:ByteArray} {t B:List UInt8} (h1:TT.data.toList=t) (h2:BS=ah B):decide (TT=ke key BS)=decide (t=aQ key B):=by
 rw[decide_eq_decide];subst h2;unfold ke;rw[ak,←h1];exact⟨fun h=>by rw[h],fun h=>by rw[←h]⟩
theorem qA {w w':World} (h: ∃ n,w'=w.drewN n):Below w.heap.size w w':=by
 obtain⟨n,rfl⟩:=h;exact aF (Below.refl _ _) n
theorem kh {w w':World} {base:Nat} {e:TypeId} {v:Value} {n:Nat} {xs:List Value} (h:w.ownsRow base e 1 v n xs) (hb:Below w.heap.size w w'):w'.ownsRow base e 1 v n xs:=by
 refine h.kept (aG hb none) ?_;cases hv:v.ownBlock with
 |none=>exact .inl rfl
 |some b=>exact .inr (by simp)
theorem Ap:(prog.info? 3).map (fun i=>(i.zero,i.size,i.bytes))=some (some (.int .i64 0),1,8):=kR
theorem Bu (key:Int) (s:ByteArray) (W:World) (hs:s.size≤5000) (hm:dt W) (hT:bH W) (hv:bf W) (x y t:List UInt8) (hL:parts 46 s.data.toList=[[114],x,y,t]):
  Calls prog 225 #[.int .i64 key,.string s] W (nj W (iV (fun B=>aQ key B) [[114],x,y,t])):=by
 have H:=zH (jO key s W hs hm hT hv);have hlen: ∀ w∈[[114],x,y,t],w.length≤5000:=by rw[←hL];exact be 46 _ _ (by rw[aq];exact hs)
 rw[hL]at H;have hx:(ah x).size≤1000000:=by rw[av];have:=hlen x (by simp);omega
 have hy:(ah y).size≤1000000:=by rw[av];have:=hlen y (by simp);omega
 have ht:t.length≤5000:=hlen t (by simp);obtain⟨i0,hi,hz0,hz1,hz2⟩:=info_parts Ap;have e1:((ah [114]).toList == [97])=false:=by rw[bn];decide
 have e2:((ah [114]).toList == [114])=true:=by rw[bn];decide
 have lten:=hT.lt;clear hm hT hv hL hlen;go_enter Tryz.func225,Tryz.ntmps225;go_wp2_with fail;go_at_call 13;refine H.out.mono ?_;rintro e w1 ⟨v,rfl,h⟩;obtain⟨g,cap,rfl,hcap,hmax,hg1,hg2,hrl,hcells,_,_,_,_,_⟩:=h.facts;have HTK:=zH (TK.start h hg1 hg2 1);have hc0:=hcells 0 (by simp);clear h hcells;simp only[List.length_cons,List.length_nil,Nat.zero_add,Nat.reduceAdd,List.getD_cons_zero]at hc0 hcap;generalize ah [114]=rr at*;go_wp2_with fail;have hB0:w1.heap.size+1=(w1.alloc (.cells #[.int .i64 1,.int .i64 0,.int .i64 0,.int .i64 0] 182)).heap.size:=by simp
 generalize w1.alloc (.cells #[.int .i64 1,.int .i64 0,.int .i64 0,.int .i64 0] 182)=w2 at*;have n1:=HTK.out.ne1;have n2:=HTK.out.ne2;have n3:=HTK.out.ne3;clear hc0 hg1 hg2;generalize w1.heap.size=tb at*;obtain⟨hcs,⟨r0,r1,r2,r3⟩,⟨f0,f1,f2,f3⟩,⟨k0,k1,k2,k3⟩,⟨q0,q1,q2,q3⟩,lg,lt,lW⟩:=HTK.out.facts;refine wp_loop_rounds 3 ?_;have hc:=hcs 1 (by simp);simp at hc;clear hcs;rw[rounds_succ];go_wp2_with fail;go_at_call 249;refine(lw (ah x) _ hx HTK.out.tr.tens HTK.out.tr.errs).mono ?_;rintro e wa0 ⟨rfl,hb⟩;rw[ak];have HA0:=zH (HTK.out.keep' hb);clear r0 r1 r2 r3 f0 f1 f2 f3 k0 k1 k2 k3 q0 q1 q2 q3 lg lt lW;clear hc hb;obtain⟨hcs,⟨r0,r1,r2,r3⟩,⟨f0,f1,f2,f3⟩,⟨k0,k1,k2,k3⟩,⟨q0,q1,q2,q3⟩,lg,lt,lW⟩:=HA0.out.facts;cases hnx:fa x
 ·clear hcs
  go_wp2_with fail;rw[show iV (fun B=>aQ key B) [[114],x,y,t]=(3,0,0,0,0)from eW (by simp[ia,hnx])];exact eC (bj HA0.out.tr.below (.int .i64 0) (.int .i64 0) (.int .i64 0) (.int .i64 0)) (bu HA0.out.tr.res (.int .i64 0) (.int .i64 0) (.int .i64 0) (.int .i64 0)) rfl rfl rfl
 ·have HNx:=zH hnx
  clear hnx;have HCS:=zH hcs;clear hcs
  go_wp2_with
   (at_builtin;refine wpList_append_own _ rfl _ _ 88 rfl (tb+1) 3 i0 (.int .i64 0) 1 8 underlying88 hi hz0 hz1 hz2 rfl dC _ 0 [] rfl (World.ownsRow_nil _ _ _ _) ⟨wa0.heap.size,0,none⟩ 1 1 [.int .i64 (ab x)] rfl rfl (cell_one_new _ _ _) (fun u hu=>by simp at hu;subst hu;rfl) (by unfold maxLen;omega) oM (by have:=HA0.out.hB;simp;omega) ?_;intro v0 wb0 hown' hgrow hnil
    have HO0:=zH hown';have HB0:=zH ((HA0.out.keep' ((Below.refl _ _).alloc (Nat.le_refl _) _)).grown hgrow (fun i hi=>by cases hi));clear hown' hgrow hnil)
  clear HCS;clear r0 r1 r2 r3 f0 f1 f2 f3 k0 k1 k2 k3 q0 q1 q2 q3 lg lt lW;obtain⟨hcs,⟨r0,r1,r2,r3⟩,⟨f0,f1,f2,f3⟩,⟨k0,k1,k2,k3⟩,⟨q0,q1,q2,q3⟩,lg,lt,lW⟩:=HB0.out.facts;have hc:=hcs 2 (by simp);simp at hc;clear hcs;rw[rounds_succ];go_wp2_with fail;go_at_call 249;refine(lw (ah y) _ hy HB0.out.tr.tens HB0.out.tr.errs).mono ?_;rintro e wa1 ⟨rfl,hb⟩;rw[ak];have HA1:=zH (HB0.out.keep' hb);have hown:=kh HO0.out hb;clear r0 r1 r2 r3 f0 f1 f2 f3 k0 k1 k2 k3 q0 q1 q2 q3 lg lt lW;clear hc hb;obtain⟨hcs,⟨r0,r1,r2,r3⟩,⟨f0,f1,f2,f3⟩,⟨k0,k1,k2,k3⟩,⟨q0,q1,q2,q3⟩,lg,lt,lW⟩:=HA1.out.facts;cases hny:fa y
  ·clear hcs
   go_wp2_with fail;rw[show iV (fun B=>aQ key B) [[114],x,y,t]=(3,0,0,0,0)from eW (by simp[ia,HNx.out,hny])];exact eC (bj HA1.out.tr.below (.int .i64 0) (.int .i64 0) (.int .i64 0) (.int .i64 0)) (bu HA1.out.tr.res (.int .i64 0) (.int .i64 0) (.int .i64 0) (.int .i64 0)) rfl rfl rfl
  ·have HNy:=zH hny
   have hownB:=hown.lt;clear hny;have HCS:=zH hcs;clear hcs
   go_wp2_with
    (at_builtin;refine wpList_append_own _ rfl _ _ 88 rfl (tb+1) 3 i0 (.int .i64 0) 1 8 underlying88 hi hz0 hz1 hz2 rfl dC _ 1 [.int .i64 (ab x)] rfl (hown.alloc _) ⟨wa1.heap.size,0,none⟩ 1 1 [.int .i64 (ab y)] rfl rfl (cell_one_new _ _ _) (fun u hu=>by simp at hu;subst hu;rfl) (by unfold maxLen;omega) oM (by have:=HA1.out.hB;simp;omega) ?_;intro v1 wb1 hown' hgrow hnil
     have HO1:=zH hown';have HB1:=zH ((HA1.out.keep' ((Below.refl _ _).alloc (Nat.le_refl _) _)).grown hgrow (fun i hi=>(hownB i hi).1));clear hown' hgrow hnil)
   clear HCS;clear r0 r1 r2 r3 f0 f1 f2 f3 k0 k1 k2 k3 q0 q1 q2 q3 lg lt lW;obtain⟨hcs,⟨r0,r1,r2,r3⟩,⟨f0,f1,f2,f3⟩,⟨k0,k1,k2,k3⟩,⟨q0,q1,q2,q3⟩,lg,lt,lW⟩:=HB1.out.facts;clear hownB;rw[rounds_succ];have hc:=hcs 3 (by simp);simp at hc;clear hcs;have hts:=av t;have HTT:=zH (ak t);have HTR1:=zH (fun(w:World) (hh:t.all (pl.contains ·)=true)=>(ja ⟨#[48,49,50,51,52,53,54,55,56,57,97,98,99,100,101,102]⟩ (ah t) w oM dC (ascii_of_all dC)).1 (by rw[ak];exact hh));have HTR2:=zH (fun(w:World) (hh:t.all (pl.contains ·)=false)=>(ja ⟨#[48,49,50,51,52,53,54,55,56,57,97,98,99,100,101,102]⟩ (ah t) w oM dC (ascii_of_all dC)).2 (by rw[ak];exact hh));generalize ah t=TT at*
   by_cases h16:t.length=16
   ·have e16:((TT.size:Int) != 16)=false:=by simp;omega
    have H16:=zH h16;clear hts;cases hhex:t.all (pl.contains ·)
    ·have HT:=zH (fun w=>HTR2.out w hhex)
     have HX:=zH hhex;clear hhex HTR1 HTR2
     go_wp2_with
      (go_at_call 219;refine(HT.out _).mono ?_;rintro e wc ⟨⟨z,rfl,hz⟩,hb⟩
       have HC:=zH (HB1.out.keep' hb);clear r0 r1 r2 r3 f0 f1 f2 f3 k0 k1 k2 k3 q0 q1 q2 q3 lg lt lW;clear hb;obtain⟨_,⟨r0,r1,r2,r3⟩,⟨f0,f1,f2,f3⟩,_,_,_,_,lW⟩:=HC.out.facts)
     rw[vJ HNx.out HNy.out,if_neg (xV HX.out)];exact eC (bj HC.out.tr.below (.int .i64 0) (.int .i64 0) (.int .i64 0) (.int .i64 0)) (bu HC.out.tr.res (.int .i64 0) (.int .i64 0) (.int .i64 0) (.int .i64 0)) rfl rfl rfl
    ·have HT:=zH (fun w=>HTR1.out w hhex)
     have HX:=zH hhex;clear hhex HTR1 HTR2;have hown:=HO1.out;have HOO:=HO1
     go_wp2_with
      (go_at_call 219;refine(HT.out _).mono ?_;rintro e wc ⟨rfl,hb⟩
       have HC:=zH (HB1.out.keep' hb);have HO:=zH (kh HOO.out hb);clear r0 r1 r2 r3 f0 f1 f2 f3 k0 k1 k2 k3 q0 q1 q2 q3 lg lt lW;clear hb;obtain⟨hcs,⟨r0,r1,r2,r3⟩,⟨f0,f1,f2,f3⟩,⟨k0,k1,k2,k3⟩,⟨q0,q1,q2,q3⟩,lg,lt,lW⟩:=HC.out.facts;clear hcs)
     rcases HO.out.2 with⟨_,e0⟩|⟨gn,capn,cur,rfl,hgn,hbn,hn1,hn2,hn3,hn4⟩
     ·cases e0
     have c0:=HO.out.cellAt 0 oM;have c1:=HO.out.cellAt 1 oM;simp at c0 c1;have lgn:gn<wc.heap.size:=aj.lt (t:=3) (cs:=cur) hbn;have gnt:tb≠gn:=by omega
     have gnt':gn≠tb:=by omega
     clear hbn hn4;have HTE:=zH (TE.of_tk HC.out oM lten)
     go_region
     go_wp2_with fail;have HT4:Hid (TE W tb #[.int .i64 1,.int .i64 (ab x),.int .i64 (ab y),.int .i64 0] (((wc.setCell ⟨tb,1,none⟩ (.int .i64 (ab x))).setCell ⟨tb,2,none⟩ (.int .i64 (ab y))).drew)):=zH (TE.drew ((HTE.out.set 1 (.int .i64 (ab x))).set 2 (.int .i64 (ab y))));generalize (((wc.setCell ⟨tb,1,none⟩ (.int .i64 (ab x))).setCell ⟨tb,2,none⟩ (.int .i64 (ab y))).drew)=w4 at*;clear r0 r1 r2 r3 f0 f1 f2 f3 k0 k1 k2 k3 q0 q1 q2 q3 lg lt lW HTE HC HO;clear c0 c1 lgn gnt gnt';have hrt:=FX HNx.out HNy.out;have HBD:=zH (mX 1 (ab x) (ab y) 0 w4 HT4.out.tens hrt);unfold v4 at HBD;have hbs:=i8 _ _ _ _ hrt;clear hrt;have HBE:=zH (FW HNx.out HNy.out);have HTG:=zH (fun w=>rN key (bz 1 (ab x) (ab y) 0) w oM);have hsz:=jV key (bz 1 (ab x) (ab y) 0);have hts2:TT.size≤1000000:=by have:=congrArg List.length HTT.out;rw[aq]at this;omega
     have HSM:=zH (fun w=>ww TT (ke key (bz 1 (ab x) (ab y) 0)) w hts2 oM);have HEQ:=zH (E7 key HTT.out HBE.out);clear hbs hsz hts2;generalize bz 1 (ab x) (ab y) 0=BS at*;generalize ke key BS=TG at*;go_at_call 192;refine HBD.out.mono ?_;rintro e w5 ⟨rfl,hb5⟩;have HT5:=zH (HT4.out.keep hb5);clear hb5;go_wp2_with fail;go_at_call 107;refine(HTG.out _).mono ?_;rintro e w6 ⟨rfl,hb6⟩;have HT6:=zH (HT5.out.keep hb6);clear hb6;go_wp2_with fail;go_at_call 250;refine(HSM.out _).mono ?_;rintro e w7 ⟨rfl,hb7⟩;have HT7:=zH (HT6.out.keep (qA hb7));clear hb7;obtain⟨⟨r0,r1,r2,r3⟩,⟨f0,f1,f2,f3⟩,⟨k0,k1,k2,k3⟩,lW,lt⟩:=HT7.out.facts;cases hq:decide (TT=TG)
     ·have HQ:=zH hq
      have hne:=HEQ.out;rw[hq]at hne;clear hq;have HNE:=zH hne;clear hne;go_wp2_with fail;rw[vJ HNx.out HNy.out,if_pos (lG H16.out HX.out),if_neg (by simpa using HNE.out)];exact eC (bj HT7.out.below (.int .i64 0) (.int .i64 0) (.int .i64 0) (.int .i64 0)) (bu HT7.out.res (.int .i64 0) (.int .i64 0) (.int .i64 0) (.int .i64 0)) rfl rfl rfl
     ·have HQ:=zH hq
      have hne:=HEQ.out;rw[hq]at hne;clear hq;have HNE:=zH hne;clear hne;go_wp2_with fail;rw[vJ HNx.out HNy.out,if_pos (lG H16.out HX.out),if_pos (by simpa using HNE.out)];exact eC (bj HT7.out.below _ _ _ _) (bu HT7.out.res _ _ _ _) rfl rfl rfl
   ·have e16:((TT.size:Int) != 16)=true:=by simp;omega
    clear hts;have H16:=zH h16;clear h16;go_wp2_with fail;rw[show iV (fun B=>aQ key B) [[114],x,y,t]=(3,0,0,0,0)from by rw[vJ HNx.out HNy.out,if_neg (we H16.out)]];exact eC (bj HB1.out.tr.below (.int .i64 0) (.int .i64 0) (.int .i64 0) (.int .i64 0)) (bu HB1.out.tr.res (.int .i64 0) (.int .i64 0) (.int .i64 0) (.int .i64 0)) rfl rfl rfl
theorem BJ (key:Int) (s:ByteArray) (W:World) (hs:s.size≤5000) (hm:dt W) (hT:bH W) (hv:bf W) (x y z t:List UInt8) (hL:parts 46 s.data.toList=[[97],x,y,z,t]):
  Calls prog 225 #[.int .i64 key,.string s] W (nj W (iV (fun B=>aQ key B) [[97],x,y,z,t])):=by
 have H:=zH (jO key s W hs hm hT hv);have hlen: ∀ w∈[[97],x,y,z,t],w.length≤5000:=by rw[←hL];exact be 46 _ _ (by rw[aq];exact hs)
 rw[hL]at H;have hx:(ah x).size≤1000000:=by rw[av];have:=hlen x (by simp);omega
 have hy:(ah y).size≤1000000:=by rw[av];have:=hlen y (by simp);omega
 have hz:(ah z).size≤1000000:=by rw[av];have:=hlen z (by simp);omega
 have ht:t.length≤5000:=hlen t (by simp);obtain⟨i0,hi,hz0,hz1,hz2⟩:=info_parts Ap;have e1:((ah [97]).toList == [97])=true:=by rw[bn];decide
 have lten:=hT.lt;clear hm hT hv hL hlen;go_enter Tryz.func225,Tryz.ntmps225;go_wp2_with fail;go_at_call 13;refine H.out.mono ?_;rintro e w1 ⟨v,rfl,h⟩;obtain⟨g,cap,rfl,hcap,hmax,hg1,hg2,hrl,hcells,_,_,_,_,_⟩:=h.facts;have HTK:=zH (TK.start h hg1 hg2 2);have hc0:=hcells 0 (by simp);clear h hcells;simp only[List.length_cons,List.length_nil,Nat.zero_add,Nat.reduceAdd,List.getD_cons_zero]at hc0 hcap;generalize ah [97]=rr at*;go_wp2_with fail;have hB0:w1.heap.size+1=(w1.alloc (.cells #[.int .i64 2,.int .i64 0,.int .i64 0,.int .i64 0] 182)).heap.size:=by simp
 generalize w1.alloc (.cells #[.int .i64 2,.int .i64 0,.int .i64 0,.int .i64 0] 182)=w2 at*;have n1:=HTK.out.ne1;have n2:=HTK.out.ne2;have n3:=HTK.out.ne3;clear hc0 hg1 hg2;generalize w1.heap.size=tb at*;obtain⟨hcs,⟨r0,r1,r2,r3⟩,⟨f0,f1,f2,f3⟩,⟨k0,k1,k2,k3⟩,⟨q0,q1,q2,q3⟩,lg,lt,lW⟩:=HTK.out.facts;refine wp_loop_rounds 4 ?_;have hc:=hcs 1 (by simp);simp at hc;clear hcs;rw[rounds_succ];go_wp2_with fail;go_at_call 249;refine(lw (ah x) _ hx HTK.out.tr.tens HTK.out.tr.errs).mono ?_;rintro e wa0 ⟨rfl,hb⟩;rw[ak];have HA0:=zH (HTK.out.keep' hb);clear r0 r1 r2 r3 f0 f1 f2 f3 k0 k1 k2 k3 q0 q1 q2 q3 lg lt lW;clear hc hb;obtain⟨hcs,⟨r0,r1,r2,r3⟩,⟨f0,f1,f2,f3⟩,⟨k0,k1,k2,k3⟩,⟨q0,q1,q2,q3⟩,lg,lt,lW⟩:=HA0.out.facts;cases hnx:fa x
 ·clear hcs
  go_wp2_with fail;rw[show iV (fun B=>aQ key B) [[97],x,y,z,t]=(3,0,0,0,0)from eW (by simp[ia,hnx])];exact eC (bj HA0.out.tr.below (.int .i64 0) (.int .i64 0) (.int .i64 0) (.int .i64 0)) (bu HA0.out.tr.res (.int .i64 0) (.int .i64 0) (.int .i64 0) (.int .i64 0)) rfl rfl rfl
 ·have HNx:=zH hnx
  clear hnx;have HCS:=zH hcs;clear hcs
  go_wp2_with
   (at_builtin;refine wpList_append_own _ rfl _ _ 88 rfl (tb+1) 3 i0 (.int .i64 0) 1 8 underlying88 hi hz0 hz1 hz2 rfl dC _ 0 [] rfl (World.ownsRow_nil _ _ _ _) ⟨wa0.heap.size,0,none⟩ 1 1 [.int .i64 (ab x)] rfl rfl (cell_one_new _ _ _) (fun u hu=>by simp at hu;subst hu;rfl) (by unfold maxLen;omega) oM (by have:=HA0.out.hB;simp;omega) ?_;intro v0 wb0 hown' hgrow hnil
    have HO0:=zH hown';have HB0:=zH ((HA0.out.keep' ((Below.refl _ _).alloc (Nat.le_refl _) _)).grown hgrow (fun i hi=>by cases hi));clear hown' hgrow hnil)
  clear HCS;clear r0 r1 r2 r3 f0 f1 f2 f3 k0 k1 k2 k3 q0 q1 q2 q3 lg lt lW;obtain⟨hcs,⟨r0,r1,r2,r3⟩,⟨f0,f1,f2,f3⟩,⟨k0,k1,k2,k3⟩,⟨q0,q1,q2,q3⟩,lg,lt,lW⟩:=HB0.out.facts;have hc:=hcs 2 (by simp);simp at hc;clear hcs;rw[rounds_succ];go_wp2_with fail;go_at_call 249;refine(lw (ah y) _ hy HB0.out.tr.tens HB0.out.tr.errs).mono ?_;rintro e wa1 ⟨rfl,hb⟩;rw[ak];have HA1:=zH (HB0.out.keep' hb);have hown:=kh HO0.out hb;clear r0 r1 r2 r3 f0 f1 f2 f3 k0 k1 k2 k3 q0 q1 q2 q3 lg lt lW;clear hc hb;obtain⟨hcs,⟨r0,r1,r2,r3⟩,⟨f0,f1,f2,f3⟩,⟨k0,k1,k2,k3⟩,⟨q0,q1,q2,q3⟩,lg,lt,lW⟩:=HA1.out.facts;cases hny:fa y
  ·clear hcs
   go_wp2_with fail;rw[show iV (fun B=>aQ key B) [[97],x,y,z,t]=(3,0,0,0,0)from eW (by simp[ia,HNx.out,hny])];exact eC (bj HA1.out.tr.below (.int .i64 0) (.int .i64 0) (.int .i64 0) (.int .i64 0)) (bu HA1.out.tr.res (.int .i64 0) (.int .i64 0) (.int .i64 0) (.int .i64 0)) rfl rfl rfl
  ·have HNy:=zH hny
   have hownB:=hown.lt;clear hny;have HCS:=zH hcs;clear hcs
   go_wp2_with
    (at_builtin;refine wpList_append_own _ rfl _ _ 88 rfl (tb+1) 3 i0 (.int .i64 0) 1 8 underlying88 hi hz0 hz1 hz2 rfl dC _ 1 [.int .i64 (ab x)] rfl (hown.alloc _) ⟨wa1.heap.size,0,none⟩ 1 1 [.int .i64 (ab y)] rfl rfl (cell_one_new _ _ _) (fun u hu=>by simp at hu;subst hu;rfl) (by unfold maxLen;omega) oM (by have:=HA1.out.hB;simp;omega) ?_;intro v1 wb1 hown' hgrow hnil
     have HO1:=zH hown';have HB1:=zH ((HA1.out.keep' ((Below.refl _ _).alloc (Nat.le_refl _) _)).grown hgrow (fun i hi=>(hownB i hi).1));clear hown' hgrow hnil)
   clear HCS;clear r0 r1 r2 r3 f0 f1 f2 f3 k0 k1 k2 k3 q0 q1 q2 q3 lg lt lW;obtain⟨hcs,⟨r0,r1,r2,r3⟩,⟨f0,f1,f2,f3⟩,⟨k0,k1,k2,k3⟩,⟨q0,q1,q2,q3⟩,lg,lt,lW⟩:=HB1.out.facts;clear hownB;have hc:=hcs 3 (by simp);simp at hc;clear hcs;rw[rounds_succ];go_wp2_with fail;go_at_call 249;refine(lw (ah z) _ hz HB1.out.tr.tens HB1.out.tr.errs).mono ?_;rintro e wa2 ⟨rfl,hb⟩;rw[ak];have HA2:=zH (HB1.out.keep' hb);have hown:=kh HO1.out hb;clear r0 r1 r2 r3 f0 f1 f2 f3 k0 k1 k2 k3 q0 q1 q2 q3 lg lt lW;clear hc hb;obtain⟨hcs,⟨r0,r1,r2,r3⟩,⟨f0,f1,f2,f3⟩,⟨k0,k1,k2,k3⟩,⟨q0,q1,q2,q3⟩,lg,lt,lW⟩:=HA2.out.facts;cases hnz:fa z
   ·clear hcs
    go_wp2_with fail;rw[show iV (fun B=>aQ key B) [[97],x,y,z,t]=(3,0,0,0,0)from eW (by simp[ia,HNx.out,HNy.out,hnz])];exact eC (bj HA2.out.tr.below (.int .i64 0) (.int .i64 0) (.int .i64 0) (.int .i64 0)) (bu HA2.out.tr.res (.int .i64 0) (.int .i64 0) (.int .i64 0) (.int .i64 0)) rfl rfl rfl
   ·have HNz:=zH hnz
    have hownB:=hown.lt;clear hnz;have HCS:=zH hcs;clear hcs
    go_wp2_with
     (at_builtin;refine wpList_append_own _ rfl _ _ 88 rfl (tb+1) 3 i0 (.int .i64 0) 1 8 underlying88 hi hz0 hz1 hz2 rfl dC _ 2 [.int .i64 (ab x),.int .i64 (ab y)] rfl (hown.alloc _) ⟨wa2.heap.size,0,none⟩ 1 1 [.int .i64 (ab z)] rfl rfl (cell_one_new _ _ _) (fun u hu=>by simp at hu;subst hu;rfl) (by unfold maxLen;omega) oM (by have:=HA2.out.hB;simp;omega) ?_;intro v2 wb2 hown' hgrow hnil
      have HO2:=zH hown';have HB2:=zH ((HA2.out.keep' ((Below.refl _ _).alloc (Nat.le_refl _) _)).grown hgrow (fun i hi=>(hownB i hi).1));clear hown' hgrow hnil)
    clear HCS;clear r0 r1 r2 r3 f0 f1 f2 f3 k0 k1 k2 k3 q0 q1 q2 q3 lg lt lW;obtain⟨hcs,⟨r0,r1,r2,r3⟩,⟨f0,f1,f2,f3⟩,⟨k0,k1,k2,k3⟩,⟨q0,q1,q2,q3⟩,lg,lt,lW⟩:=HB2.out.facts;clear hownB;rw[rounds_succ];have hc:=hcs 4 (by simp);simp at hc;clear hcs;have hts:=av t;have HTT:=zH (ak t);have HTR1:=zH (fun(w:World) (hh:t.all (pl.contains ·)=true)=>(ja ⟨#[48,49,50,51,52,53,54,55,56,57,97,98,99,100,101,102]⟩ (ah t) w oM dC (ascii_of_all dC)).1 (by rw[ak];exact hh));have HTR2:=zH (fun(w:World) (hh:t.all (pl.contains ·)=false)=>(ja ⟨#[48,49,50,51,52,53,54,55,56,57,97,98,99,100,101,102]⟩ (ah t) w oM dC (ascii_of_all dC)).2 (by rw[ak];exact hh));generalize ah t=TT at*
    by_cases h16:t.length=16
    ·have e16:((TT.size:Int) != 16)=false:=by simp;omega
     have H16:=zH h16;clear hts;cases hhex:t.all (pl.contains ·)
     ·have HT:=zH (fun w=>HTR2.out w hhex)
      have HX:=zH hhex;clear hhex HTR1 HTR2
      go_wp2_with
       (go_at_call 219;refine(HT.out _).mono ?_;rintro e wc ⟨⟨z,rfl,hz⟩,hb⟩
        have HC:=zH (HB2.out.keep' hb);clear r0 r1 r2 r3 f0 f1 f2 f3 k0 k1 k2 k3 q0 q1 q2 q3 lg lt lW;clear hb;obtain⟨_,⟨r0,r1,r2,r3⟩,⟨f0,f1,f2,f3⟩,_,_,_,_,lW⟩:=HC.out.facts)
      rw[u6 HNx.out HNy.out HNz.out,if_neg (xV HX.out)];exact eC (bj HC.out.tr.below (.int .i64 0) (.int .i64 0) (.int .i64 0) (.int .i64 0)) (bu HC.out.tr.res (.int .i64 0) (.int .i64 0) (.int .i64 0) (.int .i64 0)) rfl rfl rfl
     ·have HT:=zH (fun w=>HTR1.out w hhex)
      have HX:=zH hhex;clear hhex HTR1 HTR2;have hown:=HO2.out;have HOO:=HO2
      go_wp2_with
       (go_at_call 219;refine(HT.out _).mono ?_;rintro e wc ⟨rfl,hb⟩
        have HC:=zH (HB2.out.keep' hb);have HO:=zH (kh HOO.out hb);clear r0 r1 r2 r3 f0 f1 f2 f3 k0 k1 k2 k3 q0 q1 q2 q3 lg lt lW;clear hb;obtain⟨hcs,⟨r0,r1,r2,r3⟩,⟨f0,f1,f2,f3⟩,⟨k0,k1,k2,k3⟩,⟨q0,q1,q2,q3⟩,lg,lt,lW⟩:=HC.out.facts;clear hcs)
      rcases HO.out.2 with⟨_,e0⟩|⟨gn,capn,cur,rfl,hgn,hbn,hn1,hn2,hn3,hn4⟩
      ·cases e0
      have c0:=HO.out.cellAt 0 oM;have c1:=HO.out.cellAt 1 oM;have c2:=HO.out.cellAt 2 oM;simp at c0 c1 c2;have lgn:gn<wc.heap.size:=aj.lt (t:=3) (cs:=cur) hbn;have gnt:tb≠gn:=by omega
      have gnt':gn≠tb:=by omega
      clear hbn hn4;have HTE:=zH (TE.of_tk HC.out oM lten)
      go_region
      go_wp2_with fail;have HT4:Hid (TE W tb #[.int .i64 2,.int .i64 (ab x),.int .i64 (ab y),.int .i64 (ab z)] (((wc.setCell ⟨tb,1,none⟩ (.int .i64 (ab x))).setCell ⟨tb,2,none⟩ (.int .i64 (ab y))).setCell ⟨tb,3,none⟩ (.int .i64 (ab z))).drew):=zH (TE.drew (((HTE.out.set 1 (.int .i64 (ab x))).set 2 (.int .i64 (ab y))).set 3 (.int .i64 (ab z))));generalize (((wc.setCell ⟨tb,1,none⟩ (.int .i64 (ab x))).setCell ⟨tb,2,none⟩ (.int .i64 (ab y))).setCell ⟨tb,3,none⟩ (.int .i64 (ab z))).drew=w4 at*;clear r0 r1 r2 r3 f0 f1 f2 f3 k0 k1 k2 k3 q0 q1 q2 q3 lg lt lW HTE HC HO;clear c0 c1 c2 lgn gnt gnt';have hrt:=GV HNx.out HNy.out HNz.out;have HBD:=zH (mX 2 (ab x) (ab y) (ab z) w4 HT4.out.tens hrt);unfold v4 at HBD;have hbs:=i8 _ _ _ _ hrt;clear hrt;have HBE:=zH (Gp HNx.out HNy.out HNz.out);have HTG:=zH (fun w=>rN key (bz 2 (ab x) (ab y) (ab z)) w oM);have hsz:=jV key (bz 2 (ab x) (ab y) (ab z));have hts2:TT.size≤1000000:=by have:=congrArg List.length HTT.out;rw[aq]at this;omega
      have HSM:=zH (fun w=>ww TT (ke key (bz 2 (ab x) (ab y) (ab z))) w hts2 oM);have HEQ:=zH (E7 key HTT.out HBE.out);clear hbs hsz hts2;generalize bz 2 (ab x) (ab y) (ab z)=BS at*;generalize ke key BS=TG at*;go_at_call 192;refine HBD.out.mono ?_;rintro e w5 ⟨rfl,hb5⟩;have HT5:=zH (HT4.out.keep hb5);clear hb5;go_wp2_with fail;go_at_call 107;refine(HTG.out _).mono ?_;rintro e w6 ⟨rfl,hb6⟩;have HT6:=zH (HT5.out.keep hb6);clear hb6;go_wp2_with fail;go_at_call 250;refine(HSM.out _).mono ?_;rintro e w7 ⟨rfl,hb7⟩;have HT7:=zH (HT6.out.keep (qA hb7));clear hb7;obtain⟨⟨r0,r1,r2,r3⟩,⟨f0,f1,f2,f3⟩,⟨k0,k1,k2,k3⟩,lW,lt⟩:=HT7.out.facts;cases hq:decide (TT=TG)
      ·have HQ:=zH hq
       have hne:=HEQ.out;rw[hq]at hne;clear hq;have HNE:=zH hne;clear hne;go_wp2_with fail;rw[u6 HNx.out HNy.out HNz.out,if_pos (lG H16.out HX.out),if_neg (by simpa using HNE.out)];exact eC (bj HT7.out.below (.int .i64 0) (.int .i64 0) (.int .i64 0) (.int .i64 0)) (bu HT7.out.res (.int .i64 0) (.int .i64 0) (.int .i64 0) (.int .i64 0)) rfl rfl rfl
      ·have HQ:=zH hq
       have hne:=HEQ.out;rw[hq]at hne;clear hq;have HNE:=zH hne;clear hne;go_wp2_with fail;rw[u6 HNx.out HNy.out HNz.out,if_pos (lG H16.out HX.out),if_pos (by simpa using HNE.out)];exact eC (bj HT7.out.below _ _ _ _) (bu HT7.out.res _ _ _ _) rfl rfl rfl
    ·have e16:((TT.size:Int) != 16)=true:=by simp;omega
     clear hts;have H16:=zH h16;clear h16;go_wp2_with fail;rw[show iV (fun B=>aQ key B) [[97],x,y,z,t]=(3,0,0,0,0)from by rw[u6 HNx.out HNy.out HNz.out,if_neg (we H16.out)]];exact eC (bj HB2.out.tr.below (.int .i64 0) (.int .i64 0) (.int .i64 0) (.int .i64 0)) (bu HB2.out.tr.res (.int .i64 0) (.int .i64 0) (.int .i64 0) (.int .i64 0)) rfl rfl rfl
theorem zA (key:Int) (s:ByteArray) (W:World) (hs:s.size≤5000) (hm:dt W) (hT:bH W) (hv:bf W):
  Calls prog 225 #[.int .i64 key,.string s] W (nj W (iV (fun B=>aQ key B) (parts 46 s.data.toList))):=by
 by_cases h1:(parts 46 s.data.toList).getD 0 []=[97]
 ·by_cases h2:(parts 46 s.data.toList).length=5
  ·rcases e:parts 46 s.data.toList with _|⟨a,_|⟨b,_|⟨c,_|⟨d,_|⟨t,_|⟨u,r⟩⟩⟩⟩⟩⟩
   all_goals (rw[e]at h1 h2;simp at h1 h2)
   subst h1;exact BJ key s W hs hm hT hv b c d t e
  ·rw[eW (Bf h1 h2)]
   exact kF key s W hs hm hT hv (.inr (.inl ⟨h1,h2⟩))
 ·by_cases h3:(parts 46 s.data.toList).getD 0 []=[114]
  ·by_cases h2:(parts 46 s.data.toList).length=4
   ·rcases e:parts 46 s.data.toList with _|⟨a,_|⟨b,_|⟨c,_|⟨d,_|⟨u,r⟩⟩⟩⟩⟩
    all_goals (rw[e]at h3 h2;simp at h3 h2)
    subst h3;exact Bu key s W hs hm hT hv b c d e
   ·rw[eW (Cp h3 h2)]
    exact kF key s W hs hm hT hv (.inr (.inr ⟨h3,h2⟩))
  ·rw[eW (Bt h1 h3)]
   exact kF key s W hs hm hT hv (.inl ⟨h1,h3⟩)
end Go.Proofs.YtepjcdjpikbbjaaGreatDoor
