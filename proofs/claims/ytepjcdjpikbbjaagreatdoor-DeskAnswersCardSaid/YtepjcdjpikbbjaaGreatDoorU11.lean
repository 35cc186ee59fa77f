/-
  event.Name and the reference's Name.
-/
import Derived.Test.YtepjcdjpikbbjaaGreatDoorU00
import Derived.Test.YtepjcdjpikbbjaaGreatDoorU01
import Derived.Test.YtepjcdjpikbbjaaGreatDoorU06
import Derived.Test.YtepjcdjpikbbjaaGreatDoorU10
import Derived.Test.YtepjcdjpikbbjaaGreatDoorU05
import Derived.Test.YtepjcdjpikbbjaaGreatDoorU07
import Derived.BigQuiet
import Derived.Deep.RegionHeld3
import Derived.Lib.IndexBytes
set_option maxHeartbeats 16000000
set_option maxRecDepth 100000
namespace Go.Proofs.YtepjcdjpikbbjaaGreatDoor
open Go.Proofs.Tryz
open Go.RowKit Go.Sort
theorem AZ (x:ByteArray) (w:World) (hx:x.size≤1000000):
  (x.data.toList.all iO=true→Calls prog 219 #[.string x,.string ⟨#[97,98,99,100,101,102,103,104,105,106,107,108,109,110,111,112,113,114,115,116,117,118,119,120,121,122,48,49,50,51,52,53,54,55,56,57,45]⟩] w fun e w'=>e=.returned (.string ⟨#[]⟩)∧Below w.heap.size w w')∧
  (x.data.toList.all iO=false→Calls prog 219 #[.string x,.string ⟨#[97,98,99,100,101,102,103,104,105,106,107,108,109,110,111,112,113,114,115,116,117,118,119,120,121,122,48,49,50,51,52,53,54,55,56,57,45]⟩] w fun e w'=>rm e∧Below w.heap.size w w'):=
 ja Hh x w hx dC (ascii_of_all dC)
theorem mx (s:ByteArray) (W:World) (hs:s.size≤5000):Calls prog 178 #[.string s] W fun e w'=>e=.returned (.bool (bF s.data.toList))∧Below W.heap.size W w':=by
 have HN:=zH (rE s);have hT:=AZ s W oM
 by_cases h0:s.size<1
 ·clear hT
  go_enter Tryz.func178,Tryz.ntmps178;go_wp2_with fail;go_ret;refine⟨?_,Below.refl _ _⟩;rw[HN.out,show decide (1≤(s.size:Int))=false by simp;omega];rfl
 ·by_cases h1:20<s.size
  ·clear hT
   go_enter Tryz.func178,Tryz.ntmps178;go_wp2_with fail;go_ret;refine⟨?_,Below.refl _ _⟩;rw[HN.out,show decide ((s.size:Int)≤20)=false by simp;omega];simp
  ·have HX:=zH (show(decide (1≤(s.size:Int))&&decide ((s.size:Int)≤20))=true by simp;omega)
   cases ha:s.data.toList.all iO
   ·have HT:=zH (hT.2 ha)
    have HA:=zH ha;clear hT ha;go_enter Tryz.func178,Tryz.ntmps178
    go_wp2_with
     (go_at_call 219;refine HT.out.mono ?_;rintro e w2 ⟨⟨z,rfl,hz⟩,hb2⟩
      have HB:=zH hb2;clear hb2)
    go_ret;refine⟨?_,HB.out⟩;rw[HN.out,HX.out,HA.out];rfl
   ·have HT:=zH (hT.1 ha)
    have HA:=zH ha;clear hT ha;go_enter Tryz.func178,Tryz.ntmps178
    go_wp2_with
     (go_at_call 219;refine HT.out.mono ?_;rintro e w2 ⟨rfl,hb2⟩
      have HB:=zH hb2;clear hb2)
    go_ret;refine⟨?_,HB.out⟩;rw[HN.out,HX.out,HA.out];rfl
structure ER (T:TypeId) (W:World) (e:Ev) (w:World):Prop where
 below:Below W.heap.size W w
 maxl:dt w
 ev:aj w W.heap.size T (ax e)
 fam:aj w (W.heap.size+1) 95 (af e.fam)
theorem ER.keep {T:TypeId} {W w w':World} {e:Ev} (h:ER T W e w) (hb:Below w.heap.size w w'):ER T W e w':=
 ⟨ae h.below hb,h.maxl.below' hb,h.ev.below' hb,h.fam.below' hb⟩
theorem ER.start {T:TypeId} {W:World} (hm:dt W) (e:Ev):ER T W e ((W.alloc (.cells (ax e) T)).alloc (.cells (af e.fam) 95)):=by
 have hb:Below W.heap.size W ((W.alloc (.cells (ax e) T)).alloc (.cells (af e.fam) 95)):=((Below.refl _ _).alloc (Nat.le_refl _) _).alloc (by simp) _;refine⟨hb,hm.below' hb,(aj.new W _ _).alloc _,?_⟩;have:=aj.new (W.alloc (.cells (ax e) T)) 95 (af e.fam);simpa using this
theorem ER.cells {T:TypeId} {W w:World} {k i:Int} {cl su sc:ByteArray} {ge ma us:Int} {re:ByteArray} {de:Bool} {id ti:Int} (h:ER T W ⟨k,⟨i,cl,su,sc,ge,ma,us,re,de⟩,id,ti⟩ w):
  w.cell? ⟨W.heap.size,0,none⟩=some (.int .i64 k)∧w.cell? ⟨W.heap.size,10,none⟩=some (.int .i64 id)∧w.cell? ⟨W.heap.size,11,none⟩=some (.int .i64 ti)∧
  w.cell? ⟨W.heap.size+1,0,none⟩=some (.int .i64 i)∧w.cell? ⟨W.heap.size+1,1,none⟩=some (.string cl)∧w.cell? ⟨W.heap.size+1,2,none⟩=some (.string su)∧w.cell? ⟨W.heap.size+1,3,none⟩=some (.string sc)∧w.cell? ⟨W.heap.size+1,4,none⟩=some (.int .i64 ge)∧
  w.cell? ⟨W.heap.size+1,5,none⟩=some (.int .i64 ma)∧w.cell? ⟨W.heap.size+1,6,none⟩=some (.int .i64 us)∧w.cell? ⟨W.heap.size+1,7,none⟩=some (.string re)∧w.cell? ⟨W.heap.size+1,8,none⟩=some (.bool de):=
 ⟨h.ev.cell 0,h.ev.cell 10,h.ev.cell 11,h.fam.cell 0,h.fam.cell 1,h.fam.cell 2,h.fam.cell 3,h.fam.cell 4,h.fam.cell 5,h.fam.cell 6,h.fam.cell 7,h.fam.cell 8⟩
theorem Cw (e:Ev) (W:World) (hk:e.kind=1) (hs:e.fam.short 5000) (hm:dt W):
  Calls prog 159 #[aE e] W fun x w'=>x=.returned (.bool (dp e))∧Below W.heap.size W w':=by
 have hr:dp e=(decide (e.id=0)&&decide (e.time=0)&&gy e.fam):=by unfold dp;rw[if_pos hk]
 have HS:=zH (ER.start (T:=116) hm e);obtain⟨k,⟨i,cl,su,sc,ge,ma,us,re,de⟩,id,ti⟩:=e;dsimp only at hk;subst hk;obtain⟨s1,s2,s3,s4⟩:=hs;dsimp only at s1 s2 s3 s4 hr;unfold gy at hr;dsimp only at hr;have h1:(id == 0)=decide (id=0):=by rw[Bool.eq_iff_iff];simp
 have h2:(ti == 0)=decide (ti=0):=by rw[Bool.eq_iff_iff];simp
 have HW:Hid (∀ (g:Nat) (w:World),aJ w g [i,ge,ma,us]→Calls prog 205 #[.slice (some ⟨g,0,none⟩) 4 4] w fun e w'=>e=.returned (.bool ([i,ge,ma,us].all ba))∧Below w.heap.size w w'):=zH fun g w h=>ug g 4 [i,ge,ma,us] w h (show 4≤1000000 by decide)
 rw[Aj]at HW;have HN1:=zH (fun w=>mx cl w s1);have HN2:=zH (fun w=>mx su w s2);have HN3:=zH (fun w=>mx re w s4);have HL:=zH (fun w (h:dt w)=>fo sc w s3 h);have h6:=hC (s:=re);have h8:=xP (ah (aT sc.data.toList)) sc _ rfl;have h9:kP sc.data.toList=(decide (aw sc.data.toList=0)&&decide (aT sc.data.toList=sc.data.toList)):=rfl;have h10:qF re.data.toList=(decide (re.data.toList=[]) || bF re.data.toList):=rfl;rw[h9,h10]at hr;clear hm h9 h10;generalize ah (aT sc.data.toList)=y at*;have hb:(ba i&&ba ge&&ba ma&&ba us&&bF cl.data.toList&&bF su.data.toList&&(decide (re.data.toList=[]) || bF re.data.toList)&&(decide (aw sc.data.toList=0)&&decide (aT sc.data.toList=sc.data.toList)))=((ba i&&ba ge&&ba ma&&ba us)&&bF cl.data.toList&&bF su.data.toList&&(decide (re.data.toList=[]) || bF re.data.toList)&&(decide (aw sc.data.toList=0)&&decide (aT sc.data.toList=sc.data.toList))):=rfl;rw[hb]at hr;clear hb
 have hE:(decide (aw sc.data.toList=0)=true∧bV (aw sc.data.toList)=.nilIface)∨(decide (aw sc.data.toList=0)=false∧ ∃ n,bV (aw sc.data.toList)=.iface 57 (.int .i64 n)):=by
  by_cases h:aw sc.data.toList=0
  ·exact .inl ⟨by simpa using h,if_pos h⟩
  ·exact .inr ⟨by simpa using h,_,if_neg h⟩
 generalize bV (aw sc.data.toList)=ev at*;generalize decide (aw sc.data.toList=0)=b8 at*;generalize decide (aT sc.data.toList=sc.data.toList)=b9 at*;generalize bF cl.data.toList=b4 at*;generalize bF su.data.toList=b5 at*;generalize bF re.data.toList=b7 at*;generalize decide (re.data.toList=[])=b6 at*;generalize (ba i&&ba ge&&ba ma&&ba us)=b3 at*;generalize decide (id=0)=b1 at*;generalize decide (ti=0)=b2 at*;have HR:=zH hr;have H1:=zH h1;have H2:=zH h2;have H6:=zH h6;clear hr h1 h2 h6;unfold aE ax;dsimp only;go_enter Tryz.func159,Tryz.ntmps159;go_wp2_with fail;have HC:=HS;go_at_call 126;refine(HL.out _ HC.out.maxl).mono ?_;rintro x w' ⟨rfl,hb⟩;have HC:=zH (HC.out.keep hb);clear hb;obtain⟨c0,c1,c2,d0,d1,d2,d3,d4,d5,d6,d7,d8⟩:=HC.out.cells;have h1:=H1.out;clear H1;cases b1
 ·go_wp2_with fail
  go_ret;exact⟨by rw[HR.out];first|rfl|simp,HC.out.below⟩
 have h2:=H2.out;clear H2;cases b2
 ·go_wp2_with fail
  go_ret;exact⟨by rw[HR.out];first|rfl|simp,HC.out.below⟩
 go_wp2_with fail;go_at_call 205;refine(HW.out _ _ (eI _ 3 [i,ge,ma,us])).mono ?_;rintro x w' ⟨rfl,hb⟩;have HC:=zH ((HC.out.keep ((Below.refl _ _).alloc (Nat.le_refl _) (.cells #[.int .i64 i,.int .i64 ge,.int .i64 ma,.int .i64 us] 3))).keep hb);clear hb c0 c1 c2 d0 d1 d2 d3 d4 d5 d6 d7 d8;obtain⟨c0,c1,c2,d0,d1,d2,d3,d4,d5,d6,d7,d8⟩:=HC.out.cells;cases b3
 ·go_wp2_with fail
  go_ret;exact⟨by rw[HR.out];first|rfl|simp,HC.out.below⟩
 go_wp2_with fail;go_at_call 178;refine(HN1.out _).mono ?_;rintro x w' ⟨rfl,hb⟩;have HC:=zH (HC.out.keep hb);clear hb c0 c1 c2 d0 d1 d2 d3 d4 d5 d6 d7 d8;obtain⟨c0,c1,c2,d0,d1,d2,d3,d4,d5,d6,d7,d8⟩:=HC.out.cells;cases b4
 ·go_wp2_with fail
  go_ret;exact⟨by rw[HR.out];first|rfl|simp,HC.out.below⟩
 go_wp2_with fail;go_at_call 178;refine(HN2.out _).mono ?_;rintro x w' ⟨rfl,hb⟩;have HC:=zH (HC.out.keep hb);clear hb c0 c1 c2 d0 d1 d2 d3 d4 d5 d6 d7 d8;obtain⟨c0,c1,c2,d0,d1,d2,d3,d4,d5,d6,d7,d8⟩:=HC.out.cells;cases b5
 ·go_wp2_with fail
  go_ret;exact⟨by rw[HR.out];first|rfl|simp,HC.out.below⟩
 have h6:=H6.out;clear H6;cases b6
 ·go_wp2_with fail
  go_at_call 178;refine(HN3.out _).mono ?_;rintro x w' ⟨rfl,hb⟩;have HC:=zH (HC.out.keep hb);clear hb c0 c1 c2 d0 d1 d2 d3 d4 d5 d6 d7 d8;obtain⟨c0,c1,c2,d0,d1,d2,d3,d4,d5,d6,d7,d8⟩:=HC.out.cells;cases b7
  ·go_wp2_with fail
   go_ret;exact⟨by rw[HR.out];first|rfl|simp,HC.out.below⟩
  rcases hE with⟨rfl,rfl⟩|⟨rfl,n,rfl⟩
  all_goals
   go_wp2_with fail;go_ret;exact⟨by rw[HR.out];first|rfl|simp,HC.out.below⟩
 ·rcases hE with⟨rfl,rfl⟩|⟨rfl,n,rfl⟩
  all_goals
   go_wp2_with fail;go_ret;exact⟨by rw[HR.out];first|rfl|simp,HC.out.below⟩
theorem rY (e:Ev) (W:World) (hk:e.kind=2∨e.kind=3):
  Calls prog 159 #[aE e] W fun x w'=>x=.returned (.bool (dp e))∧Below W.heap.size W w':=by
 obtain⟨a,b,hab⟩: ∃ a b,((e.kind=2∧a=e.time∧b=e.id)∨(e.kind=3∧a=e.id∧b=e.time)):=by
  rcases hk with h|h
  ·exact⟨_,_,.inl ⟨h,rfl,rfl⟩⟩
  ·exact⟨_,_,.inr ⟨h,rfl,rfl⟩⟩
 have HR:=zH (uB e.kind a b e rfl hab);have HW:Hid (∀ (g:Nat) (w:World),aJ w g [b]→Calls prog 205 #[.slice (some ⟨g,0,none⟩) 1 1] w fun e w'=>e=.returned (.bool ([b].all ba))∧Below w.heap.size w w'):=zH fun g w h=>ug g 1 [b] w h (show 1≤1000000 by decide)
 rw[Hz]at HW;clear hk;obtain⟨k,f,id,ti⟩:=e;dsimp only at hab HR;have hb:b=id∨b=ti:=by rcases hab with⟨-,-,h⟩|⟨-,-,h⟩<;>simp[h]
 cases hz:f.isZero
 ·have HX:=zH hz
  have hev:Hid (dp ⟨k,f,id,ti⟩=false):=zH (by rw[HR.out,hz];rfl);clear HR hz;generalize hX:dp ⟨k,f,id,ti⟩=X at*;clear hX;obtain⟨i,cl,su,sc,ge,ma,us,re,de⟩:=f;unfold aE ax;dsimp only;rcases hab with⟨rfl,rfl,rfl⟩|⟨rfl,rfl,rfl⟩
  all_goals
   go_enter Tryz.func159,Tryz.ntmps159;go_wp2_with fail
   all_goals first
    |(go_ret
      exact⟨by rw[hev.out];rfl,bZ _ _ _⟩)
    |exact(AL aS aS aS aS aS aS aS aS aS HX.out).elim
 ·obtain rfl:=an.isZero_iff.1 hz
  clear hz;have hz2:an.zero.isZero=true:=an.isZero_iff.2 rfl;rw[hz2]at HR;clear hz2;generalize hX:dp ⟨k,an.zero,id,ti⟩=X at*;clear hX;unfold aE ax an.zero;dsimp only
  by_cases h0:a=0
  ·have h0':decide (a=0)=true:=by simpa using h0
   rw[h0']at HR;rcases hab with⟨rfl,h1,rfl⟩|⟨rfl,h1,rfl⟩
   all_goals
    subst h1;subst h0;go_enter Tryz.func159,Tryz.ntmps159;go_wp2_with (go_at_call 205;refine(HW.out _ _ (IJ W _ _ 3 b)).mono ?_;rintro x w' ⟨rfl,hb⟩;have HB:=zH (Im _ _ _ hb);clear hb);go_ret;exact⟨by rw[HR.out];rfl,HB.out⟩
  ·have h0':decide (a=0)=false:=by simpa using h0
   rw[h0']at HR;have h0b:(a == 0)=false:=by simpa using h0
   rcases hab with⟨rfl,rfl,rfl⟩|⟨rfl,rfl,rfl⟩
   all_goals
    go_enter Tryz.func159,Tryz.ntmps159;go_wp2_with fail;go_ret;exact⟨by rw[HR.out];rfl,bZ _ _ _⟩
theorem Cc (e:Ev) (W:World) (h1:e.kind≠1) (h2:e.kind≠2) (h3:e.kind≠3):
  Calls prog 159 #[aE e] W fun x w'=>x=.returned (.bool (dp e))∧Below W.heap.size W w':=by
 have HR:Hid (dp e=false):=zH (by unfold dp;rw[if_neg h1,if_neg h2,if_neg h3]);obtain⟨k,⟨i,cl,su,sc,ge,ma,us,re,de⟩,id,ti⟩:=e;dsimp only at h1 h2 h3;have e1:(k == 1)=false:=by simpa using h1
 have e2:(k == 2)=false:=by simpa using h2
 have e3:(k == 3)=false:=by simpa using h3
 clear h1 h2 h3;unfold aE ax;dsimp only;go_enter Tryz.func159,Tryz.ntmps159;go_wp2_with fail;go_ret;exact⟨by rw[HR.out];rfl,bZ _ _ _⟩
theorem jv (e:Ev) (W:World) (hs:e.fam.short 5000) (hm:dt W):
  Calls prog 159 #[aE e] W fun x w'=>x=.returned (.bool (dp e))∧Below W.heap.size W w':=by
 by_cases h1:e.kind=1
 ·exact Cw e W h1 hs hm
 ·by_cases h2:e.kind=2
  ·exact rY e W (.inl h2)
  ·by_cases h3:e.kind=3
   ·exact rY e W (.inr h3)
   ·exact Cc e W h1 h2 h3
theorem Hs (d:Nat):sO d≠32:=by
 by_cases h:d<16
 ·have: ∀ n:Fin 16,sO n.1≠32:=by decide
  exact this ⟨d,h⟩
 ·unfold sO
  rw[List.getD_eq_getElem?_getD,List.getElem?_eq_none (by show za.length≤d;unfold za;simp;omega)]
  decide
theorem Au: ∀ (k n:Nat),(32:UInt8) ∉ ff k n
 |0,n=>by simp[ff]
 |k+1,n=>by
  rw[lX,List.mem_cons];rintro(h|h)
  ·exact Hs _ h.symm
  ·exact Au k n h
theorem pp:pO aQ:=⟨fun _ _=>dZ _ _,fun _ _=>Au _ _⟩
theorem mn (x:List UInt8):(kT aQ x).length=x.length+17:=by
 unfold kT;rw[List.length_append,List.length_cons,pp.len]
theorem oe (B:Nat) (v:Value) (L:List (List UInt8)) (W:World) (h:gi W B v L) (hL:L.length≤100) (hlen:(bM 32 L).length≤5000):
  Calls prog 189 #[v] W fun e w'=>e=.returned (.string (ah (kT aQ (bM 32 L))))∧Below W.heap.size W w':=by
 have HJ:=zH (lq 32 h oM oM);have hsz:(ah (bM 32 L)).size≤5000:=by rw[←aq,ak];exact hlen
 have HT:=zH (fun w=>me 0 (ah (bM 32 L)) w oM);have hdt:(ah (bM 32 L)).data.toList=bM 32 L:=ak _;rw[hdt]at HT;have hts:(⟨(aQ 0 (bM 32 L)).toArray⟩:ByteArray).size=16:=by have:=pp.len 0 (bM 32 L);simpa[ByteArray.size]using this
 have hres:(ah (bM 32 L)++⟨#[32]⟩)++(⟨(aQ 0 (bM 32 L)).toArray⟩:ByteArray)=ah (kT aQ (bM 32 L)):=by
  apply ByteArray.ext;apply Array.ext';unfold kT ah;simp
 have HR:=zH hres;clear h hL hlen hdt hres;generalize ah (kT aQ (bM 32 L))=r at*;generalize (⟨(aQ 0 (bM 32 L)).toArray⟩:ByteArray)=tg at*;generalize ah (bM 32 L)=x at*;go_enter Tryz.func189,Tryz.ntmps189;go_wp2_with fail;go_at_call 50;refine HJ.out.mono ?_;rintro e w1 ⟨rfl,hb⟩;have HB:=zH hb;clear hb HJ;go_wp2_with fail;go_at_call 107;refine(HT.out _).mono ?_;rintro e w2 ⟨rfl,hb⟩;have HB2:=zH (ae HB.out hb);clear hb HT;go_wp2_with fail;go_ret;refine⟨?_,HB2.out⟩;rw[←HR.out];rfl
def GD (W:World) (o:Option (List UInt8)) (e:Ending) (w':World):Prop:=
 (∃ x b,e=.returned (.tuple #[.string x,.bool b])∧(match o with|some l=>x=ah l∧b=true|none=>x=⟨#[]⟩∧b=false))∧Below W.heap.size W w'
theorem wW (s:ByteArray) (W:World) (hs:s.size≤5000) (h1:Lib.lastIndexByte s 32= -1):
  Calls prog 105 #[.string s] W fun e w'=>e=.returned (.tuple #[.string ⟨#[]⟩,.bool false])∧Below W.heap.size W w':=by
 have HL:=zH (fun w=>Tryz.strings_LastIndexByte s 32 oM w);rw[h1]at HL;clear h1;go_enter Tryz.func105,Tryz.ntmps105;go_wp2_with (go_at_call 155;refine(HL.out _).mono ?_;rintro e w1 ⟨rfl,rfl⟩)
 go_quiet (fail)
 go_wp2_with fail;go_ret2;exact⟨rfl,aF (Below.refl _ _) _⟩
theorem wM (s x t:ByteArray) (i:Nat) (W:World) (hs:s.size≤5000) (h1:Lib.lastIndexByte s 32=(i:Int)) (hi:i<s.size) (hx:s.extract 0 i=x) (ht:s.extract (i+1) s.size=t) (hxs:x.size≤5000):
  Calls prog 105 #[.string s] W fun e w'=>e=.returned (.tuple #[.string (if t.data.toList=aQ 0 x.data.toList then x else⟨#[]⟩),.bool (decide (t.data.toList=aQ 0 x.data.toList))])∧Below W.heap.size W w':=by
 have HL:=zH (fun w=>Tryz.strings_LastIndexByte s 32 oM w);rw[h1]at HL;have HT:=zH (fun w=>me 0 x w oM)
 have hq:(t.toList == (⟨(aQ 0 x.data.toList).toArray⟩:ByteArray).toList)=decide (t.data.toList=aQ 0 x.data.toList):=by
  rw[ByteArray.toList_eq,ByteArray.toList_eq,Bool.eq_iff_iff];simp
 have hi0: ¬ (i:Int)<0:=by omega
 have hi1:(0:Int)≤(i:Int):=by omega
 have hi2:(i:Int)≤(s.size:Int):=by omega
 have hi3:(0:Int)≤(i:Int)+1:=by omega
 have hi4:(i:Int)+1≤(s.size:Int):=by omega
 have hi5:IntKind.i64.wrap ((i:Int)+1)=(i:Int)+1:=by unfold IntKind.wrap;simp[IntKind.signed,IntKind.bits];omega
 have hi6:((i:Int)+1).toNat=i+1:=by omega
 generalize (⟨(aQ 0 x.data.toList).toArray⟩:ByteArray)=tg at*;clear h1
 by_cases hc:t.data.toList=aQ 0 x.data.toList
 all_goals
  have HC:=zH hc
  first|rw[if_pos hc]|rw[if_neg hc]
  first|rw[decide_eq_true hc]at hq ⊢ |rw[decide_eq_false hc]at hq ⊢
  clear hc;go_enter Tryz.func105,Tryz.ntmps105;go_wp2_with (go_at_call 155;refine(HL.out _).mono ?_;rintro e w1 ⟨rfl,rfl⟩)
  go_region_held3 (fun w'=>Below w1.heap.size w1 w')
   (first
    |with_reducible assumption
    |exact aF (Below.refl _ _) 1
    |exact ae aS aS)
   (first
    |(go_at_call 107;with_reducible refine(HT.out _).mono ?_;rintro e w2 ⟨rfl,hb2⟩))
  go_wp2_with fail;go_ret2;exact⟨rfl,by assumption⟩
theorem gg (s:ByteArray) (W:World) (hs:s.size≤5000):Calls prog 105 #[.string s] W (GD W (eE aQ s.data.toList)):=by
 rcases yi s with⟨h1,h2⟩|⟨i,hi,h1,h2⟩
 ·refine(wW s W hs h1).mono fun e w' ⟨he,hb⟩=>⟨⟨_,_,he,?_⟩,hb⟩
  unfold eE;rw[h2];exact⟨rfl,rfl⟩
 ·have hx:(s.extract 0 i).data.toList=s.data.toList.take i:=by rw[Lib.extract_data];simp
  have ht:(s.extract (i+1) s.size).data.toList=s.data.toList.drop (i+1):=by rw[Lib.extract_to_end]
  refine(wM s (s.extract 0 i) (s.extract (i+1) s.size) i W hs h1 hi rfl rfl (by rw[ByteArray.size_extract];omega)).mono fun e w' ⟨he,hb⟩=>⟨⟨_,_,he,?_⟩,hb⟩
  unfold eE;rw[h2];dsimp only;rw[hx,ht]
  by_cases hc:s.data.toList.drop (i+1)=aQ 0 (s.data.toList.take i)
  ·rw[if_pos hc,if_pos hc]
   refine⟨?_,by simpa using hc⟩;rw[←hx,bJ]
  ·rw[if_neg hc,if_neg hc]
   exact⟨rfl,by simpa using hc⟩
end Go.Proofs.YtepjcdjpikbbjaaGreatDoor
