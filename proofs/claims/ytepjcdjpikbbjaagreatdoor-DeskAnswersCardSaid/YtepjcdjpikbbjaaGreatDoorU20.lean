/-
  token.Write and rotorref.WriteToken.
-/
import Derived.Test.YtepjcdjpikbbjaaGreatDoorU00
import Derived.Test.YtepjcdjpikbbjaaGreatDoorU19
import Derived.Test.YtepjcdjpikbbjaaGreatDoorU18
import Derived.Test.YtepjcdjpikbbjaaGreatDoorU08
import Derived.Test.YtepjcdjpikbbjaaGreatDoorU07
import Derived.Test.YtepjcdjpikbbjaaGreatDoorU16
import Derived.Test.YtepjcdjpikbbjaaGreatDoorU01
import Derived.Test.YtepjcdjpikbbjaaGreatDoorU17
import Derived.Lib.ItoaLen
import Derived.Test.YtepjcdjpikbbjaaGreatDoorU05
import Derived.Test.YtepjcdjpikbbjaaGreatDoorU06
import Derived.RegionTactic
import Derived.ChangeAlike
import Derived.Laws.ResultCell
set_option maxHeartbeats 4000000
set_option maxRecDepth 100000
namespace Go.Proofs.YtepjcdjpikbbjaaGreatDoor
open Go.Proofs.Tryz
open Go.RowKit
def bz (a b c d:Int):ByteArray:=if a=1 then⟨#[114,46]⟩++aL b++⟨#[46]⟩++aL c else⟨#[97,46]⟩++aL b++⟨#[46]⟩++aL c++⟨#[46]⟩++aL d
theorem jD {a b c d:Int} (h:bN a b c d=true):(a=1∨(a=2∧ba d=true))∧ba b=true∧ba c=true:=by
 simp[bN]at h;obtain⟨⟨h1,h2⟩,h3⟩:=h;refine⟨?_,h2,h3⟩;rcases h1 with⟨h,_⟩|h
 ·exact .inl h
 ·exact .inr h
theorem mX (a b c d:Int) (W:World) (hT:bH W) (h:bN a b c d=true):
  Calls prog 192 #[v4 a b c d] W fun e w'=>e=.returned (.string (bz a b c d))∧Below W.heap.size W w':=by
 obtain⟨h1,hb,hc⟩:=jD h;rcases h1 with rfl|⟨rfl,hd⟩
 ·exact wB b c d W hT hb hc
 ·exact wy b c d W hT hb hc hd
theorem gx (a b c d:Int) (W:World) (hT:bH W) (h:bN a b c d=true):
  Calls prog 99 #[v4 a b c d] W fun e w'=>e=.returned (.string (bz a b c d))∧Below W.heap.size W w':=by
 obtain⟨h1,hb,hc⟩:=jD h;rcases h1 with rfl|⟨rfl,hd⟩
 ·exact BO b c d W hT hb hc
 ·exact CH b c d W hT hb hc hd
theorem i8 (a b c d:Int) (h:bN a b c d=true):(bz a b c d).size≤70:=by
 obtain⟨h1,hb,hc⟩:=jD h;have sb:=cY b hb;have sc:=cY c hc;rcases h1 with rfl|⟨rfl,hd⟩
 ·rw[bz,if_pos rfl]
  have z1:(⟨#[114,46]⟩++aL b:ByteArray).size≤2+21:=cd _ _ 2 21 dC sb;have z2:=cd _ (⟨#[46]⟩:ByteArray) _ 1 z1 dC;have z3:=cd _ (aL c) _ _ z2 sc;omega
 ·have sd:=cY d hd
  rw[bz,if_neg dC];have z1:(⟨#[97,46]⟩++aL b:ByteArray).size≤2+21:=cd _ _ 2 21 dC sb;have z2:=cd _ (⟨#[46]⟩:ByteArray) _ 1 z1 dC;have z3:=cd _ (aL c) _ _ z2 sc;have z4:=cd _ (⟨#[46]⟩:ByteArray) _ 1 z3 dC;have z5:=cd _ (aL d) _ _ z4 sd;omega
def ke (key:Int) (s:ByteArray):ByteArray:=⟨(aQ key s.data.toList).toArray⟩
theorem jV (key:Int) (s:ByteArray):(ke key s).size=16:=wk _ _
def jT (key a b c d:Int):ByteArray:=bz a b c d++⟨#[46]⟩++ke key (bz a b c d)
theorem lJ (key a b c d:Int) (W:World) (h:bN a b c d=false):
  Calls prog 136 #[.int .i64 key,v4 a b c d] W fun e w'=>e=.returned (.tuple #[.string ⟨#[]⟩,bV 1])∧Below W.heap.size W w':=by
 have HR:=fun w=>pE a b c d w
 rw[h]at HR;have HH:=zH HR;clear HR;unfold v4 at*;go_enter Tryz.func136,Tryz.ntmps136;go_wp2_with (go_at_call 191;refine(HH.out _).mono ?_;rintro e w1 ⟨rfl,hb1⟩);go_ret2;exact⟨rfl,((Below.refl _ _).alloc (Nat.le_refl _) _).trans (hb1.mono (by simp))⟩
structure Ru where
 key:Int
 idle:Int
 life:Int
 access:Int
def sP (r:Ru):Bool:=ba r.key&&ba r.idle&&ba r.life&&ba r.access
def cK (a b:Int):Int:=if a+b>1099511627776 then 1099511627776 else a+b
def dR (L:List an) (id:Int):Option an:=L.find? fun f=>decide (f.id=id)
def kZ (r:Ru) (now:Int) (f:an):Bool:=decide (cK f.used r.idle<now) || decide (cK f.made r.life<now)
inductive ln (α:Type) where
 |say (a:α) (e:Int)
 |put (ev:Ev) (a:α) (e:Int)
def ar {α:Type} (dflt:α) (z:SS):ln α→SS×α×Int
 | .say a e=>(z,a,e)
 | .put ev a e=>if (aV z ev).2=0 then((aV z ev).1,a,e)else((aV z ev).1,dflt,(aV z ev).2)
def aI:ByteArray:=⟨#[]⟩
def eG (id:Int):Ev:=⟨2,an.zero,id,0⟩
def gH (n:Int):Ev:=⟨3,an.zero,0,n⟩
def bX (r:Ru) (f:an):ByteArray:=jT r.key 1 f.id f.gen 0
def a8 (r:Ru) (t:ByteArray):Int×Int×Int×Int×Int:=iV (fun B=>aQ r.key B) (parts 46 t.data.toList)
structure Lv where
 e:Int
 gen:Int
 ends:Int
 f:an
def gO (r:Ru) (s:St) (t:ByteArray) (kind:Int):Lv:=
 if (a8 r t).1≠0 then⟨(a8 r t).1,0,0,an.zero⟩
 else if (a8 r t).2.1≠kind then⟨1,0,0,an.zero⟩
 else match dR s.fams (a8 r t).2.2.1 with
  |none=>⟨7,0,0,an.zero⟩
  |some f=>if f.dead then⟨6,0,0,an.zero⟩else if kZ r s.clock f then⟨10,0,0,an.zero⟩else⟨0,(a8 r t).2.2.2.1,(a8 r t).2.2.2.2,f⟩
def cw (s:St) (client subject sc:ByteArray):an:=⟨s.next,client,subject,ah (aT sc.data.toList),0,s.clock,s.clock,aI,false⟩
def bL (r:Ru) (s:St) (client subject sc:ByteArray):ln ByteArray:=
 if (bF client.data.toList&&bF subject.data.toList)=false then .say aI 1
 else if aw sc.data.toList≠0 then .say aI (aw sc.data.toList)
 else if 1099511627776<s.next then .say aI 4
 else if 20≤s.fams.length then .say aI 12
 else .put (aW (cw s client subject sc)) (bX r (cw s client subject sc)) 0
def eS (f:an):an:=⟨f.id,f.client,f.subject,f.scope,f.gen,f.made,f.used,f.request,true⟩
def mJ (s:St) (f:an) (request sc:ByteArray):an:=⟨f.id,f.client,f.subject,ah (aT sc.data.toList),f.gen+1,f.made,s.clock,request,f.dead⟩
def cZ (r:Ru) (s:St) (l:Lv) (request sc:ByteArray):ln ByteArray:=
 if l.e≠0 then .say aI l.e
 else if l.f.gen<l.gen then .say aI 2
 else if l.gen=l.f.gen - 1∧request.data.toList=l.f.request.data.toList then .say (bX r l.f) 0
 else if l.gen<l.f.gen then .put (aW (eS l.f)) aI 15
 else if aw sc.data.toList≠0 then .say aI (aw sc.data.toList)
 else if jr (aT sc.data.toList) l.f.scope.data.toList=false then .say aI 13
 else if l.f.gen=1099511627776 then .say aI 4
 else .put (aW (mJ s l.f request sc)) (bX r (mJ s l.f request sc)) 0
def dG (r:Ru) (s:St) (t request sc:ByteArray):ln ByteArray:=
 if bF request.data.toList=false then .say aI 1 else cZ r s (gO r s t 1) request sc
def Ax (r:Ru) (s:St) (l:Lv):ByteArray×Int:=
 if l.e≠0 then(aI,l.e)
 else if l.f.gen<l.gen then(aI,2)
 else if l.gen<l.f.gen then(aI,8)
 else(jT r.key 2 l.f.id l.f.gen (cK s.clock r.access),0)
def jL (r:Ru) (s:St) (t:ByteArray):ByteArray×Int:=Ax r s (gO r s t 1)
def Ae (s:St) (l:Lv):an×Int:=
 if l.e≠0 then(an.zero,l.e)
 else if l.f.gen<l.gen then(an.zero,2)
 else if l.ends<s.clock then(an.zero,10)
 else(l.f,0)
def iI (r:Ru) (s:St) (t:ByteArray):an×Int:=Ae s (gO r s t 2)
def eF (s:St) (id:Int):ln Unit:=match dR s.fams id with
 |none=>.say () 7
 |some f=>if f.dead then .say () 6 else .put (aW (eS f)) () 0
def dY (s:St) (n:Int):ln Unit:=if ba n=false then .say () 2 else .put (gH (cK s.clock n)) () 0
def ku (r:Ru) (s:St):Option an:=s.fams.find? fun f=>f.dead || kZ r s.clock f
def bW (r:Ru) (s:St):ln Int:=match ku r s with
 |none=>.say 0 8
 |some f=>.put (eG f.id) f.id 0
structure DS where
 r:Ru
 z:SS
def IV:DS:=⟨⟨1,20,100,5⟩,nu⟩
def cg (L:List Int):ByteArray:=ah (bM 32 (L.map Lib.itoa))
def dU (b:ByteArray):ByteArray:=if b.data.toList=[]then⟨#[95]⟩else b
def bG (b:ByteArray):ByteArray:=if b.data.toList=[95]then aI else b
def Fc (f:an):ByteArray:=cg [f.id]++⟨#[32]⟩++f.client++⟨#[32]⟩++f.subject++⟨#[32]⟩++dU f.scope++⟨#[32]⟩++cg [f.gen,f.made,f.used]++⟨#[32]⟩++dU f.request
def iE (f:an):ByteArray:=if f.dead then Fc f++⟨#[32,100,101,97,100]⟩else Fc f
def vO (s:St):ByteArray:=s.fams.foldl (fun o f=>o++(⟨#[44,32]⟩++iE f)) (cg [s.clock,s.next])
def jQ:List UInt8:=[99,117,116]
def cQ:List UInt8:=[102,97,109,105,108,105,101,115]
def fJ:List UInt8:=[103,114,97,110,116]
def je:List UInt8:=[104,101,108,112]
def gA:List UInt8:=[107,105,108,108]
def fB:List UInt8:=[108,101,97,115,116]
def mT:List UInt8:=[108,111,103]
def jt:List UInt8:=[109,105,110,116]
def jc:List UInt8:=[110,101,119]
def fg:List UInt8:=[111,112,101,110]
def ee:List UInt8:=[114,111,116,97,116,101]
def gG:List UInt8:=[115,97,118,101]
def jb:List UInt8:=[115,104,111,119]
def fE:List UInt8:=[115,119,101,101,112]
def jp:List UInt8:=[116,97,103]
def jd:List UInt8:=[116,105,99,107]
def fx:List UInt8:=[116,111,107,101,110]
def eh:List UInt8:=[119,114,105,116,101,115]
def xf:ByteArray:=⟨#[99,117,116,32,102,97,109,105,108,105,101,115,32,103,114,97,110,116,32,104,101,108,112,32,107,105,108,108,32,108,101,97,115,116,32,108,111,103,32,109,105,110,116,32,110,101,119,32,111,112,101,110,32,114,111,116,97,116,101,32,115,97,118,101,32,115,104,111,119,32,115,119,101,101,112,32,116,97,103,32,116,105,99,107,32,116,111,107,101,110,32,119,114,105,116,101,115]⟩
abbrev pD:=DS×ByteArray×Int
def bad (d:DS) (e:Int):pD:=(d,aI,e)
def lp (d:DS):List (List UInt8)→pD
 |[a]=>if aC a=true then(⟨d.r,wK d.z (ab a)⟩,ah jQ,0)else bad d 3
 |_=>bad d 3
def cX (d:DS):List (List UInt8)→pD
 |[]=>(d,vO d.z.s,0)
 |_=>bad d 3
def gC (d:DS):List (List UInt8)→pD
 |[a,b,c]=>(⟨d.r,(ar aI d.z (bL d.r d.z.s (ah a) (ah b) (bG (ah c)))).1⟩,(ar aI d.z (bL d.r d.z.s (ah a) (ah b) (bG (ah c)))).2)
 |_=>bad d 3
def jY (d:DS):List (List UInt8)→pD
 |[]=>(d,xf,0)
 |_=>bad d 3
def iH (d:DS):List (List UInt8)→pD
 |[a]=>if aC a=true then(⟨d.r,(ar () d.z (eF d.z.s (ab a))).1⟩,ah gA,(ar () d.z (eF d.z.s (ab a))).2.2)else bad d 3
 |_=>bad d 3
def ij (d:DS):List (List UInt8)→pD
 |[a]=>(d,dU (ah (aT (bG (ah a)).data.toList)),aw (bG (ah a)).data.toList)
 |_=>bad d 3
def fy (b:Bool):ByteArray:=if b then⟨#[116,114,117,101]⟩else⟨#[102,97,108,115,101]⟩
def nL (d:DS):List (List UInt8)→pD
 |[]=>(d,cg [d.z.log]++⟨#[32]⟩++fy d.z.down,0)
 |_=>bad d 3
def jM (d:DS):List (List UInt8)→pD
 |[a]=>(d,jL d.r d.z.s (ah a))
 |_=>bad d 3
def j4 (d:DS):List (List UInt8)→pD
 |[a,b,c,e]=>if (aC a&&aC b&&aC c&&aC e)=true then(if sP ⟨ab a,ab b,ab c,ab e⟩=true then(⟨⟨ab a,ab b,ab c,ab e⟩,nu⟩,ah jc,0)else bad d 2)else bad d 3
 |_=>bad d 3
def j6 (d:DS):List (List UInt8)→pD
 |[]=>(⟨d.r,qH d.z⟩,ah fg,0)
 |_=>bad d 3
def eD (d:DS):List (List UInt8)→pD
 |[a,b,c]=>(⟨d.r,(ar aI d.z (dG d.r d.z.s (ah a) (ah b) (bG (ah c)))).1⟩,(ar aI d.z (dG d.r d.z.s (ah a) (ah b) (bG (ah c)))).2)
 |_=>bad d 3
def jI (d:DS):List (List UInt8)→pD
 |[]=>(⟨d.r,(df d.z).1⟩,ah gG,(df d.z).2)
 |_=>bad d 3
def jJ (d:DS):List (List UInt8)→pD
 |[a]=>(d,iE (iI d.r d.z.s (ah a)).1,(iI d.r d.z.s (ah a)).2)
 |_=>bad d 3
def gr (d:DS):List (List UInt8)→pD
 |[]=>(⟨d.r,(ar 0 d.z (bW d.r d.z.s)).1⟩,aL (ar 0 d.z (bW d.r d.z.s)).2.1,(ar 0 d.z (bW d.r d.z.s)).2.2)
 |_=>bad d 3
def mF (d:DS):List (List UInt8)→pD
 |[a,b]=>if aC a=true then(d,ah (aQ (ab a) b),0)else bad d 3
 |_=>bad d 3
def gS (d:DS):List (List UInt8)→pD
 |[a]=>if aC a=true then(⟨d.r,(ar () d.z (dY d.z.s (ab a))).1⟩,aL (ar () d.z (dY d.z.s (ab a))).1.s.clock,(ar () d.z (dY d.z.s (ab a))).2.2)else bad d 3
 |_=>bad d 3
def fL (l:List UInt8):Int:=if l=[114]then 1 else if l=[97]then 2 else 0
def dT (d:DS):List (List UInt8)→pD
 |[k,a,b,c]=>if fL k≠0∧(aC a&&aC b&&aC c)=true then(if bN (fL k) (ab a) (ab b) (ab c)=true then(d,jT d.r.key (fL k) (ab a) (ab b) (ab c),0)else bad d 1)else bad d 3
 |_=>bad d 3
def eZ (d:DS):List (List UInt8)→pD
 |[]=>(d,aL d.z.writes,0)
 |_=>bad d 3
def cE (d:DS) (n:List UInt8) (L:List (List UInt8)):pD:=
 if n=jQ then lp d L else if n=cQ then cX d L else if n=fJ then gC d L else if n=je then jY d L
 else if n=gA then iH d L else if n=fB then ij d L else if n=mT then nL d L else if n=jt then jM d L
 else if n=jc then j4 d L else if n=fg then j6 d L else if n=ee then eD d L else if n=gG then jI d L
 else if n=jb then jJ d L else if n=fE then gr d L else if n=jp then mF d L else if n=jd then gS d L
 else if n=fx then dT d L else if n=eh then eZ d L else bad d 3
def nB (n:Int):ByteArray:=⟨#[101,114,114,111,114,32]⟩++aL n
def fC (l:List UInt8):List (List UInt8):=(parts 32 l).filter fun x=>decide (x≠ [])
def told (a:pD):DS×ByteArray:=(a.1,if a.2.2=0 then a.2.1 else nB a.2.2)
def cJ (d:DS) (l:List UInt8):DS×ByteArray:=
 match fC l with
 |[]=>(d,⟨#[111,107]⟩)
 |n::L=>told (cE d n L)
def iK (l:List UInt8):List (List UInt8):=if 1<(parts 10 l).length∧(parts 10 l).getLast?=some []then(parts 10 l).dropLast else parts 10 l
def GX (q:DS×ByteArray) (x:List UInt8):DS×ByteArray:=((cJ q.1 x).1,q.2++((cJ q.1 x).2++⟨#[10]⟩))
def rZ (l:List UInt8):ByteArray:=((iK l).foldl GX (IV,aI)).2
def eK (l:List UInt8):List UInt8:=if l.getLast?=some 10 then l.dropLast else l
theorem yy {l:List UInt8} (h:(parts 10 l).getLast?=some []) (h1:1<(parts 10 l).length): ∃ a,l=a++[10]:=by
 have hg:=hJ 10 l
 obtain⟨d,hd⟩: ∃ d,parts 10 l=d++[[]]:=by
  obtain⟨d,hd⟩:=List.getLast?_eq_some_iff.1 h;exact⟨d,hd⟩
 rw[hd]at hg h1;have hne:d≠ []:=by rintro rfl;simp at h1
 rw[nM 10 d [[]] hne (by simp)]at hg;exact⟨bM 10 d,by rw[←hg];rfl⟩
theorem yr (l:List UInt8):parts 10 (eK l)=iK l:=by
 unfold iK eK
 by_cases h:l.getLast?=some 10
 ·obtain⟨a,rfl⟩:=List.getLast?_eq_some_iff.1 h
  rw[if_pos h,rn,List.dropLast_concat,if_pos ⟨by have:=ph 10 a;simp;omega,by simp⟩,List.dropLast_concat]
 ·rw[if_neg h,if_neg]
  rintro⟨h1,h2⟩;obtain⟨a,rfl⟩:=yy h2 h1;exact h (by simp)
open Go.Sort
def cP (x:Int):Prop:= -9223372036854775808≤x∧x≤9223372036854775807
theorem xZ (x:Int):cP (wrap64 x):=by
 unfold cP wrap64;omega
theorem jj {x:Int} (h:ba x=true):cP x:=by
 have h:0≤x∧x≤1099511627776:=by simpa[ba]using h
 exact⟨by omega,by omega⟩
theorem cC {L:List Int} (h4:L.length≤4) (hn: ∀ x∈L,cP x):(cg L).size≤100:=by
 have hg:=jB 32 21 (L.map Lib.itoa) (by
  intro x hx;obtain⟨y,hy,rfl⟩:=List.mem_map.1 hx;exact Lib.itoa_length_le y (hn y hy).1 (hn y hy).2)
 rw[List.length_map]at hg;unfold cg;rw[av];omega
theorem TD.join_i {W w:World} {g:Nat} {L:List Int} {out:Value} (h:TD W g L L.length out w) (hL:L≠ []) (h4:L.length≤4) (hn: ∀ x∈L,cP x):
  Calls prog 50 #[out,.string ⟨#[32]⟩] w fun e w'=>e=.returned (.string (cg L))∧Below w.heap.size w w':=by
 have hr:=h.row;rw[List.take_length]at hr
 have hr2:w.ownsRow W.heap.size 9 1 out (L.map Lib.itoa).length ((L.map Lib.itoa).map encStr):=by
  rw[List.map_map,List.length_map];exact hr
 have hg:=cC h4 hn;unfold cg at hg;rw[av]at hg;exact lq 32 (ir hr2 (by simpa using hL)) (by rw[List.length_map];omega) oM
theorem mg (g:Nat) (L:List Int) (W:World) (h:WB W W) (hi:aJ W g L) (hL:L≠ []) (h4:L.length≤4) (hn: ∀ x∈L,cP x):
  Calls prog 16 #[.slice (some ⟨g,0,none⟩) L.length L.length] W fun e w'=>e=.returned (.string (cg L))∧Below W.heap.size W w':=by
 obtain⟨i0,hii,hz0,hz1,hz2⟩:=info_parts ms;have H0:=zH h;have HI:=zH hi;have HN:=zH hn;have HL:=zH hL;clear h hi hn hL;go_enter Tryz.func16,Tryz.ntmps16
 go_wp2
 go_loopw [3,8] (fun out i wr=>AG W g L out i wr) (fun _ i _=>L.length - (intOf i).toNat)
 case atStart=>exact⟨0,Nat.zero_le _,rfl,TD.start H0.out HI.out⟩
 case round=>
  obtain⟨k,hk,rfl,ht⟩:=hrel;have HT:=zH ht;clear ht
  by_cases hlt:k<L.length
  ·have hc:=HT.out.ints k hlt
   have hok:cP (L.getD k 0):=HN.out _ (by rw[List.getD_eq_getElem?_getD,List.getElem?_eq_getElem hlt];exact List.getElem_mem hlt);have HX:=zH (show encStr (Lib.itoa (L.getD k 0))=.string (aL (L.getD k 0))from rfl);generalize hx:L.getD k 0=x at*;have HXX:=zH hx;have HIT:=zH (fun w hT=>iw x hok.1 hok.2 w hT);clear hx hok;generalize aL x=y at*;go_wp2_with fail;go_at_call 26;refine(HIT.out _ HT.out.wb.tens).mono ?_;rintro e w1 ⟨rfl,hb⟩;have HT1:=zH (HT.out.call hb);have hrow:=HT1.out.row;have hB2:=HT1.out.wb.below.size;clear hb hc
   go_wp2_with
    (at_builtin;refine wpList_append_own _ rfl _ _ 34 rfl W.heap.size 9 i0 (.string ByteArray.empty) 1 16 underlying34 hii hz0 hz1 hz2 rfl dC _ _ _ rfl (hrow.alloc _) ⟨w1.heap.size,0,none⟩ 1 1 [.string y] rfl rfl (cell_one_new _ _ _) (fun x hx=>by simp at hx;subst hx;rfl) (by unfold maxLen;omega) oM (by simp;omega) ?_;intro v' w3 hown hgrow hnil
     have HO:=zH hown;have HG:=zH hgrow;clear hown hgrow hnil hrow)
   go_roundw
   case rel=>exact⟨k+1,by omega,by go_num,TD.next H0.out HI.out HT1.out hlt (by rw[HXX.out];exact HX.out.symm) HO.out HG.out⟩
   case measure=>simp[intOf];omega
  ·have hke:k=L.length:=by omega
   subst hke;have HJ:=zH (HT.out.join_i HL.out h4 HN.out);go_wp2_with fail;go_at_call 50;refine HJ.out.mono ?_;rintro e w1 ⟨rfl,hb⟩;have HB:=zH (HT.out.wb.keep hb);clear hb;go_wp2_with fail;go_ret;exact⟨rfl,HB.out.below⟩
theorem lY (g:Nat) (L:List Int) (W:World) (h:WB W W) (hi:aJ W g L) (hL:L≠ []) (h4:L.length≤4) (hn: ∀ x∈L,cP x):
  Calls prog 121 #[.slice (some ⟨g,0,none⟩) L.length L.length] W fun e w'=>e=.returned (.string (cg L))∧Below W.heap.size W w':=by
 obtain⟨i0,hii,hz0,hz1,hz2⟩:=info_parts ms;have H0:=zH h;have HI:=zH hi;have HN:=zH hn;have HL:=zH hL;clear h hi hn hL;go_enter Tryz.func121,Tryz.ntmps121
 go_wp2
 go_loopw [3,8] (fun out i wr=>AG W g L out i wr) (fun _ i _=>L.length - (intOf i).toNat)
 case atStart=>exact⟨0,Nat.zero_le _,rfl,TD.start H0.out HI.out⟩
 case round=>
  obtain⟨k,hk,rfl,ht⟩:=hrel;have HT:=zH ht;clear ht
  by_cases hlt:k<L.length
  ·have hc:=HT.out.ints k hlt
   have hok:cP (L.getD k 0):=HN.out _ (by rw[List.getD_eq_getElem?_getD,List.getElem?_eq_getElem hlt];exact List.getElem_mem hlt);have HX:=zH (show encStr (Lib.itoa (L.getD k 0))=.string (aL (L.getD k 0))from rfl);generalize hx:L.getD k 0=x at*;have HXX:=zH hx;have HIT:=zH (fun w hT=>iw x hok.1 hok.2 w hT);clear hx hok;generalize aL x=y at*;go_wp2_with fail;go_at_call 26;refine(HIT.out _ HT.out.wb.tens).mono ?_;rintro e w1 ⟨rfl,hb⟩;have HT1:=zH (HT.out.call hb);have hrow:=HT1.out.row;have hB2:=HT1.out.wb.below.size;clear hb hc
   go_wp2_with
    (at_builtin;refine wpList_append_own _ rfl _ _ 34 rfl W.heap.size 9 i0 (.string ByteArray.empty) 1 16 underlying34 hii hz0 hz1 hz2 rfl dC _ _ _ rfl (hrow.alloc _) ⟨w1.heap.size,0,none⟩ 1 1 [.string y] rfl rfl (cell_one_new _ _ _) (fun x hx=>by simp at hx;subst hx;rfl) (by unfold maxLen;omega) oM (by simp;omega) ?_;intro v' w3 hown hgrow hnil
     have HO:=zH hown;have HG:=zH hgrow;clear hown hgrow hnil hrow)
   go_roundw
   case rel=>exact⟨k+1,by omega,by go_num,TD.next H0.out HI.out HT1.out hlt (by rw[HXX.out];exact HX.out.symm) HO.out HG.out⟩
   case measure=>simp[intOf];omega
  ·have hke:k=L.length:=by omega
   subst hke;have HJ:=zH (HT.out.join_i HL.out h4 HN.out);go_wp2_with fail;go_at_call 50;refine HJ.out.mono ?_;rintro e w1 ⟨rfl,hb⟩;have HB:=zH (HT.out.wb.keep hb);clear hb;go_wp2_with fail;go_ret;exact⟨rfl,HB.out.below⟩
theorem rN (key:Int) (s:ByteArray) (W:World) (hs:s.size≤9223372036854775807):
 Calls prog 107 #[.int .i64 key,.string s] W fun e w'=>e=.returned (.string (ke key s))∧Below W.heap.size W w':=me key s W hs
theorem np {W w:World} {x0 x1 x2 x3:Value} {t:TypeId} (h:Below (W.alloc (.cells #[x0,x1,x2,x3] t)).heap.size (W.alloc (.cells #[x0,x1,x2,x3] t)) w):
  w.cell? ⟨W.heap.size,0,none⟩=some x0∧w.cell? ⟨W.heap.size,1,none⟩=some x1∧w.cell? ⟨W.heap.size,2,none⟩=some x2∧w.cell? ⟨W.heap.size,3,none⟩=some x3:=by
 refine⟨?_,?_,?_,?_⟩
 ·rw[h.cell (p:=⟨W.heap.size,0,none⟩) (by simp)];simp
 ·rw[h.cell (p:=⟨W.heap.size,1,none⟩) (by simp)];simp
 ·rw[h.cell (p:=⟨W.heap.size,2,none⟩) (by simp)];simp
 ·rw[h.cell (p:=⟨W.heap.size,3,none⟩) (by simp)];simp
theorem fp (key a b c d:Int) (W:World) (hT:bH W) (h:bN a b c d=true):
  Calls prog 136 #[.int .i64 key,v4 a b c d] W fun e w'=>e=.returned (.tuple #[.string (jT key a b c d),.nilIface])∧Below W.heap.size W w':=by
 have HR:=fun w=>pE a b c d w
 rw[h]at HR;have HH:=zH HR;clear HR;have hsz:=i8 a b c d h;have hts:=jV key (bz a b c d);have e1:=cT (bz a b c d) (⟨#[46]⟩:ByteArray) 70 1 hsz dC oM;have z1:=cd (bz a b c d) (⟨#[46]⟩:ByteArray) 70 1 hsz dC;have e2:=cT _ (ke key (bz a b c d)) _ 16 z1 oM oM;have HRT:=zH h;have HT:=zH hT;have hTlt:=hT.lt;have HB:=fun(w:World) (hw:bH w)=>mX a b c d w hw h
 have HBB:=zH HB;have htk:jT key a b c d=bz a b c d++⟨#[46]⟩++ke key (bz a b c d):=rfl;have HTK:=zH htk;clear hT h z1 HB htk;generalize bz a b c d=bs at*;unfold v4 at*;go_enter Tryz.func136,Tryz.ntmps136
 go_wp2_with (first
  |(go_at_call 191;refine(HH.out _).mono ?_;rintro e w1 ⟨rfl,hb1⟩
    have hB1:=((Below.refl W.heap.size W).alloc (Nat.le_refl _) (.cells #[.int .i64 a,.int .i64 b,.int .i64 c,.int .i64 d] 182)).trans (hb1.mono (by simp));obtain⟨hc0,hc1,hc2,hc3⟩:=np hb1;have HB1:=zH hB1;clear hb1 hB1)
  |(go_at_call 192;refine(HBB.out _ (HT.out.below HB1.out hTlt)).mono ?_;rintro e w2 ⟨rfl,hb2⟩
    have HB2:=zH (ae HB1.out hb2);clear hb2)
  |(go_at_call 107;refine(rN _ _ _ oM).mono ?_;rintro e w3 ⟨rfl,hb3⟩
    have HB3:=zH (ae HB2.out hb3);clear hb3))
 go_ret2;exact⟨by rw[HTK.out];rfl,HB3.out⟩
theorem pM {P:Program} {fn:Func} {p u:Tmp} {ty:TypeId} (h:fn.results=#[.cell p ty,.tmp u]) (tmps:Array Value) (w:World) (g:Nat) (t:TypeId) (cs:Array Value) (d:TypeDesc) (x:Value)
  (hp:tmps.getD p undef=.pointer (some ⟨g,0,none⟩)) (hx:tmps.getD u undef=x) (hg:aj w g t cs)
  (hu:P.underlying ty=some d) (hd:(match d with| .struct _| .array _ _=>true|_=>false)=true) (hi:(P.info? ty).map (·.size)=some cs.size):
  (results fn tmps).run P w=.ok (.tuple #[.agg cs,x]) w:=by
 rw[results_cell_tmp h,hp,hx];simp only[asAddr,Sem.run_pure,Result.andThen];rw[run_loadVar_row w g t ty cs (0,0) d hg hu hd hi]
structure TR (W:World) (L:List (List UInt8)) (v:Value) (w:World):Prop where
 below:Below W.heap.size W w
 res:aj w W.heap.size 182 #[.int .i64 0,.int .i64 0,.int .i64 0,.int .i64 0]
 row:gi w (W.heap.size+1) v L
 tens:bH w
 errs:bf w
theorem TR.keep {W w w':World} {L:List (List UInt8)} {v:Value} (h:TR W L v w) (hb:Below w.heap.size w w'):TR W L v w':=
 ⟨h.below.trans (hb.mono h.below.size),h.res.below' hb,h.row.below hb,h.tens.below hb h.tens.lt,h.errs.below' hb⟩
theorem TR.facts {W w:World} {L:List (List UInt8)} {v:Value} (h:TR W L v w): ∃ g cap,v=.slice (some ⟨g,0,none⟩) L.length cap∧L.length≤cap∧cap≤9223372036854775807∧W.heap.size+1≤g∧g<w.heap.size∧W.heap.size<w.heap.size∧
  (∀ j,j<L.length→w.cell? ⟨g,j,none⟩=some (.string (ah (L.getD j []))))∧(w.cell? ⟨W.heap.size,0,none⟩=some (.int .i64 0)∧w.cell? ⟨W.heap.size,1,none⟩=some (.int .i64 0)∧w.cell? ⟨W.heap.size,2,none⟩=some (.int .i64 0)∧w.cell? ⟨W.heap.size,3,none⟩=some (.int .i64 0))∧
  (w.frozen? ⟨W.heap.size,0,none⟩=false∧w.frozen? ⟨W.heap.size,1,none⟩=false∧w.frozen? ⟨W.heap.size,2,none⟩=false∧w.frozen? ⟨W.heap.size,3,none⟩=false):=by
 obtain⟨g,cap,rfl,h1,h2,h3,h4,_⟩:=h.row.parts;exact⟨g,cap,rfl,h3,h4,h1,h2,h.res.lt,fun j hj=>h.row.cell j hj,⟨h.res.cell 0,h.res.cell 1,h.res.cell 2,h.res.cell 3⟩,h.res.frozen 0,h.res.frozen 1,h.res.frozen 2,h.res.frozen 3⟩
def nj (W:World) (R:Int×Int×Int×Int×Int) (e:Ending) (w':World):Prop:=e=.returned (.tuple #[v4 R.2.1 R.2.2.1 R.2.2.2.1 R.2.2.2.2,bV R.1])∧Below W.heap.size W w'
theorem jO (_key:Int) (s:ByteArray) (W:World) (hs:s.size≤5000) (hm:dt W) (hT:bH W) (hv:bf W):
  Calls prog 13 #[.string s,.string ⟨#[46]⟩] (W.alloc (.cells #[.int .i64 0,.int .i64 0,.int .i64 0,.int .i64 0] 182)) fun e w'=> ∃ v,e=.returned v∧TR W (parts 46 s.data.toList) v w':=by
 have hb0:Below W.heap.size W (W.alloc (.cells #[.int .i64 0,.int .i64 0,.int .i64 0,.int .i64 0] 182)):=(Below.refl _ _).alloc (Nat.le_refl _) _;refine(fT 46 s (W.heap.size+1) _ oM (hm.below hb0 hm.lt) (by simp)).mono ?_;rintro e w' ⟨v,rfl,hr,hb⟩;exact⟨v,rfl,hb0.trans (hb.mono hb0.size),(aj.new W _ _).below' hb,hr,(hT.below hb0 hT.lt).below hb (by simp;have:=hT.lt;omega),(hv.below hb0 hv.lt.1 hv.lt.2).below hb (by simp;have:=hv.lt.1;omega) (by simp;have:=hv.lt.2;omega)⟩
theorem bu {w:World} {rb:Nat} {T:TypeId} {y0 y1 y2 y3:Value} (h:aj w rb T #[y0,y1,y2,y3]) (x0 x1 x2 x3:Value):
  aj ((((w.setCell ⟨rb,0,none⟩ x0).setCell ⟨rb,1,none⟩ x1).setCell ⟨rb,2,none⟩ x2).setCell ⟨rb,3,none⟩ x3) rb T #[x0,x1,x2,x3]:=
 (((h.set_ 0 x0).set_ 1 x1).set_ 2 x2).set_ 3 x3
theorem bj {W w:World} (h:Below W.heap.size W w) (x0 x1 x2 x3:Value):
  Below W.heap.size W ((((w.setCell ⟨W.heap.size,0,none⟩ x0).setCell ⟨W.heap.size,1,none⟩ x1).setCell ⟨W.heap.size,2,none⟩ x2).setCell ⟨W.heap.size,3,none⟩ x3):=
 (((h.setCell (Nat.le_refl _) x0).setCell (Nat.le_refl _) x1).setCell (Nat.le_refl _) x2).setCell (Nat.le_refl _) x3
theorem eC {W w:World} {A:Act} {a b c d n:Int} (hb:Below W.heap.size W w) (hr:aj w W.heap.size 182 #[.int .i64 a,.int .i64 b,.int .i64 c,.int .i64 d])
  (hp:A.tmps.getD 4 undef=.pointer (some ⟨W.heap.size,0,none⟩)) (hx:A.tmps.getD 5 undef=bV n) (hd:A.defers=[]):
  bodyPost prog Tryz.f225 (nj W (n,a,b,c,d)) Exit.ret A w:=
 bodyPost_ret (pM rfl A.tmps w _ _ _ _ _ hp hx hr underlying182 rfl kR) hd ⟨rfl,hb⟩
theorem kF (key:Int) (s:ByteArray) (W:World) (hs:s.size≤5000) (hm:dt W) (hT:bH W) (hv:bf W)
  (hf:((parts 46 s.data.toList).getD 0 []≠ [97]∧(parts 46 s.data.toList).getD 0 []≠ [114])∨((parts 46 s.data.toList).getD 0 []=[97]∧(parts 46 s.data.toList).length≠5)∨((parts 46 s.data.toList).getD 0 []=[114]∧(parts 46 s.data.toList).length≠4)):
  Calls prog 225 #[.int .i64 key,.string s] W (nj W (3,0,0,0,0)):=by
 have H:=zH (jO key s W hs hm hT hv);have hpos:=ph 46 s.data.toList;clear hm hT hv;generalize parts 46 s.data.toList=L at*;generalize hx:L.getD 0 []=x at*;have HX:=zH hx;clear hx
 have hkey:((ah x).toList == [97])=false∧((ah x).toList == [114])=false∨((ah x).toList == [97])=true∧((L.length:Int) != 5)=true∨((ah x).toList == [97])=false∧((ah x).toList == [114])=true∧((L.length:Int) != 4)=true:=by
  rw[bn];rcases hf with⟨h1,h2⟩|⟨h1,h2⟩|⟨h1,h2⟩
  ·exact .inl ⟨by simpa using h1,by simpa using h2⟩
  ·exact .inr (.inl ⟨by simp[h1],by simp;omega⟩)
  ·exact .inr (.inr ⟨by simp[h1],by simp[h1],by simp;omega⟩)
 clear hf;rcases hkey with⟨e1,e2⟩|⟨e1,e2⟩|⟨e1,e2,e3⟩
 all_goals
  go_enter Tryz.func225,Tryz.ntmps225;go_wp2_with fail;go_at_call 13;refine H.out.mono ?_;rintro e w1 ⟨v,rfl,h⟩;have HB:=zH h.below;have HBL:=zH h.res;obtain⟨g,cap,rfl,hcap,hmax,hg1,hg2,hrl,hcells,⟨r0,r1,r2,r3⟩,f0,f1,f2,f3⟩:=h.facts;have hc:=hcells 0 hpos;rw[HX.out]at hc;clear h hcells;go_wp2_with fail;exact eC ((bj HB.out (.int .i64 0) (.int .i64 0) (.int .i64 0) (.int .i64 0)).alloc (bj HB.out (.int .i64 0) (.int .i64 0) (.int .i64 0) (.int .i64 0)).size _) ((bu HBL.out (.int .i64 0) (.int .i64 0) (.int .i64 0) (.int .i64 0)).alloc _) rfl rfl rfl
end Go.Proofs.YtepjcdjpikbbjaaGreatDoor
