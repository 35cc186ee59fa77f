/- Part of the proof. -/
import Derived.Test.YtjligkmjlenofaaGreatDoorV06
import Derived.Deep.AppendLies
import Derived.Test.YtjligkmjlenofaaGreatDoorV08
set_option maxHeartbeats 16000000
set_option maxRecDepth 100000
open Go renaming World->aah,Value->aai,wpList_append_own->akl,cell_one_new->alA,rounds_succ->alB,Calls->ach,TypeId->aat,info_parts->aj',wp_loop_rounds->alH
open Go.Lib renaming itoa->aax
open List renaming length_cons->agj,length_append->ag2,getD_eq_getElem?_getD->akH,getLast?_eq_some_iff->alG,getElem?_eq_getElem->ag8,length_nil->ajE
open Go.Proofs.Tryz renaming underlying120->alF
open Go.Act renaming put->agu
open Nat renaming lt_of_lt_of_le->ae7,le_refl->ahP,reduceAdd->alI,lt_or_ge->af8,le_trans->aiC,le_of_lt->aki,zero_add->ahq
open ByteArray renaming empty->akG
open Go.Value renaming ownBlock->akw
open Go.World renaming ownsRow_nil->akO
namespace Go.Proofs.YtjligkmjlenofaaGreatDoor
open Go.Proofs.Tryz
open Go.RowKit
variable{a b c d ck nx k:Int}{g cap tb:Nat}{T:aat}{x0 x1 x2 x3:aai}{L:List BL}{cs:Array aai}{y z:BL}
theorem AS(a b c d:Int)(W:aah):ach prog 165 #[v4 a b c d] W fun e w'=>e=.returned (.bool (eP a b c d))/\Below W.heap.size W w':=by
 have h:(a=1/\d=0)\/(a=1/\((d == 0)=false/\decide (d=0)=false))\/(a=2)\/((a == 1)=false/\(a == 2)=false/\decide (a=1)=false/\decide (a=2)=false):=by
  by_cases h1:a=1<;>by_cases h2:a=2<;>by_cases h3:d=0<;>simp[h1,h2,h3]<;>omega
 unfold v4;obtain⟨ob,hob⟩:∃ob,bZ b=ob:=⟨_,rfl⟩;obtain⟨od,hod⟩:∃od,bZ d=od:=⟨_,rfl⟩;rcases h with⟨rfl,rfl⟩|⟨rfl,hd,VS⟩|rfl|⟨h1,h2,zm,Um⟩
 all_goals cases ob<;>cases od
 all_goals
  (go_enter func165,ntmps165
   go_wp2_with (go_at_call 198;refine(XD _ _).mono ?_;rintro e w1 ⟨rfl,rfl⟩);go_ret;refine⟨?_,bR.alloc nR _⟩;show Ending.returned _=_
   simp[eP, *])
def gF(a b c d:Int):ByteArray:=if a=1 then⟨#[114,46]⟩++bM b++⟨#[46]⟩++bM c else⟨#[97,46]⟩++bM b++⟨#[46]⟩++bM c++⟨#[46]⟩++bM d
theorem AF(h:eP a b c d=true):(a=1\/(a=2/\bZ d=true))/\bZ b=true/\bZ c=true:=by
 simp[eP]at h;obtain⟨⟨h1,h2⟩,h3⟩:=h;refine⟨?_,h2,h3⟩;rcases h1 with⟨h,_⟩|h
 ·exact .inl h
 ·exact .inr h
theorem xh(a b c d:Int)(W:aah)(hT:eN W)(h:eP a b c d=true):
  ach prog 166 #[v4 a b c d] W fun e w'=>e=.returned (.string (gF a b c d))/\Below W.heap.size W w':=by
 obtain⟨h1,hb,hc⟩:=AF h;rcases h1 with rfl|⟨rfl,hd⟩
 ·exact Mq b c d W hT hb hc
 ·exact Mr b c d W hT hb hc hd
theorem rF(a b c d:Int)(h:eP a b c d=true):(gF a b c d).size<=70:=by
 obtain⟨h1,hb,hc⟩:=AF h;have sb:=iT b hb;have sc:=iT c hc;rcases h1 with rfl|⟨rfl,hd⟩
 ·rw[gF,if_pos rfl]
  have z1:(⟨#[114,46]⟩++bM b:ByteArray).size<=2+21:=fu _ _ 2 21 dC sb;have z2:=fu _ (⟨#[46]⟩:ByteArray) _ 1 z1 dC;have z3:=fu _ (bM c) _ _ z2 sc;omega
 ·have sd:=iT d hd
  rw[gF,if_neg dC];have z1:(⟨#[97,46]⟩++bM b:ByteArray).size<=2+21:=fu _ _ 2 21 dC sb;have z2:=fu _ (⟨#[46]⟩:ByteArray) _ 1 z1 dC;have z3:=fu _ (bM c) _ _ z2 sc;have z4:=fu _ (⟨#[46]⟩:ByteArray) _ 1 z3 dC;have z5:=fu _ (bM d) _ _ z4 sd;omega
def Ec(key:Int)(s:ByteArray):ByteArray:=⟨(bt key s.data.toList).toArray⟩
theorem vF(key:Int)(s:ByteArray):(Ec key s).size=16:=VY _ _
def Ae(key a b c d:Int):ByteArray:=gF a b c d++⟨#[46]⟩++Ec key (gF a b c d)
theorem uX(key a b c d:Int)(W:aah)(h:eP a b c d=false):
  ach prog 119 #[.int .i64 key,v4 a b c d] W fun e w'=>e=.returned (.tuple #[.string ⟨#[]⟩,cJ 1])/\Below W.heap.size W w':=by
 have HR:=fun w=>AS a b c d w
 rw[h]at HR;have HH:=zH HR;clear HR;unfold v4 at*
 go_in
 go_wp2_with (go_at_call 165;refine(HH.O _).mono ?_;rintro e w1 ⟨rfl,eu⟩);go_ret2;exact⟨rfl,(bR.alloc nR _).T (eu.mono sP)⟩
structure Ru where
 key:Int
 idle:Int
 oA:Int
 access:Int
def LL(r:Ru):Bool:=bZ r.key&&bZ r.idle&&bZ r.oA&&bZ r.access
def iD(a b:Int):Int:=if a+b>1099511627776 then 1099511627776 else a+b
def findF(L:List az)(id:Int):Option az:=L.find? fun f=>decide (f.id=id)
def C_(r:Ru)(now:Int)(f:az):Bool:=decide (iD f.used r.idle<now) || decide (iD f.made r.oA<now)
inductive xC(α:Type) where
 |jY (a:α) (e:Int)
 |put (ev:Ev) (a:α) (e:Int)
def bp{α:Type}(al_:α)(z:SS):xC α->SS×α×Int
 | .jY a e=>(z,a,e)
 | .put ev a e=>if (cO z ev).2=0 then((cO z ev).1,a,e)else((cO z ev).1,al_,(cO z ev).2)
def bG:ByteArray:=⟨#[]⟩
def pR(id:Int):Ev:=⟨2,az.zero,id,0⟩
def Ad(n:Int):Ev:=⟨3,az.zero,0,n⟩
def fB(r:Ru)(f:az):ByteArray:=Ae r.key 1 f.id f.gen 0
def cv(r:Ru)(t:ByteArray):Int×Int×Int×Int×Int:=tD (fun B=>bt r.key B) (parts 46 t.data.toList)
structure Lv where
 e:Int
 gen:Int
 ends:Int
 f:az
def kG(r:Ru)(s:St)(t:ByteArray)(kind:Int):Lv:=
 if (cv r t).1≠0 then⟨(cv r t).1,0,0,az.zero⟩
 else if (cv r t).2.1≠kind then⟨1,0,0,az.zero⟩
 else match findF s.ax (cv r t).2.2.1 with
  |none=>⟨7,0,0,az.zero⟩
  |some f=>if f.dead then⟨6,0,0,az.zero⟩else if C_ r s.clock f then⟨10,0,0,az.zero⟩else⟨0,(cv r t).2.2.2.1,(cv r t).2.2.2.2,f⟩
def jh(s:St)(aL aF sc:ByteArray):az:=⟨s.next,aL,aF,aq (cr sc.data.toList),0,s.clock,s.clock,bG,false⟩
def fA(r:Ru)(s:St)(aL aF sc:ByteArray):xC ByteArray:=
 if (dM aL.data.toList&&dM aF.data.toList)=false then .jY bG 1
 else if aQ sc.data.toList≠0 then .jY bG (aQ sc.data.toList)
 else if 1099511627776<s.next then .jY bG 4
 else if 20<=s.ax.length then .jY bG 12
 else .put (bU (jh s aL aF sc)) (fB r (jh s aL aF sc)) 0
def qz(f:az):az:=⟨f.id,f.aL,f.aF,f.scope,f.gen,f.made,f.used,f.request,true⟩
def Eg(s:St)(f:az)(request sc:ByteArray):az:=⟨f.id,f.aL,f.aF,aq (cr sc.data.toList),f.gen+1,f.made,s.clock,request,f.dead⟩
def rotateL(r:Ru)(s:St)(l:Lv)(request sc:ByteArray):xC ByteArray:=
 if l.e≠0 then .jY bG l.e
 else if l.f.gen<l.gen then .jY bG 2
 else if l.gen=l.f.gen - 1/\request.data.toList=l.f.request.data.toList then .jY (fB r l.f) 0
 else if l.gen<l.f.gen then .put (bU (qz l.f)) bG 15
 else if aQ sc.data.toList≠0 then .jY bG (aQ sc.data.toList)
 else if u7 (cr sc.data.toList) l.f.scope.data.toList=false then .jY bG 13
 else if l.f.gen=1099511627776 then .jY bG 4
 else .put (bU (Eg s l.f request sc)) (fB r (Eg s l.f request sc)) 0
def iW(r:Ru)(s:St)(t request sc:ByteArray):xC ByteArray:=
 if dM request.data.toList=false then .jY bG 1 else rotateL r s (kG r s t 1) request sc
def QA(r:Ru)(s:St)(l:Lv):ByteArray×Int:=
 if l.e≠0 then(bG,l.e)
 else if l.f.gen<l.gen then(bG,2)
 else if l.gen<l.f.gen then(bG,8)
 else(Ae r.key 2 l.f.id l.f.gen (iD s.clock r.access),0)
def vY(r:Ru)(s:St)(t:ByteArray):ByteArray×Int:=QA r s (kG r s t 1)
def QR(s:St)(l:Lv):az×Int:=
 if l.e≠0 then(az.zero,l.e)
 else if l.f.gen<l.gen then(az.zero,2)
 else if l.ends<s.clock then(az.zero,10)
 else(l.f,0)
def qT(r:Ru)(s:St)(t:ByteArray):az×Int:=QR s (kG r s t 2)
def py(s:St)(id:Int):xC Unit:=match findF s.ax id with
 |none=>.jY () 7
 |some f=>if f.dead then .jY () 6 else .put (bU (qz f)) () 0
def pN(s:St)(n:Int):xC Unit:=if bZ n=false then .jY () 2 else .put (Ad (iD s.clock n)) () 0
def Aa(r:Ru)(s:St):Option az:=s.ax.find? fun f=>f.dead || C_ r s.clock f
def fD(r:Ru)(s:St):xC Int:=match Aa r s with
 |none=>.jY 0 8
 |some f=>.put (pR f.id) f.id 0
structure DS where
 r:Ru
 z:SS
def ds0:DS:=⟨⟨1,20,100,5⟩,Og⟩
def gb(L:List Int):ByteArray:=aq (glue 32 (L.map aax))
def jR(b:ByteArray):ByteArray:=if b.data.toList=[]then⟨#[95]⟩else b
def ef(b:ByteArray):ByteArray:=if b.data.toList=[95]then bG else b
def VA(f:az):ByteArray:=gb [f.id]++⟨#[32]⟩++f.aL++⟨#[32]⟩++f.aF++⟨#[32]⟩++jR f.scope++⟨#[32]⟩++gb [f.gen,f.made,f.used]++⟨#[32]⟩++jR f.request
def tW(f:az):ByteArray:=if f.dead then VA f++⟨#[32,100,101,97,100]⟩else VA f
def Ks(s:St):ByteArray:=s.ax.foldl (fun o f=>o++(⟨#[44,32]⟩++tW f)) (gb [s.clock,s.next])
def wG:BL:=[99,117,116]
def g_:BL:=[102,97,109,105,108,105,101,115]
def pW:BL:=[103,114,97,110,116]
def vT:BL:=[104,101,108,112]
def qH:BL:=[107,105,108,108]
def qa:BL:=[108,101,97,115,116]
def E7:BL:=[108,111,103]
def vX:BL:=[109,105,110,116]
def uu:BL:=[110,101,119]
def oD:BL:=[111,112,101,110]
def lY:BL:=[114,111,116,97,116,101]
def qR:BL:=[115,97,118,101]
def we:BL:=[115,104,111,119]
def ql:BL:=[115,119,101,101,112]
def wj:BL:=[116,97,103]
def wm:BL:=[116,105,99,107]
def qo:BL:=[116,111,107,101,110]
def mg:BL:=[119,114,105,116,101,115]
def VV:ByteArray:=⟨#[99,117,116,32,102,97,109,105,108,105,101,115,32,103,114,97,110,116,32,104,101,108,112,32,107,105,108,108,32,108,101,97,115,116,32,108,111,103,32,109,105,110,116,32,110,101,119,32,111,112,101,110,32,114,111,116,97,116,101,32,115,97,118,101,32,115,104,111,119,32,115,119,101,101,112,32,116,97,103,32,116,105,99,107,32,116,111,107,101,110,32,119,114,105,116,101,115]⟩
abbrev BM:=DS×ByteArray×Int
def bad(d:DS)(e:Int):BM:=(d,bG,e)
def AZ(d:DS):List BL->BM
 |[a]=>if aZ a=true then(⟨d.r,Ve d.z (aa a)⟩,aq wG,0)else bad d 3
 |_=>bad d 3
def gv(d:DS):List BL->BM
 |[]=>(d,Ks d.z.s,0)
 |_=>bad d 3
def ov(d:DS):List BL->BM
 |[a,b,c]=>(⟨d.r,(bp bG d.z (fA d.r d.z.s (aq a) (aq b) (ef (aq c)))).1⟩,(bp bG d.z (fA d.r d.z.s (aq a) (aq b) (ef (aq c)))).2)
 |_=>bad d 3
def uf(d:DS):List BL->BM
 |[]=>(d,VV,0)
 |_=>bad d 3
def sS(d:DS):List BL->BM
 |[a]=>if aZ a=true then(⟨d.r,(bp () d.z (py d.z.s (aa a))).1⟩,aq qH,(bp () d.z (py d.z.s (aa a))).2.2)else bad d 3
 |_=>bad d 3
def oz(d:DS):List BL->BM
 |[a]=>(d,jR (aq (cr (ef (aq a)).data.toList)),aQ (ef (aq a)).data.toList)
 |_=>bad d 3
def rK(b:Bool):ByteArray:=if b then⟨#[116,114,117,101]⟩else⟨#[102,97,108,115,101]⟩
def CX(d:DS):List BL->BM
 |[]=>(d,gb [d.z.log]++⟨#[32]⟩++rK d.z.down,0)
 |_=>bad d 3
def ur(d:DS):List BL->BM
 |[a]=>(d,vY d.r d.z.s (aq a))
 |_=>bad d 3
def A8(d:DS):List BL->BM
 |[a,b,c,e]=>if (aZ a&&aZ b&&aZ c&&aZ e)=true then(if LL ⟨aa a,aa b,aa c,aa e⟩=true then(⟨⟨aa a,aa b,aa c,aa e⟩,Og⟩,aq uu,0)else bad d 2)else bad d 3
 |_=>bad d 3
def uA(d:DS):List BL->BM
 |[]=>(⟨d.r,QI d.z⟩,aq oD,0)
 |_=>bad d 3
def kL(d:DS):List BL->BM
 |[a,b,c]=>(⟨d.r,(bp bG d.z (iW d.r d.z.s (aq a) (aq b) (ef (aq c)))).1⟩,(bp bG d.z (iW d.r d.z.s (aq a) (aq b) (ef (aq c)))).2)
 |_=>bad d 3
def uH(d:DS):List BL->BM
 |[]=>(⟨d.r,(iL d.z).1⟩,aq qR,(iL d.z).2)
 |_=>bad d 3
def uJ(d:DS):List BL->BM
 |[a]=>(d,tW (qT d.r d.z.s (aq a)).1,(qT d.r d.z.s (aq a)).2)
 |_=>bad d 3
def oK(d:DS):List BL->BM
 |[]=>(⟨d.r,(bp 0 d.z (fD d.r d.z.s)).1⟩,bM (bp 0 d.z (fD d.r d.z.s)).2.1,(bp 0 d.z (fD d.r d.z.s)).2.2)
 |_=>bad d 3
def Eb(d:DS):List BL->BM
 |[a,b]=>if aZ a=true then(d,aq (bt (aa a) b),0)else bad d 3
 |_=>bad d 3
def ri(d:DS):List BL->BM
 |[a]=>if aZ a=true then(⟨d.r,(bp () d.z (pN d.z.s (aa a))).1⟩,bM (bp () d.z (pN d.z.s (aa a))).1.s.clock,(bp () d.z (pN d.z.s (aa a))).2.2)else bad d 3
 |_=>bad d 3
def pz(l:BL):Int:=if l=[114]then 1 else if l=[97]then 2 else 0
def oN(d:DS):List BL->BM
 |[k,a,b,c]=>if pz k≠0/\(aZ a&&aZ b&&aZ c)=true then(if eP (pz k) (aa a) (aa b) (aa c)=true then(d,Ae d.r.key (pz k) (aa a) (aa b) (aa c),0)else bad d 1)else bad d 3
 |_=>bad d 3
def kU(d:DS):List BL->BM
 |[]=>(d,bM d.z.writes,0)
 |_=>bad d 3
def eU(d:DS)(n:BL)(L:List BL):BM:=
 if n=wG then AZ d L else if n=g_ then gv d L else if n=pW then ov d L else if n=vT then uf d L
 else if n=qH then sS d L else if n=qa then oz d L else if n=E7 then CX d L else if n=vX then ur d L
 else if n=uu then A8 d L else if n=oD then uA d L else if n=lY then kL d L else if n=qR then uH d L
 else if n=we then uJ d L else if n=ql then oK d L else if n=wj then Eb d L else if n=wm then ri d L
 else if n=qo then oN d L else if n=mg then kU d L else bad d 3
def zf(n:Int):ByteArray:=⟨#[101,114,114,111,114,32]⟩++bM n
def nu(l:BL):List BL:=(parts 32 l).filter fun x=>decide (x≠ [])
def told(a:BM):DS×ByteArray:=(a.1,if a.2.2=0 then a.2.1 else zf a.2.2)
def eW(d:DS)(l:BL):DS×ByteArray:=
 match nu l with
 |[]=>(d,⟨#[111,107]⟩)
 |n::L=>told (eU d n L)
def CV(l:BL):List BL:=if 1<(parts 10 l).length/\(parts 10 l).getLast?=some []then(parts 10 l).dropLast else parts 10 l
def ac9(q:DS×ByteArray)(x:BL):DS×ByteArray:=((eW q.1 x).1,q.2++((eW q.1 x).2++⟨#[10]⟩))
def Dm(l:BL):ByteArray:=((CV l).foldl ac9 (ds0,bG)).2
def iP(l:BL):BL:=if l.getLast?=some 10 then l.dropLast else l
theorem Oq{l:BL}(h:(parts 10 l).getLast?=some [])(h1:1<(parts 10 l).length):∃a,l=a++[10]:=by
 have hg:=wK 10 l
 obtain⟨d,hd⟩:∃d,parts 10 l=d++[[]]:=by
  obtain⟨d,hd⟩:=alG.1 h;exact⟨d,hd⟩
 rw[hd]at hg h1;have eZ:d≠ []:=by rintro rfl;simp at h1
 rw[KB 10 d [[]] eZ sP]at hg;exact⟨glue 10 d,by rw[<-hg];rfl⟩
theorem N_(l:BL):parts 10 (iP l)=CV l:=by
 unfold CV iP
 by_cases h:l.getLast?=some 10
 ·obtain⟨a,rfl⟩:=alG.1 h
  rw[if_pos h,Ot,List.dropLast_concat,if_pos ⟨by have:=GG 10 a;simp;omega,by simp⟩,List.dropLast_concat]
 ·rw[if_neg h,if_neg]
  rintro⟨h1,h2⟩;obtain⟨a,rfl⟩:=Oq h2 h1;exact h sP
open Go.Sort
def Zv(at_:Nat)(W:aah)(B sb db:Nat)(D:Dk)(s:St)(v:aai)(n f x:Int)(e:Ending)(w':aah):Prop:=
 ∃(ok:Bool) (D':Dk),u9 D at_ s.ax (aq (lq bt (n+1) x s)) D' ok/\fS sb db W w'/\
  ((ok=true/\e=.returned .nilIface/\SD B sb db D' s v (n+1) x x false w')\/(ok=false/\e=.returned (.iface 30 (.int .i64 14))/\SD B sb db D' s v n f x true w'))
def acm(at_:Nat)(W:aah)(B sb db:Nat)(D:Dk)(s:St)(v:aai)(n f x:Int)(all i:aai)(w:aah):Prop:=
 ∃m:Nat,m<=s.ax.length/\i=.int .i64 m/\all=.string (aq (ig (s.ax.take m)))/\SD B sb db (iR D at_ s.ax m) s v n f x false w/\fS sb db W w/\∀j,j<m->zF (iR D at_ s.ax j)=false
def adB(W:aah)(g:Nat)(L:List Int)(O i:aai)(wr:aah):Prop:=∃k:Nat,k<=L.length/\i=.int .i64 k/\TN W g L k O wr
theorem abc{n x:Int}{L:List az}(h:Fit ⟨ck,nx,L⟩)(h0:0<=n)(h1:n<1000000)(h2:0<=x)(h3:x<=1000000):∀y∈[n+1,x,ck,nx,(L.length:Int)],rQ y=true:=by
 intro y hy;have hl:L.length<=20:=h.len;simp only[List.mem_cons,List.not_mem_nil,or_false]at hy;rcases hy with rfl|rfl|rfl|rfl|rfl
 ·exact cK.2 oM
 ·exact cK.2 oM
 ·exact Ll h.clock
 ·exact h.next
 ·exact cK.2 oM
theorem fS.Bw{a b:Nat}(w:aah):fS a b w w.drew:=⟨rfl,rfl,rfl,ahP _,fun _ _ _ _=>rfl⟩
theorem KL{n f:Int}{s:St}(h:Fit s)(hn:rQ n=true)(hf:rQ f=true):(glue 32 (headW bt n f s (ig s.ax))).length<=200/\(lq bt n f s).length<=240:=by
 have hl:=h.len;have a:=jL hn;have b:=jL hf;have c:=jL (Ll h.clock);have d:=jL h.next;have e:=jL (x:=(s.ax.length:Int)) (cK.2 oM);have t:=Ac.len 1 (ig s.ax);have g:=CH 32 (headW bt n f s (ig s.ax));simp only[headW,List.map_cons,List.map_nil,List.sum_cons,List.sum_nil]at g;refine⟨by unfold headW;omega,?_⟩;unfold lq;rw[vA];unfold headW;omega
theorem IQ{D:Dk}(h:zF D=true):D.cut=true/\D.left=0:=by
 unfold zF at h;simpa using h
theorem UQ{L:List az}{m:Nat}{f:az}(h:L[m]?=some f):ig (L.take (m+1))=ig (L.take m)++(mq (bU f)++[10]):=by
 rw[List.take_add_one,h,Option.toList_some,FU,List.append_assoc]
theorem ZC{L:List az}(h:∀f∈L,pU f=true):(ig L).length<=181*L.length:=by
 induction L with
 |nil=>simp[ig]
 |cons f L ih=>
  have h1:=vg (qP (h f (List.mem_cons_self ..)));have h2:=ih fun g hg=>h g (List.mem_cons_of_mem _ hg)
  have e:ig (f::L)=(mq (bU f)++[10])++ig L:=rfl;rw[e,ag2,ag2,agj,agj];simp only[ajE];omega
theorem DT(B sb db:Nat)(D:Dk)(s:St)(v:aai)(n f x:Int)(W:aah)(h:SD B sb db D s v n f x false W)(hf:D.fits)(ed:Fit s)(h0:0<=n)(h1:n<1000000)(h2:0<=x)(h3:x<=1000000):
  ach prog 115 #[.pointer (some ⟨sb,0,none⟩)] W (Zv (aI ((n+1) % 2).toNat) W B sb db D s v n f x):=by
 obtain⟨i0,RV,sQ,vp,mY⟩:=aj' Jd;have hL:=ed.len;have IG:=LY (n+1);have YR:=zH (fun w=>xd (n+1) w oM oM);have HF:=zH hf;have HI:=zH ed;have H0:Hid (acm (aI ((n+1) % 2).toNat) W B sb db D s v n f x (.string ⟨#[]⟩) (.int .i64 0) W):=zH ⟨0,Nat.zero_le _,rfl,rfl,h,fS.refl _ _ _,fun j hj=>absurd hj (Nat.not_lt_zero _)⟩;obtain⟨sa,sc,rfl⟩:=h.row.slice;obtain⟨ck,nx,L⟩:=s;dsimp only at*;obtain⟨c0,c1,c2,c3,c4,c5,c6,c7,z,aE⟩:=h.cells;have nB:wrap64 (n+1)=n+1:=IntWalk.wrap64_in _ oM;clear h hf ed;generalize aI ((n+1) % 2).toNat=at_ at*
 go_in
 go_wp2_with fail;refine(YR.O _).mono ?_;rintro e w1 ⟨rfl,rfl⟩;go_wp2_with fail
 go_loopw [5,33] (fun all i wr=>acm at_ W B sb db D ⟨ck,nx,L⟩ (.slice sa L.length sc) n f x all i wr) (fun _ i _=>L.length - (intOf i).toNat)
 case atStart=>exact H0.O
 case round=>
  obtain⟨m,hm,rfl,rfl,oV,dX,hon⟩:=hrel;have HS:=zH oV;have HT:=zH dX;have HN:=zH hon;dsimp only at hm HS HN;clear oV dX hon c0 c1 c2 c3 c4 c5 c6 c7 z aE;obtain⟨c0,c1,c2,c3,c4,c5,c6,c7,z,aE⟩:=HS.O.cells;have cN:=ZC (L:=L.take m) (fun f hf=>HI.O.ax f (List.mem_of_mem_take hf));have htk:(L.take m).length<=20:=by rw[List.length_take];omega
  have hz:(aq (ig (L.take m))).size<=4000:=by rw[cI];omega
  by_cases aav:m<L.length
  ·obtain⟨g,rfl,_,rs⟩:=HS.O.row.lit aav
   (obtain⟨fm,hfm⟩:∃fm,L[m]?=some fm:=⟨_,ag8 aav⟩;have hfB:=HI.O.ax fm (List.mem_of_getElem? hfm);have HW:=zH (fun w (hw:WB w w)=>xM (bU fm) w (nV hfB) hw (qP hfB));have MP:=vg (qP hfB);have hxs:(aq (mq (bU fm))).size<=180:=by rw[cI];exact MP);have HAN:=zH (UQ hfm)
   have Ey:iR D at_ L (m+1)=(iR D at_ L m).put (at_+1+m) (aq (mq (bU fm))):=by
    rw[iR,akH,hfm];rfl
   have MF:=zH Ey
   have CI:aq (ig (L.take m))++(aq (mq (bU fm))++⟨#[10]⟩)=aq (ig (L.take (m+1))):=by
    rw[HAN.O,<-pO,<-pO];rfl
   (have HAP:=zH CI;have YX:((at_+1+m:Nat):Int)=(at_:Int)+1+(m:Int):=by omega);have BQ:=zH (show Below wr.heap.size wr (wr.alloc (.cells (au fm) 113))from bR.alloc nR _);generalize aq (mq (bU fm))=xl at*;clear CI Ey cN HAN MP;have HON:=zH (fun w hd h=>wI db (iR D at_ L m) (at_+1+m) xl w hd oM oM h);have HOF:=zH (fun w hd h1 h2=>om db (iR D at_ L m) ((at_+1+m:Nat):Int) xl w hd oM oM oM h1 h2);rw[YX]at HON HOF;unfold bU at HW;obtain⟨i,cl,su,sc',ge,ma,us,re,de⟩:=fm;obtain⟨d0,d1,d2,d3,d4,d5,d6,d7,d8⟩:=rs.nine hfm;unfold bH aN at HW;unfold au at BQ;dsimp only at HW BQ;clear rs hfm hfB YX;go_wp2_with fail;have HS1:=zH (HS.O.keep BQ.O);have EL:=zH (HT.O.T (fS.aG BQ.O));refine(HW.O _ HS1.O.env.wb).mono ?_;rintro e w2 ⟨rfl,hb⟩;have Ud:=zH (HS1.O.keep hb);have YS:=zH (EL.O.T (fS.aG hb));clear hb HS1 EL HW BQ c0 c1 c2 c3 c4 c5 c6 c7 z aE d0 d1 d2 d3 d4 d5 d6 d7 d8;obtain⟨c0,c1,c2,c3,c4,c5,c6,c7,z,aE⟩:=Ud.O.cells;go_wp2_with fail;rcases p_:zF (iR D at_ L m)with _|_
   ·refine(HON.O _ Ud.O.fM p_).mono ?_
    rintro e w3 ⟨rfl,hd,hg⟩;have UD:=zH (Ud.O.wrote hd hg);have Ju:=zH (YS.O.T (fS.rP hg));have MY:=zH p_;clear hd hg Ud YS HON HOF p_ c0 c1 c2 c3 c4 c5 c6 c7 z aE;go_wp2_with fail;refine⟨⟨m+1,by show m+1<=L.length;omega,by go_num,by rw[HAP.O],by rw[MF.O];exact UD.O,Ju.O,fun j hj=>?_⟩,by simp[intOf];omega⟩;rcases af8 j m with hjm|hjm
    ·exact HN.O j hjm
    ·obtain rfl:j=m:=by omega
     exact MY.O
   ·obtain⟨q1,q2⟩:=IQ p_
    refine(HOF.O _ Ud.O.fM q1 q2).mono ?_;rintro e w3 ⟨rfl,rfl⟩;have MY:=zH p_;clear HON HOF p_ q1 q2;go_wp2_with fail;refine(w_ sb db ⟨ck,nx,L⟩ _ n f x false _ Ud.O.st).mono ?_;rintro e w4 ⟨rfl,R3,hg4⟩;have yR:=zH (Ud.O.QG R3 hg4);have Jv:=zH (YS.O.T (fS.rO hg4));clear R3 hg4;go_wp2_with fail;go_ret;exact⟨false,_,.inr ⟨rfl,m,hm,HN.O,MY.O,rfl⟩,Jv.O,.inr ⟨rfl,rfl,yR.O⟩⟩
  ·obtain rfl:m=L.length:=by omega
   rw[List.take_length]at hz ⊢;have a8:=HS.O.drew;have qu:=zH (show Below wr.drew.heap.size wr.drew (wr.drew.alloc (.cells #[.int .i64 (n+1),.int .i64 x,.int .i64 ck,.int .i64 nx,.int .i64 (L.length:Int)] 3))from bR.alloc nR _);have HC:=SD.four a8;have HC5:=SD.four (a8.keep qu.O);go_wp2_with fail
   go_region_held3 (fun w'=>w'.cell? ⟨sb,1,none⟩=some (.int .i64 ck)/\w'.cell? ⟨sb,2,none⟩=some (.int .i64 nx)/\w'.cell? ⟨sb,3,none⟩=some (.slice sa L.length sc)/\w'.cell? ⟨sb,6,none⟩=some (.int .i64 x))
    (first
     |with_reducible assumption
     |with_reducible exact HC
     |with_reducible exact HC5
     |exact HC5)
    (fail)
   (have HW5:=zH (show Below wr.heap.size wr (wr.alloc (.cells #[.int .i64 (n+1),.int .i64 x,.int .i64 ck,.int .i64 nx,.int .i64 (L.length:Int)] 3))from bR.alloc nR _);have kW:Hid (SD B sb db (iR D at_ L L.length) ⟨ck,nx,L⟩ (.slice sa L.length sc) n f x false (wr.alloc (.cells #[.int .i64 (n+1),.int .i64 x,.int .i64 ck,.int .i64 nx,.int .i64 (L.length:Int)] 3)).drew):=zH (HS.O.keep HW5.O).drew;have BR:Hid (fS sb db W (wr.alloc (.cells #[.int .i64 (n+1),.int .i64 x,.int .i64 ck,.int .i64 nx,.int .i64 (L.length:Int)] 3)).drew):=zH ((HT.O.T (fS.aG HW5.O)).T (fS.Bw _));have HI6:Hid (bD (wr.alloc (.cells #[.int .i64 (n+1),.int .i64 x,.int .i64 ck,.int .i64 nx,.int .i64 (L.length:Int)] 3)).drew wr.heap.size [n+1,x,ck,nx,(L.length:Int)]):=zH (mD wr 3 [n+1,x,ck,nx,(L.length:Int)]);have Zn:Hid (∀y∈[n+1,x,ck,nx,(L.length:Int)],rQ y=true):=zH (abc HI.O h0 h1 h2 h3);clear a8 qu HC HC5 HS HT HW5 c0 c1 c2 c3 c4 c5 c6 c7 z aE;have hl5: [n+1,x,ck,nx,(L.length:Int)].length=5:=rfl;go_wp2_with fail;generalize (wr.alloc (.cells #[.int .i64 (n+1),.int .i64 x,.int .i64 ck,.int .i64 nx,.int .i64 (L.length:Int)] 3)).drew=w5 at*;generalize wr.heap.size=g5 at*);(go_loopw [11,87] (fun O i wr'=>adB w5 g5 [n+1,x,ck,nx,(L.length:Int)] O i wr') (fun _ i _=>5 - (intOf i).toNat));case atStart=>exact⟨0,Nat.zero_le _,rfl,TN.start HI6.O⟩
   case round=>
    (obtain⟨k,hk,rfl,ht⟩:=hrel;have HTN:=zH ht;clear ht;generalize hL5: [n+1,x,ck,nx,(L.length:Int)]=L5 at*;have HL5:=zH hL5;clear hL5);by_cases atA:k<5
    ·have hc:=HTN.O.ints k oM
     have fR:rQ (L5.getD k 0)=true:=Zn.O _ (by rw[akH,ag8 oM];exact List.getElem_mem oM);have HX:=zH (show encStr (aax (L5.getD k 0))=.string (bM (L5.getD k 0))from rfl);generalize hx:L5.getD k 0=xk at*;have HXX:=zH hx;have Ep:=zH (fun w hT=>Br xk fR w hT);clear hx fR;generalize bM xk=y at*;go_wp2_with fail;refine(Ep.O _ (kW.O.keep HTN.O.below).env.cq).mono ?_;rintro e w6 ⟨rfl,hb⟩;have EL:=zH (HTN.O.call hb);have kF:=EL.O.row;have oU:=EL.O.below.size;clear hb hc
     go_wp2_with
      (at_builtin;refine akl _ rfl _ _ 22 rfl w5.heap.size 9 i0 (.string akG) 1 16 underlying22 RV sQ vp mY rfl dC _ _ _ rfl (kF.alloc _) ⟨w6.heap.size,0,none⟩ 1 1 [.string y] rfl rfl (alA _ _ _) (fun x hx=>by simp at hx;subst hx;rfl) mL oM sO ?_;intro v' w7 eE cZ mB
       have HO:=zH eE;have HG:=zH cZ;clear eE cZ mB kF)
     go_roundw;(case rel=>exact⟨k+1,by omega,by go_num,TN.next HI6.O EL.O oM (by rw[HXX.O];exact HX.O.symm) HO.O HG.O⟩);case measure=>simp[intOf];omega
    ·obtain rfl:k=5:=by omega
     have kF:=HTN.O.row;rw[List.take_of_length_le oM]at kF;have zu:=HTN.O.below;have Zj:=SD.one (kW.O.keep zu).drew;have MI:=zH (fun w=>vr 1 (aq (ig L)) w oM);rw[an]at MI;have hgs:(⟨(bt 1 (ig L)).toArray⟩:ByteArray)=aq (bt 1 (ig L)):=rfl;rw[hgs]at MI;have Qs:=KL (n:=n+1) (f:=x) (s:=⟨ck,nx,L⟩) HI.O (cK.2 oM) (cK.2 oM)
     have ai8:L5.map (fun x=>encStr (aax x))++[.string (aq (bt 1 (ig L)))]=(headW bt (n+1) x ⟨ck,nx,L⟩ (ig L)).map encStr:=by
      rw[<-HL5.O];rfl
     have HWD:=zH ai8;have ai3:=zu.size;clear ai8 hgs
     have UC:Hid (∀(w8:aah) (g8 Np:Nat),w8.ownsRow w5.heap.size 9 1 (.slice (some ⟨g8,0,none⟩) (5+1) Np) (5+1) (L5.map (fun x=>encStr (aax x))++[.string (aq (bt 1 (ig L)))])->Row w8 w5.heap.size (.slice (some ⟨g8,0,none⟩) (5+1) Np) (headW bt (n+1) x ⟨ck,nx,L⟩ (ig L))):=zH (fun w8 g8 Np ho=>by
      rw[HWD.O]at ho;exact uF ho (by simp[headW]))
     (have HSE:=zH (fun w v h=>yG w5.heap.size v (headW bt (n+1) x ⟨ck,nx,L⟩ (ig L)) w h (by simp[headW]) (by have:=Qs.1;exact aiC this dC));have hhd:aq (sV bt (glue 32 (headW bt (n+1) x ⟨ck,nx,L⟩ (ig L))))=aq (lq bt (n+1) x ⟨ck,nx,L⟩):=rfl;rw[hhd]at HSE;have hhs:(aq (lq bt (n+1) x ⟨ck,nx,L⟩)).size<=240:=by rw[cI];exact Qs.2);have yS:Below w5.heap.size w5 wr.drew:=⟨zu.os,zu.tape,zu.output,zu.size,zu.block⟩;have NU:wr.drew.ownsRow w5.heap.size 9 1 u11 5 (L5.map (fun x=>encStr (aax x))):=kF;clear hhd Qs HWD;generalize (headW bt (n+1) x ⟨ck,nx,L⟩ (ig L))=words at*;generalize hgt:aq (bt 1 (ig L))=tg at*;generalize aq (ig L)=al at*;generalize hhe:aq (lq bt (n+1) x ⟨ck,nx,L⟩)=hd at HSE hhs;have HHD:=zH hhe;clear hhe;rcases p_:zF (iR D at_ L L.length)with _|_
     ·have HWR:=zH (fun w h=>wI db (iR D at_ L L.length) at_ hd w h oM hhs p_)
      have MY:=zH p_;clear p_ hhs;go_wp2_with fail
      go_region_held3 (fun w'=>w'.cell? ⟨sb,0,none⟩=some (.pointer (some ⟨db,0,none⟩)))
       (first
        |with_reducible assumption
        |with_reducible exact Zj
        |with_reducible exact SD.one (SD.keep kW.O VQ)
        |with_reducible exact SD.one (SD.keep kW.O MK)
        |with_reducible exact SD.one (SD.keep kW.O Bp)
        |with_reducible exact SD.one (SD.keep kW.O hbt)
        |with_reducible exact SD.one ae1)
       (first
        |(go_at_call 88;with_reducible refine(MI.O _).mono ?_;rintro e wt ⟨rfl,hb⟩
          have hbt:=below_2 yS hb;have RZ:=rM NU hb;have Bp:=Below.alloc hbt hbt.size (.cells #[.string tg] 9);have hra:=RZ.alloc (.cells #[.string tg] 9);have hza:=Bp.size)
        |(refine step_append_lies _ rfl _ _ 22 rfl w5.heap.size 9 i0 (.string akG) 1 16 underlying22 RV sQ vp mY rfl dC _ _ _ rfl hra ⟨wt.heap.size,0,none⟩ 1 1 [.string tg] rfl rfl (alA _ _ _) (fun x hx=>by simp at hx;subst hx;rfl) dC mL oM hza _ rfl ?_;intro g8 Np w8 eE cZ aej aeP
          have hr8:=UC.O w8 g8 Np eE;have MK:=Below.grown Bp cZ Bp.size (fun i e=>(World.ownsRow.lt hra i e).1);clear eE cZ aej aeP)
        |(go_at_call 163;with_reducible refine(HSE.O _ _ hr8).mono ?_;rintro e w9 ⟨rfl,hb⟩
          have VQ:=below_2 MK hb)
        |(go_at_call 161;with_reducible refine(HWR.O _ (SD.fM (SD.keep kW.O VQ))).mono ?_;rintro e w10 ⟨rfl,aih,aez⟩
          have ae1:=SD.wrote (SD.keep kW.O VQ) aih aez))
      (have ahc:=zH ae1;have adr:=zH ((BR.O.T (fS.aG VQ)).T (fS.rP aez));obtain⟨c0,c1,c2,c3,c4,c5,c6,c7,z,aE⟩:=ahc.O.cells;clear ae1 aih aez VQ hr8 MK hza hra Bp RZ hbt NU yS kF zu Zj ai3;go_wp2_with fail;go_ret;obtain⟨k1,k2⟩:=ahc.O.number (n+1) x;have e:=HHD.O;subst e;refine⟨true,_,.inl ⟨rfl,fun m hm=>?_,rfl⟩,adr.O.T (fS.rO k2),.inl ⟨rfl,rfl,k1⟩⟩;rcases af8 m L.length with Uq|Uq);(·exact HN.O m Uq)
      ·obtain rfl:m=L.length:=Nat.le_antisymm hm Uq
       exact MY.O
     ·obtain⟨q1,q2⟩:=IQ p_
      have HWR:=zH (fun w h=>om db (iR D at_ L L.length) (at_:Int) hd w h oM oM hhs q1 q2);have MY:=zH p_;clear p_ hhs q1 q2;go_wp2_with fail
      go_region_held3 (fun w'=>w'.cell? ⟨sb,0,none⟩=some (.pointer (some ⟨db,0,none⟩)))
       (first
        |with_reducible assumption
        |with_reducible exact Zj
        |with_reducible exact SD.one (SD.keep kW.O VQ)
        |with_reducible exact SD.one (SD.keep kW.O MK)
        |with_reducible exact SD.one (SD.keep kW.O Bp)
        |with_reducible exact SD.one (SD.keep kW.O hbt))
       (first
        |(go_at_call 88;with_reducible refine(MI.O _).mono ?_;rintro e wt ⟨rfl,hb⟩
          have hbt:=below_2 yS hb;have RZ:=rM NU hb;have Bp:=Below.alloc hbt hbt.size (.cells #[.string tg] 9);have hra:=RZ.alloc (.cells #[.string tg] 9);have hza:=Bp.size)
        |(refine step_append_lies _ rfl _ _ 22 rfl w5.heap.size 9 i0 (.string akG) 1 16 underlying22 RV sQ vp mY rfl dC _ _ _ rfl hra ⟨wt.heap.size,0,none⟩ 1 1 [.string tg] rfl rfl (alA _ _ _) (fun x hx=>by simp at hx;subst hx;rfl) dC mL oM hza _ rfl ?_;intro g8 Np w8 eE cZ aej aeP
          have hr8:=UC.O w8 g8 Np eE;have MK:=Below.grown Bp cZ Bp.size (fun i e=>(World.ownsRow.lt hra i e).1);clear eE cZ aej aeP)
        |(go_at_call 163;with_reducible refine(HSE.O _ _ hr8).mono ?_;rintro e w9 ⟨rfl,hb⟩
          have VQ:=below_2 MK hb)
        |(go_at_call 161;with_reducible refine(HWR.O _ (SD.fM (SD.keep kW.O VQ))).mono ?_;rintro e w10 ⟨rfl,rfl⟩))
      have HS9:=zH (kW.O.keep VQ);have HT9:=zH (BR.O.T (fS.aG VQ));clear VQ hr8 MK hza hra Bp RZ hbt NU yS kF zu Zj ai3;obtain⟨c0,c1,c2,c3,c4,c5,c6,c7,z,aE⟩:=HS9.O.cells;go_wp2_with fail;refine(w_ sb db ⟨ck,nx,L⟩ _ n f x false _ HS9.O.st).mono ?_;rintro e w11 ⟨rfl,R3,hg4⟩;have alz:=zH (HS9.O.QG R3 hg4);have alD:=zH (HT9.O.T (fS.rO hg4));clear R3 hg4;go_wp2_with fail;go_ret;exact⟨false,_,.inr ⟨rfl,L.length,ahP _,HN.O,MY.O,rfl⟩,alD.O,.inr ⟨rfl,rfl,alz.O⟩⟩
def H_(B sb db:Nat)(D:Dk)(s:St)(v:aai)(n f x:Int)(e:Ev)(r:Ending)(w':aah):Prop:=
 (zF D=true/\r=.returned (.iface 30 (.int .i64 14))/\SD B sb db D s v n f x true w')\/
 (zF D=false/\r=.returned .nilIface/\∃v',SD B sb db (D.put (x % 16).toNat (aq (k_ bt x e))) (av s e) v' n f (x+1) false w')
def yW(W:aah)(B sb db:Nat)(D:Dk)(s:St)(v:aai)(n f x:Int)(e:Ev)(r:Ending)(w':aah):Prop:=
 fS sb db W w'/\(
  (gG e=false/\r=.returned (.iface 30 (.int .i64 1))/\SD B sb db D s v n f x false w')\/
  (gG e=true/\20<(av s e).ax.length/\r=.returned (.iface 30 (.int .i64 12))/\SD B sb db D s v n f x false w')\/
  (gG e=true/\(av s e).ax.length<=20/\x - f≠16/\H_ B sb db D s v n f x e r w')\/
  (gG e=true/\(av s e).ax.length<=20/\x - f=16/\∃D1,u9 D (aI ((n+1) % 2).toNat) s.ax (aq (lq bt (n+1) x s)) D1 true/\H_ B sb db D1 s v (n+1) x x e r w')\/
  (gG e=true/\(av s e).ax.length<=20/\x - f=16/\∃D1,u9 D (aI ((n+1) % 2).toNat) s.ax (aq (lq bt (n+1) x s)) D1 false/\r=.returned (.iface 30 (.int .i64 14))/\SD B sb db D1 s v n f x true w'))
structure SA(W:aah)(B sb db:Nat)(D:Dk)(s:St)(v:aai)(n f x:Int)(down:Bool)(e:Ev)(w:aah):Prop where
 sd:SD B sb db D s v n f x down w
 ev:aC w W.heap.size 115 (aN e)
 two:fS sb db W w
 nb:sb<W.heap.size/\db<W.heap.size
section
variable{W w w':aah}{B sb db:Nat}{D:Dk}{s:St}{v:aai}{n f x:Int}{down:Bool}{e:Ev}
theorem SA.start(h:SD B sb db D s v n f x down W):SA W B sb db D s v n f x down e (W.alloc (.cells (aN e) 115)):=by
 have hb:Below W.heap.size W (W.alloc (.cells (aN e) 115)):=bR.alloc nR _;exact⟨h.keep hb,aC.new W _ _,fS.aG hb,aC.lt h.st,h.fM.at_.lt⟩
theorem SA.keep(h:SA W B sb db D s v n f x down e w)(hb:Below w.heap.size w w'):SA W B sb db D s v n f x down e w':=⟨h.sd.keep hb,h.ev.aj hb,h.two.T (fS.aG hb),h.nb⟩
theorem SA.three{L:List az}(h:SA W B sb db D ⟨ck,nx,L⟩ v n f x down e w):w.cell? ⟨sb,1,none⟩=some (.int .i64 ck)/\w.cell? ⟨sb,2,none⟩=some (.int .i64 nx)/\w.cell? ⟨sb,3,none⟩=some v:=⟨aC.cell h.sd.st 1,aC.cell h.sd.st 2,aC.cell h.sd.st 3⟩
theorem SA.drew(h:SA W B sb db D s v n f x down e w):SA W B sb db D s v n f x down e w.drew:=⟨h.sd.drew,h.ev,h.two.T (fS.Bw _),h.nb⟩
end
theorem SD.adK{B sb db:Nat}{D:Dk}{s:St}{v:aai}{n f x:Int}{w:aah}(h:SD B sb db D s v n f x false w)(s':St){v':aai}(hr:bz w B v' s'.ax)(x':Int):
  SD B sb db D s' v' n f x' false ((((w.setCell ⟨sb,1,none⟩ (.int .i64 s'.clock)).setCell ⟨sb,2,none⟩ (.int .i64 s'.next)).setCell ⟨sb,3,none⟩ v').setCell ⟨sb,6,none⟩ (.int .i64 x'))/\w.grownBy ((((w.setCell ⟨sb,1,none⟩ (.int .i64 s'.clock)).setCell ⟨sb,2,none⟩ (.int .i64 s'.next)).setCell ⟨sb,3,none⟩ v').setCell ⟨sb,6,none⟩ (.int .i64 x')) (some sb):=by
 obtain⟨h1,h2,h3⟩:=h.apart;have e1:=aC.dD h.st 1 (.int .i64 s'.clock) (cs':=gh db ⟨s'.clock,s.next,s.ax⟩ v n f x false) rfl;have e2:=aC.dD e1 2 (.int .i64 s'.next) (cs':=gh db ⟨s'.clock,s'.next,s.ax⟩ v n f x false) rfl;have e3:=aC.dD e2 3 v' (cs':=gh db s' v' n f x false) rfl;have e4:=aC.dD e3 6 (.int .i64 x') (cs':=gh db s' v' n f x' false) rfl;have g1:=cC w sb ⟨sb,1,none⟩ rfl (.int .i64 s'.clock);have g2:=ak g1 (p:=⟨sb,2,none⟩) (.inl rfl) (.int .i64 s'.next);have g3:=ak g2 (p:=⟨sb,3,none⟩) (.inl rfl) v';have hg:=ak g3 (p:=⟨sb,6,none⟩) (.inl rfl) (.int .i64 x');have hb:Below B w _:=(Below.refl B w).grown hg h.nH (fun k hk=>by cases hk;exact h.bs);exact⟨⟨h.env.keep hb,e4,h.fM.grown hg (by simpa using Ne.symm h3),hr.kept hg (hr.apart h.st dC),h.bs,h.bd⟩,hg⟩
theorem SD.zs{B sb db:Nat}{D:Dk}{s:St}{v:aai}{n f x:Int}{down:Bool}{w:aah}(h:SD B sb db D s v n f x down w):w.cell? ⟨sb,0,none⟩=some (.pointer (some ⟨db,0,none⟩))/\w.cell? ⟨sb,6,none⟩=some (.int .i64 x):=⟨aC.cell h.st 0,aC.cell h.st 6⟩
theorem QW{w:aah}{z0 z1 z2:aai}(h:aC w g T #[z0,z1,z2])(c n v:aai):aC (((w.setCell ⟨g,0,none⟩ c).setCell ⟨g,1,none⟩ n).setCell ⟨g,2,none⟩ v) g T #[c,n,v]/\w.grownBy (((w.setCell ⟨g,0,none⟩ c).setCell ⟨g,1,none⟩ n).setCell ⟨g,2,none⟩ v) (some g):=by
 have e1:=h.dD 0 c (cs':=#[c,z1,z2]) rfl;have e2:=e1.dD 1 n (cs':=#[c,n,z2]) rfl;have e3:=e2.dD 2 v (cs':=#[c,n,v]) rfl;have g1:=cC w g ⟨g,0,none⟩ rfl c;have g2:=ak g1 (p:=⟨g,1,none⟩) (.inl rfl) n;exact⟨e3,ak g2 (p:=⟨g,2,none⟩) (.inl rfl) v⟩
theorem adE(B sb db:Nat)(D:Dk)(s:St)(v:aai)(n f x:Int)(e:Ev)(W:aah)(h:SD B sb db D s v n f x false W)(hs:e.bA.short 5000)(he:gG e=false):
  ach prog 164 #[.pointer (some ⟨sb,0,none⟩),bH e] W (yW W B sb db D s v n f x e):=by
 have H0:=zH (SA.start (e:=e) h);have HW:=zH (fun w hw=>YL e w hs hw he);have HE:=zH he;have HG:Hid (∀w',SA W B sb db D s v n f x false e w'->yW W B sb db D s v n f x e (.returned (.iface 30 (.int .i64 1))) w'):=zH fun w' hw=>⟨hw.two,.inl ⟨he,rfl,hw.sd⟩⟩
 obtain⟨ck,nx,L⟩:=s;obtain⟨c0,c1,c2,c3,c4,c5,c6,c7,z,aE⟩:=h.cells;obtain⟨kd,⟨i,cl,su,sc,ge,ma,us,re,de⟩,id,ti⟩:=e;unfold bH aN at*;dsimp only at*;clear h he
 go_in
 go_wp2_with fail;refine(HW.O _ H0.O.sd.env.wb).mono ?_;rintro r w1 ⟨rfl,hb⟩;go_wp2_with fail;go_ret;exact HG.O _ (H0.O.keep hb)
theorem ZA(B sb db:Nat)(D:Dk)(s:St)(v:aai)(n f x:Int)(e:Ev)(W:aah)(h:SD B sb db D s v n f x false W)(hs:e.bA.short 5000)(he:gG e=true)(hf:D.fits)(ed:Fit s)(h0:0<=n)(h1:n<1000000)(h2:0<=f)(h3:f<=x)(h4:x<1000000):
  ach prog 164 #[.pointer (some ⟨sb,0,none⟩),bH e] W (yW W B sb db D s v n f x e):=by
 have H0:=zH (SA.start (e:=e) h);have HW:=zH (fun w hw=>xM e w hs hw he)
 have HA:Hid (∀(w:aah) (v:aai),bz w B v s.ax->ach prog 56 #[je s v,bH e] w (oZ w (av s e).clock (av s e).next (av s e).ax)):=
  zH fun w v hr=>(Cv _ v s e w hr ed.ok (IS he) (IT he)).mono fun _ _ h=>j7 h
 have HE:=zH he;have HF:=zH hf;have HI:=zH ed;obtain⟨sa,eF,rfl⟩:=h.row.slice;obtain⟨ck,nx,L⟩:=s;have Jw:=vg he;have hes:(aq (mq e)).size<=180:=by rw[cI];exact Jw
 obtain⟨c0,c1,c2,c3,c4,c5,c6,c7,z,aE⟩:=h.cells;generalize gX:av ⟨ck,nx,L⟩ e=st' at*;have gJ:=zH gX;clear gX;obtain⟨ZM,nx',L'⟩:=st';dsimp only at*;generalize hxl:aq (mq e)=xl at*;have HXL:=zH hxl;obtain⟨kd,⟨i,cl,su,sc,ge,ma,us,re,de⟩,id,ti⟩:=e;unfold oZ je kY bH aN at HA;unfold bH aN at HW;unfold aN at H0;unfold bH aN;dsimp only at*;clear h he hf ed hxl
 go_in
 go_wp2_with fail;refine(HW.O _ H0.O.sd.env.wb).mono ?_;rintro r w1 ⟨rfl,hb⟩;have H1:=zH (H0.O.keep hb);clear hb c0 c1 c2 c3 c4 c5 c6 c7 z aE H0 HW;go_wp2_with fail;refine bC (SA W B sb db D ⟨ck,nx,L⟩ (.slice sa L.length eF) n f x false ⟨kd,⟨i,cl,su,sc,ge,ma,us,re,de⟩,id,ti⟩) [7] kR ?_;have a8:=H1.O.drew;refine bf 2 0 ?v0 ?hy0 aS ?ajI
 case hy0=>(intro w dm;obtain⟨c1,c2,c3⟩:=dm.three;obtain⟨e0,e1,e2,e3,e4,e5,e6,e7,e8,e9,Uj,Uk⟩:=bL dm.ev;go_simp;(try with_reducible rfl))
 simp only[agu];refine bf 2 1 ?v1 ?hy1 aS ?ajJ
 case hy1=>(intro w dm;obtain⟨c1,c2,c3⟩:=dm.three;obtain⟨e0,e1,e2,e3,e4,e5,e6,e7,e8,e9,Uj,Uk⟩:=bL dm.ev;go_simp;(try with_reducible rfl))
 simp only[agu];refine bf 2 2 ?v2 ?hy2 aS ?ajL
 case hy2=>(intro w dm;obtain⟨c1,c2,c3⟩:=dm.three;obtain⟨e0,e1,e2,e3,e4,e5,e6,e7,e8,e9,Uj,Uk⟩:=bL dm.ev;go_simp;(try with_reducible rfl))
 simp only[agu];refine bf 2 3 ?v3 ?Wv aS ?ajM
 case Wv=>(intro w dm;obtain⟨c1,c2,c3⟩:=dm.three;obtain⟨e0,e1,e2,e3,e4,e5,e6,e7,e8,e9,Uj,Uk⟩:=bL dm.ev;go_simp;(try with_reducible rfl))
 simp only[agu];refine bf 2 4 ?v4 ?hy4 aS ?ajN
 case hy4=>(intro w dm;obtain⟨c1,c2,c3⟩:=dm.three;obtain⟨e0,e1,e2,e3,e4,e5,e6,e7,e8,e9,Uj,Uk⟩:=bL dm.ev;go_simp;(try with_reducible rfl))
 simp only[agu];refine lU (i:=5) (j:=6) kR rfl rfl ?cA ?cB
 case' cA=>
  intro K5 hK5;go_simp;refine(HA.O _ _ a8.sd.row).mono ?_;rintro r w2 ⟨a1,ac,rfl,jT,hb⟩;have Ie:=a8.keep hb;have vo:=jT.mono (B':=B) a8.sd.nH
  try dsimp only
  refine hK5.O _ _ (fun _=>Ie) ?_
  try simp only[agu]
  refine aB 6 ?_;intro K6 hK6;go_simp;have lV:=(Below.refl w2.heap.size w2).alloc nR (.cells #[.int .i64 0,.int .i64 0,.slice none 0 0] 107);have yZ:=Ie.keep lV;have hz:=aC.new w2 107 #[.int .i64 0,.int .i64 0,.slice none 0 0];have E5:=vo.below lV;refine hK6.O _ _ (fun _=>yZ) ?_
  try simp only[agu]
  obtain⟨vp,mY⟩:=QW hz (.int .i64 ZM) (.int .i64 nx') (.slice a1 L'.length ac);have RP:=lV.grown mY lV.size (fun _ hk=>by cases hk;exact ahP _);have eZ:akw (.slice a1 L'.length ac)≠some w2.heap.size:=fun he=>by have:=(vo.lt _ he).2;omega
  have HS:=zH (Ie.keep RP);have HT:=zH vp;have HR:=zH (E5.kept mY eZ);have aav:w2.heap.size<(w2.alloc (.cells #[.int .i64 0,.int .i64 0,.slice none 0 0] 107)).heap.size:=hz.lt;obtain⟨d0,d1,d2⟩:=oe hz;have dz:=hz.frozen;generalize w2.alloc (.cells #[.int .i64 0,.int .i64 0,.slice none 0 0] 107)=w2a at*;refine aB 7 ?_;intro K7 Iz;go_simp
  try dsimp only
  refine Iz.O _ _ (fun h=>absurd h dC) ?_;refine bJ kR ?_ _;have hgb:sb<w2.heap.size/\db<w2.heap.size:=⟨aC.lt Ie.sd.st,Ie.sd.fM.at_.lt⟩;generalize w2.heap.size=tb at*;generalize ((w2a.setCell ⟨tb,0,none⟩ (.int .i64 ZM)).setCell ⟨tb,1,none⟩ (.int .i64 nx')).setCell ⟨tb,2,none⟩ (.slice a1 L'.length ac)=w3 at*;clear hz vp mY lV RP jT vo E5 a8 Ie yZ hb H1 d0 d1 d2 dz;clear aav
 case' cB=>
  intro K6 hK6;go_simp;have lV:Below w1.drew.heap.size w1.drew (w1.alloc (.cells #[.int .i64 0,.int .i64 0,.slice none 0 0] 107)).drew:=(Below.refl w1.heap.size w1.drew).alloc nR _;have yZ:=a8.keep lV;have hz:aC (w1.alloc (.cells #[.int .i64 0,.int .i64 0,.slice none 0 0] 107)).drew w1.heap.size 107 #[.int .i64 0,.int .i64 0,.slice none 0 0]:=aC.new w1 _ _;refine hK6.O _ _ (fun _=>yZ) ?_
  try simp only[agu]
  refine aB 5 ?_;intro K5 hK5;go_simp;have an5:w1.heap.size<(w1.alloc (.cells #[.int .i64 0,.int .i64 0,.slice none 0 0] 107)).drew.heap.size:=hz.lt;have hgb:sb<w1.heap.size/\db<w1.heap.size:=⟨aC.lt a8.sd.st,a8.sd.fM.at_.lt⟩;generalize (w1.alloc (.cells #[.int .i64 0,.int .i64 0,.slice none 0 0] 107)).drew=w1a at*;refine(HA.O _ _ yZ.sd.row).mono ?_;rintro r w2 ⟨a1,ac,rfl,jT,hb⟩;have Ie:=yZ.keep hb;have sQ:=hz.aj hb;have ju:=below_2 lV hb;have vo:=jT.mono (B':=B) yZ.sd.nH
  try dsimp only
  refine hK5.O _ _ (fun _=>Ie) ?_
  try simp only[agu]
  obtain⟨vp,mY⟩:=QW sQ (.int .i64 ZM) (.int .i64 nx') (.slice a1 L'.length ac);have RP:=ju.grown mY ju.size (fun _ hk=>by cases hk;exact ahP _);have eZ:akw (.slice a1 L'.length ac)≠some w1.heap.size:=fun he=>by have:=(jT.lt _ he).1;omega
  have HS:=zH (a8.keep RP);have HT:=zH vp;have HR:=zH (vo.kept mY eZ);obtain⟨d0,d1,d2⟩:=oe sQ;have dz:=sQ.frozen;refine aB 7 ?_;intro K7 Iz;go_simp
  try dsimp only
  refine Iz.O _ _ (fun h=>absurd h dC) ?_;refine bJ kR ?_ _;clear yZ an5 hb sQ;generalize w1.heap.size=tb at*;generalize ((w2.setCell ⟨tb,0,none⟩ (.int .i64 ZM)).setCell ⟨tb,1,none⟩ (.int .i64 nx')).setCell ⟨tb,2,none⟩ (.slice a1 L'.length ac)=w3 at*;clear hz vp mY lV RP ju jT vo a8 Ie H1 d0 d1 d2 dz eZ
 all_goals
  obtain⟨c0,c1,c2,c3,c4,c5,c6,c7,z,aE⟩:=HS.O.sd.cells;obtain⟨d0,d1,d2⟩:=oe HT.O
  by_cases aiF:20<L'.length
  ·go_wp2_with fail
   go_ret;exact⟨HS.O.two,.inr (.inl ⟨HE.O,by rw[gJ.O];exact aiF,rfl,HS.O.sd⟩)⟩
  have HLG:=zH (Hg sb db ⟨ck,nx,L⟩ _ n f x false w3 HS.O.sd.st h2 h3 oM);go_wp2_with fail;refine HLG.O.mono ?_;rintro r w4 ⟨rfl,hb⟩;have yR:=zH (HS.O.keep hb);have Jv:=zH (HT.O.aj hb);have vH:=zH (HR.O.below hb);clear hb HLG HS HT HR c0 c1 c2 c3 c4 c5 c6 c7 z aE d0 d1 d2
  by_cases Ar:x - f=16
  case' pos=>
   have HSV:=zH (DT B sb db D ⟨ck,nx,L⟩ _ n f x w4 yR.O.sd HF.O HI.O h0 h1 oM oM);go_wp2_with fail;refine HSV.O.mono ?_;rintro r w5 ⟨ok,D1,Gs,dX,aO⟩;rcases aO with⟨rfl,rfl,oV⟩|⟨rfl,rfl,oV⟩
   rotate_left
   ·go_wp2_with fail
    go_ret;exact⟨yR.O.two.T dX,.inr (.inr (.inr (.inr ⟨HE.O,by rw[gJ.O];show L'.length<=20;omega,Ar,D1,Gs,rfl,oV⟩)))⟩
   have HC:∃D1 n1 f1,SD B sb db D1 ⟨ck,nx,L⟩ (.slice sa L.length eF) n1 f1 x false w5/\fS sb db W w5/\aC w5 tb 107 #[.int .i64 ZM,.int .i64 nx',.slice a1 L'.length ac]/\bz w5 B (.slice a1 L'.length ac) L'/\
     ∀r w',H_ B sb db D1 ⟨ck,nx,L⟩ (.slice sa L.length eF) n1 f1 x ⟨kd,⟨i,cl,su,sc,ge,ma,us,re,de⟩,id,ti⟩ r w'->fS sb db W w'->yW W B sb db D ⟨ck,nx,L⟩ (.slice sa L.length eF) n f x ⟨kd,⟨i,cl,su,sc,ge,ma,us,re,de⟩,id,ti⟩ r w':=
    ⟨D1,n+1,x,oV,yR.O.two.T dX,aC.two Jv.O dX (by have:=hgb.1;have:=hgb.2;omega) (by have:=hgb.1;have:=hgb.2;omega),vH.O.two dX (vH.O.apart yR.O.sd.st dC) (vH.O.apart yR.O.sd.fM.at_ dC),
     fun r w' hr ht=>⟨ht,.inr (.inr (.inr (.inl ⟨HE.O,by rw[gJ.O];show L'.length<=20;omega,Ar,D1,Gs,hr⟩)))⟩⟩
   clear HSV yR Jv vH Gs dX oV;go_wp2_with fail
  case' neg=>
   have am4:(x - f == 16)=false:=by simpa using Ar
   have HC:∃D1 n1 f1,SD B sb db D1 ⟨ck,nx,L⟩ (.slice sa L.length eF) n1 f1 x false w4/\fS sb db W w4/\aC w4 tb 107 #[.int .i64 ZM,.int .i64 nx',.slice a1 L'.length ac]/\bz w4 B (.slice a1 L'.length ac) L'/\
     ∀r w',H_ B sb db D1 ⟨ck,nx,L⟩ (.slice sa L.length eF) n1 f1 x ⟨kd,⟨i,cl,su,sc,ge,ma,us,re,de⟩,id,ti⟩ r w'->fS sb db W w'->yW W B sb db D ⟨ck,nx,L⟩ (.slice sa L.length eF) n f x ⟨kd,⟨i,cl,su,sc,ge,ma,us,re,de⟩,id,ti⟩ r w':=
    ⟨D,n,f,yR.O.sd,yR.O.two,Jv.O,vH.O,fun r w' hr ht=>⟨ht,.inr (.inr (.inl ⟨HE.O,by rw[gJ.O];show L'.length<=20;omega,Ar,hr⟩))⟩⟩
   clear yR Jv vH;go_wp2_with fail;generalize w4=w5 at*
  all_goals
   (obtain⟨D1,n1,f1,oV,dX,htb,hrw,vL⟩:=HC;have rA:=zH oV;have HW5:=zH dX;have BR:=zH htb;have HR5:=zH hrw;have JH:=zH vL;clear oV dX htb hrw vL;obtain⟨j,hj,YZ⟩:∃j:Nat,x.tmod 16=(j:Int)/\(x % 16).toNat=j:=⟨(x % 16).toNat,by rw[Int.tmod_eq_emod_of_nonneg oM];omega,rfl⟩;have aeE:j<16:=by omega);have hxM:rQ x=true:=cK.2 oM;have Ep:=zH (fun w hT=>Br x hxM w hT);have hxl:(aax x).length<=13:=jL hxM;have hgl:glue 32 [aax x,mq ⟨kd,⟨i,cl,su,sc,ge,ma,us,re,de⟩,id,ti⟩]=aax x++32::mq ⟨kd,⟨i,cl,su,sc,ge,ma,us,re,de⟩,id,ti⟩:=rfl;have HSE:=zH (fun w v B h=>yG B v [aax x,mq ⟨kd,⟨i,cl,su,sc,ge,ma,us,re,de⟩,id,ti⟩] w h (by show 2<=100;decide) (by rw[hgl,ag2,agj];omega));have V5:aq (sV bt (glue 32 [aax x,mq ⟨kd,⟨i,cl,su,sc,ge,ma,us,re,de⟩,id,ti⟩]))=aq (k_ bt x ⟨kd,⟨i,cl,su,sc,ge,ma,us,re,de⟩,id,ti⟩):=rfl;rw[V5]at HSE
   have hrs:(aq (k_ bt x ⟨kd,⟨i,cl,su,sc,ge,ma,us,re,de⟩,id,ti⟩)).size<=240:=by
    rw[cI];unfold k_;rw[vA,ag2,agj];omega
   have UC:Hid (∀w:aah,Row (w.alloc (.cells #[.string (bM x),.string xl] 9)) w.heap.size (.slice (some ⟨w.heap.size,0,none⟩) 2 2) [aax x,mq ⟨kd,⟨i,cl,su,sc,ge,ma,us,re,de⟩,id,ti⟩]):=zH fun w=>by
    rw[<-HXL.O];exact Row.new (L:=[aax x,mq ⟨kd,⟨i,cl,su,sc,ge,ma,us,re,de⟩,id,ti⟩]) nR (by show 2<=maxLen;decide)
   clear V5 hgl hxM hxl;generalize NU:aq (k_ bt x ⟨kd,⟨i,cl,su,sc,ge,ma,us,re,de⟩,id,ti⟩)=rd at*;have EK:=zH NU;clear NU;generalize bM x=ix at*;have Zj:=SD.zs (SD.drew rA.O);rcases p_:zF D1 with _|_
   ·have HWR:=zH (fun w h=>wI db D1 j rd w h oM hrs p_)
    have MY:=zH p_;clear p_ hrs;obtain⟨c0,c1,c2,c3,c4,c5,c6,c7,z,aE⟩:=rA.O.cells
    go_region_held3 (fun w'=>w'.cell? ⟨sb,0,none⟩=some (.pointer (some ⟨db,0,none⟩))/\w'.cell? ⟨sb,6,none⟩=some (.int .i64 x))
     (first
      |with_reducible assumption
      |with_reducible exact Zj
      |with_reducible exact SD.zs Jx
      |with_reducible exact SD.zs IE
      |exact SD.zs IE
      |with_reducible exact SD.zs Wh
      |with_reducible exact SD.zs hs8)
     (first
      |(go_at_call 44;with_reducible refine(Ep.O _ (SD.env (SD.drew rA.O)).cq).mono ?_;rintro e w6 ⟨rfl,qw⟩
        have Jx:=SD.keep (SD.drew rA.O) qw;have Bp:=(Below.refl w6.heap.size w6).alloc nR (.cells #[.string ix,.string xl] 9);have IE:=SD.keep Jx Bp)
      |(go_at_call 163;with_reducible refine(HSE.O _ _ _ (UC.O _)).mono ?_;rintro e w7 ⟨rfl,jK⟩
        have Wh:=SD.keep IE jK)
      |(go_at_call 161;with_reducible refine(HWR.O _ (SD.fM Wh)).mono ?_;rintro e w8 ⟨rfl,hd8,hg8⟩
        have hs8:=SD.wrote Wh hd8 hg8))
    have vP:=zH hs8;have HT8:=zH ((((U7 BR.O).aj qw).aj Bp).aj jK |>.grown hg8 (by simp;have:=hgb.2;omega));have hr7:=((bz.below (w:=w5.drew) HR5.O qw).below Bp).below jK;have HR8:=zH (hr7.kept hg8 (hr7.apart Wh.fM.at_ dC));have HW8:=zH (((((HW5.O.T (fS.Bw _)).T (fS.aG qw)).T (fS.aG Bp)).T (fS.aG jK)).T (fS.rP hg8));clear hs8 Wh IE Jx qw Bp jK hd8 hg8 hr7 rA BR HR5 HW5 Zj c0 c1 c2 c3 c4 c5 c6 c7 z aE;obtain⟨c0,c1,c2,c3,c4,c5,c6,c7,z,aE⟩:=vP.O.cells;obtain⟨d0,d1,d2⟩:=oe HT8.O;go_wp2_with fail;go_ret;obtain⟨k1,k2⟩:=vP.O.adK ⟨ZM,nx',L'⟩ HR8.O (x+1);refine JH.O _ _ (.inr ⟨MY.O,rfl,.slice a1 L'.length ac,?_⟩) (HW8.O.T (fS.rO k2));rw[gJ.O,YZ,EK.O];exact k1
   ·obtain⟨q1,q2⟩:=IQ p_
    have HWR:=zH (fun w h=>om db D1 (j:Int) rd w h oM oM hrs q1 q2);have MY:=zH p_;clear p_ hrs q1 q2;obtain⟨c0,c1,c2,c3,c4,c5,c6,c7,z,aE⟩:=rA.O.cells
    go_region_held3 (fun w'=>w'.cell? ⟨sb,0,none⟩=some (.pointer (some ⟨db,0,none⟩))/\w'.cell? ⟨sb,6,none⟩=some (.int .i64 x))
     (first
      |with_reducible assumption
      |with_reducible exact Zj
      |with_reducible exact SD.zs Jx
      |with_reducible exact SD.zs IE
      |exact SD.zs IE
      |with_reducible exact SD.zs Wh
      |with_reducible exact SD.zs hs8)
     (first
      |(go_at_call 44;with_reducible refine(Ep.O _ (SD.env (SD.drew rA.O)).cq).mono ?_;rintro e w6 ⟨rfl,qw⟩
        have Jx:=SD.keep (SD.drew rA.O) qw;have Bp:=(Below.refl w6.heap.size w6).alloc nR (.cells #[.string ix,.string xl] 9);have IE:=SD.keep Jx Bp)
      |(go_at_call 163;with_reducible refine(HSE.O _ _ _ (UC.O _)).mono ?_;rintro e w7 ⟨rfl,jK⟩
        have Wh:=SD.keep IE jK)
      |(go_at_call 161;with_reducible refine(HWR.O _ (SD.fM Wh)).mono ?_;rintro e w8 ⟨rfl,rfl⟩
        skip))
    have wu:=zH Wh;have HW7:=zH ((((HW5.O.T (fS.Bw _)).T (fS.aG qw)).T (fS.aG Bp)).T (fS.aG jK));clear Wh IE Jx qw Bp jK rA BR HR5 HW5 Zj c0 c1 c2 c3 c4 c5 c6 c7 z aE;obtain⟨c0,c1,c2,c3,c4,c5,c6,c7,z,aE⟩:=wu.O.cells;go_wp2_with fail;refine(w_ sb db ⟨ck,nx,L⟩ _ n1 f1 x false _ wu.O.st).mono ?_;rintro r w9 ⟨rfl,Y3,hg9⟩;have HS9:=zH (wu.O.QG Y3 hg9);have HW9:=zH (HW7.O.T (fS.rO hg9));clear Y3 hg9;go_wp2_with fail;go_ret;exact JH.O _ _ (.inl ⟨MY.O,rfl,HS9.O⟩) HW9.O
theorem Tu(B sb db:Nat)(D:Dk)(s:St)(v:aai)(n f x:Int)(e:Ev)(W:aah)(h:SD B sb db D s v n f x false W)(hs:e.bA.short 5000)(hf:D.fits)(ed:Fit s)(h0:0<=n)(h1:n<1000000)(h2:0<=f)(h3:f<=x)(h4:x<1000000):
  ach prog 164 #[.pointer (some ⟨sb,0,none⟩),bH e] W (yW W B sb db D s v n f x e):=by
 rcases he:gG e with _|_
 ·exact adE B sb db D s v n f x e W h hs he
 ·exact ZA B sb db D s v n f x e W h hs he hf ed h0 h1 h2 h3 h4
theorem C0(key:Int)(s:ByteArray)(W:aah)(hs:s.size<=9223372036854775807):
 ach prog 88 #[.int .i64 key,.string s] W fun e w'=>e=.returned (.string (Ec key s))/\Below W.heap.size W w':=vr key s W hs
theorem NG{W w:aah}{t:aat}(h:Below (W.alloc (.cells #[x0,x1,x2,x3] t)).heap.size (W.alloc (.cells #[x0,x1,x2,x3] t)) w):
  w.cell? ⟨W.heap.size,0,none⟩=some x0/\w.cell? ⟨W.heap.size,1,none⟩=some x1/\w.cell? ⟨W.heap.size,2,none⟩=some x2/\w.cell? ⟨W.heap.size,3,none⟩=some x3:=by
 refine⟨?_,?_,?_,?_⟩
 ·rw[h.cell (p:=⟨W.heap.size,0,none⟩) sP];simp
 ·rw[h.cell (p:=⟨W.heap.size,1,none⟩) sP];simp
 ·rw[h.cell (p:=⟨W.heap.size,2,none⟩) sP];simp
 ·rw[h.cell (p:=⟨W.heap.size,3,none⟩) sP];simp
theorem jz(key a b c d:Int)(W:aah)(hT:eN W)(h:eP a b c d=true):
  ach prog 119 #[.int .i64 key,v4 a b c d] W fun e w'=>e=.returned (.tuple #[.string (Ae key a b c d),.nilIface])/\Below W.heap.size W w':=by
 have HR:=fun w=>AS a b c d w
 rw[h]at HR;have HH:=zH HR;clear HR;have iS:=rF a b c d h;have EB:=vF key (gF a b c d);have e1:=j3 (gF a b c d) (⟨#[46]⟩:ByteArray) 70 1 iS dC oM;have z1:=fu (gF a b c d) (⟨#[46]⟩:ByteArray) 70 1 iS dC;have e2:=j3 _ (Ec key (gF a b c d)) _ 16 z1 oM oM;have MH:=zH h;have HT:=zH hT;have amP:=hT.lt;have HB:=fun(w:aah) (hw:eN w)=>xh a b c d w hw h
 have HBB:=zH HB;have htk:Ae key a b c d=gF a b c d++⟨#[46]⟩++Ec key (gF a b c d):=rfl;have JL:=zH htk;clear hT h z1 HB htk;generalize gF a b c d=bs at*;unfold v4 at*
 go_in
 go_wp2_with (first
  |(go_at_call 165;refine(HH.O _).mono ?_;rintro e w1 ⟨rfl,eu⟩
    have pX:=((Below.refl W.heap.size W).alloc nR (.cells #[.int .i64 a,.int .i64 b,.int .i64 c,.int .i64 d] 170)).T (eu.mono sP);obtain⟨hc0,Qf,NM,hc3⟩:=NG eu;have jf:=zH pX;clear eu pX)
  |(go_at_call 166;refine(HBB.O _ (HT.O.below jf.O amP)).mono ?_;rintro e w2 ⟨rfl,ju⟩
    have gS:=zH (below_2 jf.O ju);clear ju)
  |(go_at_call 88;refine(C0 _ _ _ oM).mono ?_;rintro e w3 ⟨rfl,lV⟩
    have jb:=zH (below_2 gS.O lV);clear lV))
 go_ret2;exact⟨by rw[JL.O];rfl,jb.O⟩
theorem Mp{P:Program}{fn:Func}{p u:Tmp}{ty:aat}(h:fn.results=#[.cell p ty,.tmp u])(tmps:Array aai)(w:aah)(g:Nat)(t:aat)(cs:Array aai)(d:TypeDesc)(x:aai)(hp:tmps.getD p undef=.pointer (some ⟨g,0,none⟩))(hx:tmps.getD u undef=x)(hg:aC w g t cs)(hu:P.underlying ty=some d)(hd:(match d with| .struct _| .array _ _=>true|_=>false)=true)(hi:(P.info? ty).map (·.size)=some cs.size):
  (results fn tmps).run P w=.ok (.tuple #[.agg cs,x]) w:=by
 rw[results_cell_tmp h,hp,hx];simp only[asAddr,Sem.run_pure,Result.andThen];rw[run_loadVar_row w g t ty cs (0,0) d hg hu hd hi]
structure TR(W:aah)(L:List BL)(v:aai)(w:aah):Prop where
 below:Below W.heap.size W w
 fH:aC w W.heap.size 170 #[.int .i64 0,.int .i64 0,.int .i64 0,.int .i64 0]
 row:Row w (W.heap.size+1) v L
 cq:eN w
 iE:bX w
theorem TR.keep{W w w':aah}{v:aai}(h:TR W L v w)(hb:Below w.heap.size w w'):TR W L v w':=
 ⟨h.below.T (hb.mono h.below.size),h.fH.aj hb,h.row.below hb,h.cq.below hb h.cq.lt,h.iE.aj hb⟩
theorem TR.facts{W w:aah}{v:aai}(h:TR W L v w):∃g cap,v=.slice (some ⟨g,0,none⟩) L.length cap/\L.length<=cap/\cap<=9223372036854775807/\W.heap.size+1<=g/\g<w.heap.size/\W.heap.size<w.heap.size/\
  (∀j,j<L.length->w.cell? ⟨g,j,none⟩=some (.string (aq (L.getD j []))))/\(w.cell? ⟨W.heap.size,0,none⟩=some (.int .i64 0)/\w.cell? ⟨W.heap.size,1,none⟩=some (.int .i64 0)/\w.cell? ⟨W.heap.size,2,none⟩=some (.int .i64 0)/\w.cell? ⟨W.heap.size,3,none⟩=some (.int .i64 0))/\
  (w.frozen? ⟨W.heap.size,0,none⟩=false/\w.frozen? ⟨W.heap.size,1,none⟩=false/\w.frozen? ⟨W.heap.size,2,none⟩=false/\w.frozen? ⟨W.heap.size,3,none⟩=false):=by
 obtain⟨g,cap,rfl,h1,h2,h3,h4,_⟩:=h.row.parts;exact⟨g,cap,rfl,h3,h4,h1,h2,h.fH.lt,fun j hj=>h.row.cell j hj,⟨h.fH.cell 0,h.fH.cell 1,h.fH.cell 2,h.fH.cell 3⟩,h.fH.frozen 0,h.fH.frozen 1,h.fH.frozen 2,h.fH.frozen 3⟩
def wy(W:aah)(R:Int×Int×Int×Int×Int)(e:Ending)(w':aah):Prop:=e=.returned (.tuple #[v4 R.2.1 R.2.2.1 R.2.2.2.1 R.2.2.2.2,cJ R.1])/\Below W.heap.size W w'
theorem qn(_:Int)(s:ByteArray)(W:aah)(hs:s.size<=5000)(hm:gp W)(hT:eN W)(hv:bX W):
  ach prog 86 #[.string s,.string ⟨#[46]⟩] (W.alloc (.cells #[.int .i64 0,.int .i64 0,.int .i64 0,.int .i64 0] 170)) fun e w'=>∃v,e=.returned v/\TR W (parts 46 s.data.toList) v w':=by
 have zu:Below W.heap.size W (W.alloc (.cells #[.int .i64 0,.int .i64 0,.int .i64 0,.int .i64 0] 170)):=bR.alloc nR _;refine(qU 46 s (W.heap.size+1) _ oM (hm.below zu hm.lt) sP).mono ?_;rintro e w' ⟨v,rfl,hr,hb⟩;exact⟨v,rfl,zu.T (hb.mono zu.size),(aC.new W _ _).aj hb,hr,(hT.below zu hT.lt).below hb (by simp;have:=hT.lt;omega),(hv.below zu hv.lt.1 hv.lt.2).below hb (by simp;have:=hv.lt.1;omega) (by simp;have:=hv.lt.2;omega)⟩
theorem eD{w:aah}{rb:Nat}{y0 y1 y2 y3:aai}(h:aC w rb T #[y0,y1,y2,y3])(x0 x1 x2 x3:aai):
  aC ((((w.setCell ⟨rb,0,none⟩ x0).setCell ⟨rb,1,none⟩ x1).setCell ⟨rb,2,none⟩ x2).setCell ⟨rb,3,none⟩ x3) rb T #[x0,x1,x2,x3]:=
 (((h.kX 0 x0).kX 1 x1).kX 2 x2).kX 3 x3
theorem dh{W w:aah}(h:Below W.heap.size W w)(x0 x1 x2 x3:aai):
  Below W.heap.size W ((((w.setCell ⟨W.heap.size,0,none⟩ x0).setCell ⟨W.heap.size,1,none⟩ x1).setCell ⟨W.heap.size,2,none⟩ x2).setCell ⟨W.heap.size,3,none⟩ x3):=
 (((h.setCell nR x0).setCell nR x1).setCell nR x2).setCell nR x3
theorem iB{W w:aah}{A:Act}{n:Int}(hb:Below W.heap.size W w)(hr:aC w W.heap.size 170 #[.int .i64 a,.int .i64 b,.int .i64 c,.int .i64 d])(hp:A.tmps.getD 4 undef=.pointer (some ⟨W.heap.size,0,none⟩))(hx:A.tmps.getD 5 undef=cJ n)(hd:A.defers=[]):
  bodyPost prog Tryz.f195 (wy W (n,a,b,c,d)) Exit.ret A w:=
 bodyPost_ret (Mp rfl A.tmps w _ _ _ _ _ hp hx hr underlying170 rfl kR) hd ⟨rfl,hb⟩
theorem sE(key:Int)(s:ByteArray)(W:aah)(hs:s.size<=5000)(hm:gp W)(hT:eN W)(hv:bX W)(hf:((parts 46 s.data.toList).getD 0 []≠ [97]/\(parts 46 s.data.toList).getD 0 []≠ [114])\/((parts 46 s.data.toList).getD 0 []=[97]/\(parts 46 s.data.toList).length≠5)\/((parts 46 s.data.toList).getD 0 []=[114]/\(parts 46 s.data.toList).length≠4)):
  ach prog 195 #[.int .i64 key,.string s] W (wy W (3,0,0,0,0)):=by
 have H:=zH (qn key s W hs hm hT hv);have KS:=GG 46 s.data.toList;clear hm hT hv;generalize parts 46 s.data.toList=L at*;generalize hx:L.getD 0 []=x at*;have HX:=zH hx;clear hx
 have NS:((aq x).toList == [97])=false/\((aq x).toList == [114])=false\/((aq x).toList == [97])=true/\((L.length:Int) != 5)=true\/((aq x).toList == [97])=false/\((aq x).toList == [114])=true/\((L.length:Int) != 4)=true:=by
  rw[toList_txt];rcases hf with⟨h1,h2⟩|⟨h1,h2⟩|⟨h1,h2⟩
  ·exact .inl ⟨by simpa using h1,by simpa using h2⟩
  ·exact .inr (.inl ⟨by simp[h1],by simp;omega⟩)
  ·exact .inr (.inr ⟨by simp[h1],by simp[h1],by simp;omega⟩)
 clear hf;rcases NS with⟨e1,e2⟩|⟨e1,e2⟩|⟨e1,e2,e3⟩
 all_goals
  go_in
  go_wp2_with fail;refine H.O.mono ?_;rintro e w1 ⟨v,rfl,h⟩;have HB:=zH h.below;have HBL:=zH h.fH;obtain⟨g,cap,rfl,A6,aaw,As,Ez,hrl,pY,⟨r0,r1,r2,r3⟩,f0,f1,f2,f3⟩:=h.facts;have hc:=pY 0 KS;rw[HX.O]at hc;clear h pY;go_wp2_with fail;exact iB ((dh HB.O (.int .i64 0) (.int .i64 0) (.int .i64 0) (.int .i64 0)).alloc (dh HB.O (.int .i64 0) (.int .i64 0) (.int .i64 0) (.int .i64 0)).size _) ((eD HBL.O (.int .i64 0) (.int .i64 0) (.int .i64 0) (.int .i64 0)).alloc _) rfl rfl rfl
theorem Row.at_{w w':aah}{B0 B:Nat}{v:aai}(h:Row w B0 v L)(hb:Below B w w')(hv:∀g,v.ownBlock=some g->g<B):Row w' B0 v L:=by
 obtain⟨g,cap,rfl,ho⟩:=h;refine⟨g,cap,rfl,ho.1,?_⟩;rcases ho.2 with h0|⟨g',wF,cur,e,h1,h2,h3⟩
 ·exact .inl h0
 ·refine .inr ⟨g',wF,cur,e,h1,?_,h3⟩
  rw[hb.block g' (hv g' (by rw[e];rfl))];exact h2
structure TK(W:aah)(L:List BL)(g cap tb B:Nat)(k:Int)(w:aah):Prop where
 tr:TR W L (.slice (some ⟨g,0,none⟩) L.length cap) w
 tk:aC w tb 170 #[.int .i64 k,.int .i64 0,.int .i64 0,.int .i64 0]
 hB:B<=w.heap.size
 tbB:tb<B
 gB:g<B
 WB:W.heap.size<B
 ne1:W.heap.size≠tb
 ne2:g≠tb
 ne3:W.heap.size≠g
 gl:4<B/\5<B/\6<B
theorem TK.keep{W w w':aah}{B:Nat}(h:TK W L g cap tb B k w)(hb:Below B w w'):TK W L g cap tb B k w':=
 ⟨⟨h.tr.below.T (hb.mono (aki h.WB)),h.tr.fH.below hb h.WB,h.tr.row.at_ hb (fun x hx=>by simp[akw]at hx;subst hx;exact h.gB),h.tr.cq.below hb h.gl.2.2,h.tr.iE.below hb h.gl.1 h.gl.2.1⟩,
   h.tk.below hb h.tbB,aiC h.hB hb.size,h.tbB,h.gB,h.WB,h.ne1,h.ne2,h.ne3,h.gl⟩
theorem TK.pq{W w w':aah}{B:Nat}(h:TK W L g cap tb B k w)(hb:Below w.heap.size w w'):TK W L g cap tb B k w':=h.keep (hb.mono h.hB)
theorem TK.grown{W w w':aah}{B:Nat}{row:Option Nat}(h:TK W L g cap tb B k w)(hg:w.grownBy w' row)(hr:∀i,row=some i->B<=i):TK W L g cap tb B k w':=
 h.keep ((Below.refl B w).grown hg h.hB hr)
theorem TK.start{W w1:aah}(h:TR W L (.slice (some ⟨g,0,none⟩) L.length cap) w1)(As:W.heap.size+1<=g)(Ez:g<w1.heap.size)(k:Int):
  TK W L g cap w1.heap.size (w1.heap.size+1) k (w1.alloc (.cells #[.int .i64 k,.int .i64 0,.int .i64 0,.int .i64 0] 170)):=by
 have hrl:=h.fH.lt;have h3:=h.iE.lt;have h4:=h.cq.lt;exact⟨h.keep (bR.alloc nR _),aC.new w1 _ _,by simp,by omega,by omega,by omega,by omega,by omega,by omega,by omega,by omega,by omega⟩
theorem TK.facts{W w:aah}{B:Nat}(h:TK W L g cap tb B k w):
  (∀j,j<L.length->w.cell? ⟨g,j,none⟩=some (.string (aq (L.getD j []))))/\(w.cell? ⟨W.heap.size,0,none⟩=some (.int .i64 0)/\w.cell? ⟨W.heap.size,1,none⟩=some (.int .i64 0)/\w.cell? ⟨W.heap.size,2,none⟩=some (.int .i64 0)/\w.cell? ⟨W.heap.size,3,none⟩=some (.int .i64 0))/\
  (w.frozen? ⟨W.heap.size,0,none⟩=false/\w.frozen? ⟨W.heap.size,1,none⟩=false/\w.frozen? ⟨W.heap.size,2,none⟩=false/\w.frozen? ⟨W.heap.size,3,none⟩=false)/\
  (w.cell? ⟨tb,0,none⟩=some (.int .i64 k)/\w.cell? ⟨tb,1,none⟩=some (.int .i64 0)/\w.cell? ⟨tb,2,none⟩=some (.int .i64 0)/\w.cell? ⟨tb,3,none⟩=some (.int .i64 0))/\
  (w.frozen? ⟨tb,0,none⟩=false/\w.frozen? ⟨tb,1,none⟩=false/\w.frozen? ⟨tb,2,none⟩=false/\w.frozen? ⟨tb,3,none⟩=false)/\g<w.heap.size/\tb<w.heap.size/\W.heap.size<w.heap.size:=by
 have hr:=h.tr.fH;have hk:=h.tk
 exact⟨fun j hj=>h.tr.row.cell j hj,⟨hr.cell 0,hr.cell 1,hr.cell 2,hr.cell 3⟩,⟨hr.frozen 0,hr.frozen 1,hr.frozen 2,hr.frozen 3⟩,⟨hk.cell 0,hk.cell 1,hk.cell 2,hk.cell 3⟩,⟨hk.frozen 0,hk.frozen 1,hk.frozen 2,hk.frozen 3⟩,
  ae7 h.gB h.hB,ae7 h.tbB h.hB,ae7 h.WB h.hB⟩
structure TE(W:aah)(tb:Nat)(cs:Array aai)(w:aah):Prop where
 below:Below W.heap.size W w
 fH:aC w W.heap.size 170 #[.int .i64 0,.int .i64 0,.int .i64 0,.int .i64 0]
 tk:aC w tb 170 cs
 cq:eN w
 lt:W.heap.size<tb
 WT:6<W.heap.size
theorem TE.ac0{W w:aah}{B:Nat}(h:TK W L g cap tb B k w)(ht:W.heap.size<tb)(hg:6<W.heap.size):TE W tb #[.int .i64 k,.int .i64 0,.int .i64 0,.int .i64 0] w:=⟨h.tr.below,h.tr.fH,h.tk,h.tr.cq,ht,hg⟩
theorem Yx{w:aah}(h:eN w){p:Addr}(hp:6≠p.block)(u:aai):eN (w.setCell p u):=by
 unfold eN Lib.TabIs at*;unfold World.var? at*;simp only[Ee,Option.bind_some]at h ⊢;rw[Below.heap_setCell w p u _ hp];exact h
theorem TE.set{W w:aah}{tb:Nat}{cs:Array aai}(h:TE W tb cs w)(i:Nat)(u:aai):TE W tb (cs.setIfInBounds i u) (w.setCell ⟨tb,i,none⟩ u):=
 ⟨h.below.setCell (aki h.lt) u,h.fH.eO (Nat.ne_of_lt h.lt) u,h.tk.kX i u,Yx h.cq (by have:=h.lt;have:=h.WT;simp;omega) u,h.lt,h.WT⟩
theorem TE.drew{W w:aah}(h:TE W tb cs w):TE W tb cs w.drew:=⟨below_drewN h.below 1,h.fH,h.tk,h.cq,h.lt,h.WT⟩
theorem TE.keep{W w w':aah}(h:TE W tb cs w)(hb:Below w.heap.size w w'):TE W tb cs w':=
 ⟨h.below.T (hb.mono h.below.size),h.fH.aj hb,h.tk.aj hb,h.cq.below hb h.cq.lt,h.lt,h.WT⟩
theorem TE.facts{W w:aah}(h:TE W tb #[x0,x1,x2,x3] w):
  (w.cell? ⟨W.heap.size,0,none⟩=some (.int .i64 0)/\w.cell? ⟨W.heap.size,1,none⟩=some (.int .i64 0)/\w.cell? ⟨W.heap.size,2,none⟩=some (.int .i64 0)/\w.cell? ⟨W.heap.size,3,none⟩=some (.int .i64 0))/\
  (w.frozen? ⟨W.heap.size,0,none⟩=false/\w.frozen? ⟨W.heap.size,1,none⟩=false/\w.frozen? ⟨W.heap.size,2,none⟩=false/\w.frozen? ⟨W.heap.size,3,none⟩=false)/\
  (w.cell? ⟨tb,0,none⟩=some x0/\w.cell? ⟨tb,1,none⟩=some x1/\w.cell? ⟨tb,2,none⟩=some x2/\w.cell? ⟨tb,3,none⟩=some x3)/\W.heap.size<w.heap.size/\tb<w.heap.size:=by
 have hr:=h.fH;have hk:=h.tk;exact⟨⟨hr.cell 0,hr.cell 1,hr.cell 2,hr.cell 3⟩,⟨hr.frozen 0,hr.frozen 1,hr.frozen 2,hr.frozen 3⟩,⟨hk.cell 0,hk.cell 1,hk.cell 2,hk.cell 3⟩,hr.lt,hk.lt⟩
theorem abr{x:BL}(hx:ji x=true)(hy:ji y=true):eP 1 (aa x) (aa y) 0=true:=by simp[eP,(qL.1 hx).1,(qL.1 hy).1]
theorem abt{x:BL}(hx:ji x=true)(hy:ji y=true)(hz:ji z=true):eP 2 (aa x) (aa y) (aa z)=true:=by simp[eP,(qL.1 hx).1,(qL.1 hy).1,(qL.1 hz).1]
theorem uk{x:BL}(hx:ji x=true):bM (aa x)=aq x:=by
 unfold bM aq;rw[(qL.1 hx).2]
theorem ZJ{x:BL}(hx:ji x=true)(hy:ji y=true):gF 1 (aa x) (aa y) 0=aq (glue 46 [[114],x,y]):=by
 rw[gF,if_pos rfl,uk hx,uk hy,show(⟨#[114,46]⟩:ByteArray)=aq [114,46]from rfl,show(⟨#[46]⟩:ByteArray)=aq [46]from rfl];simp only[pO];simp[glue]
theorem ZK{x:BL}(hx:ji x=true)(hy:ji y=true)(hz:ji z=true):gF 2 (aa x) (aa y) (aa z)=aq (glue 46 [[97],x,y,z]):=by
 rw[gF,if_neg dC,uk hx,uk hy,uk hz,show(⟨#[97,46]⟩:ByteArray)=aq [97,46]from rfl,show(⟨#[46]⟩:ByteArray)=aq [46]from rfl];simp only[pO];simp[glue]
theorem Yv(key:Int){TT BS:ByteArray}{t B:BL}(h1:TT.data.toList=t)(h2:BS=aq B):decide (TT=Ec key BS)=decide (t=bt key B):=by
 rw[decide_eq_decide];subst h2;unfold Ec;rw[an,<-h1];exact⟨fun h=>by rw[h],fun h=>by rw[<-h]⟩
theorem Di{w w':aah}(h:∃n,w'=w.drewN n):Below w.heap.size w w':=by
 obtain⟨n,rfl⟩:=h;exact below_drewN bR n
theorem qM{w w':aah}{base:Nat}{e:aat}{v:aai}{n:Nat}{xs:List aai}(h:w.ownsRow base e 1 v n xs)(hb:Below w.heap.size w w'):w'.ownsRow base e 1 v n xs:=by
 refine h.kept (fV hb none) ?_;cases hv:v.ownBlock with
 |none=>exact .inl rfl
 |some b=>exact .inr sP
theorem Qt:(prog.info? 3).map (fun i=>(i.zero,i.size,i.bytes))=some (some (.int .i64 0),1,8):=kR
theorem TP(key:Int)(s:ByteArray)(W:aah)(hs:s.size<=5000)(hm:gp W)(hT:eN W)(hv:bX W)(x y t:BL)(hL:parts 46 s.data.toList=[[114],x,y,t]):
  ach prog 195 #[.int .i64 key,.string s] W (wy W (tD (fun B=>bt key B) [[114],x,y,t])):=by
 have H:=zH (qn key s W hs hm hT hv);have hlen:∀w∈[[114],x,y,t],w.length<=5000:=by rw[<-hL];exact bO 46 _ _ (by rw[size_data];exact hs)
 rw[hL]at H;have hx:(aq x).size<=1000000:=by rw[aK];have:=hlen x sP;omega
 have hy:(aq y).size<=1000000:=by rw[aK];have:=hlen y sP;omega
 have ht:t.length<=5000:=hlen t sP;obtain⟨i0,hi,sQ,vp,mY⟩:=aj' Qt;have e1:((aq [114]).toList == [97])=false:=by rw[toList_txt];decide
 have e2:((aq [114]).toList == [114])=true:=by rw[toList_txt];decide
 have afp:=hT.lt;clear hm hT hv hL hlen
 go_in
 go_wp2_with fail;refine H.O.mono ?_;rintro e w1 ⟨v,rfl,h⟩;obtain⟨g,cap,rfl,A6,aaw,As,Ez,hrl,pY,_,_,_,_,_⟩:=h.facts;have JL:=zH (TK.start h As Ez 1);have hc0:=pY 0 sP;clear h pY;simp only[agj,ajE,ahq,alI,List.getD_cons_zero]at hc0 A6;generalize aq [114]=rr at*;go_wp2_with fail;have hB0:w1.heap.size+1=(w1.alloc (.cells #[.int .i64 1,.int .i64 0,.int .i64 0,.int .i64 0] 170)).heap.size:=by simp
 generalize w1.alloc (.cells #[.int .i64 1,.int .i64 0,.int .i64 0,.int .i64 0] 170)=w2 at*;have n1:=JL.O.ne1;have n2:=JL.O.ne2;have n3:=JL.O.ne3;clear hc0 As Ez;generalize w1.heap.size=tb at*;obtain⟨mX,⟨r0,r1,r2,r3⟩,⟨f0,f1,f2,f3⟩,⟨k0,k1,k2,k3⟩,⟨q0,q1,q2,q3⟩,lg,lt,lW⟩:=JL.O.facts;refine alH 3 ?_;have hc:=mX 1 sP;simp at hc;clear mX;rw[alB];go_wp2_with fail;refine(ux (aq x) _ hx JL.O.tr.cq JL.O.tr.iE).mono ?_;rintro e wa0 ⟨rfl,hb⟩;rw[an];have Uw:=zH (JL.O.pq hb);clear r0 r1 r2 r3 f0 f1 f2 f3 k0 k1 k2 k3 q0 q1 q2 q3 lg lt lW;clear hc hb;obtain⟨mX,⟨r0,r1,r2,r3⟩,⟨f0,f1,f2,f3⟩,⟨k0,k1,k2,k3⟩,⟨q0,q1,q2,q3⟩,lg,lt,lW⟩:=Uw.O.facts;cases NT:ji x
 ·clear mX
  go_wp2_with fail;rw[show tD (fun B=>bt key B) [[114],x,y,t]=(3,0,0,0,0)from jP (by simp[xg,NT])];exact iB (dh Uw.O.tr.below (.int .i64 0) (.int .i64 0) (.int .i64 0) (.int .i64 0)) (eD Uw.O.tr.fH (.int .i64 0) (.int .i64 0) (.int .i64 0) (.int .i64 0)) rfl rfl rfl
 ·have MG:=zH NT
  clear NT;have Zk:=zH mX;clear mX
  go_wp2_with
   (at_builtin;refine akl _ rfl _ _ 120 rfl (tb+1) 3 i0 (.int .i64 0) 1 8 alF hi sQ vp mY rfl dC _ 0 [] rfl (akO _ _ _ _) ⟨wa0.heap.size,0,none⟩ 1 1 [.int .i64 (aa x)] rfl rfl (alA _ _ _) (fun u hu=>by simp at hu;subst hu;rfl) mL oM (by have:=Uw.O.hB;simp;omega) ?_;intro v0 wb0 mC cZ mB
    have HO0:=zH mC;have MU:=zH ((Uw.O.pq (bR.alloc nR _)).grown cZ (fun i hi=>by cases hi));clear mC cZ mB)
  clear Zk;clear r0 r1 r2 r3 f0 f1 f2 f3 k0 k1 k2 k3 q0 q1 q2 q3 lg lt lW;obtain⟨mX,⟨r0,r1,r2,r3⟩,⟨f0,f1,f2,f3⟩,⟨k0,k1,k2,k3⟩,⟨q0,q1,q2,q3⟩,lg,lt,lW⟩:=MU.O.facts;have hc:=mX 2 sP;simp at hc;clear mX;rw[alB];go_wp2_with fail;refine(ux (aq y) _ hy MU.O.tr.cq MU.O.tr.iE).mono ?_;rintro e wa1 ⟨rfl,hb⟩;rw[an];have Ux:=zH (MU.O.pq hb);have eE:=qM HO0.O hb;clear r0 r1 r2 r3 f0 f1 f2 f3 k0 k1 k2 k3 q0 q1 q2 q3 lg lt lW;clear hc hb;obtain⟨mX,⟨r0,r1,r2,r3⟩,⟨f0,f1,f2,f3⟩,⟨k0,k1,k2,k3⟩,⟨q0,q1,q2,q3⟩,lg,lt,lW⟩:=Ux.O.facts;cases hny:ji y
  ·clear mX
   go_wp2_with fail;rw[show tD (fun B=>bt key B) [[114],x,y,t]=(3,0,0,0,0)from jP (by simp[xg,MG.O,hny])];exact iB (dh Ux.O.tr.below (.int .i64 0) (.int .i64 0) (.int .i64 0) (.int .i64 0)) (eD Ux.O.tr.fH (.int .i64 0) (.int .i64 0) (.int .i64 0) (.int .i64 0)) rfl rfl rfl
  ·have PF:=zH hny
   have Av:=eE.lt;clear hny;have Zk:=zH mX;clear mX
   go_wp2_with
    (at_builtin;refine akl _ rfl _ _ 120 rfl (tb+1) 3 i0 (.int .i64 0) 1 8 alF hi sQ vp mY rfl dC _ 1 [.int .i64 (aa x)] rfl (eE.alloc _) ⟨wa1.heap.size,0,none⟩ 1 1 [.int .i64 (aa y)] rfl rfl (alA _ _ _) (fun u hu=>by simp at hu;subst hu;rfl) mL oM (by have:=Ux.O.hB;simp;omega) ?_;intro v1 wb1 mC cZ mB
     have Ua:=zH mC;have jf:=zH ((Ux.O.pq (bR.alloc nR _)).grown cZ (fun i hi=>(Av i hi).1));clear mC cZ mB)
   (clear Zk;clear r0 r1 r2 r3 f0 f1 f2 f3 k0 k1 k2 k3 q0 q1 q2 q3 lg lt lW;obtain⟨mX,⟨r0,r1,r2,r3⟩,⟨f0,f1,f2,f3⟩,⟨k0,k1,k2,k3⟩,⟨q0,q1,q2,q3⟩,lg,lt,lW⟩:=jf.O.facts;clear Av;rw[alB];have hc:=mX 3 sP;simp at hc;clear mX;have EB:=aK t;have HTT:=zH (an t);have M1:=zH (fun(w:aah) (hh:t.all (IB.contains ·)=true)=>(oO ⟨#[48,49,50,51,52,53,54,55,56,57,97,98,99,100,101,102]⟩ (aq t) w oM dC (ascii_of_all dC)).1 (by rw[an];exact hh));have M3:=zH (fun(w:aah) (hh:t.all (IB.contains ·)=false)=>(oO ⟨#[48,49,50,51,52,53,54,55,56,57,97,98,99,100,101,102]⟩ (aq t) w oM dC (ascii_of_all dC)).2 (by rw[an];exact hh));generalize aq t=TT at*);by_cases VK:t.length=16
   ·have e16:((TT.size:Int) != 16)=false:=by simp;omega
    have Zh:=zH VK;clear EB;cases zw:t.all (IB.contains ·)
    ·have HT:=zH (fun w=>M3.O w zw)
     have HX:=zH zw;clear zw M1 M3
     go_wp2_with
      (go_at_call 188;refine(HT.O _).mono ?_;rintro e wc ⟨⟨z,rfl,hz⟩,hb⟩
       have HC:=zH (jf.O.pq hb);clear r0 r1 r2 r3 f0 f1 f2 f3 k0 k1 k2 k3 q0 q1 q2 q3 lg lt lW;clear hb;obtain⟨_,⟨r0,r1,r2,r3⟩,⟨f0,f1,f2,f3⟩,_,_,_,_,lW⟩:=HC.O.facts)
     rw[Jj MG.O PF.O,if_neg (Mn HX.O)];exact iB (dh HC.O.tr.below (.int .i64 0) (.int .i64 0) (.int .i64 0) (.int .i64 0)) (eD HC.O.tr.fH (.int .i64 0) (.int .i64 0) (.int .i64 0) (.int .i64 0)) rfl rfl rfl
    ·have HT:=zH (fun w=>M1.O w zw)
     have HX:=zH zw;clear zw M1 M3;have eE:=Ua.O;have MY:=Ua
     go_wp2_with
      (go_at_call 188;refine(HT.O _).mono ?_;rintro e wc ⟨rfl,hb⟩
       have HC:=zH (jf.O.pq hb);have HO:=zH (qM MY.O hb);clear r0 r1 r2 r3 f0 f1 f2 f3 k0 k1 k2 k3 q0 q1 q2 q3 lg lt lW;clear hb;obtain⟨mX,⟨r0,r1,r2,r3⟩,⟨f0,f1,f2,f3⟩,⟨k0,k1,k2,k3⟩,⟨q0,q1,q2,q3⟩,lg,lt,lW⟩:=HC.O.facts;clear mX)
     (rcases HO.O.2 with⟨_,e0⟩|⟨gn,al5,cur,rfl,hgn,hbn,nB,rq,tF,hn4⟩);(·cases e0);(have c0:=HO.O.cellAt 0 oM;have c1:=HO.O.cellAt 1 oM;simp at c0 c1;have lgn:gn<wc.heap.size:=aC.lt (t:=3) (cs:=cur) hbn;have gnt:tb≠gn:=by omega);(have ad4:gn≠tb:=by omega);(clear hbn hn4;have HTE:=zH (TE.ac0 HC.O oM afp));go_region;(go_wp2_with fail;have Jv:Hid (TE W tb #[.int .i64 1,.int .i64 (aa x),.int .i64 (aa y),.int .i64 0] (((wc.setCell ⟨tb,1,none⟩ (.int .i64 (aa x))).setCell ⟨tb,2,none⟩ (.int .i64 (aa y))).drew)):=zH (TE.drew ((HTE.O.set 1 (.int .i64 (aa x))).set 2 (.int .i64 (aa y))));generalize (((wc.setCell ⟨tb,1,none⟩ (.int .i64 (aa x))).setCell ⟨tb,2,none⟩ (.int .i64 (aa y))).drew)=w4 at*;clear r0 r1 r2 r3 f0 f1 f2 f3 k0 k1 k2 k3 q0 q1 q2 q3 lg lt lW HTE HC HO;clear c0 c1 lgn gnt ad4;have RZ:=abr MG.O PF.O;have jV:=zH (xh 1 (aa x) (aa y) 0 w4 Jv.O.cq RZ);unfold v4 at jV;have hbs:=rF _ _ _ _ RZ;clear RZ;have HBE:=zH (ZJ MG.O PF.O);have MI:=zH (fun w=>C0 key (gF 1 (aa x) (aa y) 0) w oM);have iS:=vF key (gF 1 (aa x) (aa y) 0);have Wo:TT.size<=1000000:=by have:=congrArg List.length HTT.O;rw[size_data]at this;omega);have HSM:=zH (fun w=>Ld TT (Ec key (gF 1 (aa x) (aa y) 0)) w Wo oM);have HEQ:=zH (Yv key HTT.O HBE.O);clear hbs iS Wo;generalize gF 1 (aa x) (aa y) 0=BS at*;generalize Ec key BS=TG at*;refine jV.O.mono ?_;rintro e w5 ⟨rfl,VP⟩;have BR:=zH (Jv.O.keep VP);clear VP;go_wp2_with fail;refine(MI.O _).mono ?_;rintro e w6 ⟨rfl,qw⟩;have Er:=zH (BR.O.keep qw);clear qw;go_wp2_with fail;refine(HSM.O _).mono ?_;rintro e w7 ⟨rfl,jK⟩;have Q4:=zH (Er.O.keep (Di jK));clear jK;obtain⟨⟨r0,r1,r2,r3⟩,⟨f0,f1,f2,f3⟩,⟨k0,k1,k2,k3⟩,lW,lt⟩:=Q4.O.facts;cases hq:decide (TT=TG)
     ·have HQ:=zH hq
      have eZ:=HEQ.O;rw[hq]at eZ;clear hq;have HNE:=zH eZ;clear eZ;go_wp2_with fail;rw[Jj MG.O PF.O,if_pos (yH Zh.O HX.O),if_neg (by simpa using HNE.O)];exact iB (dh Q4.O.below (.int .i64 0) (.int .i64 0) (.int .i64 0) (.int .i64 0)) (eD Q4.O.fH (.int .i64 0) (.int .i64 0) (.int .i64 0) (.int .i64 0)) rfl rfl rfl
     ·have HQ:=zH hq
      have eZ:=HEQ.O;rw[hq]at eZ;clear hq;have HNE:=zH eZ;clear eZ;go_wp2_with fail;rw[Jj MG.O PF.O,if_pos (yH Zh.O HX.O),if_pos (by simpa using HNE.O)];exact iB (dh Q4.O.below _ _ _ _) (eD Q4.O.fH _ _ _ _) rfl rfl rfl
   ·have e16:((TT.size:Int) != 16)=true:=by simp;omega
    clear EB;have Zh:=zH VK;clear VK;go_wp2_with fail;rw[show tD (fun B=>bt key B) [[114],x,y,t]=(3,0,0,0,0)from by rw[Jj MG.O PF.O,if_neg (Mm Zh.O)]];exact iB (dh jf.O.tr.below (.int .i64 0) (.int .i64 0) (.int .i64 0) (.int .i64 0)) (eD jf.O.tr.fH (.int .i64 0) (.int .i64 0) (.int .i64 0) (.int .i64 0)) rfl rfl rfl
theorem TQ(key:Int)(s:ByteArray)(W:aah)(hs:s.size<=5000)(hm:gp W)(hT:eN W)(hv:bX W)(x y z t:BL)(hL:parts 46 s.data.toList=[[97],x,y,z,t]):
  ach prog 195 #[.int .i64 key,.string s] W (wy W (tD (fun B=>bt key B) [[97],x,y,z,t])):=by
 have H:=zH (qn key s W hs hm hT hv);have hlen:∀w∈[[97],x,y,z,t],w.length<=5000:=by rw[<-hL];exact bO 46 _ _ (by rw[size_data];exact hs)
 rw[hL]at H;have hx:(aq x).size<=1000000:=by rw[aK];have:=hlen x sP;omega
 have hy:(aq y).size<=1000000:=by rw[aK];have:=hlen y sP;omega
 have hz:(aq z).size<=1000000:=by rw[aK];have:=hlen z sP;omega
 have ht:t.length<=5000:=hlen t sP;obtain⟨i0,hi,sQ,vp,mY⟩:=aj' Qt;have e1:((aq [97]).toList == [97])=true:=by rw[toList_txt];decide
 have afp:=hT.lt;clear hm hT hv hL hlen
 go_in
 go_wp2_with fail;refine H.O.mono ?_;rintro e w1 ⟨v,rfl,h⟩;obtain⟨g,cap,rfl,A6,aaw,As,Ez,hrl,pY,_,_,_,_,_⟩:=h.facts;have JL:=zH (TK.start h As Ez 2);have hc0:=pY 0 sP;clear h pY;simp only[agj,ajE,ahq,alI,List.getD_cons_zero]at hc0 A6;generalize aq [97]=rr at*;go_wp2_with fail;have hB0:w1.heap.size+1=(w1.alloc (.cells #[.int .i64 2,.int .i64 0,.int .i64 0,.int .i64 0] 170)).heap.size:=by simp
 generalize w1.alloc (.cells #[.int .i64 2,.int .i64 0,.int .i64 0,.int .i64 0] 170)=w2 at*;have n1:=JL.O.ne1;have n2:=JL.O.ne2;have n3:=JL.O.ne3;clear hc0 As Ez;generalize w1.heap.size=tb at*;obtain⟨mX,⟨r0,r1,r2,r3⟩,⟨f0,f1,f2,f3⟩,⟨k0,k1,k2,k3⟩,⟨q0,q1,q2,q3⟩,lg,lt,lW⟩:=JL.O.facts;refine alH 4 ?_;have hc:=mX 1 sP;simp at hc;clear mX;rw[alB];go_wp2_with fail;refine(ux (aq x) _ hx JL.O.tr.cq JL.O.tr.iE).mono ?_;rintro e wa0 ⟨rfl,hb⟩;rw[an];have Uw:=zH (JL.O.pq hb);clear r0 r1 r2 r3 f0 f1 f2 f3 k0 k1 k2 k3 q0 q1 q2 q3 lg lt lW;clear hc hb;obtain⟨mX,⟨r0,r1,r2,r3⟩,⟨f0,f1,f2,f3⟩,⟨k0,k1,k2,k3⟩,⟨q0,q1,q2,q3⟩,lg,lt,lW⟩:=Uw.O.facts;cases NT:ji x
 ·clear mX
  go_wp2_with fail;rw[show tD (fun B=>bt key B) [[97],x,y,z,t]=(3,0,0,0,0)from jP (by simp[xg,NT])];exact iB (dh Uw.O.tr.below (.int .i64 0) (.int .i64 0) (.int .i64 0) (.int .i64 0)) (eD Uw.O.tr.fH (.int .i64 0) (.int .i64 0) (.int .i64 0) (.int .i64 0)) rfl rfl rfl
 ·have MG:=zH NT
  clear NT;have Zk:=zH mX;clear mX
  go_wp2_with
   (at_builtin;refine akl _ rfl _ _ 120 rfl (tb+1) 3 i0 (.int .i64 0) 1 8 alF hi sQ vp mY rfl dC _ 0 [] rfl (akO _ _ _ _) ⟨wa0.heap.size,0,none⟩ 1 1 [.int .i64 (aa x)] rfl rfl (alA _ _ _) (fun u hu=>by simp at hu;subst hu;rfl) mL oM (by have:=Uw.O.hB;simp;omega) ?_;intro v0 wb0 mC cZ mB
    have HO0:=zH mC;have MU:=zH ((Uw.O.pq (bR.alloc nR _)).grown cZ (fun i hi=>by cases hi));clear mC cZ mB)
  clear Zk;clear r0 r1 r2 r3 f0 f1 f2 f3 k0 k1 k2 k3 q0 q1 q2 q3 lg lt lW;obtain⟨mX,⟨r0,r1,r2,r3⟩,⟨f0,f1,f2,f3⟩,⟨k0,k1,k2,k3⟩,⟨q0,q1,q2,q3⟩,lg,lt,lW⟩:=MU.O.facts;have hc:=mX 2 sP;simp at hc;clear mX;rw[alB];go_wp2_with fail;refine(ux (aq y) _ hy MU.O.tr.cq MU.O.tr.iE).mono ?_;rintro e wa1 ⟨rfl,hb⟩;rw[an];have Ux:=zH (MU.O.pq hb);have eE:=qM HO0.O hb;clear r0 r1 r2 r3 f0 f1 f2 f3 k0 k1 k2 k3 q0 q1 q2 q3 lg lt lW;clear hc hb;obtain⟨mX,⟨r0,r1,r2,r3⟩,⟨f0,f1,f2,f3⟩,⟨k0,k1,k2,k3⟩,⟨q0,q1,q2,q3⟩,lg,lt,lW⟩:=Ux.O.facts;cases hny:ji y
  ·clear mX
   go_wp2_with fail;rw[show tD (fun B=>bt key B) [[97],x,y,z,t]=(3,0,0,0,0)from jP (by simp[xg,MG.O,hny])];exact iB (dh Ux.O.tr.below (.int .i64 0) (.int .i64 0) (.int .i64 0) (.int .i64 0)) (eD Ux.O.tr.fH (.int .i64 0) (.int .i64 0) (.int .i64 0) (.int .i64 0)) rfl rfl rfl
  ·have PF:=zH hny
   have Av:=eE.lt;clear hny;have Zk:=zH mX;clear mX
   go_wp2_with
    (at_builtin;refine akl _ rfl _ _ 120 rfl (tb+1) 3 i0 (.int .i64 0) 1 8 alF hi sQ vp mY rfl dC _ 1 [.int .i64 (aa x)] rfl (eE.alloc _) ⟨wa1.heap.size,0,none⟩ 1 1 [.int .i64 (aa y)] rfl rfl (alA _ _ _) (fun u hu=>by simp at hu;subst hu;rfl) mL oM (by have:=Ux.O.hB;simp;omega) ?_;intro v1 wb1 mC cZ mB
     have Ua:=zH mC;have jf:=zH ((Ux.O.pq (bR.alloc nR _)).grown cZ (fun i hi=>(Av i hi).1));clear mC cZ mB)
   clear Zk;clear r0 r1 r2 r3 f0 f1 f2 f3 k0 k1 k2 k3 q0 q1 q2 q3 lg lt lW;obtain⟨mX,⟨r0,r1,r2,r3⟩,⟨f0,f1,f2,f3⟩,⟨k0,k1,k2,k3⟩,⟨q0,q1,q2,q3⟩,lg,lt,lW⟩:=jf.O.facts;clear Av;have hc:=mX 3 sP;simp at hc;clear mX;rw[alB];go_wp2_with fail;refine(ux (aq z) _ hz jf.O.tr.cq jf.O.tr.iE).mono ?_;rintro e wa2 ⟨rfl,hb⟩;rw[an];have Zi:=zH (jf.O.pq hb);have eE:=qM Ua.O hb;clear r0 r1 r2 r3 f0 f1 f2 f3 k0 k1 k2 k3 q0 q1 q2 q3 lg lt lW;clear hc hb;obtain⟨mX,⟨r0,r1,r2,r3⟩,⟨f0,f1,f2,f3⟩,⟨k0,k1,k2,k3⟩,⟨q0,q1,q2,q3⟩,lg,lt,lW⟩:=Zi.O.facts;cases hnz:ji z
   ·clear mX
    go_wp2_with fail;rw[show tD (fun B=>bt key B) [[97],x,y,z,t]=(3,0,0,0,0)from jP (by simp[xg,MG.O,PF.O,hnz])];exact iB (dh Zi.O.tr.below (.int .i64 0) (.int .i64 0) (.int .i64 0) (.int .i64 0)) (eD Zi.O.tr.fH (.int .i64 0) (.int .i64 0) (.int .i64 0) (.int .i64 0)) rfl rfl rfl
   ·have HNz:=zH hnz
    have Av:=eE.lt;clear hnz;have Zk:=zH mX;clear mX
    go_wp2_with
     (at_builtin;refine akl _ rfl _ _ 120 rfl (tb+1) 3 i0 (.int .i64 0) 1 8 alF hi sQ vp mY rfl dC _ 2 [.int .i64 (aa x),.int .i64 (aa y)] rfl (eE.alloc _) ⟨wa2.heap.size,0,none⟩ 1 1 [.int .i64 (aa z)] rfl rfl (alA _ _ _) (fun u hu=>by simp at hu;subst hu;rfl) mL oM (by have:=Zi.O.hB;simp;omega) ?_;intro v2 wb2 mC cZ mB
      have Ub:=zH mC;have gS:=zH ((Zi.O.pq (bR.alloc nR _)).grown cZ (fun i hi=>(Av i hi).1));clear mC cZ mB)
    (clear Zk;clear r0 r1 r2 r3 f0 f1 f2 f3 k0 k1 k2 k3 q0 q1 q2 q3 lg lt lW;obtain⟨mX,⟨r0,r1,r2,r3⟩,⟨f0,f1,f2,f3⟩,⟨k0,k1,k2,k3⟩,⟨q0,q1,q2,q3⟩,lg,lt,lW⟩:=gS.O.facts;clear Av;rw[alB];have hc:=mX 4 sP;simp at hc;clear mX;have EB:=aK t;have HTT:=zH (an t);have M1:=zH (fun(w:aah) (hh:t.all (IB.contains ·)=true)=>(oO ⟨#[48,49,50,51,52,53,54,55,56,57,97,98,99,100,101,102]⟩ (aq t) w oM dC (ascii_of_all dC)).1 (by rw[an];exact hh));have M3:=zH (fun(w:aah) (hh:t.all (IB.contains ·)=false)=>(oO ⟨#[48,49,50,51,52,53,54,55,56,57,97,98,99,100,101,102]⟩ (aq t) w oM dC (ascii_of_all dC)).2 (by rw[an];exact hh));generalize aq t=TT at*);by_cases VK:t.length=16
    ·have e16:((TT.size:Int) != 16)=false:=by simp;omega
     have Zh:=zH VK;clear EB;cases zw:t.all (IB.contains ·)
     ·have HT:=zH (fun w=>M3.O w zw)
      have HX:=zH zw;clear zw M1 M3
      go_wp2_with
       (go_at_call 188;refine(HT.O _).mono ?_;rintro e wc ⟨⟨z,rfl,hz⟩,hb⟩
        have HC:=zH (gS.O.pq hb);clear r0 r1 r2 r3 f0 f1 f2 f3 k0 k1 k2 k3 q0 q1 q2 q3 lg lt lW;clear hb;obtain⟨_,⟨r0,r1,r2,r3⟩,⟨f0,f1,f2,f3⟩,_,_,_,_,lW⟩:=HC.O.facts)
      rw[Jk MG.O PF.O HNz.O,if_neg (Mn HX.O)];exact iB (dh HC.O.tr.below (.int .i64 0) (.int .i64 0) (.int .i64 0) (.int .i64 0)) (eD HC.O.tr.fH (.int .i64 0) (.int .i64 0) (.int .i64 0) (.int .i64 0)) rfl rfl rfl
     ·have HT:=zH (fun w=>M1.O w zw)
      have HX:=zH zw;clear zw M1 M3;have eE:=Ub.O;have MY:=Ub
      go_wp2_with
       (go_at_call 188;refine(HT.O _).mono ?_;rintro e wc ⟨rfl,hb⟩
        have HC:=zH (gS.O.pq hb);have HO:=zH (qM MY.O hb);clear r0 r1 r2 r3 f0 f1 f2 f3 k0 k1 k2 k3 q0 q1 q2 q3 lg lt lW;clear hb;obtain⟨mX,⟨r0,r1,r2,r3⟩,⟨f0,f1,f2,f3⟩,⟨k0,k1,k2,k3⟩,⟨q0,q1,q2,q3⟩,lg,lt,lW⟩:=HC.O.facts;clear mX)
      (rcases HO.O.2 with⟨_,e0⟩|⟨gn,al5,cur,rfl,hgn,hbn,nB,rq,tF,hn4⟩);(·cases e0);(have c0:=HO.O.cellAt 0 oM;have c1:=HO.O.cellAt 1 oM;have c2:=HO.O.cellAt 2 oM;simp at c0 c1 c2;have lgn:gn<wc.heap.size:=aC.lt (t:=3) (cs:=cur) hbn;have gnt:tb≠gn:=by omega);(have ad4:gn≠tb:=by omega);(clear hbn hn4;have HTE:=zH (TE.ac0 HC.O oM afp));go_region;(go_wp2_with fail;have Jv:Hid (TE W tb #[.int .i64 2,.int .i64 (aa x),.int .i64 (aa y),.int .i64 (aa z)] (((wc.setCell ⟨tb,1,none⟩ (.int .i64 (aa x))).setCell ⟨tb,2,none⟩ (.int .i64 (aa y))).setCell ⟨tb,3,none⟩ (.int .i64 (aa z))).drew):=zH (TE.drew (((HTE.O.set 1 (.int .i64 (aa x))).set 2 (.int .i64 (aa y))).set 3 (.int .i64 (aa z))));generalize (((wc.setCell ⟨tb,1,none⟩ (.int .i64 (aa x))).setCell ⟨tb,2,none⟩ (.int .i64 (aa y))).setCell ⟨tb,3,none⟩ (.int .i64 (aa z))).drew=w4 at*;clear r0 r1 r2 r3 f0 f1 f2 f3 k0 k1 k2 k3 q0 q1 q2 q3 lg lt lW HTE HC HO;clear c0 c1 c2 lgn gnt ad4;have RZ:=abt MG.O PF.O HNz.O;have jV:=zH (xh 2 (aa x) (aa y) (aa z) w4 Jv.O.cq RZ);unfold v4 at jV;have hbs:=rF _ _ _ _ RZ;clear RZ;have HBE:=zH (ZK MG.O PF.O HNz.O);have MI:=zH (fun w=>C0 key (gF 2 (aa x) (aa y) (aa z)) w oM);have iS:=vF key (gF 2 (aa x) (aa y) (aa z));have Wo:TT.size<=1000000:=by have:=congrArg List.length HTT.O;rw[size_data]at this;omega);have HSM:=zH (fun w=>Ld TT (Ec key (gF 2 (aa x) (aa y) (aa z))) w Wo oM);have HEQ:=zH (Yv key HTT.O HBE.O);clear hbs iS Wo;generalize gF 2 (aa x) (aa y) (aa z)=BS at*;generalize Ec key BS=TG at*;refine jV.O.mono ?_;rintro e w5 ⟨rfl,VP⟩;have BR:=zH (Jv.O.keep VP);clear VP;go_wp2_with fail;refine(MI.O _).mono ?_;rintro e w6 ⟨rfl,qw⟩;have Er:=zH (BR.O.keep qw);clear qw;go_wp2_with fail;refine(HSM.O _).mono ?_;rintro e w7 ⟨rfl,jK⟩;have Q4:=zH (Er.O.keep (Di jK));clear jK;obtain⟨⟨r0,r1,r2,r3⟩,⟨f0,f1,f2,f3⟩,⟨k0,k1,k2,k3⟩,lW,lt⟩:=Q4.O.facts;cases hq:decide (TT=TG)
      ·have HQ:=zH hq
       have eZ:=HEQ.O;rw[hq]at eZ;clear hq;have HNE:=zH eZ;clear eZ;go_wp2_with fail;rw[Jk MG.O PF.O HNz.O,if_pos (yH Zh.O HX.O),if_neg (by simpa using HNE.O)];exact iB (dh Q4.O.below (.int .i64 0) (.int .i64 0) (.int .i64 0) (.int .i64 0)) (eD Q4.O.fH (.int .i64 0) (.int .i64 0) (.int .i64 0) (.int .i64 0)) rfl rfl rfl
      ·have HQ:=zH hq
       have eZ:=HEQ.O;rw[hq]at eZ;clear hq;have HNE:=zH eZ;clear eZ;go_wp2_with fail;rw[Jk MG.O PF.O HNz.O,if_pos (yH Zh.O HX.O),if_pos (by simpa using HNE.O)];exact iB (dh Q4.O.below _ _ _ _) (eD Q4.O.fH _ _ _ _) rfl rfl rfl
    ·have e16:((TT.size:Int) != 16)=true:=by simp;omega
     clear EB;have Zh:=zH VK;clear VK;go_wp2_with fail;rw[show tD (fun B=>bt key B) [[97],x,y,z,t]=(3,0,0,0,0)from by rw[Jk MG.O PF.O HNz.O,if_neg (Mm Zh.O)]];exact iB (dh gS.O.tr.below (.int .i64 0) (.int .i64 0) (.int .i64 0) (.int .i64 0)) (eD gS.O.tr.fH (.int .i64 0) (.int .i64 0) (.int .i64 0) (.int .i64 0)) rfl rfl rfl
theorem Pg(key:Int)(s:ByteArray)(W:aah)(hs:s.size<=5000)(hm:gp W)(hT:eN W)(hv:bX W):
  ach prog 195 #[.int .i64 key,.string s] W (wy W (tD (fun B=>bt key B) (parts 46 s.data.toList))):=by
 by_cases h1:(parts 46 s.data.toList).getD 0 []=[97]
 ·by_cases h2:(parts 46 s.data.toList).length=5
  ·rcases e:parts 46 s.data.toList with _|⟨a,_|⟨b,_|⟨c,_|⟨d,_|⟨t,_|⟨u,r⟩⟩⟩⟩⟩⟩
   (all_goals (rw[e]at h1 h2;simp at h1 h2));subst h1;exact TQ key s W hs hm hT hv b c d t e
  ·rw[jP (TO h1 h2)]
   exact sE key s W hs hm hT hv (.inr (.inl ⟨h1,h2⟩))
 ·by_cases h3:(parts 46 s.data.toList).getD 0 []=[114]
  ·by_cases h2:(parts 46 s.data.toList).length=4
   ·rcases e:parts 46 s.data.toList with _|⟨a,_|⟨b,_|⟨c,_|⟨d,_|⟨u,r⟩⟩⟩⟩⟩
    (all_goals (rw[e]at h3 h2;simp at h3 h2));subst h3;exact TP key s W hs hm hT hv b c d e
   ·rw[jP (TM h3 h2)]
    exact sE key s W hs hm hT hv (.inr (.inr ⟨h3,h2⟩))
  ·rw[jP (TJ h1 h3)]
   exact sE key s W hs hm hT hv (.inl ⟨h1,h3⟩)
theorem ir(a b:ByteArray)(h:a.size+b.size<=9223372036854775807)(w:aah):(Op.stringOp .add a b).run prog w=.ok (.string (a++b)) w:=run_string_add_sum w a b h
theorem IJ(w:aah)(T:aat)(a b c:Int):bD (w.alloc (.cells #[.int .i64 a,.int .i64 b,.int .i64 c] T)) w.heap.size [a,b,c]:=mD w T [a,b,c]
theorem bD.alloc{w:aah}{L:List Int}(h:bD w g L)(o:Obj):bD (w.alloc o) g L:=h.below (bR.alloc nR o)
theorem bD.YU{w:aah}{L:List Int}(h:bD w g L):bD w.drew g L:=h
theorem Qv(w:aah)(o:Obj)(T:aat)(a b c:Int):bD ((w.alloc o).alloc (.cells #[.int .i64 a,.int .i64 b,.int .i64 c] T)) (w.heap.size+1) [a,b,c]:=by
 have h:=mD (w.alloc o) T [a,b,c];simpa using h
theorem vq{W w w':aah}{v0 v1 v2 v3 v4 v5 v6 v7 v8:aai}(h8:w.cell? ⟨g,8,none⟩=some v8)(h0:w.cell? ⟨g,0,none⟩=some v0)(h1:w.cell? ⟨g,1,none⟩=some v1)(h2:w.cell? ⟨g,2,none⟩=some v2)(h3:w.cell? ⟨g,3,none⟩=some v3)(h4:w.cell? ⟨g,4,none⟩=some v4)(h5:w.cell? ⟨g,5,none⟩=some v5)(h6:w.cell? ⟨g,6,none⟩=some v6)(h7:w.cell? ⟨g,7,none⟩=some v7)(hW:WB W w)(hb:Below w.heap.size w w'):
  w'.cell? ⟨g,8,none⟩=some v8/\w'.cell? ⟨g,0,none⟩=some v0/\w'.cell? ⟨g,1,none⟩=some v1/\w'.cell? ⟨g,2,none⟩=some v2/\w'.cell? ⟨g,3,none⟩=some v3/\w'.cell? ⟨g,4,none⟩=some v4/\w'.cell? ⟨g,5,none⟩=some v5/\w'.cell? ⟨g,6,none⟩=some v6/\w'.cell? ⟨g,7,none⟩=some v7/\WB W w':=by
 have aE:g<w.heap.size:=World.block_lt_of_cell? w _ h0;refine⟨?_,um h0 h1 h2 h3 h4 h5 h6 h7 hW hb⟩;rw[hb.cell (p:=⟨g,8,none⟩) aE];exact h8
theorem Qu(w:aah)(o:Obj)(T:aat)(b:Int):bD ((w.alloc o).alloc (.cells #[.int .i64 b] T)) (w.heap.size+1) [b]:=by
 have h:=mD (w.alloc o) T [b];simpa using h
theorem CO(w:aah)(T:aat)(b:Int):bD (w.alloc (.cells #[.int .i64 b] T)) w.heap.size [b]:=mD w T [b]
end Go.Proofs.YtjligkmjlenofaaGreatDoor
