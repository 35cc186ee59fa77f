/- Part of the proof. -/
import Derived.Test.YtjligkmjlenofaaGreatDoorV04
import Derived.Test.YtjligkmjlenofaaGreatDoorV03
import Derived.Shelf.Utf8.RuneCount
import Derived.Shelf.Strconv.ParseInt10All
import Derived.Shelf.Strings.SplitShaped
import Derived.Shelf.Strings.Explode
import Derived.Shelf.Strings.FieldsFuncGrows
import Derived.RangeFuncCalls
set_option maxHeartbeats 8000000
set_option maxRecDepth 100000
open Go renaming World->aah,Value->aai,Calls->ach,TypeId->aat,undef->agp,grownBy_putObj'->akR,Program->ag0,KeepsOthers->akZ,results_cell_row->ak0,Ending->akB
open List renaming getD_eq_getElem?_getD->akH,getElem?_eq_getElem->ag8,getD->agv,length_append->ag2,take_add_one->ai6,length_take->ag',map_append->akP,length_set->akQ,isPrefixOf->agm,getElem?_eq_none->aj3,mem_iff_getElem->aj_,mem_cons->ab',size_toArray->akX,append_assoc->aho,getElem_mem->aiz,length_drop->ag_,length_cons->agj,cons_append->aaK
open ByteArray renaming size_append->akI,empty->akG,ext->akM,append_assoc->akS,data_extract->akT
open Go.World renaming putObj_heap_other->akJ,block_lt_of_cell?->acC,ownsRow_nil->akO,cell?_of_block->akU,size_alloc->ak_
open Go.Lib renaming itoa->aax,goFieldsP->akK,index->ae6,bsGo->akL,lastIndexByte->akm
open Nat renaming not_lt_zero->ah',le_refl->ahP,lt_or_ge->af8,zero_le->ahW,zero_add->ahq,le_of_lt->aki
open Array renaming getElem?_eq_some_iff->akN,toList_extract->akV,length_toList->ahh
open Go.Ending renaming returned->aiD
open Go.RowKit renaming wrap64->akF
open Go.Proofs.Tryz renaming underlying107->akW
open Go.ByteArray renaming toList_eq->ab3
open Go.Value.slice renaming injEq->akY
open Bool renaming eq_iff_iff->ahp
open Go.Value renaming ownBlock->akw
open Go.Exit renaming ret->ald
namespace Go.Proofs.YtjligkmjlenofaaGreatDoor
open Go.Proofs.Tryz
open Go.RowKit
variable{k at_ g c:Nat}{ok:Bool}{a:BL}{y O v' k0 k1 k2:aai}{w1 w3 W0:aah}{cur:Array aai}{A:Act}{ck nx:Int}
def b_(D:Dk)(k:Nat):BL:=(D.blk.getD k akG).data.toList
def Dk.fits(D:Dk):Prop:=∀k,(D.blk.getD k akG).size<=240
def zF(D:Dk):Bool:=D.cut&&D.left == 0
theorem wD{D:Dk}(h:D.fits)(k:Nat):(b_ D k).length<=240:=by
 unfold b_;rw[size_data];exact h k
theorem ve{D:Dk}{s:ByteArray}(hl:D.blk.length=90)(hk:k<90):b_ (D.put k s)=upd (b_ D) k s.data.toList:=by
 funext j
 unfold b_ Dk.put upd;dsimp only
 by_cases h:j=k
 ·subst h
  rw[if_pos rfl,akH,List.getElem?_set_self oM];rfl
 ·rw[if_neg h,akH,List.getElem?_set_ne (Ne.symm h),<-akH]
theorem QK(D:Dk)(k:Nat)(s:ByteArray):(D.put k s).blk.length=D.blk.length:=by
 unfold Dk.put;simp
theorem xP{D:Dk}(h:D.fits){s:ByteArray}(hs:s.size<=240)(k:Nat):(D.put k s).fits:=by
 intro j;unfold Dk.put;dsimp only
 by_cases hj:j=k
 ·subst hj
  by_cases aE:j<D.blk.length
  ·rw[akH,List.getElem?_set_self aE]
   exact hs
  ·rw[akH,aj3 sO]
   exact ahW _
 ·rw[akH,List.getElem?_set_ne (Ne.symm hj),<-akH]
  exact h j
theorem cI(l:BL):(aq l).size=l.length:=by rw[<-size_data,an]
def iR(D:Dk)(at_:Nat)(L:List az):Nat->Dk
 |0=>D
 |m+1=>(iR D at_ L m).put (at_+1+m) (aq (mq (bU (L.getD m az.zero))))
theorem tV(D:Dk)(at_:Nat)(L:List az):∀m,(iR D at_ L m).blk.length=D.blk.length
 |0=>rfl
 |m+1=>by rw[iR,QK,tV D at_ L m]
theorem Cx{D:Dk}{L:List az}(hl:D.blk.length=90)(YX:at_+21<=90)(hL:L.length<=20):∀m,m<=L.length->b_ (iR D at_ L m)=lT (b_ D) (ou at_ 0 (L.take m))
 |0,_=>by simp[iR,ou,lT]
 |m+1,hm=>by
  have aE:m<L.length:=by omega
  have hf:=ag8 aE;rw[iR,ve (by rw[tV];exact hl) oM,Cx hl YX hL m oM,RH at_ L m _ hf,an]
  congr 3
  rw[akH,hf];rfl
theorem zg{D:Dk}{L:List az}(h:D.fits)(hL:∀f∈L,pU f=true):∀m,m<=L.length->(iR D at_ L m).fits
 |0,_=>h
 |m+1,hm=>by
  have aE:m<L.length:=by omega
  have hf:=ag8 aE;rw[iR];refine xP (zg h hL m oM) ?_ _;rw[akH,hf,cI];have:=vg (qP (hL _ (aiz aE)))
  show(mq (bU L[m])).length<=240
  omega
def u9(D:Dk)(at_:Nat)(L:List az)(head:ByteArray)(D':Dk)(ok:Bool):Prop:=
 (ok=true/\(∀m,m<=L.length->zF (iR D at_ L m)=false)/\D'=(iR D at_ L L.length).put at_ head)\/
 (ok=false/\∃m,m<=L.length/\(∀j,j<m->zF (iR D at_ L j)=false)/\zF (iR D at_ L m)=true/\D'=iR D at_ L m)
section
variable{tg:Int->BL->BL}{D D':Dk}{n f x:Int}{s0:St}{es:List Ev}
theorem LY(n:Int):aI (n % 2).toNat+21<=90:=by
 have:n % 2=0\/n % 2=1:=by omega
 rcases this with h|h<;>rw[h]<;>decide
theorem fK.abw(h:fK tg (b_ D) n f x s0 es)(ed:Fit (es.foldl av s0))(hn:n<1000000)(hl:D.blk.length=90)(ho:u9 D (aI ((n+1) % 2).toNat) (es.foldl av s0).ax (aq (lq tg (n+1) x (es.foldl av s0))) D' ok):
  (ok=true->fK tg (b_ D') (n+1) x x (es.foldl av s0) [])/\(ok=false->fK tg (b_ D') n f x s0 es)/\D'.blk.length=90:=by
 have hL:=ed.len;have IG:=LY (n+1);rcases ho with⟨rfl,_,rfl⟩|⟨rfl,m,hm,_,_,rfl⟩
 ·refine⟨fun _=>?_,fun h=>(by cases h),by rw[QK,tV,hl]⟩
  rw[ve (by rw[tV];exact hl) oM,Cx hl IG hL _ nR,List.take_length,an];exact h.whole ed hn
 ·refine⟨fun h=>(by cases h),fun _=>?_,by rw[tV,hl]⟩
  rw[Cx hl IG hL m hm];exact h.cut _ (by rw[ag'];omega)
end
structure SS where
 s:St
 log:Int
 writes:Int
 off:Bool
 left:Int
 down:Bool
def E9(z:SS):Bool:=z.off&&z.left == 0
def E_(z:SS):SS:=⟨z.s,z.log,akF (z.writes+1),z.off,akF (z.left - 1),z.down⟩
def xI(z:SS):SS:=⟨z.s,z.log,z.writes,z.off,z.left,true⟩
def uG:Nat->SS->SS×Bool
 |0,z=>(z,true)
 |n+1,z=>if E9 z then(xI z,false)else uG n (E_ z)
def afm(z:SS)(n:Int):SS:=⟨z.s,n,z.writes,z.off,z.left,z.down⟩
def iL(z:SS):SS×Int:=if z.down then(z,6)else if (uG (z.s.ax.length+1) z).2 then(afm (uG (z.s.ax.length+1) z).1 0,0)else((uG (z.s.ax.length+1) z).1,14)
def ajC(z:SS)(s:St):SS:=⟨s,z.log+1,z.writes,z.off,z.left,z.down⟩
def vW(z:SS)(s:St):SS×Int:=if E9 z then(xI z,14)else(ajC (E_ z) s,0)
def cO(z:SS)(e:Ev):SS×Int:=
 if z.down then(z,6)
 else if gG e=false then(z,1)
 else if 20<(av z.s e).ax.length then(z,12)
 else if z.log=16 then(if (iL z).2=0 then vW (iL z).1 (av z.s e)else iL z)
 else vW z (av z.s e)
def Ve(z:SS)(n:Int):SS:=⟨z.s,z.log,z.writes,decide (0<=n),n,z.down⟩
def QI(z:SS):SS:=⟨z.s,z.log,z.writes,false,z.left,false⟩
def Og:SS:=⟨⟨0,1,[]⟩,0,0,false,0,false⟩
theorem LM{z:SS}(n:Nat)(h:E9 z=false):uG (n+1) z=uG n (E_ z):=by rw[uG,h];rfl
theorem abv{z:SS}(n:Nat)(h:E9 z=true):uG (n+1) z=(xI z,false):=by rw[uG,h];rfl
def eH:Nat->SS->SS
 |0,z=>z
 |n+1,z=>E_ (eH n z)
theorem C2:∀(n:Nat) (z:SS),eH n (E_ z)=E_ (eH n z)
 |0,_=>rfl
 |n+1,z=>by rw[eH,C2 n z,eH]
theorem zM:∀(m k:Nat) (z:SS),(∀j,j<m->E9 (eH j z)=false)->uG (m+k) z=uG k (eH m z)
 |0,k,z,_=>by rw[ahq];rfl
 |m+1,k,z,h=>by
  have h0:E9 z=false:=h 0 (Nat.succ_pos m);rw[show m+1+k=m+k+1 by omega,LM _ h0,zM m k (E_ z) fun j hj=>by rw[C2];exact h (j+1) (Nat.succ_lt_succ hj),C2];rfl
theorem mJ:∀(n:Nat) (z:SS),(eH n z).s=z.s/\(eH n z).log=z.log/\(eH n z).off=z.off/\(eH n z).down=z.down
 |0,_=>⟨rfl,rfl,rfl,rfl⟩
 |n+1,z=>mJ n z
structure DR(z:SS)(D:Dk):Prop where
 writes:z.writes=D.writes
 off:z.off=D.cut
 left:D.cut=true->z.left=D.left
section
variable{z:SS}{D:Dk}
theorem DR.Az(h:DR z D):E9 z=zF D:=by
 unfold E9 zF;rw[h.off];rcases hc:D.cut with _|_
 ·rfl
 ·rw[h.left hc]
theorem DR.put(h:DR z D)(k:Nat)(s:ByteArray):DR (E_ z) (D.put k s):=⟨by show akF _=akF _;rw[h.writes],h.off,fun hc=>by show akF _=akF _;rw[h.left hc]⟩
theorem DR.iR(h:DR z D)(at_:Nat)(L:List az):∀m,DR (eH m z) (iR D at_ L m)
 |0=>h
 |m+1=>(h.iR at_ L m).put _ _
theorem DR.cutAt(h:DR z D)(n:Int):DR (Ve z n) (D.cutAt n):=by
 refine⟨h.writes,rfl,fun hc=>?_⟩;have hn:0<=n:=of_decide_eq_true hc
 show n=if n<0 then 0 else n
 rw[if_neg oM]
theorem DR.same{z':SS}(h:DR z D)(h1:z'.writes=z.writes)(h2:z'.off=z.off)(h3:z'.left=z.left):DR z' D:=⟨h1.T h.writes,h2.T h.off,fun hc=>h3.T (h.left hc)⟩
theorem DR.down(h:DR z D):DR (xI z) D:=h.same rfl rfl rfl
theorem DR.save(h:DR z D){L:List az}{head:ByteArray}{D':Dk}(ho:u9 D at_ L head D' ok):
  (ok=true->uG (L.length+1) z=(eH (L.length+1) z,true)/\DR (eH (L.length+1) z) D')/\
  (ok=false->∃m,uG (L.length+1) z=(xI (eH m z),false)/\DR (xI (eH m z)) D'):=by
 rcases ho with⟨rfl,h1,rfl⟩|⟨rfl,m,hm,h1,h2,rfl⟩
 ·refine⟨fun _=>⟨?_,(h.iR at_ L L.length).put _ _⟩,fun e=>(by cases e)⟩
  rw[zM L.length 1 z fun j hj=>by rw[(h.iR at_ L j).Az];exact h1 j (aki hj)];rw[LM 0 (by rw[(h.iR at_ L L.length).Az];exact h1 _ nR)];rfl
 ·refine⟨fun e=>(by cases e),fun _=>⟨m,?_,(h.iR at_ L m).down⟩⟩
  obtain⟨k,hk⟩:∃k,L.length+1=m+(k+1):=⟨L.length - m,by omega⟩;rw[hk,zM m (k+1) z fun j hj=>by rw[(h.iR at_ L j).Az];exact h1 j hj];exact abv k (by rw[(h.iR at_ L m).Az];exact h2)
end
theorem GP{z:SS}(hd:z.down=false)(h:uG (z.s.ax.length+1) z=(eH (z.s.ax.length+1) z,true)):iL z=(afm (eH (z.s.ax.length+1) z) 0,0):=by
 unfold iL;rw[hd,h];rfl
theorem LQ{z:SS}{m:Nat}(hd:z.down=false)(h:uG (z.s.ax.length+1) z=(xI (eH m z),false)):iL z=(xI (eH m z),14):=by
 unfold iL;rw[hd,h];rfl
theorem OC{z:SS}(hd:z.down=true):iL z=(z,6):=by unfold iL;rw[hd];rfl
theorem Q9{z:SS}{e:Ev}(hd:z.down=true):cO z e=(z,6):=by unfold cO;rw[hd];rfl
theorem UN{z:SS}{e:Ev}(hd:z.down=false)(he:gG e=false):cO z e=(z,1):=by unfold cO;rw[hd,if_neg dC,if_pos he]
theorem Q_{z:SS}{e:Ev}(hd:z.down=false)(he:gG e=true)(hl:20<(av z.s e).ax.length):cO z e=(z,12):=by
 unfold cO;rw[hd,if_neg dC,if_neg (by rw[he];decide),if_pos hl]
theorem UO{z:SS}{e:Ev}(hd:z.down=false)(he:gG e=true)(hl:(av z.s e).ax.length<=20)(VK:z.log≠16):cO z e=vW z (av z.s e):=by
 unfold cO;rw[hd,if_neg dC,if_neg (by rw[he];decide),if_neg oM,if_neg VK]
theorem FQ{z:SS}{e:Ev}(hd:z.down=false)(he:gG e=true)(hl:(av z.s e).ax.length<=20)(VK:z.log=16):cO z e=if (iL z).2=0 then vW (iL z).1 (av z.s e)else iL z:=by
 unfold cO;rw[hd,if_neg dC,if_neg (by rw[he];decide),if_neg oM,if_pos VK]
theorem Gu{z:SS}{s:St}(h:E9 z=true):vW z s=(xI z,14):=if_pos h
theorem KW{z:SS}{s:St}(h:E9 z=false):vW z s=(ajC (E_ z) s,0):=if_neg (by rw[h];decide)
open Go.Sort
def mZ(L:List BL)(x:BL)(t:Nat):Bool:=Op.bytesLess (aq (L.getD t [])).toList (aq x).toList
theorem zz(L:List BL)(x:BL)(t:Nat):mZ L x t=decide (L.getD t []<x):=by
 unfold mZ;rw[toList_txt,toList_txt,Go.Proofs.bytesLess_eq]
theorem ac_{L:List BL}(h:Up L){i j:Nat}(hij:i<=j)(hj:j<L.length):L.getD i []<=L.getD j []:=by
 rcases Nat.eq_or_lt_of_le hij with rfl|aE
 ·exact List.le_refl _
 ·have h1:=List.pairwise_iff_getElem.1 h i j oM hj aE
  have h2:E6 L[i] L[j]=true:=h1.1;simp only[E6,decide_eq_true_eq]at h2;simpa[agv,hj,show i<L.length by omega]using h2
theorem S7{L:List BL}(h:Up L)(x:BL):
  decide (akL (mZ L x) L.length 0 L.length<L.length/\aq (L.getD (akL (mZ L x) L.length 0 L.length) [])=aq x)=L.contains x:=by
 obtain⟨k,hk,h1,h2⟩:∃k,k<=L.length/\(∀t,t<k->mZ L x t=true)/\(∀t,k<=t->t<L.length->mZ L x t=false):=by
  have key:∀n,n<=L.length->∃k,k<=n/\(∀t,t<k->mZ L x t=true)/\(∀t,k<=t->t<n->mZ L x t=false):=by
   intro n
   induction n with
   |zero=>exact fun _=>⟨0,ahP _,fun t ht=>absurd ht (ah' _),fun t _ ht=>absurd ht (ah' _)⟩
   |succ n ih=>
    intro hn;obtain⟨k,hk,a,b⟩:=ih oM;by_cases hl:mZ L x n=true
    ·refine⟨n+1,ahP _,fun t ht=>?_,fun t h3 h4=>by omega⟩
     rw[zz,decide_eq_true_eq]at hl ⊢;exact List.lt_of_le_of_lt (ac_ h oM oM) hl
    ·refine⟨k,by omega,a,fun t h3 h4=>?_⟩
     by_cases e:t=n;(·subst e;simpa using hl);(·exact b t h3 oM)
  exact key _ nR
 have hs:akL (mZ L x) L.length 0 L.length=k:=by
  have hg:∀(f lo hi:Nat),hi - lo<=f->lo<=k->k<=hi->hi<=L.length->akL (mZ L x) f lo hi=k:=by
   intro f
   induction f with
   |zero=>intro lo hi hf a b c;simp[akL];omega
   |succ f ih=>
    intro lo hi hf a b c;unfold akL;by_cases aE:lo<hi
    ·rw[if_pos aE]
     by_cases hm:(lo+hi) / 2<k;(·rw[h1 _ hm,if_pos rfl];exact ih _ _ oM oM b c);(·rw[h2 _ oM oM];exact ih _ _ oM a oM oM)
    ·rw[if_neg aE];omega
  exact hg _ _ _ oM (ahW _) hk nR
 rw[hs,ahp,decide_eq_true_eq,List.contains_iff_mem];constructor
 ·rintro⟨aE,e⟩
  have:=ab0 e;rw[<-this];simp[agv,aE]
 ·intro hm
  obtain⟨t,ht,rfl⟩:=aj_.1 hm
  have hkt:k<=t:=by
   rcases af8 t k with h3|h3
   ·have:=h1 t h3
    rw[zz,decide_eq_true_eq]at this;simp[agv,ht]at this;exact absurd this (List.lt_irrefl _)
   ·exact h3
  have aiA:k<L.length:=by omega
  refine⟨aiA,?_⟩;have a:=ac_ h hkt ht;have b:=h2 k nR aiA;rw[zz,decide_eq_false_iff_not]at b;have e1:L.getD t []=L[t]:=by simp[agv,ht]
  rw[e1]at a;rw[List.le_antisymm a (List.not_lt.1 b)]
theorem OD{B:Nat}{v:aai}{L:List BL}{w:aah}(h:eG w B v L)(hu:Up L)(hL:L.length<=1000000)(x:BL):
  ach prog 196 #[v,.string (aq x)] w fun e w'=>(∃i:Nat,e=.returned (.tuple #[.int .i64 i,.bool (L.contains x)]))/\∃q,w'=w.drewN q:=by
 rcases h with⟨rfl,rfl⟩|h
 ·refine(Any2.slices_BinarySearch_string_empty QY none 0 (aq x) w).mono ?_
  rintro e w' ⟨rfl,rfl⟩;exact⟨⟨0,rfl⟩,0,rfl⟩
 ·obtain⟨g,cap,rfl,hg,aE,hn,hm,hH⟩:=h.parts
  refine(Any2.slices_BinarySearch_string QY g 0 L.length cap (fun t=>aq (L.getD t [])) (aq x) w oM (fun j hj=>by rw[ahq];exact h.cell j hj)).mono ?_;rintro e w' ⟨rfl,q,rfl⟩;refine⟨⟨akL (mZ L x) L.length 0 L.length,?_⟩,q,rfl⟩;rw[<-S7 hu x];rfl
def Zy(a b:BL)(B1 B2 B:Nat)(W:aah)(v u:aai)(i:aai)(wr:aah):Prop:=
 ∃k:Nat,k<=(cR a).length/\i=.int .i64 k/\eG wr B1 v (cR a)/\eG wr B2 u (cR b)/\Below B W wr/\∀j,j<k->(cR b).contains ((cR a).getD j [])=true
theorem eG.below{w w':aah}{B:Nat}{v:aai}{L:List BL}(h:eG w B v L)(hb:Below w.heap.size w w'):eG w' B v L:=h.imp id fun h=>h.below hb
theorem eG.drewN{w:aah}{B:Nat}{v:aai}{L:List BL}(h:eG w B v L)(n:Nat):eG (w.drewN n) B v L:=h
theorem eG.slice{w:aah}{B:Nat}{v:aai}{L:List BL}(h:eG w B v L):∃A cap,v=.slice A L.length cap/\∀j,j<L.length->∃g,A=some ⟨g,0,none⟩/\w.cell? ⟨g,j,none⟩=some (.string (aq (L.getD j []))):=by
 rcases h with⟨rfl,rfl⟩|h
 ·exact⟨none,0,rfl,fun j hj=>absurd hj (ah' _)⟩
 ·obtain⟨g,cap,rfl,_⟩:=id h
  exact⟨_,cap,rfl,fun j hj=>⟨g,rfl,h.cell j hj⟩⟩
def yN(a b:BL):Int:=if aQ a=0 then aQ b else aQ a
def u7(a b:BL):Bool:=decide (yN a b=0)&&yO a b
theorem Hw{b:BL}(h:yN a b≠0):u7 a b=false:=by simp[u7,h]
theorem ab4{b:BL}(h:aQ a≠0):yN a b=aQ a:=by simp[yN,h]
theorem ab5{b:BL}(h:aQ a=0):yN a b=aQ b:=by simp[yN,h]
theorem YJ{b:BL}(hk:k<(cR a).length)(h:(cR b).contains ((cR a).getD k [])=false):u7 a b=false:=by
 have:yO a b=false:=by
  unfold yO;rw[List.all_eq_false];exact⟨(cR a)[k],aiz hk,by simpa[agv,hk]using h⟩
 simp[u7,this]
theorem TZ{b:BL}(h0:yN a b=0)(h:∀j,j<(cR a).length->(cR b).contains ((cR a).getD j [])=true):u7 a b=true:=by
 have:yO a b=true:=by
  unfold yO;rw[List.all_eq_true];intro x hx;obtain⟨j,hj,rfl⟩:=aj_.1 hx;have:=h j hj;simpa[agv,hj]using this
 simp[u7,this,h0]
theorem I0(a b:ByteArray)(W:aah)(ha:a.size<=5000)(hb:b.size<=5000)(hm:gp W):
  ach prog 159 #[.string a,.string b] W fun e w'=>e=.returned (.tuple #[.bool (u7 a.data.toList b.data.toList),cJ (yN a.data.toList b.data.toList)])/\Below W.heap.size W w':=by
 have H1:=zH (wS a W ha hm);have HM:=zH hm;have HB:=zH (fun w (h:gp w)=>wS b w hb h);clear hm
 by_cases h0:aQ a.data.toList=0
 ·have E:=zH (show cJ (aQ a.data.toList)=.nilIface by rw[h0];rfl)
  have W2:=zH (ab5 (b:=b.data.toList) h0);clear h0
  by_cases h1:aQ b.data.toList=0
  ·have E2:=zH (show cJ (aQ b.data.toList)=.nilIface by rw[h1];rfl)
   (have W3:=zH (show yN a.data.toList b.data.toList=0 by rw[W2.O,h1]);clear h1);go_in;(go_wp2_with fail;refine H1.O.mono ?_;rintro e w1 ⟨v,rfl,jT,eu⟩;rw[E.O];have FN:=zH jT;have jf:=zH eu;clear jT eu;go_wp2_with fail;refine(HB.O _ (HM.O.aj jf.O)).mono ?_;rintro e w2 ⟨u,rfl,vo,ju⟩;rw[E2.O];have MZ:=zH (eG.below FN.O ju);have FO:=zH vo;have gS:=zH (jf.O.T (ju.mono jf.O.size));have hl1:=(nN a.data.toList).1;have Y0:=(nN b.data.toList).1;obtain⟨A,cap,ev,_⟩:=MZ.O.slice;subst ev;clear vo ju;go_wp2_with fail);(go_loopw [31] (fun i wr=>Zy a.data.toList b.data.toList W.heap.size w1.heap.size W.heap.size W (.slice A (cR a.data.toList).length cap) u i wr) (fun i _=>(cR a.data.toList).length - (intOf i).toNat));case atStart=>exact⟨0,ahW _,rfl,MZ.O,FO.O,gS.O,fun j hj=>absurd hj (ah' _)⟩
   case round=>
    (clear FN jf MZ FO gS;obtain⟨k,hk,rfl,jT,vo,hb,nJ⟩:=hrel;have FN:=zH jT;have HS:=zH (fun x=>OD vo (S6 _) oM x);have MZ:=zH vo;have HB:=zH hb;have Jr:=zH nJ;clear vo hb nJ);by_cases aE:k<(cR a.data.toList).length
    ·obtain⟨A',wF,ev,qD⟩:=jT.slice
     (injection ev with ea _ ec);subst ea;subst ec;obtain⟨g,rfl,hc⟩:=qD k aE;clear qD jT;generalize hx:(cR a.data.toList).getD k []=x at*;by_cases NQ:(cR b.data.toList).contains x=true
     ·have HX:=zH hx
      have HIN:=zH NQ;clear hx NQ
      go_wp2_with
       (go_at_call 196;refine(HS.O x).mono ?_;rintro e w3 ⟨⟨i,rfl⟩,q,rfl⟩
        rw[HIN.O])
      go_roundw
      case rel=>
       (refine⟨k+1,by omega,by go_num,eG.drewN FN.O q,eG.drewN MZ.O q,below_drewN HB.O q,fun j hj=>?_⟩);by_cases e:j=k
       ·subst e
        rw[HX.O];exact HIN.O
       ·exact Jr.O j oM
      case measure=>simp[intOf];omega
     ·have aeD:(cR b.data.toList).contains x=false:=by simpa using NQ
      have HW:=zH (YJ aE (by rw[hx];exact aeD));have HIN:=zH aeD;clear hx NQ aeD
      go_wp2_with
       (go_at_call 196;refine(HS.O x).mono ?_;rintro e w3 ⟨⟨i,rfl⟩,q,rfl⟩
        rw[HIN.O])
      go_ret2;exact⟨by rw[HW.O,W3.O];rfl,below_drewN HB.O q⟩
    ·have HW:=zH (TZ W3.O fun j hj=>Jr.O j oM)
     clear jT;go_wp2_with fail;go_ret2;exact⟨by rw[HW.O,W3.O];rfl,HB.O⟩
  ·have E2:=zH (Cs h1)
   (have W3:=zH (Hw (a:=a.data.toList) (b:=b.data.toList) (by rw[W2.O];exact h1));clear h1);go_in;go_wp2_with fail;refine H1.O.mono ?_;rintro e w1 ⟨v,rfl,jT,eu⟩;rw[E.O];have jf:=zH eu;clear jT eu;go_wp2_with fail;refine(HB.O _ (HM.O.aj jf.O)).mono ?_;rintro e w2 ⟨u,rfl,vo,ju⟩;rw[E2.O];have gS:=zH (jf.O.T (ju.mono jf.O.size));clear vo ju;go_wp2_with fail;go_ret2;exact⟨by rw[W3.O,W2.O,E2.O];rfl,gS.O⟩
 ·have E:=zH (Cs h0)
  have W2:=zH (ab4 (b:=b.data.toList) h0);have W3:=zH (Hw (a:=a.data.toList) (b:=b.data.toList) (by rw[W2.O];exact h0));clear h0
  go_in
  go_wp2_with fail;refine H1.O.mono ?_;rintro e w1 ⟨v,rfl,jT,eu⟩;rw[E.O];have jf:=zH eu;clear jT eu;go_wp2_with fail;go_ret2;exact⟨by rw[W3.O,W2.O,E.O];rfl,jf.O⟩
theorem VY(k n:Nat):(⟨(pZ k n).toArray⟩:ByteArray).size=k:=by
 show(pZ k n).toArray.size=k
 rw[akX,iJ]
def eP(a b c d:Int):Bool:=((decide (a=1)&&decide (d=0)) || (decide (a=2)&&bZ d))&&bZ b&&bZ c
def v4(a b c d:Int):aai:=.agg #[.int .i64 a,.int .i64 b,.int .i64 c,.int .i64 d]
theorem XD(x:Int)(w:aah):ach prog 198 #[.int .i64 x] w fun e w'=>e=.returned (.bool (bZ x))/\w=w':=by
 by_cases h0:0<=x
 ·go_enter func198,ntmps198
  go_wp2_with fail;go_ret;refine⟨?_,rfl⟩
  show aiD _=_
  simp[bZ]
  try omega
 ·have h1:x<0:=by omega
  go_in
  go_wp2_with fail;go_ret;refine⟨?_,rfl⟩
  show aiD _=_
  simp[bZ]
  try omega
theorem j3(a b:ByteArray)(n m:Nat)(ha:a.size<=n)(hb:b.size<=m)(h:n+m<=9223372036854775807)(w:aah):(Op.stringOp .add a b).run prog w=.ok (.string (a++b)) w:=
 run_string_add_sum w a b oM
theorem fu(a b:ByteArray)(n m:Nat)(ha:a.size<=n)(hb:b.size<=m):(a++b).size<=n+m:=by
 rw[akI];omega
theorem CQ{W w w':aah}{u x z:aai}(h0:w.cell? ⟨W.heap.size,0,none⟩=some u)(h1:w.cell? ⟨W.heap.size,1,none⟩=some x)(h2:w.cell? ⟨W.heap.size,2,none⟩=some y)(h3:w.cell? ⟨W.heap.size,3,none⟩=some z)(hT:eN w)(hB:Below W.heap.size W w)(hb:Below w.heap.size w w'):
  w'.cell? ⟨W.heap.size,0,none⟩=some u/\w'.cell? ⟨W.heap.size,1,none⟩=some x/\w'.cell? ⟨W.heap.size,2,none⟩=some y/\w'.cell? ⟨W.heap.size,3,none⟩=some z/\eN w'/\Below W.heap.size W w':=by
 have aE:W.heap.size<w.heap.size:=acC w _ h1;refine⟨?_,Gt h1 h2 h3 hT hB hb⟩;rw[hb.cell (p:=⟨W.heap.size,0,none⟩) aE];exact h0
theorem Mq(b c d:Int)(W:aah)(hT:eN W)(hob:bZ b=true)(hoc:bZ c=true):
  ach prog 166 #[v4 1 b c d] W fun e w'=>e=.returned (.string (⟨#[114,46]⟩++bM b++⟨#[46]⟩++bM c))/\Below W.heap.size W w':=by
 have Ax:=iT b hob;have Y4:=iT c hoc;have HT:=zH (eN.below hT ((Below.refl W.heap.size W).alloc nR (.cells #[.int .i64 1,.int .i64 b,.int .i64 c,.int .i64 d] 170)) hT.lt);have z1:(⟨#[114,46]⟩++bM b:ByteArray).size<=2+21:=fu _ _ 2 21 dC Ax;have z2:=fu _ (⟨#[46]⟩:ByteArray) _ 1 z1 dC;have e1:=j3 (⟨#[114,46]⟩:ByteArray) (bM b) 2 21 dC Ax oM;have e2:=j3 _ (⟨#[46]⟩:ByteArray) _ 1 z1 dC oM;have e3:=j3 _ (bM c) _ _ z2 Y4 oM;clear z1 z2;clear hT;unfold v4
 go_in
 go_wp2_with fail;have hT1:=HT.O;have pX:=(Below.refl W.heap.size W).alloc nR (.cells #[.int .i64 1,.int .i64 b,.int .i64 c,.int .i64 d] 170);have hc0:(W.alloc (.cells #[.int .i64 1,.int .i64 b,.int .i64 c,.int .i64 d] 170)).cell? ⟨W.heap.size,0,none⟩=some (.int .i64 1):=by simp
 have Qf:(W.alloc (.cells #[.int .i64 1,.int .i64 b,.int .i64 c,.int .i64 d] 170)).cell? ⟨W.heap.size,1,none⟩=some (.int .i64 b):=by simp
 have NM:(W.alloc (.cells #[.int .i64 1,.int .i64 b,.int .i64 c,.int .i64 d] 170)).cell? ⟨W.heap.size,2,none⟩=some (.int .i64 c):=by simp
 have hc3:(W.alloc (.cells #[.int .i64 1,.int .i64 b,.int .i64 c,.int .i64 d] 170)).cell? ⟨W.heap.size,3,none⟩=some (.int .i64 d):=by simp
 generalize W.alloc (.cells #[.int .i64 1,.int .i64 b,.int .i64 c,.int .i64 d] 170)=w0 at*;clear HT;have hT2:eN w0.drew:=hT1;have oU:Below W.heap.size W w0.drew:=⟨pX.os,pX.tape,pX.output,pX.size,pX.block⟩
 go_region_held3 (fun w'=>w'.cell? ⟨W.heap.size,0,none⟩=some (.int .i64 1)/\w'.cell? ⟨W.heap.size,1,none⟩=some (.int .i64 b)/\w'.cell? ⟨W.heap.size,2,none⟩=some (.int .i64 c)/\w'.cell? ⟨W.heap.size,3,none⟩=some (.int .i64 d)/\eN w'/\Below W.heap.size W w')
  (first
   |(refine⟨?_,?_,?_,?_,hT2,oU⟩<;>go_keep)
   |(go_split_ands
     exact CQ aS aS aS aS aS aS aS))
  ((go_at_call 44;refine(ox _ aS _ (by(go_split_ands;assumption))).mono ?_;rintro e w1 ⟨rfl,eu⟩))
 go_split_ands
 go_wp2_with fail;go_ret;exact⟨rfl,by assumption⟩
theorem Mr(b c d:Int)(W:aah)(hT:eN W)(hob:bZ b=true)(hoc:bZ c=true)(hod:bZ d=true):
  ach prog 166 #[v4 2 b c d] W fun e w'=>e=.returned (.string (⟨#[97,46]⟩++bM b++⟨#[46]⟩++bM c++⟨#[46]⟩++bM d))/\Below W.heap.size W w':=by
 have Ax:=iT b hob;have Y4:=iT c hoc;have oV:=iT d hod;obtain⟨t,ht⟩:∃t:ByteArray,t=⟨#[46]⟩++(bM b++(⟨#[46]⟩++bM c)):=⟨_,rfl⟩
 have V5:(⟨#[114,46]⟩:ByteArray)++bM b++⟨#[46]⟩++bM c=⟨#[114]⟩++t:=by
  rw[ht,show(⟨#[114,46]⟩:ByteArray)=⟨#[114]⟩++⟨#[46]⟩from rfl];simp only[akS]
 have aew:(⟨#[97]⟩:ByteArray)++t++⟨#[46]⟩++bM d=⟨#[97,46]⟩++bM b++⟨#[46]⟩++bM c++⟨#[46]⟩++bM d:=by
  rw[ht,show(⟨#[97,46]⟩:ByteArray)=⟨#[97]⟩++⟨#[46]⟩from rfl];simp only[akS]
 have EB:t.size<=50:=by
  rw[ht,akI,akI,akI,show(⟨#[46]⟩:ByteArray).size=1 from rfl];omega
 clear ht
 have Y5:∀w:aah,(Instr.slice 9 (.string (⟨#[114]⟩++t)) (some (.int .i64 1)) none none).run prog w=.ok (.string t) w:=by
  intro w;have hz:((⟨#[114]⟩:ByteArray)++t).size=1+t.size:=by rw[akI];rfl
  rw[run_slice_string_l w 9 _ underlying9 .i64 1 oM (by rw[hz];omega)]
  congr 2
  apply akM;simp[hz]
 have f1:=j3 (⟨#[97]⟩:ByteArray) t 1 50 dC EB oM;have y1:(⟨#[97]⟩++t:ByteArray).size<=1+50:=fu _ _ 1 50 dC EB;have f2:=j3 _ (⟨#[46]⟩:ByteArray) _ 1 y1 dC oM;have y2:=fu _ (⟨#[46]⟩:ByteArray) _ 1 y1 dC;have f3:=j3 _ (bM d) _ _ y2 oV oM;clear y1 y2;have HT:=zH (eN.below hT ((Below.refl W.heap.size W).alloc nR (.cells #[.int .i64 2,.int .i64 b,.int .i64 c,.int .i64 d] 170)) hT.lt);have z1:(⟨#[114,46]⟩++bM b:ByteArray).size<=2+21:=fu _ _ 2 21 dC Ax;have z2:=fu _ (⟨#[46]⟩:ByteArray) _ 1 z1 dC;have e1:=j3 (⟨#[114,46]⟩:ByteArray) (bM b) 2 21 dC Ax oM;have e2:=j3 _ (⟨#[46]⟩:ByteArray) _ 1 z1 dC oM;have e3:=j3 _ (bM c) _ _ z2 Y4 oM;clear z1 z2;clear hT;unfold v4
 go_in
 go_wp2_with fail;have hT1:=HT.O;have pX:=(Below.refl W.heap.size W).alloc nR (.cells #[.int .i64 2,.int .i64 b,.int .i64 c,.int .i64 d] 170);have hc0:(W.alloc (.cells #[.int .i64 2,.int .i64 b,.int .i64 c,.int .i64 d] 170)).cell? ⟨W.heap.size,0,none⟩=some (.int .i64 2):=by simp
 have Qf:(W.alloc (.cells #[.int .i64 2,.int .i64 b,.int .i64 c,.int .i64 d] 170)).cell? ⟨W.heap.size,1,none⟩=some (.int .i64 b):=by simp
 have NM:(W.alloc (.cells #[.int .i64 2,.int .i64 b,.int .i64 c,.int .i64 d] 170)).cell? ⟨W.heap.size,2,none⟩=some (.int .i64 c):=by simp
 have hc3:(W.alloc (.cells #[.int .i64 2,.int .i64 b,.int .i64 c,.int .i64 d] 170)).cell? ⟨W.heap.size,3,none⟩=some (.int .i64 d):=by simp
 generalize W.alloc (.cells #[.int .i64 2,.int .i64 b,.int .i64 c,.int .i64 d] 170)=w0 at*;clear HT;have hT2:eN w0.drew:=hT1;have oU:Below W.heap.size W w0.drew:=⟨pX.os,pX.tape,pX.output,pX.size,pX.block⟩
 go_region_held3 (fun w'=>w'.cell? ⟨W.heap.size,0,none⟩=some (.int .i64 2)/\w'.cell? ⟨W.heap.size,1,none⟩=some (.int .i64 b)/\w'.cell? ⟨W.heap.size,2,none⟩=some (.int .i64 c)/\w'.cell? ⟨W.heap.size,3,none⟩=some (.int .i64 d)/\eN w'/\Below W.heap.size W w')
  (first
   |(refine⟨?_,?_,?_,?_,hT2,oU⟩<;>go_keep)
   |(go_split_ands
     exact CQ aS aS aS aS aS aS aS))
  ((go_at_call 44;refine(ox _ aS _ (by(go_split_ands;assumption))).mono ?_;rintro e w1 ⟨rfl,eu⟩))
 go_split_ands
 rename_i r0 r1 r2 r3 rT rB
 clear e1 e2 e3 hT2 oU;go_wp2_with fail;have hT3:=(show eN (World.drew _)from rT);have Et:=(show Below W.heap.size W (World.drew _)from⟨rB.os,rB.tape,rB.output,rB.size,rB.block⟩)
 go_region_held3 (fun w'=>w'.cell? ⟨W.heap.size,1,none⟩=some (.int .i64 b)/\w'.cell? ⟨W.heap.size,2,none⟩=some (.int .i64 c)/\w'.cell? ⟨W.heap.size,3,none⟩=some (.int .i64 d)/\eN w'/\Below W.heap.size W w')
  (first
   |(refine⟨?_,?_,?_,hT3,Et⟩<;>go_keep)
   |(go_split_ands
     exact Gt aS aS aS aS aS aS))
  ((go_at_call 44;refine(ox _ aS _ (by(go_split_ands;assumption))).mono ?_;rintro e w1 ⟨rfl,eu⟩))
 go_split_ands
 go_wp2_with fail;go_ret;exact⟨rfl,by assumption⟩
theorem GD{w w':aah}{B n:Nat}{e:aat}{v:aai}{xs:List aai}(h:w.ownsRow B e 1 v n xs)(hb:Below w.heap.size w w'):w'.ownsRow B e 1 v n xs:=
 h.kept (fV hb (some w.heap.size)) (.inr (fun he=>by have:=(h.lt _ he).2;omega))
theorem bD.below{w w':aah}{L:List Int}(h:bD w g L)(hb:Below w.heap.size w w'):bD w' g L:=by
 intro j hj;have h1:=h j hj;have aE:g<w.heap.size:=acC w _ h1;rw[hb.cell (p:=⟨g,j,none⟩) aE];exact h1
structure TD(W:aah)(g:Nat)(L:List Int)(k:Nat)(O:aai)(w:aah):Prop where
 wb:WB W w
 ints:bD w g L
 row:w.ownsRow W.heap.size 9 1 O k ((L.take k).map fun x=>encStr (aax x))
theorem TD.start{W:aah}{L:List Int}(h:WB W W)(hi:bD W g L):TD W g L 0 (.slice none 0 0) W:=⟨h,hi,akO _ _ _ _⟩
theorem TD.call{W w:aah}{L:List Int}(h:TD W g L k O w)(hb:Below w.heap.size w w1):TD W g L k O w1:=⟨h.wb.keep hb,h.ints.below hb,GD h.row hb⟩
theorem TD.next{W:aah}{L:List Int}{o:Obj}(h0:WB W W)(hi:bD W g L)(h:TD W g L k O w1)(hk:k<L.length)(hy:y=encStr (aax (L.getD k 0)))(ho:w3.ownsRow W.heap.size 9 1 v' (k+1) ((L.take k).map (fun x=>encStr (aax x))++[y]))(hg:(w1.alloc o).grownBy w3 O.ownBlock):TD W g L (k+1) v' w3:=by
 have b1:Below W.heap.size W (w1.alloc o):=h.wb.below.alloc h.wb.below.size o;have b2:Below W.heap.size W w3:=b1.grown hg b1.size fun i e=>(h.row.lt i e).1
 refine⟨h0.keep b2,hi.below b2,?_⟩
 have e:(L.take (k+1)).map (fun x=>encStr (aax x))=(L.take k).map (fun x=>encStr (aax x))++[y]:=by
  rw[ai6,ag8 hk,akP,hy];simp[agv,hk]
 rw[e];exact ho
def Zx(W:aah)(g:Nat)(L:List Int)(O i:aai)(wr:aah):Prop:=∃k:Nat,k<=L.length/\i=.int .i64 k/\TD W g L k O wr
def kY(s:St)(v:aai):Array aai:=#[.int .i64 s.clock,.int .i64 s.next,v]
def je(s:St)(v:aai):aai:=.agg (kY s v)
structure AP(W:aah)(cs:Array aai)(e:Ev)(v:aai)(b vb:Nat)(L:List az)(w:aah):Prop where
 below:Below W.heap.size W w
 nH:W.heap.size<=b
 YH:W.heap.size<=vb
 st:aC w b 107 cs
 ev:aC w (b+1) 115 (aN e)
 re:aC w (b+1+1) 107 #[.int .i64 0,.int .i64 0,.slice none 0 0]
 var:aC w vb 105 #[v]
 row:bz w W.heap.size v L
theorem aC.dD{w:aah}{T:aat}{cs cs':Array aai}(h:aC w g T cs)(i:Nat)(u:aai)(he:cs.setIfInBounds i u=cs'):aC (w.setCell ⟨g,i,none⟩ u) g T cs':=by
 have:=h.kX i u
 rwa[he]at this
theorem bz.slice{w:aah}{B:Nat}{v:aai}{L:List az}(h:bz w B v L):∃a c,v=.slice a L.length c:=by
 rcases h.parts with⟨rfl,rfl⟩|⟨g,cap,rfl,_⟩
 ·exact⟨_,_,rfl⟩
 ·exact⟨_,_,rfl⟩
theorem bz.apart{w:aah}{B:Nat}{v:aai}{L:List az}{T:aat}{cs:Array aai}(h:bz w B v L)(hb:aC w g T cs)(hT:113≠T):v.ownBlock≠some g:=by
 rcases h.block with⟨rfl,rfl⟩|⟨g',cap,cur,rfl,_,Ex,_⟩
 ·simp[akw]
 ·have:=Ex.Gx hb hT
  simpa[akw]using this
theorem cC(w:aah)(g:Nat)(p:Addr)(hp:p.block=g)(u:aai):w.grownBy (w.setCell p u) (some g):=ak (dU w (some g)) (.inl hp) u
section
variable{W:aah}{cs:Array aai}{e:Ev}{v:aai}{b vb:Nat}{L:List az}{w w':aah}
theorem AP.keep(h:AP W cs e v b vb L w)(hb:Below w.heap.size w w'):AP W cs e v b vb L w':=
 ⟨h.below.T (hb.mono h.below.size),h.nH,h.YH,h.st.aj hb,h.ev.aj hb,h.re.aj hb,h.var.aj hb,h.row.below hb⟩
theorem AP.nvb(h:AP W cs e v b vb L w):vb≠b/\vb≠b+1/\vb≠b+1+1:=⟨h.var.Gx h.st dC,h.var.Gx h.ev dC,h.var.Gx h.re dC⟩
theorem AP.set(h:AP W cs e v b vb L w)(i:Nat)(u:aai){cs':Array aai}(hc:cs.setIfInBounds i u=cs'):AP W cs' e v b vb L (w.setCell ⟨b,i,none⟩ u):=by
 obtain⟨n1,n2,n3⟩:=h.nvb;refine⟨h.below.setCell h.nH u,h.nH,h.YH,?_,h.ev.eO (by show b+1≠b;omega) u,h.re.eO (by show b+1+1≠b;omega) u,h.var.eO n1 u,h.row.kept (cC w b ⟨b,i,none⟩ rfl u) (h.row.apart h.st dC)⟩;rw[<-hc];exact h.st.kX i u
theorem AP.ajk(h:AP W cs e v b vb L w)(vK:aC w g 113 cur)(hg:W.heap.size<=g){adO:Array aai}{L':List az}(hv:v'=v)(hr:bz (w.setRow g adO) W.heap.size v' L'):AP W cs e v' b vb L' (w.setRow g adO):=by
 subst hv;have n:=fP w g adO
 have eZ:∀{g' T cs},aC w g' T cs->113≠T->some g'≠some g:=fun hb hT=>by
  have:=vK.Gx hb hT;simpa using Ne.symm this
 exact⟨h.below.grown n h.below.size (fun k hk=>by cases hk;exact hg),h.nH,h.YH,h.st.grown n (eZ h.st dC),h.ev.grown n (eZ h.ev dC),h.re.grown n (eZ h.re dC),h.var.grown n (eZ h.var dC),hr⟩
theorem AP.mid(h:AP W cs e v b vb L w)(hg:w.grownBy w' v.ownBlock):Below W.heap.size W w'/\aC w' b 107 cs/\aC w' (b+1) 115 (aN e)/\aC w' (b+1+1) 107 #[.int .i64 0,.int .i64 0,.slice none 0 0]/\aC w' vb 105 #[v]:=
 ⟨h.below.grown hg h.below.size (fun k hk=>(h.row.lt k hk).1),h.st.grown hg (Ne.symm (h.row.apart h.st dC)),h.ev.grown hg (Ne.symm (h.row.apart h.ev dC)),h.re.grown hg (Ne.symm (h.row.apart h.re dC)),h.var.grown hg (Ne.symm (h.row.apart h.var dC))⟩
theorem AP.go(h:AP W cs e v b vb L w)(hg:w.grownBy w' v.ownBlock){L':List az}(hr:bz w' W.heap.size v' L'):AP W cs e v' b vb L' (w'.setCell ⟨vb,0,none⟩ v'):=by
 obtain⟨n1,n2,n3⟩:=h.nvb;obtain⟨k1,k2,k3,k4,k5⟩:=h.mid hg;exact⟨k1.setCell h.YH v',h.nH,h.YH,k2.eO (Ne.symm n1) v',k3.eO (Ne.symm n2) v',k4.eO (Ne.symm n3) v',k5.kX 0 v',hr.kept (cC w' vb ⟨vb,0,none⟩ rfl v') (hr.apart k5 dC)⟩
theorem DN{T T' T'':aat}{z0 z1 z2:aai}{vb:Nat}{v:aai}(st:aC w b T #[k0,k1,k2])(re:aC w (b+1+1) T' #[z0,z1,z2])(var:aC w vb T'' #[v]):w.cell? ⟨b,0,none⟩=some k0/\w.cell? ⟨b,1,none⟩=some k1/\w.cell? ⟨b,2,none⟩=some k2/\w.cell? ⟨vb,0,none⟩=some v/\
  w.cell? ⟨b+1+1,0,none⟩=some z0/\w.cell? ⟨b+1+1,1,none⟩=some z1/\w.cell? ⟨b+1+1,2,none⟩=some z2/\(∀j,w.frozen? ⟨b,j,none⟩=false)/\(∀j,w.frozen? ⟨b+1+1,j,none⟩=false)/\(∀j,w.frozen? ⟨vb,j,none⟩=false):=
 ⟨st.cell 0,st.cell 1,st.cell 2,var.cell 0,re.cell 0,re.cell 1,re.cell 2,st.frozen,re.frozen,var.frozen⟩
theorem AP.cells(h:AP W #[k0,k1,k2] e v b vb L w):w.cell? ⟨b,0,none⟩=some k0/\w.cell? ⟨b,1,none⟩=some k1/\w.cell? ⟨b,2,none⟩=some k2/\w.cell? ⟨vb,0,none⟩=some v/\
 w.cell? ⟨b+1+1,0,none⟩=some (.int .i64 0)/\w.cell? ⟨b+1+1,1,none⟩=some (.int .i64 0)/\w.cell? ⟨b+1+1,2,none⟩=some (.slice none 0 0)/\(∀j,w.frozen? ⟨b,j,none⟩=false)/\(∀j,w.frozen? ⟨b+1+1,j,none⟩=false)/\(∀j,w.frozen? ⟨vb,j,none⟩=false):=DN h.st h.re h.var
end
def fJ(W:aah)(s':St)(x:akB)(w':aah):Prop:=∃v',x=.returned (je s' v')/\bz w' W.heap.size v' s'.ax/\Below W.heap.size W w'
theorem nT{W w:aah}{s':St}{e:Ev}{v v0:aai}{b vb:Nat}(h:AP W #[.int .i64 ck,.int .i64 nx,v0] e v b vb s'.ax w)(h1:ck=s'.clock)(h2:nx=s'.next)(hp:A.tmps.getD 4 agp=.pointer (some ⟨b+1+1,0,none⟩))(hd:A.defers=[]):
  bodyPost prog f56 (fJ W s') ald A ((((w.setCell ⟨b,2,none⟩ v).setCell ⟨b+1+1,0,none⟩ (.int .i64 ck)).setCell ⟨b+1+1,1,none⟩ (.int .i64 nx)).setCell ⟨b+1+1,2,none⟩ v):=by
 subst h1;subst h2;have k:=h.set 2 v rfl;have h1:=k.re.dD 0 (.int .i64 s'.clock) (cs':=#[.int .i64 s'.clock,.int .i64 0,.slice none 0 0]) rfl;have h2:=h1.dD 1 (.int .i64 s'.next) (cs':=#[.int .i64 s'.clock,.int .i64 s'.next,.slice none 0 0]) rfl;have hr:=h2.dD 2 v (cs':=kY s' v) rfl;have g1:=cC (w.setCell ⟨b,2,none⟩ v) (b+1+1) ⟨b+1+1,0,none⟩ rfl (.int .i64 s'.clock);have g2:=ak g1 (p:=⟨b+1+1,1,none⟩) (.inl rfl) (.int .i64 s'.next);have hg:=ak g2 (p:=⟨b+1+1,2,none⟩) (.inl rfl) v;have as8:=h.nH;have hb:=k.below.grown hg k.below.size (fun j hj=>by cases hj;omega);have kF:=k.row.kept hg (k.row.apart k.re dC);generalize ((((w.setCell ⟨b,2,none⟩ v).setCell ⟨b+1+1,0,none⟩ (.int .i64 s'.clock)).setCell ⟨b+1+1,1,none⟩ (.int .i64 s'.next)).setCell ⟨b+1+1,2,none⟩ v)=wz at*;exact bodyPost_ret (ak0 rfl A.tmps wz _ _ _ (0,0) _ hp hr akW rfl kR) hd ⟨v,rfl,kF,hb⟩
theorem S9{L:List az}{f:az}{xs:List aai}(hx:xs.length=c*9)(ht:xs.take (L.length*9)=flat L)(hk:k<L.length)(hc:L.length<=c):
  let c1:=xs.take (k*9)++(au f).toList++xs.drop (k*9+(au f).toList.length)
  c1.length=c*9/\c1.take (L.length*9)=flat (L.set k f):=by
 intro c1;have hf:(au f).toList.length=9:=rfl;refine⟨?_,?_⟩
 ·show(xs.take (k*9)++(au f).toList++xs.drop (k*9+(au f).toList.length)).length=_
  simp only[ag2,ag',ag_,hf,hx];omega
 ·have e0:xs=flat L++xs.drop (L.length*9):=by rw[<-ht,List.take_append_drop]
  have e1:xs.take (k*9)=flat (L.take k):=by rw[vl,<-ht,List.take_take];congr 1;omega
  have e2:xs.drop (k*9+9)=flat (L.drop (k+1))++xs.drop (L.length*9):=by
   conv=>lhs;rw[e0]
   rw[List.drop_append_of_le_length (by rw[dQ];omega),vk,show(k+1)*9=k*9+9 by omega]
  have hl:(flat (L.take k)++(au f).toList++flat (L.drop (k+1))).length=L.length*9:=by
   simp only[ag2,dQ,hf,ag',ag_];omega
  show(xs.take (k*9)++(au f).toList++xs.drop (k*9+(au f).toList.length)).take (L.length*9)=_
  rw[hf,e1,e2,<-aho,<-hl,List.take_left,GS hk,tX,jJ,aho]
theorem AP.store{W:aah}{cs:Array aai}{e:Ev}{b vb g cap k:Nat}{L:List az}{w:aah}{cur:Array aai}(h:AP W cs e (.slice (some ⟨g,0,none⟩) L.length cap) b vb L w)(Z2:W.heap.size<=g)(vK:aC w g 113 cur)(hlc:L.length<=cap)(hm:cap<=9223372036854775807)(hc:cur.size=cap*9)(ht:cur.toList.take (L.length*9)=flat L)(hk:k<L.length)(f:az):
  AP W cs e (.slice (some ⟨g,0,none⟩) L.length cap) b vb (L.set k f) (w.setCells g (k*9) (au f).toList):=by
 obtain⟨k1,k2⟩:=S9 (f:=f) (by rw[ahh];exact hc) ht hk hlc;rw[yu vK (by show k*9+9<=_;omega) (fun u hu=>jk (L:=[f]) (by simpa[flat]using hu))];have hr:=bz.of_block (L:=L.set k f) Z2 (vK.row (new:=(cur.toList.take (k*9)++(au f).toList++cur.toList.drop (k*9+(au f).toList.length)).toArray)) (by rw[akQ];exact hlc) hm (by rw[<-ahh];exact k1) (by rw[akQ];exact k2);rw[akQ]at hr;exact h.ajk vK Z2 rfl hr
theorem TH{w:aah}{o n:Nat}{T:aat}(h:aC w g T cur)(hf:o+n<=cur.size):w.there g o n:=fun j hj=>
 ⟨by rw[h.cell,Array.getElem?_eq_getElem oM];rfl,h.frozen _⟩
def iH(W:aah)(s:St)(e:Ev)(v:aai):aah:=((W.alloc (.cells (kY s v) 107)).alloc (.cells (aN e) 115)).alloc (.cells #[.int .i64 0,.int .i64 0,.slice none 0 0] 107)
theorem JQ(W:aah)(s:St)(e:Ev)(v:aai):(iH W s e v).heap.size=W.heap.size+3:=by simp[iH]
theorem gL(W:aah)(s:St)(e:Ev)(v:aai):Below W.heap.size W (iH W s e v):=
 (((Below.refl W.heap.size W).alloc nR _).alloc sP _).alloc sO _
theorem AP.start{W:aah}{s:St}{e:Ev}{v v1:aai}{L:List az}(hr:bz w1 (iH W s e v).heap.size v1 L)(hb:Below (iH W s e v).heap.size (iH W s e v) w1):AP W (kY s v) e v1 W.heap.size w1.heap.size L (w1.alloc (.cells #[v1] 105)):=by
 have a1:aC (iH W s e v) W.heap.size 107 (kY s v):=((aC.new W _ _).alloc _).alloc _
 have a2:aC (iH W s e v) (W.heap.size+1) 115 (aN e):=by
  have:=(aC.new (W.alloc (.cells (kY s v) 107)) 115 (aN e)).alloc (.cells #[.int .i64 0,.int .i64 0,.slice none 0 0] 107);simpa[iH]using this
 have a3:aC (iH W s e v) (W.heap.size+1+1) 107 #[.int .i64 0,.int .i64 0,.slice none 0 0]:=by
  have:=aC.new ((W.alloc (.cells (kY s v) 107)).alloc (.cells (aN e) 115)) 107 #[.int .i64 0,.int .i64 0,.slice none 0 0];simpa[iH]using this
 have hs:=JQ W s e v;have hz:=hb.size;exact⟨((gL W s e v).T (hb.mono oM)).alloc oM _,ahP _,by omega,(a1.aj hb).alloc _,(a2.aj hb).alloc _,(a3.aj hb).alloc _,aC.new w1 _ _,(hr.below (bR.alloc nR _)).mono oM⟩
theorem Re(B:Nat)(v:aai)(s:St)(e:Ev)(W:aah)(h:bz W B v s.ax)(fR:ww s)(hid:bZ e.bA.id=true)(hk:e.kind=1)(hh:hasB s.ax e.bA.id=true):
  ach prog 56 #[je s v,bH e] W (fJ W (av s e)):=by
 have HA:=zH (fun B vb v w (h:bz w B v s.ax) hv=>Is B vb v s.ax e.bA.id w h hv fR.len fR.U2 fR.ids hid);rw[hh]at HA;have CI:av s e=⟨s.clock,max s.next (e.bA.id+1),s.ax.set (ahead s.ax e.bA.id) e.bA⟩:=by unfold av zJ;rw[if_pos hk,if_pos hh]
 have aE:=Bo hh;generalize av s e=s' at*;have HS:=zH CI;clear CI hh;have HC:=zH (fun w (h:bz w B v s.ax)=>lG B v s.ax w h fR.len);have H0:=zH h;have HK:=zH fR;clear h fR;obtain⟨k,⟨i,cl,su,sc,ge,ma,us,re,de⟩,id,ti⟩:=e;obtain⟨ck,nx,L⟩:=s;dsimp only at*;subst hk;have NQ:=aX.1 hid;unfold je kY bH aN;dsimp only
 go_in
 go_wp2_with fail;refine(HC.O (iH W ⟨ck,nx,L⟩ ⟨1,⟨i,cl,su,sc,ge,ma,us,re,de⟩,id,ti⟩ v) (H0.O.below (gL _ _ _ _))).mono ?_;rintro e w1 ⟨v1,rfl,jT,eu⟩;obtain⟨sa,sn,rfl⟩:=jT.slice;have HP:=zH (AP.start jT eu);obtain⟨c0,c1,c2,c3,c4,c5,c6,c7,c8,c9,jW,jX⟩:=bL HP.O.ev;obtain⟨m0,m1,m2,mv,r0,r1,r2,z0,z1,z2⟩:=HP.O.cells;clear jT eu HC H0;go_wp2_with fail;refine(HA.O _ _ _ _ HP.O.row (HP.O.var.cell 0)).mono ?_;rintro e w2 ⟨rfl,hb⟩;have Ag:=zH (HP.O.keep hb);clear hb c0 c1 c2 c3 c4 c5 c6 c7 c8 c9 jW jX m0 m1 m2 mv r0 r1 r2 z0 z1 z2;generalize w1.heap.size=vb at*;rcases Ag.O.row.block with⟨_,mB⟩|⟨g,cap,cur,he,Z2,vK,hlc,hm,hc,ht⟩
 ·rw[mB]at aE
  simp at aE
 simp only[akY,true_and]at he;obtain⟨rfl,rfl⟩:=he;generalize ahead L i=k at*;have hth:w2.there g (k*9) (#[.int .i64 i,.string cl,.string su,.string sc,.int .i64 ge,.int .i64 ma,.int .i64 us,.string re,.bool de]:Array aai).size:=TH vK (by show k*9+9<=_;omega);have HP3:=zH (Ag.O.store Z2 vK hlc hm hc ht aE ⟨i,cl,su,sc,ge,ma,us,re,de⟩);obtain⟨c0,c1,c2,c3,c4,c5,c6,c7,c8,c9,jW,jX⟩:=bL Ag.O.ev;have mv:=Ag.O.var.cell 0;generalize hw3:w2.setCells g (k*9) _=w3 at HP3;have HW3:=zH (show w2.setCells g (k*9) (#[.int .i64 i,.string cl,.string su,.string sc,.int .i64 ge,.int .i64 ma,.int .i64 us,.string re,.bool de]:Array aai).toList=w3 from hw3);obtain⟨p0,p1,p2,p3,p4,p5,p6,p7,p8,p9,p10,p11⟩:=bL HP3.O.ev;obtain⟨q0,q1,q2,qv,r0,r1,r2,z0,z1,z2⟩:=HP3.O.cells;clear hw3 vK hc ht hlc hm Z2;have hsi:(prog.info? 113).map (·.size)=some (#[.int .i64 i,.string cl,.string su,.string sc,.int .i64 ge,.int .i64 ma,.int .i64 us,.string re,.bool de]:Array aai).size:=Qa;have mQ:(#[.int .i64 i,.string cl,.string su,.string sc,.int .i64 ge,.int .i64 ma,.int .i64 us,.string re,.bool de]:Array aai).all (·.oneCell')=true:=by simp[Value.oneCell']
 go_wp2_with (with_reducible refine wpList_store_mid ?sg 113 (.tmp 32) (.tmp 31) ?so g (k*9) #[.int .i64 i,.string cl,.string su,.string sc,.int .i64 ge,.int .i64 ma,.int .i64 us,.string re,.bool de] ?sx ?sy hth hsi mQ ?_;(case so=>rfl);go_loud (case sg=>rfl);go_loud (case sx=>simp[Act.eval]);go_loud (case sy=>simp[Act.eval]);go_loud (rw[HW3.O]);clear c0 c1 c2 c3 c4 c5 c6 c7 c8 c9 jW jX mv);obtain rfl:=HS.O;exact nT (HP3.O.set 1 (.int .i64 (max nx (i+1))) rfl) rfl rfl rfl rfl
theorem Rc(B:Nat)(v:aai)(s:St)(e:Ev)(W:aah)(h:bz W B v s.ax)(fR:ww s)(hid:bZ e.bA.id=true)(hk:e.kind=1)(hh:hasB s.ax e.bA.id=false):
  ach prog 56 #[je s v,bH e] W (fJ W (av s e)):=by
 have HA:=zH (fun B vb v w (h:bz w B v s.ax) hv=>Is B vb v s.ax e.bA.id w h hv fR.len fR.U2 fR.ids hid);rw[hh]at HA;have CI:av s e=⟨s.clock,max s.next (e.bA.id+1),s.ax.take (ahead s.ax e.bA.id)++e.bA::s.ax.drop (ahead s.ax e.bA.id)⟩:=by unfold av zJ;rw[if_pos hk,if_neg (by rw[hh];decide)]
 have aE:=tN s.ax e.bA.id;generalize av s e=s' at*;have HS:=zH CI;clear CI hh;have HC:=zH (fun w (h:bz w B v s.ax)=>lG B v s.ax w h fR.len);have H0:=zH h;have HK:=zH fR;clear h fR;obtain⟨k,⟨i,cl,su,sc,ge,ma,us,re,de⟩,id,ti⟩:=e;obtain⟨ck,nx,L⟩:=s;dsimp only at*;subst hk;have NQ:=aX.1 hid;unfold je kY bH aN;dsimp only
 go_in
 go_wp2_with fail;refine(HC.O (iH W ⟨ck,nx,L⟩ ⟨1,⟨i,cl,su,sc,ge,ma,us,re,de⟩,id,ti⟩ v) (H0.O.below (gL _ _ _ _))).mono ?_;rintro e w1 ⟨v1,rfl,jT,eu⟩;obtain⟨sa,sn,rfl⟩:=jT.slice;have HP:=zH (AP.start jT eu);obtain⟨c0,c1,c2,c3,c4,c5,c6,c7,c8,c9,jW,jX⟩:=bL HP.O.ev;obtain⟨m0,m1,m2,mv,r0,r1,r2,z0,z1,z2⟩:=HP.O.cells;clear jT eu HC H0;go_wp2_with fail;refine(HA.O _ _ _ _ HP.O.row (HP.O.var.cell 0)).mono ?_;rintro e w2 ⟨rfl,hb⟩;have Ag:=zH (HP.O.keep hb);clear hb c0 c1 c2 c3 c4 c5 c6 c7 c8 c9 jW jX m0 m1 m2 mv r0 r1 r2 z0 z1 z2;generalize w1.heap.size=vb at*;generalize ahead L i=k at*;obtain⟨c0,c1,c2,c3,c4,c5,c6,c7,c8,c9,jW,jX⟩:=bL Ag.O.ev;obtain⟨m0,m1,m2,mv,r0,r1,r2,z0,z1,z2⟩:=Ag.O.cells;go_wp2_with fail;refine(ND W.heap.size w2.heap.size k _ L ⟨i,cl,su,sc,ge,ma,us,re,de⟩ _ (Ag.O.row.below (bR.alloc nR _)) aE HK.O.len (by have:=Ag.O.below.size;simp;omega) (aC.new w2 _ _) (fun hx=>by have:=(Ag.O.row.lt _ hx).2;omega)).mono ?_;rintro e w3 ⟨v3,rfl,E5,lV⟩;have hpa:=Ag.O.keep (bR.alloc nR (.cells (au ⟨i,cl,su,sc,ge,ma,us,re,de⟩) 113));have HP3:=zH (hpa.go lV E5);have HM:=zH (hpa.mid lV);clear c0 c1 c2 c3 c4 c5 c6 c7 c8 c9 jW jX m0 m1 m2 mv r0 r1 r2 z0 z1 z2;obtain⟨c0,c1,c2,c3,c4,c5,c6,c7,c8,c9,jW,jX⟩:=bL HM.O.2.2.1;obtain⟨m0,m1,m2,mv,r0,r1,r2,z0,z1,z2⟩:=DN HM.O.2.1 HM.O.2.2.2.1 HM.O.2.2.2.2;obtain⟨n1,n2,n3⟩:=Ag.O.nvb;obtain⟨sb,sl,sm,rfl⟩:∃a n c,v3=.slice a n c:=by obtain⟨a,c,hx⟩:=E5.slice;exact⟨_,_,_,hx⟩
 clear hpa lV E5;go_wp2_with fail;obtain rfl:=HS.O;exact nT (HP3.O.set 1 (.int .i64 (max nx (i+1))) rfl) rfl rfl rfl rfl
theorem Na(B:Nat)(v:aai)(s:St)(e:Ev)(W:aah)(h:bz W B v s.ax)(fR:ww s)(hid:bZ e.id=true)(hk:e.kind=2)(hh:hasB s.ax e.id=true):
  ach prog 56 #[je s v,bH e] W (fJ W (av s e)):=by
 have HA:=zH (fun B vb v w (h:bz w B v s.ax) hv=>Is B vb v s.ax e.id w h hv fR.len fR.U2 fR.ids hid);rw[hh]at HA;have CI:av s e=⟨s.clock,s.next,s.ax.take (ahead s.ax e.id)++s.ax.drop (ahead s.ax e.id+1)⟩:=by unfold av tT;rw[if_neg oM,if_pos hk,if_pos hh]
 have aE:=Bo hh;have hlen:=fR.len;have E3:¬ e.kind=1:=by omega
 generalize av s e=s' at*;have HS:=zH CI;clear CI hh;have HC:=zH (fun w (h:bz w B v s.ax)=>lG B v s.ax w h fR.len);have H0:=zH h;have HK:=zH fR;clear h fR;obtain⟨k,⟨i,cl,su,sc,ge,ma,us,re,de⟩,id,ti⟩:=e;obtain⟨ck,nx,L⟩:=s;dsimp only at*;subst hk;have NQ:=aX.1 hid;unfold je kY bH aN;dsimp only
 go_in
 go_wp2_with fail;refine(HC.O (iH W ⟨ck,nx,L⟩ ⟨2,⟨i,cl,su,sc,ge,ma,us,re,de⟩,id,ti⟩ v) (H0.O.below (gL _ _ _ _))).mono ?_;rintro e w1 ⟨v1,rfl,jT,eu⟩;obtain⟨sa,sn,rfl⟩:=jT.slice;have HP:=zH (AP.start jT eu);obtain⟨c0,c1,c2,c3,c4,c5,c6,c7,c8,c9,jW,jX⟩:=bL HP.O.ev;obtain⟨m0,m1,m2,mv,r0,r1,r2,z0,z1,z2⟩:=HP.O.cells;clear jT eu HC H0;go_wp2_with fail;refine(HA.O _ _ _ _ HP.O.row (HP.O.var.cell 0)).mono ?_;rintro e w2 ⟨rfl,hb⟩;have Ag:=zH (HP.O.keep hb);clear hb c0 c1 c2 c3 c4 c5 c6 c7 c8 c9 jW jX m0 m1 m2 mv r0 r1 r2 z0 z1 z2;generalize w1.heap.size=vb at*;generalize ahead L id=k at*;obtain⟨c0,c1,c2,c3,c4,c5,c6,c7,c8,c9,jW,jX⟩:=bL Ag.O.ev;obtain⟨m0,m1,m2,mv,r0,r1,r2,z0,z1,z2⟩:=Ag.O.cells;have hkw:akF ((k:Int)+1)=(k:Int)+1:=IntWalk.wrap64_in _ oM;go_wp2_with fail;refine(NC W.heap.size k _ L _ Ag.O.row aE HK.O.len).mono ?_;rintro e w3 ⟨v3,rfl,E5,lV⟩;have HP3:=zH (Ag.O.go lV E5);have HM:=zH (Ag.O.mid lV);clear c0 c1 c2 c3 c4 c5 c6 c7 c8 c9 jW jX m0 m1 m2 mv r0 r1 r2 z0 z1 z2;obtain⟨c0,c1,c2,c3,c4,c5,c6,c7,c8,c9,jW,jX⟩:=bL HM.O.2.2.1;obtain⟨m0,m1,m2,mv,r0,r1,r2,z0,z1,z2⟩:=DN HM.O.2.1 HM.O.2.2.2.1 HM.O.2.2.2.2;obtain⟨n1,n2,n3⟩:=Ag.O.nvb;obtain⟨sb,sl,sm,rfl⟩:∃a n c,v3=.slice a n c:=by obtain⟨a,c,hx⟩:=E5.slice;exact⟨_,_,_,hx⟩
 clear lV E5;go_wp2_with fail;obtain rfl:=HS.O;exact nT HP3.O rfl rfl rfl rfl
theorem Nb(B:Nat)(v:aai)(s:St)(e:Ev)(W:aah)(h:bz W B v s.ax)(fR:ww s)(hid:bZ e.id=true)(hk:e.kind=2)(hh:hasB s.ax e.id=false):
  ach prog 56 #[je s v,bH e] W (fJ W (av s e)):=by
 have HA:=zH (fun B vb v w (h:bz w B v s.ax) hv=>Is B vb v s.ax e.id w h hv fR.len fR.U2 fR.ids hid);rw[hh]at HA;have CI:av s e=s:=by unfold av tT;rw[if_neg oM,if_pos hk,if_neg (by rw[hh];decide)]
 have aE:=tN s.ax e.id;have hlen:=fR.len;have E3:¬ e.kind=1:=by omega
 generalize av s e=s' at*;have HS:=zH CI;clear CI hh;have HC:=zH (fun w (h:bz w B v s.ax)=>lG B v s.ax w h fR.len);have H0:=zH h;have HK:=zH fR;clear h fR;obtain⟨k,⟨i,cl,su,sc,ge,ma,us,re,de⟩,id,ti⟩:=e;obtain⟨ck,nx,L⟩:=s;dsimp only at*;subst hk;have NQ:=aX.1 hid;unfold je kY bH aN;dsimp only
 go_in
 go_wp2_with fail;refine(HC.O (iH W ⟨ck,nx,L⟩ ⟨2,⟨i,cl,su,sc,ge,ma,us,re,de⟩,id,ti⟩ v) (H0.O.below (gL _ _ _ _))).mono ?_;rintro e w1 ⟨v1,rfl,jT,eu⟩;obtain⟨sa,sn,rfl⟩:=jT.slice;have HP:=zH (AP.start jT eu);obtain⟨c0,c1,c2,c3,c4,c5,c6,c7,c8,c9,jW,jX⟩:=bL HP.O.ev;obtain⟨m0,m1,m2,mv,r0,r1,r2,z0,z1,z2⟩:=HP.O.cells;clear jT eu HC H0;go_wp2_with fail;refine(HA.O _ _ _ _ HP.O.row (HP.O.var.cell 0)).mono ?_;rintro e w2 ⟨rfl,hb⟩;have Ag:=zH (HP.O.keep hb);clear hb c0 c1 c2 c3 c4 c5 c6 c7 c8 c9 jW jX m0 m1 m2 mv r0 r1 r2 z0 z1 z2;generalize w1.heap.size=vb at*;obtain⟨c0,c1,c2,c3,c4,c5,c6,c7,c8,c9,jW,jX⟩:=bL Ag.O.ev;obtain⟨m0,m1,m2,mv,r0,r1,r2,z0,z1,z2⟩:=Ag.O.cells;go_wp2_with fail;obtain rfl:=HS.O;exact nT Ag.O rfl rfl rfl rfl
theorem JU(B:Nat)(v:aai)(s:St)(e:Ev)(W:aah)(h:bz W B v s.ax)(fR:ww s)(hk:e.kind=3):
  ach prog 56 #[je s v,bH e] W (fJ W (av s e)):=by
 have CI:av s e=⟨e.time,s.next,s.ax⟩:=by unfold av;rw[if_neg oM,if_neg oM,if_pos hk]
 generalize av s e=s' at*;have HS:=zH CI;have hid:bZ 0=true:=by decide
 clear CI;have HC:=zH (fun w (h:bz w B v s.ax)=>lG B v s.ax w h fR.len);have H0:=zH h;have HK:=zH fR;clear h fR;obtain⟨k,⟨i,cl,su,sc,ge,ma,us,re,de⟩,id,ti⟩:=e;obtain⟨ck,nx,L⟩:=s;dsimp only at*;subst hk;have NQ:=aX.1 hid;unfold je kY bH aN;dsimp only
 go_in
 go_wp2_with fail;refine(HC.O (iH W ⟨ck,nx,L⟩ ⟨3,⟨i,cl,su,sc,ge,ma,us,re,de⟩,id,ti⟩ v) (H0.O.below (gL _ _ _ _))).mono ?_;rintro e w1 ⟨v1,rfl,jT,eu⟩;obtain⟨sa,sn,rfl⟩:=jT.slice;have HP:=zH (AP.start jT eu);obtain⟨c0,c1,c2,c3,c4,c5,c6,c7,c8,c9,jW,jX⟩:=bL HP.O.ev;obtain⟨m0,m1,m2,mv,r0,r1,r2,z0,z1,z2⟩:=HP.O.cells;obtain⟨n1,n2,n3⟩:=HP.O.nvb;clear jT eu HC H0;go_wp2_with fail;obtain rfl:=HS.O;exact nT (HP.O.set 0 (.int .i64 ti) rfl) rfl rfl rfl rfl
theorem JX(B:Nat)(v:aai)(s:St)(e:Ev)(W:aah)(h:bz W B v s.ax)(fR:ww s)(E3:¬ e.kind=1)(Gp:¬ e.kind=2)(Qn:¬ e.kind=3):
  ach prog 56 #[je s v,bH e] W (fJ W (av s e)):=by
 have CI:av s e=s:=by unfold av;rw[if_neg E3,if_neg Gp,if_neg Qn]
 generalize av s e=s' at*;have HS:=zH CI;have hid:bZ 0=true:=by decide
 clear CI;have HC:=zH (fun w (h:bz w B v s.ax)=>lG B v s.ax w h fR.len);have H0:=zH h;have HK:=zH fR;clear h fR;obtain⟨k,⟨i,cl,su,sc,ge,ma,us,re,de⟩,id,ti⟩:=e;obtain⟨ck,nx,L⟩:=s;dsimp only at*;have hx:=E3;have NQ:=aX.1 hid;unfold je kY bH aN;dsimp only
 go_in
 go_wp2_with fail;refine(HC.O (iH W ⟨ck,nx,L⟩ ⟨k,⟨i,cl,su,sc,ge,ma,us,re,de⟩,id,ti⟩ v) (H0.O.below (gL _ _ _ _))).mono ?_;rintro e w1 ⟨v1,rfl,jT,eu⟩;obtain⟨sa,sn,rfl⟩:=jT.slice;have HP:=zH (AP.start jT eu);obtain⟨c0,c1,c2,c3,c4,c5,c6,c7,c8,c9,jW,jX⟩:=bL HP.O.ev;obtain⟨m0,m1,m2,mv,r0,r1,r2,z0,z1,z2⟩:=HP.O.cells;clear jT eu HC H0;go_wp2_with fail;obtain rfl:=HS.O;exact nT HP.O rfl rfl rfl rfl
theorem Cv(B:Nat)(v:aai)(s:St)(e:Ev)(W:aah)(h:bz W B v s.ax)(fR:ww s)(h1:e.kind=1->bZ e.bA.id=true)(h2:e.kind=2->bZ e.id=true):
  ach prog 56 #[je s v,bH e] W (fJ W (av s e)):=by
 by_cases E3:e.kind=1
 ·cases hh:hasB s.ax e.bA.id with
  |true=>exact Re B v s e W h fR (h1 E3) E3 hh
  |false=>exact Rc B v s e W h fR (h1 E3) E3 hh
 ·by_cases Gp:e.kind=2
  ·cases hh:hasB s.ax e.id with
   |true=>exact Na B v s e W h fR (h2 Gp) Gp hh
   |false=>exact Nb B v s e W h fR (h2 Gp) Gp hh
  ·by_cases Qn:e.kind=3
   ·exact JU B v s e W h fR Qn
   ·exact JX B v s e W h fR E3 Gp Qn
theorem IS{e:Ev}(he:gG e=true):e.kind=1->bZ e.bA.id=true:=fun hk=>by
 rcases jj he with⟨_,_,_,hf⟩|⟨h1,_⟩|⟨h1,_⟩
 ·exact(bV hf).1
 ·omega
 ·omega
theorem IT{e:Ev}(he:gG e=true):e.kind=2->bZ e.id=true:=fun hk=>by
 rcases jj he with⟨h1,_⟩|⟨_,_,_,h2⟩|⟨h1,_⟩
 ·omega
 ·exact h2
 ·omega
def oZ(w0:aah)(ck nx:Int)(L:List az)(x:akB)(w':aah):Prop:=∃a c,x=.returned (.agg #[.int .i64 ck,.int .i64 nx,.slice a L.length c])/\bz w' w0.heap.size (.slice a L.length c) L/\Below w0.heap.size w0 w'
theorem j7{w0:aah}{s':St}{x:akB}{w':aah}(h:fJ w0 s' x w'):oZ w0 s'.clock s'.next s'.ax x w':=by
 obtain⟨v,rfl,hr,hb⟩:=h;obtain⟨a,c,rfl⟩:=hr.slice;exact⟨a,c,rfl,hr,hb⟩
theorem bz.lit{w:aah}{B n:Nat}{a:Option Addr}{L:List az}(h:bz w B (.slice a n c) L)(hk:k<L.length):∃g,a=some ⟨g,0,none⟩/\n=L.length/\bz w B (.slice (some ⟨g,0,none⟩) L.length c) L:=by
 rcases h.parts with⟨e,rfl⟩|⟨g,cap,e,_⟩
 ·simp at hk
 ·simp only[akY]at e
  obtain⟨rfl,rfl,rfl⟩:=e;exact⟨g,rfl,rfl,h⟩
theorem adS(d:Nat):Ui d≠32:=by
 by_cases h:d<16
 ·have:∀n:Fin 16,Ui n.1≠32:=by decide
  exact this ⟨d,h⟩
 ·unfold Ui
  rw[akH,aj3 (by show NN.length<=d;unfold NN;simp;omega)]
  decide
theorem Qj:∀(k n:Nat),(32:UInt8) ∉ pZ k n
 |0,n=>by simp[pZ]
 |k+1,n=>by
  rw[Gn,ab'];rintro(h|h)
  ·exact adS _ h.symm
  ·exact Qj k n h
theorem Ac:Ah bt:=⟨fun _ _=>iJ _ _,fun _ _=>Qj _ _⟩
theorem vA(x:BL):(sV bt x).length=x.length+17:=by
 unfold sV;rw[ag2,agj,Ac.len]
theorem yG(B:Nat)(v:aai)(L:List BL)(W:aah)(h:Row W B v L)(hL:L.length<=100)(hlen:(glue 32 L).length<=5000):
  ach prog 163 #[v] W fun e w'=>e=.returned (.string (aq (sV bt (glue 32 L))))/\Below W.heap.size W w':=by
 have HJ:=zH (xZ 32 h oM oM);have iS:(aq (glue 32 L)).size<=5000:=by rw[<-size_data,an];exact hlen
 have HT:=zH (fun w=>vr 0 (aq (glue 32 L)) w oM);have hdt:(aq (glue 32 L)).data.toList=glue 32 L:=an _;rw[hdt]at HT;have EB:(⟨(bt 0 (glue 32 L)).toArray⟩:ByteArray).size=16:=by have:=Ac.len 0 (glue 32 L);simpa[ByteArray.size]using this
 have aO:(aq (glue 32 L)++⟨#[32]⟩)++(⟨(bt 0 (glue 32 L)).toArray⟩:ByteArray)=aq (sV bt (glue 32 L)):=by
  apply akM;apply Array.ext';unfold sV aq;simp
 have HR:=zH aO;clear h hL hlen hdt aO;generalize aq (sV bt (glue 32 L))=r at*;generalize (⟨(bt 0 (glue 32 L)).toArray⟩:ByteArray)=tg at*;generalize aq (glue 32 L)=x at*
 go_in
 go_wp2_with fail;refine HJ.O.mono ?_;rintro e w1 ⟨rfl,hb⟩;have HB:=zH hb;clear hb HJ;go_wp2_with fail;refine(HT.O _).mono ?_;rintro e w2 ⟨rfl,hb⟩;have gS:=zH (below_2 HB.O hb);clear hb HT;go_wp2_with fail;go_ret;refine⟨?_,gS.O⟩;rw[<-HR.O];rfl
def Zs(W:aah)(o:Option (BL))(e:akB)(w':aah):Prop:=
 (∃x b,e=.returned (.tuple #[.string x,.bool b])/\(match o with|some l=>x=aq l/\b=true|none=>x=⟨#[]⟩/\b=false))/\Below W.heap.size W w'
theorem Ln(s:ByteArray)(W:aah)(hs:s.size<=5000)(h1:akm s 32= -1):
  ach prog 85 #[.string s] W fun e w'=>e=.returned (.tuple #[.string ⟨#[]⟩,.bool false])/\Below W.heap.size W w':=by
 have HL:=zH (fun w=>jr s 32 oM w);rw[h1]at HL;clear h1
 go_in
 go_wp2_with (go_at_call 126;refine(HL.O _).mono ?_;rintro e w1 ⟨rfl,rfl⟩)
 go_quiet (fail)
 go_wp2_with fail;go_ret2;exact⟨rfl,below_drewN bR _⟩
theorem Lp(s x t:ByteArray)(i:Nat)(W:aah)(hs:s.size<=5000)(h1:akm s 32=(i:Int))(hi:i<s.size)(hx:s.extract 0 i=x)(ht:s.extract (i+1) s.size=t)(hxs:x.size<=5000):
  ach prog 85 #[.string s] W fun e w'=>e=.returned (.tuple #[.string (if t.data.toList=bt 0 x.data.toList then x else⟨#[]⟩),.bool (decide (t.data.toList=bt 0 x.data.toList))])/\Below W.heap.size W w':=by
 have HL:=zH (fun w=>jr s 32 oM w);rw[h1]at HL;have HT:=zH (fun w=>vr 0 x w oM)
 have hq:(t.toList == (⟨(bt 0 x.data.toList).toArray⟩:ByteArray).toList)=decide (t.data.toList=bt 0 x.data.toList):=by
  rw[ab3,ab3,ahp];simp
 have hi0:¬ (i:Int)<0:=by omega
 have hi1:(0:Int)<=(i:Int):=by omega
 have hi2:(i:Int)<=(s.size:Int):=by omega
 have hi3:(0:Int)<=(i:Int)+1:=by omega
 have hi4:(i:Int)+1<=(s.size:Int):=by omega
 have hi5:IntKind.i64.wrap ((i:Int)+1)=(i:Int)+1:=by unfold IntKind.wrap;simp[IntKind.signed,IntKind.bits];omega
 have hi6:((i:Int)+1).toNat=i+1:=by omega
 generalize (⟨(bt 0 x.data.toList).toArray⟩:ByteArray)=tg at*;clear h1
 by_cases hc:t.data.toList=bt 0 x.data.toList
 all_goals
  have HC:=zH hc
  first|rw[if_pos hc]|rw[if_neg hc]
  first|rw[decide_eq_true hc]at hq ⊢ |rw[decide_eq_false hc]at hq ⊢
  clear hc
  go_in
  go_wp2_with (go_at_call 126;refine(HL.O _).mono ?_;rintro e w1 ⟨rfl,rfl⟩)
  go_region_held3 (fun w'=>Below w1.heap.size w1 w')
   (first
    |with_reducible assumption
    |exact below_drewN bR 1
    |exact below_2 aS aS)
   (first
    |(go_at_call 88;with_reducible refine(HT.O _).mono ?_;rintro e w2 ⟨rfl,ju⟩))
  go_wp2_with fail;go_ret2;exact⟨rfl,by assumption⟩
theorem kP(s:ByteArray)(W:aah)(hs:s.size<=5000):ach prog 85 #[.string s] W (Zs W (iA bt s.data.toList)):=by
 rcases N6 s with⟨h1,h2⟩|⟨i,hi,h1,h2⟩
 ·refine(Ln s W hs h1).mono fun e w' ⟨he,hb⟩=>⟨⟨_,_,he,?_⟩,hb⟩
  unfold iA;rw[h2];exact⟨rfl,rfl⟩
 ·have hx:(s.extract 0 i).data.toList=s.data.toList.take i:=by rw[Lib.extract_data];simp
  have ht:(s.extract (i+1) s.size).data.toList=s.data.toList.drop (i+1):=by rw[Lib.extract_to_end]
  refine(Lp s (s.extract 0 i) (s.extract (i+1) s.size) i W hs h1 hi rfl rfl (by rw[ByteArray.size_extract];omega)).mono fun e w' ⟨he,hb⟩=>⟨⟨_,_,he,?_⟩,hb⟩
  unfold iA;rw[h2];dsimp only;rw[hx,ht]
  by_cases hc:s.data.toList.drop (i+1)=bt 0 (s.data.toList.take i)
  ·rw[if_pos hc,if_pos hc]
   refine⟨?_,by simpa using hc⟩;rw[<-hx,gC]
  ·rw[if_neg hc,if_neg hc]
   exact⟨rfl,by simpa using hc⟩
def gh(db:Nat)(s:St)(v:aai)(n f x:Int)(down:Bool):Array aai:=#[.pointer (some ⟨db,0,none⟩),.int .i64 s.clock,.int .i64 s.next,v,.int .i64 n,.int .i64 f,.int .i64 x,.bool down]
def BY(w:aah)(sb db:Nat)(s:St)(v:aai)(n f x:Int)(down:Bool):Prop:=aC w sb 109 (gh db s v n f x down)
theorem BY.cells{w:aah}{sb db:Nat}{L:List az}{v:aai}{n f x:Int}{down:Bool}(h:BY w sb db ⟨ck,nx,L⟩ v n f x down):
  w.cell? ⟨sb,0,none⟩=some (.pointer (some ⟨db,0,none⟩))/\w.cell? ⟨sb,1,none⟩=some (.int .i64 ck)/\w.cell? ⟨sb,2,none⟩=some (.int .i64 nx)/\w.cell? ⟨sb,3,none⟩=some v/\w.cell? ⟨sb,4,none⟩=some (.int .i64 n)/\
  w.cell? ⟨sb,5,none⟩=some (.int .i64 f)/\w.cell? ⟨sb,6,none⟩=some (.int .i64 x)/\w.cell? ⟨sb,7,none⟩=some (.bool down)/\(∀j,w.frozen? ⟨sb,j,none⟩=false)/\sb<w.heap.size:=
 ⟨aC.cell h 0,aC.cell h 1,aC.cell h 2,aC.cell h 3,aC.cell h 4,aC.cell h 5,aC.cell h 6,aC.cell h 7,aC.frozen h,aC.lt h⟩
theorem oe{w:aah}{T:aat}(h:aC w g T #[k0,k1,k2]):w.cell? ⟨g,0,none⟩=some k0/\w.cell? ⟨g,1,none⟩=some k1/\w.cell? ⟨g,2,none⟩=some k2:=⟨h.cell 0,h.cell 1,h.cell 2⟩
theorem Hg(sb db:Nat)(s:St)(v:aai)(n f x:Int)(down:Bool)(W:aah)(h:BY W sb db s v n f x down)(h0:0<=f)(h1:f<=x)(h2:x<=1000000):
  ach prog 110 #[.pointer (some ⟨sb,0,none⟩)] W fun e w'=>e=.returned (.int .i64 (x - f))/\Below W.heap.size W w':=by
 obtain⟨ck,nx,L⟩:=s;obtain⟨c0,c1,c2,c3,c4,c5,c6,c7,z,aE⟩:=h.cells;clear h
 go_in
 go_wp2_with fail
 go_quiet (fail)
 go_wp2_with fail;go_ret;exact⟨rfl,below_drewN bR _⟩
theorem O1(sb db:Nat)(s:St)(v:aai)(n f x:Int)(down:Bool)(W:aah)(h:BY W sb db s v n f x down):
  ach prog 112 #[.pointer (some ⟨sb,0,none⟩)] W fun e w'=>e=.returned (.bool down)/\Below W.heap.size W w':=by
 obtain⟨ck,nx,L⟩:=s;obtain⟨c0,c1,c2,c3,c4,c5,c6,c7,z,aE⟩:=h.cells;clear h
 go_in
 go_wp2_with fail;go_ret;exact⟨rfl,Below.refl _ _⟩
theorem xd(n:Int)(W:aah)(h0:0<=n)(_:n<=1000001):ach prog 83 #[.int .i64 n] W fun e w'=>e=.returned (.int .i64 (aI (n % 2).toNat:Nat))/\W=w':=by
 have h3:n % 2=0\/n % 2=1:=by omega
 have hr:n.tmod 2=n % 2:=by exact Int.tmod_eq_emod_of_nonneg h0
 have hs:(aI (n % 2).toNat:Int)=16+n % 2*21:=by
  rcases h3 with h|h<;>rw[h]<;>decide
 rw[hs];have HR:=zH hr
 go_in
 go_wp2_with fail;go_ret;refine⟨?_,rfl⟩
 show aiD (Value.int _ _)=_
 congr 2
theorem w_(sb db:Nat)(s:St)(v:aai)(n f x:Int)(down:Bool)(W:aah)(h:BY W sb db s v n f x down):
  ach prog 162 #[.pointer (some ⟨sb,0,none⟩),.iface 30 (.int .i64 14)] W fun e w'=>e=.returned (.iface 30 (.int .i64 14))/\BY w' sb db s v n f x true/\W.grownBy w' (some sb):=by
 obtain⟨ck,nx,L⟩:=s;obtain⟨c0,c1,c2,c3,c4,c5,c6,c7,z,aE⟩:=h.cells;have HS:=zH (show BY (W.setCell ⟨sb,7,none⟩ (.bool true)) sb db ⟨ck,nx,L⟩ v n f x true from aC.dD h 7 (.bool true) rfl);have HG:=zH (cC W sb ⟨sb,7,none⟩ rfl (.bool true));clear h;cases down
 all_goals
  go_in
  go_wp2_with fail;go_ret;exact⟨rfl,HS.O,HG.O⟩
theorem Tn{W w:aah}{s:St}{v:aai}(hr:bz w W.heap.size v s.ax)(h1:v.ownBlock≠some W.heap.size)(h2:v.ownBlock≠some (W.heap.size+1))(hb:Below W.heap.size W w)(h3:aC w W.heap.size 107 #[.int .i64 0,.int .i64 0,.slice none 0 0])(hp:A.tmps.getD 2 agp=.pointer (some ⟨W.heap.size,0,none⟩))(hd:A.defers=[]):
  bodyPost prog Tryz.f149 (fJ W s) ald A ((((w.setCell ⟨W.heap.size+1,2,none⟩ v).setCell ⟨W.heap.size,0,none⟩ (.int .i64 s.clock)).setCell ⟨W.heap.size,1,none⟩ (.int .i64 s.next)).setCell ⟨W.heap.size,2,none⟩ v):=by
 have g0:=cC w (W.heap.size+1) ⟨W.heap.size+1,2,none⟩ rfl v;have k3:=h3.grown g0 sP;have kr:=hr.kept g0 h2;have kb:=hb.setCell (p:=⟨W.heap.size+1,2,none⟩) (Nat.le_succ _) v;generalize w.setCell ⟨W.heap.size+1,2,none⟩ v=w1 at*;have e1:=k3.dD 0 (.int .i64 s.clock) (cs':=#[.int .i64 s.clock,.int .i64 0,.slice none 0 0]) rfl;have e2:=e1.dD 1 (.int .i64 s.next) (cs':=#[.int .i64 s.clock,.int .i64 s.next,.slice none 0 0]) rfl;have e3:=e2.dD 2 v (cs':=kY s v) rfl;have g1:=cC w1 W.heap.size ⟨W.heap.size,0,none⟩ rfl (.int .i64 s.clock);have g2:=ak g1 (p:=⟨W.heap.size,1,none⟩) (.inl rfl) (.int .i64 s.next);have g3:=ak g2 (p:=⟨W.heap.size,2,none⟩) (.inl rfl) v;have kb3:=kb.grown g3 kb.size (fun j hj=>by cases hj;exact ahP _);have kr3:=kr.kept g3 h1;generalize ((w1.setCell ⟨W.heap.size,0,none⟩ (.int .i64 s.clock)).setCell ⟨W.heap.size,1,none⟩ (.int .i64 s.next)).setCell ⟨W.heap.size,2,none⟩ v=w2 at*;exact bodyPost_ret (ak0 rfl A.tmps w2 _ _ _ (0,0) _ hp e3 akW rfl kR) hd ⟨v,rfl,kr3,kb3⟩
theorem Mi(B sb db:Nat)(s:St)(v:aai)(n f x:Int)(down:Bool)(W:aah)(h:BY W sb db s v n f x down)(hr:bz W B v s.ax)(hl:s.ax.length<=1000000):
  ach prog 149 #[.pointer (some ⟨sb,0,none⟩)] W (fJ W s):=by
 obtain⟨sa,sc,rfl⟩:=hr.slice;have zu:=gK W (.cells #[.int .i64 0,.int .i64 0,.slice none 0 0] 107) (.cells #[.int .i64 s.clock,.int .i64 s.next,.slice sa s.ax.length sc] 107);have HC:=zH (lG B _ s.ax _ (hr.below zu) hl);have MU:=zH zu;have a3:aC ((W.alloc (.cells #[.int .i64 0,.int .i64 0,.slice none 0 0] 107)).alloc (.cells #[.int .i64 s.clock,.int .i64 s.next,.slice sa s.ax.length sc] 107)) W.heap.size 107 #[.int .i64 0,.int .i64 0,.slice none 0 0]:=(aC.new W _ _).alloc _
 have a4:aC ((W.alloc (.cells #[.int .i64 0,.int .i64 0,.slice none 0 0] 107)).alloc (.cells #[.int .i64 s.clock,.int .i64 s.next,.slice sa s.ax.length sc] 107)) (W.heap.size+1) 107 (kY s (.slice sa s.ax.length sc)):=by
  have:=aC.new (W.alloc (.cells #[.int .i64 0,.int .i64 0,.slice none 0 0] 107)) 107 (kY s (.slice sa s.ax.length sc));rw[show(W.alloc (.cells #[.int .i64 0,.int .i64 0,.slice none 0 0] 107)).heap.size=W.heap.size+1 by simp]at this;exact this
 have iS:W.heap.size+1+1<=((W.alloc (.cells #[.int .i64 0,.int .i64 0,.slice none 0 0] 107)).alloc (.cells #[.int .i64 s.clock,.int .i64 s.next,.slice sa s.ax.length sc] 107)).heap.size:=by simp
 have A3:=zH a3;have A4:=zH a4;have HSZ:=zH iS;obtain⟨ck,nx,L⟩:=s;dsimp only at*;obtain⟨c0,c1,c2,c3,c4,c5,c6,c7,z,aE⟩:=h.cells;clear h hr zu a3 a4 iS
 go_in
 go_wp2_with fail;refine HC.O.mono ?_;rintro e w1 ⟨v1,rfl,jT,eu⟩;have h3:=A3.O.aj eu;have h4:=A4.O.aj eu;obtain⟨xa,xc,rfl⟩:=jT.slice;have HR:=zH jT;have H3:=zH h3;have H4:=zH h4;have HB:=zH (below_2 MU.O eu);obtain⟨m0,m1,m2⟩:=oe h4;have z3:=h3.frozen;have z4:=h4.frozen;have l3:=h3.cell 0;have l4:=h3.cell 1;have l5:=h3.cell 2;clear jT eu h3 h4 HC A3 A4 MU;go_wp2_with fail;have hz:=HSZ.O;exact Tn (s:=⟨ck,nx,L⟩) (HR.O.mono oM) (fun he=>by have:=(HR.O.lt _ he).1;omega) (fun he=>by have:=(HR.O.lt _ he).1;omega) HB.O H3.O rfl rfl
structure Env(B:Nat)(w:aah):Prop where
 cq:eN w
 iV:gp w
 iE:bX w
 gt:6<B
 gm:3<B
 g1:4<B
 g2:5<B
section
variable{B:Nat}{w w':aah}
theorem Env.keep(h:Env B w)(hb:Below B w w'):Env B w':=⟨h.cq.below hb h.gt,h.iV.below hb h.gm,h.iE.below hb h.g1 h.g2,h.gt,h.gm,h.g1,h.g2⟩
theorem Env.wb(h:Env B w):WB w w:=⟨Below.refl _ _,h.cq,h.iV⟩
theorem Env.new(h:Env B w)(hB:B<=w.heap.size)(hb:Below w.heap.size w w'):Env B w':=h.keep (hb.mono hB)
end
structure SD(B sb db:Nat)(D:Dk)(s:St)(v:aai)(n f x:Int)(down:Bool)(w:aah):Prop where
 env:Env B w
 st:BY w sb db s v n f x down
 fM:bK w db D
 row:bz w B v s.ax
 bs:B<=sb
 bd:B<=db
section
variable{B sb db:Nat}{D D':Dk}{s:St}{v:aai}{n f x:Int}{down:Bool}{w w':aah}
theorem SD.nH(h:SD B sb db D s v n f x down w):B<=w.heap.size:=aki (Nat.lt_of_le_of_lt h.bs (aC.lt h.st))
theorem SD.keep(h:SD B sb db D s v n f x down w)(hb:Below w.heap.size w w'):SD B sb db D s v n f x down w':=⟨h.env.new h.nH hb,aC.aj h.st hb,h.fM.below hb,h.row.below hb,h.bs,h.bd⟩
theorem SD.apart(h:SD B sb db D s v n f x down w):v.ownBlock≠some sb/\v.ownBlock≠some db/\sb≠db:=⟨h.row.apart h.st dC,h.row.apart h.fM.at_ dC,aC.Gx h.st h.fM.at_ dC⟩
theorem SD.wrote(h:SD B sb db D s v n f x down w)(hd:bK w' db D')(hg:w.grownBy w' (some db)):SD B sb db D' s v n f x down w':=by
 obtain⟨h1,h2,h3⟩:=h.apart;have hb:Below B w w':=(Below.refl B w).grown hg h.nH (fun k hk=>by cases hk;exact h.bd);exact⟨h.env.keep hb,aC.grown h.st hg (by simpa using h3),hd,h.row.kept hg h2,h.bs,h.bd⟩
theorem SD.QG(h:SD B sb db D s v n f x down w){n' f' x':Int}{acs:Bool}(hs:BY w' sb db s v n' f' x' acs)(hg:w.grownBy w' (some sb)):SD B sb db D s v n' f' x' acs w':=by
 obtain⟨h1,h2,h3⟩:=h.apart;have hb:Below B w w':=(Below.refl B w).grown hg h.nH (fun k hk=>by cases hk;exact h.bs);exact⟨h.env.keep hb,hs,h.fM.grown hg (by simpa using Ne.symm h3),h.row.kept hg h1,h.bs,h.bd⟩
theorem SD.cells{L:List az}(h:SD B sb db D ⟨ck,nx,L⟩ v n f x down w):
 w.cell? ⟨sb,0,none⟩=some (.pointer (some ⟨db,0,none⟩))/\w.cell? ⟨sb,1,none⟩=some (.int .i64 ck)/\w.cell? ⟨sb,2,none⟩=some (.int .i64 nx)/\w.cell? ⟨sb,3,none⟩=some v/\w.cell? ⟨sb,4,none⟩=some (.int .i64 n)/\
 w.cell? ⟨sb,5,none⟩=some (.int .i64 f)/\w.cell? ⟨sb,6,none⟩=some (.int .i64 x)/\w.cell? ⟨sb,7,none⟩=some (.bool down)/\(∀j,w.frozen? ⟨sb,j,none⟩=false)/\sb<w.heap.size:=h.st.cells
end
theorem SD.drew{B sb db:Nat}{D:Dk}{s:St}{v:aai}{n f x:Int}{down:Bool}{w:aah}(h:SD B sb db D s v n f x down w):SD B sb db D s v n f x down w.drew:=⟨⟨h.env.cq,h.env.iV,h.env.iE,h.env.gt,h.env.gm,h.env.g1,h.env.g2⟩,h.st,⟨h.fM.at_,h.fM.len⟩,h.row,h.bs,h.bd⟩
theorem SD.four{B sb db:Nat}{D:Dk}{L:List az}{v:aai}{n f x:Int}{down:Bool}{w:aah}(h:SD B sb db D ⟨ck,nx,L⟩ v n f x down w):
 w.cell? ⟨sb,1,none⟩=some (.int .i64 ck)/\w.cell? ⟨sb,2,none⟩=some (.int .i64 nx)/\w.cell? ⟨sb,3,none⟩=some v/\w.cell? ⟨sb,6,none⟩=some (.int .i64 x):=⟨aC.cell h.st 1,aC.cell h.st 2,aC.cell h.st 3,aC.cell h.st 6⟩
theorem SD.one{B sb db:Nat}{D:Dk}{s:St}{v:aai}{n f x:Int}{down:Bool}{w:aah}(h:SD B sb db D s v n f x down w):w.cell? ⟨sb,0,none⟩=some (.pointer (some ⟨db,0,none⟩)):=aC.cell h.st 0
theorem SD.number{B sb db:Nat}{D:Dk}{s:St}{v:aai}{n f x:Int}{w:aah}(h:SD B sb db D s v n f x false w)(n' f':Int):SD B sb db D s v n' f' x false ((w.setCell ⟨sb,4,none⟩ (.int .i64 n')).setCell ⟨sb,5,none⟩ (.int .i64 f'))/\w.grownBy ((w.setCell ⟨sb,4,none⟩ (.int .i64 n')).setCell ⟨sb,5,none⟩ (.int .i64 f')) (some sb):=by
 have k1:=aC.dD h.st 4 (.int .i64 n') (cs':=gh db s v n' f x false) rfl;have k2:=aC.dD k1 5 (.int .i64 f') (cs':=gh db s v n' f' x false) rfl;have g1:=cC w sb ⟨sb,4,none⟩ rfl (.int .i64 n');have g2:=ak g1 (p:=⟨sb,5,none⟩) (.inl rfl) (.int .i64 f');exact⟨h.QG k2 g2,g2⟩
theorem nV{f:az}(h:pU f=true):f.short 5000:=by
 obtain⟨_,_,_,_,h5,h6,h7,h8⟩:=bV h;have a:=ff h5;have b:=ff h6;have c:=QN h7;have d:=se h8;rw[size_data]at a b c d;exact⟨by omega,by omega,by omega,by omega⟩
theorem Br(x:Int)(hx:rQ x=true)(w:aah)(hT:eN w):ach prog 44 #[.int .i64 x] w fun e w'=>e=.returned (.string (bM x))/\Below w.heap.size w w':=by
 have h:=cK.1 hx;refine(nk x oM oM w hT).mono ?_;rintro e w' ⟨rfl,k,os,rfl⟩;exact⟨rfl,below_grown w k os⟩
theorem rM{w w':aah}{B n:Nat}{e:aat}{v:aai}{xs:List aai}(h:w.ownsRow B e 1 v n xs)(hb:Below w.heap.size w w'):w'.ownsRow B e 1 v n xs:=
 h.kept (fV hb (some w.heap.size)) (.inr (fun he=>by have:=(h.lt _ he).2;omega))
theorem CP{w w':aah}{L:List Int}(h:bD w g L)(hb:Below w.heap.size w w'):bD w' g L:=by
 intro j hj;have h1:=h j hj;have aE:g<w.heap.size:=acC w _ h1;rw[hb.cell (p:=⟨g,j,none⟩) aE];exact h1
structure TN(W:aah)(g:Nat)(L:List Int)(k:Nat)(O:aai)(w:aah):Prop where
 below:Below W.heap.size W w
 ints:bD w g L
 row:w.ownsRow W.heap.size 9 1 O k ((L.take k).map fun x=>encStr (aax x))
theorem TN.start{W:aah}{L:List Int}(hi:bD W g L):TN W g L 0 (.slice none 0 0) W:=⟨Below.refl _ _,hi,akO _ _ _ _⟩
theorem TN.call{W w:aah}{L:List Int}(h:TN W g L k O w)(hb:Below w.heap.size w w1):TN W g L k O w1:=⟨below_2 h.below hb,CP h.ints hb,rM h.row hb⟩
theorem TN.next{W:aah}{L:List Int}{o:Obj}(hi:bD W g L)(h:TN W g L k O w1)(hk:k<L.length)(hy:y=encStr (aax (L.getD k 0)))(ho:w3.ownsRow W.heap.size 9 1 v' (k+1) ((L.take k).map (fun x=>encStr (aax x))++[y]))(hg:(w1.alloc o).grownBy w3 O.ownBlock):TN W g L (k+1) v' w3:=by
 have b1:Below W.heap.size W (w1.alloc o):=h.below.alloc h.below.size o;have b2:Below W.heap.size W w3:=b1.grown hg b1.size fun i e=>(h.row.lt i e).1
 refine⟨b2,CP hi b2,?_⟩
 have e:(L.take (k+1)).map (fun x=>encStr (aax x))=(L.take k).map (fun x=>encStr (aax x))++[y]:=by
  rw[ai6,ag8 hk,akP,hy];simp[agv,hk]
 rw[e];exact ho
def Bi(W:aah)(o:Option (Int×Int×St))(x:akB)(w':aah):Prop:=
 ∃(a b:Int) (st:St) (v:aai) (ok:Bool),x=.returned (.tuple #[.int .i64 a,.int .i64 b,je st v,.bool ok])/\bz w' W.heap.size v st.ax/\Below W.heap.size W w'/\(match o with|some t=>ok=true/\t=(a,b,st)|none=>ok=false)
theorem IX{P:ag0}{fn:Func}{i j p u:Tmp}{ty:aat}(h:fn.results=#[.tmp i,.tmp j,.cell p ty,.tmp u])(tmps:Array aai)(w:aah)(g:Nat)(t:aat)(cs:Array aai)(d:TypeDesc)(x y z:aai)(h1:tmps.getD i agp=x)(h2:tmps.getD j agp=y)(hp:tmps.getD p agp=.pointer (some ⟨g,0,none⟩))(hz:tmps.getD u agp=z)(hg:aC w g t cs)(hu:P.underlying ty=some d)(hd:(match d with| .struct _| .array _ _=>true|_=>false)=true)(hi:(P.info? ty).map (·.size)=some cs.size):
  (results fn tmps).run P w=.ok (.tuple #[x,y,.agg cs,z]) w:=by
 have hl:=run_loadVar_row w g t ty cs (0,0) d hg hu hd hi;rw[Array.getD_eq_getD_getElem?]at h1 h2 hp hz;simp only[results,h];simp[Result.andThen,h1,h2,hp,hz,asAddr,hl]
structure LD(W:aah)(st:St)(u:aai)(w:aah):Prop where
 fH:aC w W.heap.size 107 (kY st u)
 row:bz w (W.heap.size+1) u st.ax
 below:Below W.heap.size W w
section
variable{W w w':aah}{st st':St}{u u':aai}
theorem LD.start:LD W ⟨0,0,[]⟩ (.slice none 0 0) (W.alloc (.cells (kY ⟨0,0,[]⟩ (.slice none 0 0)) 107)):=⟨aC.new W _ _,bz.nil _ _,bR.alloc nR _⟩
theorem LD.keep(h:LD W st u w)(hb:Below w.heap.size w w'):LD W st u w':=⟨h.fH.aj hb,h.row.below hb,below_2 h.below hb⟩
theorem LD.drew(h:LD W st u w):LD W st u w.drew:=⟨h.fH,h.row,⟨h.below.os,h.below.tape,h.below.output,h.below.size,h.below.block⟩⟩
theorem LD.cells{L:List az}(h:LD W ⟨ck,nx,L⟩ u w):w.cell? ⟨W.heap.size,0,none⟩=some (.int .i64 ck)/\w.cell? ⟨W.heap.size,1,none⟩=some (.int .i64 nx)/\w.cell? ⟨W.heap.size,2,none⟩=some u/\(∀j,w.frozen? ⟨W.heap.size,j,none⟩=false)/\W.heap.size<w.heap.size:=
 ⟨h.fH.cell 0,h.fH.cell 1,h.fH.cell 2,h.fH.frozen,h.fH.lt⟩
theorem LD.put(h:LD W st u w)(st':St){u':aai}(hr:bz w (W.heap.size+1) u' st'.ax):
  LD W st' u' (((w.setCell ⟨W.heap.size,0,none⟩ (.int .i64 st'.clock)).setCell ⟨W.heap.size,1,none⟩ (.int .i64 st'.next)).setCell ⟨W.heap.size,2,none⟩ u')/\w.grownBy (((w.setCell ⟨W.heap.size,0,none⟩ (.int .i64 st'.clock)).setCell ⟨W.heap.size,1,none⟩ (.int .i64 st'.next)).setCell ⟨W.heap.size,2,none⟩ u') (some W.heap.size):=by
 have e1:=h.fH.dD 0 (.int .i64 st'.clock) (cs':=#[.int .i64 st'.clock,.int .i64 st.next,u]) rfl;have e2:=e1.dD 1 (.int .i64 st'.next) (cs':=#[.int .i64 st'.clock,.int .i64 st'.next,u]) rfl;have e3:=e2.dD 2 u' (cs':=kY st' u') rfl;have g1:=cC w W.heap.size ⟨W.heap.size,0,none⟩ rfl (.int .i64 st'.clock);have g2:=ak g1 (p:=⟨W.heap.size,1,none⟩) (.inl rfl) (.int .i64 st'.next);have g3:=ak g2 (p:=⟨W.heap.size,2,none⟩) (.inl rfl) u';refine⟨⟨e3,hr.kept g3 (fun he=>?_),h.below.grown g3 h.below.size (fun _ hj=>by cases hj;exact ahP _)⟩,g3⟩;have:=(hr.lt _ he).1;omega
theorem LD.same(h:LD W st u w):LD W st u (((w.setCell ⟨W.heap.size,0,none⟩ (.int .i64 st.clock)).setCell ⟨W.heap.size,1,none⟩ (.int .i64 st.next)).setCell ⟨W.heap.size,2,none⟩ u):=(h.put st h.row).1
end
theorem kH{W w:aah}{st:St}{u:aai}{a b:Int}{o:Option (Int×Int×St)}(h:LD W st u w)(ho:match o with|some t=>ok=true/\t=(a,b,st)|none=>ok=false)(h4:A.tmps.getD 4 agp=.int .i64 a)(h5:A.tmps.getD 5 agp=.int .i64 b)(h6:A.tmps.getD 6 agp=.pointer (some ⟨W.heap.size,0,none⟩))(h7:A.tmps.getD 7 agp=.bool ok)(hd:A.defers=[]):
  bodyPost prog f54 (Bi W o) ald A w:=
 bodyPost_ret (IX rfl A.tmps w _ _ _ _ _ _ _ h4 h5 h6 h7 h.fH akW rfl kR) hd ⟨a,b,st,u,ok,rfl,h.row.mono (Nat.le_succ _),h.below,ho⟩
structure LN(W0:aah)(L:List BL)(k:Nat)(O:aai)(w:aah):Prop where
 below:Below W0.heap.size W0 w
 row:w.ownsRow W0.heap.size 3 1 O k ((L.take k).map fun x=>.int .i64 (aa x))
 nums:∀j,j<k->jU (L.getD j [])=true
theorem LN.start(W0:aah)(L:List BL):LN W0 L 0 (.slice none 0 0) W0:=⟨Below.refl _ _,akO _ _ _ _,fun _ hj=>absurd hj (ah' _)⟩
theorem LN.call{w:aah}{L:List BL}(h:LN W0 L k O w)(hb:Below w.heap.size w w1):LN W0 L k O w1:=⟨below_2 h.below hb,rM h.row hb,h.nums⟩
theorem LN.next{L:List BL}{o:Obj}(h:LN W0 L k O w1)(hk:k<L.length)(hn:jU (L.getD k [])=true)(hy:y=.int .i64 (aa (L.getD k [])))(ho:w3.ownsRow W0.heap.size 3 1 v' (k+1) ((L.take k).map (fun x=>.int .i64 (aa x))++[y]))(hg:(w1.alloc o).grownBy w3 O.ownBlock):LN W0 L (k+1) v' w3:=by
 have b1:Below W0.heap.size W0 (w1.alloc o):=h.below.alloc h.below.size o;have b2:Below W0.heap.size W0 w3:=b1.grown hg b1.size fun i e=>(h.row.lt i e).1
 refine⟨b2,?_,fun j hj=>?_⟩
 ·have e:(L.take (k+1)).map (fun x=>Value.int .i64 (aa x))=(L.take k).map (fun x=>.int .i64 (aa x))++[y]:=by
   rw[ai6,ag8 hk,akP,hy];simp[agv,hk]
  rw[e];exact ho
 ·rcases af8 j k with h'|h'
  ·exact h.nums j h'
  ·obtain rfl:j=k:=by omega
   exact hn
theorem LN.gN{w:aah}{L:List BL}(h:LN W0 L 5 O w)(hL:L.length=6):∃g cap,O=.slice (some ⟨g,0,none⟩) 5 cap/\5<=cap/\W0.heap.size<=g/\g<w.heap.size/\
  w.cell? ⟨g,0,none⟩=some (.int .i64 (aa (L.getD 0 [])))/\w.cell? ⟨g,1,none⟩=some (.int .i64 (aa (L.getD 1 [])))/\w.cell? ⟨g,2,none⟩=some (.int .i64 (aa (L.getD 2 [])))/\w.cell? ⟨g,3,none⟩=some (.int .i64 (aa (L.getD 3 [])))/\w.cell? ⟨g,4,none⟩=some (.int .i64 (aa (L.getD 4 []))):=by
 have ho:=h.row
 have hc:∀j g cap,O=.slice (some ⟨g,0,none⟩) 5 cap->j<5->w.cell? ⟨g,j,none⟩=some (.int .i64 (aa (L.getD j []))):=by
  rintro j g cap rfl hj;have:=ho.cellAt j oM;rw[this]
  have e:(L.take 5)[j]?=some (L.getD j []):=by
   rw[List.getElem?_take,if_pos hj,akH,ag8 oM];rfl
  rw[List.getElem?_map,e];rfl
 rcases ho.2 with⟨_,h0⟩|⟨g,cap,cur,rfl,hB,hb,hn,hm,mX,ht⟩
 ·exact absurd h0 dC
 ·have aE:g<w.heap.size:=by
   rcases af8 g w.heap.size with h'|h'
   ·exact h'
   ·rw[Array.getElem?_eq_none h']at hb;cases hb
  exact⟨g,cap,rfl,hn,hB,aE,hc 0 g cap rfl oM,hc 1 g cap rfl oM,hc 2 g cap rfl oM,hc 3 g cap rfl oM,hc 4 g cap rfl oM⟩
theorem XR(k:Nat):aI ((k:Int) % 2).toNat=aI k:=by
 unfold aI
 congr 2
 omega
theorem Dq(k:Nat):aI k+21<=90:=by
 unfold aI;omega
theorem La(B sb db:Nat)(D:Dk)(s:St)(v:aai)(n f x:Int)(down:Bool)(W:aah)(h:SD B sb db D s v n f x down W)(hf:D.fits)(k:Nat)(hk:k<2)(l:BL)(b:Bool)(Qp:iA bt (b_ D (aI k))=if b then some l else none)(hl0:b=false->l=[])(MP:l.length<=240)(cT:b=false\/(parts 32 l).length≠6):
  ach prog 54 #[.pointer (some ⟨sb,0,none⟩),.int .i64 k] W (Bi W none):=by
 have HS:=zH h;have H0:Hid (LD W ⟨0,0,[]⟩ (.slice none 0 0) (W.alloc (.cells (kY ⟨0,0,[]⟩ (.slice none 0 0)) 107))):=zH LD.start;have YR:=zH (fun w=>xd (k:Int) w oM oM);rw[XR]at YR;have IG:=Dq k;have EK:=zH (fun w hd=>nU db D (aI k) w hd oM);have EJ:=zH (fun w=>kP (D.blk.getD (aI k) akG) w (by have:=hf (aI k);omega))
 have EJ:Hid (∀w,ach prog 85 #[.string (D.blk.getD (aI k) akG)] w fun e w'=>e=.returned (.tuple #[.string (aq l),.bool b])/\Below w.heap.size w w'):=zH fun w=>by
  have h1:=EJ.O w;have h2:iA bt (D.blk.getD (aI k) akG).data.toList=if b then some l else none:=Qp
  rw[h2]at h1;refine h1.mono ?_;rintro e w' ⟨⟨x2,b2,rfl,h3⟩,hb⟩;rcases b with _|_
  ·obtain⟨rfl,rfl⟩:=h3
   rw[hl0 rfl];exact⟨rfl,hb⟩
  ·obtain⟨rfl,rfl⟩:=h3
   exact⟨rfl,hb⟩
 have AX:=zH (fun w hm=>qU 32 (aq l) w.heap.size w (by rw[cI];omega) hm nR);rw[an]at AX;have hpl:=qN 32 l;generalize parts 32 l=L at*;generalize aq l=tl at*;generalize D.blk.getD (aI k) akG=blk at*;obtain⟨ck,nx,Ls⟩:=s;obtain⟨c0,c1,c2,c3,c4,c5,c6,c7,z,aE⟩:=h.cells;clear h Qp hl0;unfold kY at H0;dsimp only at H0
 go_in
 go_wp2_with fail;refine(YR.O _).mono ?_;rintro e w1 ⟨rfl,rfl⟩;go_wp2_with fail;refine(EK.O _ (HS.O.keep H0.O.below).fM).mono ?_;rintro e w2 ⟨rfl,rfl⟩;go_wp2_with fail;refine(EJ.O _).mono ?_;rintro e w3 ⟨rfl,hb⟩;have H3:=zH (H0.O.keep hb);clear hb;go_wp2_with fail;refine(AX.O _ (HS.O.keep H3.O.below).env.iV).mono ?_;rintro e w4 ⟨v4,rfl,⟨g4,c4',rfl, -⟩,hb⟩;have H4:=zH (H3.O.keep hb);clear hb H3 H0;obtain⟨m0,m1,m2,mz,mlt⟩:=H4.O.cells;rcases cT with rfl|eZ
 ·go_wp2_with fail
  go_region
  go_wp2_with fail;exact kH (LD.same H4.O).drew rfl rfl rfl rfl rfl rfl
 ·have atI:((L.length:Int) != 6)=true:=by simpa using(by omega:¬ (L.length:Int)=6)
  cases b
  all_goals
   go_wp2_with fail;go_region;go_wp2_with fail;exact kH (LD.same H4.O).drew rfl rfl rfl rfl rfl rfl
open Go.Maps Go.WideMaps
noncomputable def fnR(xb:Nat)(v:aai):Option (DataW Unit×List MemPlace):=
 open Classical in
 if v=.nilFunc then some (.lit (.int .i64 (-1)),[])
 else if h:∃n:Nat,v=.func (.func n) #[.pointer (some ⟨xb,0,none⟩)] #[]then some (.lit (.int .i64 ((Classical.choose h:Nat):Int)),[])else none
theorem ZY(xb:Nat):fnR xb .nilFunc=some (.lit (.int .i64 (-1)),[]):=by unfold fnR;rw[if_pos rfl]
theorem ad2(xb n:Nat):fnR xb (.func (.func n) #[.pointer (some ⟨xb,0,none⟩)] #[])=some (.lit (.int .i64 n),[]):=by
 have h:∃m:Nat,(Value.func (.func n) #[.pointer (some ⟨xb,0,none⟩)] #[])=.func (.func m) #[.pointer (some ⟨xb,0,none⟩)] #[]:=⟨n,rfl⟩;unfold fnR;rw[if_neg sP,dif_pos h];have e:=Classical.choose_spec h;have e2:n=Classical.choose h:=by injection e with e1;injection e1
 exact congrArg (fun m:Nat=>some ((DataW.lit (.int .i64 (m:Int)):DataW Unit),([]:List MemPlace))) e2.symm
theorem ZX{xb:Nat}{v:aai}{z:DataW Unit×List MemPlace}(h:fnR xb v=some z):(v=.nilFunc/\z.1=.lit (.int .i64 (-1)))\/∃n:Nat,v=.func (.func n) #[.pointer (some ⟨xb,0,none⟩)] #[]/\z.1=.lit (.int .i64 n):=by
 unfold fnR at h;split at h
 ·rename_i e
  cases h;exact .inl ⟨e,rfl⟩
 ·split at h
  ·rename_i e
   cases h;exact .inr ⟨Classical.choose e,Classical.choose_spec e,rfl⟩
  ·cases h
def xB(P:ag0)(K xb:aat)(w:aah)(b n:Nat)(f:BL->Int):Prop:=
 ∃D:DataW Unit,w.ownsMap P K (fnR xb) b n D/\IsMap D/\∀x:BL,D.atKey (.string x) (.lit (.int .i64 (-1)))=.lit (.int .i64 (f x))
section
variable{P:ag0}{K xb T E:aat}{w w':aah}{b n:Nat}{f:BL->Int}
theorem xB.made(w:aah):xB P K xb (w.alloc (.map #[] 0)) w.heap.size 0 (fun _=> -1):=
 ⟨.map [],World.ownsMap_made w P K _,⟨[],rfl⟩,fun x=>by simp[DataW.atKey]⟩
theorem xB.look(h:xB P K xb w b n f)(ht:P.underlying T=some (.map K E))(hk:P.underlying K=some .string)(hz:(zeroValue E).run P w=.ok .nilFunc w)(x:BL)(hx:x.length<=maxLen):
  ∃v,(Instr.lookup T (.map (some b)) (.string (aq x)) false).run P w=.ok v w/\((v=.nilFunc/\f x= -1)\/∃m:Nat,v=.func (.func m) #[.pointer (some ⟨xb,0,none⟩)] #[]/\f x=m):=by
 obtain⟨D,h1,h2,h3⟩:=h
 have NS:keyOf P K (.string (aq x))=some (.string x):=by
  rw[keyOf_string_mk hk (by rw[aK];exact hx),an]
 obtain⟨v,ps,dI,hv⟩:=h1.lookup (string_keyed hk) ht hz (ZY xb) NS;refine⟨v,dI,?_⟩;have h4:=h3 x;rcases ZX hv with⟨e,hy⟩|⟨m,e,hy⟩
 ·refine .inl ⟨e,?_⟩
  rw[h4]at hy;injection hy with hy
  injection hy
 ·refine .inr ⟨m,e,?_⟩
  rw[h4]at hy;injection hy with hy
  injection hy
theorem xB.put(h:xB P K xb w b n f)(ht:P.underlying T=some (.map K E))(hk:P.underlying K=some .string)(hn:n<maxLen)(x:BL)(hx:x.length<=maxLen)(v:Nat):
  ∃w',(Instr.mapUpdate T (.map (some b)) (.string (aq x)) (.func (.func v) #[.pointer (some ⟨xb,0,none⟩)] #[])).run P w=.ok () w'/\xB P K xb w' b (n+1) (fun y=>if y=x then(v:Int)else f y)/\w.grownBy w' (some b):=by
 obtain⟨D,h1,h2,h3⟩:=h
 have NS:keyOf P K (.string (aq x))=some (.string x):=by
  rw[keyOf_string_mk hk (by rw[aK];exact hx),an]
 obtain⟨w',dI,r1,r2⟩:=h1.update (string_keyed hk) ht hn NS (ad2 xb v);refine⟨w',dI,⟨_,r1,?_,?_⟩,r2⟩
 ·obtain⟨l,rfl⟩:=h2
  exact⟨_,rfl⟩
 ·intro y
  dsimp only
  by_cases e:y=x
  ·subst e
   rw[if_pos rfl,atKey_put_same h2 (by simp[WideAt.IsKeyLit])]
  ·rw[if_neg e,atKey_put_other (by simpa using e)]
   exact h3 y
end
end Go.Proofs.YtjligkmjlenofaaGreatDoor
namespace Go.Proofs
open Go.Proofs.Tryz
open Go.Proofs.YtjligkmjlenofaaGreatDoor(kR oM dC aS kS zH sP sO mL aP nR bR BL)
open Go.Shelf
def D_:Go.Shelf.Ren:=⟨fun|229=>45|n=>n,fun|9=>9|40=>96|31=>22|152=>129|3=>3|0=>0|4=>4|21=>21|154=>131|n=>n,fun|n=>n⟩
theorem Pf:Go.Proofs.Lays.n229 prog D_:=⟨kR,func45.T kS,underlying0,isAgg0,sizeOf0,zeroValue0,underlying3,isAgg3,sizeOf3,zeroValue3,underlying4,isAgg4,sizeOf4,zeroValue4,underlying9,isAgg9,sizeOf9,zeroValue9,underlying21,isAgg21,sizeOf21,zeroValue21,underlying22,isAgg22,sizeOf22,zeroValue22,underlying96,isAgg96,sizeOf96,zeroValue96,underlying129,isAgg129,sizeOf129,zeroValue129,underlying131,isAgg131,sizeOf131,zeroValue131⟩
open Go.RowKit Go.Lib in
theorem tv(g:Nat)(lb:Array aai)(eg:∀args w,(callFunc g args).run prog w=.ok (.enter g args) w)(p:Nat->Bool)(s:ByteArray)(w:aah)(hs:s.size<=4294967296)(hp:PredAt prog g lb encR p w):
 ach prog 45 #[.string s,.func (.func g) #[] lb] w fun e w'=>∃A,e=.returned (.slice (some ⟨A,0,none⟩) (akK p s).length (akK p s).length)/\w.heap.size<=A/\
  w'.ownsRow w.heap.size 9 1 (.slice (some ⟨A,0,none⟩) (akK p s).length (akK p s).length) (akK p s).length ((akK p s).map Value.string)/\Below w.heap.size w w':=Any.strings_FieldsFunc Pf g lb eg p s w hs hp kR kR
end Go.Proofs
namespace Go.Proofs.YtjligkmjlenofaaGreatDoor
open Go.Proofs.Tryz
open Go.RowKit
variable{w:aah}{B:Nat}
def PR{α:Type}(F:Fence)(n:Nat)(P:ag0)(g:Nat)(lb:Array aai)(enc:α->aai)(xs:List α)(T K:aah->aah->Prop)(w:aah):Prop:=
 ∀(l:Nat) (J:List α->aah->Prop) (W:aah),Below w.heap.size w W->(∀pre A B,J pre A->T A B->J pre B)->
  (∀pre x A,J pre A->pre++[x]<+:xs->YieldAt F (n - 1) P l #[enc x] A fun e A'=>e=.returned (.bool true)/\J (pre++[x]) A'/\K A A')->
  J [] W->
  CallsIn F n P g (#[.func (.yield l) #[] #[]]++lb) W fun e W'=>(∃v,e=.returned v)/\J xs W'
def YB{α:Type}(K:aah->aah->Prop)(I:List α->aah->Prop)(xs:List α)(W:aah):Exit->Act->aah->Prop
 | .normal,_,W'=>akZ W W'/\K W W'/\I xs W'
 |_,_,_=>False
def Odd{α:Type}(n:Nat)(I:List α->aah->Prop):Prop:=∀xs W W' l,I xs W->W.grownBy W' (some l)->n<=l->(∃o:Obj,W.heap[l]?=some o/\o.isCells=false)->I xs W'
theorem vM{F:Fence}{n:Nat}{P:ag0}{α:Type}{g:Operand}{ps:Array Tmp}{assign body:Code}{Q:Exit->Act->aah->Prop}{a:Act}(hro:F.round=none)(h1:1<=n){gf:Nat}{lb:Array aai}(hg:a.eval g=.func (.func gf) #[] lb)(hFg:F.fn gf)(eg:∀args w,(callFunc gf args).run P w=.ok (.enter gf args) w){enc:α->aai}{xs:List α}{T K:aah->aah->Prop}(anX:PR F (n - 1) P gf lb enc xs T K w)(Ur:ps.size=1)(hT:∀A B,T A B->akZ A B)(hK:∀A B C,K A B->K B C->K A C)(hKo:∀(W:aah) (l:Nat) (o o':Obj),W.heap[l]?=some o->o.isCells=false->K W (W.putObj l o'))(I:List α->aah->Prop)(hI:Odd w.heap.size I)(hIT:∀pre A B,I pre A->T A B->I pre B)(h0:∀W,W.heap.size=w.heap.size+2->w.grownBy W none->I [] W)(ahx:α->Act)(Z3:∀(l:Nat) (x:α) (W:aah) (K:Act->aah->Prop),K (ahx x) W->
   assign.wpIn (F.inRound l) (n - 1 - 1) P (Exit.then K (fun _ _ _=>False)) {tmps:=(ps.zip #[enc x]).foldl (fun t (p,v)=>t.setIfInBounds p v) a.tmps,defers:=[]} W)(ah8:∀(l:Nat) (pre:List α) (x:α) (W:aah),I pre W->pre++[x]<+:xs->body.wpIn (F.inRound l) (n - 1 - 1) P (YB K I (pre++[x]) W) (ahx x) W)(aik:∀(D:Nat) (W:aah),w.heap.size<=D->I xs W->W.heap[D]?=some (.deferred (some []))->Q .normal {a with defers:={target:=.collected D,args:=#[]}::a.defers} W):
  (Code.rangeFunc g ps assign body).wpIn F n P Q a w:=by
 refine wpIn_rangeFunc ?_;intro fn E1;rw[hro];obtain⟨rec,NV⟩:∃rec:LoopState->Option Code->Loop,rec=fun st pe=>{state:=st,pending:=pe,fn,tmps:=a.tmps,params:=ps,assign,body,defers:=w.heap.size}:=⟨_,rfl⟩
 obtain⟨W1,Eu⟩:∃W1,(w.alloc (.deferred (some []))).alloc (.loop (rec .ready none))=W1:=⟨_,rfl⟩
 have hL1:W1.heap[w.heap.size+1]?=some (.loop (rec .ready none)):=by
  rw[<-Eu];have:=World.alloc_heap_new (w.alloc (.deferred (some []))) (.loop (rec .ready none));rwa[ak_]at this
 have hK1:W1.heap[w.heap.size]?=some (.deferred (some [])):=by
  rw[<-Eu];exact(Below.heap_alloc _ _ _ sP).T (World.alloc_heap_new w _)
 have iS:W1.heap.size=w.heap.size+2:=by rw[<-Eu];simp[ak_]
 have eu:Below w.heap.size w W1:=by
  rw[<-Eu];exact((Below.refl _ w).alloc nR _).alloc sP _
 have hgr:w.grownBy W1 none:=⟨eu.os,eu.tape,eu.output,eu.size,fun k hk _=>eu.block k hk⟩;have hI1:I [] W1:=h0 W1 iS hgr
 refine⟨w.heap.size+1,[{target:=.collected w.heap.size,args:=#[]}],W1,{target:=.fn (.func gf) lb,args:=#[.func (.yield (w.heap.size+1)) #[] #[]]},W1,gf,
  #[.func (.yield (w.heap.size+1)) #[] #[]]++lb,W1,?_,?_,?_,?_,fun _=>h1,?_⟩
 ·rw[<-Eu,NV];exact run_enterLoop_outer _ _ _ _ _
 ·simp only[resolve,hg]
  simp[go_sem]
 ·intro f' IC;simp[Target.leads]at IC;subst IC;exact hFg
 ·simp[invoke,go_sem,eg]
 ·refine(anX (w.heap.size+1)
   (fun pre W=>I pre W/\W.heap[w.heap.size+1]?=some (.loop (rec .ready none))/\W.heap[w.heap.size]?=some (.deferred (some [])))
   W1 eu
   (fun s A B hs ht=>⟨hIT s A B hs.1 ht,(hT A B ht).same _ _ hs.2.1 rfl,(hT A B ht).same _ _ hs.2.2 rfl⟩)
   ?_ ⟨hI1,hL1,hK1⟩).mono ?_
  ·rintro pre x W ⟨hi,hl,hk⟩ hlen
   have aE:w.heap.size+1<W.heap.size:=(akN.1 hl).1;have hy:=run_yield (P:=P) (args:=#[enc x]) hl (by rw[NV];simp[Ur]);rw[NV]at hy;refine⟨fn,_,assign,body,hy,roundIn_of_wpIn E1 (Z3 _ x W _ ⟨_,run_beginRound hl (by rw[NV]),?_⟩)⟩;have Y0:(W.putObj (w.heap.size+1) (.loop {rec .ready none with state:=.busy})).heap[w.heap.size+1]?=some (.loop {rec .ready none with state:=.busy}):=World.putObj_heap_same aE;have Gp:(W.putObj (w.heap.size+1) (.loop {rec .ready none with state:=.busy})).heap[w.heap.size]?=some (.deferred (some [])):=(akJ oM).T hk;have hw2:=hKo W _ _ (.loop {rec .ready none with state:=.busy}) hl rfl;refine wpIn_mono (ah8 _ pre x _ (hI _ _ _ _ hi (akR _ _ _) oM ⟨_,hl,rfl⟩) hlen) ?_;rintro e a3 W3 hp;cases e with
   |normal=>
    (obtain⟨Qn,hkk,hi3⟩:=hp;have hl3:=Qn.same _ _ Y0 rfl;have hr:=run_endRound (P:=P) none hl3;refine⟨_,_,hr,rfl,⟨hI _ _ _ _ hi3 (akR _ _ _) oM ⟨_,hl3,rfl⟩,?_,?_⟩,?_⟩);(·rw[World.putObj_heap_same (akN.1 hl3).1,NV];rfl);(·exact(akJ oM).T (Qn.same _ _ Gp rfl));(·exact hK _ _ _ (hK _ _ _ hw2 hkk) (hKo _ _ _ _ hl3 rfl))
   |ret=>exact hp.elim
   |exit id=>exact hp.elim
   |goto t=>exact hp.elim
   |panic ch=>exact hp.elim
   |outgrown=>exact hp.elim
  ·rintro e W2 ⟨⟨v,rfl⟩,hi,hl,hk⟩
   refine⟨none,_,by have:=run_endLoop (P:=P) hl (by rw[NV];simp);rw[NV]at this;exact this,aik _ _ nR (hI _ _ _ _ hi (akR _ _ _) oM ⟨_,hl,rfl⟩) ?_⟩;exact(akJ oM).T hk
open Go.Sort Go.Lib
attribute [local go_sem] Oper.semAt_some
theorem index_hit{c:UInt8}(b:BL):∀{a:BL},c ∉ a->ae6 (a++c::b) [c]=(a.length:Int)
 |[],_=>by simp[ae6,agm]
 |x::a,ha=>by
  simp only[ab',not_or]at ha;have hp:([c]:BL).isPrefixOf (x::(a++c::b))=false:=by simp[agm,ha.1]
  rw[aaK,ae6,hp,index_hit b ha.2];simp
theorem CN{c:UInt8}:∀{l:BL},c ∉ l->ae6 l [c]= -1
 |[],_=>by simp[ae6]
 |x::l,h=>by
  simp only[ab',not_or]at h;have hp:([c]:BL).isPrefixOf (x::l)=false:=by simp[agm,h.1]
  rw[ae6,hp,CN h.2];simp
def Zw(B:Nat)(w w':aah):Prop:=(∃s,aC w B 9 #[.string s])/\(∃s,aC w' B 9 #[.string s])/\w.grownBy w' (some B)
def XK(B i:Nat):Prop:=i=B\/i=B+1\/i=B+1+1\/i=3
def JM(B:Nat)(w w':aah):Prop:=∀i o,XK B i->w.heap[i]?=some o->o.isCells=true->w'.heap[i]?=some o
theorem OG{a b c:aah}(h:JM B a b)(k:JM B b c):JM B a c:=fun i o hr hi ho=>k i o hr (h i o hr hi ho) ho
theorem XJ(W:aah)(l:Nat)(o o':Obj)(h:W.heap[l]?=some o)(ho:o.isCells=false):JM B W (W.putObj l o'):=fun i p _ hi hp=>by
 refine(akJ ?_).T hi;rintro rfl;rw[h]at hi;cases hi;rw[ho]at hp;cases hp
theorem OH(w w':aah)(h:Zw B w w'):akZ w w':=by
 obtain⟨⟨s,hs⟩,_,hg⟩:=h
 exact KeepsOthers.of_grownBy hg (fun j o hj ho=>by
  cases hj;unfold aC at hs;rw[hs]at ho;cases ho;rfl)
theorem Xj(w:aah)(g:Nat)(p:Addr)(hp:p.block=g)(u:aai):w.grownBy (w.setCell p u) (some g):=ak (dU w (some g)) (.inl hp) u
def ahC(w:aah)(B:Nat):Nat:=match w.cell? ⟨B,0,none⟩with|some (.string s)=>s.size|_=>0
structure tL(B:Nat)(s:ByteArray)(w:aah):Prop where
 s:aC w B 9 #[.string s]
 sep:aC w (B+1) 9 #[.string ⟨#[10]⟩]
 save:aC w (B+1+1) 3 #[.int .i64 0]
 max:gp w
theorem tL.kept{s:ByteArray}{w':aah}(h:tL B s w)(k:JM B w w'):tL B s w':=by
 obtain⟨h1,h2,h3,m,h4⟩:=h;refine⟨k _ _ (.inl rfl) h1 rfl,k _ _ (.inr (.inl rfl)) h2 rfl,k _ _ (.inr (.inr (.inl rfl))) h3 rfl,m,?_⟩;obtain⟨o,ho,hc⟩:=cells_of_cell h4;exact(akU ((k _ o (.inr (.inr (.inr rfl))) ho hc).T ho.symm)).T h4
theorem XM(n B:Nat)(hn:1<=n)(t:ByteArray)(w:aah)(ht:t.size<=100000)(h:tL B t w)(hB:3<B):
  PR Fence.wide n prog 58 #[.pointer (some ⟨B+1,0,none⟩),.pointer (some ⟨B,0,none⟩),.pointer (some ⟨B+1+1,0,none⟩)] (fun x:BL=>.string (aq x)) (parts 10 t.data.toList) (Zw B) (JM B) w:=by
 intro l J W hW hT hY h0;have YX:tL B t W:=⟨h.s.aj hW,h.sep.aj hW,h.save.aj hW,h.max.aj hW⟩;have e1:=YX.sep.cell 0;refine callsIn_of_wp func58 rfl trivial ?_ rfl;simp only[ntmps58,akX,agj,List.length_nil,Nat.reduceAdd,Nat.reduceSub,Array.replicate_succ,Array.replicate_zero,List.push_toArray,List.append_toArray,List.nil_append,aaK]
 gi_wp2
 gi_loopw [7] (fun _ wr=>∃(pre:List BL) (s:ByteArray),J pre wr/\tL B s wr/\s.size<=100000/\parts 10 t.data.toList=pre++parts 10 s.data.toList)
  (fun _ wr=>ahC wr B)
 case atStart=>exact⟨[],t,h0,YX,ht,rfl⟩
 case round=>
  obtain⟨pre,s,hj,hs,iS,hp⟩:=hrel;obtain⟨m,hm⟩:=hs.max;have e0:=hs.s.cell 0;have e1:=hs.sep.cell 0;have e2:=hs.save.cell 0;have ez:=hs.s.frozen 0;have hf:Fence.wide.fn 60:=trivial;have HI:=zH (q_ s ⟨#[10]⟩ m wr oM hm)
  by_cases hc:(10:UInt8)∈s.data.toList
  ·obtain⟨a,b,Ew,ha⟩:=xO hc
   have HX:=zH (show ae6 s.data.toList [10]=(a.length:Int) by rw[Ew];exact index_hit b ha);have hlen:s.size=a.length+(b.length+1):=by rw[<-size_data,Ew];simp
   have Y5:s.extract 0 a.length=aq a:=by
    apply akM;rw[akT];apply Array.toList_inj.1;rw[akV,Ew];simp[aq]
   have hsr:s.extract (a.length+1) (a.length+(b.length+1))=aq b:=by
    apply akM;rw[akT];apply Array.toList_inj.1;rw[akV,Ew,List.extract_eq_take_drop,show a++10::b=(a++[10])++b by simp,List.drop_left' sP,List.take_of_length_le oM];rfl
   (have hpp:parts 10 t.data.toList=(pre++[a])++parts 10 b:=by rw[hp,Ew,rS ha];simp);obtain⟨fn,tmps,assign,body,hy,hR⟩:=hY pre a wr hj ⟨parts 10 b,hpp.symm⟩;have HR:=zH hR;clear hR
   gi_wp2_with (gi_at_call 60;refine(callsIn_wide.2 HI.O).mono ?_;rintro e w' ⟨rfl,hw⟩;obtain rfl:=hw.symm;rw[show(⟨#[10]⟩:ByteArray).data.toList=[10]from rfl,HX.O])
   refine HR.O.mono ?_;rintro e w3 ⟨rfl,hj3,Qn⟩;have hs3:=hs.kept Qn;have e30:=hs3.s.cell 0;have e31:=hs3.sep.cell 0;have ez3:=hs3.s.frozen 0;have zu:B<w3.heap.size:=hs3.s.lt
   gi_wp2
   have E0:aC (w3.setCell ⟨B,0,none⟩ (.string (aq b))) B 9 #[.string (aq b)]:=hs3.s.kX 0 _;have gX:Zw B w3 (w3.setCell ⟨B,0,none⟩ (.string (aq b))):=⟨⟨s,hs3.s⟩,⟨_,E0⟩,Xj w3 B ⟨B,0,none⟩ rfl _⟩;refine⟨⟨pre++[a],aq b,hT _ _ _ hj3 gX,⟨E0,hs3.sep.eO sP _,hs3.save.eO sO _,?_⟩,?_,by rw[an];exact hpp⟩,?_⟩
   ·obtain⟨m3,hm3⟩:=hs3.max
    exact⟨m3,(akU (Below.heap_setCell w3 ⟨B,0,none⟩ _ 3 sO)).T hm3⟩
   ·show b.length<=100000
    omega
   ·unfold ahC
    rw[E0.cell 0,e0];(show(aq b).size<s.size);(show b.length<s.size);omega
  ·have HX:=zH (show ae6 s.data.toList [10]= -1 from CN hc)
   (have hpp:parts 10 t.data.toList=pre++[s.data.toList]:=by rw[hp,lN hc]);obtain⟨fn,tmps,assign,body,hy,hR⟩:=hY pre s.data.toList wr hj ⟨[],by rw[hpp];simp⟩;rw[gC]at hy;have HR:=zH hR;clear hR
   gi_wp2_with (gi_at_call 60;refine(callsIn_wide.2 HI.O).mono ?_;rintro e w' ⟨rfl,hw⟩;obtain rfl:=hw.symm;rw[show(⟨#[10]⟩:ByteArray).data.toList=[10]from rfl,HX.O])
   refine HR.O.mono ?_;rintro e w3 ⟨rfl,hj3,Qn⟩
   gi_wp2
   go_end0;exact⟨⟨_,rfl⟩,by rw[hpp];exact hj3⟩
end Go.Proofs.YtjligkmjlenofaaGreatDoor
