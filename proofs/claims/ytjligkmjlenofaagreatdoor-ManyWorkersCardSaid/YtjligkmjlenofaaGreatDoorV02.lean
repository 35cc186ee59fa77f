/- Part of the proof. -/
import Derived.Lib.ItoaLen
import Derived.Sort.KeysCollected
import Derived.Test.YtjligkmjlenofaaGreatDoorV01
import Derived.Sort.OwnSorted
import Derived.Lib.OwnBridge
import Derived.Shelf.Strings.OnBuilder
import Derived.Shelf.Small.Utf8
import Derived.Shelf.Small.Bits
import Derived.Shelf.Small.Wraps
import Derived.Shelf.Strconv.Itoa3
import Derived.Shelf.Strconv.ErrVar
import Derived.Shelf.Strconv.ErrVarAll
import Derived.Shelf.Strings.Shaped
import Derived.Shelf.Sort.Plain
import Derived.Shelf.Strings.LastIndex
import Derived.Shelf.Strings.Split
import Derived.Shelf.Unicode.DecodeAny
import Derived.Shelf.Strings.BuilderCap
import Derived.Shelf.Slices.Cells
import Derived.Shelf.Slices.In.SortNone
import Derived.Shelf.Strings.SlTrimAscii
import Derived.Shelf.Spec.SearchS
import Derived.Deep.RegionHeld3
import Derived.Test.YtjligkmjlenofaaGreatDoorV0S
open Go.Shelf renaming Ren->aau
open Go.Lib renaming itoa->aax,decFrom->aci,atoiAll->acu,compact->acv,decDigits->acE,compactUpTo_succ->adx,decDigits_one->aef,keeps->aev,splitK->aeG,digitVal->ae0,index->ae6,join->agi,countB->agn,TabIs->agw,trimS->agy,join_cons->agA,byteCells->agB,pow10Tab->agL,cut->agZ
open Go renaming World->aah,Calls->ach,Value->aai,yielded->adf,Oper->aer,mem_ready->af_,execOp->af',getD_set_ne->agf,TypeId->aat,ready_mono->ago,wpOp_step->agz
open Go.Region renaming ready->aaA,wanted->ab9,noSelect->acn,Mode->acK,free->ac4,binds->ad6
open Bool renaming and_eq_true->aaB,or_eq_true->aeu
open List renaming all_eq_true->aaJ,cons_append->aaK,mem_cons->ab',mem_singleton->acg,eq_nil_of_length_eq_zero->acL,eq_nil_or_concat->acM,concat_eq_append->acO,mem_cons_of_mem->acU,mem_append->adh,not_mem_nil->adn,length_map->ads,pairwise_append->adz,all_reverse->aes,replicate->aeB,length_cons->agj,isPrefixOf->agm,getD->agv
open Go.Proofs.Tryz renaming underlying3->abd,underlying4->ab8,zeroValue9->ab_,zeroValue3->ace,zeroValue4->acf,underlying5->acj,zeroValue5->acr,underlying0->acz,sizeOf9->acA,underlying43->acB,sizeOf3->acF,sizeOf4->acG,zeroValue0->acI,zeroValue43->acJ,isAgg9->acP,isAgg3->acW,isAgg4->ac3,underlying39->adj,sizeOf5->adk,zeroValue39->adl,sizeOf43->ado,sizeOf0->adp,isAgg5->ad1,isAgg43->ad7,zeroValue22->ad8,isAgg0->ad9,underlying54->aen,sizeOf39->aeo,zeroValue54->aex,isAgg39->aeF,sizeOf22->aeV,underlying245->aeY,underlying98->aff,underlying20->afo,underlying36->afq,underlying21->afD,zeroValue245->afP,isAgg22->aga,zeroValue98->agb,zeroValue20->agc,zeroValue36->agd,zeroValue21->age,sizeOf54->agk,isAgg54->ags,sizeOf245->agx
open Go.ByteArray renaming toList_eq->ab3
open Go.World renaming block_lt_of_cell?->acC
open Nat renaming pow_succ->adi,pow_le_pow_right->adD,mul_comm->ael,lt_of_lt_of_le->ae7,lt_or_ge->af8,add_comm->agC
open Array renaming getElem?_eq_none->adm
open Go.Sort renaming ahead->aeQ
open Option renaming bind_some->agh
open Go.Act renaming eval->agl,put->agu
open ByteArray renaming size->agq
open Go.IntKind renaming signed->agr,wrap->agE,bits->agF
open Go.Oper renaming wp->agt
namespace Go.Proofs.YtjligkmjlenofaaGreatDoor
open Go.Proofs.Tryz
variable{x n:Int}{l a b:BL}{r T:List BL}{g cap:Nat}
def bZ(x:Int):Bool:=decide (0<=x)&&decide (x<=1099511627776)
theorem aX:bZ x=true↔0<=x/\x<=1099511627776:=by simp[bZ]
def aa(l:BL):Int:=match acu l with
 | .ok v=>v
 |Lib.NumEnd.syntax=>0
 | .range=>Lib.atoiSat l
def jc(l:BL):Bool:=match acu l with
 | .ok _=>true
 |_=>false
theorem Al:∀(a b:BL) (n:Nat),aci n (a++b)=(aci n a).bind fun m=>aci m b
 |[],_,_=>rfl
 |x::a,b,n=>by
  rw[aaK,aci,aci];cases ae0 x with
  |none=>rfl
  |some d=>exact Al a b _
theorem An{d:Nat}(h:d<10):ae0 (UInt8.ofNat (48+d))=some d:=by
 have e:(UInt8.ofNat (48+d)).toNat=48+d:=by
  rw[UInt8.toNat_ofNat'];omega
 unfold ae0;rw[e,if_pos oM]
 congr 1
 omega
theorem tQ:∀(n u:Nat),u<=n->aci 0 (acE u)=some u
 |n,u,hn=>by
  by_cases h:u<10
  ·rw[aef h,aci,An h]
   simp[aci]
  ·rw[acE,dif_neg h,Al]
   cases n with
   |zero=>omega
   |succ n=>
    rw[tQ n (u / 10) oM];simp only[agh];rw[aci];rw[An oM];simp only[aci]
    congr 1
    omega
theorem uj:∀(n u:Nat),u<=n->∀b∈acE u,48<=b.toNat/\b.toNat<=57
 |n,u,hn,b,hb=>by
  have one:∀d,d<10->48<=(UInt8.ofNat (48+d)).toNat/\(UInt8.ofNat (48+d)).toNat<=57:=fun d h=>by
   rw[UInt8.toNat_ofNat'];omega
  by_cases h:u<10
  ·rw[aef h,acg]at hb
   subst hb;exact one u h
  ·rw[acE,dif_neg h,adh,acg]at hb
   rcases hb with hb|rfl
   ·cases n with
    |zero=>omega
    |succ n=>exact uj n (u / 10) oM b hb
   ·exact one _ oM
theorem F6(u:Nat):acE u≠ []:=by
 by_cases h:u<10
 ·rw[aef h];simp
 ·rw[acE,dif_neg h];simp
theorem C5:∀(k u:Nat),u<10 ^ (k+1)->Lib.nDigits u<=k+1
 |0,u,h=>by rw[Lib.nDigits_small (by simpa using h)];exact Nat.le_refl _
 |k+1,u,h=>by
  by_cases hu:u<10
  ·rw[Lib.nDigits_small hu];omega
  ·rw[Lib.nDigits_big hu]
   have:=C5 k (u / 10) (by rw[adi]at h ⊢;rw[adi]at h;omega);omega
theorem Bs(h:bZ x=true):aax x=acE x.toNat:=by
 have:=aX.1 h;unfold aax;rw[if_neg oM]
theorem mF(h:bZ x=true):(aax x).length<=13:=by
 have:=aX.1 h;rw[Bs h,Lib.decDigits_length];exact C5 12 _ oM
theorem aaM(h:bZ x=true):aax x≠ []:=by rw[Bs h];exact F6 _
theorem AA(h:bZ x=true):∀b∈aax x,48<=b.toNat/\b.toNat<=57:=by rw[Bs h];exact uj _ _ nR
theorem lI(h:bZ x=true){c:UInt8}(hc:¬ (48<=c.toNat/\c.toNat<=57)):c ∉ aax x:=fun hm=>hc (AA h c hm)
theorem FX(h:bZ x=true):acu (aax x)=.ok x:=by
 have hx:=aX.1 h;rw[Lib.atoiAll_short _ (by have:=mF h;omega)];have hd:=AA h
 have he:Lib.decNat (aax x)=some x.toNat:=by
  unfold Lib.decNat;rw[Bs h];rw[if_neg (by simpa using F6 _),tQ _ _ nR]
 rcases e:aax x with _|⟨b,r⟩
 ·exact absurd e (aaM h)
 ·have hb:=hd b (by rw[e];simp)
  rw[e]at he
  have h45:(b == 45)=false:=by
   rw[beq_eq_false_iff_ne];rintro rfl;simp at hb
  have h43:(b == 43)=false:=by
   rw[beq_eq_false_iff_ne];rintro rfl;simp at hb
  simp only[Lib.atoi,h45,h43,he];simp[Lib.NumEnd.ofOption];omega
theorem jA(h:bZ x=true):aa (aax x)=x:=by unfold aa;rw[FX h]
theorem wC(h:bZ x=true):jc (aax x)=true:=by unfold jc;rw[FX h]
theorem nG(l:BL): -9223372036854775808<=aa l/\aa l<=9223372036854775807:=by
 unfold aa;rcases e:acu l with _|_|v
 all_goals first|exact Lib.atoiAll_bounds e|exact Lib.atoiSat_bounds l|(simp)
def ji(l:BL):Bool:=jc l&&decide (aax (aa l)=l)&&bZ (aa l)
theorem qL:ji l=true↔bZ (aa l)=true/\aax (aa l)=l:=by
 unfold ji;simp only[aaB,decide_eq_true_eq];constructor
 ·rintro⟨⟨_,h2⟩,h3⟩
  exact⟨h3,h2⟩
 ·rintro⟨h3,h2⟩
  refine⟨⟨?_,h2⟩,h3⟩;rw[<-h2];exact wC h3
def parts(c:UInt8):BL->List BL
 |[]=>[[]]
 |x::l=>if x=c then[]::parts c l else
  match parts c l with
  |[]=>[[x]]
  |w::r=>(x::w)::r
theorem qO(c:UInt8)(l:BL):parts c l≠ []:=by
 cases l with
 |nil=>simp[parts]
 |cons x l=>
  unfold parts;split
  ·simp
  ·split<;>simp
theorem GG(c:UInt8)(l:BL):0<(parts c l).length:=by
 have:=qO c l;rcases h:parts c l with _|⟨a,r⟩
 ·exact absurd h this
 ·simp
theorem nX(c:UInt8)(l:BL):parts c (c::l)=[]::parts c l:=by simp[parts]
theorem lM{c x:UInt8}(h:x≠c){w:BL}(e:parts c l=w::r):parts c (x::l)=(x::w)::r:=by
 rw[parts,if_neg h,e]
theorem lN{c:UInt8}:∀{l:BL},c ∉ l->parts c l=[l]
 |[],_=>rfl
 |x::l,h=>by
  simp only[ab',not_or]at h;rw[lM (Ne.symm h.1) (lN h.2)]
theorem vw{c:UInt8}:∀(a:BL) (b:BL),parts c (a++c::b)=parts c a++parts c b
 |[],b=>by simp[parts]
 |x::a,b=>by
  by_cases h:x=c
  ·subst h
   rw[aaK,nX,nX,vw a b,aaK]
  ·rcases e:parts c a with _|⟨w,r⟩
   ·exact absurd e (qO c a)
   ·rw[lM h e,aaK,lM h (by rw[vw a b,e,aaK]),aaK]
theorem rS{c:UInt8}(h:c ∉ a)(b:BL):parts c (a++c::b)=a::parts c b:=by
 rw[vw,lN h];rfl
def glue(c:UInt8):List BL->BL
 |[]=>[]
 |[w]=>w
 |w::v::r=>w++c::glue c (v::r)
theorem qC(c:UInt8)(w:BL)(h:r≠ []):glue c (w::r)=w++c::glue c r:=by
 cases r with
 |nil=>exact absurd rfl h
 |cons v r=>rfl
theorem Gk(c:UInt8):∀ws:List BL,agi ws [c]=glue c ws
 |[]=>rfl
 |[w]=>Lib.join_one w [c]
 |w::v::r=>by
  have h:=Gk c (v::r);rw[agA]at h;rw[agA,glue,<-h];simp[Lib.joinTail]
theorem wK(c:UInt8):∀l:BL,glue c (parts c l)=l
 |[]=>rfl
 |x::l=>by
  have ih:=wK c l
  by_cases hx:x=c
  ·subst hx
   rw[nX,qC x [] (qO x l),ih];rfl
  ·rcases e:parts c l with _|⟨v,r⟩
   ·exact absurd e (qO c l)
   ·rw[lM hx e]
    rw[e]at ih;cases r with
    |nil=>simp only[glue]at ih ⊢;rw[ih]
    |cons u r=>rw[qC _ _ sP]at ih ⊢;rw[<-ih];rfl
theorem rR(c:UInt8):∀ws:List BL,ws≠ []->(∀w∈ws,c ∉ w)->parts c (glue c ws)=ws
 |[],h,_=>absurd rfl h
 |[w],_,h=>lN (h w sP)
 |w::v::r,_,h=>by
  rw[glue,rS (h w sP),rR c (v::r) sP (fun x hx=>h x (acU _ hx))]
theorem KB(c:UInt8):∀(a b:List BL),a≠ []->b≠ []->glue c (a++b)=glue c a++c::glue c b
 |[],_,h,_=>absurd rfl h
 |[w],b,_,hb=>by rw[List.singleton_append,qC c w hb];rfl
 |w::v::r,b,_,hb=>by
  rw[aaK,qC c w sP,KB c (v::r) b sP hb,qC c w sP];simp
theorem Ot{c:UInt8}:parts c (a++[c])=parts c a++[[]]:=by
 have:=vw (c:=c) a [];simpa[parts]using this
theorem xO{c:UInt8}:∀{l:BL},c∈l->∃a b,l=a++c::b/\c ∉ a
 |[],h=>by simp at h
 |x::l,h=>by
  by_cases hx:x=c
  ·exact⟨[],l,by simp[hx],by simp⟩
  ·have ML:c∈l:=by simpa[Ne.symm hx]using h
   obtain⟨a,b,rfl,ha⟩:=xO ML;exact⟨x::a,b,rfl,by simp[ha,Ne.symm hx]⟩
theorem yA(c:UInt8):∀(n:Nat) (l:BL),l.length<=n->aeG [c] 0 (Lib.count l [c]) l=parts c l
 |0,l,h=>by
  obtain rfl:l=[]:=acL oM;rfl
 |n+1,l,h=>by
  by_cases hc:c∈l
  ·obtain⟨a,b,rfl,ha⟩:=xO hc
   have hi:∀a:BL,c ∉ a->ae6 (a++c::b) [c]=(a.length:Int):=by
    intro a ha
    induction a with
    |nil=>simp[ae6,agm]
    |cons x a ih=>
     (simp only[ab',not_or]at ha;have hp:([c]:BL).isPrefixOf (x::(a++c::b))=false:=by simp[agm,ha.1]);rw[aaK,ae6,hp,ih ha.2];simp
   have V0:=hi a ha;rw[Lib.count_hit sP V0]
   have e1:(a++c::b).drop (a.length+[c].length)=b:=by
    rw[<-List.drop_drop,List.drop_left];rfl
   have e0:∀k,aeG [c] 0 (k+1) (a++c::b)=a::aeG [c] 0 k b:=by
    (intro k;rw[aeG,V0,if_neg sP];have:(a.length:Int).toNat=a.length:=by omega);rw[this,e1];simp
   rw[e1,agC 1,e0,rS ha,yA c n b (by simp at h;omega)]
  ·have hz:Lib.count l [c]=0:=by rw[Lib.count_one];exact List.count_eq_zero.2 hc
   rw[hz,lN hc];rfl
theorem yz(c:UInt8)(s:ByteArray):(Lib.splitB ⟨#[c]⟩ 0 (agn s ⟨#[c]⟩) s).map (·.data.toList)=parts c s.data.toList:=by
 rw[Lib.splitB_data];exact yA c _ _ nR
theorem Im(c:UInt8)(s:ByteArray):agn s ⟨#[c]⟩+1=(parts c s.data.toList).length:=by
 rw[<-yz,ads,Lib.splitB_all ⟨#[c]⟩ nR 0 _ s rfl]
abbrev E6:BL->BL->Bool:=fun x y=>decide (x<=y)
theorem Sf:∀a b c:BL,E6 a b=true->E6 b c=true->E6 a c=true:=fun a b c h1 h2=>by simp only[E6,decide_eq_true_eq]at*;exact List.le_trans h1 h2
theorem Se:∀a b:BL,(E6 a b || E6 b a)=true:=fun a b=>by simp only[E6,aeu,decide_eq_true_eq];exact List.le_total a b
theorem WC(h1:E6 a b=true)(h2:E6 b a=true):a=b:=by
 simp only[E6,decide_eq_true_eq]at h1 h2;exact List.le_antisymm h1 h2
def Up(l:List BL):Prop:=l.Pairwise fun a b=>E6 a b=true/\a≠b
def sF(ws:List BL):List BL:=acv (ws.mergeSort E6)
theorem sM(l:List BL)(x:BL):∀m,m<=l.length->Lib.compactUpTo (l++[x]).toArray m=Lib.compactUpTo l.toArray m
 |0,_=>rfl
 |m+1,h=>by
  rw[adx,adx,sM l x m oM]
  have g:∀j,j<l.length->(l++[x]).toArray[j]! =l.toArray[j]! :=by
   intro j hj;simp[hj,List.getElem?_append_left hj]
  have k:aev (l++[x]).toArray m=aev l.toArray m:=by
   unfold aev;rw[g m oM,g (m - 1) oM]
  rw[k,g m oM]
theorem xH(l:List BL)(x:BL):acv (l++[x])=acv l++if l.getLast?=some x then[]else[x]:=by
 unfold acv;rw[List.length_append,List.length_singleton,adx,sM l x _ nR]
 congr 1
 have e1:(l++[x]).toArray[l.length]! =x:=by simp
 rw[e1]
 have hk:aev (l++[x]).toArray l.length= !decide (l.getLast?=some x):=by
  unfold aev;rw[e1];rcases acM l with rfl|⟨r,y,rfl⟩
  ·rfl
  ·have e2:((r++[y])++[x]).toArray[(r++[y]).length - 1]! =y:=by simp
   simp only[acO]at e2 ⊢;rw[e2];by_cases h:x=y;(·subst h;simp);(·simp[h,Ne.symm h])
 rw[hk]
 by_cases h:l.getLast?=some x<;>simp[h]
theorem uq(w:BL):∀(n:Nat) (l:List BL),l.length=n->(w∈acv l↔w∈l)
 |0,l,h=>by obtain rfl:=acL h;exact Iff.rfl
 |n+1,l,h=>by
  rcases acM l with rfl|⟨r,y,rfl⟩
  ·exact Iff.rfl
  ·rw[acO]at h ⊢
   (have ih:=uq w n r (by simpa using h);rw[xH,adh,adh,ih]);by_cases e:r.getLast?=some y
   ·rw[if_pos e]
    have:y∈r:=List.mem_of_getLast? e;simp only[adn,or_false,acg];exact⟨.inl,fun h=>h.elim id fun e=>e▸this⟩
   ·rw[if_neg e]
theorem Ck:∀(n:Nat) (l:List BL),l.length=n->l.Pairwise (fun a b=>E6 a b=true)->Up (acv l)
 |0,l,h,_=>by obtain rfl:=acL h;exact List.Pairwise.nil
 |n+1,l,h,hp=>by
  rcases acM l with rfl|⟨r,y,rfl⟩
  ·exact List.Pairwise.nil
  ·rw[acO]at h hp ⊢
   (rw[adz]at hp;have ih:=Ck n r (by simpa using h) hp.1;rw[xH]);by_cases e:r.getLast?=some y;(·rw[if_pos e,List.append_nil];exact ih)
   ·rw[if_neg e]
    refine adz.2 ⟨ih,List.pairwise_singleton _ _,?_⟩;intro a ha b hb;rw[acg]at hb;subst hb;have har:a∈r:=(uq a _ r rfl).1 ha;refine⟨hp.2.2 a har b sP,?_⟩;rintro rfl;rcases acM r with rfl|⟨q,z,rfl⟩
    ·simp at har
    ·rw[acO]at har e hp
     have hz:E6 a z=true:=by
      (rcases adh.1 har with h1|h1);(·exact(adz.1 hp.1).2.2 a h1 z sP);(·rw[acg]at h1;subst h1;simp[E6])
     have mY:E6 z a=true:=hp.2.2 z sP a sP;exact e (by rw[WC hz mY];simp)
theorem WO{ws:List BL}{w:BL}:w∈sF ws↔w∈ws:=by
 unfold sF;rw[uq w _ _ rfl,List.mem_mergeSort]
theorem ab2(ws:List BL):Up (sF ws):=Ck _ _ rfl (List.pairwise_mergeSort Sf Se ws)
def Lc(w:BL):Bool:=w.all fun c=>decide (97<=c.toNat)&&decide (c.toNat<=122)
def okW(w:BL):Bool:= !w.isEmpty&&Lc w
def aQ(s:BL):Int:=
 if s=[]then 0 else if (parts 43 s).all okW then(if (sF (parts 43 s)).length<=5/\(sF (parts 43 s)).all (fun w=>decide (w.length<=8))=true then 0 else 4)else 3
def cR(s:BL):List BL:=if s=[]then[]else if aQ s=0 then sF (parts 43 s)else[]
def cr(s:BL):BL:=glue 43 (cR s)
def yO(a b:BL):Bool:=(cR a).all fun w=>(cR b).contains w
theorem IZ(s:BL):aQ s=0\/aQ s=3\/aQ s=4:=by
 unfold aQ;split
 ·exact .inl rfl
 ·split
  ·split
   ·exact .inl rfl
   ·exact .inr (.inr rfl)
  ·exact .inr (.inl rfl)
theorem S6(s:BL):Up (cR s):=by
 unfold cR;split
 ·exact List.Pairwise.nil
 ·split
  ·exact ab2 _
  ·exact List.Pairwise.nil
theorem S5{s w:BL}(h:w∈cR s):okW w=true:=by
 unfold cR at h;split at h
 ·simp at h
 ·rename_i hs
  split at h
  ·rename_i h0
   rw[WO]at h;unfold aQ at h0;rw[if_neg hs]at h0;split at h0
   ·rename_i ha
    exact aaJ.1 ha w h
   ·cases h0
  ·simp at h
theorem nN(s:BL):(cR s).length<=5/\∀w∈cR s,w.length<=8:=by
 unfold cR;split
 ·simp
 ·rename_i hs
  split
  ·rename_i h0
   unfold aQ at h0;rw[if_neg hs]at h0;split at h0
   ·split at h0
    ·rename_i h1
     exact⟨h1.1,fun w hw=>by simpa using aaJ.1 h1.2 w hw⟩
    ·cases h0
   ·cases h0
  ·simp
theorem KC:∀ws:List BL,(∀w∈ws,w.length<=8)->(glue 43 ws).length<=9*ws.length
 |[],_=>by simp[glue]
 |[w],h=>by have:=h w sP;simp[glue];omega
 |w::v::r,h=>by
  have:=h w sP;have ih:=KC (v::r) fun x hx=>h x (acU _ hx)
  rw[glue];simp at ih ⊢;omega
theorem lJ(s:BL):(cr s).length<=45:=by
 have h:=nN s;have:=KC _ h.2;unfold cr;omega
open Go.RowKit Go.Sort
def aq(l:BL):ByteArray:=⟨l.toArray⟩
theorem gC(s:ByteArray):aq s.data.toList=s:=by cases s;simp[aq]
theorem an(l:BL):(aq l).data.toList=l:=by simp[aq]
theorem aK(l:BL):(aq l).size=l.length:=by simp[aq,agq]
theorem size_data(s:ByteArray):s.data.toList.length=s.size:=by cases s;simp[agq]
theorem ab0(h:aq a=aq b):a=b:=by rw[<-an a,h,an]
theorem pO(a b:BL):aq a++aq b=aq (a++b):=by
 apply ByteArray.ext;simp[aq]
def Row(w:aah)(B:Nat)(v:aai)(L:List BL):Prop:=
 ∃g cap,v=.slice (some ⟨g,0,none⟩) L.length cap/\w.ownsRow B 9 1 v L.length (L.map encStr)
section
variable{w w':aah}{B:Nat}{v:aai}{L:List BL}
theorem Row.below(h:Row w B v L)(hb:Below w.heap.size w w'):Row w' B v L:=by
 obtain⟨g,cap,e,ho⟩:=h;exact⟨g,cap,e,ho.kept (fV hb none) (.inr (by rw[e];simp[Value.ownBlock]))⟩
theorem Row.drewN(h:Row w B v L)(n:Nat):Row (w.drewN n) B v L:=h
theorem Row.cell(h:Row w B (.slice (some ⟨g,0,none⟩) L.length cap) L)(j:Nat)(hj:j<L.length):w.cell? ⟨g,j,none⟩=some (.string (aq (L.getD j []))):=by
 obtain⟨g',wF,e,ho⟩:=h;have:=ho.cellAt j oM;rw[this];simp[agv,hj,encStr,aq]
theorem Row.parts(h:Row w B v L):∃g cap,v=.slice (some ⟨g,0,none⟩) L.length cap/\B<=g/\g<w.heap.size/\L.length<=cap/\cap<=maxLen/\Holds encStr w g 0 L.toArray:=by
 obtain⟨g,cap,rfl,ho⟩:=h;obtain⟨g',wF,e,h1,h2,h3,h4,_,h6⟩:=Lib.holds_of_ownsRow ho sP;injection e with e1 _ e3
 injection e1 with e1
 injection e1 with e1
 subst e1;subst e3;exact⟨g,cap,rfl,h1,h2,h3,h4,h6⟩
theorem Row.new(hB:B<=w.heap.size)(hm:L.length<=maxLen):Row (w.alloc (.cells (L.map encStr).toArray 9)) B (.slice (some ⟨w.heap.size,0,none⟩) L.length L.length) L:=by
 refine⟨_,_,rfl,by simp,.inr ⟨w.heap.size,L.length,(L.map encStr).toArray,rfl,hB,heap_alloc_new w _,Nat.le_refl _,hm,by simp,?_⟩⟩;rw[List.take_of_length_le sP]
theorem Row.afS{n:Nat}{os:Array Obj}(h:Row w B (.slice (some ⟨g,0,none⟩) L.length cap) L)(hl:T.length=L.length):
  Row (grow (putRow encStr (aeQ w n) g 0 T.toArray) os) B (.slice (some ⟨g,0,none⟩) L.length cap) T:=by
 obtain⟨g',wF,e,ho⟩:=h;injection e with e1 _ e3
 injection e1 with e1
 injection e1 with e1
 subst e1;subst e3;rcases ho.2 with⟨h0,_⟩|⟨g',wF,cur,hv,ah6,hb,h1,h2,h3,h4⟩
 ·cases h0
 cases hv;refine⟨g,cap,by rw[hl],?_⟩;rw[hl];exact ownsRow_sorted (n:=n) (os:=os) hl ah6 hb h1 h2 h3
theorem Row.cut{q:Nat}(h:Row w B (.slice (some ⟨g,0,none⟩) L.length cap) L)(hl:T.length<=L.length):
  Row (putRow encStr (aeQ w q) g 0 (T++aeB (L.length - T.length) []).toArray) B (.slice (some ⟨g,0,none⟩) T.length cap) T:=by
 obtain⟨g',wF,e,ho⟩:=h;injection e with e1 _ e3
 injection e1 with e1
 injection e1 with e1
 subst e1;subst e3;have hc:=Lib.ownsRow_putRow (q:=q) (k:=T.length) (ys:=T++aeB (L.length - T.length) []) ho sO hl;rw[List.take_left]at hc;exact⟨g,cap,rfl,hc⟩
end
theorem toList_txt(l:BL):(aq l).toList=l:=by
 rw[ab3];simp[aq]
theorem qN(c:UInt8):∀l:BL,(parts c l).length<=l.length+1
 |[]=>by simp[parts]
 |x::l=>by
  have ih:=qN c l
  by_cases hx:x=c
  ·subst hx;rw[nX];simp;omega
  ·rcases e:parts c l with _|⟨v,r⟩
   ·exact absurd e (qO c l)
   ·rw[lM hx e];rw[e]at ih;simp at ih ⊢;omega
theorem bO(c:UInt8):∀(l:BL) (n:Nat),l.length<=n->∀w∈parts c l,w.length<=n
 |[],n,_,w,h=>by simp[parts]at h;simp[h]
 |x::l,n,hn,w,h=>by
  simp at hn
  by_cases hx:x=c
  ·subst hx
   rw[nX]at h;rcases ab'.1 h with rfl|h
   ·simp
   ·exact bO x l n oM w h
  ·rcases e:parts c l with _|⟨v,r⟩
   ·exact absurd e (qO c l)
   ·rw[lM hx e]at h
    rcases ab'.1 h with rfl|h
    ·have:=bO c l l.length nR v (by rw[e];exact List.mem_cons_self)
     simp;omega
    ·exact bO c l n oM w (by rw[e];exact acU _ h)
structure az where
 id:Int
 aL:ByteArray
 aF:ByteArray
 scope:ByteArray
 gen:Int
 made:Int
 used:Int
 request:ByteArray
 dead:Bool
structure Ev where
 kind:Int
 bA:az
 id:Int
 time:Int
def az.zero:az:=⟨0,⟨#[]⟩,⟨#[]⟩,⟨#[]⟩,0,0,0,⟨#[]⟩,false⟩
def Ev.zero:Ev:=⟨0,az.zero,0,0⟩
def acY:ByteArray:=⟨#[97,98,99,100,101,102,103,104,105,106,107,108,109,110,111,112,113,114,115,116,117,118,119,120,121,122,48,49,50,51,52,53,54,55,56,57,45]⟩
def C7(c:UInt8):Bool:=acY.data.toList.contains c
def dM(l:BL):Bool:=decide (1<=l.length)&&decide (l.length<=20)&&l.all C7
theorem wN(h:dM l=true){c:UInt8}(hc:C7 c=false):c ∉ l:=by
 intro hm;unfold dM at h;rw[aaB]at h;have:=aaJ.1 h.2 c hm;rw[hc]at this;cases this
theorem Lf(h:dM l=true):l≠ []:=by
 rintro rfl;cases h
theorem ff(h:dM l=true):l.length<=20:=by
 unfold dM at h;simp only[aaB,decide_eq_true_eq]at h;exact h.1.2
def az.isZero(f:az):Bool:=decide (f.id=0)&&decide (f.aL.data.toList=[])&&decide (f.aF.data.toList=[])&&decide (f.scope.data.toList=[])&&decide (f.gen=0)&&decide (f.made=0)&&decide (f.used=0)&&decide (f.request.data.toList=[])&& !f.dead
theorem xK{s:ByteArray}(h:s.data.toList=[]):s=⟨#[]⟩:=by rw[<-gC s,h];rfl
theorem az.lH{f:az}:f.isZero=true↔f=az.zero:=by
 obtain⟨a,b,c,d,e,g,h,i,j⟩:=f;unfold az.isZero az.zero;simp only[aaB,decide_eq_true_eq,Bool.not_eq_true'];constructor
 ·rintro⟨⟨⟨⟨⟨⟨⟨⟨rfl,h1⟩,h2⟩,h3⟩,rfl⟩,rfl⟩,rfl⟩,h4⟩,rfl⟩
  rw[xK h1,xK h2,xK h3,xK h4]
 ·intro h
  simp only[az.mk.injEq]at h;obtain⟨rfl,rfl,rfl,rfl,rfl,rfl,rfl,rfl,rfl⟩:=h;simp
def Fc(l:BL):Bool:=decide (l=[]) || dM l
def uI(l:BL):Bool:=decide (aQ l=0)&&decide (cr l=l)
def pU(f:az):Bool:=bZ f.id&&bZ f.gen&&bZ f.made&&bZ f.used&&dM f.aL.data.toList&&dM f.aF.data.toList&&Fc f.request.data.toList&&uI f.scope.data.toList
def gG(e:Ev):Bool:=
 if e.kind=1 then decide (e.id=0)&&decide (e.time=0)&&pU e.bA
 else if e.kind=2 then e.bA.isZero&&decide (e.time=0)&&bZ e.id
 else if e.kind=3 then e.bA.isZero&&decide (e.id=0)&&bZ e.time
 else false
def fF(l:BL):BL:=if l=[]then[95]else l
def vQ(b:Bool):BL:=if b then[49]else[48]
def Ko(f:az):List BL:=[aax f.id,f.aL.data.toList,f.aF.data.toList,fF f.scope.data.toList,aax f.gen,aax f.made,aax f.used,fF f.request.data.toList,vQ f.dead]
def Iq(e:Ev):List BL:=if e.kind=2 then[[100],aax e.id]else if e.kind=3 then[[99],aax e.time]else[112]::Ko e.bA
def mq(e:Ev):BL:=glue 32 (Iq e)
theorem Gj{c d:UInt8}(hcd:c≠d):∀{ws:List BL},(∀w∈ws,c ∉ w)->c ∉ glue d ws
 |[],_=>by simp[glue]
 |[w],h=>h w sP
 |w::v::r,h=>by
  rw[glue,adh,ab'];have h1:=h w sP;have h2:=Gj hcd (ws:=v::r) fun x hx=>h x (acU _ hx)
  rintro(h3|h3|h3)
  ·exact h1 h3
  ·exact hcd h3
  ·exact h2 h3
theorem abh{w:BL}(h:okW w=true){c:UInt8}(hc:¬ (97<=c.toNat/\c.toNat<=122)):c ∉ w:=by
 intro hm;simp only[okW,Lc,aaB]at h;have:=aaJ.1 h.2 c hm;simp at this;omega
theorem Dj:uI l=true↔aQ l=0/\cr l=l:=by simp[uI]
theorem AG(h:uI l=true){c:UInt8}(h43:c≠43)(hc:¬ (97<=c.toNat/\c.toNat<=122)):c ∉ l:=by
 rw[<-(Dj.1 h).2];exact Gj h43 fun w hw=>abh (S5 hw) hc
theorem se(h:uI l=true):l.length<=45:=by
 have:=lJ l
 rwa[(Dj.1 h).2]at this
theorem Em{c:UInt8}(hc:c≠95)(h:c ∉ l):c ∉ fF l:=by
 unfold fF;split
 ·simpa using hc
 ·exact h
theorem GO(h:Fc l=true){c:UInt8}(hc:C7 c=false):c ∉ l:=by
 unfold Fc at h;rw[aeu,decide_eq_true_eq]at h;rcases h with rfl|h
 ·simp
 ·exact wN h hc
theorem bV{f:az}(h:pU f=true):bZ f.id=true/\bZ f.gen=true/\bZ f.made=true/\bZ f.used=true/\dM f.aL.data.toList=true/\dM f.aF.data.toList=true/\Fc f.request.data.toList=true/\uI f.scope.data.toList=true:=by
 unfold pU at h;simp only[aaB]at h;obtain⟨⟨⟨⟨⟨⟨⟨h1,h2⟩,h3⟩,h4⟩,h5⟩,h6⟩,h7⟩,h8⟩:=h;exact⟨h1,h2,h3,h4,h5,h6,h7,h8⟩
theorem RI{f:az}(h:pU f=true):∀w∈Ko f,(32:UInt8) ∉ w:=by
 obtain⟨h1,h2,h3,h4,h5,h6,h7,h8⟩:=bV h;intro w hw;simp only[Ko,ab',adn,or_false]at hw;rcases hw with rfl|rfl|rfl|rfl|rfl|rfl|rfl|rfl|rfl
 ·exact lI h1 dC
 ·exact wN h5 dC
 ·exact wN h6 dC
 ·exact Em dC (AG h8 dC dC)
 ·exact lI h2 dC
 ·exact lI h3 dC
 ·exact lI h4 dC
 ·exact Em dC (GO h7 dC)
 ·unfold vQ;split<;>decide
theorem adT(e:Ev):Iq e≠ []:=by
 unfold Iq;split
 ·simp
 ·split<;>simp
theorem jj{e:Ev}(h:gG e=true):(e.kind=1/\e.id=0/\e.time=0/\pU e.bA=true)\/(e.kind=2/\e.bA=az.zero/\e.time=0/\bZ e.id=true)\/(e.kind=3/\e.bA=az.zero/\e.id=0/\bZ e.time=true):=by
 unfold gG at h;split at h
 ·rename_i hk
  simp only[aaB,decide_eq_true_eq]at h;exact .inl ⟨hk,h.1.1,h.1.2,h.2⟩
 ·split at h
  ·rename_i hk
   simp only[aaB,decide_eq_true_eq,az.lH]at h;exact .inr (.inl ⟨hk,h.1.1,h.1.2,h.2⟩)
  ·split at h
   ·rename_i hk
    simp only[aaB,decide_eq_true_eq,az.lH]at h;exact .inr (.inr ⟨hk,h.1.1,h.1.2,h.2⟩)
   ·cases h
theorem Kj{e:Ev}(h:e.kind=1):Iq e=[112]::Ko e.bA:=by
 unfold Iq;rw[h,if_neg dC,if_neg dC]
theorem Kk{e:Ev}(h:e.kind=2):Iq e=[[100],aax e.id]:=by
 unfold Iq;rw[if_pos h]
theorem Ga{e:Ev}(h:e.kind=3):Iq e=[[99],aax e.time]:=by
 unfold Iq;rw[h,if_neg dC,if_pos rfl]
theorem Vu{e:Ev}(h:gG e=true):∀w∈Iq e,(32:UInt8) ∉ w:=by
 intro w hw;rcases jj h with⟨hk,_,_,hf⟩|⟨hk,_,_,hn⟩|⟨hk,_,_,hn⟩
 ·rw[Kj hk,ab']at hw
  rcases hw with rfl|hw
  ·decide
  ·exact RI hf w hw
 ·rw[Kk hk]at hw
  simp only[ab',adn,or_false]at hw;rcases hw with rfl|rfl
  ·decide
  ·exact lI hn dC
 ·rw[Ga hk]at hw
  simp only[ab',adn,or_false]at hw;rcases hw with rfl|rfl
  ·decide
  ·exact lI hn dC
theorem GF{e:Ev}(h:gG e=true):parts 32 (mq e)=Iq e:=rR 32 _ (adT e) (Vu h)
theorem P8{e:Ev}(h:gG e=true):mq e=l↔Iq e=parts 32 l:=by
 constructor
 ·rintro rfl
  exact(GF h).symm
 ·intro he
  unfold mq;rw[he,wK]
def xp(l:BL):BL:=if l=[95]then[]else l
def mW:List BL->Ev
 |[_,a,b,c,d,e,f,g,h,i]=>⟨1,⟨aa a,aq b,aq c,aq (xp d),aa e,aa f,aa g,aq (xp h),decide (i=[49])⟩,0,0⟩
 |[x,a]=>if x=[100]then⟨2,az.zero,aa a,0⟩else⟨3,az.zero,0,aa a⟩
 |_=>Ev.zero
def kK(l:BL):Bool:=gG (mW (parts 32 l))&&decide (Iq (mW (parts 32 l))=parts 32 l)
def jM(l:BL):Ev:=if kK l then mW (parts 32 l)else Ev.zero
theorem GM:kK l=true↔gG (mW (parts 32 l))=true/\mq (mW (parts 32 l))=l:=by
 unfold kK;rw[aaB,decide_eq_true_eq];constructor
 ·rintro⟨h1,h2⟩;exact⟨h1,(P8 h1).2 h2⟩
 ·rintro⟨h1,h2⟩;exact⟨h1,(P8 h1).1 h2⟩
abbrev Rd:=List BL×Bool
def bI:Rd->BL
 |([],_)=>[]
 |(x::_,_)=>x
def dJ:Rd->Rd
 |([],_)=>([],true)
 |(_::r,b)=>(r,b)
def aZ(l:BL):Bool:=jc l&&decide (aax (aa l)=l)
def oW(s:Rd):Int:=aa (bI s)
def bS(s:Rd):Rd:=((dJ s).1,(dJ s).2 || !aZ (bI s))
def nC(s:Rd):BL:=xp (bI s)
def aW(s:Rd):Rd:=((dJ s).1,(dJ s).2 || decide (bI s=[]))
def NA(s:Rd):az:=
 let s1:=bS s;let s2:=aW s1;let s3:=aW s2;let s4:=aW s3;let s5:=bS s4;let s6:=bS s5;let s7:=bS s6;let s8:=aW s7
 ⟨oW s,aq (nC s1),aq (nC s2),aq (nC s3),oW s4,oW s5,oW s6,aq (nC s7),decide (bI s8=[49])⟩
def Km(s:Rd):Rd:=
 let s8:=aW (bS (bS (bS (aW (aW (aW (bS s)))))))
 ((dJ s8).1,(dJ s8).2 || (!decide (bI s8=[48])&& !decide (bI s8=[49])))
def fE(s:Rd):Ev×Rd:=
 if bI s=[112]then(⟨1,NA (dJ s),0,0⟩,Km (dJ s))
 else if bI s=[100]then(⟨2,az.zero,oW (dJ s),0⟩,bS (dJ s))
 else if bI s=[99]then(⟨3,az.zero,0,oW (dJ s)⟩,bS (dJ s))
 else(Ev.zero,((dJ s).1,true))
def iK(s:Rd):Bool:= !(fE s).2.2&&decide ((fE s).2.1=[])&&gG (fE s).1
theorem Vt:gG Ev.zero=false:=by decide
theorem Bl{f:az}:gG ⟨1,f,0,0⟩=pU f:=by simp[gG]
theorem P7:gG ⟨2,az.zero,n,0⟩=bZ n:=by
 have:=(az.lH (f:=az.zero)).2 rfl;simp[gG,this]
theorem F9:gG ⟨3,az.zero,0,n⟩=bZ n:=by
 have:=(az.lH (f:=az.zero)).2 rfl;simp[gG,this]
theorem yf(h:bZ (aa l)=true):aZ l=decide (aax (aa l)=l):=by
 unfold aZ
 by_cases e:aax (aa l)=l
 ·have:jc l=true:=by rw[<-e];exact wC h
  rw[this,Bool.true_and]
 ·simp[e]
theorem Lm:(bZ (aa l)&&aZ l)=(bZ (aa l)&&decide (aax (aa l)=l)):=by
 cases h:bZ (aa l)
 ·rfl
 ·rw[yf h]
theorem C6:dM (xp l)=dM l:=by
 unfold xp;split
 ·rename_i h
  subst h
  decide
 ·rfl
structure alb(w:aah)(B g cap:Nat)(l:BL):Prop where
 base:B<=g
 lt:g<w.heap.size
 le:l.length<=cap
 max:cap<=maxLen
 cells:∀j,j<cap->(w.cell? ⟨g,j,none⟩).isSome=true/\w.frozen? ⟨g,j,none⟩=false
 bytes:∀j (h:j<l.length),w.cell? ⟨g,j,none⟩=some (.int .u8 (l[j]).toNat)
def BS(w:aah)(B:Nat)(v:aai)(l:BL):Prop:=∃g cap,v=.slice (some ⟨g,0,none⟩) l.length cap/\alb w B g cap l
def NN:BL:=[48,49,50,51,52,53,54,55,56,57,97,98,99,100,101,102]
def Ui(d:Nat):UInt8:=NN.getD d 0
def pZ:Nat->Nat->BL
 |0,_=>[]
 |k+1,n=>pZ k (n / 16)++[Ui (n % 16)]
theorem iJ(k n:Nat):(pZ k n).length=k:=by
 induction k generalizing n with
 |zero=>rfl
 |succ k ih=>simp[pZ,ih]
theorem Gn(k n:Nat):pZ (k+1) n=Ui (n / 16 ^ k % 16)::pZ k n:=by
 induction k generalizing n with
 |zero=>simp[pZ]
 |succ k ih=>
  rw[pZ,ih]
  conv=>rhs;rw[pZ]
  rw[aaK,Nat.div_div_eq_div_mul,adi,ael 16]
theorem VX(k n i:Nat)(h:i<k):(pZ k n)[i]?=some (Ui (n / 16 ^ (k - 1 - i) % 16)):=by
 induction k generalizing i with
 |zero=>omega
 |succ k ih=>
  rw[Gn];cases i with
  |zero=>simp
  |succ i=>rw[List.getElem?_cons_succ,ih i oM,show k+1 - 1 - (i+1)=k - 1 - i from by omega]
theorem ahv(x:Nat)(h:x<18446744073709551616):bits .and .u64 (x:Int) 15=((x % 16:Nat):Int):=by
 have h1:=u64_and_nat x 15 h oM;rw[show((15:Nat):Int)=15 from rfl]at h1;rw[h1];have h2:x&&& 15=x % 16:=Nat.and_two_pow_sub_one_eq_mod x 4;rw[h2]
theorem ajH(i:Nat):16 ^ i=2 ^ (4*i):=by rw[Nat.pow_mul]
def jQ(l:BL):Nat:=l.foldr (fun b acc=>b.toNat+256*acc) 0
theorem Af:jQ []=0:=rfl
theorem sH(b:UInt8)(l:BL):jQ (b::l)=b.toNat+256*jQ l:=rfl
theorem Mx(l:BL):jQ l<256 ^ l.length:=by
 induction l with
 |nil=>simp[jQ]
 |cons b l ih=>
  have hb:=b.toNat_lt;rw[sH,agj,adi];omega
theorem Jn(l r:BL):jQ (l++r)=jQ l+256 ^ l.length*jQ r:=by
 induction l with
 |nil=>simp[Af]
 |cons b l ih=>
  rw[aaK,sH,sH,ih,agj,adi,Nat.mul_add,<-Nat.mul_assoc,ael 256 (256 ^ l.length)];omega
theorem Pp(l:BL)(b:UInt8):jQ (l++[b])=jQ l+256 ^ l.length*b.toNat:=by
 rw[Jn];simp[sH,Af]
theorem sY(l:BL)(i:Nat)(h:i<l.length):jQ (l.take (i+1))=jQ (l.take i)+256 ^ i*(l[i]).toNat:=by
 rw[List.take_succ_eq_append_getElem h,Pp,List.length_take,Nat.min_eq_left (Nat.le_of_lt h)]
theorem Dd(i:Nat):256 ^ i=2 ^ (8*i):=by rw[Nat.pow_mul]
theorem Lr(m b i:Nat)(hm:m<256 ^ i):m |||(b*256 ^ i)=m+256 ^ i*b:=by
 rw[Dd]at*;rw[Nat.or_comm,ael b,<-Nat.two_pow_add_eq_or_of_lt hm,agC]
theorem Xp(t m:Nat)(hm:m<2 ^ 56):t*2 ^ 56 |||m=t*2 ^ 56+m:=by
 rw[ael,Nat.two_pow_add_eq_or_of_lt hm]
def Ph(n m:Nat):Nat:=(n % 256)*2 ^ 56+m
theorem MA(n:Nat)(h:n<18446744073709551616):IntKind.u64.wrap (n:Int)=(n:Int):=by
 simp[agE,agF,agr];omega
theorem abj(m:Nat)(b:UInt8)(i:Nat)(hi:i<8)(hm:m<256 ^ i):
  bits .or .u64 (m:Int) (IntKind.u64.wrap ((b.toNat:Int)*2 ^ (8*i)))=((m+256 ^ i*b.toNat:Nat):Int):=by
 have hb:=b.toNat_lt;have hp:(256:Nat) ^ i<=256 ^ 7:=adD oM oM;have hbp:b.toNat*256 ^ i<18446744073709551616:=ae7 (Nat.mul_lt_mul_of_lt_of_le hb hp oM) dC
 have e2:IntKind.u64.wrap ((b.toNat:Int)*2 ^ (8*i))=((b.toNat*256 ^ i:Nat):Int):=by
  rw[Dd];have e3:((b.toNat:Int)*2 ^ (8*i))=((b.toNat*2 ^ (8*i):Nat):Int):=by simp
  rw[e3];rw[Dd]at hbp;exact MA _ oM
 rw[e2,u64_or_nat _ _ oM hbp,Lr m b.toNat i hm]
theorem Lt(t m:Nat)(b:UInt8)(i:Nat)(ht:t<256)(hi:i<7)(hm:m<256 ^ i):
  bits .or .u64 ((t*2 ^ 56+m:Nat):Int) (IntKind.u64.wrap ((b.toNat:Int)*2 ^ (8*i)))=((t*2 ^ 56+(m+256 ^ i*b.toNat):Nat):Int):=by
 have hb:=b.toNat_lt;have hp:(256:Nat) ^ i<=256 ^ 6:=adD oM oM;have hq:(256:Nat) ^ (i+1)<=256 ^ 7:=adD oM oM;have hbp:b.toNat*256 ^ i<2 ^ 56:=ae7 (Nat.mul_lt_mul_of_lt_of_le hb hp oM) dC;have hm2:m<2 ^ 56:=by omega
 have hs:m+256 ^ i*b.toNat<2 ^ 56:=by
  have h1:m+256 ^ i*b.toNat<256 ^ (i+1):=by
   rw[adi];have h2:256 ^ i*b.toNat<=256 ^ i*255:=Nat.mul_le_mul_left _ oM;omega
  omega
 have e2:IntKind.u64.wrap ((b.toNat:Int)*2 ^ (8*i))=((b.toNat*256 ^ i:Nat):Int):=by
  rw[Dd];have e3:((b.toNat:Int)*2 ^ (8*i))=((b.toNat*2 ^ (8*i):Nat):Int):=by simp
  rw[e3];rw[Dd]at hbp;exact MA _ oM
 rw[e2,u64_or_nat _ _ oM oM,<-Xp t m hm2,Nat.or_assoc,Lr m b.toNat i hm,Xp t _ hs]
theorem TU(n:Nat):IntKind.u64.wrap ((n:Int)*72057594037927936)=(((n % 256)*2 ^ 56:Nat):Int):=by
 simp[agE,agF,agr];omega
theorem YD(n:Nat):IntKind.u64.wrap ((n:Int)*72057594037927936)=((Ph n (jQ []):Nat):Int):=by
 rw[TU];unfold Ph;rw[Af,Nat.add_zero]
theorem YC(n m:Nat)(b:UInt8)(i:Nat)(hi:i<7)(hm:m<256 ^ i):
  bits .or .u64 ((Ph n m:Nat):Int) (IntKind.u64.wrap ((b.toNat:Int)*2 ^ (8*i)))=((Ph n (m+256 ^ i*b.toNat):Nat):Int):=
 Lt (n % 256) m b i (Nat.mod_lt _ oM) hi hm
def cJ(n:Int):aai:=if n=0 then .nilIface else .iface 30 (.int .i64 n)
end Go.Proofs.YtjligkmjlenofaaGreatDoor
namespace Go.Proofs
open Go.Proofs.Tryz
open Go.Proofs.YtjligkmjlenofaaGreatDoor(kR oM dC aS kS zH sP sO mL aP nR bR BL)
open Go.Shelf
def uU:aau:=⟨fun|169=>16|n=>n,fun|70=>53|9=>9|0=>0|72=>56|37=>54|127=>98|3=>3|5=>5|n=>n,fun|n=>n⟩
theorem Pc:Go.Proofs.Lays.n169 prog uU:=⟨kR,func16.T kS,acz,ad9,adp,acI,abd,acW,acF,ace,underlying9,acP,acA,ab_,aen,ags,agk,aex,underlying53,isAgg53,sizeOf53,zeroValue53,underlying56,isAgg56,sizeOf56,zeroValue56,aff,isAgg98,sizeOf98,agb⟩
theorem uS:Builder.Extra prog uU:={
 sizeBuilder:=kR
 liesBuilder:=kR
 t5:=acj
 a5:=ad1
 z5:=adk
 v5:=acr
 infoByte:=kR
 cellsByte:=kR
 sizeByte:=kR
 neB5:=by decide}
def uT:aau:=⟨fun|156=>104|165=>150|166=>14|169=>16|240=>42|241=>187|276=>62|277=>208|n=>n,fun|31=>22|9=>9|3=>3|4=>4|0=>0|20=>20|72=>56|76=>61|70=>53|37=>54|75=>24|127=>98|164=>66|5=>5|80=>63|n=>n,fun|n=>n⟩
theorem D7:Go.Proofs.Lays.n156 prog uT:=⟨kR,func104.T kS,func150.T kS,func14.T kS,func16.T kS,func42.T kS,func187.T kS,func62.T kS,func208.T kS,acz,ad9,adp,acI,abd,acW,acF,ace,ab8,ac3,acG,acf,underlying9,acP,acA,ab_,afo,isAgg20,sizeOf20,agc,underlying22,aga,aeV,ad8,aen,ags,agk,aex,underlying53,isAgg53,sizeOf53,zeroValue53,underlying56,isAgg56,sizeOf56,zeroValue56,underlying24,isAgg24,sizeOf24,zeroValue24,underlying61,isAgg61,sizeOf61,zeroValue61,aff,isAgg98,sizeOf98,agb,underlying66,isAgg66,sizeOf66,zeroValue66⟩
theorem mO:Builder.Extra prog uT:={
 sizeBuilder:=kR
 liesBuilder:=kR
 t5:=acj
 a5:=ad1
 z5:=adk
 v5:=acr
 infoByte:=kR
 cellsByte:=kR
 sizeByte:=kR
 neB5:=by decide}
open Go.RowKit in
theorem uW(a:Option Addr)(c:Nat)(sep:ByteArray)(w:aah):
 ach prog 104 #[.slice a 0 c,.string sep] w fun e w'=>e=.returned (.string ⟨#[]⟩)/\w'=w:=Any.strings_Join_none D7 mO a c sep w
open Go.RowKit in
theorem sX(bk o c:Nat)(xs:List ByteArray)(sep:ByteArray)(w:aah)(pY:∀(j:Nat) x,xs[j]?=some x->w.cell? ⟨bk,o+j,none⟩=some (.string x))(E0:bk<w.heap.size)(hN:xs.length<=140737488355328)(A6:xs.length<=c)(hlen:(agi (xs.map (·.data.toList)) sep.data.toList).length<=140737488355328):
 ach prog 104 #[.slice (some ⟨bk,o,none⟩) xs.length c,.string sep] w fun e w'=>e=.returned (.string ⟨(agi (xs.map (·.data.toList)) sep.data.toList).toArray⟩)/\Below w.heap.size w w':=Any.strings_Join D7 mO bk o c xs sep w pY E0 hN A6 hlen
def Yt:aau:=⟨fun|231=>209|n=>n,fun|9=>9|5=>5|3=>3|4=>4|n=>n,fun|n=>n⟩
def Ym:aau:=⟨fun|160=>188|232=>210|231=>209|227=>211|234=>213|233=>212|236=>215|235=>214|228=>224|271=>226|151=>225|197=>59|120=>238|152=>237|260=>97|137=>244|119=>245|224=>143|225=>142|217=>141|266=>180|n=>n,fun|9=>9|4=>4|3=>3|5=>5|117=>272|116=>271|0=>0|124=>275|21=>21|105=>124|46=>43|119=>199|139=>202|138=>201|n=>n,fun|3=>1|4=>2|n=>n⟩
def Yp:aau:=⟨fun|214=>156|n=>n,fun|4=>4|9=>9|n=>n,fun|n=>n⟩
def D3:aau:=⟨fun|121=>111|214=>156|n=>n,fun|4=>4|9=>9|n=>n,fun|n=>n⟩
theorem O8:Go.Proofs.Lays.n121 prog D3:=⟨kR,func111.T kS,func156.T kS,ab8,ac3,acG,acf,underlying9,acP,acA,ab_⟩
open Go.RowKit in
theorem tu(b:Bool)(w:aah):
 ach prog 111 #[.bool b] w fun e w'=>e=.returned (.string ⟨(Lib.formatBool b).toArray⟩)/\w'=w:=Any.strconv_FormatBool O8 b w
open Go.RowKit in
theorem qZ(B b:Nat)(l:BL)(w:aah)(h:Lib.IsBuilderF 56 5 B b (agB l) w)(hBw:B<=w.heap.size):
 ach prog 16 #[.pointer (some ⟨b,0,none⟩)] w fun e w'=>e=.returned (.string ⟨l.toArray⟩)/\(Lib.IsBuilderF 56 5 B b (agB l) w'/\Below B w w'/\Lib.OthersKept 5 (some b) w w'):=Any.Builder_String_any_k Pc uS B b l w h hBw
def Yn:aau:=⟨fun|172=>53|244=>81|245=>82|247=>121|279=>122|280=>123|281=>124|282=>125|287=>167|316=>168|171=>44|205=>169|321=>199|322=>200|243=>63|246=>99|283=>145|284=>146|285=>147|286=>148|129=>183|317=>182|318=>184|319=>185|320=>186|337=>206|338=>207|n=>n,fun|9=>9|3=>3|75=>24|76=>61|4=>4|5=>5|167=>171|37=>54|0=>0|85=>172|2=>2|168=>174|53=>36|175=>223|46=>43|210=>226|127=>98|145=>263|143=>261|21=>21|171=>203|173=>206|212=>248|51=>39|20=>20|213=>249|232=>280|233=>281|80=>63|n=>n,fun|15=>4|16=>5|17=>6|18=>7|19=>8|n=>n⟩
def Ut:aau:=⟨fun|246=>99|283=>145|284=>146|285=>147|286=>148|129=>183|317=>182|318=>184|319=>185|320=>186|337=>206|338=>207|n=>n,fun|2=>2|3=>3|9=>9|4=>4|171=>203|0=>0|53=>36|37=>54|5=>5|173=>206|212=>248|51=>39|20=>20|213=>249|46=>43|232=>280|233=>281|n=>n,fun|17=>6|18=>7|19=>8|n=>n⟩
def Us:aau:=⟨fun|243=>63|246=>99|283=>145|284=>146|285=>147|286=>148|129=>183|317=>182|318=>184|319=>185|320=>186|337=>206|338=>207|n=>n,fun|3=>3|9=>9|2=>2|4=>4|171=>203|0=>0|53=>36|37=>54|5=>5|173=>206|212=>248|51=>39|20=>20|213=>249|46=>43|232=>280|233=>281|n=>n,fun|17=>6|18=>7|19=>8|n=>n⟩
def Bg:aau:=⟨fun|171=>44|243=>63|246=>99|283=>145|284=>146|285=>147|286=>148|129=>183|317=>182|318=>184|319=>185|320=>186|337=>206|338=>207|n=>n,fun|3=>3|9=>9|2=>2|4=>4|171=>203|0=>0|53=>36|37=>54|5=>5|173=>206|212=>248|51=>39|20=>20|213=>249|46=>43|232=>280|233=>281|n=>n,fun|17=>6|18=>7|19=>8|n=>n⟩
theorem Ml:Go.Proofs.LaysM.n171 prog Bg:={
 mixed:=kR
 f129:=func183.T kS
 f171:=func44.T kS
 f243:=func63.T kS
 f246:=func99.T kS
 f283:=func145.T kS
 f284:=func146.T kS
 f285:=func147.T kS
 f286:=func148.T kS
 f317:=func182.T kS
 f318:=func184.T kS
 f319:=func185.T kS
 f320:=func186.T kS
 f337:=func206.T kS
 f338:=func207.T kS
 t0:=acz
 a0:=ad9
 z0:=adp
 v0:=acI
 t2:=underlying2
 a2:=isAgg2
 z2:=sizeOf2
 v2:=zeroValue2
 t3:=abd
 a3:=acW
 z3:=acF
 v3:=ace
 t4:=ab8
 a4:=ac3
 z4:=acG
 v4:=acf
 t5:=acj
 a5:=ad1
 z5:=adk
 v5:=acr
 t9:=underlying9
 a9:=acP
 z9:=acA
 v9:=ab_
 t20:=afo
 a20:=isAgg20
 z20:=sizeOf20
 v20:=agc
 t37:=aen
 a37:=ags
 z37:=agk
 v37:=aex
 t46:=acB
 a46:=ad7
 z46:=ado
 v46:=acJ
 t51:=adj
 a51:=aeF
 z51:=aeo
 v51:=adl
 t53:=afq
 a53:=isAgg36
 z53:=sizeOf36
 v53:=agd
 t171:=underlying203
 a171:=isAgg203
 z171:=sizeOf203
 v171:=zeroValue203
 t173:=underlying206
 a173:=isAgg206
 z173:=sizeOf206
 v173:=zeroValue206
 t212:=underlying248
 a212:=isAgg248
 z212:=sizeOf248
 v212:=zeroValue248
 t213:=underlying249
 a213:=isAgg249
 z213:=sizeOf249
 t232:=underlying280
 a232:=isAgg280
 z232:=sizeOf280
 v232:=zeroValue280
 t233:=underlying281
 a233:=isAgg281
 z233:=sizeOf281
 v233:=zeroValue281
 g17:=kR
 g18:=kR
 g19:=kR
 i0:=kR
 i2:=kR
 i3:=kR
 i4:=kR
 i5:=kR
 i9:=kR
 i20:=kR
 i37:=kR
 i46:=kR
 i51:=kR
 i53:=kR
 i171:=kR
 i173:=kR
 i212:=kR
 i232:=kR
 i233:=kR
 m17:=kR
 m18:=kR
 m19:=by kernel_rfl}
open Go.RowKit Go.Sort Go.Lib in
theorem nk(n:Int)(h0: -9223372036854775808<=n)(h1:n<=9223372036854775807)(w:aah)(an7:agw prog w "internal/strconv.uint64pow10" .u64 agL):
 ach prog 44 #[.int .i64 n] w fun e w'=>e=.returned (.string ⟨(aax n).toArray⟩)/\∃k os,w'=grow (w.drewN k) os:=Any.strconv_Itoa Ml n h0 h1 w an7
def Bf:aau:=⟨fun|172=>53|244=>81|245=>82|247=>121|279=>122|280=>123|281=>124|282=>125|287=>167|316=>168|171=>44|205=>169|321=>199|322=>200|243=>63|246=>99|283=>145|284=>146|285=>147|286=>148|129=>183|317=>182|318=>184|319=>185|320=>186|337=>206|338=>207|n=>n,fun|9=>9|3=>3|75=>24|76=>61|4=>4|5=>5|167=>171|37=>54|0=>0|85=>172|2=>2|168=>174|53=>36|175=>223|46=>43|210=>226|127=>98|145=>263|143=>261|21=>21|171=>203|173=>206|212=>248|51=>39|20=>20|213=>249|232=>280|233=>281|80=>63|n=>n,fun|15=>4|16=>5|17=>6|18=>7|19=>8|n=>n⟩
theorem uV:Go.Proofs.LaysC.n172 prog Bf:={
 mixed:=kR
 f129:=func183.T kS
 f171:=func44.T kS
 f172:=func53.T kS
 f205:=func169.T kS
 f243:=func63.T kS
 f244:=func81.T kS
 f245:=func82.T kS
 f246:=func99.T kS
 f247:=func121.T kS
 f279:=func122.T kS
 f280:=func123.T kS
 f281:=func124.T kS
 f282:=func125.T kS
 f283:=func145.T kS
 f284:=func146.T kS
 f285:=func147.T kS
 f286:=func148.T kS
 f287:=func167.T kS
 f316:=func168.T kS
 f317:=func182.T kS
 f318:=func184.T kS
 f319:=func185.T kS
 f320:=func186.T kS
 f321:=func199.T kS
 f322:=func200.T kS
 f337:=func206.T kS
 f338:=func207.T kS
 t0:=acz
 a0:=ad9
 z0:=adp
 v0:=acI
 t2:=underlying2
 a2:=isAgg2
 z2:=sizeOf2
 v2:=zeroValue2
 t3:=abd
 a3:=acW
 z3:=acF
 v3:=ace
 t4:=ab8
 a4:=ac3
 z4:=acG
 v4:=acf
 t5:=acj
 a5:=ad1
 z5:=adk
 v5:=acr
 t9:=underlying9
 a9:=acP
 z9:=acA
 v9:=ab_
 t20:=afo
 a20:=isAgg20
 z20:=sizeOf20
 v20:=agc
 t21:=afD
 a21:=isAgg21
 z21:=sizeOf21
 v21:=age
 t37:=aen
 a37:=ags
 z37:=agk
 v37:=aex
 t46:=acB
 a46:=ad7
 z46:=ado
 v46:=acJ
 t51:=adj
 a51:=aeF
 z51:=aeo
 v51:=adl
 t53:=afq
 a53:=isAgg36
 z53:=sizeOf36
 v53:=agd
 t75:=underlying24
 a75:=isAgg24
 z75:=sizeOf24
 v75:=zeroValue24
 t76:=underlying61
 a76:=isAgg61
 z76:=sizeOf61
 v76:=zeroValue61
 t85:=underlying172
 a85:=isAgg172
 z85:=sizeOf172
 v85:=zeroValue172
 t127:=aff
 a127:=isAgg98
 z127:=sizeOf98
 v127:=agb
 t143:=underlying261
 a143:=isAgg261
 z143:=sizeOf261
 v143:=zeroValue261
 t145:=underlying263
 a145:=isAgg263
 z145:=sizeOf263
 v145:=zeroValue263
 t167:=underlying171
 a167:=isAgg171
 z167:=sizeOf171
 v167:=zeroValue171
 t168:=underlying174
 a168:=isAgg174
 z168:=sizeOf174
 v168:=zeroValue174
 t171:=underlying203
 a171:=isAgg203
 z171:=sizeOf203
 v171:=zeroValue203
 t173:=underlying206
 a173:=isAgg206
 z173:=sizeOf206
 v173:=zeroValue206
 t175:=underlying223
 a175:=isAgg223
 z175:=sizeOf223
 v175:=zeroValue223
 t210:=underlying226
 a210:=isAgg226
 z210:=sizeOf226
 v210:=zeroValue226
 t212:=underlying248
 a212:=isAgg248
 z212:=sizeOf248
 v212:=zeroValue248
 t213:=underlying249
 a213:=isAgg249
 z213:=sizeOf249
 t232:=underlying280
 a232:=isAgg280
 z232:=sizeOf280
 v232:=zeroValue280
 t233:=underlying281
 a233:=isAgg281
 z233:=sizeOf281
 v233:=zeroValue281
 g15:=kR
 g16:=kR
 g17:=kR
 g18:=kR
 g19:=kR
 t80:=underlying63
 a80:=isAgg63
 z80:=sizeOf63
 v80:=zeroValue63
 i0:=kR
 i2:=kR
 i3:=kR
 i4:=kR
 i5:=kR
 i9:=kR
 i20:=kR
 i21:=kR
 i37:=kR
 i46:=kR
 i51:=kR
 i53:=kR
 i75:=kR
 i76:=kR
 i80:=kR
 i85:=kR
 i127:=kR
 i143:=kR
 i145:=kR
 i167:=kR
 i168:=kR
 i171:=kR
 i173:=kR
 i175:=kR
 i210:=kR
 i212:=kR
 i232:=kR
 i233:=kR
 m15:=kR
 m16:=kR
 m17:=kR
 m18:=kR
 m19:=kR
 c0:=kR
 c2:=kR
 c3:=kR
 c4:=kR
 c5:=kR
 c9:=kR
 c20:=kR
 c21:=kR
 c37:=kR
 c46:=kR
 c51:=kR
 c53:=kR
 c75:=kR
 c76:=kR
 c80:=kR
 c85:=kR
 c127:=kR
 c143:=kR
 c145:=kR
 c167:=kR
 c168:=kR
 c171:=kR
 c173:=kR
 c175:=kR
 c210:=kR
 c212:=kR
 c213:=kR
 c232:=kR
 c233:=by kernel_rfl}
open Go.RowKit in
theorem xf(s:ByteArray)(aaw:s.size<=9223372036854775806)(v:Int)(h:acu s.data.toList=.ok v)(w:aah):
 ach prog 53 #[.string s] w fun e w'=>e=.returned (.tuple #[.int .i64 v,.nilIface])/\(w'=w\/∃t,w'=Lib.bytesWorld w 5 t):=Any.strconv_Atoi_ok uV s aaw v h w
open Go.RowKit in
theorem sD(s:ByteArray)(aeM:s.size<=281474976710656)(h:acu s.data.toList=Lib.NumEnd.syntax)(ev:aai)(w:aah)(hv:w.cell? ⟨4,0,none⟩=some ev)(yT:ev=.nilIface\/∃te pe,ev=.iface te pe):
 ach prog 53 #[.string s] w fun e w'=>∃N,e=.returned (.tuple #[.int .i64 (0),.iface 174 (.pointer (some ⟨N,0,none⟩))])/\w.heap.size<=N/\w'.heap[N]?=some (.cells #[.string ⟨#[65,116,111,105]⟩,.string s,ev] 226 (0,0))/\Below w.heap.size w w':=Any.strconv_Atoi_syntax uV s aeM h ev w hv yT
open Go.RowKit in
theorem tq(s:ByteArray)(aeM:s.size<=281474976710656)(h:acu s.data.toList=.range)(ev:aai)(w:aah)(hv:w.cell? ⟨5,0,none⟩=some ev)(yT:ev=.nilIface\/∃te pe,ev=.iface te pe):
 ach prog 53 #[.string s] w fun e w'=>∃N,e=.returned (.tuple #[.int .i64 (Lib.atoiSat s.data.toList),.iface 174 (.pointer (some ⟨N,0,none⟩))])/\w.heap.size<=N/\w'.heap[N]?=some (.cells #[.string ⟨#[65,116,111,105]⟩,.string s,ev] 226 (0,0))/\Below w.heap.size w w':=Any.strconv_Atoi_range uV s aeM h ev w hv yT
def Yq:aau:=⟨fun|219=>98|217=>141|225=>142|224=>143|267=>144|266=>180|314=>181|n=>n,fun|9=>9|3=>3|4=>4|5=>5|46=>43|146=>245|51=>39|n=>n,fun|1=>3|n=>n⟩
def D4:aau:=⟨fun|143=>60|219=>98|217=>141|225=>142|224=>143|267=>144|266=>180|314=>181|n=>n,fun|9=>9|3=>3|4=>4|5=>5|46=>43|146=>245|51=>39|n=>n,fun|1=>3|n=>n⟩
theorem O9:Go.Proofs.Lays.n143 prog D4:=⟨kR,func60.T kS,func141.T kS,func98.T kS,func143.T kS,func142.T kS,func180.T kS,func144.T kS,func181.T kS,abd,acW,acF,ace,ab8,ac3,acG,acf,acj,ad1,adk,acr,underlying9,acP,acA,ab_,acB,ad7,ado,acJ,adj,aeF,aeo,adl,aeY,isAgg245,agx,afP,by kernel_rfl⟩
open Go.RowKit Go.Lib in
theorem q_(s sub:ByteArray)(m:Int)(w:aah)(hs:s.size<4294967281)(hm:w.cell? ⟨3,0,none⟩=some (.int .i64 m)):
 ach prog 60 #[.string s,.string sub] w fun e w'=>e=.returned (.int .i64 (ae6 s.data.toList sub.data.toList))/\w'=w:=Any.strings_Index O9 s sub m w hs hm
def D5:aau:=⟨fun|145=>89|220=>134|219=>98|217=>141|225=>142|224=>143|267=>144|266=>180|314=>181|n=>n,fun|9=>9|4=>4|59=>143|3=>3|5=>5|46=>43|146=>245|51=>39|n=>n,fun|1=>3|n=>n⟩
theorem O_:Go.Proofs.Lays.n145 prog D5:=⟨kR,func89.T kS,func141.T kS,func98.T kS,func134.T kS,func143.T kS,func142.T kS,func180.T kS,func144.T kS,func181.T kS,abd,acW,acF,ace,ab8,ac3,acG,acf,acj,ad1,adk,acr,underlying9,acP,acA,ab_,acB,ad7,ado,acJ,adj,aeF,aeo,adl,underlying143,isAgg143,sizeOf143,zeroValue143,aeY,isAgg245,agx,afP,by kernel_rfl⟩
open Go.RowKit Go.Lib in
theorem Ea(s sep:ByteArray)(m:Int)(w:aah)(hs:s.size<4294967281)(hm:w.cell? ⟨3,0,none⟩=some (.int .i64 m)):
 ach prog 89 #[.string s,.string sep] w fun e w'=>e=.returned (.tuple #[.string ⟨(agZ s.data.toList sep.data.toList).1.toArray⟩,.string ⟨(agZ s.data.toList sep.data.toList).2.1.toArray⟩,.bool (agZ s.data.toList sep.data.toList).2.2])/\∃n,w'=w.drewN n:=Any.strings_Cut O_ s sep m w hs hm
def D8:aau:=⟨fun|190=>191|125=>217|258=>216|128=>235|129=>183|302=>227|303=>228|304=>229|305=>230|306=>231|307=>232|308=>221|309=>233|310=>234|333=>239|329=>240|330=>241|334=>242|335=>243|336=>236|344=>246|n=>n,fun|31=>22|9=>9|3=>3|46=>43|0=>0|51=>39|53=>36|4=>4|183=>286|182=>285|131=>146|5=>5|218=>291|222=>294|228=>296|229=>297|n=>n,fun|n=>n⟩
theorem Pd:Go.Proofs.Lays.n190 prog D8:=⟨kR,func217.T kS,func235.T kS,func183.T kS,func191.T kS,func216.T kS,func227.T kS,func228.T kS,func229.T kS,func230.T kS,func231.T kS,func232.T kS,func221.T kS,func233.T kS,func234.T kS,func240.T kS,func241.T kS,func239.T kS,func242.T kS,func243.T kS,func236.T kS,func246.T kS,acz,ad9,adp,acI,abd,acW,acF,ace,ab8,ac3,acG,acf,acj,ad1,adk,acr,underlying9,acP,acA,ab_,underlying22,aga,aeV,ad8,acB,ad7,ado,acJ,adj,aeF,aeo,adl,afq,isAgg36,sizeOf36,agd,underlying146,isAgg146,sizeOf146,zeroValue146,underlying285,isAgg285,sizeOf285,zeroValue285,underlying286,isAgg286,sizeOf286,zeroValue286,underlying291,isAgg291,sizeOf291,zeroValue291,underlying294,isAgg294,sizeOf294,zeroValue294,underlying296,isAgg296,sizeOf296,zeroValue296,underlying297,isAgg297,sizeOf297,zeroValue297⟩
open Go.Sort Go.RowKit in
theorem tj(blk off cap:Nat)(ss:List BL)(w:aah)(hH:Holds encStr w blk off ss.toArray)(vK:blk<w.heap.size)(iS:ss.length<4611686018427387904):
 ach prog 191 #[.slice (some ⟨blk,off,none⟩) ss.length cap] w fun e w'=>
  e=.returned (.tuple #[])/\∃n os,w'=grow (putRow encStr (aeQ w n) blk off (ss.mergeSort fun x y=>decide (x<=y)).toArray) os:=Any.slices_Sort_string Pd blk off cap ss w hH vK iS
def D6:aau:=⟨fun|149=>126|222=>170|n=>n,fun|9=>9|5=>5|3=>3|4=>4|n=>n,fun|n=>n⟩
theorem Pb:Go.Proofs.Lays.n149 prog D6:=⟨kR,func126.T kS,func170.T kS,abd,acW,acF,ace,ab8,ac3,acG,acf,acj,ad1,adk,acr,underlying9,acP,acA,ab_⟩
open Go.RowKit Go.Lib in
theorem jr(s:ByteArray)(c:Int)(hs:s.size<4611686018427387904)(w:aah):
 ach prog 126 #[.string s,.int .u8 c] w fun e w'=>e=.returned (.int .i64 (Lib.lastIndexByte s c))/\w'=w:=Any.strings_LastIndexByte Pb s c hs w
def Yo:aau:=⟨fun|207=>61|n=>n,fun|9=>9|4=>4|3=>3|n=>n,fun|n=>n⟩
def DY:aau:=⟨fun|102=>13|209=>41|207=>61|n=>n,fun|9=>9|4=>4|3=>3|n=>n,fun|n=>n⟩
theorem O7:Go.Proofs.Lays.n102 prog DY:=⟨kR,func13.T kS,func61.T kS,func41.T kS,abd,acW,acF,ace,ab8,ac3,acG,acf,underlying9,acP,acA,ab_⟩
open Go.RowKit Go.Lib in
theorem tC(s p:ByteArray)(w:aah)(hs:s.size<=9223372036854775807):
 ach prog 13 #[.string s,.string p] w fun e w'=>e=.returned (.string ⟨(Lib.trimSuffix s.data.toList p.data.toList).toArray⟩)/\w'=w:=Any.strings_TrimSuffix O7 s p w hs
def Yr:aau:=⟨fun|221=>127|268=>171|138=>172|143=>60|195=>201|197=>59|218=>202|219=>98|260=>97|217=>141|225=>142|224=>143|267=>144|266=>180|314=>181|n=>n,fun|9=>9|3=>3|31=>22|4=>4|0=>0|105=>124|21=>21|5=>5|46=>43|119=>199|139=>202|138=>201|146=>245|51=>39|n=>n,fun|1=>3|3=>1|4=>2|n=>n⟩
def Yl:aau:=⟨fun|146=>86|221=>127|268=>171|138=>172|143=>60|195=>201|197=>59|218=>202|219=>98|260=>97|217=>141|225=>142|224=>143|267=>144|266=>180|314=>181|n=>n,fun|9=>9|31=>22|3=>3|4=>4|0=>0|105=>124|21=>21|5=>5|46=>43|119=>199|139=>202|138=>201|146=>245|51=>39|n=>n,fun|1=>3|3=>1|4=>2|n=>n⟩
def D9:aau:=⟨fun|194=>192|n=>n,fun|31=>22|9=>9|3=>3|4=>4|0=>0|n=>n,fun|n=>n⟩
theorem Pe:Go.Proofs.Lays.n194 prog D9:=⟨kR,func192.T kS,acz,ad9,adp,acI,abd,acW,acF,ace,ab8,ac3,acG,acf,underlying9,acP,acA,ab_,underlying22,aga,aeV,ad8⟩
open Go.RowKit Go.Lib Go.Sort in
theorem qm(blk off cap:Nat)(zs:List BL)(w:aah)(hH:Holds encStr w blk off zs.toArray)(iS:zs.length<=9223372036854775807)(A6:zs.length<=cap):
 ach prog 192 #[.slice (some ⟨blk,off,none⟩) zs.length cap] w fun e w'=>e=.returned (.slice (some ⟨blk,off,none⟩) (acv zs).length cap)/\∃q,w'=putRow encStr (aeQ w q) blk off (acv zs++aeB (zs.length - (acv zs).length) []).toArray:=Any.slices_Compact_string Pe blk off cap zs w hH iS A6
def FC:aau:=⟨fun|160=>188|232=>210|231=>209|227=>211|234=>213|233=>212|236=>215|235=>214|228=>224|271=>226|151=>225|197=>59|120=>238|152=>237|260=>97|137=>244|119=>245|224=>143|225=>142|217=>141|266=>180|n=>n,fun|9=>9|4=>4|3=>3|5=>5|117=>272|116=>271|0=>0|124=>275|21=>21|105=>124|46=>43|119=>199|139=>202|138=>201|n=>n,fun|3=>1|4=>2|n=>n⟩
theorem Tz:Go.Proofs.Lays.n160 prog FC:=⟨kR,func245.T kS,func238.T kS,func244.T kS,func225.T kS,func237.T kS,func188.T kS,func59.T kS,func141.T kS,func143.T kS,func142.T kS,func211.T kS,func224.T kS,func209.T kS,func210.T kS,func212.T kS,func213.T kS,func214.T kS,func215.T kS,func97.T kS,func180.T kS,func226.T kS,acz,ad9,adp,acI,abd,acW,acF,ace,ab8,ac3,acG,acf,acj,ad1,adk,acr,underlying9,acP,acA,ab_,afD,isAgg21,sizeOf21,age,acB,ad7,ado,acJ,underlying124,isAgg124,sizeOf124,zeroValue124,underlying271,isAgg271,sizeOf271,underlying272,isAgg272,sizeOf272,zeroValue272,underlying199,isAgg199,sizeOf199,underlying275,isAgg275,sizeOf275,zeroValue275,underlying201,isAgg201,sizeOf201,zeroValue201,underlying202,isAgg202,sizeOf202,zeroValue202,kR,by kernel_rfl⟩
def Mk:aau:=⟨fun|26=>196|33=>221|34=>222|38=>236|n=>n,fun|24=>22|9=>9|3=>3|4=>4|40=>43|0=>0|n=>n,fun|n=>n⟩
theorem QY:Go.Proofs.Lays2.n26 prog Mk:={
 mixed:=kR
 f26:=func196.T kS
 f33:=func221.T kS
 f34:=func222.T kS
 f38:=func236.T kS
 t0:=acz
 a0:=ad9
 z0:=adp
 v0:=acI
 t3:=abd
 a3:=acW
 z3:=acF
 v3:=ace
 t4:=ab8
 a4:=ac3
 z4:=acG
 v4:=acf
 t9:=underlying9
 a9:=acP
 z9:=acA
 v9:=ab_
 t24:=underlying22
 a24:=aga
 z24:=aeV
 v24:=ad8
 t40:=acB
 a40:=ad7
 z40:=ado
 v40:=acJ}
def FA:aau:=⟨fun|146=>86|221=>127|268=>171|138=>172|143=>60|195=>201|197=>59|218=>202|219=>98|260=>97|217=>141|225=>142|224=>143|267=>144|266=>180|314=>181|n=>n,fun|9=>9|31=>22|3=>3|4=>4|0=>0|105=>124|21=>21|5=>5|46=>43|119=>199|139=>202|138=>201|146=>245|51=>39|n=>n,fun|1=>3|3=>1|4=>2|n=>n⟩
theorem Ab:Go.Proofs.LaysM.n146 prog FA:={
 mixed:=kR
 f138:=func172.T kS
 f143:=func60.T kS
 f146:=func86.T kS
 f195:=func201.T kS
 f197:=func59.T kS
 f217:=func141.T kS
 f218:=func202.T kS
 f219:=func98.T kS
 f221:=func127.T kS
 f224:=func143.T kS
 f225:=func142.T kS
 f260:=func97.T kS
 f266:=func180.T kS
 f267:=func144.T kS
 f268:=func171.T kS
 f314:=func181.T kS
 t0:=acz
 a0:=ad9
 z0:=adp
 v0:=acI
 t3:=abd
 a3:=acW
 z3:=acF
 v3:=ace
 t4:=ab8
 a4:=ac3
 z4:=acG
 v4:=acf
 t5:=acj
 a5:=ad1
 z5:=adk
 v5:=acr
 t9:=underlying9
 a9:=acP
 z9:=acA
 v9:=ab_
 t21:=afD
 a21:=isAgg21
 z21:=sizeOf21
 v21:=age
 t31:=underlying22
 a31:=aga
 z31:=aeV
 v31:=ad8
 t46:=acB
 a46:=ad7
 z46:=ado
 v46:=acJ
 t51:=adj
 a51:=aeF
 z51:=aeo
 v51:=adl
 t105:=underlying124
 a105:=isAgg124
 z105:=sizeOf124
 v105:=zeroValue124
 t119:=underlying199
 a119:=isAgg199
 z119:=sizeOf199
 t138:=underlying201
 a138:=isAgg201
 z138:=sizeOf201
 v138:=zeroValue201
 t139:=underlying202
 a139:=isAgg202
 z139:=sizeOf202
 v139:=zeroValue202
 t146:=aeY
 a146:=isAgg245
 z146:=agx
 v146:=afP
 g1:=kR
 g3:=kR
 g4:=kR
 i0:=kR
 i3:=kR
 i4:=kR
 i5:=kR
 i9:=kR
 i21:=kR
 i31:=kR
 i46:=kR
 i51:=kR
 i105:=kR
 i138:=kR
 i139:=kR
 i146:=kR
 m1:=kR
 s1_3:=fun w h=>Go.Proofs.cell_of_shapedOpen_int (zero:=#[.int .i64 0]) (t:=3) h (of_decide_eq_true kR) kR rfl kR kR abd
 m3:=kR
 m4:=by kernel_rfl}
end Go.Proofs
namespace Go.Proofs.YtjligkmjlenofaaGreatDoor
open Go.Proofs.Tryz
open Go.RowKit Go.Sort
variable{B g i fuel d:Nat}{v:aai}{L:List BL}{w W w':aah}{s l:BL}{cl su sc re:ByteArray}{ge ma us:Int}{de:Bool}{oi:aer}{a:Act}{A:Array aai}{ds:List Deferred}
theorem xZ(c:UInt8)(h:Row w B v L)(hL:L.length<=1000000)(hlen:(glue c L).length<=1000000):
  ach prog 104 #[v,.string ⟨#[c]⟩] w fun e w'=>e=.returned (.string (aq (glue c L)))/\Below w.heap.size w w':=by
 obtain⟨g,cap,rfl,hg,aE,hn,hm,hH⟩:=h.parts
 have hd:(L.map aq).map (·.data.toList)=L:=by
  rw[List.map_map];exact(List.map_congr_left fun x _=>an x).T (List.map_id L)
 have hj:agi ((L.map aq).map (·.data.toList)) (⟨#[c]⟩:ByteArray).data.toList=glue c L:=by rw[hd];exact Gk c L
 have:=sX g 0 cap (L.map aq) ⟨#[c]⟩ w (fun j x hx=>by
  rw[List.getElem?_map]at hx;rcases e:L[j]? with _|y
  ·rw[e]at hx;cases hx
  ·rw[e]at hx
   have hj:=(List.getElem?_eq_some_iff.1 e).1;have hc:=(hH j (by simpa using hj)).1;rw[hc];simp at hx;subst hx;simp[encStr,aq,List.getElem!_eq_getElem?_getD,e]) aE (by rw[ads];omega) (by rw[ads];omega) (by rw[hj];omega)
 rw[ads,hj]at this;exact this
def oB(l:BL):Bool:=decide (8<l.length)
def eG(w:aah)(B:Nat)(v:aai)(L:List BL):Prop:=(v=.slice none 0 0/\L=[])\/Row w B v L
theorem AH(h0:s≠ [])(h:(parts 43 s).all okW=false):aQ s=3:=by
 unfold aQ;rw[if_neg h0,h];rfl
theorem yp(h0:s≠ [])(h:(parts 43 s).all okW=true)(h2:5<(sF (parts 43 s)).length\/(sF (parts 43 s)).any oB=true):aQ s=4:=by
 unfold aQ;rw[if_neg h0,if_pos h,if_neg];rintro⟨h3,h4⟩;rcases h2 with h2|h2
 ·omega
 ·obtain⟨x,hx,hl⟩:=List.any_eq_true.1 h2
  have:=aaJ.1 h4 x hx;simp[oB]at hl this;omega
theorem LV(h0:s≠ [])(h:(parts 43 s).all okW=true)(h2:¬ 5<(sF (parts 43 s)).length)(h3:(sF (parts 43 s)).any oB=false):aQ s=0/\cR s=sF (parts 43 s):=by
 have h1:aQ s=0:=by
  unfold aQ;rw[if_neg h0,if_pos h,if_pos];refine⟨by omega,?_⟩;rw[aaJ];intro x hx;have:=List.any_eq_false.1 h3 x hx;simp[oB]at this;simpa using this
 exact⟨h1,by unfold cR;rw[if_neg h0,if_pos h1]⟩
theorem oE(h:aQ s≠0):cR s=[]:=by
 unfold cR;split
 ·rfl
 ·first|rfl|rw[if_neg h]
theorem join_nil(w:aah)(c:Nat)(sep:ByteArray):ach prog 104 #[.slice none 0 c,.string sep] w fun e w'=>e=.returned (.string ⟨#[]⟩)/\w'=w:=uW none c sep w
theorem NZ(h:eG w B v (cR s)):ach prog 104 #[v,.string ⟨#[43]⟩] w fun e w'=>e=.returned (.string (aq (cr s)))/\Below w.heap.size w w':=by
 rcases h with⟨rfl,h⟩|h
 ·refine(join_nil w 0 _).mono ?_
  rintro e w' ⟨rfl,rfl⟩;unfold cr;rw[h];exact⟨rfl,Below.refl _ _⟩
 ·have h1:=nN s
  have h2:=lJ s;exact xZ 43 h oM (by show(cr s).length<=_;omega)
theorem XU(h:Row w B v L)(hB:Below B W w)(hs:B<=w.heap.size)(hL:L.length<=1000000):
  ach prog 191 #[v] w fun e w'=>e=.returned (.tuple #[])/\Row w' B v (L.mergeSort E6)/\Below B W w':=by
 obtain⟨g,cap,rfl,hg,aE,hn,hm,hH⟩:=h.parts;refine(tj g 0 cap L w hH aE oM).mono ?_;rintro e w' ⟨rfl,n,os,rfl⟩;refine⟨rfl,h.afS (List.length_mergeSort L),?_⟩;exact hB.grown (grownBy_sorted _) hs (fun j hj=>by cases hj;exact hg)
def gp(w:aah):Prop:=∃m,w.cell? ⟨3,0,none⟩=some (.int .i64 m)
theorem gp.lt(h:gp w):3<w.heap.size:=by
 obtain⟨m,hm⟩:=h;exact acC w _ hm
theorem gp.below(h:gp w)(hb:Below B w w')(hB:3<B):gp w':=by
 obtain⟨m,hm⟩:=h;exact⟨m,(hb.cell (p:=⟨3,0,none⟩) hB).T hm⟩
theorem gp.aj(h:gp w)(hb:Below w.heap.size w w'):gp w':=h.below hb h.lt
theorem qU(c:UInt8)(s:ByteArray)(B:Nat)(w:aah)(hs:s.size<=1000000)(hm:gp w)(hB:B<=w.heap.size):
  ach prog 86 #[.string s,.string ⟨#[c]⟩] w fun e w'=>∃v,e=.returned v/\Row w' B v (parts c s.data.toList)/\Below w.heap.size w w':=by
 obtain⟨m,hm⟩:=hm;refine(Any.strings_Split {Ab with} Ab.i9 s ⟨#[c]⟩ m w oM hm nR).mono ?_;rintro e w' ⟨rfl,rfl⟩
 have e1:(Lib.splitB ⟨#[c]⟩ 0 (agn s ⟨#[c]⟩) s).map Value.string=(parts c s.data.toList).map encStr:=by
  rw[<-yz,Lib.map_encStr]
 have e2:=Im c s;have hl:=qN c s.data.toList;rw[size_data]at hl;refine⟨_,rfl,?_,bR.alloc nR _⟩;rw[e1,e2];exact Row.new hB mL
theorem pS{p:UInt8->Bool}:l.dropWhile p=[]↔l.all p=true:=by
 induction l with
 |nil=>simp
 |cons x l ih=>
  by_cases h:p x=true
  ·rw[List.dropWhile_cons_of_pos h,ih];simp[h]
  ·rw[List.dropWhile_cons_of_neg h];simp[h]
theorem Cr{p:UInt8->Bool}(h:(l.dropWhile p).all p=true):l.dropWhile p=[]:=by
 rcases e:l.dropWhile p with _|⟨x,r⟩
 ·rfl
 ·exfalso
  have h2:=aaJ.1 h x (by rw[e];simp);have h3:=List.head?_dropWhile_not p l;rw[e]at h3;simp[h2]at h3
theorem Hj(l cs:BL):agy l cs=[]↔l.all (cs.contains ·)=true:=by
 unfold agy Lib.trimRightS Lib.trimLeftS;rw[pS,aes];constructor
 ·intro h
  have:=pS.1 (Cr h)
  rwa[aes]at this
 ·intro h
  rw[pS.2 (by rw[aes];exact h)];rfl
def BV(e:Ending):Prop:=∃y:ByteArray,e=.returned (.string y)/\y.toList.isEmpty=false
theorem oO(cs:ByteArray)(x:ByteArray)(w:aah)(hx:x.size<=1000000)(hc:cs.size<4294967281)(ha:∀(j:Nat) b,cs.data.toList[j]?=some b->b.toNat<128):
  (x.data.toList.all (cs.data.toList.contains ·)=true->ach prog 188 #[.string x,.string cs] w fun e w'=>e=.returned (.string ⟨#[]⟩)/\Below w.heap.size w w')/\
  (x.data.toList.all (cs.data.toList.contains ·)=false->ach prog 188 #[.string x,.string cs] w fun e w'=>BV e/\Below w.heap.size w w'):=by
 have h:=Any.strings_Trim_laid Tz kR x cs w oM hc ha;constructor
 ·intro kD
  refine h.mono ?_;rintro e w' ⟨rfl,hb⟩;rw[(Hj _ _).2 kD];exact⟨rfl,hb⟩
 ·intro kD
  refine h.mono ?_;rintro e w' ⟨rfl,hb⟩;refine⟨⟨_,rfl,?_⟩,hb⟩;have:agy x.data.toList cs.data.toList≠ []:=fun e=>by rw[(Hj _ _).1 e]at kD;cases kD
  show(aq _).toList.isEmpty=false
  rw[toList_txt];simpa using this
def eN(w:aah):Prop:=agw prog w "internal/strconv.uint64pow10" .u64 agL
theorem Ee:prog.globalNamed "internal/strconv.uint64pow10"=some 6:=kR
theorem eN.below(h:eN w)(hb:Below B w w')(hB:6<B):eN w':=by
 unfold eN agw at*;unfold World.var? at*;simp only[Ee,agh]at h ⊢;rw[hb.block _ hB];exact h
theorem eN.lt(h:eN w):6<w.heap.size:=by
 have h1:=Lib.TabIs.cell h Ee 0 dC;rcases af8 6 w.heap.size with h'|h'
 ·exact h'
 ·simp[World.cell?,adm h']at h1
theorem below_grown(w:aah)(k:Nat)(os:Array Obj):Below w.heap.size w (grow (w.drewN k) os):=by
 refine⟨rfl,rfl,rfl,?_,fun i hi=>?_⟩
 ·show w.heap.size<=(w.heap++os).size
  simp
 ·show(w.heap++os)[i]?=w.heap[i]?
  rw[Array.getElem?_append_left hi]
def bM(x:Int):ByteArray:=⟨(aax x).toArray⟩
theorem iT(x:Int)(hx:bZ x=true):(bM x).size<=21:=by
 have h:0<=x/\x<=1099511627776:=by simpa[bZ]using hx
 show(aax x).toArray.size<=21
 rw[List.size_toArray];exact Lib.itoa_length_le x oM oM
theorem ox(x:Int)(hx:bZ x=true)(w:aah)(hT:eN w):
  ach prog 44 #[.int .i64 x] w fun e w'=>e=.returned (.string (bM x))/\Below w.heap.size w w':=by
 have h:0<=x/\x<=1099511627776:=by simpa[bZ]using hx
 refine(nk x oM oM w hT).mono ?_;rintro e w' ⟨rfl,k,os,rfl⟩;exact⟨rfl,below_grown w k os⟩
theorem Gt{x y z:aai}(h1:w.cell? ⟨W.heap.size,1,none⟩=some x)(h2:w.cell? ⟨W.heap.size,2,none⟩=some y)(h3:w.cell? ⟨W.heap.size,3,none⟩=some z)(hT:eN w)(hB:Below W.heap.size W w)(hb:Below w.heap.size w w'):
  w'.cell? ⟨W.heap.size,1,none⟩=some x/\w'.cell? ⟨W.heap.size,2,none⟩=some y/\w'.cell? ⟨W.heap.size,3,none⟩=some z/\eN w'/\Below W.heap.size W w':=by
 have aE:W.heap.size<w.heap.size:=acC w _ h1;refine⟨?_,?_,?_,hT.below hb hT.lt,hB.T (hb.mono hB.size)⟩
 ·rw[hb.cell (p:=⟨W.heap.size,1,none⟩) aE];exact h1
 ·rw[hb.cell (p:=⟨W.heap.size,2,none⟩) aE];exact h2
 ·rw[hb.cell (p:=⟨W.heap.size,3,none⟩) aE];exact h3
def bX(w:aah):Prop:=(∃tp p,w.cell? ⟨4,0,none⟩=some (.iface tp p))/\(∃tp p,w.cell? ⟨5,0,none⟩=some (.iface tp p))
theorem bX.lt(h:bX w):4<w.heap.size/\5<w.heap.size:=by
 obtain⟨⟨_,_,h1⟩,_,_,h2⟩:=h;exact⟨acC w _ h1,acC w _ h2⟩
theorem bX.below(h:bX w)(hb:Below B w w')(h1:4<B)(h2:5<B):bX w':=by
 obtain⟨⟨a,b,e1⟩,c,d,e2⟩:=h;exact⟨⟨a,b,(hb.cell (p:=⟨4,0,none⟩) h1).T e1⟩,c,d,(hb.cell (p:=⟨5,0,none⟩) h2).T e2⟩
theorem bX.aj(h:bX w)(hb:Below w.heap.size w w'):bX w':=h.below hb h.lt.1 h.lt.2
theorem tP(s:ByteArray)(w:aah)(hs:s.size<=1000000)(h:jc s.data.toList=true):
  ach prog 53 #[.string s] w fun e w'=>e=.returned (.tuple #[.int .i64 (aa s.data.toList),.nilIface])/\Below w.heap.size w w':=by
 unfold jc at h;unfold aa;rcases ha:acu s.data.toList with v|_|_
 ·refine(xf s oM v ha w).mono ?_
  rintro e w' ⟨rfl,hw⟩;refine⟨rfl,?_⟩;rcases hw with rfl|⟨t,rfl⟩
  ·exact Below.refl _ _
  ·exact Lib.bytesWorld_below w _ t
 ·rw[ha]at h;cases h
 ·rw[ha]at h;cases h
def ada(n:Int)(e:Ending):Prop:=∃te pe,e=.returned (.tuple #[.int .i64 n,.iface te pe])
theorem Bj(s:ByteArray)(w:aah)(hs:s.size<=1000000)(hv:bX w)(h:jc s.data.toList=false):
  ach prog 53 #[.string s] w fun e w'=>ada (aa s.data.toList) e/\Below w.heap.size w w':=by
 unfold jc at h;unfold aa;obtain⟨⟨t1,p1,h1⟩,t2,p2,h2⟩:=hv;rcases ha:acu s.data.toList with v|_|_
 ·rw[ha]at h;cases h
 ·refine(sD s oM ha _ w h1 (.inr ⟨_,_,rfl⟩)).mono ?_
  rintro e w' ⟨N,rfl,_,_,hb⟩;exact⟨⟨_,_,rfl⟩,hb⟩
 ·refine(tq s oM ha _ w h2 (.inr ⟨_,_,rfl⟩)).mono ?_
  rintro e w' ⟨N,rfl,_,_,hb⟩;exact⟨⟨_,_,rfl⟩,hb⟩
theorem ow(x:Int)(h0: -9223372036854775808<=x)(h1:x<=9223372036854775807)(w:aah)(hT:eN w):
  ach prog 44 #[.int .i64 x] w fun e w'=>e=.returned (.string (bM x))/\Below w.heap.size w w':=by
 refine(nk x h0 h1 w hT).mono ?_;rintro e w' ⟨rfl,k,os,rfl⟩;exact⟨rfl,below_grown w k os⟩
theorem R_(x:Int):(bM x).data.toList=aax x:=by simp[bM]
theorem zx(x:Int):(bM x).toList=aax x:=by rw[ab3];exact R_ x
def au(f:az):Array aai:=#[.int .i64 f.id,.string f.aL,.string f.aF,.string f.scope,.int .i64 f.gen,.int .i64 f.made,.int .i64 f.used,.string f.request,.bool f.dead]
def aN(e:Ev):Array aai:=#[.int .i64 e.kind,.int .i64 e.bA.id,.string e.bA.aL,.string e.bA.aF,.string e.bA.scope,.int .i64 e.bA.gen,.int .i64 e.bA.made,.int .i64 e.bA.used,.string e.bA.request,.bool e.bA.dead,.int .i64 e.id,.int .i64 e.time]
def cM(f:az):aai:=.agg (au f)
def bH(e:Ev):aai:=.agg (aN e)
def az.short(f:az)(n:Nat):Prop:=f.aL.size<=n/\f.aF.size<=n/\f.scope.size<=n/\f.request.size<=n
theorem cj{T:aat}{i:Int}(h:aC w g T (au ⟨i,cl,su,sc,ge,ma,us,re,de⟩)):
  w.cell? ⟨g,0,none⟩=some (.int .i64 i)/\w.cell? ⟨g,1,none⟩=some (.string cl)/\w.cell? ⟨g,2,none⟩=some (.string su)/\w.cell? ⟨g,3,none⟩=some (.string sc)/\w.cell? ⟨g,4,none⟩=some (.int .i64 ge)/\
  w.cell? ⟨g,5,none⟩=some (.int .i64 ma)/\w.cell? ⟨g,6,none⟩=some (.int .i64 us)/\w.cell? ⟨g,7,none⟩=some (.string re)/\w.cell? ⟨g,8,none⟩=some (.bool de):=
 ⟨h.cell 0,h.cell 1,h.cell 2,h.cell 3,h.cell 4,h.cell 5,h.cell 6,h.cell 7,h.cell 8⟩
theorem bL{T:aat}{k i:Int}{id ti:Int}(h:aC w g T (aN ⟨k,⟨i,cl,su,sc,ge,ma,us,re,de⟩,id,ti⟩)):
  w.cell? ⟨g,0,none⟩=some (.int .i64 k)/\w.cell? ⟨g,1,none⟩=some (.int .i64 i)/\w.cell? ⟨g,2,none⟩=some (.string cl)/\w.cell? ⟨g,3,none⟩=some (.string su)/\w.cell? ⟨g,4,none⟩=some (.string sc)/\w.cell? ⟨g,5,none⟩=some (.int .i64 ge)/\
  w.cell? ⟨g,6,none⟩=some (.int .i64 ma)/\w.cell? ⟨g,7,none⟩=some (.int .i64 us)/\w.cell? ⟨g,8,none⟩=some (.string re)/\w.cell? ⟨g,9,none⟩=some (.bool de)/\w.cell? ⟨g,10,none⟩=some (.int .i64 id)/\w.cell? ⟨g,11,none⟩=some (.int .i64 ti):=
 ⟨h.cell 0,h.cell 1,h.cell 2,h.cell 3,h.cell 4,h.cell 5,h.cell 6,h.cell 7,h.cell 8,h.cell 9,h.cell 10,h.cell 11⟩
def bD(w:aah)(g:Nat)(L:List Int):Prop:=∀j,j<L.length->w.cell? ⟨g,j,none⟩=some (.int .i64 (L.getD j 0))
theorem bD.drewN{L:List Int}(h:bD w g L)(q:Nat):bD (w.drewN q) g L:=h
theorem ZZ(a b c d:Int): [a,b,c,d].all bZ=(bZ a&&bZ b&&bZ c&&bZ d):=by simp[Bool.and_assoc]
theorem mD(w:aah)(T:aat)(L:List Int):bD (w.alloc (.cells (L.map fun x=>Value.int .i64 x).toArray T)) w.heap.size L:=by
 intro j hj;have h:=(aC.new w T (L.map fun x=>Value.int .i64 x).toArray).cell j;rw[h];simp[hj]
theorem oo{s:ByteArray}:s.toList.isEmpty=decide (s.data.toList=[]):=by
 rw[ab3];cases s.data.toList<;>simp
theorem XH(x s:ByteArray)(l:BL)(hx:x=aq l):(x.toList == s.toList)=decide (l=s.data.toList):=by
 rw[hx,toList_txt,ab3,Bool.eq_iff_iff];simp
theorem afz(a:Int): [a].all bZ=bZ a:=by simp
theorem gK(W:aah)(o o':Obj):Below W.heap.size W ((W.alloc o).alloc o'):=(bR.alloc nR _).alloc sP _
theorem KU(f:az):f.isZero=(decide (f.id=0)&&decide (f.aL.toList=[])&&decide (f.aF.toList=[])&&decide (f.scope.toList=[])&&decide (f.gen=0)&&decide (f.made=0)&&decide (f.used=0)&&decide (f.request.toList=[])&& !f.dead):=by
 unfold az.isZero;rw[ab3,ab3,ab3,ab3]
theorem adF(o o' o'':Obj)(h:Below (((W.alloc o).alloc o').alloc o'').heap.size (((W.alloc o).alloc o').alloc o'') w):Below W.heap.size W w:=
 below_2 ((gK W o o').alloc sO o'') h
theorem ab7{i:Int}(h1:i=0)(h2:cl.toList=[])(h3:su.toList=[])(h4:sc.toList=[])(h5:ge=0)(h6:ma=0)(h7:us=0)(h8:re.toList=[])(h9:¬ de=true)(h:az.isZero ⟨i,cl,su,sc,ge,ma,us,re,de⟩=false):False:=by
 rw[KU]at h;have h9':de=false:=by simpa using h9
 dsimp only at h;rw[h2,h3,h4,h8,h1,h5,h6,h7,h9']at h;simp at h
theorem afd(W:aah)(o o':Obj)(T:aat)(b:Int):bD (((W.alloc o).alloc o').alloc (.cells #[.int .i64 b] T)) (W.heap.size+1+1) [b]:=by
 have h:=mD ((W.alloc o).alloc o') T [b];simpa using h
theorem SM(T:Int)(a b:Int)(e:Ev)(hk:e.kind=T)(h:(T=2/\a=e.time/\b=e.id)\/(T=3/\a=e.id/\b=e.time)):gG e=(e.bA.isZero&&decide (a=0)&&bZ b):=by
 rcases h with⟨rfl,rfl,rfl⟩|⟨rfl,rfl,rfl⟩
 ·unfold gG;rw[hk,if_neg dC,if_pos rfl]
 ·unfold gG;rw[hk,if_neg dC,if_neg dC,if_pos rfl]
theorem ints_at{L:List Int}{k:Nat}(hk:k<L.length)(h:bZ (L.getD k 0)=false):L.all bZ=false:=by
 rw[List.all_eq_false];refine⟨L[k],List.getElem_mem hk,?_⟩;simpa[agv,hk]using h
theorem Ww{L:List Int}(h:∀j,j<L.length->bZ (L.getD j 0)=true):L.all bZ=true:=by
 rw[aaJ];intro x hx;obtain⟨j,hj,rfl⟩:=List.mem_iff_getElem.1 hx;have:=h j hj;simpa[agv,hj]using this
open Go.Maps Go.WideMaps
theorem uF(h:w.ownsRow B 9 1 v L.length (L.map encStr))(hL:L≠ []):Row w B v L:=by
 rcases h.2 with⟨rfl,h0⟩|⟨g,cap,cur,rfl,_⟩
 ·simp at h0;exact absurd h0 hL
 ·exact⟨g,cap,rfl,h⟩
theorem Jd:(prog.info? 9).map (fun i=>(i.zero,i.size,i.bytes))=some (some (.string ByteArray.empty),1,16):=kR
open Go
def kT(md:acK)(ops:Array aer)(i:Nat):Nat->Nat->Bool
 |0,_=>false
 |n+1,j=>match ops[j]? with
  |some o=>o.after.any fun e=>ad6 md e&&(e.on == i || kT md ops i n e.on)
  |none=>false
def yX(md:acK)(ops:Array aer)(listed:Array Bool):Prop:=∀(j:Nat) (o:aer),ops[j]?=some o->listed.getD j false=true->∀e∈o.after,ad6 md e=true->listed.getD e.on false=true
def Ao(md:acK)(ops:Array aer)(listed:Array Bool):Bool:=(List.range ops.size).all fun j=> !listed.getD j false || match ops[j]? with
 |some o=>o.after.all fun e=> !Region.binds md e || listed.getD e.on false
 |none=>true
theorem Cq{md:acK}{ops:Array aer}{listed:Array Bool}(h:Ao md ops listed=true):yX md ops listed:=by
 intro j o ho hj e he hb;have aE:j<ops.size:=(Array.getElem?_eq_some_iff.1 ho).1;have h1:=aaJ.1 h j (List.mem_range.2 aE);simp only[hj,ho,Bool.not_true,Bool.false_or]at h1;have h2:=Array.all_eq_true_iff_forall_mem.1 h1 e he;simpa[hb]using h2
theorem yX.set{md:acK}{ops:Array aer}{listed:Array Bool}(h:yX md ops listed){j:Nat}(hj:j∈aaA md ops listed):yX md ops (listed.setIfInBounds j true):=by
 intro k o ho hk e he hb;obtain⟨_,oj,hoj,kD⟩:=af_.1 hj
 by_cases hkj:j=k
 ·subst hkj
  rw[hoj]at ho;obtain rfl:=Option.some.inj ho;exact getD_set_true (kD e he hb)
 ·rw[agf false hkj]at hk
  exact getD_set_true (h k o ho hk e he hb)
theorem yM{md:acK}{ops:Array aer}{listed:Array Bool}(h:yX md ops listed):∀(n j:Nat),kT md ops i n j=true->listed.getD j false=true->listed.getD i false=true
 |0,_,hw,_=>by cases hw
 |n+1,j,hw,hj=>by
  unfold kT at hw;split at hw
  ·rename_i o ho
   obtain⟨e,he,hb⟩:=Array.any_eq_true'.1 hw;simp only[aaB,aeu,beq_iff_eq]at hb;have h1:=h j o ho hj e he hb.1;rcases hb.2 with rfl|h2
   ·exact h1
   ·exact yM h n e.on h2 h1
  ·cases hw
section
variable{P:Program}{ops:Array aer}{Q:Exit->Act->aah->Prop}{md:acK}{S:aah->Prop}{T:List Nat}
def dV(P:Program)(md:acK)(ops:Array aer)(Q:Exit->Act->aah->Prop)(S:aah->Prop)(T:List Nat):Nat->Array Bool->Act->aah->Prop
 |0,listed,a,w=>aaA md ops listed=[]/\Q .normal a w
 |fuel+1,listed,a,w=>
  (aaA md ops listed=[]->Q .normal a w)/\
  ∀i∈aaA md ops listed,wpOp P ops Q i (fun a' w'=>(T.contains i=false->S w')/\dV P md ops Q S T fuel (listed.setIfInBounds i true) a' w') a w
theorem wo:∀(fuel:Nat) (listed:Array Bool) (a:Act) (w:aah),dV P md ops Q S T fuel listed a w->wpAny P md ops Q fuel listed a w
 |0,_,_,_,h=>h
 |fuel+1,_,_,_,h=>⟨h.1,fun i hi=>wpOp_mono (fun a' w' h'=>wo fuel _ a' w' h'.2) (h.2 i hi)⟩
theorem C9{listed:Array Bool}(h:listed.getD i true=false):listed.getD i false=false:=by
 rcases af8 i listed.size with h'|h'
 ·simp[h']at h ⊢;exact h
 ·simp[adm h']
theorem yP(hi:ops[i]?=some oi)(aiV:∀(j:Nat) (o:aer) cs b,ops[j]?=some o->o.op≠.select cs b)(hQ:∀c a w,Q (.panic c) (a.put oi.dst v) w->Q (.panic c) a w)(n:Nat)(hT:∀j,T.contains j=true->kT md ops i n j=true):
  ∀(fuel:Nat) (listed:Array Bool) (a:Act) (w:aah),yX md ops listed->
   (∀j oj,ops[j]?=some oj->j≠i->listed.getD j true=false->(∀e∈oj.after,ad6 md e=true->e.on≠i)->oi.apart ops oj=true)->
   i∈aaA md ops listed->YieldsIf P ops S oi v a->S w->
   dV P md ops Q S T fuel (listed.setIfInBounds i true) (a.put oi.dst v) w->dV P md ops Q S T (fuel+1) listed a w:=by
 intro fuel
 induction fuel with
 |zero=>
  intro listed a w _ _ hr hy hS H;refine⟨fun h=>(by rw[h]at hr;cases hr),fun j hj=>?_⟩
  by_cases Ql:j=i
  ·subst Ql;exact hy.wpOp hi hS ⟨fun _=>hS,H⟩
  ·have:=ago hj Ql
   rw[H.1]at this;cases this
 |succ fuel ih=>
  intro listed a w ail KO hr hy hS H;refine⟨fun h=>(by rw[h]at hr;cases hr),fun j hj=>?_⟩
  by_cases Ql:j=i
  ·subst Ql;exact hy.wpOp hi hS ⟨fun _=>hS,H⟩
  ·have h1:=H.2 j (ago hj Ql)
   have VT:=ail.set hj;have hun:=(af_.1 hr).1
   have anv:T.contains j=false:=by
    rcases hc:T.contains j with _|_
    ·rfl
    ·have hw:=hT j hc
     have hlj:(listed.setIfInBounds j true).getD j false=true:=by
      have aE:j<listed.size:=by
       (rcases af8 j listed.size with h'|h');(·exact h')
       ·have:=(af_.1 hj).1
        simp[adm h']at this
      simp[aE]
     have h2:=yM VT n j hw hlj;rw[agf false Ql,C9 hun]at h2;cases h2
   obtain⟨aiy,oj,hoj,kD⟩:=af_.1 hj
   have anw:∀e∈oj.after,ad6 md e=true->e.on≠i:=fun e he hb heq=>by
    have h1:=kD e he hb;rw[heq,C9 hun]at h1;cases h1
   have h2:=wpOp_putIf hoj (KO j oj hoj Ql aiy anw) (fun cs b=>aiV i oi cs b hi) (fun cs b=>aiV j oj cs b hoj) hQ hy h1
   have aey:∀k ok,ops[k]?=some ok->k≠i->(listed.setIfInBounds j true).getD k true=false->
     (∀e∈ok.after,ad6 md e=true->e.on≠i)->oi.apart ops ok=true:=fun k ok hk hki hun nJ=>by
    refine KO k ok hk hki ?_ nJ;by_cases Uo:j=k;(·subst Uo;exact aiy);(·rw[agf true Uo]at hun;exact hun)
   refine wpOp_mono (fun a' w' h3=>⟨h3.2.1,ih (listed.setIfInBounds j true) a' w' VT aey (ago hr (Ne.symm Ql)) h3.1 (h3.2.1 anv) ?_⟩) h2;rw[Array.setIfInBounds_comm _ _ Ql];exact h3.2.2
theorem dA(n:Nat){listed:Array Bool}(hi:ops[i]?=some oi)(hs:acn ops=true)(hf:ac4 md ops listed i=true)(hr:(aaA md ops listed).contains i=true)(hd:Ao md ops listed=true)(hT:(T.all fun j=>kT md ops i n j)=true)(hQ:∀c a w,Q (.panic c) (a.put oi.dst v) w->Q (.panic c) a w)(hw:ab9 oi (adf ops a.tmps)=true)(hy:∀w,S w->(af' a.eval oi).run P w=.ok (.value v) w)(hS:S w)(h:dV P md ops Q S T fuel (listed.setIfInBounds i true) (a.put oi.dst v) w):dV P md ops Q S T (fuel+1) listed a w:=
 yP hi (Region.noSelect_spec hs) hQ n (fun j hj=>aaJ.1 hT j (by simpa using hj)) fuel listed a w (Cq hd) (Region.free_spec hi hf) (by simpa using hr) (.inl ⟨hw,hy⟩) hS h
theorem jS(n:Nat){listed:Array Bool}(hi:ops[i]?=some oi)(hs:acn ops=true)(hf:ac4 md ops listed i=true)(hr:(aaA md ops listed).contains i=true)(hd:Ao md ops listed=true)(hT:(T.all fun j=>kT md ops i n j)=true)(hQ:∀c a w,Q (.panic c) (a.put oi.dst undef) w->Q (.panic c) a w)(hw:ab9 oi (adf ops a.tmps)=false)(hS:S w)(h:dV P md ops Q S T fuel (listed.setIfInBounds i true) (a.put oi.dst undef) w):dV P md ops Q S T (fuel+1) listed a w:=
 yP hi (Region.noSelect_spec hs) hQ n (fun j hj=>aaJ.1 hT j (by simpa using hj)) fuel listed a w (Cq hd) (Region.free_spec hi hf) (by simpa using hr) (.inr ⟨hw,rfl⟩) hS h
theorem Pq{listed:Array Bool}(hr:aaA md ops listed=[i])(hi:ops[i]?=some oi)(h:∀K':Act->aah->Prop,Shut (∀a w,(T.contains i=false->S w)->dV P md ops Q S T fuel (listed.setIfInBounds i true) a w->K' a w)->if ab9 oi (adf ops a.tmps)=true then agt P oi a w K' Q else K' (a.put oi.dst undef) w):
  dV P md ops Q S T (fuel+1) listed a w:=by
 refine⟨fun h0=>(by rw[hr]at h0;cases h0),fun j hj=>?_⟩;rw[hr,acg]at hj;subst hj;exact agz hi fun K' hK=>h K' (fun a w h1 h2=>hK a w ⟨h1,h2⟩)
theorem bf(n i:Nat)(v:aai){listed:Array Bool}(hy:∀w,S w->(af' a.eval oi).run P w=.ok (.value v) w)(hS:S w)(h:dV P md ops Q S T fuel (listed.setIfInBounds i true) (a.put oi.dst v) w)(hi:ops[i]?=some oi:=by rfl)(hs:acn ops=true:=by kernel_rfl)(hf:ac4 md ops listed i=true:=by kernel_rfl)(hr:(aaA md ops listed).contains i=true:=by kernel_rfl)(hd:Ao md ops listed=true:=by kernel_rfl)(hT:(T.all fun j=>kT md ops i n j)=true:=by kernel_rfl)(hQ:∀c a w,Q (.panic c) (a.put oi.dst v) w->Q (.panic c) a w:=by exact fun _ _ _ h=>h)(hw:ab9 oi (adf ops a.tmps)=true:=by rfl):dV P md ops Q S T (fuel+1) listed a w:=dA n hi hs hf hr hd hT hQ hw hy hS h
theorem aB(i:Nat){listed:Array Bool}(h:∀K':Act->aah->Prop,Shut (∀a w,(T.contains i=false->S w)->dV P md ops Q S T fuel (listed.setIfInBounds i true) a w->K' a w)->if ab9 oi (adf ops a.tmps)=true then agt P oi a w K' Q else K' (a.put oi.dst undef) w)(hr:aaA md ops listed=[i]:=by kernel_rfl)(hi:ops[i]?=some oi:=by rfl):dV P md ops Q S T (fuel+1) listed a w:=Pq hr hi h
theorem aH(n i:Nat){listed:Array Bool}(hS:S w)(h:dV P md ops Q S T fuel (listed.setIfInBounds i true) ⟨A.setIfInBounds d v,ds⟩ w)(hi:ops[i]?=some oi:=by rfl)(he:oi.dst=some d:=by rfl)(hy:∀w,S w->(af' (agl ⟨A,ds⟩) oi).run P w=.ok (.value v) w:=by(intro w dm;go_simp;(try with_reducible rfl)))(hs:acn ops=true:=by kernel_rfl)(hf:ac4 md ops listed i=true:=by kernel_rfl)(hr:(aaA md ops listed).contains i=true:=by kernel_rfl)(hd:Ao md ops listed=true:=by kernel_rfl)(hT:(T.all fun j=>kT md ops i n j)=true:=by kernel_rfl)(hQ:∀c a w,Q (.panic c) (agu a oi.dst v) w->Q (.panic c) a w:=by exact fun _ _ _ h=>h)(hw:ab9 oi (adf ops A)=true:=by rfl):dV P md ops Q S T (fuel+1) listed ⟨A,ds⟩ w:=dA (a:=⟨A,ds⟩) n hi hs hf hr hd hT hQ hw hy hS (by rw[he];exact h)
theorem aV(n i:Nat){listed:Array Bool}(hS:S w)(h:dV P md ops Q S T fuel (listed.setIfInBounds i true) ⟨A.setIfInBounds d v,ds⟩ w)(hi:ops[i]?=some oi:=by rfl)(he:oi.dst=some d:=by rfl)(hy:∀w,S w->(af' (agl ⟨A,ds⟩) oi).run P w=.ok (.value v) w:=by(intro w dm;obtain⟨c0,c1,c2,c3,c4,c5,c6,aE⟩:=(And.left dm).seven;obtain⟨_,HD⟩:=dm;go_simp;(try with_reducible rfl)))(hs:acn ops=true:=by kernel_rfl)(hf:ac4 md ops listed i=true:=by kernel_rfl)(hr:(aaA md ops listed).contains i=true:=by kernel_rfl)(hd:Ao md ops listed=true:=by kernel_rfl)(hT:(T.all fun j=>kT md ops i n j)=true:=by kernel_rfl)(hQ:∀c a w,Q (.panic c) (agu a oi.dst v) w->Q (.panic c) a w:=by exact fun _ _ _ h=>h)(hw:ab9 oi (adf ops A)=true:=by rfl):dV P md ops Q S T (fuel+1) listed ⟨A,ds⟩ w:=dA (a:=⟨A,ds⟩) n hi hs hf hr hd hT hQ hw hy hS (by rw[he];exact h)
theorem cg(n i:Nat){listed:Array Bool}(hS:S w)(h:dV P md ops Q S T fuel (listed.setIfInBounds i true) ⟨A.setIfInBounds d v,ds⟩ w)(hi:ops[i]?=some oi:=by rfl)(he:oi.dst=some d:=by rfl)(hy:∀w,S w->(af' (agl ⟨A,ds⟩) oi).run P w=.ok (.value v) w:=by(intro w dm;obtain⟨s0,s1,s2⟩:=dm.three;obtain⟨m0,m1,m2,mz,mlt⟩:=dm.ld.cells;go_simp;(try with_reducible rfl)))(hs:acn ops=true:=by kernel_rfl)(hf:ac4 md ops listed i=true:=by kernel_rfl)(hr:(aaA md ops listed).contains i=true:=by kernel_rfl)(hd:Ao md ops listed=true:=by kernel_rfl)(hT:(T.all fun j=>kT md ops i n j)=true:=by kernel_rfl)(hQ:∀c a w,Q (.panic c) (agu a oi.dst v) w->Q (.panic c) a w:=by exact fun _ _ _ h=>h)(hw:ab9 oi (adf ops A)=true:=by rfl):dV P md ops Q S T (fuel+1) listed ⟨A,ds⟩ w:=dA (a:=⟨A,ds⟩) n hi hs hf hr hd hT hQ hw hy hS (by rw[he];exact h)
theorem gZ(n i:Nat){listed:Array Bool}(hS:S w)(h:dV P md ops Q S T fuel (listed.setIfInBounds i true) ⟨A.setIfInBounds d v,ds⟩ w)(hi:ops[i]?=some oi:=by rfl)(he:oi.dst=some d:=by rfl)(hy:∀w,S w->(af' (agl ⟨A,ds⟩) oi).run P w=.ok (.value v) w:=by(intro w dm;obtain⟨_,HD,HE⟩:=dm;go_simp;(try with_reducible rfl)))(hs:acn ops=true:=by kernel_rfl)(hf:ac4 md ops listed i=true:=by kernel_rfl)(hr:(aaA md ops listed).contains i=true:=by kernel_rfl)(hd:Ao md ops listed=true:=by kernel_rfl)(hT:(T.all fun j=>kT md ops i n j)=true:=by kernel_rfl)(hQ:∀c a w,Q (.panic c) (agu a oi.dst v) w->Q (.panic c) a w:=by exact fun _ _ _ h=>h)(hw:ab9 oi (adf ops A)=true:=by rfl):dV P md ops Q S T (fuel+1) listed ⟨A,ds⟩ w:=dA (a:=⟨A,ds⟩) n hi hs hf hr hd hT hQ hw hy hS (by rw[he];exact h)
theorem lU{j:Nat}{oj:aer}{listed:Array Bool}(hr:aaA md ops listed=[i,j])(hi:ops[i]?=some oi)(hj:ops[j]?=some oj)(h1:∀K':Act->aah->Prop,Shut (∀a w,(T.contains i=false->S w)->dV P md ops Q S T fuel (listed.setIfInBounds i true) a w->K' a w)->if ab9 oi (adf ops a.tmps)=true then agt P oi a w K' Q else K' (a.put oi.dst undef) w)(h2:∀K':Act->aah->Prop,Shut (∀a w,(T.contains j=false->S w)->dV P md ops Q S T fuel (listed.setIfInBounds j true) a w->K' a w)->if ab9 oj (adf ops a.tmps)=true then agt P oj a w K' Q else K' (a.put oj.dst undef) w):
  dV P md ops Q S T (fuel+1) listed a w:=by
 refine⟨fun h0=>(by rw[hr]at h0;cases h0),fun k hk=>?_⟩;rw[hr,ab',acg]at hk;rcases hk with rfl|rfl
 ·exact agz hi fun K' hK=>h1 K' (fun a w h1 h2=>hK a w ⟨h1,h2⟩)
 ·exact agz hj fun K' hK=>h2 K' (fun a w h1 h2=>hK a w ⟨h1,h2⟩)
theorem bJ{listed:Array Bool}(hr:aaA md ops listed=[])(h:Q .normal a w):∀fuel,dV P md ops Q S T fuel listed a w
 |0=>⟨hr,h⟩
 |_+1=>⟨fun _=>h,by rw[hr];simp⟩
theorem bC(S:aah->Prop)(T:List Nat){id:Nat}(hm:P.follows .mixedOrders=true)(h:dV P .any ops Q S T ops.size (Array.replicate ops.size false) a w.drew):(Code.region id ops true).wp P Q a w:=
 wp_region_any hm (wo _ _ _ _ h)
end
theorem jE{P:Program}{T ty:aat}{old cells:Array aai}(h:aC w g T old)(hi:(P.info? ty).map (·.size)=some cells.size)(ho:old.size=cells.size)(h1:cells.all (·.oneCell')=true):
  ∃w',(storeVar ty ⟨g,0,none⟩ (.agg cells)).run P w=.ok () w'/\w'=w.setRow g cells/\aC w' g T cells/\w.grownBy w' (some g):=
 ⟨w.setRow g cells,run_storeVar_row w g T ty old cells h hi ho h1,rfl,setRow_heap w g old cells T (0,0) h,⟨rfl,rfl,rfl,by simp[World.setRow],fun k _ hk=>setRow_other w g k _ (fun e=>hk (by simp[e]))⟩⟩
end Go.Proofs.YtjligkmjlenofaaGreatDoor
