/-
  Numbers from 0 to MaxNumber and their numerals, in plain Lean: a numeral is read again; its bytes are digits.
-/
import Derived.Test.YtepjcdjpikbbjaaGreatDoorU00
import Derived.Lib.ItoaLen
import Derived.Lib.AtoiTie
import Derived.Lib.AtoiAllCases
import Derived.Lib.SplitLaws
import Derived.Lib.Join
import Derived.Lib.SlicesCompact
import Derived.Sort.KeysCollected
import Derived.Test.YtepjcdjpikbbjaaGreatDoorProg
import Derived.WalkKit
import Derived.WalkSpells
import Derived.WalkLawsBesides
import Derived.Lib.Hide
import Derived.Laws.Rows
import Derived.Deep.Draws
import Derived.Sort.OwnSorted
import Derived.Lib.OwnBridge
import Derived.Laws.OwnMore
import Derived.LoopTactic
import Derived.Deep.LoopGhost
import Derived.Deep.QuietTactic
import Derived.BigQuiet
import Derived.Maps.OwnOps
import Derived.Maps.OwnSet
import Derived.Maps.Views
import Derived.StringKeys
import Derived.RangeFuncOwn
import Derived.RangeFuncLeaves
set_option maxHeartbeats 1000000
namespace Go.Proofs.YtepjcdjpikbbjaaGreatDoor
open Go.Proofs.Tryz
def ba (x:Int):Bool:=decide (0≤x)&&decide (x≤1099511627776)
theorem az {x:Int}:ba x=true↔0≤x∧x≤1099511627776:=by simp[ba]
def ab (l:List UInt8):Int:=match Lib.atoiAll l with
 | .ok v=>v
 |Lib.NumEnd.syntax=>0
 | .range=>Lib.atoiSat l
def dL (l:List UInt8):Bool:=match Lib.atoiAll l with
 | .ok _=>true
 |_=>false
theorem pH: ∀ (a b:List UInt8) (n:Nat),Lib.decFrom n (a++b)=(Lib.decFrom n a).bind fun m=>Lib.decFrom m b
 |[],_,_=>rfl
 |x::a,b,n=>by
  rw[List.cons_append,Lib.decFrom,Lib.decFrom];cases Lib.digitVal x with
  |none=>rfl
  |some d=>exact pH a b _
theorem pN {d:Nat} (h:d<10):Lib.digitVal (UInt8.ofNat (48+d))=some d:=by
 have e:(UInt8.ofNat (48+d)).toNat=48+d:=by
  rw[UInt8.toNat_ofNat'];omega
 unfold Lib.digitVal;rw[e,if_pos oM]
 congr 1
 omega
theorem lz: ∀ (n u:Nat),u≤n→Lib.decFrom 0 (Lib.decDigits u)=some u
 |n,u,hn=>by
  by_cases h:u<10
  ·rw[Lib.decDigits_one h,Lib.decFrom,pN h]
   simp[Lib.decFrom]
  ·rw[Lib.decDigits,dif_neg h,pH]
   cases n with
   |zero=>omega
   |succ n=>
    rw[lz n (u / 10) oM];simp only[Option.bind_some];rw[Lib.decFrom];rw[pN oM];simp only[Lib.decFrom]
    congr 1
    omega
theorem lR: ∀ (n u:Nat),u≤n→ ∀ b∈Lib.decDigits u,48≤b.toNat∧b.toNat≤57
 |n,u,hn,b,hb=>by
  have one: ∀ d,d<10→48≤(UInt8.ofNat (48+d)).toNat∧(UInt8.ofNat (48+d)).toNat≤57:=fun d h=>by
   rw[UInt8.toNat_ofNat'];omega
  by_cases h:u<10
  ·rw[Lib.decDigits_one h,List.mem_singleton]at hb
   subst hb;exact one u h
  ·rw[Lib.decDigits,dif_neg h,List.mem_append,List.mem_singleton]at hb
   rcases hb with hb|rfl
   ·cases n with
    |zero=>omega
    |succ n=>exact lR n (u / 10) oM b hb
   ·exact one _ oM
theorem tT (u:Nat):Lib.decDigits u≠ []:=by
 by_cases h:u<10
 ·rw[Lib.decDigits_one h];simp
 ·rw[Lib.decDigits,dif_neg h];simp
theorem qN: ∀ (k u:Nat),u<10 ^ (k+1)→Lib.nDigits u≤k+1
 |0,u,h=>by rw[Lib.nDigits_small (by simpa using h)];exact Nat.le_refl _
 |k+1,u,h=>by
  by_cases hu:u<10
  ·rw[Lib.nDigits_small hu];omega
  ·rw[Lib.nDigits_big hu]
   have:=qN k (u / 10) (by rw[Nat.pow_succ]at h ⊢;rw[Nat.pow_succ]at h;omega);omega
theorem qt {x:Int} (h:ba x=true):Lib.itoa x=Lib.decDigits x.toNat:=by
 have:=az.1 h;unfold Lib.itoa;rw[if_neg oM]
theorem gQ {x:Int} (h:ba x=true):(Lib.itoa x).length≤13:=by
 have:=az.1 h;rw[qt h,Lib.decDigits_length];exact qN 12 _ oM
theorem GI {x:Int} (h:ba x=true):Lib.itoa x≠ []:=by rw[qt h];exact tT _
theorem pz {x:Int} (h:ba x=true): ∀ b∈Lib.itoa x,48≤b.toNat∧b.toNat≤57:=by rw[qt h];exact lR _ _ (Nat.le_refl _)
theorem fU {x:Int} (h:ba x=true) {c:UInt8} (hc: ¬ (48≤c.toNat∧c.toNat≤57)):c ∉ Lib.itoa x:=fun hm=>hc (pz h c hm)
theorem tD {x:Int} (h:ba x=true):Lib.atoiAll (Lib.itoa x)=.ok x:=by
 have hx:=az.1 h;rw[Lib.atoiAll_short _ (by have:=gQ h;omega)];have hd:=pz h
 have he:Lib.decNat (Lib.itoa x)=some x.toNat:=by
  unfold Lib.decNat;rw[qt h];rw[if_neg (by simpa using tT _),lz _ _ (Nat.le_refl _)]
 rcases e:Lib.itoa x with _|⟨b,r⟩
 ·exact absurd e (GI h)
 ·have hb:=hd b (by rw[e];simp)
  rw[e]at he
  have h45:(b == 45)=false:=by
   rw[beq_eq_false_iff_ne];rintro rfl;simp at hb
  have h43:(b == 43)=false:=by
   rw[beq_eq_false_iff_ne];rintro rfl;simp at hb
  simp only[Lib.atoi,h45,h43,he];simp[Lib.NumEnd.ofOption];omega
theorem bQ {x:Int} (h:ba x=true):ab (Lib.itoa x)=x:=by unfold ab;rw[tD h]
theorem mV {x:Int} (h:ba x=true):dL (Lib.itoa x)=true:=by unfold dL;rw[tD h]
theorem gJ (l:List UInt8): -9223372036854775808≤ab l∧ab l≤9223372036854775807:=by
 unfold ab;rcases e:Lib.atoiAll l with _|_|v
 all_goals first|exact Lib.atoiAll_bounds e|exact Lib.atoiSat_bounds l|(simp)
def fa (l:List UInt8):Bool:=dL l&&decide (Lib.itoa (ab l)=l)&&ba (ab l)
theorem gq {l:List UInt8}:fa l=true↔ba (ab l)=true∧Lib.itoa (ab l)=l:=by
 unfold fa;simp only[Bool.and_eq_true,decide_eq_true_eq];constructor
 ·rintro⟨⟨_,h2⟩,h3⟩
  exact⟨h3,h2⟩
 ·rintro⟨h3,h2⟩
  refine⟨⟨?_,h2⟩,h3⟩;rw[←h2];exact mV h3
theorem j7 {x:Int} (h:ba x=true):fa (Lib.itoa x)=true:=by
 rw[gq,bQ h];exact⟨h,rfl⟩
def parts (c:UInt8):List UInt8→List (List UInt8)
 |[]=>[[]]
 |x::l=>if x=c then[]::parts c l else
  match parts c l with
  |[]=>[[x]]
  |w::r=>(x::w)::r
theorem fk (c:UInt8) (l:List UInt8):parts c l≠ []:=by
 cases l with
 |nil=>simp[parts]
 |cons x l=>
  unfold parts;split
  ·simp
  ·split<;>simp
theorem ph (c:UInt8) (l:List UInt8):0<(parts c l).length:=by
 have:=fk c l;rcases h:parts c l with _|⟨a,r⟩
 ·exact absurd h this
 ·simp
theorem fQ (c:UInt8) (l:List UInt8):parts c (c::l)=[]::parts c l:=by simp[parts]
theorem eO {c x:UInt8} (h:x≠c) {l w:List UInt8} {r:List (List UInt8)} (e:parts c l=w::r):parts c (x::l)=(x::w)::r:=by
 rw[parts,if_neg h,e]
theorem eQ {c:UInt8}: ∀ {l:List UInt8},c ∉ l→parts c l=[l]
 |[],_=>rfl
 |x::l,h=>by
  simp only[List.mem_cons,not_or]at h;rw[eO (Ne.symm h.1) (eQ h.2)]
theorem iZ {c:UInt8}: ∀ (a:List UInt8) (b:List UInt8),parts c (a++c::b)=parts c a++parts c b
 |[],b=>by simp[parts]
 |x::a,b=>by
  by_cases h:x=c
  ·subst h
   rw[List.cons_append,fQ,fQ,iZ a b,List.cons_append]
  ·rcases e:parts c a with _|⟨w,r⟩
   ·exact absurd e (fk c a)
   ·rw[eO h e,List.cons_append,eO h (by rw[iZ a b,e,List.cons_append]),List.cons_append]
theorem kM {c:UInt8} {a:List UInt8} (h:c ∉ a) (b:List UInt8):parts c (a++c::b)=a::parts c b:=by
 rw[iZ,eQ h];rfl
theorem kA (c:UInt8): ∀ (l:List UInt8),∀ w∈parts c l,c ∉ w
 |[],w,h=>by simp[parts]at h;simp[h]
 |x::l,w,h=>by
  by_cases hx:x=c
  ·subst hx
   rw[fQ]at h;rcases List.mem_cons.1 h with rfl|h
   ·simp
   ·exact kA x l w h
  ·rcases e:parts c l with _|⟨v,r⟩
   ·exact absurd e (fk c l)
   ·rw[eO hx e]at h
    rcases List.mem_cons.1 h with rfl|h
    ·have:=kA c l v (by rw[e];exact List.mem_cons_self)
     simp[this,Ne.symm hx]
    ·exact kA c l w (by rw[e];exact List.mem_cons_of_mem _ h)
def bM (c:UInt8):List (List UInt8)→List UInt8
 |[]=>[]
 |[w]=>w
 |w::v::r=>w++c::bM c (v::r)
theorem kj (c:UInt8) (w:List UInt8) {r:List (List UInt8)} (h:r≠ []):bM c (w::r)=w++c::bM c r:=by
 cases r with
 |nil=>exact absurd rfl h
 |cons v r=>rfl
theorem uG (c:UInt8): ∀ ws:List (List UInt8),Lib.join ws [c]=bM c ws
 |[]=>rfl
 |[w]=>Lib.join_one w [c]
 |w::v::r=>by
  have h:=uG c (v::r);rw[Lib.join_cons]at h;rw[Lib.join_cons,bM,←h];simp[Lib.joinTail]
theorem hJ (c:UInt8): ∀ l:List UInt8,bM c (parts c l)=l
 |[]=>rfl
 |x::l=>by
  have ih:=hJ c l
  by_cases hx:x=c
  ·subst hx
   rw[fQ,kj x [] (fk x l),ih];rfl
  ·rcases e:parts c l with _|⟨v,r⟩
   ·exact absurd e (fk c l)
   ·rw[eO hx e]
    rw[e]at ih;cases r with
    |nil=>simp only[bM]at ih ⊢;rw[ih]
    |cons u r=>rw[kj _ _ (by simp)]at ih ⊢;rw[←ih];rfl
theorem fI (c:UInt8): ∀ ws:List (List UInt8),ws≠ []→(∀ w∈ws,c ∉ w)→parts c (bM c ws)=ws
 |[],h,_=>absurd rfl h
 |[w],_,h=>eQ (h w (by simp))
 |w::v::r,_,h=>by
  rw[bM,kM (h w (by simp)),fI c (v::r) (by simp) (fun x hx=>h x (List.mem_cons_of_mem _ hx))]
theorem nM (c:UInt8): ∀ (a b:List (List UInt8)),a≠ []→b≠ []→bM c (a++b)=bM c a++c::bM c b
 |[],_,h,_=>absurd rfl h
 |[w],b,_,hb=>by rw[List.singleton_append,kj c w hb];rfl
 |w::v::r,b,_,hb=>by
  rw[List.cons_append,kj c w (by simp),nM c (v::r) b (by simp) hb,kj c w (by simp)];simp
theorem yW {c x:UInt8} (h:x≠c) {a:List UInt8} {d:List (List UInt8)} {w:List UInt8} (e:parts c a=d++[w]):parts c (a++[x])=d++[w++[x]]:=by
 have hfree:=kA c a;have ha:a=bM c (d++[w]):=by rw[←e,hJ]
 have e2:a++[x]=bM c (d++[w++[x]]):=by
  by_cases hd:d=[]
  ·subst hd;rw[ha];rfl
  ·rw[ha,nM c d _ hd (by simp),nM c d _ hd (by simp)]
   simp[bM]
 rw[e2,fI c _ (by simp)];intro v hv;rcases List.mem_append.1 hv with hv|hv
 ·exact hfree v (by rw[e];exact List.mem_append.2 (.inl hv))
 ·rw[List.mem_singleton]at hv
  subst hv;have:=hfree w (by rw[e];simp);simp[this,Ne.symm h]
theorem rn {c:UInt8} {a:List UInt8}:parts c (a++[c])=parts c a++[[]]:=by
 have:=iZ (c:=c) a [];simpa[parts]using this
theorem oI {c:UInt8}: ∀ {l:List UInt8},c∈l→ ∃ a b,l=a++c::b∧c ∉ a
 |[],h=>by simp at h
 |x::l,h=>by
  by_cases hx:x=c
  ·exact⟨[],l,by simp[hx],by simp⟩
  ·have hc':c∈l:=by simpa[Ne.symm hx]using h
   obtain⟨a,b,rfl,ha⟩:=oI hc';exact⟨x::a,b,rfl,by simp[ha,Ne.symm hx]⟩
theorem nK (c:UInt8): ∀ (n:Nat) (l:List UInt8),l.length≤n→Lib.splitK [c] 0 (Lib.count l [c]) l=parts c l
 |0,l,h=>by
  obtain rfl:l=[]:=List.eq_nil_of_length_eq_zero oM;rfl
 |n+1,l,h=>by
  by_cases hc:c∈l
  ·obtain⟨a,b,rfl,ha⟩:=oI hc
   have hi: ∀ a:List UInt8,c ∉ a→Lib.index (a++c::b) [c]=(a.length:Int):=by
    intro a ha
    induction a with
    |nil=>simp[Lib.index,List.isPrefixOf]
    |cons x a ih=>
     simp only[List.mem_cons,not_or]at ha;have hp:([c]:List UInt8).isPrefixOf (x::(a++c::b))=false:=by simp[List.isPrefixOf,ha.1]
     rw[List.cons_append,Lib.index,hp,ih ha.2];simp
   have hi':=hi a ha;rw[Lib.count_hit (by simp) hi']
   have e1:(a++c::b).drop (a.length+[c].length)=b:=by
    rw[←List.drop_drop,List.drop_left];rfl
   have e0: ∀ k,Lib.splitK [c] 0 (k+1) (a++c::b)=a::Lib.splitK [c] 0 k b:=by
    intro k;rw[Lib.splitK,hi',if_neg (by simp)];have:(a.length:Int).toNat=a.length:=by omega
    rw[this,e1];simp
   rw[e1,Nat.add_comm 1,e0,kM ha,nK c n b (by simp at h;omega)]
  ·have hz:Lib.count l [c]=0:=by rw[Lib.count_one];exact List.count_eq_zero.2 hc
   rw[hz,eQ hc];rfl
theorem nI (c:UInt8) (s:ByteArray):(Lib.splitB ⟨#[c]⟩ 0 (Lib.countB s ⟨#[c]⟩) s).map (·.data.toList)=parts c s.data.toList:=by
 rw[Lib.splitB_data];exact nK c _ _ (Nat.le_refl _)
theorem uT (c:UInt8) (s:ByteArray):Lib.countB s ⟨#[c]⟩+1=(parts c s.data.toList).length:=by
 rw[←nI,List.length_map,Lib.splitB_all ⟨#[c]⟩ (Nat.le_refl _) 0 _ s rfl]
abbrev oU:List UInt8→List UInt8→Bool:=fun x y=>decide (x≤y)
theorem uH: ∀ a b c:List UInt8,oU a b=true→oU b c=true→oU a c=true:=fun a b c h1 h2=>by simp only[oU,decide_eq_true_eq]at*;exact List.le_trans h1 h2
theorem un: ∀ a b:List UInt8,(oU a b || oU b a)=true:=fun a b=>by simp only[oU,Bool.or_eq_true,decide_eq_true_eq];exact List.le_total a b
theorem xx {a b:List UInt8} (h1:oU a b=true) (h2:oU b a=true):a=b:=by
 simp only[oU,decide_eq_true_eq]at h1 h2;exact List.le_antisymm h1 h2
def Up (l:List (List UInt8)):Prop:=l.Pairwise fun a b=>oU a b=true∧a≠b
def j1 (ws:List (List UInt8)):List (List UInt8):=Lib.compact (ws.mergeSort oU)
theorem kX (l:List (List UInt8)) (x:List UInt8): ∀ m,m≤l.length→Lib.compactUpTo (l++[x]).toArray m=Lib.compactUpTo l.toArray m
 |0,_=>rfl
 |m+1,h=>by
  rw[Lib.compactUpTo_succ,Lib.compactUpTo_succ,kX l x m oM]
  have g: ∀ j,j<l.length→(l++[x]).toArray[j]! =l.toArray[j]! :=by
   intro j hj;simp[hj,List.getElem?_append_left hj]
  have k:Lib.keeps (l++[x]).toArray m=Lib.keeps l.toArray m:=by
   unfold Lib.keeps;rw[g m oM,g (m - 1) oM]
  rw[k,g m oM]
theorem nX (l:List (List UInt8)) (x:List UInt8):Lib.compact (l++[x])=Lib.compact l++if l.getLast?=some x then[]else[x]:=by
 unfold Lib.compact;rw[List.length_append,List.length_singleton,Lib.compactUpTo_succ,kX l x _ (Nat.le_refl _)]
 congr 1
 have e1:(l++[x]).toArray[l.length]! =x:=by simp
 rw[e1]
 have hk:Lib.keeps (l++[x]).toArray l.length= !decide (l.getLast?=some x):=by
  unfold Lib.keeps;rw[e1];rcases List.eq_nil_or_concat l with rfl|⟨r,y,rfl⟩
  ·rfl
  ·have e2:((r++[y])++[x]).toArray[(r++[y]).length - 1]! =y:=by simp
   simp only[List.concat_eq_append]at e2 ⊢;rw[e2]
   by_cases h:x=y
   ·subst h;simp
   ·simp[h,Ne.symm h]
 rw[hk]
 by_cases h:l.getLast?=some x<;>simp[h]
theorem lH (w:List UInt8): ∀ (n:Nat) (l:List (List UInt8)),l.length=n→(w∈Lib.compact l↔w∈l)
 |0,l,h=>by obtain rfl:=List.eq_nil_of_length_eq_zero h;exact Iff.rfl
 |n+1,l,h=>by
  rcases List.eq_nil_or_concat l with rfl|⟨r,y,rfl⟩
  ·exact Iff.rfl
  ·rw[List.concat_eq_append]at h ⊢
   have ih:=lH w n r (by simpa using h);rw[nX,List.mem_append,List.mem_append,ih]
   by_cases e:r.getLast?=some y
   ·rw[if_pos e]
    have:y∈r:=List.mem_of_getLast? e;simp only[List.not_mem_nil,or_false,List.mem_singleton];exact⟨.inl,fun h=>h.elim id fun e=>e▸this⟩
   ·rw[if_neg e]
theorem rD: ∀ (n:Nat) (l:List (List UInt8)),l.length=n→l.Pairwise (fun a b=>oU a b=true)→Up (Lib.compact l)
 |0,l,h,_=>by obtain rfl:=List.eq_nil_of_length_eq_zero h;exact List.Pairwise.nil
 |n+1,l,h,hp=>by
  rcases List.eq_nil_or_concat l with rfl|⟨r,y,rfl⟩
  ·exact List.Pairwise.nil
  ·rw[List.concat_eq_append]at h hp ⊢
   rw[List.pairwise_append]at hp;have ih:=rD n r (by simpa using h) hp.1;rw[nX]
   by_cases e:r.getLast?=some y
   ·rw[if_pos e,List.append_nil];exact ih
   ·rw[if_neg e]
    refine List.pairwise_append.2 ⟨ih,List.pairwise_singleton _ _,?_⟩;intro a ha b hb;rw[List.mem_singleton]at hb;subst hb;have har:a∈r:=(lH a _ r rfl).1 ha;refine⟨hp.2.2 a har b (by simp),?_⟩;rintro rfl;rcases List.eq_nil_or_concat r with rfl|⟨q,z,rfl⟩
    ·simp at har
    ·rw[List.concat_eq_append]at har e hp
     have hz:oU a z=true:=by
      rcases List.mem_append.1 har with h1|h1
      ·exact(List.pairwise_append.1 hp.1).2.2 a h1 z (by simp)
      ·rw[List.mem_singleton]at h1;subst h1;simp[oU]
     have hz2:oU z a=true:=hp.2.2 z (by simp) a (by simp);exact e (by rw[xx hz hz2];simp)
theorem nO {ws:List (List UInt8)} {w:List UInt8}:w∈j1 ws↔w∈ws:=by
 unfold j1;rw[lH w _ _ rfl,List.mem_mergeSort]
theorem AF (ws:List (List UInt8)):Up (j1 ws):=rD _ _ rfl (List.pairwise_mergeSort uH un ws)
theorem Up.nodup {l:List (List UInt8)} (h:Up l):l.Nodup:=h.imp fun h=>h.2
theorem Up.sorted {l:List (List UInt8)} (h:Up l):l.Pairwise fun a b=>oU a b=true:=h.imp fun h=>h.1
theorem Up.ext {l r:List (List UInt8)} (h:Up l) (k:Up r) (e: ∀ w,w∈l↔w∈r):l=r:=
 List.Perm.eq_of_pairwise (le:=fun a b=>oU a b=true) (fun _ _ _ _ h1 h2=>xx h1 h2) h.sorted k.sorted ((List.perm_ext_iff_of_nodup h.nodup k.nodup).2 e)
theorem ut {out ws:List (List UInt8)} (h:out.Nodup) (e: ∀ w,w∈out↔w∈ws):out.mergeSort oU=j1 ws:=by
 refine Up.ext ?_ (AF ws) fun w=>by rw[List.mem_mergeSort,e,nO]
 have hs:=List.pairwise_mergeSort uH un out;have hn:(out.mergeSort oU).Nodup:=(List.mergeSort_perm out oU).nodup_iff.2 h;exact List.Pairwise.and hs hn
theorem DY {out ws:List (List UInt8)} (h:out.Nodup) (e: ∀ w,w∈out↔w∈ws):out.length=(j1 ws).length:=by
 rw[←ut h e,List.length_mergeSort]
def ro (w:List UInt8):Bool:=w.all fun c=>decide (97≤c.toNat)&&decide (c.toNat≤122)
def oN (w:List UInt8):Bool:= !w.isEmpty&&ro w
def aw (s:List UInt8):Int:=
 if s=[]then 0 else if (parts 43 s).all oN then(if (j1 (parts 43 s)).length≤5∧(j1 (parts 43 s)).all (fun w=>decide (w.length≤8))=true then 0 else 4)else 3
def aK (s:List UInt8):List (List UInt8):=if s=[]then[]else if aw s=0 then j1 (parts 43 s)else[]
def aT (s:List UInt8):List UInt8:=bM 43 (aK s)
def jG (a b:List UInt8):Bool:=(aK a).all fun w=>(aK b).contains w
theorem vg (s:List UInt8):aw s=0∨aw s=3∨aw s=4:=by
 unfold aw;split
 ·exact .inl rfl
 ·split
  ·split
   ·exact .inl rfl
   ·exact .inr (.inr rfl)
  ·exact .inr (.inl rfl)
theorem uf (s:List UInt8):Up (aK s):=by
 unfold aK;split
 ·exact List.Pairwise.nil
 ·split
  ·exact AF _
  ·exact List.Pairwise.nil
theorem Ce {s w:List UInt8} (h:w∈aK s):oN w=true:=by
 unfold aK at h;split at h
 ·simp at h
 ·rename_i hs
  split at h
  ·rename_i h0
   rw[nO]at h;unfold aw at h0;rw[if_neg hs]at h0;split at h0
   ·rename_i ha
    exact List.all_eq_true.1 ha w h
   ·cases h0
  ·simp at h
theorem fd (s:List UInt8):(aK s).length≤5∧ ∀ w∈aK s,w.length≤8:=by
 unfold aK;split
 ·simp
 ·rename_i hs
  split
  ·rename_i h0
   unfold aw at h0;rw[if_neg hs]at h0;split at h0
   ·split at h0
    ·rename_i h1
     exact⟨h1.1,fun w hw=>by simpa using List.all_eq_true.1 h1.2 w hw⟩
    ·cases h0
   ·cases h0
  ·simp
theorem vX: ∀ ws:List (List UInt8),(∀ w∈ws,w.length≤8)→(bM 43 ws).length≤9*ws.length
 |[],_=>by simp[bM]
 |[w],h=>by have:=h w (by simp);simp[bM];omega
 |w::v::r,h=>by
  have:=h w (by simp);have ih:=vX (v::r) fun x hx=>h x (List.mem_cons_of_mem _ hx)
  rw[bM];simp at ih ⊢;omega
theorem d9 (s:List UInt8):(aT s).length≤45:=by
 have h:=fd s;have:=vX _ h.2;unfold aT;omega
open Go.RowKit
def aj (w:World) (g:Nat) (t:TypeId) (cs:Array Value):Prop:=w.heap[g]?=some (.cells cs t (0,0))
section
variable {w w':World} {g:Nat} {t:TypeId} {cs:Array Value}
theorem aj.lt (h:aj w g t cs):g<w.heap.size:=by
 rcases Nat.lt_or_ge g w.heap.size with hlt|hge
 ·exact hlt
 ·unfold aj at h;rw[Array.getElem?_eq_none hge]at h;cases h
theorem aj.cell (h:aj w g t cs) (i:Nat):w.cell? ⟨g,i,none⟩=cs[i]?:=cell_of_row w g i cs t (0,0) h
theorem aj.frozen (h:aj w g t cs) (i:Nat):w.frozen? ⟨g,i,none⟩=false:=by
 unfold aj at h;simp[World.frozen?,h]
theorem aj.new (w:World) (t:TypeId) (cs:Array Value):aj (w.alloc (.cells cs t)) w.heap.size t cs:=heap_alloc_new w _
theorem aj.drew (h:aj w g t cs):aj w.drew g t cs:=h
theorem aj.drewN (h:aj w g t cs) (n:Nat):aj (w.drewN n) g t cs:=h
theorem aj.alloc (h:aj w g t cs) (o:Obj):aj (w.alloc o) g t cs:=(Below.heap_alloc w o g h.lt).trans h
theorem aj.set_ (h:aj w g t cs) (i:Nat) (u:Value):aj (w.setCell ⟨g,i,none⟩ u) g t (cs.setIfInBounds i u):=by
 unfold aj at h ⊢;simp[World.setCell,Array.getElem?_modify,h]
theorem aj.far (h:aj w g t cs) {p:Addr} (hp:g≠p.block) (u:Value):aj (w.setCell p u) g t cs:=(Below.heap_setCell w p u g hp).trans h
theorem aj.below {B:Nat} (h:aj w g t cs) (hb:Below B w w') (hg:g<B):aj w' g t cs:=(hb.block g hg).trans h
theorem aj.below' (h:aj w g t cs) (hb:Below w.heap.size w w'):aj w' g t cs:=(hb.block g h.lt).trans h
theorem aj.grown {row:Option Nat} (h:aj w g t cs) (hb:w.grownBy w' row) (hg:some g≠row):aj w' g t cs:=(hb.block g h.lt hg).trans h
theorem aj.ne_ {g':Nat} {t':TypeId} {cs':Array Value} (h:aj w g t cs) (h':aj w g' t' cs') (hne:t≠t'):g≠g':=by
 rintro rfl;unfold aj at h h';rw[h]at h';injection h' with h'
 injection h' with _ ht
 exact hne ht
end
theorem aF {B:Nat} {a w:World} (h:Below B a w) (n:Nat):Below B a (w.drewN n):=⟨h.os,h.tape,h.output,h.size,h.block⟩
theorem lZ {a w:World} {row:Option Nat} (h:a.grownBy w row):a.grownBy w.drew row:=⟨h.os,h.tape,h.output,h.size,h.block⟩
theorem ag {a w:World} {g:Nat} (h:a.grownBy w (some g)) {p:Addr} (hp:p.block=g∨a.heap.size≤p.block) (u:Value):a.grownBy (w.setCell p u) (some g):=
 ⟨h.os,h.tape,h.output,by simpa[World.setCell]using h.size,fun i hi hne=>(Below.heap_setCell w p u i (by
  rintro rfl;rcases hp with hp|hp
  ·exact hne (by rw[hp])
  ·omega)).trans (h.block i hi hne)⟩
theorem aG {a w:World} (h:Below a.heap.size a w) (row:Option Nat):a.grownBy w row:=⟨h.os,h.tape,h.output,h.size,fun i hi _=>h.block i hi⟩
theorem bT (a:World) (row:Option Nat):a.grownBy a row:=World.grownBy.refl a row
theorem aU {a b c:World} {g:Nat} (h:a.grownBy b (some g)) (k:b.grownBy c (some g)):a.grownBy c (some g):=
 ⟨k.os.trans h.os,k.tape.trans h.tape,k.output.trans h.output,Nat.le_trans h.size k.size,fun i hi hn=>(k.block i (Nat.lt_of_lt_of_le hi h.size) hn).trans (h.block i hi hn)⟩
theorem ii {a b c:World} {g:Nat} (h:a.grownBy b (some g)) (k:Below b.heap.size b c):a.grownBy c (some g):=aU h (aG k _)
theorem dm {a b c:World} {B g:Nat} (h:Below B a b) (k:b.grownBy c (some g)) (hB:B≤g) (hs:B≤b.heap.size):Below B a c:=
 h.grown k hs fun i e=>by injection e with e;omega
theorem ae {W a b:World} (h1:Below W.heap.size W a) (h2:Below a.heap.size a b):Below W.heap.size W b:=h1.trans (h2.mono h1.size)
open Go.Sort
def ah (l:List UInt8):ByteArray:=⟨l.toArray⟩
theorem bJ (s:ByteArray):ah s.data.toList=s:=by cases s;simp[ah]
theorem ak (l:List UInt8):(ah l).data.toList=l:=by simp[ah]
theorem av (l:List UInt8):(ah l).size=l.length:=by simp[ah,ByteArray.size]
theorem aq (s:ByteArray):s.data.toList.length=s.size:=by cases s;simp[ByteArray.size]
theorem Ge {a b:List UInt8} (h:ah a=ah b):a=b:=by rw[←ak a,h,ak]
theorem gD (a b:List UInt8):ah a++ah b=ah (a++b):=by
 apply ByteArray.ext;simp[ah]
def gi (w:World) (B:Nat) (v:Value) (L:List (List UInt8)):Prop:=
 ∃ g cap,v=.slice (some ⟨g,0,none⟩) L.length cap∧w.ownsRow B 9 1 v L.length (L.map encStr)
section
variable {w w':World} {B:Nat} {v:Value} {L:List (List UInt8)}
theorem gi.kept (h:gi w B v L) {row:Option Nat} (hg:w.grownBy w' row) (hne:v.ownBlock≠row):gi w' B v L:=by
 obtain⟨g,cap,e,ho⟩:=h;exact⟨g,cap,e,ho.kept hg (.inr hne)⟩
theorem gi.below (h:gi w B v L) (hb:Below w.heap.size w w'):gi w' B v L:=by
 obtain⟨g,cap,e,ho⟩:=h;exact⟨g,cap,e,ho.kept (aG hb none) (.inr (by rw[e];simp[Value.ownBlock]))⟩
theorem gi.drewN (h:gi w B v L) (n:Nat):gi (w.drewN n) B v L:=h
theorem gi.drew (h:gi w B v L):gi w.drew B v L:=h
theorem gi.alloc (h:gi w B v L) (o:Obj):gi (w.alloc o) B v L:=by
 obtain⟨g,cap,e,ho⟩:=h;exact⟨g,cap,e,ho.alloc o⟩
theorem gi.cell {g cap:Nat} (h:gi w B (.slice (some ⟨g,0,none⟩) L.length cap) L) (j:Nat) (hj:j<L.length):w.cell? ⟨g,j,none⟩=some (.string (ah (L.getD j []))):=by
 obtain⟨g',cap',e,ho⟩:=h;have:=ho.cellAt j oM;rw[this];simp[List.getD,hj,encStr,ah]
theorem gi.parts (h:gi w B v L): ∃ g cap,v=.slice (some ⟨g,0,none⟩) L.length cap∧B≤g∧g<w.heap.size∧L.length≤cap∧cap≤maxLen∧Holds encStr w g 0 L.toArray:=by
 obtain⟨g,cap,rfl,ho⟩:=h;obtain⟨g',cap',e,h1,h2,h3,h4,_,h6⟩:=Lib.holds_of_ownsRow ho (by simp);injection e with e1 _ e3
 injection e1 with e1
 injection e1 with e1
 subst e1;subst e3;exact⟨g,cap,rfl,h1,h2,h3,h4,h6⟩
theorem gi.mono {B':Nat} (h:gi w B v L) (hB:B'≤B):gi w B' v L:=by
 obtain⟨g,cap,rfl,ho⟩:=h;refine⟨g,cap,rfl,ho.1,?_⟩;rcases ho.2 with h0|⟨g',cap',cur,e,h1,h2⟩
 ·exact .inl h0
 ·exact .inr ⟨g',cap',cur,e,by omega,h2⟩
theorem gi.new (hB:B≤w.heap.size) (hm:L.length≤maxLen):gi (w.alloc (.cells (L.map encStr).toArray 9)) B (.slice (some ⟨w.heap.size,0,none⟩) L.length L.length) L:=by
 refine⟨_,_,rfl,by simp,.inr ⟨w.heap.size,L.length,(L.map encStr).toArray,rfl,hB,heap_alloc_new w _,Nat.le_refl _,hm,by simp,?_⟩⟩;rw[List.take_of_length_le (by simp)]
theorem gi.sorted {g cap n:Nat} {os:Array Obj} {T:List (List UInt8)} (h:gi w B (.slice (some ⟨g,0,none⟩) L.length cap) L) (hl:T.length=L.length):
  gi (grow (putRow encStr (Sort.ahead w n) g 0 T.toArray) os) B (.slice (some ⟨g,0,none⟩) L.length cap) T:=by
 obtain⟨g',cap',e,ho⟩:=h;injection e with e1 _ e3
 injection e1 with e1
 injection e1 with e1
 subst e1;subst e3;rcases ho.2 with⟨h0,_⟩|⟨g',cap',cur,hv,hbase,hb,h1,h2,h3,h4⟩
 ·cases h0
 cases hv;refine⟨g,cap,by rw[hl],?_⟩;rw[hl];exact ownsRow_sorted (n:=n) (os:=os) hl hbase hb h1 h2 h3
theorem gi.cut {g cap q:Nat} {T:List (List UInt8)} (h:gi w B (.slice (some ⟨g,0,none⟩) L.length cap) L) (hl:T.length≤L.length):
  gi (putRow encStr (Sort.ahead w q) g 0 (T++List.replicate (L.length - T.length) []).toArray) B (.slice (some ⟨g,0,none⟩) T.length cap) T:=by
 obtain⟨g',cap',e,ho⟩:=h;injection e with e1 _ e3
 injection e1 with e1
 injection e1 with e1
 subst e1;subst e3;have hc:=Lib.ownsRow_putRow (q:=q) (k:=T.length) (ys:=T++List.replicate (L.length - T.length) []) ho (by simp;omega) hl;rw[List.take_left]at hc;exact⟨g,cap,rfl,hc⟩
end
theorem bn (l:List UInt8):(ah l).toList=l:=by
 rw[ByteArray.toList_eq];simp[ah]
theorem fP (c:UInt8): ∀ l:List UInt8,(parts c l).length≤l.length+1
 |[]=>by simp[parts]
 |x::l=>by
  have ih:=fP c l
  by_cases hx:x=c
  ·subst hx;rw[fQ];simp;omega
  ·rcases e:parts c l with _|⟨v,r⟩
   ·exact absurd e (fk c l)
   ·rw[eO hx e];rw[e]at ih;simp at ih ⊢;omega
theorem be (c:UInt8): ∀ (l:List UInt8) (n:Nat),l.length≤n→ ∀ w∈parts c l,w.length≤n
 |[],n,_,w,h=>by simp[parts]at h;simp[h]
 |x::l,n,hn,w,h=>by
  simp at hn
  by_cases hx:x=c
  ·subst hx
   rw[fQ]at h;rcases List.mem_cons.1 h with rfl|h
   ·simp
   ·exact be x l n oM w h
  ·rcases e:parts c l with _|⟨v,r⟩
   ·exact absurd e (fk c l)
   ·rw[eO hx e]at h
    rcases List.mem_cons.1 h with rfl|h
    ·have:=be c l l.length (Nat.le_refl _) v (by rw[e];exact List.mem_cons_self)
     simp;omega
    ·exact be c l n oM w (by rw[e];exact List.mem_cons_of_mem _ h)
structure an where
 id:Int
 client:ByteArray
 subject:ByteArray
 scope:ByteArray
 gen:Int
 made:Int
 used:Int
 request:ByteArray
 dead:Bool
structure Ev where
 kind:Int
 fam:an
 id:Int
 time:Int
def an.zero:an:=⟨0,⟨#[]⟩,⟨#[]⟩,⟨#[]⟩,0,0,0,⟨#[]⟩,false⟩
def Ev.zero:Ev:=⟨0,an.zero,0,0⟩
def Hh:ByteArray:=⟨#[97,98,99,100,101,102,103,104,105,106,107,108,109,110,111,112,113,114,115,116,117,118,119,120,121,122,48,49,50,51,52,53,54,55,56,57,45]⟩
def iO (c:UInt8):Bool:=Hh.data.toList.contains c
theorem Cf (c:UInt8):iO c=(decide (97≤c.toNat)&&decide (c.toNat≤122) || decide (48≤c.toNat)&&decide (c.toNat≤57) || decide (c.toNat=45)):=by
 have h: ∀ n:Fin 256,iO (UInt8.ofFin n)=(decide (97≤(UInt8.ofFin n).toNat)&&decide ((UInt8.ofFin n).toNat≤122) || decide (48≤(UInt8.ofFin n).toNat)&&decide ((UInt8.ofFin n).toNat≤57) || decide ((UInt8.ofFin n).toNat=45)):=of_decide_eq_true kR;exact h c.toFin
def bF (l:List UInt8):Bool:=decide (1≤l.length)&&decide (l.length≤20)&&l.all iO
theorem nf {l:List UInt8} (h:bF l=true) {c:UInt8} (hc:iO c=false):c ∉ l:=by
 intro hm;unfold bF at h;rw[Bool.and_eq_true]at h;have:=List.all_eq_true.1 h.2 c hm;rw[hc]at this;cases this
theorem xH {l:List UInt8} (h:bF l=true):l≠ []:=by
 rintro rfl;cases h
theorem cI {l:List UInt8} (h:bF l=true):l.length≤20:=by
 unfold bF at h;simp only[Bool.and_eq_true,decide_eq_true_eq]at h;exact h.1.2
def an.isZero (f:an):Bool:=decide (f.id=0)&&decide (f.client.data.toList=[])&&decide (f.subject.data.toList=[])&&decide (f.scope.data.toList=[])&&decide (f.gen=0)&&decide (f.made=0)&&decide (f.used=0)&&decide (f.request.data.toList=[])&& !f.dead
theorem ow {s:ByteArray} (h:s.data.toList=[]):s=⟨#[]⟩:=by rw[←bJ s,h];rfl
theorem an.isZero_iff {f:an}:f.isZero=true↔f=an.zero:=by
 obtain⟨a,b,c,d,e,g,h,i,j⟩:=f;unfold an.isZero an.zero;simp only[Bool.and_eq_true,decide_eq_true_eq,Bool.not_eq_true'];constructor
 ·rintro⟨⟨⟨⟨⟨⟨⟨⟨rfl,h1⟩,h2⟩,h3⟩,rfl⟩,rfl⟩,rfl⟩,h4⟩,rfl⟩
  rw[ow h1,ow h2,ow h3,ow h4]
 ·intro h
  simp only[an.mk.injEq]at h;obtain⟨rfl,rfl,rfl,rfl,rfl,rfl,rfl,rfl,rfl⟩:=h;simp
def qF (l:List UInt8):Bool:=decide (l=[]) || bF l
def kP (l:List UInt8):Bool:=decide (aw l=0)&&decide (aT l=l)
def gy (f:an):Bool:=ba f.id&&ba f.gen&&ba f.made&&ba f.used&&bF f.client.data.toList&&bF f.subject.data.toList&&qF f.request.data.toList&&kP f.scope.data.toList
def dp (e:Ev):Bool:=
 if e.kind=1 then decide (e.id=0)&&decide (e.time=0)&&gy e.fam
 else if e.kind=2 then e.fam.isZero&&decide (e.time=0)&&ba e.id
 else if e.kind=3 then e.fam.isZero&&decide (e.id=0)&&ba e.time
 else false
def du (l:List UInt8):List UInt8:=if l=[]then[95]else l
def mO (b:Bool):List UInt8:=if b then[49]else[48]
def wQ (f:an):List (List UInt8):=[Lib.itoa f.id,f.client.data.toList,f.subject.data.toList,du f.scope.data.toList,Lib.itoa f.gen,Lib.itoa f.made,Lib.itoa f.used,du f.request.data.toList,mO f.dead]
def vh (e:Ev):List (List UInt8):=if e.kind=2 then[[100],Lib.itoa e.id]else if e.kind=3 then[[99],Lib.itoa e.time]else[112]::wQ e.fam
def iy (e:Ev):List UInt8:=bM 32 (vh e)
theorem ui {c d:UInt8} (hcd:c≠d): ∀ {ws:List (List UInt8)},(∀ w∈ws,c ∉ w)→c ∉ bM d ws
 |[],_=>by simp[bM]
 |[w],h=>h w (by simp)
 |w::v::r,h=>by
  rw[bM,List.mem_append,List.mem_cons];have h1:=h w (by simp);have h2:=ui hcd (ws:=v::r) fun x hx=>h x (List.mem_cons_of_mem _ hx)
  rintro(h3|h3|h3)
  ·exact h1 h3
  ·exact hcd h3
  ·exact h2 h3
theorem F5 {w:List UInt8} (h:oN w=true) {c:UInt8} (hc: ¬ (97≤c.toNat∧c.toNat≤122)):c ∉ w:=by
 intro hm;simp only[oN,ro,Bool.and_eq_true]at h;have:=List.all_eq_true.1 h.2 c hm;simp at this;omega
theorem rC {l:List UInt8}:kP l=true↔aw l=0∧aT l=l:=by simp[kP]
theorem pF {l:List UInt8} (h:kP l=true) {c:UInt8} (h43:c≠43) (hc: ¬ (97≤c.toNat∧c.toNat≤122)):c ∉ l:=by
 rw[←(rC.1 h).2];exact ui h43 fun w hw=>F5 (Ce hw) hc
theorem kL {l:List UInt8} (h:kP l=true):l.length≤45:=by
 have:=d9 l
 rwa[(rC.1 h).2]at this
theorem qK {c:UInt8} (hc:c≠95) {l:List UInt8} (h:c ∉ l):c ∉ du l:=by
 unfold du;split
 ·simpa using hc
 ·exact h
theorem ue {l:List UInt8} (h:qF l=true) {c:UInt8} (hc:iO c=false):c ∉ l:=by
 unfold qF at h;rw[Bool.or_eq_true,decide_eq_true_eq]at h;rcases h with rfl|h
 ·simp
 ·exact nf h hc
theorem bo {f:an} (h:gy f=true):ba f.id=true∧ba f.gen=true∧ba f.made=true∧ba f.used=true∧bF f.client.data.toList=true∧bF f.subject.data.toList=true∧qF f.request.data.toList=true∧kP f.scope.data.toList=true:=by
 unfold gy at h;simp only[Bool.and_eq_true]at h;obtain⟨⟨⟨⟨⟨⟨⟨h1,h2⟩,h3⟩,h4⟩,h5⟩,h6⟩,h7⟩,h8⟩:=h;exact⟨h1,h2,h3,h4,h5,h6,h7,h8⟩
theorem CD {f:an} (h:gy f=true): ∀ w∈wQ f,(32:UInt8) ∉ w:=by
 obtain⟨h1,h2,h3,h4,h5,h6,h7,h8⟩:=bo h;intro w hw;simp only[wQ,List.mem_cons,List.not_mem_nil,or_false]at hw;rcases hw with rfl|rfl|rfl|rfl|rfl|rfl|rfl|rfl|rfl
 ·exact fU h1 dC
 ·exact nf h5 dC
 ·exact nf h6 dC
 ·exact qK dC (pF h8 dC dC)
 ·exact fU h2 dC
 ·exact fU h3 dC
 ·exact fU h4 dC
 ·exact qK dC (ue h7 dC)
 ·unfold mO;split<;>decide
theorem IL (e:Ev):vh e≠ []:=by
 unfold vh;split
 ·simp
 ·split<;>simp
theorem eV {e:Ev} (h:dp e=true):(e.kind=1∧e.id=0∧e.time=0∧gy e.fam=true)∨(e.kind=2∧e.fam=an.zero∧e.time=0∧ba e.id=true)∨(e.kind=3∧e.fam=an.zero∧e.id=0∧ba e.time=true):=by
 unfold dp at h;split at h
 ·rename_i hk
  simp only[Bool.and_eq_true,decide_eq_true_eq]at h;exact .inl ⟨hk,h.1.1,h.1.2,h.2⟩
 ·split at h
  ·rename_i hk
   simp only[Bool.and_eq_true,decide_eq_true_eq,an.isZero_iff]at h;exact .inr (.inl ⟨hk,h.1.1,h.1.2,h.2⟩)
  ·split at h
   ·rename_i hk
    simp only[Bool.and_eq_true,decide_eq_true_eq,an.isZero_iff]at h;exact .inr (.inr ⟨hk,h.1.1,h.1.2,h.2⟩)
   ·cases h
theorem vW {e:Ev} (h:e.kind=1):vh e=[112]::wQ e.fam:=by
 unfold vh;rw[h,if_neg dC,if_neg dC]
theorem yf {e:Ev} (h:e.kind=2):vh e=[[100],Lib.itoa e.id]:=by
 unfold vh;rw[if_pos h]
theorem t6 {e:Ev} (h:e.kind=3):vh e=[[99],Lib.itoa e.time]:=by
 unfold vh;rw[h,if_neg dC,if_pos rfl]
theorem EG {e:Ev} (h:dp e=true): ∀ w∈vh e,(32:UInt8) ∉ w:=by
 intro w hw;rcases eV h with⟨hk,_,_,hf⟩|⟨hk,_,_,hn⟩|⟨hk,_,_,hn⟩
 ·rw[vW hk,List.mem_cons]at hw
  rcases hw with rfl|hw
  ·decide
  ·exact CD hf w hw
 ·rw[yf hk]at hw
  simp only[List.mem_cons,List.not_mem_nil,or_false]at hw;rcases hw with rfl|rfl
  ·decide
  ·exact fU hn dC
 ·rw[t6 hk]at hw
  simp only[List.mem_cons,List.not_mem_nil,or_false]at hw;rcases hw with rfl|rfl
  ·decide
  ·exact fU hn dC
theorem tG {e:Ev} (h:dp e=true):parts 32 (iy e)=vh e:=fI 32 _ (IL e) (EG h)
theorem zY {e:Ev} (h:dp e=true) {l:List UInt8}:iy e=l↔vh e=parts 32 l:=by
 constructor
 ·rintro rfl
  exact(tG h).symm
 ·intro he
  unfold iy;rw[he,hJ]
def nE (l:List UInt8):List UInt8:=if l=[95]then[]else l
def iJ:List (List UInt8)→Ev
 |[_,a,b,c,d,e,f,g,h,i]=>⟨1,⟨ab a,ah b,ah c,ah (nE d),ab e,ab f,ab g,ah (nE h),decide (i=[49])⟩,0,0⟩
 |[x,a]=>if x=[100]then⟨2,an.zero,ab a,0⟩else⟨3,an.zero,0,ab a⟩
 |_=>Ev.zero
def gK (l:List UInt8):Bool:=dp (iJ (parts 32 l))&&decide (vh (iJ (parts 32 l))=parts 32 l)
def fX (l:List UInt8):Ev:=if gK l then iJ (parts 32 l)else Ev.zero
theorem uk {l:List UInt8}:gK l=true↔dp (iJ (parts 32 l))=true∧iy (iJ (parts 32 l))=l:=by
 unfold gK;rw[Bool.and_eq_true,decide_eq_true_eq];constructor
 ·rintro⟨h1,h2⟩;exact⟨h1,(zY h1).2 h2⟩
 ·rintro⟨h1,h2⟩;exact⟨h1,(zY h1).1 h2⟩
abbrev Rd:=List (List UInt8)×Bool
def bp:Rd→List UInt8
 |([],_)=>[]
 |(x::_,_)=>x
def cz:Rd→Rd
 |([],_)=>([],true)
 |(_::r,b)=>(r,b)
def aC (l:List UInt8):Bool:=dL l&&decide (Lib.itoa (ab l)=l)
def jx (s:Rd):Int:=ab (bp s)
def br (s:Rd):Rd:=((cz s).1,(cz s).2 || !aC (bp s))
def iP (s:Rd):List UInt8:=nE (bp s)
def aM (s:Rd):Rd:=((cz s).1,(cz s).2 || decide (bp s=[]))
def yD (s:Rd):an:=
 let s1:=br s;let s2:=aM s1;let s3:=aM s2;let s4:=aM s3;let s5:=br s4;let s6:=br s5;let s7:=br s6;let s8:=aM s7
 ⟨jx s,ah (iP s1),ah (iP s2),ah (iP s3),jx s4,jx s5,jx s6,ah (iP s7),decide (bp s8=[49])⟩
def wO (s:Rd):Rd:=
 let s8:=aM (br (br (br (aM (aM (aM (br s)))))))
 ((cz s8).1,(cz s8).2 || (!decide (bp s8=[48])&& !decide (bp s8=[49])))
def dB (s:Rd):Ev×Rd:=
 if bp s=[112]then(⟨1,yD (cz s),0,0⟩,wO (cz s))
 else if bp s=[100]then(⟨2,an.zero,jx (cz s),0⟩,br (cz s))
 else if bp s=[99]then(⟨3,an.zero,0,jx (cz s)⟩,br (cz s))
 else(Ev.zero,((cz s).1,true))
def eH (s:Rd):Bool:= !(dB s).2.2&&decide ((dB s).2.1=[])&&dp (dB s).1
theorem D5:dp Ev.zero=false:=by decide
theorem qw {f:an}:dp ⟨1,f,0,0⟩=gy f:=by simp[dp]
theorem Ag {n:Int}:dp ⟨2,an.zero,n,0⟩=ba n:=by
 have:=(an.isZero_iff (f:=an.zero)).2 rfl;simp[dp,this]
theorem tu {n:Int}:dp ⟨3,an.zero,0,n⟩=ba n:=by
 have:=(an.isZero_iff (f:=an.zero)).2 rfl;simp[dp,this]
theorem nT {l:List UInt8} (h:ba (ab l)=true):aC l=decide (Lib.itoa (ab l)=l):=by
 unfold aC
 by_cases e:Lib.itoa (ab l)=l
 ·have:dL l=true:=by rw[←e];exact mV h
  rw[this,Bool.true_and]
 ·simp[e]
theorem xO {l:List UInt8}:(ba (ab l)&&aC l)=(ba (ab l)&&decide (Lib.itoa (ab l)=l)):=by
 cases h:ba (ab l)
 ·rfl
 ·rw[nT h]
theorem qR {l:List UInt8}:bF (nE l)=bF l:=by
 unfold nE;split
 ·rename_i h
  subst h
  decide
 ·rfl
open Go.Maps Go.WideMaps
theorem mZ {H:Type} {P:Program} {e:TypeId} (he:P.underlying e=some .bool) {v:Value} {z:DataW H×List MemPlace} (h:plainElem P e v=some z): ∃ x:Bool,v=.bool x∧z=(.lit (.bool x),[]):=by
 unfold plainElem at h;cases v<;>simp_all
def dK (P:Program) (K E:TypeId) (w:World) (b n:Nat) (f:List UInt8→Bool):Prop:=
 ∃ D:DataW Unit,w.ownsMap P K (plainElem P E) b n D∧IsMap D∧ ∀ x:List UInt8,D.atKey (.string x) (.lit (.bool false))=.lit (.bool (f x))
section
variable {P:Program} {K E T:TypeId} {w w':World} {b n:Nat} {f:List UInt8→Bool}
theorem dK.made (w:World):dK P K E (w.alloc (.map #[] 0)) w.heap.size 0 (fun _=>false):=
 ⟨.map [],World.ownsMap_made w P K _,⟨[],rfl⟩,fun x=>by simp[DataW.atKey]⟩
theorem dK.kept (h:dK P K E w b n f) {row:Option Nat} (hg:w.grownBy w' row) (hne:some b≠row):dK P K E w' b n f:=by
 obtain⟨D,h1,h2,h3⟩:=h;exact⟨D,h1.kept hg hne,h2,h3⟩
theorem dK.below (h:dK P K E w b n f) (hb:Below w.heap.size w w'):dK P K E w' b n f:=h.kept (aG hb none) (by simp)
theorem dK.alloc (h:dK P K E w b n f) (o:Obj):dK P K E (w.alloc o) b n f:=h.kept (World.grownBy_alloc w o none) (by simp)
theorem dK.drewN (h:dK P K E w b n f) (m:Nat):dK P K E (w.drewN m) b n f:=h
theorem dK.lt (h:dK P K E w b n f):b<w.heap.size:=by
 obtain⟨D,h1,_⟩:=h;exact h1.lt
theorem dK.mono (h:dK P K E w b n f) {m:Nat} (hm:n≤m):dK P K E w b m f:=by
 obtain⟨D,h1,h2,h3⟩:=h;exact⟨D,h1.mono hm,h2,h3⟩
theorem dK.look (h:dK P K E w b n f) (ht:P.underlying T=some (.map K E)) (hk:P.underlying K=some .string) (he:P.underlying E=some .bool)
  (hz:(zeroValue E).run P w=.ok (.bool false) w) (x:List UInt8) (hx:x.length≤maxLen):
  (Instr.lookup T (.map (some b)) (.string (ah x)) false).run P w=.ok (.bool (f x)) w:=by
 obtain⟨D,h1,h2,h3⟩:=h
 have hkey:keyOf P K (.string (ah x))=some (.string x):=by
  rw[keyOf_string_mk hk (by rw[av];exact hx),ak]
 obtain⟨v,ps,hrun,hv⟩:=h1.lookup (string_keyed hk) ht hz (plainElem_bool he false) hkey;obtain⟨y,rfl,hy⟩:=mZ he hv;simp only[Prod.mk.injEq]at hy;have h4:=h3 x;rw[hy.1]at h4;have h6:y=f x:=by injection h4 with h4;injection h4
 rw[hrun,h6]
theorem dK.put (h:dK P K E w b n f) (ht:P.underlying T=some (.map K E)) (hk:P.underlying K=some .string) (he:P.underlying E=some .bool)
  (hn:n<maxLen) (x:List UInt8) (hx:x.length≤maxLen) (v:Bool):
  ∃ w',(Instr.mapUpdate T (.map (some b)) (.string (ah x)) (.bool v)).run P w=.ok () w'∧dK P K E w' b (n+1) (fun y=>if y=x then v else f y)∧w.grownBy w' (some b):=by
 obtain⟨D,h1,h2,h3⟩:=h
 have hkey:keyOf P K (.string (ah x))=some (.string x):=by
  rw[keyOf_string_mk hk (by rw[av];exact hx),ak]
 obtain⟨w',hrun,r1,r2⟩:=h1.update (string_keyed hk) ht hn hkey (plainElem_bool he v);refine⟨w',hrun,⟨_,r1,?_,?_⟩,r2⟩
 ·obtain⟨l,rfl⟩:=h2
  exact⟨_,rfl⟩
 ·intro y
  dsimp only
  by_cases e:y=x
  ·subst e
   rw[if_pos rfl,atKey_put_same h2 (by simp[WideAt.IsKeyLit])]
  ·rw[if_neg e,atKey_put_other (by simpa using e)]
   exact h3 y
end
def Ak {α:Type} (F:Fence) (n:Nat) (P:Program) (g:Nat) (lb:Array Value) (enc:α→Value) (xs:List α) (T K:World→World→Prop) (w:World):Prop:=
 ∀ (l:Nat) (J:List α→World→Prop) (W:World),Below w.heap.size w W→(∀ pre A B,J pre A→T A B→J pre B)→
  (∀ pre x A,J pre A→pre++[x]<+:xs→YieldAt F (n - 1) P l #[enc x] A fun e A'=>e=.returned (.bool true)∧J (pre++[x]) A'∧K A A')→
  J [] W→
  CallsIn F n P g (#[.func (.yield l) #[] #[]]++lb) W fun e W'=>(∃ v,e=.returned v)∧J xs W'
def EC {α:Type} (K:World→World→Prop) (I:List α→World→Prop) (xs:List α) (W:World):Exit→Act→World→Prop
 | .normal,_,W'=>KeepsOthers W W'∧K W W'∧I xs W'
 |_,_,_=>False
def Jw {α:Type} (n:Nat) (I:List α→World→Prop):Prop:= ∀ xs W W' l,I xs W→W.grownBy W' (some l)→n≤l→(∃ o:Obj,W.heap[l]?=some o∧o.isCells=false)→I xs W'
theorem mG {F:Fence} {n:Nat} {P:Program} {α:Type} {g:Operand} {ps:Array Tmp} {assign body:Code} {Q:Exit→Act→World→Prop} {a:Act} {w:World}
  (hro:F.round=none) (h1:1≤n) {gf:Nat} {lb:Array Value} (hg:a.eval g=.func (.func gf) #[] lb) (hFg:F.fn gf) (eg: ∀ args w,(callFunc gf args).run P w=.ok (.enter gf args) w)
  {enc:α→Value} {xs:List α} {T K:World→World→Prop} (hseq:Ak F (n - 1) P gf lb enc xs T K w) (hps:ps.size=1)
  (hT: ∀ A B,T A B→KeepsOthers A B) (hK: ∀ A B C,K A B→K B C→K A C) (hKo: ∀ (W:World) (l:Nat) (o o':Obj),W.heap[l]?=some o→o.isCells=false→K W (W.putObj l o'))
  (I:List α→World→Prop) (hI:Jw w.heap.size I) (hIT: ∀ pre A B,I pre A→T A B→I pre B) (h0: ∀ W,W.heap.size=w.heap.size+2→w.grownBy W none→I [] W) (a₁:α→Act)
  (hassign: ∀ (l:Nat) (x:α) (W:World) (K:Act→World→Prop),K (a₁ x) W→
   assign.wpIn (F.inRound l) (n - 1 - 1) P (Exit.then K (fun _ _ _=>False)) {tmps:=(ps.zip #[enc x]).foldl (fun t (p,v)=>t.setIfInBounds p v) a.tmps,defers:=[]} W)
  (hbody: ∀ (l:Nat) (pre:List α) (x:α) (W:World),I pre W→pre++[x]<+:xs→body.wpIn (F.inRound l) (n - 1 - 1) P (EC K I (pre++[x]) W) (a₁ x) W)
  (hdone: ∀ (D:Nat) (W:World),w.heap.size≤D→I xs W→W.heap[D]?=some (.deferred (some []))→Q .normal {a with defers:={target:=.collected D,args:=#[]}::a.defers} W):
  (Code.rangeFunc g ps assign body).wpIn F n P Q a w:=by
 refine wpIn_rangeFunc ?_;intro fn hfn;rw[hro];obtain⟨rec,hrec⟩: ∃ rec:LoopState→Option Code→Loop,rec=fun st pe=>{state:=st,pending:=pe,fn,tmps:=a.tmps,params:=ps,assign,body,defers:=w.heap.size}:=⟨_,rfl⟩
 obtain⟨W1,hW1⟩: ∃ W1,(w.alloc (.deferred (some []))).alloc (.loop (rec .ready none))=W1:=⟨_,rfl⟩
 have hL1:W1.heap[w.heap.size+1]?=some (.loop (rec .ready none)):=by
  rw[←hW1];have:=World.alloc_heap_new (w.alloc (.deferred (some []))) (.loop (rec .ready none));rwa[World.size_alloc]at this
 have hK1:W1.heap[w.heap.size]?=some (.deferred (some [])):=by
  rw[←hW1];exact(Below.heap_alloc _ _ _ (by simp)).trans (World.alloc_heap_new w _)
 have hsz:W1.heap.size=w.heap.size+2:=by rw[←hW1];simp[World.size_alloc]
 have hb1:Below w.heap.size w W1:=by
  rw[←hW1];exact((Below.refl _ w).alloc (Nat.le_refl _) _).alloc (by simp) _
 have hgr:w.grownBy W1 none:=⟨hb1.os,hb1.tape,hb1.output,hb1.size,fun k hk _=>hb1.block k hk⟩;have hI1:I [] W1:=h0 W1 hsz hgr
 refine⟨w.heap.size+1,[{target:=.collected w.heap.size,args:=#[]}],W1,{target:=.fn (.func gf) lb,args:=#[.func (.yield (w.heap.size+1)) #[] #[]]},W1,gf,
  #[.func (.yield (w.heap.size+1)) #[] #[]]++lb,W1,?_,?_,?_,?_,fun _=>h1,?_⟩
 ·rw[←hW1,hrec];exact run_enterLoop_outer _ _ _ _ _
 ·simp only[resolve,hg]
  simp[go_sem]
 ·intro f' hf';simp[Target.leads]at hf';subst hf';exact hFg
 ·simp[invoke,go_sem,eg]
 ·refine(hseq (w.heap.size+1)
   (fun pre W=>I pre W∧W.heap[w.heap.size+1]?=some (.loop (rec .ready none))∧W.heap[w.heap.size]?=some (.deferred (some [])))
   W1 hb1
   (fun s A B hs ht=>⟨hIT s A B hs.1 ht,(hT A B ht).same _ _ hs.2.1 rfl,(hT A B ht).same _ _ hs.2.2 rfl⟩)
   ?_ ⟨hI1,hL1,hK1⟩).mono ?_
  ·rintro pre x W ⟨hi,hl,hk⟩ hlen
   have hlt:w.heap.size+1<W.heap.size:=(Array.getElem?_eq_some_iff.1 hl).1;have hy:=run_yield (P:=P) (args:=#[enc x]) hl (by rw[hrec];simp[hps]);rw[hrec]at hy;refine⟨fn,_,assign,body,hy,roundIn_of_wpIn hfn (hassign _ x W _ ⟨_,run_beginRound hl (by rw[hrec]),?_⟩)⟩;have hl2:(W.putObj (w.heap.size+1) (.loop {rec .ready none with state:=.busy})).heap[w.heap.size+1]?=some (.loop {rec .ready none with state:=.busy}):=World.putObj_heap_same hlt;have hk2:(W.putObj (w.heap.size+1) (.loop {rec .ready none with state:=.busy})).heap[w.heap.size]?=some (.deferred (some [])):=(World.putObj_heap_other oM).trans hk;have hw2:=hKo W _ _ (.loop {rec .ready none with state:=.busy}) hl rfl;refine wpIn_mono (hbody _ pre x _ (hI _ _ _ _ hi (grownBy_putObj' _ _ _) oM ⟨_,hl,rfl⟩) hlen) ?_;rintro e a3 W3 hp;cases e with
   |normal=>
    obtain⟨hk3,hkk,hi3⟩:=hp;have hl3:=hk3.same _ _ hl2 rfl;have hr:=run_endRound (P:=P) none hl3;refine⟨_,_,hr,rfl,⟨hI _ _ _ _ hi3 (grownBy_putObj' _ _ _) oM ⟨_,hl3,rfl⟩,?_,?_⟩,?_⟩
    ·rw[World.putObj_heap_same (Array.getElem?_eq_some_iff.1 hl3).1,hrec];rfl
    ·exact(World.putObj_heap_other oM).trans (hk3.same _ _ hk2 rfl)
    ·exact hK _ _ _ (hK _ _ _ hw2 hkk) (hKo _ _ _ _ hl3 rfl)
   |ret=>exact hp.elim
   |exit id=>exact hp.elim
   |goto t=>exact hp.elim
   |panic ch=>exact hp.elim
   |outgrown=>exact hp.elim
  ·rintro e W2 ⟨⟨v,rfl⟩,hi,hl,hk⟩
   refine⟨none,_,by have:=run_endLoop (P:=P) hl (by rw[hrec];simp);rw[hrec]at this;exact this,hdone _ _ (Nat.le_refl _) (hI _ _ _ _ hi (grownBy_putObj' _ _ _) oM ⟨_,hl,rfl⟩) ?_⟩;exact(World.putObj_heap_other oM).trans hk
end Go.Proofs.YtepjcdjpikbbjaaGreatDoor
