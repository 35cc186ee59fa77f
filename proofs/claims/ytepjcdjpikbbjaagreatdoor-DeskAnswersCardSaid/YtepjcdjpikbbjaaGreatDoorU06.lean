/-
  Sixteen hexadecimal digits: no program here.
-/
import Derived.Test.YtepjcdjpikbbjaaGreatDoorU00
import Derived.Laws.BitsAllLaws
import Derived.Laws.BitsLemmas
import Derived.IntWalk
import Derived.Test.YtepjcdjpikbbjaaGreatDoorU05
import Derived.Test.YtepjcdjpikbbjaaGreatDoorU01
import Derived.Test.YtepjcdjpikbbjaaGreatDoorU04
import Derived.Lib.IndexMore
import Derived.Lib.LastIndexByte
import Derived.OwnWalkIn
import Derived.TacticsInMore
import Derived.LoopNIn
import Derived.LoopIn
import Derived.RangeFuncCalls
set_option maxHeartbeats 1000000
set_option maxRecDepth 100000
namespace Go.Proofs.YtepjcdjpikbbjaaGreatDoor
open Go.Proofs.Tryz
def za:List UInt8:=[48,49,50,51,52,53,54,55,56,57,97,98,99,100,101,102]
def sO (d:Nat):UInt8:=za.getD d 0
def ff:Nat→Nat→List UInt8
 |0,_=>[]
 |k+1,n=>ff k (n / 16)++[sO (n % 16)]
theorem dZ (k n:Nat):(ff k n).length=k:=by
 induction k generalizing n with
 |zero=>rfl
 |succ k ih=>simp[ff,ih]
theorem lX (k n:Nat):ff (k+1) n=sO (n / 16 ^ k % 16)::ff k n:=by
 induction k generalizing n with
 |zero=>simp[ff]
 |succ k ih=>
  rw[ff,ih]
  conv=>rhs;rw[ff]
  rw[List.cons_append,Nat.div_div_eq_div_mul,Nat.pow_succ,Nat.mul_comm 16]
theorem EF (k n i:Nat) (h:i<k):(ff k n)[i]?=some (sO (n / 16 ^ (k - 1 - i) % 16)):=by
 induction k generalizing i with
 |zero=>omega
 |succ k ih=>
  rw[lX];cases i with
  |zero=>simp
  |succ i=>rw[List.getElem?_cons_succ,ih i oM,show k+1 - 1 - (i+1)=k - 1 - i from by omega]
theorem DB (k m n:Nat) (h:n<16 ^ k):ff (k+m) n=List.replicate m 48++ff k n:=by
 induction m with
 |zero=>simp
 |succ m ih=>
  rw[←Nat.add_assoc,lX,ih,List.replicate_succ,List.cons_append];have h2:n / 16 ^ (k+m)=0:=Nat.div_eq_of_lt (Nat.lt_of_lt_of_le h (Nat.pow_le_pow_right oM oM));rw[h2];rfl
theorem He (x:Nat) (h:x<18446744073709551616):bits .and .u64 (x:Int) 15=((x % 16:Nat):Int):=by
 have h1:=u64_and_nat x 15 h oM;rw[show((15:Nat):Int)=15 from rfl]at h1;rw[h1];have h2:x&&& 15=x % 16:=Nat.and_two_pow_sub_one_eq_mod x 4;rw[h2]
theorem I3 (i:Nat):16 ^ i=2 ^ (4*i):=by rw[Nat.pow_mul]
open Go.RowKit Go.Sort
theorem DJ (w:World) (c:Nat) (sep:ByteArray):Calls prog 50 #[.slice none 0 c,.string sep] w fun e w'=>e=.returned (.string ⟨#[]⟩)∧w'=w:=Tryz.strings_Join_none none c sep w
theorem qU {w:World} {B:Nat} {v:Value} {s:List UInt8} (h:cM w B v (aK s)):Calls prog 50 #[v,.string ⟨#[43]⟩] w fun e w'=>e=.returned (.string (ah (aT s)))∧Below w.heap.size w w':=by
 rcases h with⟨rfl,h⟩|h
 ·refine(DJ w 0 _).mono ?_
  rintro e w' ⟨rfl,rfl⟩;unfold aT;rw[h];exact⟨rfl,Below.refl _ _⟩
 ·have h1:=fd s
  have h2:=d9 s;exact lq 43 h oM (by show(aT s).length≤_;omega)
theorem Dm (x:ByteArray) (w:World):Calls prog 224 #[.string x] w fun e w'=>e=.returned (.bool (decide (8<x.size)))∧w=w':=by
 by_cases h:8<x.size
 ·have h1:decide (8<x.size)=true:=by simpa using h
  go_enter Tryz.func224,Tryz.ntmps224;go_wp2_with fail;go_ret;exact⟨by rw[h1];simp;omega,rfl⟩
 ·have h1:decide (8<x.size)=false:=by simpa using h
  go_enter Tryz.func224,Tryz.ntmps224;go_wp2_with fail;go_ret;exact⟨by rw[h1];simp;omega,rfl⟩
def Io (L:List (List UInt8)) (w:World) (i:Value) (wr:World):Prop:= ∃ k q:Nat,k≤L.length∧i=.int .i64 k∧wr=w.drewN q∧ ∀ j,j<k→dW (L.getD j [])=false
theorem CG {L:List (List UInt8)} {k:Nat} (hk:k<L.length) (h:dW (L.getD k [])=true):L.any dW=true:=by
 rw[List.any_eq_true];refine⟨L[k],List.getElem_mem hk,?_⟩;simpa[List.getD,hk]using h
theorem ya {L:List (List UInt8)} (h: ∀ j,j<L.length→dW (L.getD j [])=false):L.any dW=false:=by
 rw[List.any_eq_false];intro x hx;obtain⟨j,hj,rfl⟩:=List.mem_iff_getElem.1 hx;have:=h j hj;simpa[List.getD,hj]using this
def Gh (L:List (List UInt8)) (w:World) (e:Ending) (w':World):Prop:= ∃ (n:Int) (q:Nat),e=.returned (.int .i64 n)∧decide (0≤n)=L.any dW∧w'=w.drewN q
theorem yu (B g cap:Nat) (L:List (List UInt8)) (w:World) (h:gi w B (.slice (some ⟨g,0,none⟩) L.length cap) L) (hL:L.length≤1000000):
  Calls prog 248 #[.slice (some ⟨g,0,none⟩) L.length cap,.func (.func 224) #[] #[]] w (Gh L w):=by
 have HR:=zH h;clear h;go_enter Tryz.func248,Tryz.ntmps248
 go_wp2
 go_loopw [8] (fun i wr=>Io L w i wr) (fun i _=>L.length - (intOf i).toNat)
 case atStart=>exact⟨0,0,Nat.zero_le _,rfl,rfl,fun j hj=>absurd hj (Nat.not_lt_zero _)⟩
 case round=>
  obtain⟨k,q,hk,rfl,rfl,hno⟩:=hrel;have HN:=zH hno;clear hno
  by_cases hlt:k<L.length
  ·have hc:=(HR.out.drewN q).cell k hlt
   have hsz:=av (L.getD k []);generalize hx:ah (L.getD k [])=x at*;have HX:=zH hx;clear hx
   by_cases hlong:8<x.size
   ·have hd:decide (8<x.size)=true:=by simpa using hlong
    have HS:=zH hsz;clear hsz;go_wp2_with (go_at_call 224;refine(Dm _ _).mono ?_;rintro e w1 ⟨rfl,rfl⟩);go_ret;refine⟨k,q,rfl,?_,rfl⟩;rw[CG hlt (by unfold dW;rw[←HS.out];simpa using hlong)];simp
   ·have hd:decide (8<x.size)=false:=by simpa using hlong
    have HS:=zH hsz;clear hsz;go_wp2_with (go_at_call 224;refine(Dm _ _).mono ?_;rintro e w1 ⟨rfl,rfl⟩);go_roundw
    case rel=>
     refine⟨k+1,q,by omega,by go_num,rfl,fun j hj=>?_⟩
     by_cases e:j=k
     ·subst e
      unfold dW;rw[←HS.out];simpa using hlong
     ·exact HN.out j oM
    case measure=>simp[intOf];omega
  ·go_wp2
   go_ret;refine⟨-1,q,rfl,?_,rfl⟩;rw[ya fun j hj=>HN.out j oM];rfl
theorem sX (B g cap:Nat) (L:List (List UInt8)) (w:World) (h:gi w B (.slice (some ⟨g,0,none⟩) L.length cap) L) (hL:L.length≤1000000):
  Calls prog 223 #[.slice (some ⟨g,0,none⟩) L.length cap,.func (.func 224) #[] #[]] w fun e w'=>e=.returned (.bool (L.any dW))∧ ∃ q,w'=w.drewN q:=by
 have H:=zH (yu B g cap L w h hL);clear h;go_enter Tryz.func223,Tryz.ntmps223;go_wp2_with (go_at_call 248;refine H.out.mono ?_;rintro e w1 ⟨n,q,rfl,hn,rfl⟩;have HN:=zH hn;clear hn);go_ret;exact⟨by rw[←HN.out];rfl,q,rfl⟩
def dt (w:World):Prop:= ∃ m,w.cell? ⟨4,0,none⟩=some (.int .i64 m)
theorem F9 {w:World} (h:w.ShapedOpen prog):dt w:=Tryz.spl146.s1_3 w h
theorem dt.lt {w:World} (h:dt w):4<w.heap.size:=by
 obtain⟨m,hm⟩:=h;exact World.block_lt_of_cell? w _ hm
theorem dt.below {B:Nat} {w w':World} (h:dt w) (hb:Below B w w') (hB:4<B):dt w':=by
 obtain⟨m,hm⟩:=h;exact⟨m,(hb.cell (p:=⟨4,0,none⟩) hB).trans hm⟩
theorem dt.below' {w w':World} (h:dt w) (hb:Below w.heap.size w w'):dt w':=h.below hb h.lt
theorem fT (c:UInt8) (s:ByteArray) (B:Nat) (w:World) (hs:s.size≤1000000) (hm:dt w) (hB:B≤w.heap.size):
  Calls prog 13 #[.string s,.string ⟨#[c]⟩] w fun e w'=> ∃ v,e=.returned v∧gi w' B v (parts c s.data.toList)∧Below w.heap.size w w':=by
 obtain⟨m,hm⟩:=hm;refine(Any.strings_Split {Tryz.spl146 with} Tryz.spl146.i9 s ⟨#[c]⟩ m w oM hm (Nat.le_refl _)).mono ?_;rintro e w' ⟨rfl,rfl⟩
 have e1:(Lib.splitB ⟨#[c]⟩ 0 (Lib.countB s ⟨#[c]⟩) s).map Value.string=(parts c s.data.toList).map encStr:=by
  rw[←nI,Lib.map_encStr]
 have e2:=uT c s;have hl:=fP c s.data.toList;rw[aq]at hl;refine⟨_,rfl,?_,(Below.refl _ _).alloc (Nat.le_refl _) _⟩;rw[e1,e2];exact gi.new hB (by unfold maxLen;omega)
theorem jP {p:UInt8→Bool} {l:List UInt8}:l.dropWhile p=[]↔l.all p=true:=by
 induction l with
 |nil=>simp
 |cons x l ih=>
  by_cases h:p x=true
  ·rw[List.dropWhile_cons_of_pos h,ih];simp[h]
  ·rw[List.dropWhile_cons_of_neg h];simp[h]
theorem rH {p:UInt8→Bool} {l:List UInt8} (h:(l.dropWhile p).all p=true):l.dropWhile p=[]:=by
 rcases e:l.dropWhile p with _|⟨x,r⟩
 ·rfl
 ·exfalso
  have h2:=List.all_eq_true.1 h x (by rw[e];simp);have h3:=List.head?_dropWhile_not p l;rw[e]at h3;simp[h2]at h3
theorem um (l cs:List UInt8):Lib.trimS l cs=[]↔l.all (cs.contains ·)=true:=by
 unfold Lib.trimS Lib.trimRightS Lib.trimLeftS;rw[jP,List.all_reverse];constructor
 ·intro h
  have:=jP.1 (rH h)
  rwa[List.all_reverse]at this
 ·intro h
  rw[jP.2 (by rw[List.all_reverse];exact h)];rfl
def rm (e:Ending):Prop:= ∃ y:ByteArray,e=.returned (.string y)∧y.toList.isEmpty=false
theorem ja (cs:ByteArray) (x:ByteArray) (w:World) (hx:x.size≤1000000) (hc:cs.size<4294967281) (ha: ∀ (j:Nat) b,cs.data.toList[j]?=some b→b.toNat<128):
  (x.data.toList.all (cs.data.toList.contains ·)=true→Calls prog 219 #[.string x,.string cs] w fun e w'=>e=.returned (.string ⟨#[]⟩)∧Below w.heap.size w w')∧
  (x.data.toList.all (cs.data.toList.contains ·)=false→Calls prog 219 #[.string x,.string cs] w fun e w'=>rm e∧Below w.heap.size w w'):=by
 have h:=Any.strings_Trim_laid Tryz.tri160 kR x cs w oM hc ha;constructor
 ·intro hall
  refine h.mono ?_;rintro e w' ⟨rfl,hb⟩;rw[(um _ _).2 hall];exact⟨rfl,hb⟩
 ·intro hall
  refine h.mono ?_;rintro e w' ⟨rfl,hb⟩;refine⟨⟨_,rfl,?_⟩,hb⟩;have:Lib.trimS x.data.toList cs.data.toList≠ []:=fun e=>by rw[(um _ _).1 e]at hall;cases hall
  show(ah _).toList.isEmpty=false
  rw[bn];simpa using this
theorem rq {p:UInt8→Bool}: ∀ l:List UInt8,(∀ x∈l,p x=true)→l.takeWhile p=l∧l.dropWhile p=[]
 |[],_=>⟨rfl,rfl⟩
 |x::l,h=>by
  obtain⟨h1,h2⟩:=rq l fun y hy=>h y (List.mem_cons_of_mem _ hy)
  rw[List.takeWhile_cons,List.dropWhile_cons,if_pos (h x (List.mem_cons_self ..)),if_pos (h x (List.mem_cons_self ..)),h1,h2];exact⟨rfl,rfl⟩
theorem F6 (l:List UInt8):Lib.cut l [32]=(dd l,bY l,decide (32∈l)):=by
 by_cases h:(32:UInt8)∈l
 ·obtain⟨a,b,rfl,ha⟩:=oI h
  obtain⟨h1,h2⟩:=oY (b:=b) ha
  have hi:Lib.index (a++32::b) [32]=(a.length:Int):=by
   refine Lib.index_first (by simp) ?_ ?_
   ·rw[Lib.occAt_iff_take _ _ _ (by simp)]
    simp
   ·intro j hj
    rcases ho:Lib.occAt (a++32::b) [32] j with _|_
    ·rfl
    ·exfalso
     have:=Lib.occAt_head rfl ho;rw[List.getElem?_append_left hj]at this;exact ha (List.mem_of_getElem? this)
  unfold Lib.cut;rw[hi,if_pos oM,h1,h2,decide_eq_true h];simp
 ·have hi:Lib.index l [32]= -1:=by
   refine Lib.index_none fun j _=>?_
   rcases ho:Lib.occAt l [32] j with _|_
   ·rfl
   ·exact absurd (List.mem_of_getElem? (Lib.occAt_head rfl ho)) h
  have hall: ∀ x∈l,(x != 32)=true:=fun x hx=>by
   have:x≠32:=fun e=>h (by rw[←e];exact hx)
   simpa using this
  unfold Lib.cut dd bY;rw[hi,if_neg dC,decide_eq_false h,(rq l hall).1,(rq l hall).2];rfl
theorem yi (s:ByteArray):(Lib.lastIndexByte s 32= -1∧kK s.data.toList=none)∨
  ∃ i:Nat,i<s.size∧Lib.lastIndexByte s 32=i∧kK s.data.toList=some (s.data.toList.take i,s.data.toList.drop (i+1)):=by
 have hz:s.data.toList.length=s.size:=aq s
 have hget: ∀ j,j<s.size→s.data.toList[j]?=some (s.data[j]!):=fun j hj=>by
  have hj':j<s.data.size:=hj;rw[Array.getElem?_toList,Array.getElem?_eq_getElem hj',getElem!_pos s.data j hj']
 rcases Lib.lastIndexByte_spec s 32 with⟨h1,h2⟩|⟨i,hi,h1,h2,h3⟩
 ·refine .inl ⟨h1,?_⟩
  unfold kK;rw[if_neg];intro hm;obtain⟨j,hj⟩:=List.mem_iff_getElem?.1 hm;have hlt:=(List.getElem?_eq_some_iff.1 hj).1;rw[hget j oM]at hj;have:=h2 j oM;rw[Option.some.inj hj]at this;exact this rfl
 ·refine .inr ⟨i,hi,h1,?_⟩
  have hb:s.data[i]! =32:=by
   apply UInt8.toNat_inj.1;have:((s.data[i]!).toNat:Int)=32:=h2
   show(s.data[i]!).toNat=32
   omega
  have he:s.data.toList=s.data.toList.take i++32::s.data.toList.drop (i+1):=by
   have h4:=List.take_append_drop i s.data.toList;have hlt:i<s.data.toList.length:=by omega
   rw[List.drop_eq_getElem_cons hlt]at h4;have h5:=hget i hi;rw[List.getElem?_eq_getElem hlt]at h5;rw[Option.some.inj h5,hb]at h4;exact h4.symm
  have hf:(32:UInt8) ∉ s.data.toList.drop (i+1):=by
   intro hm;obtain⟨j,hj⟩:=List.mem_iff_getElem?.1 hm;rw[List.getElem?_drop]at hj;have hlt:=(List.getElem?_eq_some_iff.1 hj).1;rw[hget _ oM]at hj;have:=h3 (i+1+j) oM oM;rw[Option.some.inj hj]at this;exact this rfl
  have:=qP (x:=s.data.toList.take i) hf;rw[←he]at this;exact this
open Go.Lib
attribute [local go_sem] Oper.semAt_some
theorem t7 {c:UInt8} (b:List UInt8): ∀ {a:List UInt8},c ∉ a→Lib.index (a++c::b) [c]=(a.length:Int)
 |[],_=>by simp[Lib.index,List.isPrefixOf]
 |x::a,ha=>by
  simp only[List.mem_cons,not_or]at ha;have hp:([c]:List UInt8).isPrefixOf (x::(a++c::b))=false:=by simp[List.isPrefixOf,ha.1]
  rw[List.cons_append,Lib.index,hp,t7 b ha.2];simp
theorem rx {c:UInt8}: ∀ {l:List UInt8},c ∉ l→Lib.index l [c]= -1
 |[],_=>by simp[Lib.index]
 |x::l,h=>by
  simp only[List.mem_cons,not_or]at h;have hp:([c]:List UInt8).isPrefixOf (x::l)=false:=by simp[List.isPrefixOf,h.1]
  rw[Lib.index,hp,rx h.2];simp
def FZ (B:Nat) (w w':World):Prop:=(∃ s,aj w B 9 #[.string s])∧(∃ s,aj w' B 9 #[.string s])∧w.grownBy w' (some B)
def EA (B i:Nat):Prop:=i=B∨i=B+1∨i=B+1+1∨i=4
def xS (B:Nat) (w w':World):Prop:= ∀ i o,EA B i→w.heap[i]?=some o→o.isCells=true→w'.heap[i]?=some o
theorem zh {B:Nat} {a b c:World} (h:xS B a b) (k:xS B b c):xS B a c:=fun i o hr hi ho=>k i o hr (h i o hr hi ho) ho
theorem Dn {B:Nat} (W:World) (l:Nat) (o o':Obj) (h:W.heap[l]?=some o) (ho:o.isCells=false):xS B W (W.putObj l o'):=fun i p _ hi hp=>by
 refine(World.putObj_heap_other ?_).trans hi;rintro rfl;rw[h]at hi;cases hi;rw[ho]at hp;cases hp
theorem yI {B:Nat} (w w':World) (h:FZ B w w'):KeepsOthers w w':=by
 obtain⟨⟨s,hs⟩,_,hg⟩:=h
 exact KeepsOthers.of_grownBy hg (fun j o hj ho=>by
  cases hj;unfold aj at hs;rw[hs]at ho;cases ho;rfl)
theorem D9 (w:World) (g:Nat) (p:Addr) (hp:p.block=g) (u:Value):w.grownBy (w.setCell p u) (some g):=ag (bT w (some g)) (.inl hp) u
def Jf (w:World) (B:Nat):Nat:=match w.cell? ⟨B,0,none⟩with|some (.string s)=>s.size|_=>0
structure j9 (B:Nat) (s:ByteArray) (w:World):Prop where
 s:aj w B 9 #[.string s]
 sep:aj w (B+1) 9 #[.string ⟨#[10]⟩]
 save:aj w (B+1+1) 3 #[.int .i64 0]
 max:dt w
theorem j9.kept {B:Nat} {s:ByteArray} {w w':World} (h:j9 B s w) (k:xS B w w'):j9 B s w':=by
 obtain⟨h1,h2,h3,m,h4⟩:=h;refine⟨k _ _ (.inl rfl) h1 rfl,k _ _ (.inr (.inl rfl)) h2 rfl,k _ _ (.inr (.inr (.inl rfl))) h3 rfl,m,?_⟩;obtain⟨o,ho,hc⟩:=cells_of_cell h4;exact(World.cell?_of_block ((k _ o (.inr (.inr (.inr rfl))) ho hc).trans ho.symm)).trans h4
theorem j9.lt {B:Nat} {s:ByteArray} {w:World} (h:j9 B s w):B+1+1<w.heap.size:=h.save.lt
theorem C5 (n B:Nat) (hn:1≤n) (t:ByteArray) (w:World) (ht:t.size≤100000) (h:j9 B t w) (hB:4<B):
  Ak Fence.wide n prog 56 #[.pointer (some ⟨B+1,0,none⟩),.pointer (some ⟨B,0,none⟩),.pointer (some ⟨B+1+1,0,none⟩)] (fun x:List UInt8=>.string (ah x)) (parts 10 t.data.toList) (FZ B) (xS B) w:=by
 intro l J W hW hT hY h0;have hat:j9 B t W:=⟨h.s.below' hW,h.sep.below' hW,h.save.below' hW,h.max.below' hW⟩;have e1:=hat.sep.cell 0;refine callsIn_of_wp Tryz.func56 rfl trivial ?_ rfl;simp only[Tryz.ntmps56,List.size_toArray,List.length_cons,List.length_nil,Nat.reduceAdd,Nat.reduceSub,Array.replicate_succ,Array.replicate_zero,List.push_toArray,List.append_toArray,List.nil_append,List.cons_append]
 gi_wp2
 gi_loopw [7] (fun _ wr=> ∃ (pre:List (List UInt8)) (s:ByteArray),J pre wr∧j9 B s wr∧s.size≤100000∧parts 10 t.data.toList=pre++parts 10 s.data.toList)
  (fun _ wr=>Jf wr B)
 case atStart=>exact⟨[],t,h0,hat,ht,rfl⟩
 case round=>
  obtain⟨pre,s,hj,hs,hsz,hp⟩:=hrel;obtain⟨m,hm⟩:=hs.max;have e0:=hs.s.cell 0;have e1:=hs.sep.cell 0;have e2:=hs.save.cell 0;have ez:=hs.s.frozen 0;have hf:Fence.wide.fn 58:=trivial;have HI:=zH (Tryz.strings_Index s ⟨#[10]⟩ m wr oM hm)
  by_cases hc:(10:UInt8)∈s.data.toList
  ·obtain⟨a,b,hab,ha⟩:=oI hc
   have HX:=zH (show Lib.index s.data.toList [10]=(a.length:Int) by rw[hab];exact t7 b ha);have hlen:s.size=a.length+(b.length+1):=by rw[←aq,hab];simp
   have hsl:s.extract 0 a.length=ah a:=by
    apply ByteArray.ext;rw[ByteArray.data_extract];apply Array.toList_inj.1;rw[Array.toList_extract,hab];simp[ah]
   have hsr:s.extract (a.length+1) (a.length+(b.length+1))=ah b:=by
    apply ByteArray.ext;rw[ByteArray.data_extract];apply Array.toList_inj.1;rw[Array.toList_extract,hab,List.extract_eq_take_drop,show a++10::b=(a++[10])++b by simp,List.drop_left' (by simp),List.take_of_length_le oM];rfl
   have hpp:parts 10 t.data.toList=(pre++[a])++parts 10 b:=by rw[hp,hab,kM ha];simp
   obtain⟨fn,tmps,assign,body,hy,hR⟩:=hY pre a wr hj ⟨parts 10 b,hpp.symm⟩;have HR:=zH hR;clear hR
   gi_wp2_with (gi_at_call 58;refine(callsIn_wide.2 HI.out).mono ?_;rintro e w' ⟨rfl,hw⟩;obtain rfl:=hw.symm;rw[show(⟨#[10]⟩:ByteArray).data.toList=[10]from rfl,HX.out])
   refine HR.out.mono ?_;rintro e w3 ⟨rfl,hj3,hk3⟩;have hs3:=hs.kept hk3;have e30:=hs3.s.cell 0;have e31:=hs3.sep.cell 0;have ez3:=hs3.s.frozen 0;have hb0:B<w3.heap.size:=hs3.s.lt
   gi_wp2
   have hbk:aj (w3.setCell ⟨B,0,none⟩ (.string (ah b))) B 9 #[.string (ah b)]:=hs3.s.set_ 0 _;have hst:FZ B w3 (w3.setCell ⟨B,0,none⟩ (.string (ah b))):=⟨⟨s,hs3.s⟩,⟨_,hbk⟩,D9 w3 B ⟨B,0,none⟩ rfl _⟩;refine⟨⟨pre++[a],ah b,hT _ _ _ hj3 hst,⟨hbk,hs3.sep.far (by simp) _,hs3.save.far (by simp;omega) _,?_⟩,?_,by rw[ak];exact hpp⟩,?_⟩
   ·obtain⟨m3,hm3⟩:=hs3.max
    exact⟨m3,(World.cell?_of_block (Below.heap_setCell w3 ⟨B,0,none⟩ _ 4 (by simp;omega))).trans hm3⟩
   ·show b.length≤100000
    omega
   ·unfold Jf
    rw[hbk.cell 0,e0]
    show(ah b).size<s.size
    show b.length<s.size
    omega
  ·have HX:=zH (show Lib.index s.data.toList [10]= -1 from rx hc)
   have hpp:parts 10 t.data.toList=pre++[s.data.toList]:=by rw[hp,eQ hc]
   obtain⟨fn,tmps,assign,body,hy,hR⟩:=hY pre s.data.toList wr hj ⟨[],by rw[hpp];simp⟩;rw[bJ]at hy;have HR:=zH hR;clear hR
   gi_wp2_with (gi_at_call 58;refine(callsIn_wide.2 HI.out).mono ?_;rintro e w' ⟨rfl,hw⟩;obtain rfl:=hw.symm;rw[show(⟨#[10]⟩:ByteArray).data.toList=[10]from rfl,HX.out])
   refine HR.out.mono ?_;rintro e w3 ⟨rfl,hj3,hk3⟩
   gi_wp2
   go_end0
   exact⟨⟨_,rfl⟩,by rw[hpp];exact hj3⟩
end Go.Proofs.YtepjcdjpikbbjaaGreatDoor
