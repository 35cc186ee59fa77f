/-
  The tag, by the reference's text: FormatUint at base 16.
-/
import Derived.Test.YtepjcdjpikbbjaaGreatDoorU00
import Derived.Test.YtepjcdjpikbbjaaGreatDoorU07
import Derived.Test.YtepjcdjpikbbjaaGreatDoorU13
import Derived.Shelf.Slices.Delete
import Derived.Deep.MidRow
import Derived.Laws.Rows
import Derived.Test.YtepjcdjpikbbjaaGreatDoorU05
set_option maxHeartbeats 8000000
set_option maxRecDepth 100000
namespace Go.Proofs.YtepjcdjpikbbjaaGreatDoor
open Go.Proofs.Tryz
open Go.RowKit
def cW (w:World):Prop:=w.cell? ⟨9,15,none⟩=some (.int .u8 4)
theorem cW.lt {w:World} (h:cW w):9<w.heap.size:=by
 unfold cW at h;rcases Nat.lt_or_ge 9 w.heap.size with h'|h'
 ·exact h'
 ·simp[World.cell?,Array.getElem?_eq_none h']at h
theorem cW.below {B:Nat} {w w':World} (h:cW w) (hb:Below B w w') (hB:9<B):cW w':=by
 unfold cW at*;rw[hb.cell (p:=⟨9,15,none⟩) hB];exact h
theorem FI (w:World):Calls prog 217 #[.int .i64 16] w fun e w'=>e=.returned (.bool true)∧w=w':=by
 have h:bits .and .i64 16 15=0:=by decide
 go_enter Tryz.func217,Tryz.ntmps217
 go_wp2
 go_ret;exact⟨rfl,rfl⟩
theorem Gb (w:World) (hT:cW w):Calls prog 240 #[.int .u64 16] w fun e w'=>e=.returned (.int .i64 4)∧w=w':=by
 unfold cW at hT;have h1:bits .and .u64 16 (IntKind.u64.wrap (-16))=16:=by decide
 have h2:IntKind.u64.wrap (16*285870213051353865) / 288230376151711744=15:=by decide
 have h3:IntKind.u64.wrap 4573923408821661840 / 288230376151711744=15:=by decide
 go_enter Tryz.func240,Tryz.ntmps240
 go_wp2
 go_ret;exact⟨rfl,rfl⟩
theorem Jg (w:World) (hT:cW w):Calls prog 218 #[.int .u64 16] w fun e w'=>e=.returned (.int .i64 4)∧w=w':=by
 have HT:=zH hT;clear hT;go_enter Tryz.func218,Tryz.ntmps218;go_wp2_with (go_at_call 240;refine(Gb _ HT.out).mono ?_;rintro e w1 ⟨rfl,rfl⟩);go_ret;exact⟨rfl,rfl⟩
theorem Dc (d:Nat) (hd:d<16):Value.int .u8 (((⟨#[48,49,50,51,52,53,54,55,56,57,97,98,99,100,101,102,103,104,105,106,107,108,109,110,111,112,113,114,115,116,117,118,119,120,121,122]⟩:ByteArray)[d]'(Nat.lt_of_lt_of_le hd dC)).toNat:Int)=ll (sO d):=by
 have h:d=0∨d=1∨d=2∨d=3∨d=4∨d=5∨d=6∨d=7∨d=8∨d=9∨d=10∨d=11∨d=12∨d=13∨d=14∨d=15:=by omega
 rcases h with h|h|h|h|h|h|h|h|h|h|h|h|h|h|h|h<;>subst h<;>rfl
theorem pT (d:Nat) (hd:d<16) (w:World):(Instr.index 9 (.string ⟨#[48,49,50,51,52,53,54,55,56,57,97,98,99,100,101,102,103,104,105,106,107,108,109,110,111,112,113,114,115,116,117,118,119,120,121,122]⟩) (.int .u64 (d:Int))).run prog w=.ok (.int .u8 ((sO d).toNat:Int)) w:=by
 have hs:(⟨#[48,49,50,51,52,53,54,55,56,57,97,98,99,100,101,102,103,104,105,106,107,108,109,110,111,112,113,114,115,116,117,118,119,120,121,122]⟩:ByteArray).size=36:=rfl;rw[run_index_string w 9 _ .u64 (d:Int) underlying9,dif_pos ⟨by omega,by rw[hs];omega⟩];have h1:=Dc d hd;unfold ll at h1;rw[←h1];rfl
def mQ (n j:Nat):List UInt8:=List.replicate (65 - j) 0++ff j n
theorem ol (n j:Nat) (h:j≤65):(mQ n j).length=65:=by
 unfold mQ;rw[List.length_append,List.length_replicate,dZ];omega
theorem uD (n j:Nat) (h:j<65):(mQ n j).set (64 - j) (sO (n / 16 ^ j % 16))=mQ n (j+1):=by
 unfold mQ
 rw[lX,show 65 - j=(64 - j)+1 from by omega,show 65 - (j+1)=64 - j from by omega,List.replicate_succ',List.append_assoc,
  List.set_append_right _ _ (by rw[List.length_replicate];omega),List.length_replicate,Nat.sub_self]
 rfl
def Hm (W:World) (g n:Nat) (u i:Value) (w:World):Prop:=
 ∃ j k m:Nat,j≤15∧i=.int .i64 k∧k=65 - j∧u=.int .u64 m∧m=n / 16 ^ j∧BA w g 275 (mQ n j)∧Below W.heap.size W w
theorem F3 (k g:Nat) (hk:k≤64) (w:World):(Instr.sliceAt 275 (.pointer (some ⟨g,0,none⟩)) (some (.int .i64 (k:Int))) none none).run prog w=.ok (.slice (some ⟨g,k,none⟩) (65 - k) (65 - k)) w:=by
 have hal:prog.arrayLen 275=65:=kR;have hel:(sizeOf (prog.elem 275)).run prog w=.ok 1 w:=kR;have hun:prog.underlying 275=some (.array (prog.arrayLen 275) (prog.elem 275)):=kR;rw[run_sliceAt_array_l w 275 ⟨g,0,none⟩ hun .i64 (k:Int) oM (by rw[hal];omega),hel,hal];have h1: ¬ 65=k:=by omega
 simp only[Result.andThen,slicedAt,Int.toNat_natCast,h1,if_false,Nat.mul_one];unfold Addr.add
 by_cases h0:k=0
 ·subst h0;rfl
 ·rw[if_neg h0];simp
theorem Gx (n j:Nat) (hn:n<18446744073709551616) (h:16≤n / 16 ^ j):j≤14:=by
 rcases Nat.lt_or_ge 14 j with h1|h1
 ·have h2:(16:Nat) ^ 15≤16 ^ j:=Nat.pow_le_pow_right oM h1
  have h3:n / 16 ^ j≤n / 16 ^ 15:=Nat.div_le_div_left h2 (Nat.pow_pos oM);have h4:n / 16 ^ 15<16:=by rw[Nat.div_lt_iff_lt_mul (Nat.pow_pos oM)];omega
  omega
 ·exact h1
theorem Ch (n j:Nat) (h:n / 16 ^ j<16):n<16 ^ (j+1):=by
 rw[Nat.div_lt_iff_lt_mul (Nat.pow_pos oM)]at h;rw[Nat.pow_succ];omega
theorem yc (n:Nat) (W:World) (hn:n<18446744073709551616) (hT:cW W):
  Calls prog 176 #[.slice none 0 0,.int .u64 n,.int .i64 16,.bool false,.bool false] W fun e w'=>
   (∃ k,1≤k∧k≤16∧n<16 ^ k∧e=.returned (.tuple #[.slice none 0 0,.string ⟨(ff k n).toArray⟩]))∧Below W.heap.size W w':=by
 have HT:=zH hT;have HN:=zH hn;clear hT hn;go_enter Tryz.func176,Tryz.ntmps176
 go_wp2_with (first
  |(go_at_call 217;refine(FI _).mono ?_;rintro e w1 ⟨rfl,rfl⟩)
  |(go_at_call 218;refine(Jg _ (HT.out.below ((Below.refl _ _).alloc (Nat.le_refl _) _) HT.out.lt)).mono ?_;rintro e w1 ⟨rfl,rfl⟩))
 go_loopw [1,13] (fun u i wr=>Hm W W.heap.size n u i wr) (fun u _ _=>(intOf u).toNat)
 case atStart=>exact⟨0,65,n,by omega,rfl,rfl,rfl,by simp,aj.new W _ _,(Below.refl _ _).alloc (Nat.le_refl _) _⟩
 case round=>
  obtain⟨j,k,m,hj,rfl,hk,rfl,hm,hba,hbl⟩:=hrel;obtain⟨k,rfl⟩: ∃ k',k=k'+1:=⟨k - 1,by omega⟩;have hk64:k=64 - j:=by omega
  have hkb:k≤64:=by omega
  have HJ:=zH hj;have HK:=zH hk64;have HM:=zH hm;have HBA:=zH hba;have HBL:=zH hbl;have hm64:m<18446744073709551616:=by rw[hm];exact Nat.lt_of_le_of_lt (Nat.div_le_self _ _) HN.out
  obtain⟨d,hd⟩: ∃ d,d=m % 16:=⟨_,rfl⟩;have hd16:d<16:=by omega
  have hand:bits .and .u64 (m:Int) 15=(d:Int):=by rw[He _ hm64,hd]
  have hix: ∀ w:World,(Instr.index 9 (.string ⟨#[48,49,50,51,52,53,54,55,56,57,97,98,99,100,101,102,103,104,105,106,107,108,109,110,111,112,113,114,115,116,117,118,119,120,121,122]⟩) (.int .u64 (d:Int))).run prog w=.ok (.int .u8 ((sO d).toNat:Int)) w:=pT d hd16;have HD:=zH hd;have hlen:=ol n j oM;have hcell:=hba.cell k oM;unfold ll at hcell;generalize ((mQ n j)[k]'oM).toNat=z at hcell;have hfr:=aj.frozen hba k;clear hk hk64 hj hm hba hbl hd hlen
  by_cases h16:16≤m
  ·have hj14:j≤14:=Gx n j HN.out (by rw[←HM.out];exact h16)
   clear hm64;go_wp2_with fail;refine⟨⟨j+1,k,m / 16,by omega,rfl,by rw[HK.out];omega,by simp,by rw[HM.out,Nat.div_div_eq_div_mul,Nat.pow_succ],?_,HBL.out.setCell (p:=⟨W.heap.size,k,none⟩) (Nat.le_refl _) _⟩,by simp[intOf];omega⟩;have h1:=HBA.out.set_ k (sO d);rw[HD.out,HM.out,HK.out,uD n j oM,←HM.out,←HD.out]at h1;rw[HK.out];exact h1
  ·clear hm64 hand hix HD d hd16
   have hm16:m<16:=by omega
   have hix: ∀ w:World,(Instr.index 9 (.string ⟨#[48,49,50,51,52,53,54,55,56,57,97,98,99,100,101,102,103,104,105,106,107,108,109,110,111,112,113,114,115,116,117,118,119,120,121,122]⟩) (.int .u64 (m:Int))).run prog w=.ok (.int .u8 ((sO m).toNat:Int)) w:=pT m hm16
   have hBA2:BA (wr.setCell ⟨W.heap.size,k,none⟩ (.int .u8 ((sO m).toNat:Int))) W.heap.size 275 (mQ n (j+1)):=by
    have h1:=HBA.out.set_ k (sO m);have h2:m=n / 16 ^ j % 16:=by rw[←HM.out];omega
    rw[show sO m=sO (n / 16 ^ j % 16)from by rw[←h2],HK.out,uD n j (by have:=HJ.out;omega),←h2,←HK.out]at h1;exact h1
   have hstr:=hBA2.string (P:=prog) 36 9 5 underlying36 underlying5 underlying9 k (65 - k) (65 - k) (by rw[ol n (j+1) (by have:=HJ.out;omega)];omega)
   rw[show(mQ n (j+1)).drop k=ff (j+1) n from by
    rw[HK.out];unfold mQ;rw[List.drop_append_of_le_length (by rw[List.length_replicate];omega),List.drop_of_length_le (by rw[List.length_replicate];omega),List.nil_append]]at hstr
   have hlt:=Ch n j (by rw[←HM.out];exact hm16);have HLT:=zH hlt;clear hBA2 hlt;obtain⟨H,hH⟩: ∃ H,H=ff (j+1) n:=⟨_,rfl⟩;rw[←hH]at hstr;have HH:=zH hH;clear hH;have hsl:=F3 k W.heap.size hkb;go_wp2_with fail;go_ret2;exact⟨⟨j+1,by omega,by have:=HJ.out;omega,HLT.out,by rw[←HH.out];rfl⟩,HBL.out.setCell (p:=⟨W.heap.size,k,none⟩) (Nat.le_refl _) _⟩
theorem yd (n:Nat) (W:World) (hn:n<18446744073709551616) (hT:cW W):
  Calls prog 97 #[.int .u64 n,.int .i64 16] W fun e w'=>
   (∃ k,1≤k∧k≤16∧n<16 ^ k∧e=.returned (.string ⟨(ff k n).toArray⟩))∧Below W.heap.size W w':=by
 have inner:Calls prog 146 #[.int .u64 n,.int .i64 16] W fun e w'=>
   (∃ k,1≤k∧k≤16∧n<16 ^ k∧e=.returned (.string ⟨(ff k n).toArray⟩))∧Below W.heap.size W w':=by
  have HF:=zH (yc n W hn hT);clear hn hT;go_enter Tryz.func146,Tryz.ntmps146;go_wp2_with (go_at_call 176;refine HF.out.mono ?_;rintro e w1 ⟨⟨k,k1,k2,k3,rfl⟩,hb⟩);go_ret;exact⟨⟨k,k1,k2,k3,rfl⟩,hb⟩
 have HF:=zH inner;clear inner hn hT;go_enter Tryz.func97,Tryz.ntmps97;go_wp2_with (go_at_call 146;refine HF.out.mono ?_;rintro e w1 ⟨⟨k,k1,k2,k3,rfl⟩,hb⟩);go_ret;exact⟨⟨k,k1,k2,k3,rfl⟩,hb⟩
open Go.Sort
theorem oL {w:World} {g o:Nat} {cur:Array Value} {cs:List Value} (hg:aj w g 95 cur) (hfit:o+cs.length≤cur.size) (h1: ∀ v∈cs,v.oneCell'=true):
  w.setCells g o cs=w.setRow g (cur.toList.take o++cs++cur.toList.drop (o+cs.length)).toArray:=by
 have a:=run_storeCells_at prog g o _ cs 0 cur w hg (by simpa using hfit) h1;have b:=run_storeCells_cells (P:=prog) g o cs 0 w (fun j hj=>by rw[hg.cell,Array.getElem?_eq_getElem oM];rfl) (fun j _=>hg.frozen _) h1;rw[a]at b;simp only[Result.ok.injEq,Nat.add_zero]at b;exact b.2.symm
theorem D7 (w:World):(zeroValue 95).run prog w=.ok (.agg (af an.zero)) w:=kR
theorem zC:Builtin.zeroCells (Value.agg (af an.zero)).cells 1=af an.zero:=by
 apply Array.ext
 ·simp[Builtin.zeroCells,Value.cells,af]
 ·intro i h1 h2
  have h2':i<9:=h2;simp only[Builtin.zeroCells,Value.cells,Array.getElem_map,Array.getElem_range];rw[show i % (af an.zero).size=i from Nat.mod_eq_of_lt h2,getElem!_pos (af an.zero) i h2]
theorem sS (W:World) (ty:TypeId) (g o c:Nat) (cur:Array Value) (hg:aj W g 95 cur) (hfit:o+9≤cur.size):
  (Builtin.clear_ #[81] ty #[.slice (some ⟨g,o,none⟩) 1 c]).run prog W=.ok (.tuple #[]) (W.setRow g (cur.toList.take o++(af an.zero).toList++cur.toList.drop (o+9)).toArray):=by
 have hst:=run_storeCells_at prog g o _ (af an.zero).toList 0 cur W hg hfit (fun v hv=>dO (L:=[an.zero]) (by simpa[aH]using hv));have hzc:Builtin.zeroCells (Value.agg (af an.zero)).cells 1=af an.zero:=zC;simp only[Nat.add_zero]at hst;have hz:=D7 W;have hZ:(af an.zero).size=9:=rfl;generalize af an.zero=Z at hst hzc hz hZ ⊢;simp[Builtin.clear_,run_underlying underlying81,hz,hzc,hst,hZ]
theorem Ck {L:List an} {xs:List Value} {i c:Nat} (hx:xs.length=c*9) (ht:xs.take (L.length*9)=aH L) (hi:i<L.length) (hc:L.length≤c):
  let c1:=xs.take (i*9)++aH (L.drop (i+1))++xs.drop (i*9+(aH (L.drop (i+1))).length)
  let c2:=c1.take ((L.length - 1)*9)++(af an.zero).toList++c1.drop ((L.length - 1)*9+9)
  c1.length=c*9∧c2.length=c*9∧c2.take ((L.length - 1)*9)=aH (L.take i++L.drop (i+1)):=by
 intro c1 c2;have hd:(aH (L.drop (i+1))).length=(L.length - (i+1))*9:=by rw[bI,List.length_drop]
 have hf:(af an.zero).toList.length=9:=rfl;have htk:xs.take (i*9)=aH (L.take i):=by rw[mi,←ht,List.take_take];congr 1;omega
 have hl:(aH (L.take i)).length=i*9:=by rw[bI,List.length_take];congr 1;omega
 have h1:c1.length=c*9:=by
  show(xs.take (i*9)++aH (L.drop (i+1))++xs.drop (i*9+(aH (L.drop (i+1))).length)).length=_
  simp only[List.length_append,List.length_take,List.length_drop,hd,hx];omega
 have ht1:c1.take ((L.length - 1)*9)=aH (L.take i++L.drop (i+1)):=by
  show(xs.take (i*9)++aH (L.drop (i+1))++xs.drop (i*9+(aH (L.drop (i+1))).length)).take ((L.length - 1)*9)=_
  have hll:(aH (L.take i)++aH (L.drop (i+1))).length=(L.length - 1)*9:=by rw[List.length_append,hl,hd];omega
  rw[htk,j2,←hll,List.take_left]
 refine⟨h1,?_,?_⟩
 ·show(c1.take ((L.length - 1)*9)++(af an.zero).toList++c1.drop ((L.length - 1)*9+9)).length=_
  simp only[List.length_append,List.length_take,List.length_drop,h1,hf];omega
 ·show(c1.take ((L.length - 1)*9)++(af an.zero).toList++c1.drop ((L.length - 1)*9+9)).take ((L.length - 1)*9)=_
  have hll:(c1.take ((L.length - 1)*9)).length=(L.length - 1)*9:=by rw[List.length_take,h1];omega
  rw[List.append_assoc,List.take_append_of_le_length oM,List.take_take,Nat.min_self,ht1]
theorem yZ (B i:Nat) (v:Value) (L:List an) (w:World) (h:aD w B v L) (hi:i<L.length) (hL:L.length≤1000000):
  Calls prog 114 #[v,.int .i64 i,.int .i64 ((i:Int)+1)] w fun e w'=> ∃ v',e=.returned v'∧aD w' B v' (L.take i++L.drop (i+1))∧w.grownBy w' v.ownBlock:=by
 rcases h.block with⟨rfl,rfl⟩|⟨g,cap,cur,rfl,hBg,hb,hlc,hm,hc,ht⟩
 ·simp at hi
 obtain⟨i0,hi0,hz0,hzs,hzb⟩:=info_parts kO;have hcl:cur.toList.length=cap*9:=by rw[Array.length_toList];exact hc
 obtain⟨k1,k2,k3⟩:=Ck hcl ht hi hlc;have hd:(aH (L.drop (i+1))).length=(L.length - (i+1))*9:=by rw[bI,List.length_drop]
 obtain⟨c1,hc1⟩: ∃ c1:Array Value,c1=(cur.toList.take (i*9)++aH (L.drop (i+1))++cur.toList.drop (i*9+(aH (L.drop (i+1))).length)).toArray:=⟨_,rfl⟩;have hc1l:c1.toList=cur.toList.take (i*9)++aH (L.drop (i+1))++cur.toList.drop (i*9+(aH (L.drop (i+1))).length):=by rw[hc1]
 rw[←hc1l]at k1 k2 k3;obtain⟨W1,hW1⟩: ∃ W1,W1=w.drew.setCells g (0+i*9) (aH (L.drop (i+1))):=⟨_,rfl⟩
 have hW1':W1=w.drew.setRow g c1:=by
  rw[hW1,hc1,Nat.zero_add];exact oL hb.drew (by rw[hd,hc];omega) (fun u hu=>dO hu)
 have hb1:aj W1 g 95 c1:=by rw[hW1'];exact hb.drew.row
 obtain⟨c2,hc2⟩: ∃ c2:Array Value,c2=(c1.toList.take ((L.length - 1)*9)++(af an.zero).toList++c1.toList.drop ((L.length - 1)*9+9)).toArray:=⟨_,rfl⟩;have hc2l:c2.toList=c1.toList.take ((L.length - 1)*9)++(af an.zero).toList++c1.toList.drop ((L.length - 1)*9+9):=by rw[hc2]
 have hcr: ∀ ty c,(Builtin.clear_ #[81] ty #[.slice (some ⟨g,(L.length - 1)*9,none⟩) 1 c]).run prog W1=.ok (.tuple #[]) (W1.setRow g c2):=fun ty c=>by
  rw[hc2];exact sS W1 ty g _ c c1 hb1 (by rw[←Array.length_toList,k1];omega)
 rw[←hc2l]at k2 k3;have hlen:(L.take i++L.drop (i+1)).length=L.length - 1:=by simp;omega
 have HFIN:=zH (show aD (W1.setRow g c2) B (.slice (some ⟨g,0,none⟩) (L.take i++L.drop (i+1)).length cap) (L.take i++L.drop (i+1))∧w.grownBy (W1.setRow g c2) (some g)from by
  refine⟨aD.of_block hBg hb1.row oM hm (by rw[←Array.length_toList];exact k2) (by rw[hlen];exact k3),?_⟩;rw[hW1'];exact aU (aU (lZ (bT w (some g))) (dF w.drew g c1)) (dF _ g c2))
 rw[hlen]at HFIN
 obtain⟨A,hA,hsrc⟩: ∃ A:Addr,(if cap=i+1 then some (⟨g,0,none⟩:Addr)else some ⟨g,(i+1)*9,none⟩)=some A∧Hid (∀ t u,(aH (L.drop (i+1)))[t]?=some u→w.drew.cell? (A.add t)=some u):=by
  by_cases hq:cap=i+1
  ·refine⟨⟨g,0,none⟩,by simp[hq],fun t u hu=>?_⟩
   have:=(List.getElem?_eq_some_iff.1 hu).1;omega
  ·refine⟨⟨g,(i+1)*9,none⟩,by simp[hq],fun t u hu=>?_⟩
   have hul:=(List.getElem?_eq_some_iff.1 hu).1;rw[Addr.add_lit]
   show w.cell? ⟨g,(i+1)*9+t,none⟩=some u
   rw[hb.cell,←hu,l9,List.getElem?_drop,←ht,List.getElem?_take,if_pos oM,Array.getElem?_toList]
 have s1:Hid ((aH (L.drop (i+1))).length=(L.length - (i+1))*9):=hd;have s2:Hid (∀ u∈aH (L.drop (i+1)),u.oneCell'=true):=fun u hu=>dO hu
 have s3:Hid (∀ t,t<(aH (L.drop (i+1))).length→(w.drew.cell? ⟨g,0+i*9+t,none⟩).isSome=true∧w.drew.frozen? ⟨g,0+i*9+t,none⟩=false):=fun t htl=>by
  rw[hd]at htl;exact⟨by show(w.cell? _).isSome=true;rw[hb.cell,Array.getElem?_eq_getElem oM];rfl,hb.frozen _⟩
 have HW:=zH hW1;have mixed:prog.follows .mixedOrders=true:=kR;have hic:i≤cap:=by omega
 have hjc:i+1≤cap:=by omega
 have hjn:i+1≤L.length:=by omega
 have hw1:((i:Int)+1).toNat=i+1:=by omega
 have hz1:(0:Int)≤(i:Int)+1:=by omega
 have hz2:(i:Int)≤(i:Int)+1:=by omega
 have hz3: ¬ ((i:Int)=(i:Int)+1):=by omega
 have hz4:(i:Int)+1≤(L.length:Int):=by omega
 have hsum:i+(L.length - (i+1))=L.length - 1:=by omega
 have hone:L.length - (L.length - 1)=1:=by omega
 have hz5: ¬ (cap=L.length - 1):=by omega
 clear k1 k2 k3 hd hcl ht hc1 hc1l hc2 hc2l hb1 hW1 hW1' hb hlen h;go_enter Tryz.func114,Tryz.ntmps114;go_wp2_with fail
 go_region_law_o (refine step_append_room rfl (.tmp 22) (.tmp 25) 81 rfl 95 i0 9 underlying81 hi0 hzs g 0 i cap (by simp[Act.eval,Act.put]) A (L.length - (i+1)) (cap - (i+1)) (aH (L.drop (i+1))) (by simp[Act.eval,Act.put]) s1.out hsrc.out s2.out oM s3.out ?_;rw[←HW.out])
 go_wp2
 go_ret;exact⟨_,rfl,HFIN.out.1,HFIN.out.2⟩
def dN (s:St) (v:Value):Array Value:=#[.int .i64 s.clock,.int .i64 s.next,v]
def dj (s:St) (v:Value):Value:=.agg (dN s v)
structure AP (W:World) (cs:Array Value) (e:Ev) (v:Value) (b vb:Nat) (L:List an) (w:World):Prop where
 below:Below W.heap.size W w
 big:W.heap.size≤b
 vbig:W.heap.size≤vb
 st:aj w b 83 cs
 ev:aj w (b+1) 116 (ax e)
 re:aj w (b+1+1) 83 #[.int .i64 0,.int .i64 0,.slice none 0 0]
 var:aj w vb 81 #[v]
 row:aD w W.heap.size v L
theorem aj.put_ {w:World} {g:Nat} {T:TypeId} {cs cs':Array Value} (h:aj w g T cs) (i:Nat) (u:Value) (he:cs.setIfInBounds i u=cs'):aj (w.setCell ⟨g,i,none⟩ u) g T cs':=by
 have:=h.set_ i u
 rwa[he]at this
theorem aD.slice {w:World} {B:Nat} {v:Value} {L:List an} (h:aD w B v L): ∃ a c,v=.slice a L.length c:=by
 rcases h.parts with⟨rfl,rfl⟩|⟨g,cap,rfl,_⟩
 ·exact⟨_,_,rfl⟩
 ·exact⟨_,_,rfl⟩
theorem aD.apart {w:World} {B g:Nat} {v:Value} {L:List an} {T:TypeId} {cs:Array Value} (h:aD w B v L) (hb:aj w g T cs) (hT:95≠T):v.ownBlock≠some g:=by
 rcases h.block with⟨rfl,rfl⟩|⟨g',cap,cur,rfl,_,hb',_⟩
 ·simp[Value.ownBlock]
 ·have:=hb'.ne_ hb hT
  simpa[Value.ownBlock]using this
theorem aZ (w:World) (g:Nat) (p:Addr) (hp:p.block=g) (u:Value):w.grownBy (w.setCell p u) (some g):=ag (bT w (some g)) (.inl hp) u
section
variable {W:World} {cs:Array Value} {e:Ev} {v:Value} {b vb:Nat} {L:List an} {w w':World}
theorem AP.keep (h:AP W cs e v b vb L w) (hb:Below w.heap.size w w'):AP W cs e v b vb L w':=
 ⟨h.below.trans (hb.mono h.below.size),h.big,h.vbig,h.st.below' hb,h.ev.below' hb,h.re.below' hb,h.var.below' hb,h.row.below hb⟩
theorem AP.nvb (h:AP W cs e v b vb L w):vb≠b∧vb≠b+1∧vb≠b+1+1:=⟨h.var.ne_ h.st dC,h.var.ne_ h.ev dC,h.var.ne_ h.re dC⟩
theorem AP.set (h:AP W cs e v b vb L w) (i:Nat) (u:Value) {cs':Array Value} (hc:cs.setIfInBounds i u=cs'):AP W cs' e v b vb L (w.setCell ⟨b,i,none⟩ u):=by
 obtain⟨n1,n2,n3⟩:=h.nvb;refine⟨h.below.setCell h.big u,h.big,h.vbig,?_,h.ev.far (by show b+1≠b;omega) u,h.re.far (by show b+1+1≠b;omega) u,h.var.far n1 u,h.row.kept (aZ w b ⟨b,i,none⟩ rfl u) (h.row.apart h.st dC)⟩;rw[←hc];exact h.st.set_ i u
theorem AP.inRow {g:Nat} {cur:Array Value} (h:AP W cs e v b vb L w) (hblk:aj w g 95 cur) (hg:W.heap.size≤g) {cur':Array Value} {v':Value} {L':List an} (hv:v'=v) (hr:aD (w.setRow g cur') W.heap.size v' L'):AP W cs e v' b vb L' (w.setRow g cur'):=by
 subst hv;have n:=dF w g cur'
 have hne: ∀ {g' T cs},aj w g' T cs→95≠T→some g'≠some g:=fun hb hT=>by
  have:=hblk.ne_ hb hT;simpa using Ne.symm this
 exact⟨h.below.grown n h.below.size (fun k hk=>by cases hk;exact hg),h.big,h.vbig,h.st.grown n (hne h.st dC),h.ev.grown n (hne h.ev dC),h.re.grown n (hne h.re dC),h.var.grown n (hne h.var dC),hr⟩
theorem AP.mid (h:AP W cs e v b vb L w) (hg:w.grownBy w' v.ownBlock):Below W.heap.size W w'∧aj w' b 83 cs∧aj w' (b+1) 116 (ax e)∧aj w' (b+1+1) 83 #[.int .i64 0,.int .i64 0,.slice none 0 0]∧aj w' vb 81 #[v]:=
 ⟨h.below.grown hg h.below.size (fun k hk=>(h.row.lt k hk).1),h.st.grown hg (Ne.symm (h.row.apart h.st dC)),h.ev.grown hg (Ne.symm (h.row.apart h.ev dC)),h.re.grown hg (Ne.symm (h.row.apart h.re dC)),h.var.grown hg (Ne.symm (h.row.apart h.var dC))⟩
theorem AP.go (h:AP W cs e v b vb L w) (hg:w.grownBy w' v.ownBlock) {v':Value} {L':List an} (hr:aD w' W.heap.size v' L'):AP W cs e v' b vb L' (w'.setCell ⟨vb,0,none⟩ v'):=by
 obtain⟨n1,n2,n3⟩:=h.nvb;obtain⟨k1,k2,k3,k4,k5⟩:=h.mid hg;exact⟨k1.setCell h.vbig v',h.big,h.vbig,k2.far (Ne.symm n1) v',k3.far (Ne.symm n2) v',k4.far (Ne.symm n3) v',k5.set_ 0 v',hr.kept (aZ w' vb ⟨vb,0,none⟩ rfl v') (hr.apart k5 dC)⟩
theorem nS {k0 k1 k2:Value} {T T' T'':TypeId} {z0 z1 z2:Value} {vb:Nat} {v:Value} (st:aj w b T #[k0,k1,k2]) (re:aj w (b+1+1) T' #[z0,z1,z2]) (var:aj w vb T'' #[v]):w.cell? ⟨b,0,none⟩=some k0∧w.cell? ⟨b,1,none⟩=some k1∧w.cell? ⟨b,2,none⟩=some k2∧w.cell? ⟨vb,0,none⟩=some v∧
  w.cell? ⟨b+1+1,0,none⟩=some z0∧w.cell? ⟨b+1+1,1,none⟩=some z1∧w.cell? ⟨b+1+1,2,none⟩=some z2∧(∀ j,w.frozen? ⟨b,j,none⟩=false)∧(∀ j,w.frozen? ⟨b+1+1,j,none⟩=false)∧(∀ j,w.frozen? ⟨vb,j,none⟩=false):=
 ⟨st.cell 0,st.cell 1,st.cell 2,var.cell 0,re.cell 0,re.cell 1,re.cell 2,st.frozen,re.frozen,var.frozen⟩
theorem AP.cells {k0 k1 k2:Value} (h:AP W #[k0,k1,k2] e v b vb L w):w.cell? ⟨b,0,none⟩=some k0∧w.cell? ⟨b,1,none⟩=some k1∧w.cell? ⟨b,2,none⟩=some k2∧w.cell? ⟨vb,0,none⟩=some v∧
 w.cell? ⟨b+1+1,0,none⟩=some (.int .i64 0)∧w.cell? ⟨b+1+1,1,none⟩=some (.int .i64 0)∧w.cell? ⟨b+1+1,2,none⟩=some (.slice none 0 0)∧(∀ j,w.frozen? ⟨b,j,none⟩=false)∧(∀ j,w.frozen? ⟨b+1+1,j,none⟩=false)∧(∀ j,w.frozen? ⟨vb,j,none⟩=false):=nS h.st h.re h.var
end
def cD (W:World) (s':St) (x:Ending) (w':World):Prop:= ∃ v',x=.returned (dj s' v')∧aD w' W.heap.size v' s'.fams∧Below W.heap.size W w'
theorem i7 {W w:World} {A:Act} {s':St} {e:Ev} {v v0:Value} {b vb:Nat} {ck nx:Int} (h:AP W #[.int .i64 ck,.int .i64 nx,v0] e v b vb s'.fams w) (h1:ck=s'.clock) (h2:nx=s'.next)
  (hp:A.tmps.getD 4 undef=.pointer (some ⟨b+1+1,0,none⟩)) (hd:A.defers=[]):
  bodyPost prog Tryz.f54 (cD W s') Exit.ret A ((((w.setCell ⟨b,2,none⟩ v).setCell ⟨b+1+1,0,none⟩ (.int .i64 ck)).setCell ⟨b+1+1,1,none⟩ (.int .i64 nx)).setCell ⟨b+1+1,2,none⟩ v):=by
 subst h1;subst h2;have k:=h.set 2 v rfl;have h1:=k.re.put_ 0 (.int .i64 s'.clock) (cs':=#[.int .i64 s'.clock,.int .i64 0,.slice none 0 0]) rfl;have h2:=h1.put_ 1 (.int .i64 s'.next) (cs':=#[.int .i64 s'.clock,.int .i64 s'.next,.slice none 0 0]) rfl;have hr:=h2.put_ 2 v (cs':=dN s' v) rfl;have g1:=aZ (w.setCell ⟨b,2,none⟩ v) (b+1+1) ⟨b+1+1,0,none⟩ rfl (.int .i64 s'.clock);have g2:=ag g1 (p:=⟨b+1+1,1,none⟩) (.inl rfl) (.int .i64 s'.next);have hg:=ag g2 (p:=⟨b+1+1,2,none⟩) (.inl rfl) v;have hbig:=h.big;have hb:=k.below.grown hg k.below.size (fun j hj=>by cases hj;omega);have hrow:=k.row.kept hg (k.row.apart k.re dC);generalize ((((w.setCell ⟨b,2,none⟩ v).setCell ⟨b+1+1,0,none⟩ (.int .i64 s'.clock)).setCell ⟨b+1+1,1,none⟩ (.int .i64 s'.next)).setCell ⟨b+1+1,2,none⟩ v)=wz at*;exact bodyPost_ret (results_cell_row rfl A.tmps wz _ _ _ (0,0) _ hp hr underlying83 rfl kR) hd ⟨v,rfl,hrow,hb⟩
theorem AV {L:List an} {f:an} {xs:List Value} {k c:Nat} (hx:xs.length=c*9) (ht:xs.take (L.length*9)=aH L) (hk:k<L.length) (hc:L.length≤c):
  let c1:=xs.take (k*9)++(af f).toList++xs.drop (k*9+(af f).toList.length)
  c1.length=c*9∧c1.take (L.length*9)=aH (L.set k f):=by
 intro c1;have hf:(af f).toList.length=9:=rfl;refine⟨?_,?_⟩
 ·show(xs.take (k*9)++(af f).toList++xs.drop (k*9+(af f).toList.length)).length=_
  simp only[List.length_append,List.length_take,List.length_drop,hf,hx];omega
 ·have e0:xs=aH L++xs.drop (L.length*9):=by rw[←ht,List.take_append_drop]
  have e1:xs.take (k*9)=aH (L.take k):=by rw[mi,←ht,List.take_take];congr 1;omega
  have e2:xs.drop (k*9+9)=aH (L.drop (k+1))++xs.drop (L.length*9):=by
   conv=>lhs;rw[e0]
   rw[List.drop_append_of_le_length (by rw[bI];omega),l9,show(k+1)*9=k*9+9 by omega]
  have hl:(aH (L.take k)++(af f).toList++aH (L.drop (k+1))).length=L.length*9:=by
   simp only[List.length_append,bI,hf,List.length_take,List.length_drop];omega
  show(xs.take (k*9)++(af f).toList++xs.drop (k*9+(af f).toList.length)).take (L.length*9)=_
  rw[hf,e1,e2,←List.append_assoc,←hl,List.take_left,pq hk,j2,fR,List.append_assoc]
theorem AP.store {W:World} {cs:Array Value} {e:Ev} {b vb g cap k:Nat} {L:List an} {w:World} {cur:Array Value} (h:AP W cs e (.slice (some ⟨g,0,none⟩) L.length cap) b vb L w) (hBg:W.heap.size≤g) (hblk:aj w g 95 cur) (hlc:L.length≤cap) (hm:cap≤9223372036854775807) (hc:cur.size=cap*9) (ht:cur.toList.take (L.length*9)=aH L) (hk:k<L.length) (f:an):
  AP W cs e (.slice (some ⟨g,0,none⟩) L.length cap) b vb (L.set k f) (w.setCells g (k*9) (af f).toList):=by
 obtain⟨k1,k2⟩:=AV (f:=f) (by rw[Array.length_toList];exact hc) ht hk hlc;rw[oL hblk (by show k*9+9≤_;omega) (fun u hu=>dO (L:=[f]) (by simpa[aH]using hu))];have hr:=aD.of_block (L:=L.set k f) hBg (hblk.row (new:=(cur.toList.take (k*9)++(af f).toList++cur.toList.drop (k*9+(af f).toList.length)).toArray)) (by rw[List.length_set];exact hlc) hm (by rw[←Array.length_toList];exact k1) (by rw[List.length_set];exact k2);rw[List.length_set]at hr;exact h.inRow hblk hBg rfl hr
theorem BC {w:World} {g o n:Nat} {T:TypeId} {cur:Array Value} (h:aj w g T cur) (hf:o+n≤cur.size):w.there g o n:=fun j hj=>
 ⟨by rw[h.cell,Array.getElem?_eq_getElem oM];rfl,h.frozen _⟩
def eU (W:World) (s:St) (e:Ev) (v:Value):World:=((W.alloc (.cells (dN s v) 83)).alloc (.cells (ax e) 116)).alloc (.cells #[.int .i64 0,.int .i64 0,.slice none 0 0] 83)
theorem xR (W:World) (s:St) (e:Ev) (v:Value):(eU W s e v).heap.size=W.heap.size+3:=by simp[eU]
theorem ed (W:World) (s:St) (e:Ev) (v:Value):Below W.heap.size W (eU W s e v):=
 (((Below.refl W.heap.size W).alloc (Nat.le_refl _) _).alloc (by simp) _).alloc (by simp;omega) _
theorem AP.start {W w1:World} {s:St} {e:Ev} {v v1:Value} {L:List an} (hr:aD w1 (eU W s e v).heap.size v1 L) (hb:Below (eU W s e v).heap.size (eU W s e v) w1):AP W (dN s v) e v1 W.heap.size w1.heap.size L (w1.alloc (.cells #[v1] 81)):=by
 have a1:aj (eU W s e v) W.heap.size 83 (dN s v):=((aj.new W _ _).alloc _).alloc _
 have a2:aj (eU W s e v) (W.heap.size+1) 116 (ax e):=by
  have:=(aj.new (W.alloc (.cells (dN s v) 83)) 116 (ax e)).alloc (.cells #[.int .i64 0,.int .i64 0,.slice none 0 0] 83);simpa[eU]using this
 have a3:aj (eU W s e v) (W.heap.size+1+1) 83 #[.int .i64 0,.int .i64 0,.slice none 0 0]:=by
  have:=aj.new ((W.alloc (.cells (dN s v) 83)).alloc (.cells (ax e) 116)) 83 #[.int .i64 0,.int .i64 0,.slice none 0 0];simpa[eU]using this
 have hs:=xR W s e v;have hz:=hb.size;exact⟨((ed W s e v).trans (hb.mono oM)).alloc oM _,Nat.le_refl _,by omega,(a1.below' hb).alloc _,(a2.below' hb).alloc _,(a3.below' hb).alloc _,aj.new w1 _ _,(hr.below ((Below.refl _ _).alloc (Nat.le_refl _) _)).mono oM⟩
theorem Ci (B:Nat) (v:Value) (s:St) (e:Ev) (W:World) (h:aD W B v s.fams) (hok:kn s) (hid:ba e.fam.id=true) (hk:e.kind=1) (hh:jw s.fams e.fam.id=true):
  Calls prog 54 #[dj s v,aE e] W (cD W (am s e)):=by
 have HA:=zH (fun B vb v w (h:aD w B v s.fams) hv=>vx B vb v s.fams e.fam.id w h hv hok.len hok.asc hok.ids hid);rw[hh]at HA;have hap:am s e=⟨s.clock,max s.next (e.fam.id+1),s.fams.set (ahead s.fams e.fam.id) e.fam⟩:=by unfold am lS;rw[if_pos hk,if_pos hh]
 have hlt:=l6 hh;generalize am s e=s' at*;have HS:=zH hap;clear hap hh;have HC:=zH (fun w (h:aD w B v s.fams)=>hO B v s.fams w h hok.len);have H0:=zH h;have HK:=zH hok;clear h hok;obtain⟨k,⟨i,cl,su,sc,ge,ma,us,re,de⟩,id,ti⟩:=e;obtain⟨ck,nx,L⟩:=s;dsimp only at*;subst hk;have hin:=az.1 hid;unfold dj dN aE ax;dsimp only;go_enter Tryz.func54,Tryz.ntmps54;go_wp2_with fail;refine(HC.out (eU W ⟨ck,nx,L⟩ ⟨1,⟨i,cl,su,sc,ge,ma,us,re,de⟩,id,ti⟩ v) (H0.out.below (ed _ _ _ _))).mono ?_;rintro e w1 ⟨v1,rfl,hr1,hb1⟩;obtain⟨sa,sn,rfl⟩:=hr1.slice;have HP:=zH (AP.start hr1 hb1);obtain⟨c0,c1,c2,c3,c4,c5,c6,c7,c8,c9,c10,c11⟩:=bg HP.out.ev;obtain⟨m0,m1,m2,mv,r0,r1,r2,z0,z1,z2⟩:=HP.out.cells;clear hr1 hb1 HC H0;go_wp2_with fail;go_at_call 110;refine(HA.out _ _ _ _ HP.out.row (HP.out.var.cell 0)).mono ?_;rintro e w2 ⟨rfl,hb⟩;have HP2:=zH (HP.out.keep hb);clear hb c0 c1 c2 c3 c4 c5 c6 c7 c8 c9 c10 c11 m0 m1 m2 mv r0 r1 r2 z0 z1 z2;generalize w1.heap.size=vb at*;rcases HP2.out.row.block with⟨_,hnil⟩|⟨g,cap,cur,he,hBg,hblk,hlc,hm,hc,ht⟩
 ·rw[hnil]at hlt
  simp at hlt
 simp only[Value.slice.injEq,true_and]at he;obtain⟨rfl,rfl⟩:=he;generalize ahead L i=k at*;have hth:w2.there g (k*9) (#[.int .i64 i,.string cl,.string su,.string sc,.int .i64 ge,.int .i64 ma,.int .i64 us,.string re,.bool de]:Array Value).size:=BC hblk (by show k*9+9≤_;omega);have HP3:=zH (HP2.out.store hBg hblk hlc hm hc ht hlt ⟨i,cl,su,sc,ge,ma,us,re,de⟩);obtain⟨c0,c1,c2,c3,c4,c5,c6,c7,c8,c9,c10,c11⟩:=bg HP2.out.ev;have mv:=HP2.out.var.cell 0;generalize hw3:w2.setCells g (k*9) _=w3 at HP3;have HW3:=zH (show w2.setCells g (k*9) (#[.int .i64 i,.string cl,.string su,.string sc,.int .i64 ge,.int .i64 ma,.int .i64 us,.string re,.bool de]:Array Value).toList=w3 from hw3);obtain⟨p0,p1,p2,p3,p4,p5,p6,p7,p8,p9,p10,p11⟩:=bg HP3.out.ev;obtain⟨q0,q1,q2,qv,r0,r1,r2,z0,z1,z2⟩:=HP3.out.cells;clear hw3 hblk hc ht hlc hm hBg;have hsi:(prog.info? 95).map (·.size)=some (#[.int .i64 i,.string cl,.string su,.string sc,.int .i64 ge,.int .i64 ma,.int .i64 us,.string re,.bool de]:Array Value).size:=Af;have hsh:(#[.int .i64 i,.string cl,.string su,.string sc,.int .i64 ge,.int .i64 ma,.int .i64 us,.string re,.bool de]:Array Value).all (·.oneCell')=true:=by simp[Value.oneCell']
 go_wp2_with (with_reducible refine wpList_store_mid ?sg 95 (.tmp 32) (.tmp 31) ?so g (k*9) #[.int .i64 i,.string cl,.string su,.string sc,.int .i64 ge,.int .i64 ma,.int .i64 us,.string re,.bool de] ?sx ?sy hth hsi hsh ?_;(case so=>rfl);go_loud (case sg=>rfl);go_loud (case sx=>simp[Act.eval]);go_loud (case sy=>simp[Act.eval]);go_loud (rw[HW3.out]);clear c0 c1 c2 c3 c4 c5 c6 c7 c8 c9 c10 c11 mv);obtain rfl:=HS.out;exact i7 (HP3.out.set 1 (.int .i64 (max nx (i+1))) rfl) rfl rfl rfl rfl
theorem BP (B:Nat) (v:Value) (s:St) (e:Ev) (W:World) (h:aD W B v s.fams) (hok:kn s) (hid:ba e.fam.id=true) (hk:e.kind=1) (hh:jw s.fams e.fam.id=false):
  Calls prog 54 #[dj s v,aE e] W (cD W (am s e)):=by
 have HA:=zH (fun B vb v w (h:aD w B v s.fams) hv=>vx B vb v s.fams e.fam.id w h hv hok.len hok.asc hok.ids hid);rw[hh]at HA;have hap:am s e=⟨s.clock,max s.next (e.fam.id+1),s.fams.take (ahead s.fams e.fam.id)++e.fam::s.fams.drop (ahead s.fams e.fam.id)⟩:=by unfold am lS;rw[if_pos hk,if_neg (by rw[hh];decide)]
 have hlt:=lI s.fams e.fam.id;generalize am s e=s' at*;have HS:=zH hap;clear hap hh;have HC:=zH (fun w (h:aD w B v s.fams)=>hO B v s.fams w h hok.len);have H0:=zH h;have HK:=zH hok;clear h hok;obtain⟨k,⟨i,cl,su,sc,ge,ma,us,re,de⟩,id,ti⟩:=e;obtain⟨ck,nx,L⟩:=s;dsimp only at*;subst hk;have hin:=az.1 hid;unfold dj dN aE ax;dsimp only;go_enter Tryz.func54,Tryz.ntmps54;go_wp2_with fail;refine(HC.out (eU W ⟨ck,nx,L⟩ ⟨1,⟨i,cl,su,sc,ge,ma,us,re,de⟩,id,ti⟩ v) (H0.out.below (ed _ _ _ _))).mono ?_;rintro e w1 ⟨v1,rfl,hr1,hb1⟩;obtain⟨sa,sn,rfl⟩:=hr1.slice;have HP:=zH (AP.start hr1 hb1);obtain⟨c0,c1,c2,c3,c4,c5,c6,c7,c8,c9,c10,c11⟩:=bg HP.out.ev;obtain⟨m0,m1,m2,mv,r0,r1,r2,z0,z1,z2⟩:=HP.out.cells;clear hr1 hb1 HC H0;go_wp2_with fail;go_at_call 110;refine(HA.out _ _ _ _ HP.out.row (HP.out.var.cell 0)).mono ?_;rintro e w2 ⟨rfl,hb⟩;have HP2:=zH (HP.out.keep hb);clear hb c0 c1 c2 c3 c4 c5 c6 c7 c8 c9 c10 c11 m0 m1 m2 mv r0 r1 r2 z0 z1 z2;generalize w1.heap.size=vb at*;generalize ahead L i=k at*;obtain⟨c0,c1,c2,c3,c4,c5,c6,c7,c8,c9,c10,c11⟩:=bg HP2.out.ev;obtain⟨m0,m1,m2,mv,r0,r1,r2,z0,z1,z2⟩:=HP2.out.cells;go_wp2_with fail;go_at_call 113;refine(zx W.heap.size w2.heap.size k _ L ⟨i,cl,su,sc,ge,ma,us,re,de⟩ _ (HP2.out.row.below ((Below.refl _ _).alloc (Nat.le_refl _) _)) hlt HK.out.len (by have:=HP2.out.below.size;simp;omega) (aj.new w2 _ _) (fun hx=>by have:=(HP2.out.row.lt _ hx).2;omega)).mono ?_;rintro e w3 ⟨v3,rfl,hr3,hb3⟩;have hpa:=HP2.out.keep ((Below.refl _ _).alloc (Nat.le_refl _) (.cells (af ⟨i,cl,su,sc,ge,ma,us,re,de⟩) 95));have HP3:=zH (hpa.go hb3 hr3);have HM:=zH (hpa.mid hb3);clear c0 c1 c2 c3 c4 c5 c6 c7 c8 c9 c10 c11 m0 m1 m2 mv r0 r1 r2 z0 z1 z2;obtain⟨c0,c1,c2,c3,c4,c5,c6,c7,c8,c9,c10,c11⟩:=bg HM.out.2.2.1;obtain⟨m0,m1,m2,mv,r0,r1,r2,z0,z1,z2⟩:=nS HM.out.2.1 HM.out.2.2.2.1 HM.out.2.2.2.2;obtain⟨n1,n2,n3⟩:=HP2.out.nvb;obtain⟨sb,sl,sm,rfl⟩: ∃ a n c,v3=.slice a n c:=by obtain⟨a,c,hx⟩:=hr3.slice;exact⟨_,_,_,hx⟩
 clear hpa hb3 hr3;go_wp2_with fail;obtain rfl:=HS.out;exact i7 (HP3.out.set 1 (.int .i64 (max nx (i+1))) rfl) rfl rfl rfl rfl
theorem zg (B:Nat) (v:Value) (s:St) (e:Ev) (W:World) (h:aD W B v s.fams) (hok:kn s) (hid:ba e.id=true) (hk:e.kind=2) (hh:jw s.fams e.id=true):
  Calls prog 54 #[dj s v,aE e] W (cD W (am s e)):=by
 have HA:=zH (fun B vb v w (h:aD w B v s.fams) hv=>vx B vb v s.fams e.id w h hv hok.len hok.asc hok.ids hid);rw[hh]at HA;have hap:am s e=⟨s.clock,s.next,s.fams.take (ahead s.fams e.id)++s.fams.drop (ahead s.fams e.id+1)⟩:=by unfold am jN;rw[if_neg oM,if_pos hk,if_pos hh]
 have hlt:=l6 hh;have hlen:=hok.len;have hk1: ¬ e.kind=1:=by omega
 generalize am s e=s' at*;have HS:=zH hap;clear hap hh;have HC:=zH (fun w (h:aD w B v s.fams)=>hO B v s.fams w h hok.len);have H0:=zH h;have HK:=zH hok;clear h hok;obtain⟨k,⟨i,cl,su,sc,ge,ma,us,re,de⟩,id,ti⟩:=e;obtain⟨ck,nx,L⟩:=s;dsimp only at*;subst hk;have hin:=az.1 hid;unfold dj dN aE ax;dsimp only;go_enter Tryz.func54,Tryz.ntmps54;go_wp2_with fail;refine(HC.out (eU W ⟨ck,nx,L⟩ ⟨2,⟨i,cl,su,sc,ge,ma,us,re,de⟩,id,ti⟩ v) (H0.out.below (ed _ _ _ _))).mono ?_;rintro e w1 ⟨v1,rfl,hr1,hb1⟩;obtain⟨sa,sn,rfl⟩:=hr1.slice;have HP:=zH (AP.start hr1 hb1);obtain⟨c0,c1,c2,c3,c4,c5,c6,c7,c8,c9,c10,c11⟩:=bg HP.out.ev;obtain⟨m0,m1,m2,mv,r0,r1,r2,z0,z1,z2⟩:=HP.out.cells;clear hr1 hb1 HC H0;go_wp2_with fail;go_at_call 110;refine(HA.out _ _ _ _ HP.out.row (HP.out.var.cell 0)).mono ?_;rintro e w2 ⟨rfl,hb⟩;have HP2:=zH (HP.out.keep hb);clear hb c0 c1 c2 c3 c4 c5 c6 c7 c8 c9 c10 c11 m0 m1 m2 mv r0 r1 r2 z0 z1 z2;generalize w1.heap.size=vb at*;generalize ahead L id=k at*;obtain⟨c0,c1,c2,c3,c4,c5,c6,c7,c8,c9,c10,c11⟩:=bg HP2.out.ev;obtain⟨m0,m1,m2,mv,r0,r1,r2,z0,z1,z2⟩:=HP2.out.cells;have hkw:wrap64 ((k:Int)+1)=(k:Int)+1:=IntWalk.wrap64_in _ oM;go_wp2_with fail;go_at_call 114;refine(yZ W.heap.size k _ L _ HP2.out.row hlt HK.out.len).mono ?_;rintro e w3 ⟨v3,rfl,hr3,hb3⟩;have HP3:=zH (HP2.out.go hb3 hr3);have HM:=zH (HP2.out.mid hb3);clear c0 c1 c2 c3 c4 c5 c6 c7 c8 c9 c10 c11 m0 m1 m2 mv r0 r1 r2 z0 z1 z2;obtain⟨c0,c1,c2,c3,c4,c5,c6,c7,c8,c9,c10,c11⟩:=bg HM.out.2.2.1;obtain⟨m0,m1,m2,mv,r0,r1,r2,z0,z1,z2⟩:=nS HM.out.2.1 HM.out.2.2.2.1 HM.out.2.2.2.2;obtain⟨n1,n2,n3⟩:=HP2.out.nvb;obtain⟨sb,sl,sm,rfl⟩: ∃ a n c,v3=.slice a n c:=by obtain⟨a,c,hx⟩:=hr3.slice;exact⟨_,_,_,hx⟩
 clear hb3 hr3;go_wp2_with fail;obtain rfl:=HS.out;exact i7 HP3.out rfl rfl rfl rfl
theorem yh (B:Nat) (v:Value) (s:St) (e:Ev) (W:World) (h:aD W B v s.fams) (hok:kn s) (hid:ba e.id=true) (hk:e.kind=2) (hh:jw s.fams e.id=false):
  Calls prog 54 #[dj s v,aE e] W (cD W (am s e)):=by
 have HA:=zH (fun B vb v w (h:aD w B v s.fams) hv=>vx B vb v s.fams e.id w h hv hok.len hok.asc hok.ids hid);rw[hh]at HA;have hap:am s e=s:=by unfold am jN;rw[if_neg oM,if_pos hk,if_neg (by rw[hh];decide)]
 have hlt:=lI s.fams e.id;have hlen:=hok.len;have hk1: ¬ e.kind=1:=by omega
 generalize am s e=s' at*;have HS:=zH hap;clear hap hh;have HC:=zH (fun w (h:aD w B v s.fams)=>hO B v s.fams w h hok.len);have H0:=zH h;have HK:=zH hok;clear h hok;obtain⟨k,⟨i,cl,su,sc,ge,ma,us,re,de⟩,id,ti⟩:=e;obtain⟨ck,nx,L⟩:=s;dsimp only at*;subst hk;have hin:=az.1 hid;unfold dj dN aE ax;dsimp only;go_enter Tryz.func54,Tryz.ntmps54;go_wp2_with fail;refine(HC.out (eU W ⟨ck,nx,L⟩ ⟨2,⟨i,cl,su,sc,ge,ma,us,re,de⟩,id,ti⟩ v) (H0.out.below (ed _ _ _ _))).mono ?_;rintro e w1 ⟨v1,rfl,hr1,hb1⟩;obtain⟨sa,sn,rfl⟩:=hr1.slice;have HP:=zH (AP.start hr1 hb1);obtain⟨c0,c1,c2,c3,c4,c5,c6,c7,c8,c9,c10,c11⟩:=bg HP.out.ev;obtain⟨m0,m1,m2,mv,r0,r1,r2,z0,z1,z2⟩:=HP.out.cells;clear hr1 hb1 HC H0;go_wp2_with fail;go_at_call 110;refine(HA.out _ _ _ _ HP.out.row (HP.out.var.cell 0)).mono ?_;rintro e w2 ⟨rfl,hb⟩;have HP2:=zH (HP.out.keep hb);clear hb c0 c1 c2 c3 c4 c5 c6 c7 c8 c9 c10 c11 m0 m1 m2 mv r0 r1 r2 z0 z1 z2;generalize w1.heap.size=vb at*;obtain⟨c0,c1,c2,c3,c4,c5,c6,c7,c8,c9,c10,c11⟩:=bg HP2.out.ev;obtain⟨m0,m1,m2,mv,r0,r1,r2,z0,z1,z2⟩:=HP2.out.cells;go_wp2_with fail;obtain rfl:=HS.out;exact i7 HP2.out rfl rfl rfl rfl
theorem wY (B:Nat) (v:Value) (s:St) (e:Ev) (W:World) (h:aD W B v s.fams) (hok:kn s) (hk:e.kind=3):
  Calls prog 54 #[dj s v,aE e] W (cD W (am s e)):=by
 have hap:am s e=⟨e.time,s.next,s.fams⟩:=by unfold am;rw[if_neg oM,if_neg oM,if_pos hk]
 generalize am s e=s' at*;have HS:=zH hap;have hid:ba 0=true:=by decide
 clear hap;have HC:=zH (fun w (h:aD w B v s.fams)=>hO B v s.fams w h hok.len);have H0:=zH h;have HK:=zH hok;clear h hok;obtain⟨k,⟨i,cl,su,sc,ge,ma,us,re,de⟩,id,ti⟩:=e;obtain⟨ck,nx,L⟩:=s;dsimp only at*;subst hk;have hin:=az.1 hid;unfold dj dN aE ax;dsimp only;go_enter Tryz.func54,Tryz.ntmps54;go_wp2_with fail;refine(HC.out (eU W ⟨ck,nx,L⟩ ⟨3,⟨i,cl,su,sc,ge,ma,us,re,de⟩,id,ti⟩ v) (H0.out.below (ed _ _ _ _))).mono ?_;rintro e w1 ⟨v1,rfl,hr1,hb1⟩;obtain⟨sa,sn,rfl⟩:=hr1.slice;have HP:=zH (AP.start hr1 hb1);obtain⟨c0,c1,c2,c3,c4,c5,c6,c7,c8,c9,c10,c11⟩:=bg HP.out.ev;obtain⟨m0,m1,m2,mv,r0,r1,r2,z0,z1,z2⟩:=HP.out.cells;obtain⟨n1,n2,n3⟩:=HP.out.nvb;clear hr1 hb1 HC H0;go_wp2_with fail;obtain rfl:=HS.out;exact i7 (HP.out.set 0 (.int .i64 ti) rfl) rfl rfl rfl rfl
theorem wP (B:Nat) (v:Value) (s:St) (e:Ev) (W:World) (h:aD W B v s.fams) (hok:kn s) (hk1: ¬ e.kind=1) (hk2: ¬ e.kind=2) (hk3: ¬ e.kind=3):
  Calls prog 54 #[dj s v,aE e] W (cD W (am s e)):=by
 have hap:am s e=s:=by unfold am;rw[if_neg hk1,if_neg hk2,if_neg hk3]
 generalize am s e=s' at*;have HS:=zH hap;have hid:ba 0=true:=by decide
 clear hap;have HC:=zH (fun w (h:aD w B v s.fams)=>hO B v s.fams w h hok.len);have H0:=zH h;have HK:=zH hok;clear h hok;obtain⟨k,⟨i,cl,su,sc,ge,ma,us,re,de⟩,id,ti⟩:=e;obtain⟨ck,nx,L⟩:=s;dsimp only at*;have hx:=hk1;have hin:=az.1 hid;unfold dj dN aE ax;dsimp only;go_enter Tryz.func54,Tryz.ntmps54;go_wp2_with fail;refine(HC.out (eU W ⟨ck,nx,L⟩ ⟨k,⟨i,cl,su,sc,ge,ma,us,re,de⟩,id,ti⟩ v) (H0.out.below (ed _ _ _ _))).mono ?_;rintro e w1 ⟨v1,rfl,hr1,hb1⟩;obtain⟨sa,sn,rfl⟩:=hr1.slice;have HP:=zH (AP.start hr1 hb1);obtain⟨c0,c1,c2,c3,c4,c5,c6,c7,c8,c9,c10,c11⟩:=bg HP.out.ev;obtain⟨m0,m1,m2,mv,r0,r1,r2,z0,z1,z2⟩:=HP.out.cells;clear hr1 hb1 HC H0;go_wp2_with fail;obtain rfl:=HS.out;exact i7 HP.out rfl rfl rfl rfl
theorem sk (B:Nat) (v:Value) (s:St) (e:Ev) (W:World) (h:aD W B v s.fams) (hok:kn s) (h1:e.kind=1→ba e.fam.id=true) (h2:e.kind=2→ba e.id=true):
  Calls prog 54 #[dj s v,aE e] W (cD W (am s e)):=by
 by_cases hk1:e.kind=1
 ·cases hh:jw s.fams e.fam.id with
  |true=>exact Ci B v s e W h hok (h1 hk1) hk1 hh
  |false=>exact BP B v s e W h hok (h1 hk1) hk1 hh
 ·by_cases hk2:e.kind=2
  ·cases hh:jw s.fams e.id with
   |true=>exact zg B v s e W h hok (h2 hk2) hk2 hh
   |false=>exact yh B v s e W h hok (h2 hk2) hk2 hh
  ·by_cases hk3:e.kind=3
   ·exact wY B v s e W h hok hk3
   ·exact wP B v s e W h hok hk1 hk2 hk3
theorem uQ {e:Ev} (he:dp e=true):e.kind=1→ba e.fam.id=true:=fun hk=>by
 rcases eV he with⟨_,_,_,hf⟩|⟨h1,_⟩|⟨h1,_⟩
 ·exact(bo hf).1
 ·omega
 ·omega
theorem uM {e:Ev} (he:dp e=true):e.kind=2→ba e.id=true:=fun hk=>by
 rcases eV he with⟨h1,_⟩|⟨_,_,_,h2⟩|⟨h1,_⟩
 ·omega
 ·exact h2
 ·omega
def iS (w0:World) (ck nx:Int) (L:List an) (x:Ending) (w':World):Prop:= ∃ a c,x=.returned (.agg #[.int .i64 ck,.int .i64 nx,.slice a L.length c])∧aD w' w0.heap.size (.slice a L.length c) L∧Below w0.heap.size w0 w'
theorem fG {w0:World} {s':St} {x:Ending} {w':World} (h:cD w0 s' x w'):iS w0 s'.clock s'.next s'.fams x w':=by
 obtain⟨v,rfl,hr,hb⟩:=h;obtain⟨a,c,rfl⟩:=hr.slice;exact⟨a,c,rfl,hr,hb⟩
def gI (w:World) (rb:Nat) (v:Value) (ws:List (List UInt8)):Prop:=
 ∃ g o cap,v=.slice (some ⟨g,o,none⟩) ws.length cap∧ws.length≤cap∧cap≤9223372036854775807∧g<rb∧ ∀ j,j<ws.length→w.cell? ⟨g,o+j,none⟩=some (.string (ah (ws.getD j [])))
theorem gI.below {w w':World} {rb:Nat} {v:Value} {ws:List (List UInt8)} (h:gI w rb v ws) (hb:Below w.heap.size w w'):gI w' rb v ws:=by
 obtain⟨g,o,cap,rfl,h1,h2,h3,h4⟩:=h;refine⟨g,o,cap,rfl,h1,h2,h3,fun j hj=>?_⟩;have hc:=h4 j hj;rw[hb.cell (p:=⟨g,o+j,none⟩) (World.block_lt_of_cell? w _ hc)];exact hc
theorem gI.set {w:World} {rb i:Nat} {v u:Value} {ws:List (List UInt8)} (h:gI w rb v ws):gI (w.setCell ⟨rb,i,none⟩ u) rb v ws:=by
 obtain⟨g,o,cap,rfl,h1,h2,h3,h4⟩:=h;refine⟨g,o,cap,rfl,h1,h2,h3,fun j hj=>?_⟩;rw[World.cell?_setCell_other _ _ _ _ (by simp<;>omega)];exact h4 j hj
theorem gI.other {w w':World} {rb eb:Nat} {v:Value} {ws:List (List UInt8)} (h:gI w rb v ws) (hg:w.grownBy w' (some eb)) (he:rb≤eb):gI w' rb v ws:=by
 obtain⟨g,o,cap,rfl,h1,h2,h3,h4⟩:=h;refine⟨g,o,cap,rfl,h1,h2,h3,fun j hj=>?_⟩;have hc:=h4 j hj;have hb:=hg.block g (World.block_lt_of_cell? w _ hc) (by simp;omega);rw[←hc];simp only[World.cell?,hb]
structure lO (w:World) (rb:Nat) (st:Rd):Prop where
 ex: ∃ v,aj w rb 201 #[v,.bool st.2]∧gI w rb v st.1
 small: ∀ x∈st.1,x.length≤5000
theorem lO.below {w w':World} {rb:Nat} {st:Rd} (h:lO w rb st) (hb:Below w.heap.size w w'):lO w' rb st:=by
 obtain⟨⟨v,h1,h2⟩,h3⟩:=h;exact⟨⟨v,h1.below' hb,h2.below hb⟩,h3⟩
theorem lO.other {w w':World} {rb eb:Nat} {st:Rd} (h:lO w rb st) (hg:w.grownBy w' (some eb)) (he:rb<eb):lO w' rb st:=by
 obtain⟨⟨v,h1,h2⟩,h3⟩:=h;exact⟨⟨v,h1.grown hg (by simp;omega),h2.other hg oM⟩,h3⟩
theorem lO.bad {w:World} {rb:Nat} {st:Rd} (h:lO w rb st) (b:Bool):lO (w.setCell ⟨rb,1,none⟩ (.bool b)) rb (st.1,b):=by
 obtain⟨⟨v,h1,h2⟩,h3⟩:=h;exact⟨⟨v,h1.set_ 1 (.bool b),h2.set⟩,h3⟩
theorem lO.cut {W:World} {rb g o o' cap':Nat} {v:Value} {x:List UInt8} {r:List (List UInt8)} {b:Bool} (hB:aj W rb 201 #[v,.bool b]) (h3:g<rb)
  (h4: ∀ j,j<(x::r).length→W.cell? ⟨g,o+j,none⟩=some (.string (ah ((x::r).getD j [])))) (hs: ∀ y∈x::r,y.length≤5000) (hc:r.length≤cap') (hm:cap'≤9223372036854775807) (ho:r.length=0∨o'=o+1):
  lO (W.setCell ⟨rb,0,none⟩ (.slice (some ⟨g,o',none⟩) r.length cap')) rb (r,b):=by
 refine⟨⟨_,hB.set_ 0 _,g,o',cap',rfl,hc,hm,h3,fun j hj=>?_⟩,fun y hy=>hs y (List.mem_cons_of_mem _ hy)⟩;rw[World.cell?_setCell_other _ _ _ _ (by simp<;>omega)];have e:o'=o+1:=ho.resolve_left (by have:j<r.length:=hj;omega);have:=h4 (j+1) (by simpa using hj);rw[e,show o+1+j=o+(j+1) by omega,this];rfl
theorem tB {st:Rd} (h: ∀ x∈st.1,x.length≤5000):(bp st).length≤5000:=by
 obtain⟨ws,b⟩:=st;cases ws with
 |nil=>simp[bp]
 |cons x r=>exact h x (by simp)
theorem FU (rb:Nat) (st:Rd) (W:World) (h:lO W rb st):
  Calls prog 156 #[.pointer (some ⟨rb,0,none⟩)] W fun e w'=>e=.returned (.string (ah (bp st)))∧lO w' rb (cz st)∧W.grownBy w' (some rb):=by
 obtain⟨ws,b⟩:=st;have HH:=zH h;obtain⟨⟨v,hB,hW⟩,hs⟩:=h;dsimp only at hB hW hs;have c0:=hB.cell 0;have c1:=hB.cell 1;have f0:=hB.frozen 0;have f1:=hB.frozen 1;have hlt:=hB.lt;have HB:=zH hB;clear hB;cases ws with
 |nil=>
  obtain⟨g,o,cap,rfl,h1,h2,h3,h4⟩:=hW;have HG:=zH (ag (bT W (some rb)) (p:=⟨rb,1,none⟩) (.inl rfl) (.bool true));have HR:=zH (HH.out.bad true);clear h4;go_enter Tryz.func156,Tryz.ntmps156;go_wp2_with fail;go_ret;exact⟨rfl,HR.out,HG.out⟩
 |cons x r=>
  obtain⟨g,o,cap,rfl,h1,h2,h3,h4⟩:=hW;have hc:W.cell? ⟨g,o,none⟩=some (.string (ah x)):=by simpa using h4 0 (by simp)
  have HC:=zH h4;have hl:r.length+1≤cap:=h1;clear h4 h1;go_enter Tryz.func156,Tryz.ntmps156;go_wp2_with fail
  ·go_ret
   exact⟨rfl,lO.cut HB.out h3 HC.out hs oM oM (.inl oM),ag (bT W (some rb)) (.inl rfl) _⟩
  ·go_ret
   exact⟨rfl,lO.cut HB.out h3 HC.out hs oM oM (.inr rfl),ag (bT W (some rb)) (.inl rfl) _⟩
structure RS (W:World) (rb:Nat) (st:Rd) (w:World):Prop where
 base:WB W W
 errs0:bf W
 below:Below W.heap.size W w
 le:W.heap.size≤rb
 rd:lO w rb st
section
variable {W w w':World} {rb:Nat} {st st':Rd}
theorem RS.wb (h:RS W rb st w):WB W w:=h.base.keep h.below
theorem RS.errs (h:RS W rb st w):bf w:=h.errs0.below' h.below
theorem RS.keep (h:RS W rb st w) (hb:Below w.heap.size w w'):RS W rb st w':=⟨h.base,h.errs0,ae h.below hb,h.le,h.rd.below hb⟩
theorem RS.turn (h:RS W rb st w) (hr:lO w' rb st') (hg:w.grownBy w' (some rb)):RS W rb st' w':=⟨h.base,h.errs0,dm h.below hg h.le h.below.size,h.le,hr⟩
theorem RS.setBad (h:RS W rb st w) (b:Bool):RS W rb (st.1,b) (w.setCell ⟨rb,1,none⟩ (.bool b)):=h.turn (h.rd.bad b) (ag (bT w (some rb)) (.inl rfl) _)
theorem RS.cells (h:RS W rb st w):w.cell? ⟨rb,1,none⟩=some (.bool st.2)∧w.frozen? ⟨rb,1,none⟩=false∧rb<w.heap.size:=by
 obtain⟨⟨v,h1,_⟩,_⟩:=h.rd;exact⟨h1.cell 1,h1.frozen 1,h1.lt⟩
end
theorem kw {W w:World} {rb:Nat} {st:Rd} (h:RS W rb st w):
  Calls prog 156 #[.pointer (some ⟨rb,0,none⟩)] w fun e w'=>e=.returned (.string (ah (bp st)))∧RS W rb (cz st) w'∧w.grownBy w' (some rb):=
 (FU rb st w h.rd).mono fun _ _ ⟨h1,h2,h3⟩=>⟨h1,h.turn h2 h3,h3⟩
theorem BY (n:Int) (x:List UInt8):((aL n).toList == (ah x).toList)=decide (Lib.itoa n=x):=by
 rw[pm,bn,Bool.eq_iff_iff];simp
theorem Ao (st:Rd):(st.1,st.2 || false)=st:=by
 obtain⟨a,b⟩:=st;simp
theorem Aq (st:Rd):(st.1,st.2 || true)=(st.1,true):=by simp
theorem o8 {W w:World} {rb:Nat} {st:Rd} (h:RS W rb st w):
  Calls prog 157 #[.pointer (some ⟨rb,0,none⟩)] w fun e w'=>e=.returned (.int .i64 (jx st))∧RS W rb (br st) w'∧w.grownBy w' (some rb):=by
 have hz:(ah (bp st)).size≤1000000:=by rw[av];have:=tB h.rd.small;omega
 have HN:=zH (kw h);have hS:br st=((cz st).1,(cz st).2 || !aC (bp st)):=rfl;have hV:jx st=ab (bp st):=rfl;have hE':aC (bp st)=(dL (bp st)&&decide (Lib.itoa (ab (bp st))=bp st)):=rfl;rw[hE']at hS;rw[hV];have hbd:=gJ (bp st);have hl:=BY (ab (bp st)) (bp st);have hdat:(ah (bp st)).data.toList=bp st:=ak _;have HAY:=fun w (h:dL (bp st)=true)=>j3 (ah (bp st)) w hz (by rw[hdat];exact h)
 have HAN:=fun w hv (h:dL (bp st)=false)=>nW (ah (bp st)) w hz hv (by rw[hdat];exact h)
 have HIT:=zH (fun w hT=>iw (ab (bp st)) hbd.1 hbd.2 w hT);rw[hdat]at HAY HAN;clear hE' hV hdat h hbd;generalize br st=st2 at*;generalize hx:bp st=x at*;generalize hy:ah x=y at*;generalize hn:ab x=n at*;generalize cz st=st1 at*;generalize aL n=z at*;cases hE:dL x
 ·have HA:=zH (fun w hv=>HAN w hv hE)
  rw[hE,Bool.false_and,Bool.not_false,Aq]at hS;clear HAY HAN hl hE hx hy hn;have HST:=zH hS;clear hS;go_enter Tryz.func157,Tryz.ntmps157;go_wp2_with fail;go_at_call 156;refine HN.out.mono ?_;rintro e w1 ⟨rfl,h1,hg⟩;have H1:=zH h1;have HG:=zH hg;clear h1 hg;go_wp2_with fail;go_at_call 51;refine(HA.out _ H1.out.errs).mono ?_;rintro e w2 ⟨⟨te,pe,rfl⟩,hb⟩;have H2:=zH (H1.out.keep hb);have HG2:=zH (ii HG.out hb);clear hb;obtain⟨k1,k2,k3⟩:=H2.out.cells;go_wp2_with fail;go_ret;refine⟨rfl,?_,ag HG2.out (.inl rfl) _⟩;rw[HST.out];exact H2.out.setBad true
 ·have HA:=zH (fun w=>HAY w hE)
  rw[hE,Bool.true_and]at hS;clear HAY HAN hE hx hy hn;cases hq:decide (Lib.itoa n=x)
  ·rw[hq,Bool.not_false,Aq]at hS
   rw[hq]at hl;have HST:=zH hS;clear hS hq;go_enter Tryz.func157,Tryz.ntmps157;go_wp2_with fail;go_at_call 156;refine HN.out.mono ?_;rintro e w1 ⟨rfl,h1,hg⟩;have H1:=zH h1;have HG:=zH hg;clear h1 hg;go_wp2_with fail;go_at_call 51;refine(HA.out _).mono ?_;rintro e w2 ⟨rfl,hb⟩;have H2:=zH (H1.out.keep hb);have HG2:=zH (ii HG.out hb);clear hb;go_wp2_with fail;go_at_call 26;refine(HIT.out _ H2.out.wb.tens).mono ?_;rintro e w3 ⟨rfl,hb⟩;have H3:=zH (H2.out.keep hb);have HG3:=zH (ii HG2.out hb);clear hb;obtain⟨k1,k2,k3⟩:=H3.out.cells;go_wp2_with fail;go_ret;refine⟨rfl,?_,ag HG3.out (.inl rfl) _⟩;rw[HST.out];exact H3.out.setBad true
  ·rw[hq,Bool.not_true,Ao]at hS
   rw[hq]at hl;have HST:=zH hS;clear hS hq;go_enter Tryz.func157,Tryz.ntmps157;go_wp2_with fail;go_at_call 156;refine HN.out.mono ?_;rintro e w1 ⟨rfl,h1,hg⟩;have H1:=zH h1;have HG:=zH hg;clear h1 hg;go_wp2_with fail;go_at_call 51;refine(HA.out _).mono ?_;rintro e w2 ⟨rfl,hb⟩;have H2:=zH (H1.out.keep hb);have HG2:=zH (ii HG.out hb);clear hb;go_wp2_with fail;go_at_call 26;refine(HIT.out _ H2.out.wb.tens).mono ?_;rintro e w3 ⟨rfl,hb⟩;have H3:=zH (H2.out.keep hb);have HG3:=zH (ii HG2.out hb);clear hb;go_wp2_with fail;go_ret;refine⟨rfl,?_,HG3.out⟩;rw[HST.out];exact H3.out
theorem yj (x:List UInt8):((ah x).toList == [95])=decide (x=[95]):=by
 rw[bn,Bool.eq_iff_iff];simp
theorem Bm (x:List UInt8):(ah x).toList.isEmpty=decide (x=[]):=by
 rw[bn];cases x<;>simp
theorem qi {W w:World} {rb:Nat} {st:Rd} (h:RS W rb st w):
  Calls prog 158 #[.pointer (some ⟨rb,0,none⟩)] w fun e w'=>e=.returned (.string (ah (iP st)))∧RS W rb (aM st) w'∧w.grownBy w' (some rb):=by
 have HN:=zH (kw h);have hS:aM st=((cz st).1,(cz st).2 || decide (bp st=[])):=rfl;have hV:iP st=nE (bp st):=rfl;have e1:=yj (bp st);have e2:=Bm (bp st);rw[hV];clear hV h;generalize aM st=st2 at*;generalize hx:bp st=x at*;generalize hst1:cz st=st1 at*
 by_cases h95:x=[95]
 ·have hu:ah (nE x)=⟨#[]⟩:=by unfold nE;rw[if_pos h95];rfl
  have h0:decide (x=[])=false:=by rw[h95];rfl
  rw[h0,Ao]at hS;rw[show decide (x=[95])=true by simpa using h95]at e1;have HU:=zH hu;have HST:=zH hS;clear hu hS h0 hx hst1 h95 e2;generalize ah x=y at*;go_enter Tryz.func158,Tryz.ntmps158;go_wp2_with fail;go_at_call 156;refine HN.out.mono ?_;rintro e w1 ⟨rfl,h1,hg⟩;have H1:=zH h1;have HG:=zH hg;clear h1 hg;go_wp2_with fail;go_ret;refine⟨by rw[HU.out];rfl,?_,HG.out⟩;rw[HST.out];exact H1.out
 ·have hu:ah (nE x)=ah x:=by unfold nE;rw[if_neg h95]
  rw[show decide (x=[95])=false by simpa using h95]at e1;generalize decide (x=[])=b0 at*;have HU:=zH hu;have HST:=zH hS;clear hu hS hx hst1 h95;generalize ah (nE x)=u at*;generalize ah x=y at*;obtain⟨ws,b1⟩:=st1;cases b1
  all_goals
   go_enter Tryz.func158,Tryz.ntmps158;go_wp2_with fail;go_at_call 156;refine HN.out.mono ?_;rintro e w1 ⟨rfl,h1,hg⟩;have H1:=zH h1;have HG:=zH hg;clear h1 hg;obtain⟨k1,k2,k3⟩:=H1.out.cells;dsimp only at k1;go_wp2_with fail;go_ret
  ·refine⟨by rw[HU.out];rfl,?_,ag HG.out (.inl rfl) _⟩
   rw[HST.out];exact H1.out.setBad _
  ·refine⟨by rw[HU.out];rfl,?_,ag HG.out (.inl rfl) _⟩
   rw[HST.out];exact H1.out.setBad _
end Go.Proofs.YtepjcdjpikbbjaaGreatDoor
