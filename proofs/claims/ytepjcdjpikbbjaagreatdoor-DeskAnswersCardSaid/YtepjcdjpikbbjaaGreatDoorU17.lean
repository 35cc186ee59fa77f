/-
  Same: two strings held against each other, byte by byte.
-/
import Derived.Test.YtepjcdjpikbbjaaGreatDoorU00
import Derived.Test.YtepjcdjpikbbjaaGreatDoorU07
import Derived.Laws.BitsAllLaws
import Derived.Test.YtepjcdjpikbbjaaGreatDoorU02
import Derived.Test.YtepjcdjpikbbjaaGreatDoorU14
import Derived.Test.YtepjcdjpikbbjaaGreatDoorU04
import Derived.Test.YtepjcdjpikbbjaaGreatDoorU01
import Derived.Deep.RegionHeld3
import Derived.Test.YtepjcdjpikbbjaaGreatDoorU15
import Derived.Test.YtepjcdjpikbbjaaGreatDoorU05
import Derived.Laws.StructEq
import Derived.Test.YtepjcdjpikbbjaaGreatDoorU11
import Derived.BigQuiet
import Derived.Deep.QuietTactic
import Derived.Test.YtepjcdjpikbbjaaGreatDoorU06
import Derived.Laws.Tables
set_option maxHeartbeats 4000000
set_option maxRecDepth 100000
namespace Go.Proofs.YtepjcdjpikbbjaaGreatDoor
open Go.Proofs.Tryz
open Go.RowKit
theorem xF (x p q:Nat) (hx:x<256) (hp:p<256) (hq:q<256):
  ∃ z:Nat,bits .or .u8 (x:Int) (bits .xor .u8 (p:Int) (q:Int))=(z:Int)∧z<256∧(z=0↔x=0∧p=q):=by
 have h1:p ^^^ q<2 ^ 8:=Nat.xor_lt_two_pow hp hq;refine⟨x |||(p ^^^ q),?_,Nat.or_lt_two_pow (n:=8) hx h1,?_⟩
 ·rw[u8_xor_nat p q hp hq,u8_or_nat x (p ^^^ q) hx h1]
 ·rw[Nat.or_eq_zero_iff]
  refine and_congr_right fun _=>⟨fun h=>?_,fun h=>by rw[h,Nat.xor_self]⟩
  have h2:=congrArg (·^^^ q) h;simpa[Nat.xor_assoc]using h2
theorem uE (s:ByteArray) (k:Nat) (h:k<s.size): ∃ p:Nat,p<256∧s.data[k]?=some (UInt8.ofNat p)∧ ∀ w:World,(Instr.index 9 (.string s) (.int .i64 (k:Int))).run prog w=.ok (.int .u8 (p:Int)) w:=by
 refine⟨(s[k]'h).toNat,(s[k]'h).toNat_lt,?_,fun w=>?_⟩
 ·rw[UInt8.ofNat_toNat]
  exact Array.getElem?_eq_getElem h
 ·rw[run_index_string w 9 _ .i64 (k:Int) underlying9,dif_pos ⟨by omega,by omega⟩]
  rfl
def FY (W:World) (a b:ByteArray) (v i:Value) (w:World):Prop:=
 ∃ x k:Nat,v=.int .u8 x∧i=.int .i64 k∧k≤a.size∧x<256∧(x=0↔ ∀ j,j<k→a.data[j]?=b.data[j]?)∧ ∃ n,w=W.drewN n
theorem Eo (a b:ByteArray) (h:a.size=b.size) (x:Nat) (hx:x=0↔ ∀ j,j<a.size→a.data[j]?=b.data[j]?):decide (x=0)=decide (a=b):=by
 rw[decide_eq_decide,hx];constructor
 ·intro hj
  apply ByteArray.ext;apply Array.ext_getElem?;intro j;rcases Nat.lt_or_ge j a.size with h1|h1
  ·exact hj j h1
  ·rw[Array.getElem?_eq_none h1,Array.getElem?_eq_none (by rw[←show b.size=b.data.size from rfl];omega)]
 ·rintro rfl j _;rfl
theorem ww (a b:ByteArray) (W:World) (ha:a.size≤1000000) (hb:b.size≤1000000):
  Calls prog 250 #[.string a,.string b] W fun e w'=>e=.returned (.bool (decide (a=b)))∧ ∃ n,w'=W.drewN n:=by
 by_cases hsz:a.size=b.size
 ·have HS:=zH hsz
  have hlen:((a.size:Int) != (b.size:Int))=false:=by rw[hsz];simp
  go_enter Tryz.func250,Tryz.ntmps250;go_wp2_with fail
  go_loopw [5,14] (fun v i wr=>FY W a b v i wr) (fun _ i _=>a.size - (intOf i).toNat)
  case atStart=>exact⟨0,0,rfl,rfl,by omega,by omega,⟨fun _ j hj=>by omega,fun _=>rfl⟩,0,rfl⟩
  case round=>
   obtain⟨x,k,rfl,rfl,hk,hx,hinv,n,rfl⟩:=hrel;have HI:=zH hinv;clear hinv
   by_cases hlt:k<a.size
   ·obtain⟨p,hp,ep,hixa⟩:=uE a k hlt
    obtain⟨q,hq,eq,hixb⟩:=uE b k oM;obtain⟨z,hz,hz256,hzz⟩:=xF x p q hx hp hq;have HZ:=zH hzz;have EP:=zH ep;have EQ:=zH eq;have hkb:k<b.size:=by omega
    have hka1:k+1≤a.size:=by omega
    clear hzz ep eq hsz;go_wp2_with fail
    go_quiet (fail)
    go_wp2_with fail;refine⟨⟨z,k+1,rfl,by go_num,hka1,hz256,?_,_,rfl⟩,by simp[intOf];omega⟩;have hi:=HI.out;have hzo:=HZ.out;have ep:=EP.out;have eq:=EQ.out;rw[hzo];constructor
    ·rintro⟨h0,rfl⟩ j hj
     rcases Nat.lt_or_ge j k with h1|h1
     ·exact hi.1 h0 j h1
     ·obtain rfl:j=k:=by omega
      rw[ep,eq]
    ·intro h
     refine⟨hi.2 fun j hj=>h j oM,?_⟩;have h2:=h k oM;rw[ep,eq]at h2;have h3:=congrArg UInt8.toNat (Option.some.inj h2);rw[UInt8.toNat_ofNat',UInt8.toNat_ofNat',Nat.mod_eq_of_lt hp,Nat.mod_eq_of_lt hq]at h3;exact h3
   ·obtain rfl:k=a.size:=by omega
    go_wp2_with fail;go_ret;refine⟨?_,_,rfl⟩
    show Ending.returned (Value.bool ((x:Int) == 0))=_
    rw[←Eo a b HS.out x HI.out]
    congr 2
    rw[Bool.eq_iff_iff];simp
 ·have hlen:((a.size:Int) != (b.size:Int))=true:=by simp;omega
  have hne:a≠b:=by rintro rfl;exact hsz rfl
  go_enter Tryz.func250,Tryz.ntmps250;go_wp2_with fail;go_ret;refine⟨?_,0,rfl⟩
  show Ending.returned (Value.bool false)=_
  rw[decide_eq_false hne]
theorem Gv:(prog.info? 5).map (fun i=>(i.zero,i.size,i.bytes))=some (some (.int .u8 0),1,1):=kR
def py (l:List UInt8) (p:Nat):List UInt8:=l++List.replicate p 0
theorem BI (l:List UInt8) (p:Nat):py l p++[0]=py l (p+1):=by
 simp[py,List.replicate_succ',List.append_assoc]
theorem eJ (l:List UInt8) (p:Nat):(py l p).length=l.length+p:=by simp[py]
def Hx (W:World) (l:List UInt8) (v:Value) (w:World):Prop:=
 ∃ p g cap n:Nat,v=.slice (some ⟨g,0,none⟩) n cap∧n=l.length+p∧p≤(15 - l.length % 8) % 8∧jm w W.heap.size g cap (py l p)∧Below W.heap.size W w
def Je:Value→Nat| .slice _ n _=>(15 - n % 8) % 8|_=>0
def gN (l:List UInt8) (p:Nat):List UInt8:=py l p++[UInt8.ofNat (l.length % 256)]
theorem jU (l:List UInt8) (p:Nat):(gN l p).length=l.length+p+1:=by simp[gN,eJ]
theorem uZ (l:List UInt8) (p j:Nat) (h:8*j+8≤l.length):((gN l p).drop (8*j)).take 8=(l.drop (8*j)).take 8:=by
 unfold gN py;rw[List.append_assoc,List.drop_append_of_le_length oM,List.take_append_of_le_length (by rw[List.length_drop];omega)]
theorem xv (s0:S4) (l:List UInt8) (p j:Nat) (h:8*j≤l.length):dE s0 (gN l p) j=dE s0 l j:=by
 induction j with
 |zero=>simp[dE]
 |succ j ih=>rw[eY,eY,ih oM,uZ l p j oM]
theorem vV (l:List UInt8) (p:Nat) (hp:p≤7) (h:(l.length+p) % 8=7):dr (((gN l p).drop (8*(l.length / 8))).take 8)=lN l:=by
 have h1:(gN l p).drop (8*(l.length / 8))=l.drop (8*(l.length / 8))++(List.replicate p 0++[UInt8.ofNat (l.length % 256)]):=by
  unfold gN py;rw[List.append_assoc,List.drop_append_of_le_length oM]
 have hlen:((gN l p).drop (8*(l.length / 8))).length=8:=by rw[List.length_drop,jU];omega
 rw[List.take_of_length_le oM,h1,kv,kv,vR,List.length_drop,List.length_replicate];unfold lN yb
 have h2:dr [UInt8.ofNat (l.length % 256)]=l.length % 256:=by
  simp[dr]
 rw[h2,Nat.zero_add,←Nat.mul_assoc,←Nat.pow_add];have h3:l.length - 8*(l.length / 8)+p=7:=by omega
 rw[h3];rw[o7 7,Nat.add_comm,Nat.mul_comm]
theorem zE (k0 k1:Int) (l:List UInt8) (p:Nat) (hp:p≤7) (h:(l.length+p) % 8=7):CK k0 k1 l=zN (dE (gh k0 k1) (gN l p) ((gN l p).length / 8)):=by
 have h1:(gN l p).length / 8=l.length / 8+1:=by rw[jU];omega
 rw[h1,eY,vV l p hp h,xv _ _ _ _ oM];rfl
theorem zM (P:List UInt8) (i k:Nat) (h:i+k<P.length) (hk:k<8) (h8:((P.drop i).take 8).length=8):
  IntKind.u64.wrap (IntKind.u64.wrap (((dr (((P.drop i).take 8).drop (k+1)):Nat):Int)*256)+((P[i+k]).toNat:Int))=((dr (((P.drop i).take 8).drop k):Nat):Int):=by
 have hb:=(P[i+k]).toNat_lt;have h1:=ye ((P.drop i).take 8) k oM;have h2:((P.drop i).take 8)[k]'oM=P[i+k]:=by rw[List.getElem_take,List.getElem_drop]
 rw[h2]at h1;have h3:=sj (((P.drop i).take 8).drop (k+1));rw[List.length_drop,h8]at h3;have h4:(256:Nat) ^ (8 - (k+1))≤256 ^ 7:=Nat.pow_le_pow_right oM oM;rw[h1];generalize dr (((P.drop i).take 8).drop (k+1))=m at*;have h5:m<72057594037927936:=by omega
 have e1:IntKind.u64.wrap ((m:Int)*256)=((m*256:Nat):Int):=by
  have:=nQ (m*256) oM;rw[←this];simp
 rw[e1];have e2:((m*256:Nat):Int)+((P[i+k]).toNat:Int)=((m*256+(P[i+k]).toNat:Nat):Int):=by simp
 rw[e2,nQ _ oM];simp;omega
section
variable {w:World} {g:Nat} {t:TypeId} {p0 p1 p2 p3:Value}
theorem aj.t0 (h:aj w g t #[p0,p1,p2,p3]) (x:Value):aj (w.setCell ⟨g,0,none⟩ x) g t #[x,p1,p2,p3]:=h.set_ 0 x
theorem aj.t1 (h:aj w g t #[p0,p1,p2,p3]) (x:Value):aj (w.setCell ⟨g,1,none⟩ x) g t #[p0,x,p2,p3]:=h.set_ 1 x
theorem aj.t2 (h:aj w g t #[p0,p1,p2,p3]) (x:Value):aj (w.setCell ⟨g,2,none⟩ x) g t #[p0,p1,x,p3]:=h.set_ 2 x
theorem aj.t3 (h:aj w g t #[p0,p1,p2,p3]) (x:Value):aj (w.setCell ⟨g,3,none⟩ x) g t #[p0,p1,p2,x]:=h.set_ 3 x
theorem DC {W:World} {B gb cap:Nat} {P:List UInt8} (h:aj w g t #[p0,p1,p2,p3]) (hb:jm w B gb cap P) (hl:Below W.heap.size W w) (hg:W.heap.size≤g) (hne:gb≠g) (x0 x1 x2 x3 y:Value) (w':World)
  (e:w'=((((w.setCell ⟨g,0,none⟩ x0).setCell ⟨g,1,none⟩ x1).setCell ⟨g,2,none⟩ x2).setCell ⟨g,3,none⟩ x3).setCell ⟨g,0,none⟩ y):
  jm w' B gb cap P∧aj w' g t #[y,x1,x2,x3]∧Below W.heap.size W w':=by
 subst e;refine⟨hb.only (r:=some g) ?_ (by simpa using hne),((((h.t0 x0).t1 x1).t2 x2).t3 x3).t0 y,?_⟩
 ·iterate 5 refine ag ?_ (.inl rfl) _
  exact bT w _
 ·exact((((hl.setCell (p:=⟨g,0,none⟩) hg _).setCell (p:=⟨g,1,none⟩) hg _).setCell (p:=⟨g,2,none⟩) hg _).setCell (p:=⟨g,3,none⟩) hg _).setCell (p:=⟨g,0,none⟩) hg _
end
def Ir (W:World) (s0:S4) (B g cap gv:Nat) (P:List UInt8) (i:Value) (w:World):Prop:=
 ∃ i' j:Nat,i=.int .i64 i'∧i'=8*j∧i'≤P.length∧jm w B g cap P∧aj w gv 190 (dE s0 P j).cells∧Below W.heap.size W w
theorem FF (k0 k1:Int) (s:ByteArray) (W:World) (hs:s.size≤1000000):
  Calls prog 95 #[.int .u64 k0,.int .u64 k1,.string s] W fun e w'=>e=.returned (.int .u64 (CK k0 k1 s.data.toList))∧Below W.heap.size W w':=by
 obtain⟨i0,hi,hz0,hz1,hz2⟩:=info_parts Gv;have hconv:=Lib.run_convert_string_bytes (P:=prog) W 9 36 5 s underlying9 underlying36 underlying5;have hbs:=BS.conv W 5 s oM;have hbl:=yz W 5 s;generalize Lib.bytesWorld W 5 s=w0 at*;have HI:=zH hi;have HZ0:=zH hz0;have HZ1:=zH hz1;have HZ2:=zH hz2;have HBS:=zH hbs;have HBL:=zH hbl;clear hi hz0 hz1 hz2 hbs hbl;go_enter Tryz.func95,Tryz.ntmps95;go_wp2_with fail
 go_loopw [7] (fun v wr=>Hx W s.data.toList v wr) (fun v _=>Je v)
 case atStart=>
  obtain⟨g,cap,hv,hb⟩:=HBS.out;exact⟨0,g,cap,s.size,hv,rfl,by omega,by simpa[py]using hb,HBL.out⟩
 case round=>
  obtain⟨p,g,cap,n,rfl,hn,hp,hb,hbl⟩:=hrel;have hp8:p≤7:=by omega
  have hl:s.data.toList.length=s.size:=rfl;have hns:n≤1000008:=by omega
  have HB:=zH hb;have HL:=zH hbl;have HN:=zH hn;have HP:=zH hp;clear hb hbl hn hl hp
  by_cases h7:n % 8=7
  ·have ht:((n:Int) % 8 != 7)=false:=by simp;omega
   have H7:=zH h7;clear h7;have hby:((UInt8.ofNat (s.size % 256)).toNat:Int)=(s.size:Int) % 256:=by simp
   have HBY:=zH hby;clear hby;go_wp2_with (at_builtin;refine ji rfl _ _ 36 rfl 5 i0 underlying36 HI.out HZ0.out HZ1.out HZ2.out (B:=W.heap.size) (l:=py s.data.toList p) (v:=.slice (some ⟨g,0,none⟩) n cap) rfl ?hbs ⟨wr.heap.size,0,none⟩ 1 (UInt8.ofNat (s.size % 256)) rfl ?hbb ?hbn ?hbB ?hbK)
   case hbs=>exact(HB.out.bs n (by rw[HN.out,eJ])).alloc _
   case hbb=>rw[HBY.out];simp
   case hbn=>rw[eJ];have:=HN.out;omega
   case hbB=>have:=HL.out.size;simp;omega
   case hbK=>
    rintro v' w' ⟨g',cap',rfl,hb'⟩ hbl';have hl:s.data.toList.length=s.size:=rfl;have hsip:=zE k0 k1 s.data.toList p hp8 (by rw[←HN.out];exact H7.out);have hPl:=jU s.data.toList p;have hP:py s.data.toList p++[UInt8.ofNat (s.size % 256)]=gN s.data.toList p:=rfl;rw[hP]at hb' ⊢;generalize gN s.data.toList p=P at*;have hq8:P.length % 8=0:=by rw[hPl,←HN.out];have:=H7.out;omega
    have hqm:P.length≤1000009:=by rw[hPl,←HN.out];omega
    have HSIP:=zH hsip;have HQ8:=zH hq8;have HB':=zH hb';have HL':=zH ((HL.out.alloc HL.out.size (.cells #[.int .u8 ((s.size:Int) % 256)] 5)).trans hbl');obtain⟨q,hq⟩: ∃ q,q=P.length:=⟨_,rfl⟩;rw[←hq]at hqm ⊢;have HQ:=zH hq;clear hsip hPl hP hq8 hb' hbl' hq hl HB HL HN HP H7 HBY;go_wp2_with fail
    go_loopw [9] (fun i wr2=>Ir W (gh k0 k1) W.heap.size g' cap' w'.heap.size P i wr2) (fun i _=>q - (intOf i).toNat)
    case atStart=>exact⟨0,0,rfl,rfl,by omega,HB'.out.alloc _,aj.new w' _ _,HL'.out.alloc HL'.out.size _⟩
    case round=>
     obtain⟨i,j,rfl,hij,hiq,hb,hk,hbl⟩:=hrel;have HIJ:=zH hij;have HB2:=zH hb;have HK2:=zH hk;have HL2:=zH hbl;have hok:=nA _ (nv k0 k1) P j;have HOK:=zH hok;have hiq':i≤q:=by rw[HQ.out];exact hiq
     clear hij hb hk hbl hok hiq
     by_cases hlt:i<q
     ·have hi8:i+8≤q:=by have:=HQ8.out;have:=HIJ.out;have:=HQ.out;omega
      have hc8:((P.drop i).take 8).length=8:=by rw[List.length_take,List.length_drop];have:=HQ.out;omega
      have HC8:=zH hc8;clear hc8;go_wp2_with fail
      go_loop [10,11] (fun m kk=> ∃ z:Int,-1≤z∧z≤7∧kk=.int .i64 z∧m=.int .u64 ((dr (((P.drop i).take 8).drop (z+1).toNat):Nat):Int)) (fun _ kk=>(intOf kk+1).toNat)
      case atStart=>exact⟨7,by omega,by omega,rfl,by rw[List.drop_of_length_le (by rw[HC8.out];decide)];rfl⟩
      case round=>
       obtain⟨z,hz1,hz7,rfl,rfl⟩:=hrel
       by_cases hz0:0≤z
       ·obtain⟨k,rfl⟩:=Int.eq_ofNat_of_zero_le hz0
        have hk8:k<8:=by omega
        have hik:i+k<P.length:=by have:=HQ.out;omega
        have hcell:=HB2.out.bytes (i+k) hik;have hbt:=(P[i+k]).toNat_lt;have hw:=zM P i k hik hk8 HC8.out;have HW:=zH hw;clear hz0 hz1 hz7 hw;go_wp2_with fail;exact⟨⟨(k:Int) - 1,by omega,by omega,rfl,by rw[HW.out,show((k:Int) - 1+1).toNat=k from by omega]⟩,by simp[intOf]<;>omega⟩
       ·obtain rfl:z= -1:=by omega
        have hmm:(((P.drop i).take 8).drop ((-1:Int)+1).toNat)=(P.drop (8*j)).take 8:=by rw[HIJ.out];rfl
        rw[hmm];have hstep:=eY (gh k0 k1) P j;have HST:=zH hstep;generalize dr ((P.drop (8*j)).take 8)=m at*;generalize dE (gh k0 k1) P j=S at*;clear hmm hstep hz1 hz7 hz0;have b0:aj wr w'.heap.size 190 #[.int .u64 S.a,.int .u64 S.b,.int .u64 S.c,.int .u64 S.d]:=HK2.out;have B0:=zH b0;have c0:=b0.c0;have c1:=b0.c1;have c2:=b0.c2;have c3:=b0.c3;have f3:=b0.frozen 3;clear b0;go_wp2_with fail;refine(qE ⟨S.a,S.b,S.c,bx S.d m⟩ ⟨HOK.out.1,HOK.out.2.1,HOK.out.2.2.1,iN _ _⟩ 2 oM _).mono ?_;rintro e w1 ⟨rfl,hb1⟩;have hB1:aj w1 w'.heap.size 190 #[.int .u64 S.a,.int .u64 S.b,.int .u64 S.c,.int .u64 (bx S.d m)]:=aj.below' (B0.out.set_ 3 (.int .u64 (bx S.d m))) hb1;have hL1:Below W.heap.size W w1:=(HL2.out.setCell (p:=⟨w'.heap.size,3,none⟩) HL'.out.size _).trans (hb1.mono (by simpa[World.setCell]using HL2.out.size));have hB2:jm w1 W.heap.size g' cap' P:=(HB2.out.only (ag (bT wr (some w'.heap.size)) (p:=⟨w'.heap.size,3,none⟩) (.inl rfl) (.int .u64 (bx S.d m))) (by have:=HB'.out.lt;simp;omega)).below hb1;have HB1:=zH hB1;have HL1:=zH hL1;have HBS1:=zH hB2;have d0:=hB1.c0;have d1:=hB1.c1;have d2:=hB1.c2;have d3:=hB1.c3;have f0:=hB1.frozen 0;have f1:=hB1.frozen 1;have f2:=hB1.frozen 2;have f3':=hB1.frozen 3;clear hB1 hL1 hB2 c0 c1 c2 c3 f3 hb1;obtain⟨R,hR⟩: ∃ R:S4,R=dD ⟨S.a,S.b,S.c,bx S.d m⟩ 2:=⟨_,rfl⟩;rw[←hR,show R.cells=#[.int .u64 R.a,.int .u64 R.b,.int .u64 R.c,.int .u64 R.d]from rfl];have HR:=zH hR;clear hR;have hend:(S4.eat S m).cells=#[.int .u64 (bx R.a m),.int .u64 R.b,.int .u64 R.c,.int .u64 R.d]:=by rw[HR.out];rfl
        have HE:=zH hend;clear hend;go_wp2_with fail;have E:=DC HB1.out HBS1.out HL1.out HL'.out.size (by have:=HB'.out.lt;omega) (.int .u64 R.a) (.int .u64 R.b) (.int .u64 R.c) (.int .u64 R.d) (.int .u64 (bx R.a m)) _ rfl;refine⟨⟨i+8,j+1,by go_num,by rw[HIJ.out];omega,by rw[←HQ.out];exact hi8,E.1,?_,E.2.2⟩,by simp[intOf];omega⟩;rw[HST.out,HE.out];exact E.2.1
     ·have hjq:j=P.length / 8:=by have:=HIJ.out;have:=HQ.out;omega
      have HS2:CK k0 k1 s.data.toList=zN (dE (gh k0 k1) P j):=by rw[HSIP.out,hjq]
      have HS3:=zH HS2;clear HS2 hjq;generalize dE (gh k0 k1) P j=S at*;have b0:aj wr w'.heap.size 190 #[.int .u64 S.a,.int .u64 S.b,.int .u64 S.c,.int .u64 S.d]:=HK2.out;have B0:=zH b0;have c0:=b0.c0;have c1:=b0.c1;have c2:=b0.c2;have c3:=b0.c3;have f2:=b0.frozen 2;clear b0;go_wp2_with fail;refine(qE ⟨S.a,S.b,bx S.c 255,S.d⟩ ⟨HOK.out.1,HOK.out.2.1,iN _ _,HOK.out.2.2.2⟩ 4 oM _).mono ?_;rintro e w1 ⟨rfl,hb1⟩;have hB1:aj w1 w'.heap.size 190 #[.int .u64 S.a,.int .u64 S.b,.int .u64 (bx S.c 255),.int .u64 S.d]:=aj.below' (B0.out.set_ 2 (.int .u64 (bx S.c 255))) hb1;have hL1:Below W.heap.size W w1:=(HL2.out.setCell (p:=⟨w'.heap.size,2,none⟩) HL'.out.size _).trans (hb1.mono (by simpa[World.setCell]using HL2.out.size));have HL1:=zH hL1;have d0:=hB1.c0;have d1:=hB1.c1;have d2:=hB1.c2;have d3:=hB1.c3;have f0:=hB1.frozen 0;have f1:=hB1.frozen 1;have f2':=hB1.frozen 2;have f3':=hB1.frozen 3;clear hB1 hL1 c0 c1 c2 c3 f2 hb1;obtain⟨R,hR⟩: ∃ R:S4,R=dD ⟨S.a,S.b,bx S.c 255,S.d⟩ 4:=⟨_,rfl⟩;rw[←hR,show R.cells=#[.int .u64 R.a,.int .u64 R.b,.int .u64 R.c,.int .u64 R.d]from rfl];have hfin:CK k0 k1 s.data.toList=bx (bx (bx R.a R.b) R.c) R.d:=by rw[HS3.out,hR];rfl
      have HF:=zH hfin;clear hfin hR;go_wp2_with fail;go_ret;refine⟨by rw[HF.out];rfl,?_⟩;exact(((HL1.out.setCell (p:=⟨w'.heap.size,0,none⟩) HL'.out.size _).setCell (p:=⟨w'.heap.size,1,none⟩) HL'.out.size _).setCell (p:=⟨w'.heap.size,2,none⟩) HL'.out.size _).setCell (p:=⟨w'.heap.size,3,none⟩) HL'.out.size _
  ·have ht:((n:Int) % 8 != 7)=true:=by simp;omega
   have H7:=zH h7;clear h7;go_wp2_with (at_builtin;refine ji rfl _ _ 36 rfl 5 i0 underlying36 HI.out HZ0.out HZ1.out HZ2.out (B:=W.heap.size) (l:=py s.data.toList p) (v:=.slice (some ⟨g,0,none⟩) n cap) rfl ?hbs ⟨wr.heap.size,0,none⟩ 1 0 rfl ?hbb ?hbn ?hbB ?hbK)
   case hbs=>exact(HB.out.bs n (by rw[HN.out,eJ])).alloc _
   case hbb=>simp
   case hbn=>rw[eJ];have:=HN.out;omega
   case hbB=>have:=HL.out.size;simp;omega
   case hbK=>
    rintro v' w' ⟨g',cap',rfl,hb'⟩ hbl';have HB':=zH hb';have HL':=zH ((HL.out.alloc HL.out.size _).trans hbl');clear hb' hbl';go_wp2_with fail;have hl:s.data.toList.length=s.size:=rfl;refine⟨⟨p+1,g',cap',_,rfl,?_,?_,?_,HL'.out⟩,?_⟩
    ·rw[List.length_append,eJ];rfl
    ·have:=HN.out;have:=H7.out;have:=HP.out;omega
    ·rw[←BI];exact HB'.out
    ·simp only[Je]
     rw[List.length_append,eJ,List.length_singleton];have:=HN.out;have:=H7.out;omega
theorem oK (m:Nat):Lib.repeatL [48] m=List.replicate m (48:UInt8):=by
 induction m with
 |zero=>rfl
 |succ m ih=>rw[Lib.repeatL,ih];rfl
theorem zI (a b:List UInt8):(⟨a.toArray⟩:ByteArray)++⟨b.toArray⟩=⟨(a++b).toArray⟩:=by
 apply ByteArray.ext;simp
theorem CR (n k:Nat) (h1:k≤16) (h2:n<16 ^ k):(⟨(Lib.repeatL (⟨#[48]⟩:ByteArray).data.toList (16 - k)).toArray⟩:ByteArray)++⟨(ff k n).toArray⟩=⟨(ff 16 n).toArray⟩:=by
 rw[zI]
 show(⟨(Lib.repeatL [48] (16 - k)++ff k n).toArray⟩:ByteArray)=_
 rw[oK,←DB k (16 - k) n h2,show k+(16 - k)=16 from by omega]
theorem wk (k n:Nat):(⟨(ff k n).toArray⟩:ByteArray).size=k:=by
 show(ff k n).toArray.size=k
 rw[List.size_toArray,dZ]
theorem EV {W w1 w2:World} (h: ∃ n,w1=W.drewN n) (hb:Below w1.heap.size w1 w2):Below W.heap.size W w2:=by
 obtain⟨n,rfl⟩:=h;exact(aF (Below.refl _ _) n).trans (hb.mono (Nat.le_refl _))
theorem Gf {W a b c:World} (h1:Below W.heap.size W a) (h2:Below a.heap.size a b) (h3:Below b.heap.size b c):Below W.heap.size W c:=
 (h1.trans (h2.mono h1.size)).trans (h3.mono (Nat.le_trans h1.size h2.size))
theorem Fo (m:Nat):(⟨(Lib.repeatL [48] m).toArray⟩:ByteArray).size=m:=by
 show(Lib.repeatL [48] m).toArray.size=m
 rw[oK,List.size_toArray,List.length_replicate]
theorem Aa (key:Int) (s:ByteArray) (W:World) (hs:s.size≤1000000) (hT:cW W):
  Calls prog 48 #[.int .i64 key,.string s] W fun e w'=>e=.returned (.string ⟨(aQ key s.data.toList).toArray⟩)∧Below W.heap.size W w':=by
 have HT:=zH hT;have hG:=hT.lt;clear hT;go_enter Tryz.func48,Tryz.ntmps48
 go_wp2_with (first
  |(go_at_call 96;refine(mY _ 32 _ (iC _) oM oM).mono ?_;rintro e w1 ⟨rfl,hww⟩)
  |(go_at_call 95;refine(FF _ _ s _ hs).mono ?_;rintro e w2 ⟨rfl,hb⟩
    have hb1:Below W.heap.size W w2:=EV hww hb;have htag:aQ key s.data.toList=ff 16 (CK (IntKind.u64.wrap key) (bS (IntKind.u64.wrap key) 32) s.data.toList).toNat:=rfl;have hu:=Ad (IntKind.u64.wrap key) (bS (IntKind.u64.wrap key) 32) s.data.toList;generalize CK (IntKind.u64.wrap key) (bS (IntKind.u64.wrap key) 32) s.data.toList=N at*;obtain⟨n,rfl⟩:=Int.eq_ofNat_of_zero_le hu.1;have hn:n<18446744073709551616:=by have:=hu.2;omega
    rw[Int.toNat_natCast]at htag;have HTAG:=zH htag;have HB1:=zH hb1;have HN:=zH hn;clear hu htag hb1 hn hb hww)
  |(go_at_call 97;refine(yd n _ HN.out (HT.out.below HB1.out hG)).mono ?_;rintro e w3 ⟨⟨k,hk1,hk16,hnk,rfl⟩,hb3⟩
    have hsz:=wk k n;have hsr:=Fo (16 - k);have hjoin:=CR n k hk16 hnk;have HB3:=zH hb3;have HJ:=zH hjoin;clear hb3 hnk hjoin)
  |(go_at_call 98
    rw[show((16:Int) - (k:Int))=((16 - k:Nat):Int) by omega];refine(Tryz.strings_Repeat ⟨#[48]⟩ (16 - k) _ oM (by show 1*(16 - k)≤_;omega)).mono ?_;rintro e w4 ⟨rfl,hb4⟩;have HB4:=zH hb4;clear hb4))
 go_ret;rw[HJ.out,←HTAG.out];exact⟨rfl,Gf HB1.out HB3.out HB4.out⟩
def bN (a b c d:Int):Bool:=((decide (a=1)&&decide (d=0)) || (decide (a=2)&&ba d))&&ba b&&ba c
def v4 (a b c d:Int):Value:=.agg #[.int .i64 a,.int .i64 b,.int .i64 c,.int .i64 d]
theorem Et (x:Int) (w:World):Calls prog 83 #[.int .i64 x,.int .i64 0,.int .i64 1099511627776] w fun e w'=>e=.returned (.bool (ba x))∧w=w':=by
 by_cases h0:0≤x
 ·go_enter Tryz.func83,Tryz.ntmps83
  go_wp2_with fail;go_ret;refine⟨?_,rfl⟩
  show Ending.returned _=_
  simp[ba]
  try omega
 ·have h1:x<0:=by omega
  go_enter Tryz.func83,Tryz.ntmps83;go_wp2_with fail;go_ret;refine⟨?_,rfl⟩
  show Ending.returned _=_
  simp[ba]
  try omega
theorem Eg (x:Int) (w:World):Calls prog 228 #[.int .i64 x] w fun e w'=>e=.returned (.bool (ba x))∧w=w':=by
 by_cases h0:0≤x
 ·go_enter Tryz.func228,Tryz.ntmps228
  go_wp2_with fail;go_ret;refine⟨?_,rfl⟩
  show Ending.returned _=_
  simp[ba]
  try omega
 ·have h1:x<0:=by omega
  go_enter Tryz.func228,Tryz.ntmps228;go_wp2_with fail;go_ret;refine⟨?_,rfl⟩
  show Ending.returned _=_
  simp[ba]
  try omega
open Go.Sort
theorem po {w w':World} {B n:Nat} {e:TypeId} {v:Value} {xs:List Value} (h:w.ownsRow B e 1 v n xs) (hb:Below w.heap.size w w'):w'.ownsRow B e 1 v n xs:=
 h.kept (aG hb (some w.heap.size)) (.inr (fun he=>by have:=(h.lt _ he).2;omega))
theorem aJ.below {w w':World} {g:Nat} {L:List Int} (h:aJ w g L) (hb:Below w.heap.size w w'):aJ w' g L:=by
 intro j hj;have h1:=h j hj;have hlt:g<w.heap.size:=World.block_lt_of_cell? w _ h1;rw[hb.cell (p:=⟨g,j,none⟩) hlt];exact h1
structure TD (W:World) (g:Nat) (L:List Int) (k:Nat) (out:Value) (w:World):Prop where
 wb:WB W w
 ints:aJ w g L
 row:w.ownsRow W.heap.size 9 1 out k ((L.take k).map fun x=>encStr (Lib.itoa x))
theorem TD.start {W:World} {g:Nat} {L:List Int} (h:WB W W) (hi:aJ W g L):TD W g L 0 (.slice none 0 0) W:=⟨h,hi,World.ownsRow_nil _ _ _ _⟩
theorem TD.call {W w w1:World} {g k:Nat} {L:List Int} {out:Value} (h:TD W g L k out w) (hb:Below w.heap.size w w1):TD W g L k out w1:=⟨h.wb.keep hb,h.ints.below hb,po h.row hb⟩
theorem TD.next {W w1 w3:World} {g k:Nat} {L:List Int} {out v':Value} {o:Obj} (h0:WB W W) (hi:aJ W g L) (h:TD W g L k out w1) (hk:k<L.length) {y:Value} (hy:y=encStr (Lib.itoa (L.getD k 0)))
  (ho:w3.ownsRow W.heap.size 9 1 v' (k+1) ((L.take k).map (fun x=>encStr (Lib.itoa x))++[y])) (hg:(w1.alloc o).grownBy w3 out.ownBlock):TD W g L (k+1) v' w3:=by
 have b1:Below W.heap.size W (w1.alloc o):=h.wb.below.alloc h.wb.below.size o;have b2:Below W.heap.size W w3:=b1.grown hg b1.size fun i e=>(h.row.lt i e).1
 refine⟨h0.keep b2,hi.below b2,?_⟩
 have e:(L.take (k+1)).map (fun x=>encStr (Lib.itoa x))=(L.take k).map (fun x=>encStr (Lib.itoa x))++[y]:=by
  rw[List.take_add_one,List.getElem?_eq_getElem hk,List.map_append,hy];simp[List.getD,hk]
 rw[e];exact ho
def AG (W:World) (g:Nat) (L:List Int) (out i:Value) (wr:World):Prop:= ∃ k:Nat,k≤L.length∧i=.int .i64 k∧TD W g L k out wr
theorem TD.join {W w:World} {g:Nat} {L:List Int} {out:Value} (h:TD W g L L.length out w) (hL:L≠ []) (h4:L.length≤4) (hn: ∀ x∈L,ba x=true):
  Calls prog 50 #[out,.string ⟨#[32]⟩] w fun e w'=>e=.returned (.string (ah (bM 32 (L.map Lib.itoa))))∧Below w.heap.size w w':=by
 have hr:=h.row;rw[List.take_length]at hr
 have hr2:w.ownsRow W.heap.size 9 1 out (L.map Lib.itoa).length ((L.map Lib.itoa).map encStr):=by
  rw[List.map_map,List.length_map];exact hr
 have hg:=jB 32 20 (L.map Lib.itoa) (by
  intro x hx;obtain⟨y,hy,rfl⟩:=List.mem_map.1 hx;have:=gQ (hn y hy);omega)
 rw[List.length_map]at hg;exact lq 32 (ir hr2 (by simpa using hL)) (by rw[List.length_map];omega) oM
theorem lw (s:ByteArray) (W:World) (hs:s.size≤1000000) (hT:bH W) (hv:bf W):
  Calls prog 249 #[.string s] W fun e w'=>e=.returned (.tuple #[.int .i64 (ab s.data.toList),.bool (fa s.data.toList)])∧Below W.heap.size W w':=by
 have hb:=gJ s.data.toList;have hsl:s.toList=s.data.toList:=by rw[ByteArray.toList_eq]
 cases hE:dL s.data.toList
 ·have HA:=zH (nW s W hs hv hE)
  have HN:=zH (show fa s.data.toList=false by unfold fa;rw[hE];rfl);clear hE hT hv hsl;generalize ab s.data.toList=n at*;go_enter Tryz.func249,Tryz.ntmps249
  go_wp2_with
   (go_at_call 51;refine HA.out.mono ?_;rintro e w1 ⟨⟨te,pe,rfl⟩,hb1⟩
    have HB:=zH hb1;clear hb1)
  go_ret2;exact⟨by rw[HN.out];rfl,HB.out⟩
 ·have HA:=zH (j3 s W hs hE)
  have HI:=zH (fun w=>iw (ab s.data.toList) hb.1 hb.2 w);have HT:=zH hT;have lt:=hT.lt
  have hN:fa s.data.toList=(((aL (ab s.data.toList)).toList == s.toList)&&decide (0≤ab s.data.toList)&&decide (ab s.data.toList≤1099511627776)):=by
   unfold fa ba;rw[hE,pm,hsl,Bool.true_and,←Bool.and_assoc]
   congr 2
   rw[Bool.eq_iff_iff];simp
  have HN:=zH hN;clear hE hT hv hsl hN;generalize ab s.data.toList=n at*;generalize aL n=y at*;cases hq:(y.toList == s.toList)
  ·have HQ:=zH hq
   go_enter Tryz.func249,Tryz.ntmps249
   go_wp2_with
    (first
    |(go_at_call 51;refine HA.out.mono ?_;rintro e w1 ⟨rfl,hb1⟩
      have HB:=zH hb1;clear hb1)
    |(go_at_call 26;refine(HI.out _ (HT.out.below HB.out lt)).mono ?_;rintro e w2 ⟨rfl,hb2⟩
      have HB2:=zH (ae HB.out hb2);clear hb2))
   go_ret2;exact⟨by rw[HN.out,HQ.out];rfl,HB2.out⟩
  ·have HQ:=zH hq
   by_cases h0:0≤n
   all_goals
    go_enter Tryz.func249,Tryz.ntmps249
    go_wp2_with
     (first
     |(go_at_call 51;refine HA.out.mono ?_;rintro e w1 ⟨rfl,hb1⟩
       have HB:=zH hb1;clear hb1)
     |(go_at_call 26;refine(HI.out _ (HT.out.below HB.out lt)).mono ?_;rintro e w2 ⟨rfl,hb2⟩
       have HB2:=zH (ae HB.out hb2);clear hb2))
    go_ret2;refine⟨?_,HB2.out⟩;rw[HN.out,HQ.out]
    first
     |(rw[show decide (0≤n)=true by simp;omega];rfl)
     |(rw[show decide (0≤n)=false by simp;omega];rfl)
theorem aD.lit {w:World} {B n c:Nat} {a:Option Addr} {L:List an} (h:aD w B (.slice a n c) L) {k:Nat} (hk:k<L.length): ∃ g,a=some ⟨g,0,none⟩∧n=L.length∧aD w B (.slice (some ⟨g,0,none⟩) L.length c) L:=by
 rcases h.parts with⟨e,rfl⟩|⟨g,cap,e,_⟩
 ·simp at hk
 ·simp only[Value.slice.injEq]at e
  obtain⟨rfl,rfl,rfl⟩:=e;exact⟨g,rfl,rfl,h⟩
def dM (db:Nat) (s:St) (v:Value) (n f x:Int) (down:Bool):Array Value:=#[.pointer (some ⟨db,0,none⟩),.int .i64 s.clock,.int .i64 s.next,v,.int .i64 n,.int .i64 f,.int .i64 x,.bool down]
def qJ (w:World) (sb db:Nat) (s:St) (v:Value) (n f x:Int) (down:Bool):Prop:=aj w sb 112 (dM db s v n f x down)
theorem qJ.cells {w:World} {sb db:Nat} {ck nx:Int} {L:List an} {v:Value} {n f x:Int} {down:Bool} (h:qJ w sb db ⟨ck,nx,L⟩ v n f x down):
  w.cell? ⟨sb,0,none⟩=some (.pointer (some ⟨db,0,none⟩))∧w.cell? ⟨sb,1,none⟩=some (.int .i64 ck)∧w.cell? ⟨sb,2,none⟩=some (.int .i64 nx)∧w.cell? ⟨sb,3,none⟩=some v∧w.cell? ⟨sb,4,none⟩=some (.int .i64 n)∧
  w.cell? ⟨sb,5,none⟩=some (.int .i64 f)∧w.cell? ⟨sb,6,none⟩=some (.int .i64 x)∧w.cell? ⟨sb,7,none⟩=some (.bool down)∧(∀ j,w.frozen? ⟨sb,j,none⟩=false)∧sb<w.heap.size:=
 ⟨aj.cell h 0,aj.cell h 1,aj.cell h 2,aj.cell h 3,aj.cell h 4,aj.cell h 5,aj.cell h 6,aj.cell h 7,aj.frozen h,aj.lt h⟩
theorem dQ {w:World} {g:Nat} {T:TypeId} {k0 k1 k2:Value} (h:aj w g T #[k0,k1,k2]):w.cell? ⟨g,0,none⟩=some k0∧w.cell? ⟨g,1,none⟩=some k1∧w.cell? ⟨g,2,none⟩=some k2:=⟨h.cell 0,h.cell 1,h.cell 2⟩
theorem tS (sb db:Nat) (s:St) (v:Value) (n f x:Int) (down:Bool) (W:World) (h:qJ W sb db s v n f x down) (h0:0≤f) (h1:f≤x) (h2:x≤1000000):
  Calls prog 128 #[.pointer (some ⟨sb,0,none⟩)] W fun e w'=>e=.returned (.int .i64 (x - f))∧Below W.heap.size W w':=by
 obtain⟨ck,nx,L⟩:=s;obtain⟨c0,c1,c2,c3,c4,c5,c6,c7,z,hlt⟩:=h.cells;clear h;go_enter Tryz.func128,Tryz.ntmps128;go_wp2_with fail
 go_quiet (fail)
 go_wp2_with fail;go_ret;exact⟨rfl,aF (Below.refl _ _) _⟩
theorem zb (sb db:Nat) (s:St) (v:Value) (n f x:Int) (down:Bool) (W:World) (h:qJ W sb db s v n f x down):
  Calls prog 129 #[.pointer (some ⟨sb,0,none⟩)] W fun e w'=>e=.returned (.bool down)∧Below W.heap.size W w':=by
 obtain⟨ck,nx,L⟩:=s;obtain⟨c0,c1,c2,c3,c4,c5,c6,c7,z,hlt⟩:=h.cells;clear h;go_enter Tryz.func129,Tryz.ntmps129;go_wp2_with fail;go_ret;exact⟨rfl,Below.refl _ _⟩
theorem nD (n:Int) (W:World) (h0:0≤n) (_:n≤1000001):Calls prog 103 #[.int .i64 n] W fun e w'=>e=.returned (.int .i64 (ay (n % 2).toNat:Nat))∧W=w':=by
 have h3:n % 2=0∨n % 2=1:=by omega
 have hr:n.tmod 2=n % 2:=by exact Int.tmod_eq_emod_of_nonneg h0
 have hs:(ay (n % 2).toNat:Int)=16+n % 2*21:=by
  rcases h3 with h|h<;>rw[h]<;>decide
 rw[hs];have HR:=zH hr;go_enter Tryz.func103,Tryz.ntmps103;go_wp2_with fail;go_ret;refine⟨?_,rfl⟩
 show Ending.returned (Value.int _ _)=_
 congr 2
theorem nz (sb db:Nat) (s:St) (v:Value) (n f x:Int) (down:Bool) (W:World) (h:qJ W sb db s v n f x down):
  Calls prog 188 #[.pointer (some ⟨sb,0,none⟩),.iface 57 (.int .i64 14)] W fun e w'=>e=.returned (.iface 57 (.int .i64 14))∧qJ w' sb db s v n f x true∧W.grownBy w' (some sb):=by
 obtain⟨ck,nx,L⟩:=s;obtain⟨c0,c1,c2,c3,c4,c5,c6,c7,z,hlt⟩:=h.cells;have HS:=zH (show qJ (W.setCell ⟨sb,7,none⟩ (.bool true)) sb db ⟨ck,nx,L⟩ v n f x true from aj.put_ h 7 (.bool true) rfl);have HG:=zH (aZ W sb ⟨sb,7,none⟩ rfl (.bool true));clear h;cases down
 all_goals
  go_enter Tryz.func188,Tryz.ntmps188;go_wp2_with fail;go_ret;exact⟨rfl,HS.out,HG.out⟩
theorem Cy {W w:World} {A:Act} {s:St} {v:Value} (hr:aD w W.heap.size v s.fams) (h1:v.ownBlock≠some W.heap.size) (h2:v.ownBlock≠some (W.heap.size+1)) (hb:Below W.heap.size W w)
  (h3:aj w W.heap.size 83 #[.int .i64 0,.int .i64 0,.slice none 0 0])
  (hp:A.tmps.getD 2 undef=.pointer (some ⟨W.heap.size,0,none⟩)) (hd:A.defers=[]):
  bodyPost prog Tryz.f177 (cD W s) Exit.ret A ((((w.setCell ⟨W.heap.size+1,2,none⟩ v).setCell ⟨W.heap.size,0,none⟩ (.int .i64 s.clock)).setCell ⟨W.heap.size,1,none⟩ (.int .i64 s.next)).setCell ⟨W.heap.size,2,none⟩ v):=by
 have g0:=aZ w (W.heap.size+1) ⟨W.heap.size+1,2,none⟩ rfl v;have k3:=h3.grown g0 (by simp);have kr:=hr.kept g0 h2;have kb:=hb.setCell (p:=⟨W.heap.size+1,2,none⟩) (Nat.le_succ _) v;generalize w.setCell ⟨W.heap.size+1,2,none⟩ v=w1 at*;have e1:=k3.put_ 0 (.int .i64 s.clock) (cs':=#[.int .i64 s.clock,.int .i64 0,.slice none 0 0]) rfl;have e2:=e1.put_ 1 (.int .i64 s.next) (cs':=#[.int .i64 s.clock,.int .i64 s.next,.slice none 0 0]) rfl;have e3:=e2.put_ 2 v (cs':=dN s v) rfl;have g1:=aZ w1 W.heap.size ⟨W.heap.size,0,none⟩ rfl (.int .i64 s.clock);have g2:=ag g1 (p:=⟨W.heap.size,1,none⟩) (.inl rfl) (.int .i64 s.next);have g3:=ag g2 (p:=⟨W.heap.size,2,none⟩) (.inl rfl) v;have kb3:=kb.grown g3 kb.size (fun j hj=>by cases hj;exact Nat.le_refl _);have kr3:=kr.kept g3 h1;generalize ((w1.setCell ⟨W.heap.size,0,none⟩ (.int .i64 s.clock)).setCell ⟨W.heap.size,1,none⟩ (.int .i64 s.next)).setCell ⟨W.heap.size,2,none⟩ v=w2 at*;exact bodyPost_ret (results_cell_row rfl A.tmps w2 _ _ _ (0,0) _ hp e3 underlying83 rfl kR) hd ⟨v,rfl,kr3,kb3⟩
theorem wS (B sb db:Nat) (s:St) (v:Value) (n f x:Int) (down:Bool) (W:World) (h:qJ W sb db s v n f x down) (hr:aD W B v s.fams) (hl:s.fams.length≤1000000):
  Calls prog 177 #[.pointer (some ⟨sb,0,none⟩)] W (cD W s):=by
 obtain⟨sa,sc,rfl⟩:=hr.slice;have hb0:=bZ W (.cells #[.int .i64 0,.int .i64 0,.slice none 0 0] 83) (.cells #[.int .i64 s.clock,.int .i64 s.next,.slice sa s.fams.length sc] 83);have HC:=zH (hO B _ s.fams _ (hr.below hb0) hl);have HB0:=zH hb0;have a3:aj ((W.alloc (.cells #[.int .i64 0,.int .i64 0,.slice none 0 0] 83)).alloc (.cells #[.int .i64 s.clock,.int .i64 s.next,.slice sa s.fams.length sc] 83)) W.heap.size 83 #[.int .i64 0,.int .i64 0,.slice none 0 0]:=(aj.new W _ _).alloc _
 have a4:aj ((W.alloc (.cells #[.int .i64 0,.int .i64 0,.slice none 0 0] 83)).alloc (.cells #[.int .i64 s.clock,.int .i64 s.next,.slice sa s.fams.length sc] 83)) (W.heap.size+1) 83 (dN s (.slice sa s.fams.length sc)):=by
  have:=aj.new (W.alloc (.cells #[.int .i64 0,.int .i64 0,.slice none 0 0] 83)) 83 (dN s (.slice sa s.fams.length sc));rw[show(W.alloc (.cells #[.int .i64 0,.int .i64 0,.slice none 0 0] 83)).heap.size=W.heap.size+1 by simp]at this;exact this
 have hsz:W.heap.size+1+1≤((W.alloc (.cells #[.int .i64 0,.int .i64 0,.slice none 0 0] 83)).alloc (.cells #[.int .i64 s.clock,.int .i64 s.next,.slice sa s.fams.length sc] 83)).heap.size:=by simp
 have A3:=zH a3;have A4:=zH a4;have HSZ:=zH hsz;obtain⟨ck,nx,L⟩:=s;dsimp only at*;obtain⟨c0,c1,c2,c3,c4,c5,c6,c7,z,hlt⟩:=h.cells;clear h hr hb0 a3 a4 hsz;go_enter Tryz.func177,Tryz.ntmps177;go_wp2_with fail;go_at_call 109;refine HC.out.mono ?_;rintro e w1 ⟨v1,rfl,hr1,hb1⟩;have h3:=A3.out.below' hb1;have h4:=A4.out.below' hb1;obtain⟨xa,xc,rfl⟩:=hr1.slice;have HR:=zH hr1;have H3:=zH h3;have H4:=zH h4;have HB:=zH (ae HB0.out hb1);obtain⟨m0,m1,m2⟩:=dQ h4;have z3:=h3.frozen;have z4:=h4.frozen;have l3:=h3.cell 0;have l4:=h3.cell 1;have l5:=h3.cell 2;clear hr1 hb1 h3 h4 HC A3 A4 HB0;go_wp2_with fail;have hz:=HSZ.out;exact Cy (s:=⟨ck,nx,L⟩) (HR.out.mono oM) (fun he=>by have:=(HR.out.lt _ he).1;omega) (fun he=>by have:=(HR.out.lt _ he).1;omega) HB.out H3.out rfl rfl
def pG (z:SS) (v:Value):Array Value:=#[.int .i64 z.s.clock,.int .i64 z.s.next,v,.int .i64 z.log,.int .i64 z.writes,.bool z.off,.int .i64 z.left,.bool z.down]
def gX (w:World) (rb:Nat) (z:SS) (v:Value):Prop:=aj w rb 85 (pG z v)
theorem gX.cells {w:World} {rb:Nat} {ck nx:Int} {L:List an} {lg wr:Int} {off:Bool} {lf:Int} {dn:Bool} {v:Value} (h:gX w rb ⟨⟨ck,nx,L⟩,lg,wr,off,lf,dn⟩ v):
  w.cell? ⟨rb,0,none⟩=some (.int .i64 ck)∧w.cell? ⟨rb,1,none⟩=some (.int .i64 nx)∧w.cell? ⟨rb,2,none⟩=some v∧w.cell? ⟨rb,3,none⟩=some (.int .i64 lg)∧w.cell? ⟨rb,4,none⟩=some (.int .i64 wr)∧
  w.cell? ⟨rb,5,none⟩=some (.bool off)∧w.cell? ⟨rb,6,none⟩=some (.int .i64 lf)∧w.cell? ⟨rb,7,none⟩=some (.bool dn)∧(∀ j,w.frozen? ⟨rb,j,none⟩=false)∧rb<w.heap.size:=
 ⟨aj.cell h 0,aj.cell h 1,aj.cell h 2,aj.cell h 3,aj.cell h 4,aj.cell h 5,aj.cell h 6,aj.cell h 7,aj.frozen h,aj.lt h⟩
section
variable {w:World} {rb:Nat} {z:SS} {v:Value}
theorem gX.drew (h:gX w rb z v):gX w.drew rb z v:=h
theorem gX.down (h:gX w rb z v):gX (w.setCell ⟨rb,7,none⟩ (.bool true)) rb (jF z) v∧w.grownBy (w.setCell ⟨rb,7,none⟩ (.bool true)) (some rb):=
 ⟨aj.put_ h 7 (.bool true) rfl,aZ w rb ⟨rb,7,none⟩ rfl _⟩
theorem gX.one (h:gX w rb z v):gX ((w.setCell ⟨rb,6,none⟩ (.int .i64 (wrap64 (z.left - 1)))).setCell ⟨rb,4,none⟩ (.int .i64 (wrap64 (z.writes+1)))) rb (kD z) v∧
  w.grownBy ((w.setCell ⟨rb,6,none⟩ (.int .i64 (wrap64 (z.left - 1)))).setCell ⟨rb,4,none⟩ (.int .i64 (wrap64 (z.writes+1)))) (some rb):=by
 have e1:=aj.put_ h 6 (.int .i64 (wrap64 (z.left - 1))) (cs':=pG ⟨z.s,z.log,z.writes,z.off,wrap64 (z.left - 1),z.down⟩ v) rfl;have g1:=aZ w rb ⟨rb,6,none⟩ rfl (.int .i64 (wrap64 (z.left - 1)));exact⟨aj.put_ e1 4 (.int .i64 (wrap64 (z.writes+1))) rfl,ag g1 (p:=⟨rb,4,none⟩) (.inl rfl) _⟩
theorem gX.cut (h:gX w rb z v) (n:Int) (b:Bool) (hb:b=decide (0≤n)):gX ((w.setCell ⟨rb,5,none⟩ (.bool b)).setCell ⟨rb,6,none⟩ (.int .i64 n)) rb (wK z n) v∧w.grownBy ((w.setCell ⟨rb,5,none⟩ (.bool b)).setCell ⟨rb,6,none⟩ (.int .i64 n)) (some rb):=by
 subst hb;have e1:=aj.put_ h 5 (.bool (decide (0≤n))) (cs':=pG ⟨z.s,z.log,z.writes,decide (0≤n),z.left,z.down⟩ v) rfl;have g1:=aZ w rb ⟨rb,5,none⟩ rfl (.bool (decide (0≤n)));exact⟨aj.put_ e1 6 (.int .i64 n) rfl,ag g1 (p:=⟨rb,6,none⟩) (.inl rfl) _⟩
theorem gX.open_ (h:gX w rb z v):gX ((w.setCell ⟨rb,5,none⟩ (.bool false)).setCell ⟨rb,7,none⟩ (.bool false)) rb (qH z) v∧w.grownBy ((w.setCell ⟨rb,5,none⟩ (.bool false)).setCell ⟨rb,7,none⟩ (.bool false)) (some rb):=by
 have e1:=aj.put_ h 5 (.bool false) (cs':=pG ⟨z.s,z.log,z.writes,false,z.left,z.down⟩ v) rfl;have g1:=aZ w rb ⟨rb,5,none⟩ rfl (.bool false);exact⟨aj.put_ e1 7 (.bool false) rfl,ag g1 (p:=⟨rb,7,none⟩) (.inl rfl) _⟩
theorem gX.logged (h:gX w rb z v) (n:Int):gX (w.setCell ⟨rb,3,none⟩ (.int .i64 n)) rb (CS z n) v∧w.grownBy (w.setCell ⟨rb,3,none⟩ (.int .i64 n)) (some rb):=
 ⟨aj.put_ h 3 (.int .i64 n) rfl,aZ w rb ⟨rb,3,none⟩ rfl _⟩
end
theorem kE (rb:Nat) (z:SS) (v:Value) (W:World) (h:gX W rb z v) (ho:kC z=false):
  Calls prog 90 #[.pointer (some ⟨rb,0,none⟩)] W fun e w'=>e=.returned (.bool true)∧gX w' rb (kD z) v∧W.grownBy w' (some rb):=by
 have HO:=zH h.one;obtain⟨⟨ck,nx,L⟩,lg,wr,off,lf,dn⟩:=z;obtain⟨c0,c1,c2,c3,c4,c5,c6,c7,z,hlt⟩:=h.cells;dsimp only at HO;clear h;cases off
 ·clear ho
  go_enter Tryz.func90,Tryz.ntmps90;go_wp2_with fail;go_ret;exact⟨rfl,HO.out.1,HO.out.2⟩
 ·have hl:(lf == 0)=false:=by simpa[kC]using ho
  clear ho;go_enter Tryz.func90,Tryz.ntmps90;go_wp2_with fail;go_ret;exact⟨rfl,HO.out.1,HO.out.2⟩
theorem jR (rb:Nat) (z:SS) (v:Value) (W:World) (h:gX W rb z v) (ho:kC z=true):
  Calls prog 90 #[.pointer (some ⟨rb,0,none⟩)] W fun e w'=>e=.returned (.bool false)∧gX w' rb (jF z) v∧W.grownBy w' (some rb):=by
 have HO:=zH h.down;obtain⟨⟨ck,nx,L⟩,lg,wr,off,lf,dn⟩:=z;obtain⟨c0,c1,c2,c3,c4,c5,c6,c7,z,hlt⟩:=h.cells;clear h;cases off
 ·cases ho
 ·have hl:lf=0:=by simpa[kC]using ho
  subst hl;clear ho;go_enter Tryz.func90,Tryz.ntmps90;go_wp2_with fail;go_ret;exact⟨rfl,HO.out.1,HO.out.2⟩
theorem Gi (rb:Nat) (z:SS) (v:Value) (n:Int) (W:World) (h:gX W rb z v):
  Calls prog 42 #[.pointer (some ⟨rb,0,none⟩),.int .i64 n] W fun e w'=>e=.returned (.tuple #[])∧gX w' rb (wK z n) v∧W.grownBy w' (some rb):=by
 have HO:=zH (fun(w:World) (hw:gX w rb z v) b hb=>hw.cut n b hb);have H:=zH h;obtain⟨⟨ck,nx,L⟩,lg,wr,off,lf,dn⟩:=z;obtain⟨c0,c1,c2,c3,c4,c5,c6,c7,z,hlt⟩:=h.cells;clear h;go_enter Tryz.func42,Tryz.ntmps42;go_wp2_with fail
 go_end0
 exact⟨rfl,(HO.out _ H.out _ (by simp)).1,(HO.out _ H.out _ (by simp)).2⟩
theorem CY (rb:Nat) (z:SS) (v:Value) (W:World) (h:gX W rb z v):
  Calls prog 34 #[.pointer (some ⟨rb,0,none⟩)] W fun e w'=>e=.returned (.tuple #[])∧gX w' rb (qH z) v∧W.grownBy w' (some rb):=by
 have HO:=zH (fun(w:World) (hw:gX w rb z v)=>hw.open_);have H:=zH h;obtain⟨⟨ck,nx,L⟩,lg,wr,off,lf,dn⟩:=z;obtain⟨c0,c1,c2,c3,c4,c5,c6,c7,z,hlt⟩:=h.cells;clear h;go_enter Tryz.func34,Tryz.ntmps34;go_wp2_with fail
 go_end0
 exact⟨rfl,(HO.out _ H.out).1,(HO.out _ H.out).2⟩
def IF (W:World) (rb:Nat) (z:SS) (v:Value) (n:Nat) (i:Value) (w:World):Prop:= ∃ k:Nat,k≤n∧i=.int .i64 k∧gX w rb (cy k z) v∧W.grownBy w (some rb)∧ ∀ j,j<k→kC (cy j z)=false
def GM (W:World) (rb:Nat) (r:SS×Int) (v:Value) (e:Ending) (w':World):Prop:=e=.returned (.int .i64 r.2)∧gX w' rb r.1 v∧W.grownBy w' (some rb)
theorem wX (rb:Nat) (z:SS) (v:Value) (B:Nat) (W:World) (h:gX W rb z v) (hr:aD W B v z.s.fams) (hl:z.s.fams.length≤1000000):
  Calls prog 41 #[.pointer (some ⟨rb,0,none⟩)] W (GM W rb (df z) v):=by
 obtain⟨sa,sc,rfl⟩:=hr.slice;clear hr;rcases hd:z.down with _|_
 ·have HW:=zH (fun j w h ho=>kE rb (cy j z) (.slice sa z.s.fams.length sc) w h ho)
  have HF:=zH (fun j w h ho=>jR rb (cy j z) (.slice sa z.s.fams.length sc) w h ho);have HK:=zH (fun j=>fS j z);have HY:=zH (pd hd);have HN:=zH (fun m=>rL (m:=m) hd);have H:=zH h;obtain⟨c0,c1,c2,c3,c4,c5,c6,c7,hz,hlt⟩:=h.cells;rw[hd]at c7;clear h hd;generalize hn:z.s.fams.length=n at*;clear hn;go_enter Tryz.func41,Tryz.ntmps41;go_wp2_with fail
  go_loopw [14] (fun i wr=>IF W rb z (.slice sa n sc) (n+1) i wr) (fun i _=>n+1 - (intOf i).toNat)
  case atStart=>exact⟨0,Nat.zero_le _,rfl,H.out,bT _ _,fun j hj=>absurd hj (Nat.not_lt_zero _)⟩
  case round=>
   obtain⟨k,hk,rfl,hra,hg,hj⟩:=hrel;have HR:=zH hra;have HG:=zH hg;have HJ:=zH hj;clear hra hg hj
   by_cases hlt2:k<n+1
   ·rcases ho:kC (cy k z)with _|_
    ·have HO:=zH ho
     clear ho;go_wp2_with fail;go_at_call 90;refine(HW.out k _ HR.out HO.out).mono ?_;rintro e w1 ⟨rfl,hra,hg⟩;have HR1:=zH (show gX w1 rb (cy (k+1) z) (.slice sa n sc)from hra);have HG1:=zH (aU HG.out hg);clear hra hg;go_wp2_with fail;go_roundw
     case rel=>exact⟨k+1,by omega,by go_num,HR1.out,HG1.out,fun j hj=>by
      by_cases e:j=k
      ·subst e;exact HO.out
      ·exact HJ.out j oM⟩
     case measure=>simp[intOf];omega
    ·have HO:=zH ho
     clear ho;go_wp2_with fail;go_at_call 90;refine(HF.out k _ HR.out HO.out).mono ?_;rintro e w1 ⟨rfl,hra,hg⟩
     have hsave:=HN.out k (by
      obtain⟨q,hq⟩: ∃ q,n+1=k+(q+1):=⟨n - k,by omega⟩;rw[hq,j8 k (q+1) z HJ.out];exact vf q HO.out)
     have HS:=zH hsave;have HR1:=zH hra;have HG1:=zH (aU HG.out hg);clear hra hg hsave;go_wp2_with fail;go_ret;rw[HS.out];exact⟨rfl,HR1.out,HG1.out⟩
   ·obtain rfl:k=n+1:=by omega
    have hsave:=HY.out (by
     have:=j8 (n+1) 0 z HJ.out;rw[Nat.add_zero]at this;rw[this];rfl)
    have HS:=zH hsave;have hrl:=(HR.out.logged 0);have HL:=zH hrl;have hfz:=aj.frozen HR.out;have hc3:wr.cell? ⟨rb,3,none⟩=some (.int .i64 (cy (n+1) z).log):=aj.cell HR.out 3;clear hsave hrl;go_wp2_with fail;go_ret;rw[HS.out];exact⟨rfl,HL.out.1,aU HG.out HL.out.2⟩
 ·rw[si hd]
  have H:=zH h;obtain⟨c0,c1,c2,c3,c4,c5,c6,c7,hz,hlt⟩:=h.cells;rw[hd]at c7;clear h hd;go_enter Tryz.func41,Tryz.ntmps41;go_wp2_with fail;go_ret;exact⟨rfl,H.out,bT _ _⟩
structure pR (B:Nat) (w:World):Prop where
 tens:bH w
 maxl:dt w
 errs:bf w
 gt:7<B
 gm:4<B
 g1:5<B
 g2:6<B
section
variable {B:Nat} {w w':World}
theorem pR.start {W:World} (h:WB W W) (he:bf W):pR W.heap.size W:=⟨h.tens,h.maxl,he,h.tens.lt,h.maxl.lt,he.lt.1,he.lt.2⟩
theorem pR.keep (h:pR B w) (hb:Below B w w'):pR B w':=⟨h.tens.below hb h.gt,h.maxl.below hb h.gm,h.errs.below hb h.g1 h.g2,h.gt,h.gm,h.g1,h.g2⟩
theorem pR.wb (h:pR B w):WB w w:=⟨Below.refl _ _,h.tens,h.maxl⟩
theorem pR.new (h:pR B w) (hB:B≤w.heap.size) (hb:Below w.heap.size w w'):pR B w':=h.keep (hb.mono hB)
end
structure SD (B sb db:Nat) (D:Dk) (s:St) (v:Value) (n f x:Int) (down:Bool) (w:World):Prop where
 env:pR B w
 st:qJ w sb db s v n f x down
 disk:bc w db D
 row:aD w B v s.fams
 bs:B≤sb
 bd:B≤db
section
variable {B sb db:Nat} {D D':Dk} {s:St} {v:Value} {n f x:Int} {down:Bool} {w w':World}
theorem SD.big (h:SD B sb db D s v n f x down w):B≤w.heap.size:=Nat.le_of_lt (Nat.lt_of_le_of_lt h.bs (aj.lt h.st))
theorem SD.keep (h:SD B sb db D s v n f x down w) (hb:Below w.heap.size w w'):SD B sb db D s v n f x down w':=⟨h.env.new h.big hb,aj.below' h.st hb,h.disk.below hb,h.row.below hb,h.bs,h.bd⟩
theorem SD.apart (h:SD B sb db D s v n f x down w):v.ownBlock≠some sb∧v.ownBlock≠some db∧sb≠db:=⟨h.row.apart h.st dC,h.row.apart h.disk.at_ dC,aj.ne_ h.st h.disk.at_ dC⟩
theorem SD.wrote (h:SD B sb db D s v n f x down w) (hd:bc w' db D') (hg:w.grownBy w' (some db)):SD B sb db D' s v n f x down w':=by
 obtain⟨h1,h2,h3⟩:=h.apart;have hb:Below B w w':=(Below.refl B w).grown hg h.big (fun k hk=>by cases hk;exact h.bd);exact⟨h.env.keep hb,aj.grown h.st hg (by simpa using h3),hd,h.row.kept hg h2,h.bs,h.bd⟩
theorem SD.noted (h:SD B sb db D s v n f x down w) {n' f' x':Int} {down':Bool} (hs:qJ w' sb db s v n' f' x' down') (hg:w.grownBy w' (some sb)):SD B sb db D s v n' f' x' down' w':=by
 obtain⟨h1,h2,h3⟩:=h.apart;have hb:Below B w w':=(Below.refl B w).grown hg h.big (fun k hk=>by cases hk;exact h.bs);exact⟨h.env.keep hb,hs,h.disk.grown hg (by simpa using Ne.symm h3),h.row.kept hg h1,h.bs,h.bd⟩
theorem SD.cells {ck nx:Int} {L:List an} (h:SD B sb db D ⟨ck,nx,L⟩ v n f x down w):
 w.cell? ⟨sb,0,none⟩=some (.pointer (some ⟨db,0,none⟩))∧w.cell? ⟨sb,1,none⟩=some (.int .i64 ck)∧w.cell? ⟨sb,2,none⟩=some (.int .i64 nx)∧w.cell? ⟨sb,3,none⟩=some v∧w.cell? ⟨sb,4,none⟩=some (.int .i64 n)∧
 w.cell? ⟨sb,5,none⟩=some (.int .i64 f)∧w.cell? ⟨sb,6,none⟩=some (.int .i64 x)∧w.cell? ⟨sb,7,none⟩=some (.bool down)∧(∀ j,w.frozen? ⟨sb,j,none⟩=false)∧sb<w.heap.size:=h.st.cells
end
theorem SD.drew {B sb db:Nat} {D:Dk} {s:St} {v:Value} {n f x:Int} {down:Bool} {w:World} (h:SD B sb db D s v n f x down w):SD B sb db D s v n f x down w.drew:=⟨⟨h.env.tens,h.env.maxl,h.env.errs,h.env.gt,h.env.gm,h.env.g1,h.env.g2⟩,h.st,⟨h.disk.at_,h.disk.len⟩,h.row,h.bs,h.bd⟩
theorem SD.four {B sb db:Nat} {D:Dk} {ck nx:Int} {L:List an} {v:Value} {n f x:Int} {down:Bool} {w:World} (h:SD B sb db D ⟨ck,nx,L⟩ v n f x down w):
 w.cell? ⟨sb,1,none⟩=some (.int .i64 ck)∧w.cell? ⟨sb,2,none⟩=some (.int .i64 nx)∧w.cell? ⟨sb,3,none⟩=some v∧w.cell? ⟨sb,6,none⟩=some (.int .i64 x):=⟨aj.cell h.st 1,aj.cell h.st 2,aj.cell h.st 3,aj.cell h.st 6⟩
theorem SD.one {B sb db:Nat} {D:Dk} {s:St} {v:Value} {n f x:Int} {down:Bool} {w:World} (h:SD B sb db D s v n f x down w):w.cell? ⟨sb,0,none⟩=some (.pointer (some ⟨db,0,none⟩)):=aj.cell h.st 0
theorem SD.number {B sb db:Nat} {D:Dk} {s:St} {v:Value} {n f x:Int} {w:World} (h:SD B sb db D s v n f x false w) (n' f':Int):SD B sb db D s v n' f' x false ((w.setCell ⟨sb,4,none⟩ (.int .i64 n')).setCell ⟨sb,5,none⟩ (.int .i64 f'))∧w.grownBy ((w.setCell ⟨sb,4,none⟩ (.int .i64 n')).setCell ⟨sb,5,none⟩ (.int .i64 f')) (some sb):=by
 have k1:=aj.put_ h.st 4 (.int .i64 n') (cs':=dM db s v n' f x false) rfl;have k2:=aj.put_ k1 5 (.int .i64 f') (cs':=dM db s v n' f' x false) rfl;have g1:=aZ w sb ⟨sb,4,none⟩ rfl (.int .i64 n');have g2:=ag g1 (p:=⟨sb,5,none⟩) (.inl rfl) (.int .i64 f');exact⟨h.noted k2 g2,g2⟩
theorem dP {f:an} (h:gy f=true):f.short 5000:=by
 obtain⟨_,_,_,_,h5,h6,h7,h8⟩:=bo h;have a:=cI h5;have b:=cI h6;have c:=zZ h7;have d:=kL h8;rw[aq]at a b c d;exact⟨by omega,by omega,by omega,by omega⟩
theorem qo (x:Int) (hx:kt x=true) (w:World) (hT:bH w):Calls prog 26 #[.int .i64 x] w fun e w'=>e=.returned (.string (aL x))∧Below w.heap.size w w':=by
 have h:=bO.1 hx;refine(Tryz.strconv_Itoa x oM oM w hT).mono ?_;rintro e w' ⟨rfl,k,os,rfl⟩;exact⟨rfl,jE w k os⟩
theorem kG {w w':World} {B n:Nat} {e:TypeId} {v:Value} {xs:List Value} (h:w.ownsRow B e 1 v n xs) (hb:Below w.heap.size w w'):w'.ownsRow B e 1 v n xs:=
 h.kept (aG hb (some w.heap.size)) (.inr (fun he=>by have:=(h.lt _ he).2;omega))
theorem qV {w w':World} {g:Nat} {L:List Int} (h:aJ w g L) (hb:Below w.heap.size w w'):aJ w' g L:=by
 intro j hj;have h1:=h j hj;have hlt:g<w.heap.size:=World.block_lt_of_cell? w _ h1;rw[hb.cell (p:=⟨g,j,none⟩) hlt];exact h1
structure TN (W:World) (g:Nat) (L:List Int) (k:Nat) (out:Value) (w:World):Prop where
 below:Below W.heap.size W w
 ints:aJ w g L
 row:w.ownsRow W.heap.size 9 1 out k ((L.take k).map fun x=>encStr (Lib.itoa x))
theorem TN.start {W:World} {g:Nat} {L:List Int} (hi:aJ W g L):TN W g L 0 (.slice none 0 0) W:=⟨Below.refl _ _,hi,World.ownsRow_nil _ _ _ _⟩
theorem TN.call {W w w1:World} {g k:Nat} {L:List Int} {out:Value} (h:TN W g L k out w) (hb:Below w.heap.size w w1):TN W g L k out w1:=⟨ae h.below hb,qV h.ints hb,kG h.row hb⟩
theorem TN.next {W w1 w3:World} {g k:Nat} {L:List Int} {out v':Value} {o:Obj} (hi:aJ W g L) (h:TN W g L k out w1) (hk:k<L.length) {y:Value} (hy:y=encStr (Lib.itoa (L.getD k 0)))
  (ho:w3.ownsRow W.heap.size 9 1 v' (k+1) ((L.take k).map (fun x=>encStr (Lib.itoa x))++[y])) (hg:(w1.alloc o).grownBy w3 out.ownBlock):TN W g L (k+1) v' w3:=by
 have b1:Below W.heap.size W (w1.alloc o):=h.below.alloc h.below.size o;have b2:Below W.heap.size W w3:=b1.grown hg b1.size fun i e=>(h.row.lt i e).1
 refine⟨b2,qV hi b2,?_⟩
 have e:(L.take (k+1)).map (fun x=>encStr (Lib.itoa x))=(L.take k).map (fun x=>encStr (Lib.itoa x))++[y]:=by
  rw[List.take_add_one,List.getElem?_eq_getElem hk,List.map_append,hy];simp[List.getD,hk]
 rw[e];exact ho
def qj (W:World) (o:Option (Int×Int×St)) (x:Ending) (w':World):Prop:=
 ∃ (a b:Int) (st:St) (v:Value) (ok:Bool),x=.returned (.tuple #[.int .i64 a,.int .i64 b,dj st v,.bool ok])∧aD w' W.heap.size v st.fams∧Below W.heap.size W w'∧(match o with|some t=>ok=true∧t=(a,b,st)|none=>ok=false)
theorem u9 {P:Program} {fn:Func} {i j p u:Tmp} {ty:TypeId} (h:fn.results=#[.tmp i,.tmp j,.cell p ty,.tmp u]) (tmps:Array Value) (w:World) (g:Nat) (t:TypeId) (cs:Array Value) (d:TypeDesc) (x y z:Value)
  (h1:tmps.getD i undef=x) (h2:tmps.getD j undef=y) (hp:tmps.getD p undef=.pointer (some ⟨g,0,none⟩)) (hz:tmps.getD u undef=z) (hg:aj w g t cs)
  (hu:P.underlying ty=some d) (hd:(match d with| .struct _| .array _ _=>true|_=>false)=true) (hi:(P.info? ty).map (·.size)=some cs.size):
  (results fn tmps).run P w=.ok (.tuple #[x,y,.agg cs,z]) w:=by
 have hl:=run_loadVar_row w g t ty cs (0,0) d hg hu hd hi;rw[Array.getD_eq_getD_getElem?]at h1 h2 hp hz;simp only[results,h];simp[Result.andThen,h1,h2,hp,hz,asAddr,hl]
structure LD (W:World) (st:St) (u:Value) (w:World):Prop where
 res:aj w W.heap.size 83 (dN st u)
 row:aD w (W.heap.size+1) u st.fams
 below:Below W.heap.size W w
section
variable {W w w':World} {st st':St} {u u':Value}
theorem LD.start:LD W ⟨0,0,[]⟩ (.slice none 0 0) (W.alloc (.cells (dN ⟨0,0,[]⟩ (.slice none 0 0)) 83)):=⟨aj.new W _ _,aD.nil _ _,(Below.refl _ _).alloc (Nat.le_refl _) _⟩
theorem LD.keep (h:LD W st u w) (hb:Below w.heap.size w w'):LD W st u w':=⟨h.res.below' hb,h.row.below hb,ae h.below hb⟩
theorem LD.drew (h:LD W st u w):LD W st u w.drew:=⟨h.res,h.row,⟨h.below.os,h.below.tape,h.below.output,h.below.size,h.below.block⟩⟩
theorem LD.cells {ck nx:Int} {L:List an} (h:LD W ⟨ck,nx,L⟩ u w):w.cell? ⟨W.heap.size,0,none⟩=some (.int .i64 ck)∧w.cell? ⟨W.heap.size,1,none⟩=some (.int .i64 nx)∧w.cell? ⟨W.heap.size,2,none⟩=some u∧(∀ j,w.frozen? ⟨W.heap.size,j,none⟩=false)∧W.heap.size<w.heap.size:=
 ⟨h.res.cell 0,h.res.cell 1,h.res.cell 2,h.res.frozen,h.res.lt⟩
theorem LD.put (h:LD W st u w) (st':St) {u':Value} (hr:aD w (W.heap.size+1) u' st'.fams):
  LD W st' u' (((w.setCell ⟨W.heap.size,0,none⟩ (.int .i64 st'.clock)).setCell ⟨W.heap.size,1,none⟩ (.int .i64 st'.next)).setCell ⟨W.heap.size,2,none⟩ u')∧w.grownBy (((w.setCell ⟨W.heap.size,0,none⟩ (.int .i64 st'.clock)).setCell ⟨W.heap.size,1,none⟩ (.int .i64 st'.next)).setCell ⟨W.heap.size,2,none⟩ u') (some W.heap.size):=by
 have e1:=h.res.put_ 0 (.int .i64 st'.clock) (cs':=#[.int .i64 st'.clock,.int .i64 st.next,u]) rfl;have e2:=e1.put_ 1 (.int .i64 st'.next) (cs':=#[.int .i64 st'.clock,.int .i64 st'.next,u]) rfl;have e3:=e2.put_ 2 u' (cs':=dN st' u') rfl;have g1:=aZ w W.heap.size ⟨W.heap.size,0,none⟩ rfl (.int .i64 st'.clock);have g2:=ag g1 (p:=⟨W.heap.size,1,none⟩) (.inl rfl) (.int .i64 st'.next);have g3:=ag g2 (p:=⟨W.heap.size,2,none⟩) (.inl rfl) u';refine⟨⟨e3,hr.kept g3 (fun he=>?_),h.below.grown g3 h.below.size (fun _ hj=>by cases hj;exact Nat.le_refl _)⟩,g3⟩;have:=(hr.lt _ he).1;omega
theorem LD.same (h:LD W st u w):LD W st u (((w.setCell ⟨W.heap.size,0,none⟩ (.int .i64 st.clock)).setCell ⟨W.heap.size,1,none⟩ (.int .i64 st.next)).setCell ⟨W.heap.size,2,none⟩ u):=(h.put st h.row).1
end
theorem gk {W w:World} {A:Act} {st:St} {u:Value} {a b:Int} {ok:Bool} {o:Option (Int×Int×St)} (h:LD W st u w) (ho:match o with|some t=>ok=true∧t=(a,b,st)|none=>ok=false)
  (h4:A.tmps.getD 4 undef=.int .i64 a) (h5:A.tmps.getD 5 undef=.int .i64 b) (h6:A.tmps.getD 6 undef=.pointer (some ⟨W.heap.size,0,none⟩)) (h7:A.tmps.getD 7 undef=.bool ok) (hd:A.defers=[]):
  bodyPost prog Tryz.f52 (qj W o) Exit.ret A w:=
 bodyPost_ret (u9 rfl A.tmps w _ _ _ _ _ _ _ h4 h5 h6 h7 h.res underlying83 rfl kR) hd ⟨a,b,st,u,ok,rfl,h.row.mono (Nat.le_succ _),h.below,ho⟩
structure LN (W0:World) (L:List (List UInt8)) (k:Nat) (out:Value) (w:World):Prop where
 below:Below W0.heap.size W0 w
 row:w.ownsRow W0.heap.size 3 1 out k ((L.take k).map fun x=>.int .i64 (ab x))
 nums: ∀ j,j<k→gd (L.getD j [])=true
theorem LN.start (W0:World) (L:List (List UInt8)):LN W0 L 0 (.slice none 0 0) W0:=⟨Below.refl _ _,World.ownsRow_nil _ _ _ _,fun _ hj=>absurd hj (Nat.not_lt_zero _)⟩
theorem LN.call {W0 w w1:World} {L:List (List UInt8)} {k:Nat} {out:Value} (h:LN W0 L k out w) (hb:Below w.heap.size w w1):LN W0 L k out w1:=⟨ae h.below hb,kG h.row hb,h.nums⟩
theorem LN.next {W0 w1 w3:World} {L:List (List UInt8)} {k:Nat} {out v':Value} {o:Obj} (h:LN W0 L k out w1) (hk:k<L.length) (hn:gd (L.getD k [])=true) {y:Value} (hy:y=.int .i64 (ab (L.getD k [])))
  (ho:w3.ownsRow W0.heap.size 3 1 v' (k+1) ((L.take k).map (fun x=>.int .i64 (ab x))++[y])) (hg:(w1.alloc o).grownBy w3 out.ownBlock):LN W0 L (k+1) v' w3:=by
 have b1:Below W0.heap.size W0 (w1.alloc o):=h.below.alloc h.below.size o;have b2:Below W0.heap.size W0 w3:=b1.grown hg b1.size fun i e=>(h.row.lt i e).1
 refine⟨b2,?_,fun j hj=>?_⟩
 ·have e:(L.take (k+1)).map (fun x=>Value.int .i64 (ab x))=(L.take k).map (fun x=>.int .i64 (ab x))++[y]:=by
   rw[List.take_add_one,List.getElem?_eq_getElem hk,List.map_append,hy];simp[List.getD,hk]
  rw[e];exact ho
 ·rcases Nat.lt_or_ge j k with h'|h'
  ·exact h.nums j h'
  ·obtain rfl:j=k:=by omega
   exact hn
theorem LN.five {W0 w:World} {L:List (List UInt8)} {out:Value} (h:LN W0 L 5 out w) (hL:L.length=6): ∃ g cap,out=.slice (some ⟨g,0,none⟩) 5 cap∧5≤cap∧W0.heap.size≤g∧g<w.heap.size∧
  w.cell? ⟨g,0,none⟩=some (.int .i64 (ab (L.getD 0 [])))∧w.cell? ⟨g,1,none⟩=some (.int .i64 (ab (L.getD 1 [])))∧w.cell? ⟨g,2,none⟩=some (.int .i64 (ab (L.getD 2 [])))∧w.cell? ⟨g,3,none⟩=some (.int .i64 (ab (L.getD 3 [])))∧w.cell? ⟨g,4,none⟩=some (.int .i64 (ab (L.getD 4 []))):=by
 have ho:=h.row
 have hc: ∀ j g cap,out=.slice (some ⟨g,0,none⟩) 5 cap→j<5→w.cell? ⟨g,j,none⟩=some (.int .i64 (ab (L.getD j []))):=by
  rintro j g cap rfl hj;have:=ho.cellAt j oM;rw[this]
  have e:(L.take 5)[j]?=some (L.getD j []):=by
   rw[List.getElem?_take,if_pos hj,List.getD_eq_getElem?_getD,List.getElem?_eq_getElem oM];rfl
  rw[List.getElem?_map,e];rfl
 rcases ho.2 with⟨_,h0⟩|⟨g,cap,cur,rfl,hB,hb,hn,hm,hcs,ht⟩
 ·exact absurd h0 dC
 ·have hlt:g<w.heap.size:=by
   rcases Nat.lt_or_ge g w.heap.size with h'|h'
   ·exact h'
   ·rw[Array.getElem?_eq_none h']at hb;cases hb
  exact⟨g,cap,rfl,hn,hB,hlt,hc 0 g cap rfl oM,hc 1 g cap rfl oM,hc 2 g cap rfl oM,hc 3 g cap rfl oM,hc 4 g cap rfl oM⟩
theorem Ez (k:Nat):ay ((k:Int) % 2).toNat=ay k:=by
 unfold ay
 congr 2
 omega
theorem sK (k:Nat):ay k+21≤90:=by
 unfold ay;omega
theorem xC (B sb db:Nat) (D:Dk) (s:St) (v:Value) (n f x:Int) (down:Bool) (W:World) (h:SD B sb db D s v n f x down W) (hf:D.fits) (k:Nat) (hk:k<2) (l:List UInt8) (b:Bool) (hol:eE aQ (bK D (ay k))=if b then some l else none) (hl0:b=false→l=[]) (hll:l.length≤240) (hbad:b=false∨(parts 32 l).length≠6):
  Calls prog 52 #[.pointer (some ⟨sb,0,none⟩),.int .i64 k] W (qj W none):=by
 have HS:=zH h;have H0:Hid (LD W ⟨0,0,[]⟩ (.slice none 0 0) (W.alloc (.cells (dN ⟨0,0,[]⟩ (.slice none 0 0)) 83))):=zH LD.start;have HSL:=zH (fun w=>nD (k:Int) w oM oM);rw[Ez]at HSL;have htop:=sK k;have HRD:=zH (fun w hd=>iW db D (ay k) w hd oM);have HOP:=zH (fun w=>gg (D.blk.getD (ay k) ByteArray.empty) w (by have:=hf (ay k);omega))
 have HOP:Hid (∀ w,Calls prog 105 #[.string (D.blk.getD (ay k) ByteArray.empty)] w fun e w'=>e=.returned (.tuple #[.string (ah l),.bool b])∧Below w.heap.size w w'):=zH fun w=>by
  have h1:=HOP.out w;have h2:eE aQ (D.blk.getD (ay k) ByteArray.empty).data.toList=if b then some l else none:=hol
  rw[h2]at h1;refine h1.mono ?_;rintro e w' ⟨⟨x2,b2,rfl,h3⟩,hb⟩;rcases b with _|_
  ·obtain⟨rfl,rfl⟩:=h3
   rw[hl0 rfl];exact⟨rfl,hb⟩
  ·obtain⟨rfl,rfl⟩:=h3
   exact⟨rfl,hb⟩
 have HSP:=zH (fun w hm=>fT 32 (ah l) w.heap.size w (by rw[bB];omega) hm (Nat.le_refl _));rw[ak]at HSP;have hpl:=fP 32 l;generalize parts 32 l=L at*;generalize ah l=tl at*;generalize D.blk.getD (ay k) ByteArray.empty=blk at*;obtain⟨ck,nx,Ls⟩:=s;obtain⟨c0,c1,c2,c3,c4,c5,c6,c7,z,hlt⟩:=h.cells;clear h hol hl0;unfold dN at H0;dsimp only at H0;go_enter Tryz.func52,Tryz.ntmps52;go_wp2_with fail;go_at_call 103;refine(HSL.out _).mono ?_;rintro e w1 ⟨rfl,rfl⟩;go_wp2_with fail;refine(HRD.out _ (HS.out.keep H0.out.below).disk).mono ?_;rintro e w2 ⟨rfl,rfl⟩;go_wp2_with fail;go_at_call 105;refine(HOP.out _).mono ?_;rintro e w3 ⟨rfl,hb⟩;have H3:=zH (H0.out.keep hb);clear hb;go_wp2_with fail;go_at_call 13;refine(HSP.out _ (HS.out.keep H3.out.below).env.maxl).mono ?_;rintro e w4 ⟨v4,rfl,⟨g4,c4',rfl,-⟩,hb⟩;have H4:=zH (H3.out.keep hb);clear hb H3 H0;obtain⟨m0,m1,m2,mz,mlt⟩:=H4.out.cells;rcases hbad with rfl|hne
 ·go_wp2_with fail
  go_region
  go_wp2_with fail;exact gk (LD.same H4.out).drew rfl rfl rfl rfl rfl rfl
 ·have hne1:((L.length:Int) != 6)=true:=by simpa using(by omega: ¬ (L.length:Int)=6)
  cases b
  all_goals
   go_wp2_with fail
   go_region
   go_wp2_with fail;exact gk (LD.same H4.out).drew rfl rfl rfl rfl rfl rfl
theorem fF {P:Program} {w:World} {g:Nat} {T ty:TypeId} {old cells:Array Value} (h:aj w g T old) (hi:(P.info? ty).map (·.size)=some cells.size) (ho:old.size=cells.size) (h1:cells.all (·.oneCell')=true):
  ∃ w',(storeVar ty ⟨g,0,none⟩ (.agg cells)).run P w=.ok () w'∧w'=w.setRow g cells∧aj w' g T cells∧w.grownBy w' (some g):=
 ⟨w.setRow g cells,run_storeVar_row w g T ty old cells h hi ho h1,rfl,setRow_heap w g old cells T (0,0) h,⟨rfl,rfl,rfl,by simp[World.setRow],fun k _ hk=>setRow_other w g k _ (fun e=>hk (by simp[e]))⟩⟩
theorem bi (a b:ByteArray) (h:a.size+b.size≤9223372036854775807) (w:World):(Op.stringOp .add a b).run prog w=.ok (.string (a++b)) w:=run_string_add_sum w a b h
theorem lD (w:World) (T:TypeId) (a b c:Int):aJ (w.alloc (.cells #[.int .i64 a,.int .i64 b,.int .i64 c] T)) w.heap.size [a,b,c]:=eI w T [a,b,c]
theorem aJ.alloc {w:World} {g:Nat} {L:List Int} (h:aJ w g L) (o:Obj):aJ (w.alloc o) g L:=h.below ((Below.refl _ _).alloc (Nat.le_refl _) o)
theorem aJ.drw {w:World} {g:Nat} {L:List Int} (h:aJ w g L):aJ w.drew g L:=h
theorem qn (w:World) (o:Obj) (T:TypeId) (a b c:Int):aJ ((w.alloc o).alloc (.cells #[.int .i64 a,.int .i64 b,.int .i64 c] T)) (w.heap.size+1) [a,b,c]:=by
 have h:=eI (w.alloc o) T [a,b,c];simpa using h
theorem fN {W w w':World} {g:Nat} {v0 v1 v2 v3 v4 v5 v6 v7 v8:Value} (h8:w.cell? ⟨g,8,none⟩=some v8) (h0:w.cell? ⟨g,0,none⟩=some v0) (h1:w.cell? ⟨g,1,none⟩=some v1) (h2:w.cell? ⟨g,2,none⟩=some v2) (h3:w.cell? ⟨g,3,none⟩=some v3)
  (h4:w.cell? ⟨g,4,none⟩=some v4) (h5:w.cell? ⟨g,5,none⟩=some v5) (h6:w.cell? ⟨g,6,none⟩=some v6) (h7:w.cell? ⟨g,7,none⟩=some v7) (hW:WB W w) (hb:Below w.heap.size w w'):
  w'.cell? ⟨g,8,none⟩=some v8∧w'.cell? ⟨g,0,none⟩=some v0∧w'.cell? ⟨g,1,none⟩=some v1∧w'.cell? ⟨g,2,none⟩=some v2∧w'.cell? ⟨g,3,none⟩=some v3∧w'.cell? ⟨g,4,none⟩=some v4∧w'.cell? ⟨g,5,none⟩=some v5∧w'.cell? ⟨g,6,none⟩=some v6∧w'.cell? ⟨g,7,none⟩=some v7∧WB W w':=by
 have hlt:g<w.heap.size:=World.block_lt_of_cell? w _ h0;refine⟨?_,lm h0 h1 h2 h3 h4 h5 h6 h7 hW hb⟩;rw[hb.cell (p:=⟨g,8,none⟩) hlt];exact h8
theorem qp (w:World) (o:Obj) (T:TypeId) (b:Int):aJ ((w.alloc o).alloc (.cells #[.int .i64 b] T)) (w.heap.size+1) [b]:=by
 have h:=eI (w.alloc o) T [b];simpa using h
theorem kx (w:World) (T:TypeId) (b:Int):aJ (w.alloc (.cells #[.int .i64 b] T)) w.heap.size [b]:=eI w T [b]
end Go.Proofs.YtepjcdjpikbbjaaGreatDoor
