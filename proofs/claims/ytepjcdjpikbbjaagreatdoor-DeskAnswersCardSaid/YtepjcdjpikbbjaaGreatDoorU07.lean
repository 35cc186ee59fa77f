/-
  The tag, by both texts.
-/
import Derived.Test.YtepjcdjpikbbjaaGreatDoorU00
import Derived.Test.YtepjcdjpikbbjaaGreatDoorU02
import Derived.Test.YtepjcdjpikbbjaaGreatDoorU06
import Derived.Laws.BytesArg
import Derived.Test.YtepjcdjpikbbjaaGreatDoorU05
import Derived.Test.YtepjcdjpikbbjaaGreatDoorU03
import Derived.Test.YtepjcdjpikbbjaaGreatDoorU01
set_option maxHeartbeats 4000000
set_option maxRecDepth 100000
namespace Go.Proofs.YtepjcdjpikbbjaaGreatDoor
open Go.Proofs.Tryz
open Go.RowKit
def ll (b:UInt8):Value:=.int .u8 (b.toNat:Int)
def BA (w:World) (g:Nat) (t:TypeId) (xs:List UInt8):Prop:=aj w g t (xs.map ll).toArray
theorem BA.cell {w:World} {g:Nat} {t:TypeId} {xs:List UInt8} (h:BA w g t xs) (i:Nat) (hi:i<xs.length):w.cell? ⟨g,i,none⟩=some (ll xs[i]):=by
 rw[aj.cell h];simp[hi]
theorem BA.set_ {w:World} {g:Nat} {t:TypeId} {xs:List UInt8} (h:BA w g t xs) (i:Nat) (b:UInt8):BA (w.setCell ⟨g,i,none⟩ (ll b)) g t (xs.set i b):=by
 have h1:=aj.set_ h i (ll b);unfold BA;rw[List.map_set];simpa using h1
theorem BA.string {P:Program} {w:World} {g:Nat} {t:TypeId} {xs:List UInt8} (h:BA w g t xs) (src dst e:TypeId) (hs:P.underlying src=some (.slice e)) (he:P.underlying e=some (.int .u8)) (hd:P.underlying dst=some .string)
  (off len cap:Nat) (hl:off+len=xs.length):(convert src dst (.slice (some ⟨g,off,none⟩) len cap)).run P w=.ok (.string ⟨(xs.drop off).toArray⟩) w:=by
 have h1:=run_convert_bytes_arg (P:=P) w src e hs he g off len cap ((xs.drop off).map fun b=>(b.toNat:Int)) (by simp;omega) (fun i hi=>by
  rw[h.cell (off+i) oM];have h2:off+i<xs.length:=by omega
  simp[ll,List.getD,h2]) dst hd
 rw[h1]
 congr 2
 simp[strOfNums,Function.comp_def]
def IZ (key:Int):Int:=IntKind.u64.wrap key
def Jr (key:Int) (l:List UInt8):Nat:=(CK (IZ key) (bS (IZ key) 32) l).toNat
def aQ (key:Int) (l:List UInt8):List UInt8:=ff 16 (Jr key l)
theorem Ad (k0 k1:Int) (l:List UInt8):BW (CK k0 k1 l):=iN _ _
def ou (n i:Nat):List UInt8:=(ff 16 n).take i++List.replicate (16 - i) 0
def IM (W:World) (g:Nat) (n:Nat) (v:Value) (w:World):Prop:=
 ∃ i:Nat,i≤16∧v=.int .i64 i∧BA w g 203 (ou n i)∧Below W.heap.size W w
theorem Gl (n i:Nat) (h:i<16):(ou n i).set i (sO (n / 16 ^ (15 - i) % 16))=ou n (i+1):=by
 unfold ou;have hl:=dZ 16 n;have h1:((ff 16 n).take i).length=i:=by rw[List.length_take];omega
 rw[List.set_append_right _ _ oM,h1,Nat.sub_self];have h2:=EF 16 n i h
 have h3:(ff 16 n).take (i+1)=(ff 16 n).take i++[sO (n / 16 ^ (15 - i) % 16)]:=by
  rw[List.take_add_one,h2];rfl
 rw[h3,List.append_assoc,show 16 - i=(16 - (i+1))+1 from by omega,List.replicate_succ,List.set_cons_zero,List.singleton_append]
theorem It (d:Nat) (hd:d<16):Value.int .u8 (((⟨#[48,49,50,51,52,53,54,55,56,57,97,98,99,100,101,102]⟩:ByteArray)[d]'hd).toNat:Int)=ll (sO d):=by
 have h:d=0∨d=1∨d=2∨d=3∨d=4∨d=5∨d=6∨d=7∨d=8∨d=9∨d=10∨d=11∨d=12∨d=13∨d=14∨d=15:=by omega
 rcases h with h|h|h|h|h|h|h|h|h|h|h|h|h|h|h|h<;>subst h<;>rfl
theorem A0 (d:Nat) (hd:d<16) (w:World):(Instr.index 9 (.string ⟨#[48,49,50,51,52,53,54,55,56,57,97,98,99,100,101,102]⟩) (.int .u64 (d:Int))).run prog w=.ok (.int .u8 ((sO d).toNat:Int)) w:=by
 have hs:(⟨#[48,49,50,51,52,53,54,55,56,57,97,98,99,100,101,102]⟩:ByteArray).size=16:=rfl;rw[run_index_string w 9 _ .u64 (d:Int) underlying9,dif_pos ⟨by omega,by rw[hs];omega⟩];have h1:=It d hd;unfold ll at h1;rw[←h1];rfl
theorem me (key:Int) (s:ByteArray) (W:World) (hs:s.size≤9223372036854775807):
  Calls prog 107 #[.int .i64 key,.string s] W fun e w'=>e=.returned (.string ⟨(aQ key s.data.toList).toArray⟩)∧Below W.heap.size W w':=by
 go_enter Tryz.func107,Tryz.ntmps107
 go_wp2_with (first
  |(go_at_call 161;refine(qD _ 32 _ (iC _) oM).mono ?_;rintro e w1 ⟨rfl,hww⟩;obtain rfl:=hww.symm)
  |(go_at_call 160;refine(Gc _ _ s _ hs).mono ?_;rintro e w2 ⟨rfl,hb⟩))
 have hu:=Ad (IntKind.u64.wrap key) (bS (IntKind.u64.wrap key) 32) s.data.toList;have htag:aQ key s.data.toList=ff 16 (CK (IntKind.u64.wrap key) (bS (IntKind.u64.wrap key) 32) s.data.toList).toNat:=rfl;generalize CK (IntKind.u64.wrap key) (bS (IntKind.u64.wrap key) 32) s.data.toList=N at*;obtain⟨n,rfl⟩:=Int.eq_ofNat_of_zero_le hu.1;have hn:n<18446744073709551616:=by have:=hu.2;omega
 rw[Int.toNat_natCast]at htag;have HT:=zH htag;have HB:=zH hb;have HN:=zH hn;clear hu htag hb hn
 go_loopw [16] (fun v wr=>IM W w2.heap.size n v wr) (fun v _=>16 - (intOf v).toNat)
 case atStart=>exact⟨0,by omega,rfl,aj.new w2 _ _,HB.out.alloc HB.out.size _⟩
 case round=>
  obtain⟨i,hi,rfl,hba,hbl⟩:=hrel;have HBA:=zH hba;have HBL:=zH hbl;clear hba hbl
  by_cases hlt:i<16
  ·obtain⟨d,hd⟩: ∃ d,d=n / 16 ^ (15 - i) % 16:=⟨_,rfl⟩
   have hd16:d<16:=by omega
   have hand:bits .and .u64 ((n:Int) / 2 ^ (60 - 4*i)) 15=(d:Int):=by
    have e1:((n:Int) / 2 ^ (60 - 4*i))=((n / 2 ^ (60 - 4*i):Nat):Int):=by simp
    rw[e1,He _ (Nat.lt_of_le_of_lt (Nat.div_le_self _ _) HN.out),hd,I3,show 4*(15 - i)=60 - 4*i from by omega]
   have hix: ∀ w:World,(Instr.index 9 (.string ⟨#[48,49,50,51,52,53,54,55,56,57,97,98,99,100,101,102]⟩) (.int .u64 (d:Int))).run prog w=.ok (.int .u8 ((sO d).toNat:Int)) w:=A0 d hd16;have HD:=zH hd;clear hd HN HT;have hlen:(ou n i).length=16:=by unfold ou;rw[List.length_append,List.length_take,dZ,List.length_replicate];omega
   have hcell:=HBA.out.cell i oM;unfold ll at hcell;generalize ((ou n i)[i]'oM).toNat=z at hcell;have hfr:=aj.frozen HBA.out i;clear hlen;go_wp2_with fail;refine⟨⟨i+1,by omega,by go_num,?_,HBL.out.setCell (p:=⟨w2.heap.size,i,none⟩) HB.out.size _⟩,by simp[intOf];omega⟩;have h1:=HBA.out.set_ i (sO d);rw[HD.out,Gl n i hlt,←HD.out]at h1;exact h1
  ·obtain rfl:i=16:=by omega
   have hfull:ou n 16=ff 16 n:=by
    unfold ou;rw[List.take_of_length_le (by rw[dZ];exact Nat.le_refl _),Nat.sub_self,List.replicate_zero,List.append_nil]
   have hstr:=HBA.out.string (P:=prog) 36 9 5 underlying36 underlying5 underlying9 0 16 16 (by rw[hfull,dZ]);rw[hfull,List.drop_zero]at hstr;clear hfull;generalize ff 16 n=H at*;have ht:=HT.out;subst ht;clear HT;go_wp2_with fail;go_ret;exact⟨rfl,HBL.out⟩
def bK (D:Dk) (k:Nat):List UInt8:=(D.blk.getD k ByteArray.empty).data.toList
def Dk.fits (D:Dk):Prop:= ∀ k,(D.blk.getD k ByteArray.empty).size≤240
def pw (D:Dk):Bool:=D.cut&&D.left == 0
theorem nh {D:Dk} (h:D.fits) (k:Nat):(bK D k).length≤240:=by
 unfold bK;rw[aq];exact h k
theorem l8 {D:Dk} {k:Nat} {s:ByteArray} (hl:D.blk.length=90) (hk:k<90):bK (D.put k s)=A7 (bK D) k s.data.toList:=by
 funext j
 unfold bK Dk.put A7;dsimp only
 by_cases h:j=k
 ·subst h
  rw[if_pos rfl,List.getD_eq_getElem?_getD,List.getElem?_set_self oM];rfl
 ·rw[if_neg h,List.getD_eq_getElem?_getD,List.getElem?_set_ne (Ne.symm h),←List.getD_eq_getElem?_getD]
theorem zR (D:Dk) (k:Nat) (s:ByteArray):(D.put k s).blk.length=D.blk.length:=by
 unfold Dk.put;simp
theorem ot {D:Dk} (h:D.fits) {s:ByteArray} (hs:s.size≤240) (k:Nat):(D.put k s).fits:=by
 intro j;unfold Dk.put;dsimp only
 by_cases hj:j=k
 ·subst hj
  by_cases hlt:j<D.blk.length
  ·rw[List.getD_eq_getElem?_getD,List.getElem?_set_self hlt]
   exact hs
  ·rw[List.getD_eq_getElem?_getD,List.getElem?_eq_none (by simp;omega)]
   exact Nat.zero_le _
 ·rw[List.getD_eq_getElem?_getD,List.getElem?_set_ne (Ne.symm hj),←List.getD_eq_getElem?_getD]
  exact h j
theorem bB (l:List UInt8):(ah l).size=l.length:=by rw[←aq,ak]
def famD (D:Dk) (at_:Nat) (L:List an):Nat→Dk
 |0=>D
 |m+1=>(famD D at_ L m).put (at_+1+m) (ah (iy (aW (L.getD m an.zero))))
theorem lP (D:Dk) (at_:Nat) (L:List an): ∀ m,(famD D at_ L m).blk.length=D.blk.length
 |0=>rfl
 |m+1=>by rw[famD,zR,lP D at_ L m]
theorem sH {D:Dk} {at_:Nat} {L:List an} (hl:D.blk.length=90) (hat:at_+21≤90) (hL:L.length≤20): ∀ m,m≤L.length→bK (famD D at_ L m)=gZ (bK D) (jh at_ 0 (L.take m))
 |0,_=>by simp[famD,jh,gZ]
 |m+1,hm=>by
  have hlt:m<L.length:=by omega
  have hf:=List.getElem?_eq_getElem hlt;rw[famD,l8 (by rw[lP];exact hl) oM,sH hl hat hL m oM,AO at_ L m _ hf,ak]
  congr 3
  rw[List.getD_eq_getElem?_getD,hf];rfl
theorem pi {D:Dk} {at_:Nat} {L:List an} (h:D.fits) (hL: ∀ f∈L,gy f=true): ∀ m,m≤L.length→(famD D at_ L m).fits
 |0,_=>h
 |m+1,hm=>by
  have hlt:m<L.length:=by omega
  have hf:=List.getElem?_eq_getElem hlt;rw[famD];refine ot (pi h hL m oM) ?_ _;rw[List.getD_eq_getElem?_getD,hf,bB];have:=mt (jX (hL _ (List.getElem_mem hlt)))
  show(iy (aW L[m])).length≤240
  omega
def mc (D:Dk) (at_:Nat) (L:List an) (head:ByteArray) (D':Dk) (ok:Bool):Prop:=
 (ok=true∧(∀ m,m≤L.length→pw (famD D at_ L m)=false)∧D'=(famD D at_ L L.length).put at_ head)∨
 (ok=false∧ ∃ m,m≤L.length∧(∀ j,j<m→pw (famD D at_ L j)=false)∧pw (famD D at_ L m)=true∧D'=famD D at_ L m)
section
variable {tg:Int→List UInt8→List UInt8} {D D':Dk} {n f x:Int} {s0:St} {es:List Ev}
theorem xm (n:Int):ay (n % 2).toNat+21≤90:=by
 have:n % 2=0∨n % 2=1:=by omega
 rcases this with h|h<;>rw[h]<;>decide
theorem dJ.saveOut (h:dJ tg (bK D) n f x s0 es) (hfit:iQ (es.foldl am s0)) (hn:n<1000000) (hl:D.blk.length=90) {ok:Bool} (ho:mc D (ay ((n+1) % 2).toNat) (es.foldl am s0).fams (ah (gR tg (n+1) x (es.foldl am s0))) D' ok):
  (ok=true→dJ tg (bK D') (n+1) x x (es.foldl am s0) [])∧(ok=false→dJ tg (bK D') n f x s0 es)∧D'.blk.length=90:=by
 have hL:=hfit.len;have htop:=xm (n+1);rcases ho with⟨rfl,_,rfl⟩|⟨rfl,m,hm,_,_,rfl⟩
 ·refine⟨fun _=>?_,fun h=>(by cases h),by rw[zR,lP,hl]⟩
  rw[l8 (by rw[lP];exact hl) oM,sH hl htop hL _ (Nat.le_refl _),List.take_length,ak];exact h.whole hfit hn
 ·refine⟨fun h=>(by cases h),fun _=>?_,by rw[lP,hl]⟩
  rw[sH hl htop hL m hm];exact h.cut _ (by rw[List.length_take];omega)
end
structure SS where
 s:St
 log:Int
 writes:Int
 off:Bool
 left:Int
 down:Bool
def kC (z:SS):Bool:=z.off&&z.left == 0
def kD (z:SS):SS:=⟨z.s,z.log,wrap64 (z.writes+1),z.off,wrap64 (z.left - 1),z.down⟩
def jF (z:SS):SS:=⟨z.s,z.log,z.writes,z.off,z.left,true⟩
def lh:Nat→SS→SS×Bool
 |0,z=>(z,true)
 |n+1,z=>if kC z then(jF z,false)else lh n (kD z)
def CS (z:SS) (n:Int):SS:=⟨z.s,n,z.writes,z.off,z.left,z.down⟩
def df (z:SS):SS×Int:=if z.down then(z,6)else if (lh (z.s.fams.length+1) z).2 then(CS (lh (z.s.fams.length+1) z).1 0,0)else((lh (z.s.fams.length+1) z).1,14)
def Di (z:SS) (s:St):SS:=⟨s,z.log+1,z.writes,z.off,z.left,z.down⟩
def ka (z:SS) (s:St):SS×Int:=if kC z then(jF z,14)else(Di (kD z) s,0)
def aV (z:SS) (e:Ev):SS×Int:=
 if z.down then(z,6)
 else if dp e=false then(z,1)
 else if 20<(am z.s e).fams.length then(z,12)
 else if z.log=16 then(if (df z).2=0 then ka (df z).1 (am z.s e)else df z)
 else ka z (am z.s e)
def wK (z:SS) (n:Int):SS:=⟨z.s,z.log,z.writes,decide (0≤n),n,z.down⟩
def qH (z:SS):SS:=⟨z.s,z.log,z.writes,false,z.left,false⟩
def nu:SS:=⟨⟨0,1,[]⟩,0,0,false,0,false⟩
theorem sJ {z:SS} (n:Nat) (h:kC z=false):lh (n+1) z=lh n (kD z):=by rw[lh,h];rfl
theorem vf {z:SS} (n:Nat) (h:kC z=true):lh (n+1) z=(jF z,false):=by rw[lh,h];rfl
def cy:Nat→SS→SS
 |0,z=>z
 |n+1,z=>kD (cy n z)
theorem sF: ∀ (n:Nat) (z:SS),cy n (kD z)=kD (cy n z)
 |0,_=>rfl
 |n+1,z=>by rw[cy,sF n z,cy]
theorem j8: ∀ (m k:Nat) (z:SS),(∀ j,j<m→kC (cy j z)=false)→lh (m+k) z=lh k (cy m z)
 |0,k,z,_=>by rw[Nat.zero_add];rfl
 |m+1,k,z,h=>by
  have h0:kC z=false:=h 0 (Nat.succ_pos m);rw[show m+1+k=m+k+1 by omega,sJ _ h0,j8 m k (kD z) fun j hj=>by rw[sF];exact h (j+1) (Nat.succ_lt_succ hj),sF];rfl
theorem fS: ∀ (n:Nat) (z:SS),(cy n z).s=z.s∧(cy n z).log=z.log∧(cy n z).off=z.off∧(cy n z).down=z.down
 |0,_=>⟨rfl,rfl,rfl,rfl⟩
 |n+1,z=>fS n z
structure DR (z:SS) (D:Dk):Prop where
 writes:z.writes=D.writes
 off:z.off=D.cut
 left:D.cut=true→z.left=D.left
section
variable {z:SS} {D:Dk}
theorem DR.isOff (h:DR z D):kC z=pw D:=by
 unfold kC pw;rw[h.off];rcases hc:D.cut with _|_
 ·rfl
 ·rw[h.left hc]
theorem DR.put (h:DR z D) (k:Nat) (s:ByteArray):DR (kD z) (D.put k s):=⟨by show wrap64 _=wrap64 _;rw[h.writes],h.off,fun hc=>by show wrap64 _=wrap64 _;rw[h.left hc]⟩
theorem DR.famD (h:DR z D) (at_:Nat) (L:List an): ∀ m,DR (cy m z) (famD D at_ L m)
 |0=>h
 |m+1=>(h.famD at_ L m).put _ _
theorem DR.cutAt (h:DR z D) (n:Int):DR (wK z n) (D.cutAt n):=by
 refine⟨h.writes,rfl,fun hc=>?_⟩;have hn:0≤n:=of_decide_eq_true hc
 show n=if n<0 then 0 else n
 rw[if_neg oM]
theorem DR.open_ (h:DR z D):DR (qH z) (D.cutAt (-1)):=⟨h.writes,rfl,fun hc=>by cases hc⟩
theorem DR.same {z':SS} (h:DR z D) (h1:z'.writes=z.writes) (h2:z'.off=z.off) (h3:z'.left=z.left):DR z' D:=⟨h1.trans h.writes,h2.trans h.off,fun hc=>h3.trans (h.left hc)⟩
theorem DR.down (h:DR z D):DR (jF z) D:=h.same rfl rfl rfl
theorem DR.save (h:DR z D) {at_:Nat} {L:List an} {head:ByteArray} {D':Dk} {ok:Bool} (ho:mc D at_ L head D' ok):
  (ok=true→lh (L.length+1) z=(cy (L.length+1) z,true)∧DR (cy (L.length+1) z) D')∧
  (ok=false→ ∃ m,lh (L.length+1) z=(jF (cy m z),false)∧DR (jF (cy m z)) D'):=by
 rcases ho with⟨rfl,h1,rfl⟩|⟨rfl,m,hm,h1,h2,rfl⟩
 ·refine⟨fun _=>⟨?_,(h.famD at_ L L.length).put _ _⟩,fun e=>(by cases e)⟩
  rw[j8 L.length 1 z fun j hj=>by rw[(h.famD at_ L j).isOff];exact h1 j (Nat.le_of_lt hj)];rw[sJ 0 (by rw[(h.famD at_ L L.length).isOff];exact h1 _ (Nat.le_refl _))];rfl
 ·refine⟨fun e=>(by cases e),fun _=>⟨m,?_,(h.famD at_ L m).down⟩⟩
  obtain⟨k,hk⟩: ∃ k,L.length+1=m+(k+1):=⟨L.length - m,by omega⟩;rw[hk,j8 m (k+1) z fun j hj=>by rw[(h.famD at_ L j).isOff];exact h1 j hj];exact vf k (by rw[(h.famD at_ L m).isOff];exact h2)
end
theorem pd {z:SS} (hd:z.down=false) (h:lh (z.s.fams.length+1) z=(cy (z.s.fams.length+1) z,true)):df z=(CS (cy (z.s.fams.length+1) z) 0,0):=by
 unfold df;rw[hd,h];rfl
theorem rL {z:SS} {m:Nat} (hd:z.down=false) (h:lh (z.s.fams.length+1) z=(jF (cy m z),false)):df z=(jF (cy m z),14):=by
 unfold df;rw[hd,h];rfl
theorem si {z:SS} (hd:z.down=true):df z=(z,6):=by unfold df;rw[hd];rfl
theorem uq {z:SS} {e:Ev} (hd:z.down=true):aV z e=(z,6):=by unfold aV;rw[hd];rfl
theorem x7 {z:SS} {e:Ev} (hd:z.down=false) (he:dp e=false):aV z e=(z,1):=by unfold aV;rw[hd,if_neg dC,if_pos he]
theorem tC {z:SS} {e:Ev} (hd:z.down=false) (he:dp e=true) (hl:20<(am z.s e).fams.length):aV z e=(z,12):=by
 unfold aV;rw[hd,if_neg dC,if_neg (by rw[he];decide),if_pos hl]
theorem xw {z:SS} {e:Ev} (hd:z.down=false) (he:dp e=true) (hl:(am z.s e).fams.length≤20) (h16:z.log≠16):aV z e=ka z (am z.s e):=by
 unfold aV;rw[hd,if_neg dC,if_neg (by rw[he];decide),if_neg oM,if_neg h16]
theorem o9 {z:SS} {e:Ev} (hd:z.down=false) (he:dp e=true) (hl:(am z.s e).fams.length≤20) (h16:z.log=16):aV z e=if (df z).2=0 then ka (df z).1 (am z.s e)else df z:=by
 unfold aV;rw[hd,if_neg dC,if_neg (by rw[he];decide),if_neg oM,if_pos h16]
theorem mq {z:SS} {s:St} (h:kC z=true):ka z s=(jF z,14):=if_pos h
theorem oJ {z:SS} {s:St} (h:kC z=false):ka z s=(Di (kD z) s,0):=if_neg (by rw[h];decide)
open Go.Sort
theorem pQ (L:List (List UInt8)):(Lib.compact L).length≤L.length:=Lib.compact_length_le L
theorem xd {B:Nat} {v:Value} {L:List (List UInt8)} {w W:World} (h:gi w B v L) (hB:Below B W w) (hL:L.length≤1000000):
  Calls prog 222 #[v] w fun e w'=> ∃ g cap,e=.returned (.slice (some ⟨g,0,none⟩) (Lib.compact L).length cap)∧gi w' B (.slice (some ⟨g,0,none⟩) (Lib.compact L).length cap) (Lib.compact L)∧Below B W w':=by
 obtain⟨g,cap,rfl,hg,hlt,hn,hm,hH⟩:=h.parts;refine(Tryz.slices_Compact_string g 0 cap L w hH oM hn).mono ?_;rintro e w' ⟨rfl,q,rfl⟩;exact⟨g,cap,rfl,h.cut (pQ L),Lib.below_putRow hB hg⟩
def oy:ByteArray:=⟨#[97,98,99,100,101,102,103,104,105,106,107,108,109,110,111,112,113,114,115,116,117,118,119,120,121,122]⟩
theorem xQ (c:UInt8):oy.data.toList.contains c=(decide (97≤c.toNat)&&decide (c.toNat≤122)):=by
 have h: ∀ n:Fin 256,oy.data.toList.contains (UInt8.ofFin n)=(decide (97≤(UInt8.ofFin n).toNat)&&decide ((UInt8.ofFin n).toNat≤122)):=of_decide_eq_true kR;exact h c.toFin
theorem pI (l:List UInt8):l.all (oy.data.toList.contains ·)=ro l:=by
 unfold ro
 congr 1
 funext c
 exact xQ c
theorem DU (x:ByteArray) (w:World) (hx:x.size≤1000000) (h:ro x.data.toList=true):
  Calls prog 219 #[.string x,.string ⟨#[97,98,99,100,101,102,103,104,105,106,107,108,109,110,111,112,113,114,115,116,117,118,119,120,121,122]⟩] w fun e w'=>e=.returned (.string ⟨#[]⟩)∧Below w.heap.size w w':=
 (ja oy x w hx dC (ascii_of_all dC)).1 (by rw[pI];exact h)
theorem AR (x:ByteArray) (w:World) (hx:x.size≤1000000) (h:ro x.data.toList=false):
  Calls prog 219 #[.string x,.string ⟨#[97,98,99,100,101,102,103,104,105,106,107,108,109,110,111,112,113,114,115,116,117,118,119,120,121,122]⟩] w fun e w'=>rm e∧Below w.heap.size w w':=
 (ja oy x w hx dC (ascii_of_all dC)).2 (by rw[pI];exact h)
def rJ (s:ByteArray) (W:World) (e:Ending) (w':World):Prop:=
 ∃ v,e=.returned (.tuple #[v,bV (aw s.data.toList)])∧cM w' W.heap.size v (aK s.data.toList)∧Below W.heap.size W w'
def Ee (B:Nat) (W:World) (v:Value) (L:List (List UInt8)) (i:Value) (wr:World):Prop:=
 ∃ k:Nat,k≤L.length∧i=.int .i64 k∧gi wr B v L∧Below B W wr∧ ∀ j,j<k→oN (L.getD j [])=true
theorem xh {L:List (List UInt8)} (h: ∀ j,j<L.length→oN (L.getD j [])=true):L.all oN=true:=by
 rw[List.all_eq_true];intro x hx;obtain⟨j,hj,rfl⟩:=List.mem_iff_getElem.1 hx;have:=h j hj;simpa[List.getD,hj]using this
theorem mN {L:List (List UInt8)} {k:Nat} (hk:k<L.length) (h:oN (L.getD k [])=false):L.all oN=false:=by
 rw[List.all_eq_false];refine⟨L[k],List.getElem_mem hk,?_⟩;simpa[List.getD,hk]using h
theorem rO (w:World):Calls prog 182 #[.string ⟨#[]⟩] w (rJ ⟨#[]⟩ w):=by
 go_enter Tryz.func182,Tryz.ntmps182;go_wp2_with fail;go_ret2;exact⟨_,rfl,.inl ⟨rfl,rfl⟩,Below.refl _ _⟩
theorem qa (s:ByteArray) (W:World) (hs:s.size≤5000) (hm:dt W) (h0:s.data.toList≠ []):Calls prog 182 #[.string s] W (rJ s W):=by
 have hemp:s.toList.isEmpty=false:=by
  rw[←bJ s,bn];simpa using h0
 have H0:=zH h0;have hp:=fP 43 s.data.toList;rw[aq]at hp;have HSP:=zH (fT 43 s W.heap.size W oM hm (Nat.le_refl _));clear h0 hm;have HPS:Hid (∀ w∈parts 43 s.data.toList,w.length≤5000):=zH (be 43 _ _ (by rw[aq];exact hs));generalize hL:parts 43 s.data.toList=L at*;have HL:=zH hL;clear hL;go_enter Tryz.func182,Tryz.ntmps182
 go_wp2_with
  (go_at_call 13;refine HSP.out.mono ?_;rintro e w1 ⟨v,rfl,hr,hb⟩
   obtain⟨g,cap,rfl,_⟩:=id hr;have HR:=zH hr;have HB:=zH hb;clear hr hb)
 go_loopw [13] (fun i wr=>Ee W.heap.size W (.slice (some ⟨g,0,none⟩) L.length cap) L i wr) (fun i _=>L.length - (intOf i).toNat)
 case atStart=>exact⟨0,Nat.zero_le _,rfl,HR.out,HB.out,fun j hj=>absurd hj (Nat.not_lt_zero _)⟩
 case round=>
  obtain⟨k,hk,rfl,hr,hb,hno⟩:=hrel;clear HR HB HSP hemp;have HR:=zH hr;have HB:=zH hb;have HNO:=zH hno;clear hb hno
  by_cases hlt:k<L.length
  ·have hc:=hr.cell k hlt
   have hsz:(L.getD k []).length≤5000:=by
    have:=HPS.out (L[k]) (List.getElem_mem hlt);simpa[List.getD,hlt]using this
   clear hr;generalize hx:L.getD k []=x at*;have HX:=zH hx;clear hx
   by_cases hne:x=[]
   ·subst hne
    rw[show ah []=(⟨#[]⟩:ByteArray)from rfl]at hc;go_wp2_with fail;go_ret2;have h3:aw s.data.toList=3:=iB H0.out (by rw[HL.out];exact mN hlt (by rw[HX.out];rfl));exact⟨_,by rw[h3];rfl,.inl ⟨rfl,dv (by rw[h3];decide)⟩,HB.out⟩
   ·have hemp:(ah x).toList.isEmpty=false:=by rw[bn];simpa using hne
    have htx:(ah x).data.toList=x:=ak x;have hts:(ah x).size≤1000000:=by rw[av];omega
    have HTX:=zH htx;clear htx;generalize ah x=y at*
    by_cases hlow:ro x=true
    ·have HT:=zH (fun w=>DU y w hts (by rw[HTX.out];exact hlow))
     go_wp2_with
      (go_at_call 219;refine(HT.out _).mono ?_;rintro e w2 ⟨rfl,hb2⟩
       have HR2:=zH (HR.out.below hb2);have HB2:=zH (HB.out.trans (hb2.mono HB.out.size));clear hb2)
     go_roundw
     case rel=>
      refine⟨k+1,by omega,by go_num,HR2.out,HB2.out,fun j hj=>?_⟩
      by_cases e:j=k
      ·subst e
       rw[HX.out];simp[oN,hlow,hne]
      ·exact HNO.out j oM
     case measure=>simp[intOf];omega
    ·have hlow':ro x=false:=by simpa using hlow
     have HT:=zH (fun w=>AR y w hts (by rw[HTX.out];exact hlow'))
     go_wp2_with
      (go_at_call 219;refine(HT.out _).mono ?_;rintro e w2 ⟨⟨z,rfl,hz⟩,hb2⟩
       have HB2:=zH (HB.out.trans (hb2.mono HB.out.size));clear hb2)
     go_ret2;have h3:aw s.data.toList=3:=iB H0.out (by rw[HL.out];exact mN hlt (by rw[HX.out];simp[oN,hlow']));exact⟨_,by rw[h3];rfl,.inl ⟨rfl,dv (by rw[h3];decide)⟩,HB2.out⟩
  ·have hall:(parts 43 s.data.toList).all oN=true:=by rw[HL.out];exact xh fun j hj=>HNO.out j oM
   have HALL:=zH hall;clear hall hr;have HS:=zH (C9 HR.out HB.out HB.out.size oM)
   go_wp2_with
    (first
    |(go_at_call 197;refine HS.out.mono ?_;rintro e w2 ⟨rfl,hr2,hb2⟩
      have HC:=zH (xd hr2 hb2 (by rw[List.length_mergeSort];omega));clear hr2 hb2)
    |(go_at_call 222;refine HC.out.mono ?_;rintro e w3 ⟨g3,cap3,rfl,hr3,hb3⟩
      rw[show Lib.compact (L.mergeSort oU)=j1 (parts 43 s.data.toList) by rw[HL.out];rfl]at*;have HR3:=zH hr3;have HB3:=zH hb3;have HCL:=zH (sX _ g3 cap3 _ w3 hr3 (by have:=pQ (L.mergeSort oU);rw[List.length_mergeSort]at this;rw[HL.out];exact Nat.le_trans this oM));clear hr3 hb3)
    |(go_at_call 223;refine HCL.out.mono ?_;rintro e w4 ⟨rfl,q,rfl⟩))
   ·have hor:(5:Int)<((j1 (parts 43 s.data.toList)).length:Int)∨(j1 (parts 43 s.data.toList)).any dW=true:=by assumption
    have h4:aw s.data.toList=4:=iU H0.out HALL.out (hor.elim (fun h=>.inl oM) .inr);go_ret2;exact⟨_,by rw[h4];rfl,.inl ⟨rfl,dv (by rw[h4];decide)⟩,aF HB3.out q⟩
   ·have hand:((j1 (parts 43 s.data.toList)).length:Int)≤5∧(j1 (parts 43 s.data.toList)).any dW=false:=by assumption
    have h0:=pJ H0.out HALL.out oM hand.2;go_ret2;exact⟨_,by rw[h0.1];rfl,.inr (by rw[h0.2];exact HR3.out.drewN q),aF HB3.out q⟩
   ·have hgt:(5:Int)<((j1 (parts 43 s.data.toList)).length:Int):=by assumption
    have h4:aw s.data.toList=4:=iU H0.out HALL.out (.inl oM);go_ret2;exact⟨_,by rw[h4];rfl,.inl ⟨rfl,dv (by rw[h4];decide)⟩,HB3.out⟩
theorem nd (s:ByteArray) (W:World) (hs:s.size≤5000) (hm:dt W):Calls prog 182 #[.string s] W (rJ s W):=by
 by_cases h0:s.data.toList=[]
 ·obtain rfl:s=⟨#[]⟩:=by rw[←bJ s,h0];rfl
  exact rO W
 ·exact qa s W hs hm h0
theorem qx {n:Int} (h:n≠0):bV n=.iface 57 (.int .i64 n):=if_neg h
theorem zB {s:List UInt8} (h:aw s≠0):aT s=[]:=by unfold aT;rw[dv h];rfl
theorem fo (s:ByteArray) (W:World) (hs:s.size≤5000) (hm:dt W):
  Calls prog 126 #[.string s] W fun e w'=>e=.returned (.tuple #[.string (ah (aT s.data.toList)),bV (aw s.data.toList)])∧Below W.heap.size W w':=by
 have H:=zH (nd s W hs hm);clear hm
 by_cases h0:aw s.data.toList=0
 ·have E:=zH (show bV (aw s.data.toList)=.nilIface by rw[h0];rfl)
  clear h0;go_enter Tryz.func126,Tryz.ntmps126
  go_wp2_with
   (first
   |(go_at_call 182;refine H.out.mono ?_;rintro e w1 ⟨v,rfl,hr,hb⟩
     rw[E.out];have HJ:=zH (qU hr);have HB:=zH hb;clear hr hb)
   |(go_at_call 50;refine HJ.out.mono ?_;rintro e w2 ⟨rfl,hb⟩
     have HB2:=zH (HB.out.trans (hb.mono HB.out.size));clear hb))
  go_ret2;exact⟨by rw[E.out];rfl,HB2.out⟩
 ·have E:=zH (qx h0)
  have L:=zH (zB h0);clear h0;go_enter Tryz.func126,Tryz.ntmps126
  go_wp2_with
   (go_at_call 182;refine H.out.mono ?_;rintro e w1 ⟨v,rfl,hr,hb⟩
    rw[E.out];have HB:=zH hb;clear hr hb)
  go_ret2;exact⟨by rw[E.out,L.out];rfl,HB.out⟩
def vs (W:World) (s:S4) (n:Nat) (a b c d i:Value) (w:World):Prop:=
 ∃ k:Nat,k≤n∧i=.int .i64 k∧a=.int .u64 (dD s k).a∧b=.int .u64 (dD s k).b∧c=.int .u64 (dD s k).c∧d=.int .u64 (dD s k).d∧Below W.heap.size W w∧(∃ cs,aj w (W.heap.size+1) 190 cs∧cs.size=4)
theorem vs.step {W wr:World} {s:S4} (n k:Nat) (h:k<n) (m:Nat) (hb:Below W.heap.size W wr) (hc: ∃ cs,aj wr (W.heap.size+1) 190 cs∧cs.size=4) {S:S4} (e:S=dD s k):
  vs W s n (.int .u64 (ad (bS (ad S.a S.b) 32) (bx (bS S.d 16) (ad S.c S.d)))) (.int .u64 (bx (bS (bx (bS S.b 13) (ad S.a S.b)) 17) (ad (ad S.c S.d) (bx (bS S.b 13) (ad S.a S.b)))))
   (.int .u64 (bS (ad (ad S.c S.d) (bx (bS S.b 13) (ad S.a S.b))) 32)) (.int .u64 (bx (bS (bx (bS S.d 16) (ad S.c S.d)) 21) (ad (bS (ad S.a S.b) 32) (bx (bS S.d 16) (ad S.c S.d))))) (.int .i64 ((k:Int)+1)) (wr.drewN m):=by
 subst e;exact⟨k+1,h,by go_num,rfl,rfl,rfl,rfl,aF hb m,hc⟩
theorem qE (s:S4) (hs:s.ok) (n:Nat) (hn:n≤100) (W:World):
  Calls prog 145 #[.agg s.cells,.int .i64 n] W fun e w'=>e=.returned (.agg (dD s n).cells)∧Below W.heap.size W w':=by
 obtain⟨a,b,c,d⟩:=s;have HS:=zH hs;clear hs;unfold S4.cells;go_enter Tryz.func145,Tryz.ntmps145;go_wp2_with fail
 go_quiet (fail)
 go_wp2_with fail
 go_loopw [5,6,7,8,18] (fun v5 v6 v7 v8 i wr=>vs W ⟨a,b,c,d⟩ n v5 v6 v7 v8 i wr) (fun _ _ _ _ i _=>n - (intOf i).toNat)
 case atStart=>exact⟨0,by omega,rfl,rfl,rfl,rfl,rfl,aF (((Below.refl _ _).alloc (Nat.le_refl _) _).alloc (by simp) _) _,⟨_,by simpa using((aj.new (W.alloc (.cells #[.int .u64 a,.int .u64 b,.int .u64 c,.int .u64 d] 190)) 190 #[.int .u64 0,.int .u64 0,.int .u64 0,.int .u64 0]).drewN _),rfl⟩⟩
 case round=>
  obtain⟨k,hk,rfl,rfl,rfl,rfl,rfl,hb,cs,hcs,hsz⟩:=hrel;have hok:=uy _ HS.out k;have HB:=zH hb;have HC:=zH hcs
  by_cases hlt:k<n
  ·obtain⟨S,hS⟩: ∃ S:S4,S=dD ⟨a,b,c,d⟩ k:=⟨_,rfl⟩
   rw[←hS]at hok ⊢;have HE:=zH hS;have HOK:=zH hok;clear hS hok hb hcs;go_wp2_with fail;refine(mY S.b 13 _ HOK.out.2.1 oM oM).mono ?_;rintro e w1 ⟨rfl,n1,rfl⟩;go_wp2_with fail;refine(mY _ 32 _ (iC _) oM oM).mono ?_;rintro e w1 ⟨rfl,n2,rfl⟩;go_wp2_with fail;refine(mY S.d 16 _ HOK.out.2.2.2 oM oM).mono ?_;rintro e w1 ⟨rfl,n3,rfl⟩;go_wp2_with fail;refine(mY _ 21 _ (jZ _ _ _ (.inr (.inl rfl))) oM oM).mono ?_;rintro e w1 ⟨rfl,n4,rfl⟩;go_wp2_with fail;refine(mY _ 17 _ (jZ _ _ _ (.inr (.inl rfl))) oM oM).mono ?_;rintro e w1 ⟨rfl,n5,rfl⟩;go_wp2_with fail;refine(mY _ 32 _ (iC _) oM oM).mono ?_;rintro e w1 ⟨rfl,n6,rfl⟩;go_wp2_with fail;exact⟨vs.step n k hlt _ HB.out ⟨cs,HC.out,hsz⟩ HE.out,by simp[intOf];omega⟩
  ·obtain rfl:k=n:=by omega
   obtain⟨l⟩:=cs
   match l,hsz with
   |[z0,z1,z2,z3],_=>
    have c0:wr.cell? ⟨W.heap.size+1,0,none⟩=some z0:=HC.out.cell 0;have c1:wr.cell? ⟨W.heap.size+1,1,none⟩=some z1:=HC.out.cell 1;have c2:wr.cell? ⟨W.heap.size+1,2,none⟩=some z2:=HC.out.cell 2;have c3:wr.cell? ⟨W.heap.size+1,3,none⟩=some z3:=HC.out.cell 3;have f0:=HC.out.frozen 0;have f1:=HC.out.frozen 1;have f2:=HC.out.frozen 2;have f3:=HC.out.frozen 3;clear hb hcs hok;go_wp2_with fail;refine bodyPost_ret (v:=.agg #[.int .u64 (dD ⟨a,b,c,d⟩ k).a,.int .u64 (dD ⟨a,b,c,d⟩ k).b,.int .u64 (dD ⟨a,b,c,d⟩ k).c,.int .u64 (dD ⟨a,b,c,d⟩ k).d]) (by simp[results,Tryz.results145,go_sem,c0,c1,c2,c3]) rfl ⟨rfl,?_⟩;exact(((HB.out.setCell (by simp) _).setCell (by simp) _).setCell (by simp) _).setCell (by simp) _
theorem A2 {d:List UInt8}:du (nE d)=d↔d≠ []:=by
 unfold nE
 by_cases h:d=[95]
 ·subst h;rw[if_pos rfl];simp[du]
 ·rw[if_neg h]
  unfold du
  by_cases h0:d=[]
  ·subst h0;simp
  ·rw[if_neg h0];simp[h0]
theorem Da {i:List UInt8}:mO (decide (i=[49]))=i↔i=[48]∨i=[49]:=by
 unfold mO
 by_cases h:i=[49]
 ·subst h;simp
 ·simp only[h,decide_false,Bool.false_eq_true,if_false,or_false]
  exact eq_comm
theorem DX {l:List UInt8} (h:bF l=true):nE l=l:=by
 unfold nE;rw[if_neg];rintro rfl
 revert h
 decide
theorem vB (a:Int) (b c d:ByteArray) (e f g:Int) (h:ByteArray) (i:Bool):gy ⟨a,b,c,d,e,f,g,h,i⟩=(ba a&&ba e&&ba f&&ba g&&bF b.data.toList&&bF c.data.toList&&qF h.data.toList&&kP d.data.toList):=rfl
theorem tK (a b c d e f g h i:List UInt8) (r:List (List UInt8)):yD (a::b::c::d::e::f::g::h::i::r,false)=⟨ab a,ah (nE b),ah (nE c),ah (nE d),ab e,ab f,ab g,ah (nE h),decide (i=[49])⟩:=rfl
theorem tA (a b c d e f g h i:List UInt8) (r:List (List UInt8)):wO (a::b::c::d::e::f::g::h::i::r,false)=(r,((((((((false || !aC a) || decide (b=[])) || decide (c=[])) || decide (d=[])) || !aC e) || !aC f) || !aC g) || decide (h=[])) || (!decide (i=[48])&& !decide (i=[49]))):=rfl
theorem C8 {r:List (List UInt8)} (h:r.length<9):(wO (r,false)).2=true:=by
 have e0:aC []=false:=by decide
 rcases r with _|⟨a,_|⟨b,_|⟨c,_|⟨d,_|⟨e,_|⟨f,_|⟨g,_|⟨h,_|⟨i,r⟩⟩⟩⟩⟩⟩⟩⟩⟩
 all_goals first|(simp[wO,br,aM,cz,bp,e0];done)|(simp at h;omega)
theorem nine (a b c d e f g h i:List UInt8):
  (eH ([112]::[a,b,c,d,e,f,g,h,i],false)=(dp (iJ ([112]::[a,b,c,d,e,f,g,h,i]))&&decide (vh (iJ ([112]::[a,b,c,d,e,f,g,h,i]))=[112]::[a,b,c,d,e,f,g,h,i])))∧
  (eH ([112]::[a,b,c,d,e,f,g,h,i],false)=true→(dB ([112]::[a,b,c,d,e,f,g,h,i],false)).1=iJ ([112]::[a,b,c,d,e,f,g,h,i])):=by
 have e1:dB ([112]::[a,b,c,d,e,f,g,h,i],false)=(⟨1,yD ([a,b,c,d,e,f,g,h,i],false),0,0⟩,wO ([a,b,c,d,e,f,g,h,i],false)):=rfl;have e2:iJ ([112]::[a,b,c,d,e,f,g,h,i])=⟨1,⟨ab a,ah b,ah c,ah (nE d),ab e,ab f,ab g,ah (nE h),decide (i=[49])⟩,0,0⟩:=rfl
 have e3:vh ⟨1,⟨ab a,ah b,ah c,ah (nE d),ab e,ab f,ab g,ah (nE h),decide (i=[49])⟩,0,0⟩=[[112],Lib.itoa (ab a),b,c,du (nE d),Lib.itoa (ab e),Lib.itoa (ab f),Lib.itoa (ab g),du (nE h),mO (decide (i=[49]))]:=by
  rw[vW rfl];simp only[wQ,ak]
 constructor
 ·unfold eH
  rw[e1,e2,e3,tK,tA];dsimp only;rw[qw,qw,vB,vB,ak,ak,ak,ak,ak,ak,qR,qR,Bool.eq_iff_iff];simp only[Bool.and_eq_true,Bool.not_eq_true',Bool.or_eq_false_iff,Bool.not_eq_false',decide_eq_true_eq,decide_eq_false_iff_not,Bool.false_or,List.cons.injEq,true_and,and_true,A2,Da,Bool.and_eq_false_iff];constructor
  ·rintro⟨⟨⟨⟨⟨⟨⟨⟨⟨ha,hb⟩,hc⟩,hd⟩,he⟩,hf⟩,hg⟩,hh⟩,hi⟩,hX⟩
   refine⟨hX,?_⟩;unfold aC at ha he hf hg;simp only[Bool.and_eq_true,decide_eq_true_eq]at ha he hf hg;refine⟨ha.2,hd,he.2,hf.2,hg.2,hh,?_⟩;exact hi
  ·rintro⟨hX,ha,hd,he,hf,hg,hh,hi⟩
   refine⟨⟨⟨⟨⟨⟨⟨⟨⟨?_,?_⟩,?_⟩,hd⟩,?_⟩,?_⟩,?_⟩,hh⟩,?_⟩,hX⟩
   ·rw[nT hX.1.1.1.1.1.1.1];simpa using ha
   ·exact xH hX.1.1.1.2
   ·exact xH hX.1.1.2
   ·rw[nT hX.1.1.1.1.1.1.2];simpa using he
   ·rw[nT hX.1.1.1.1.1.2];simpa using hf
   ·rw[nT hX.1.1.1.1.2];simpa using hg
   ·rcases hi with hi|hi
    ·exact .inl (by simp[hi])
    ·exact .inr (by simp[hi])
 ·intro hp
  unfold eH at hp;rw[e1]at hp ⊢;rw[e2,tK]at*;dsimp only at hp ⊢;rw[qw,vB]at hp;simp only[Bool.and_eq_true,ak,qR]at hp;rw[DX hp.2.1.1.1.2,DX hp.2.1.1.2]
theorem Dy {ps:List (List UInt8)} (h:ps.length=10):vh (iJ ps)=[112]::wQ (iJ ps).fam:=by
 rcases ps with _|⟨x,_|⟨a,_|⟨b,_|⟨c,_|⟨d,_|⟨e,_|⟨f,_|⟨g,_|⟨h,_|⟨i,_|⟨j,r⟩⟩⟩⟩⟩⟩⟩⟩⟩⟩⟩
 all_goals first|(simp at h;done)|rfl
theorem Dh {ps:List (List UInt8)} (h1:ps.length≠10) (h2:ps.length≠2):iJ ps=Ev.zero:=by
 rcases ps with _|⟨x,_|⟨a,_|⟨b,_|⟨c,_|⟨d,_|⟨e,_|⟨f,_|⟨g,_|⟨h,_|⟨i,_|⟨j,r⟩⟩⟩⟩⟩⟩⟩⟩⟩⟩⟩
 all_goals first|(simp at h1 h2;done)|rfl
theorem qq {x:List UInt8} {r:List (List UInt8)} (h10:x≠ [112]∨r.length≠9) (h2:(x≠ [100]∧x≠ [99])∨r.length≠1):(dp (iJ (x::r))&&decide (vh (iJ (x::r))=x::r))=false:=by
 by_cases hl:r.length=9
 ·have hx:x≠ [112]:=h10.resolve_right fun h=>h hl
  rw[Dy (by simp[hl])];simp[Ne.symm hx]
 ·by_cases hl1:r.length=1
  ·obtain⟨a,rfl⟩:=List.length_eq_one_iff.1 hl1
   obtain⟨hx1,hx2⟩:=h2.resolve_right fun h=>h rfl
   have:iJ [x,a]=⟨3,an.zero,0,ab a⟩:=by
    show(if x=[100]then _ else _)=_
    rw[if_neg hx1]
   rw[this,t6 rfl];simp[Ne.symm hx2]
  ·rw[Dh (by simp;omega) (by simp;omega),D5]
   rfl
theorem Bq (ps:List (List UInt8)):eH (ps,false)=(dp (iJ ps)&&decide (vh (iJ ps)=ps))∧(eH (ps,false)=true→(dB (ps,false)).1=iJ ps):=by
 rcases ps with _|⟨x,r⟩
 ·exact⟨by decide,fun h=>absurd h dC⟩
 ·by_cases hp:x=[112]
  ·subst hp
   by_cases hl:r.length=9
   ·rcases r with _|⟨a,_|⟨b,_|⟨c,_|⟨d,_|⟨e,_|⟨f,_|⟨g,_|⟨h,_|⟨i,_|⟨j,r⟩⟩⟩⟩⟩⟩⟩⟩⟩⟩
    all_goals first|(simp at hl;done)|exact nine _ _ _ _ _ _ _ _ _
   ·have e0:eH ([112]::r,false)=false:=by
     unfold eH;rw[show dB ([112]::r,false)=(⟨1,yD (r,false),0,0⟩,wO (r,false))from rfl]
     by_cases h9:r.length<9
     ·rw[C8 h9];rfl
     ·rcases r with _|⟨a,_|⟨b,_|⟨c,_|⟨d,_|⟨e,_|⟨f,_|⟨g,_|⟨h,_|⟨i,_|⟨j,r⟩⟩⟩⟩⟩⟩⟩⟩⟩⟩
      all_goals first|(simp at hl h9;done)|(rw[tA];simp)
    rw[e0,qq (.inr hl) (.inl ⟨by decide,by decide⟩)];exact⟨rfl,fun h=>by cases h⟩
  ·by_cases hd:x=[100]
   ·subst hd
    have e1:dB ([100]::r,false)=(⟨2,an.zero,jx (r,false),0⟩,br (r,false)):=rfl
    by_cases hl:r.length=1
    ·obtain⟨a,rfl⟩:=List.length_eq_one_iff.1 hl
     have e2:iJ [[100],a]=⟨2,an.zero,ab a,0⟩:=rfl;constructor
     ·unfold eH
      rw[e1,e2,Ag,yf rfl]
      show(!(false || !aC a)&&decide (([]:List (List UInt8))=[])&&dp ⟨2,an.zero,ab a,0⟩)=_
      rw[Ag];have:=xO (l:=a);simp only[Bool.false_or,Bool.not_not,decide_true,Bool.and_true,List.cons.injEq,true_and,and_true];rw[Bool.and_comm];exact this
     ·intro _
      rw[e1,e2];rfl
    ·have e0:eH ([100]::r,false)=false:=by
      unfold eH;rw[e1];rcases r with _|⟨a,_|⟨b,r⟩⟩
      ·rfl
      ·simp at hl
      ·simp[br,cz]
     rw[e0,qq (.inl dC) (.inr hl)];exact⟨rfl,fun h=>by cases h⟩
   ·by_cases hc:x=[99]
    ·subst hc
     have e1:dB ([99]::r,false)=(⟨3,an.zero,0,jx (r,false)⟩,br (r,false)):=rfl
     by_cases hl:r.length=1
     ·obtain⟨a,rfl⟩:=List.length_eq_one_iff.1 hl
      have e2:iJ [[99],a]=⟨3,an.zero,0,ab a⟩:=rfl;constructor
      ·unfold eH
       rw[e1,e2,tu,t6 rfl]
       show(!(false || !aC a)&&decide (([]:List (List UInt8))=[])&&dp ⟨3,an.zero,0,ab a⟩)=_
       rw[tu];have:=xO (l:=a);simp only[Bool.false_or,Bool.not_not,decide_true,Bool.and_true,List.cons.injEq,true_and,and_true];rw[Bool.and_comm];exact this
      ·intro _
       rw[e1,e2];rfl
     ·have e0:eH ([99]::r,false)=false:=by
       unfold eH;rw[e1];rcases r with _|⟨a,_|⟨b,r⟩⟩
       ·rfl
       ·simp at hl
       ·simp[br,cz]
      rw[e0,qq (.inl dC) (.inr hl)];exact⟨rfl,fun h=>by cases h⟩
    ·have e0:eH (x::r,false)=false:=by
      unfold eH dB
      show(!(if x=[112]then _ else if x=[100]then _ else if x=[99]then _ else _:Ev×Rd).2.2&&_&&_)=false
      rw[if_neg hp,if_neg hd,if_neg hc];rfl
     rw[e0,qq (.inl hp) (.inl ⟨hd,hc⟩)];exact⟨rfl,fun h=>by cases h⟩
theorem Bv (l:List UInt8):eH (parts 32 l,false)=gK l∧(gK l=true→(dB (parts 32 l,false)).1=fX l):=by
 obtain⟨h1,h2⟩:=Bq (parts 32 l);refine⟨h1,fun h=>?_⟩;rw[h2 (by rw[h1];exact h)];unfold fX;rw[if_pos h]
theorem pA {s:St} {e:Ev} (h:kn s) (hn:s.fams.length≤60) (he:dp e=true):kn (am s e):=by
 refine⟨yG h.asc e,yU h.ids ?_,?_⟩
 ·intro hk
  rcases eV he with⟨_,_,_,hf⟩|⟨h1,_⟩|⟨h1,_⟩
  ·exact(bo hf).1
  ·omega
  ·omega
 ·have:=mS s e
  omega
theorem FJ (c d:Int):kn ⟨c,d,[]⟩:=⟨List.Pairwise.nil,fun f hf=>by simp at hf,Nat.zero_le _⟩
section
variable {blk:Nat→List UInt8} {at_:Nat} {s:St}
theorem sB:gY blk at_ s 0=some (s,[]):=rfl
theorem qB {n:Nat} {st:St} {all:List UInt8} (h:gY blk at_ s n=some (st,all)):
  gY blk at_ s (n+1)=if gK (blk (at_+1+n))&&decide ((fX (blk (at_+1+n))).kind=1)then some (am st (fX (blk (at_+1+n))),all++blk (at_+1+n)++[10])else none:=by
 rw[gY,h]
theorem rf {n m:Nat} (h:gY blk at_ s n=none) (hm:n≤m):gY blk at_ s m=none:=by
 induction m with
 |zero=>
  obtain rfl:n=0:=by omega
  exact h
 |succ m ih=>
  rcases Nat.lt_or_ge m n with hlt|hge
  ·obtain rfl:n=m+1:=by omega
   exact h
  ·rw[gY,ih hge]
theorem xp (hs:kn s) (h0:s.fams=[]) (hb: ∀ k,(blk k).length≤240): ∀ (n:Nat),n≤20→ ∀ (st:St) (all:List UInt8),gY blk at_ s n=some (st,all)→kn st∧st.fams.length≤n∧all.length≤241*n
 |0,_,st,all,h=>by
  rw[sB]at h;obtain⟨rfl,rfl⟩:=Prod.mk.inj (Option.some.inj h);exact⟨hs,by rw[h0];exact Nat.le_refl _,Nat.zero_le _⟩
 |n+1,hn,st,all,h=>by
  rcases e:gY blk at_ s n with _|⟨st',all'⟩
  ·rw[rf e (Nat.le_succ n)]at h
   cases h
  ·obtain⟨h1,h2,h3⟩:=xp hs h0 hb n oM st' all' e
   rw[qB e]at h;split at h
   ·rename_i hr
    rw[Bool.and_eq_true]at hr;obtain⟨rfl,rfl⟩:=Prod.mk.inj (Option.some.inj h);have h4:=mS st' (fX (blk (at_+1+n)));have h5:=hb (at_+1+n);refine⟨pA h1 oM (tI hr.1),by omega,?_⟩;rw[List.length_append,List.length_append,List.length_singleton];omega
   ·cases h
end
section
variable (tg:Int→List UInt8→List UInt8)
def kV (blk:Nat→List UInt8) (k:Nat) (L:List (List UInt8)):Option (Int×Int×St):=
 if (L.take 5).all gd&&decide (ab (L.getD 4 [])≤20)then
  match gY blk (ay k) ⟨ab (L.getD 2 []),ab (L.getD 3 []),[]⟩ (ab (L.getD 4 [])).toNat with
  |some (st,all)=>if tg 1 all=L.getD 5 []∧ab (L.getD 0 []) % 2=(k:Int)then some (ab (L.getD 0 []),ab (L.getD 1 []),st)else none
  |none=>none
 else none
theorem yY {blk:Nat→List UInt8} {k:Nat} (h:eE tg (blk (ay k))=none):fh tg blk k=none:=by
 unfold fh;rw[h]
theorem CC {blk:Nat→List UInt8} {k:Nat} {x:List UInt8} (h:eE tg (blk (ay k))=some x) (hl:(parts 32 x).length≠6):fh tg blk k=none:=by
 unfold fh;rw[h];dsimp only;split
 ·rename_i e
  rw[e]at hl;exact absurd rfl hl
 ·rfl
theorem wj {blk:Nat→List UInt8} {k:Nat} {x:List UInt8} (h:eE tg (blk (ay k))=some x) (hl:(parts 32 x).length=6):fh tg blk k=kV tg blk k (parts 32 x):=by
 unfold fh;rw[h];dsimp only;rcases hp:parts 32 x with _|⟨a,_|⟨b,_|⟨c,_|⟨d,_|⟨e,_|⟨t,_|⟨u,r⟩⟩⟩⟩⟩⟩⟩
 all_goals (rw[hp]at hl;try (exfalso;simp at hl;done))
 unfold kV;simp only[List.take_succ_cons,List.take_zero,List.all_cons,List.all_nil,Bool.and_true,Bool.and_assoc];rfl
end
end Go.Proofs.YtepjcdjpikbbjaaGreatDoor
