/-
  The reference's Scope: what it gives is the plain law's.
-/
import Derived.Test.YtepjcdjpikbbjaaGreatDoorU00
import Derived.Test.YtepjcdjpikbbjaaGreatDoorU05
import Derived.Test.YtepjcdjpikbbjaaGreatDoorU01
set_option maxHeartbeats 8000000
set_option maxRecDepth 100000
namespace Go.Proofs.YtepjcdjpikbbjaaGreatDoor
open Go.Proofs.Tryz
open Go.RowKit Go.Sort Go.Maps
theorem yQ {P:Program} {K E e:TypeId} {w:World} {B m n k:Nat} {f:List UInt8→Bool} {v:Value} {xs:List Value} (h:w.ownsRow B e 1 v n xs) (hm:dK P K E w m k f):v.ownBlock≠some m:=by
 obtain⟨D,⟨es,clock,hb,_⟩,_⟩:=hm;rcases h.2 with⟨rfl,_⟩|⟨g,cap,cur,rfl,_,hg,_⟩
 ·simp[Value.ownBlock]
 ·intro e
  have:g=m:=by simpa[Value.ownBlock]using e
  subst this;rw[hb]at hg;cases hg
structure eP (W:World) (s:List UInt8) (k:Nat) (d:List (List UInt8)) (c:List UInt8) (out:Value) (wr:World):Prop where
 below:Below W.heap.size W wr
 map:dK prog 9 4 wr W.heap.size d.length (fun x=>d.contains x)
 row:wr.ownsRow W.heap.size 9 1 out (ef d).length ((ef d).map encStr)
 len:d.length≤k
 clen:c.length≤k
 front:k≤s.length→it s k d c
 done:k=s.length+1→parts 43 s=d∧(parts 43 s).all oN=true
 top:k≤s.length+1
section
variable {W wr wm w3:World} {s:List UInt8} {k:Nat} {d:List (List UInt8)} {c:List UInt8} {out v':Value} {o:Obj}
theorem eP.ne (h:eP W s k d c out wr):out.ownBlock≠some W.heap.size:=yQ h.row h.map
theorem eP.wm_below (h:eP W s k d c out wr) (hg:wr.grownBy wm (some W.heap.size)):Below W.heap.size W wm:=dm h.below hg (Nat.le_refl _) h.below.size
theorem eP.seamFront (h:eP W s k d c out wr) (hc:c≠ []) (hx:k=s.length∨s[k]?=some 43):(k+1≤s.length→it s (k+1) (d++[c]) [])∧(k+1=s.length+1→parts 43 s=d++[c]∧(parts 43 s).all oN=true)∧k+1≤s.length+1:=by
 rcases hx with hx|hx
 ·refine⟨fun h'=>by omega,fun _=>?_,by omega⟩
  have hf:=h.front oM;subst hx;exact hf.done hc
 ·have hlt:=(List.getElem?_eq_some_iff.1 hx).1
  exact⟨fun _=>(h.front oM).seam hx hc,fun h'=>by omega,by omega⟩
theorem eP.seamOld (h:eP W s k d c out wr) (hc:c≠ []) (hx:k=s.length∨s[k]?=some 43) (hin:d.contains c=true):eP W s (k+1) (d++[c]) [] out wr:=by
 obtain⟨f1,f2,f3⟩:=h.seamFront hc hx
 have hf:ef (d++[c])=ef d:=by
  rw[lF,qy,if_pos];rw[List.contains_iff_mem,(fZ _ d rfl).2.1,←List.contains_iff_mem];exact hin
 refine⟨h.below,?_,by rw[hf];exact h.row,by have:=h.len;simp;omega,by simp,f1,f2,f3⟩
 have e:(fun x=>(d++[c]).contains x)=fun x=>d.contains x:=by
  funext x
  rw[Bool.eq_iff_iff,List.contains_iff_mem,List.contains_iff_mem,List.mem_append,List.mem_singleton];exact⟨fun h=>h.elim id fun e=>by subst e;exact List.contains_iff_mem.1 hin,.inl⟩
 rw[e];exact h.map.mono (by simp)
theorem eP.seamNew (h:eP W s k d c out wr) (hc:c≠ []) (hx:k=s.length∨s[k]?=some 43) (hin:d.contains c=false)
  (hm:dK prog 9 4 wm W.heap.size (d.length+1) (fun y=>if y=c then true else d.contains y)) (hg1:wr.grownBy wm (some W.heap.size))
  (ho:w3.ownsRow W.heap.size 9 1 v' ((ef d).length+1) ((ef d).map encStr++[.string (ah c)])) (hg2:(wm.alloc o).grownBy w3 out.ownBlock):eP W s (k+1) (d++[c]) [] v' w3:=by
 obtain⟨f1,f2,f3⟩:=h.seamFront hc hx
 have hf:ef (d++[c])=ef d++[c]:=by
  rw[lF,qy,if_neg];rw[List.contains_iff_mem,(fZ _ d rfl).2.1,←List.contains_iff_mem,hin]
  decide
 have b1:Below W.heap.size W wm:=h.wm_below hg1;have b2:Below W.heap.size W (wm.alloc o):=b1.alloc b1.size o;refine⟨b2.grown hg2 b2.size fun i e=>(h.row.lt i e).1,?_,?_,by have:=h.len;simp;omega,by simp,f1,f2,f3⟩
 ·have e:(fun x=>(d++[c]).contains x)=fun y=>if y=c then true else d.contains y:=by
   funext x
   by_cases e:x=c
   ·subst e;simp
   ·rw[if_neg e]
    rw[Bool.eq_iff_iff,List.contains_iff_mem,List.contains_iff_mem,List.mem_append,List.mem_singleton];exact⟨fun h=>h.elim id fun h=>absurd h e,.inl⟩
  rw[e];simpa using(hm.alloc o).kept hg2 (Ne.symm h.ne)
 ·rw[hf,List.length_append,List.map_append]
  exact ho
theorem eP.more (h:eP W s k d c out wr) {x:UInt8} (hx:s[k]?=some x) (h1:97≤x.toNat) (h2:x.toNat≤122):eP W s (k+1) d (c++[x]) out wr:=by
 have hlt:=(List.getElem?_eq_some_iff.1 hx).1;exact⟨h.below,h.map,h.row,by have:=h.len;omega,by have:=h.clen;simp;omega,fun _=>(h.front oM).more hx h1 h2,fun h'=>by omega,by omega⟩
end
theorem my {d:List (List UInt8)} {c:List UInt8} {a b:Bool} (h:d.any dW=a) (hb:b=(a || decide (8<c.length))):Value.bool b=.bool ((d++[c]).any dW):=by
 rw[List.any_append,h,hb];simp[dW]
def IE (W:World) (s:List UInt8) (out word long i:Value) (wr:World):Prop:=
 ∃ (k:Nat) (d:List (List UInt8)) (c:List UInt8),i=.int .i64 k∧word=.string (ah c)∧long=.bool (d.any dW)∧eP W s k d c out wr
def yE (s:ByteArray) (W:World) (e:Ending) (w':World):Prop:=
 ∃ v,e=.returned (.tuple #[v,.int .i64 (aw s.data.toList)])∧cM w' W.heap.size v (aK s.data.toList)∧Below W.heap.size W w'
theorem Ac (s:ByteArray) (k:Nat) (h:k<s.size):s.data.toList[k]?=some (s[k]):=by
 rw[List.getElem?_eq_getElem (by rw[aq];exact h)];rfl
theorem Cq (W:World) (s:List UInt8):eP W s 0 [] [] (.slice none 0 0) (W.alloc (.map #[] 0)):=
 ⟨(Below.refl _ _).alloc (Nat.le_refl _) _,by simpa using dK.made (P:=prog) (K:=9) (E:=4) W,World.ownsRow_nil _ _ _ _,Nat.zero_le _,Nat.zero_le _,fun _=>it.start s,fun h=>by omega,by omega⟩
theorem ir {w:World} {B:Nat} {v:Value} {L:List (List UInt8)} (h:w.ownsRow B 9 1 v L.length (L.map encStr)) (hL:L≠ []):gi w B v L:=by
 rcases h.2 with⟨rfl,h0⟩|⟨g,cap,cur,rfl,_⟩
 ·simp at h0;exact absurd h0 hL
 ·exact⟨g,cap,rfl,h⟩
theorem CZ (s:ByteArray) (c:List UInt8) (k:Nat) (h:k<s.size):ah c++s.extract k (k+1)=ah (c++[s[k]]):=by
 rw[←gD]
 congr 1
 apply ByteArray.ext;apply Array.ext
 ·simp[ah];omega
 ·intro i h1 h2
  simp[ah]at h1 h2;have:i=0:=by omega
  subst this;simp[ah];rfl
theorem ms:(prog.info? 9).map (fun i=>(i.zero,i.size,i.bytes))=some (some (.string ByteArray.empty),1,16):=kR
theorem sY (w:World):Calls prog 94 #[.string ⟨#[]⟩] w (yE ⟨#[]⟩ w):=by
 go_enter Tryz.func94,Tryz.ntmps94;go_wp2_with fail;go_ret2;exact⟨_,rfl,.inl ⟨rfl,rfl⟩,Below.refl _ _⟩
theorem sE (s:ByteArray) (W:World) (hs:s.size≤5000) (h0:s.data.toList≠ []):Calls prog 94 #[.string s] W (yE s W):=by
 have hemp:s.toList.isEmpty=false:=by
  rw[←bJ s,bn];simpa using h0
 have H0:=zH h0;have HST:=zH (Cq W s.data.toList);have hmm:= @run_makeMap prog;obtain⟨i0,hi,hz0,hz1,hz2⟩:=info_parts ms;clear h0;go_enter Tryz.func94,Tryz.ntmps94
 go_wp2
 go_loopw [4,5,7,15] (fun out word long i wr=>IE W s.data.toList out word long i wr) (fun _ _ _ i _=>s.size+1 - (intOf i).toNat)
 case atStart=>exact⟨0,[],[],rfl,rfl,rfl,HST.out⟩
 case round=>
  obtain⟨k,d,c,rfl,rfl,rfl,h⟩:=hrel;clear hemp hmm HST;have H:=zH h;have htop:=h.top;have hclen:=h.clen;have hdlen:=h.len;rw[aq]at htop;clear h
  by_cases hk:k<s.size
  ·have hbyte:=Ac s k hk
   have e0:((k:Int) == (s.size:Int))=false:=by simp;omega
   by_cases h43:s[k]=43
   ·have e1:((s[k].toNat:Int) == 43)=true:=by rw[h43];rfl
    have HX:=zH (show k=s.data.toList.length∨s.data.toList[k]?=some 43 from .inr (by rw[hbyte,h43]));clear hbyte h43
    by_cases hc:c=[]
    ·subst hc
     rw[show ah []=(⟨#[]⟩:ByteArray)from rfl];have h3:=zH (iB H0.out (it.empty (H.out.front (by rw[aq];omega)) HX.out));have HB:=zH H.out.below;go_wp2_with fail;go_ret2;exact⟨_,by rw[h3.out];rfl,.inl ⟨rfl,dv (by rw[h3.out];decide)⟩,HB.out⟩
    ·have hce:(ah c).toList.isEmpty=false:=by rw[bn];simpa using hc
     have hcs:=av c;have hlk:=H.out.map.look underlying188 underlying9 underlying4 (by rfl) c (by unfold maxLen;omega);generalize hy:ah c=y at*;have HY:=zH hy;clear hy;cases hin:d.contains c
     ·obtain⟨wm,hput,hmap,hgm⟩:=H.out.map.put (T:=188) underlying188 underlying9 underlying4 (by unfold maxLen;omega) c (by unfold maxLen;omega) true
      rw[HY.out]at hput;rw[hin]at hlk;have HIN:=zH hin;have HMAP:=zH hmap;have HGM:=zH hgm;have hrow:=H.out.row.kept hgm (.inr H.out.ne);have hfl:=(fZ _ d rfl).2.2;have hB2:=(H.out.wm_below hgm).size;clear hin hmap hgm;cases hlong:d.any dW
      all_goals
       have HLO:=zH hlong;clear hlong
       by_cases h8:8<y.size
       all_goals
        go_wp2_with
         (at_builtin;refine wpList_append_own _ rfl _ _ 34 rfl W.heap.size 9 i0 (.string ByteArray.empty) 1 16 underlying34 hi hz0 hz1 hz2 rfl dC _ _ _ rfl (hrow.alloc _) ⟨wm.heap.size,0,none⟩ 1 1 [.string y] rfl rfl (cell_one_new _ _ _) (fun x hx=>by simp at hx;subst hx;rfl) (by unfold maxLen;omega) oM (by simp;omega) ?_;intro v' w3 hown hgrow hnil
          have HO:=zH hown;have HG:=zH hgrow;clear hown hgrow hnil)
        go_roundw
        case rel=>exact⟨k+1,d++[c],[],by go_num,rfl,my HLO.out (by first|rfl|(simp;omega)),H.out.seamNew hc HX.out HIN.out HMAP.out HGM.out (by rw[HY.out];exact HO.out) HG.out⟩
        case measure=>simp[intOf];omega
     ·rw[hin]at hlk
      have HIN:=zH hin;clear hin;cases hlong:d.any dW
      all_goals
       have HLO:=zH hlong;clear hlong
       by_cases h8:8<y.size
       all_goals
        go_wp2_with fail;go_roundw
        case rel=>exact⟨k+1,d++[c],[],by go_num,rfl,my HLO.out (by first|rfl|(simp;omega)),H.out.seamOld hc HX.out HIN.out⟩
        case measure=>simp[intOf];omega
   ·have e1:((s[k].toNat:Int) == 43)=false:=by
     have:s[k].toNat≠43:=fun e=>h43 (UInt8.toNat_inj.1 e)
     simp;omega
    by_cases hlow:97≤s[k].toNat∧s[k].toNat≤122
    ·obtain⟨l1,l2⟩:=hlow
     have HM:=zH (H.out.more hbyte l1 l2);have HTX:=zH (CZ s c k hk);have hcs:=av c;clear hbyte h43;go_wp2_with fail;go_roundw
     case rel=>exact⟨k+1,d,_,by go_num,by rw[HTX.out],rfl,HM.out⟩
     case measure=>simp[intOf];omega
    ·have h3:=zH (iB H0.out (Fg hbyte h43 hlow))
     have HB:=zH H.out.below;clear hbyte h43
     by_cases hl:97≤s[k].toNat
     ·have hl2:122<s[k].toNat:=by omega
      go_wp2_with fail;go_ret2;exact⟨_,by rw[h3.out];rfl,.inl ⟨rfl,dv (by rw[h3.out];decide)⟩,HB.out⟩
     ·have hl2:s[k].toNat<97:=by omega
      go_wp2_with fail;go_ret2;exact⟨_,by rw[h3.out];rfl,.inl ⟨rfl,dv (by rw[h3.out];decide)⟩,HB.out⟩
  ·by_cases hk1:k=s.size
   ·have e0:((k:Int) == (s.size:Int))=true:=by simp;omega
    have HX:=zH (show k=s.data.toList.length∨s.data.toList[k]?=some 43 from .inl (by rw[aq];exact hk1));have HK:=zH hk1;have hk2:k≤s.size:=by omega
    have hk3:s.size≤k:=by omega
    clear hk1 hk
    by_cases hc:c=[]
    ·subst hc
     rw[show ah []=(⟨#[]⟩:ByteArray)from rfl];have h3:=zH (iB H0.out (it.empty (H.out.front (by rw[aq];omega)) HX.out));have HB:=zH H.out.below;go_wp2_with fail;go_ret2;exact⟨_,by rw[h3.out];rfl,.inl ⟨rfl,dv (by rw[h3.out];decide)⟩,HB.out⟩
    ·have hce:(ah c).toList.isEmpty=false:=by rw[bn];simpa using hc
     have hcs:=av c;have hlk:=H.out.map.look underlying188 underlying9 underlying4 (by rfl) c (by unfold maxLen;omega);generalize hy:ah c=y at*;have HY:=zH hy;clear hy;cases hin:d.contains c
     ·obtain⟨wm,hput,hmap,hgm⟩:=H.out.map.put (T:=188) underlying188 underlying9 underlying4 (by unfold maxLen;omega) c (by unfold maxLen;omega) true
      rw[HY.out]at hput;rw[hin]at hlk;have HIN:=zH hin;have HMAP:=zH hmap;have HGM:=zH hgm;have hrow:=H.out.row.kept hgm (.inr H.out.ne);have hfl:=(fZ _ d rfl).2.2;have hB2:=(H.out.wm_below hgm).size;clear hin hmap hgm;cases hlong:d.any dW
      all_goals
       have HLO:=zH hlong;clear hlong
       by_cases h8:8<y.size
       all_goals
        go_wp2_with
         (at_builtin;refine wpList_append_own _ rfl _ _ 34 rfl W.heap.size 9 i0 (.string ByteArray.empty) 1 16 underlying34 hi hz0 hz1 hz2 rfl dC _ _ _ rfl (hrow.alloc _) ⟨wm.heap.size,0,none⟩ 1 1 [.string y] rfl rfl (cell_one_new _ _ _) (fun x hx=>by simp at hx;subst hx;rfl) (by unfold maxLen;omega) oM (by simp;omega) ?_;intro v' w3 hown hgrow hnil
          have HO:=zH hown;have HG:=zH hgrow;clear hown hgrow hnil)
        go_roundw
        case rel=>exact⟨k+1,d++[c],[],by go_num,rfl,my HLO.out (by first|rfl|(simp;omega)),H.out.seamNew hc HX.out HIN.out HMAP.out HGM.out (by rw[HY.out];exact HO.out) HG.out⟩
        case measure=>simp[intOf];omega
     ·rw[hin]at hlk
      have HIN:=zH hin;clear hin;cases hlong:d.any dW
      all_goals
       have HLO:=zH hlong;clear hlong
       by_cases h8:8<y.size
       all_goals
        go_wp2_with fail;go_roundw
        case rel=>exact⟨k+1,d++[c],[],by go_num,rfl,my HLO.out (by first|rfl|(simp;omega)),H.out.seamOld hc HX.out HIN.out⟩
        case measure=>simp[intOf];omega
   ·have hd:=H.out.done (by rw[aq];omega)
    have hp:=hd.1;have hfs:=fZ _ d rfl
    have hne:ef d≠ []:=by
     intro e
     have:parts 43 s.data.toList=[]:=by
      rw[hp];rcases d with _|⟨x,r⟩
      ·rfl
      ·have:=(hfs.2.1 x).2 (by simp)
       rw[e]at this;simp at this
     exact fk 43 _ this
    have hrow:=ir H.out.row hne;have hlen:=DY hfs.1 hfs.2.1
    have hany:(j1 d).any dW=d.any dW:=by
     rw[Bool.eq_iff_iff,List.any_eq_true,List.any_eq_true];exact⟨fun⟨x,a,b⟩=>⟨x,nO.1 a,b⟩,fun⟨x,a,b⟩=>⟨x,nO.2 a,b⟩⟩
    have hsz:=hfs.2.2;have HS:=zH (wI hrow H.out.below H.out.below.size oM);have HB:=zH H.out.below;obtain⟨g,cap,ev,_⟩:=hrow;have HALL:=zH hd.2;have HP:=zH hp;have HLEN:=zH hlen;have HANY:=zH hany;have HSU:=zH (ut hfs.1 hfs.2.1);clear hd hp hfs hlen hany hne hsz;subst ev;cases hlong:d.any dW
    ·by_cases h5:5<(ef d).length
     ·have h4:=zH (iU H0.out HALL.out (.inl (by rw[HP.out,←HLEN.out];exact h5)))
      go_wp2_with fail;go_ret2;exact⟨_,by rw[h4.out];rfl,.inl ⟨rfl,dv (by rw[h4.out];decide)⟩,HB.out⟩
     ·have hf:=zH (pJ H0.out HALL.out (by rw[HP.out,←HLEN.out];exact h5) (by rw[HP.out,HANY.out];exact hlong))
      go_wp2_with
       (go_at_call 144;refine HS.out.mono ?_;rintro e w2 ⟨rfl,hr,hb⟩
        have HR:=zH hr;have HB2:=zH hb;clear hr hb)
      go_ret2;exact⟨_,by rw[hf.out.1];rfl,.inr (by rw[hf.out.2,HP.out,←HSU.out];exact HR.out),HB2.out⟩
    ·have h4:=zH (iU H0.out HALL.out (.inr (by rw[HP.out,HANY.out];exact hlong)))
     go_wp2_with fail;go_ret2;exact⟨_,by rw[h4.out];rfl,.inl ⟨rfl,dv (by rw[h4.out];decide)⟩,HB.out⟩
theorem o0 (s:ByteArray) (W:World) (hs:s.size≤5000):Calls prog 94 #[.string s] W (yE s W):=by
 by_cases h0:s.data.toList=[]
 ·obtain rfl:s=⟨#[]⟩:=by rw[←bJ s,h0];rfl
  exact sY W
 ·exact sE s W hs h0
end Go.Proofs.YtepjcdjpikbbjaaGreatDoor
