/-
  word, by the program and by the reference; strings.Join of ten new words; what is known while an event is written.
-/
import Derived.Test.YtepjcdjpikbbjaaGreatDoorU00
import Derived.Test.YtepjcdjpikbbjaaGreatDoorU12
import Derived.Test.YtepjcdjpikbbjaaGreatDoorU11
import Derived.Test.YtepjcdjpikbbjaaGreatDoorU05
import Derived.Deep.RegionHeld3
set_option maxHeartbeats 8000000
set_option maxRecDepth 100000
namespace Go.Proofs.YtepjcdjpikbbjaaGreatDoor
open Go.Proofs.Tryz
open Go.RowKit Go.Sort
theorem up (s:ByteArray):s.toList.isEmpty=true→ah (du s.data.toList)=⟨#[95]⟩:=by
 intro h;rw[hC,decide_eq_true_eq]at h;rw[h];rfl
theorem ri (s:ByteArray):s.toList.isEmpty=false→ah (du s.data.toList)=s:=by
 intro h;rw[hC,decide_eq_false_iff_not]at h;unfold du;rw[if_neg h,bJ]
theorem Al (s:ByteArray) (w:World):Calls prog 227 #[.string s] w fun e w'=>e=.returned (.string (ah (du s.data.toList)))∧w=w':=by
 cases h:s.toList.isEmpty
 ·have H:=zH (ri s h)
  go_enter Tryz.func227,Tryz.ntmps227;go_wp2_with fail;go_ret;exact⟨by rw[H.out];rfl,rfl⟩
 ·have H:=zH (up s h)
  go_enter Tryz.func227,Tryz.ntmps227;go_wp2_with fail;go_ret;exact⟨by rw[H.out];rfl,rfl⟩
theorem rQ (s:ByteArray) (w:World):Calls prog 47 #[.string s] w fun e w'=>e=.returned (.string (ah (du s.data.toList)))∧w=w':=by
 cases h:s.toList.isEmpty
 ·have H:=zH (ri s h)
  go_enter Tryz.func47,Tryz.ntmps47;go_wp2_with fail;go_ret;exact⟨by rw[H.out];rfl,rfl⟩
 ·have H:=zH (up s h)
  go_enter Tryz.func47,Tryz.ntmps47;go_wp2_with fail;go_ret;exact⟨by rw[H.out];rfl,rfl⟩
theorem jB (c:UInt8) (n:Nat): ∀ ws:List (List UInt8),(∀ w∈ws,w.length≤n)→(bM c ws).length≤(n+1)*ws.length
 |[],_=>by simp[bM]
 |[w],h=>by have:=h w (by simp);simp[bM];omega
 |w::v::r,h=>by
  have:=h w (by simp);have ih:=jB c n (v::r) fun x hx=>h x (List.mem_cons_of_mem _ hx)
  rw[bM];simp only[List.length_append,List.length_cons,Nat.mul_add]at ih ⊢;omega
theorem Fh (c:UInt8) (w:World) (L:List (List UInt8)) (hL:L.length≤100) (hw: ∀ x∈L,x.length≤900):
  Calls prog 50 #[.slice (some ⟨w.heap.size,0,none⟩) L.length L.length,.string ⟨#[c]⟩] (w.alloc (.cells (L.map encStr).toArray 9)) fun e w'=>e=.returned (.string (ah (bM c L)))∧Below (w.alloc (.cells (L.map encStr).toArray 9)).heap.size (w.alloc (.cells (L.map encStr).toArray 9)) w':=by
 have hg:=jB c 900 L hw;exact lq c (gi.new (w:=w) (L:=L) (Nat.le_refl _) (by unfold maxLen;omega)) oM oM
theorem oF (s:ByteArray):encStr s.data.toList=.string s:=by unfold encStr;congr 1
theorem De (w:World) (a b c d e f g h i j:ByteArray) (z:a.size≤900∧b.size≤900∧c.size≤900∧d.size≤900∧e.size≤900∧f.size≤900∧g.size≤900∧h.size≤900∧i.size≤900∧j.size≤900):
  Calls prog 50 #[.slice (some ⟨w.heap.size,0,none⟩) 10 10,.string ⟨#[32]⟩] (w.alloc (.cells #[.string a,.string b,.string c,.string d,.string e,.string f,.string g,.string h,.string i,.string j] 9))
   fun x w'=>x=.returned (.string (ah (bM 32 [a.data.toList,b.data.toList,c.data.toList,d.data.toList,e.data.toList,f.data.toList,g.data.toList,h.data.toList,i.data.toList,j.data.toList])))∧Below (w.alloc (.cells #[.string a,.string b,.string c,.string d,.string e,.string f,.string g,.string h,.string i,.string j] 9)).heap.size (w.alloc (.cells #[.string a,.string b,.string c,.string d,.string e,.string f,.string g,.string h,.string i,.string j] 9)) w':=by
 have hj:=Fh 32 w [a.data.toList,b.data.toList,c.data.toList,d.data.toList,e.data.toList,f.data.toList,g.data.toList,h.data.toList,i.data.toList,j.data.toList] (show 10≤100 by decide) (by
  intro x hx;simp only[List.mem_cons,List.not_mem_nil,or_false]at hx;rcases hx with rfl|rfl|rfl|rfl|rfl|rfl|rfl|rfl|rfl|rfl
  all_goals rw[aq];omega)
 simp only[List.map_cons,List.map_nil,oF]at hj;exact hj
structure WB (W w:World):Prop where
 below:Below W.heap.size W w
 tens:bH w
 maxl:dt w
theorem WB.keep {W w w':World} (h:WB W w) (hb:Below w.heap.size w w'):WB W w':=⟨ae h.below hb,h.tens.below hb h.tens.lt,h.maxl.below' hb⟩
theorem WB.drew {W w:World} (h:WB W w):WB W w.drew:=⟨⟨h.below.os,h.below.tape,h.below.output,h.below.size,h.below.block⟩,h.tens,h.maxl⟩
theorem lm {W w w':World} {g:Nat} {v0 v1 v2 v3 v4 v5 v6 v7:Value} (h0:w.cell? ⟨g,0,none⟩=some v0) (h1:w.cell? ⟨g,1,none⟩=some v1) (h2:w.cell? ⟨g,2,none⟩=some v2) (h3:w.cell? ⟨g,3,none⟩=some v3)
  (h4:w.cell? ⟨g,4,none⟩=some v4) (h5:w.cell? ⟨g,5,none⟩=some v5) (h6:w.cell? ⟨g,6,none⟩=some v6) (h7:w.cell? ⟨g,7,none⟩=some v7) (hW:WB W w) (hb:Below w.heap.size w w'):
  w'.cell? ⟨g,0,none⟩=some v0∧w'.cell? ⟨g,1,none⟩=some v1∧w'.cell? ⟨g,2,none⟩=some v2∧w'.cell? ⟨g,3,none⟩=some v3∧w'.cell? ⟨g,4,none⟩=some v4∧w'.cell? ⟨g,5,none⟩=some v5∧w'.cell? ⟨g,6,none⟩=some v6∧w'.cell? ⟨g,7,none⟩=some v7∧WB W w':=by
 have hlt:g<w.heap.size:=World.block_lt_of_cell? w _ h0;refine⟨?_,?_,?_,?_,?_,?_,?_,?_,hW.keep hb⟩
 ·rw[hb.cell (p:=⟨g,0,none⟩) hlt];exact h0
 ·rw[hb.cell (p:=⟨g,1,none⟩) hlt];exact h1
 ·rw[hb.cell (p:=⟨g,2,none⟩) hlt];exact h2
 ·rw[hb.cell (p:=⟨g,3,none⟩) hlt];exact h3
 ·rw[hb.cell (p:=⟨g,4,none⟩) hlt];exact h4
 ·rw[hb.cell (p:=⟨g,5,none⟩) hlt];exact h5
 ·rw[hb.cell (p:=⟨g,6,none⟩) hlt];exact h6
 ·rw[hb.cell (p:=⟨g,7,none⟩) hlt];exact h7
structure EW (T:TypeId) (W:World) (e:Ev) (w:World):Prop where
 wb:WB W w
 ev:aj w W.heap.size T (ax e)
theorem EW.keep {T:TypeId} {W w w':World} {e:Ev} (h:EW T W e w) (hb:Below w.heap.size w w'):EW T W e w':=⟨h.wb.keep hb,h.ev.below' hb⟩
theorem WB.alloc {W w:World} (h:WB W w) (o:Obj):WB W (w.alloc o):=h.keep ((Below.refl _ _).alloc (Nat.le_refl _) o)
theorem EW.start {T:TypeId} {W:World} (h:WB W W) (e:Ev):EW T W e (W.alloc (.cells (ax e) T)):=⟨h.alloc _,aj.new W T _⟩
theorem WB.self {W w:World} (h:WB W w):WB w w:=⟨Below.refl _ _,h.tens,h.maxl⟩
theorem CX (e:Ev) (W:World) (hs:e.fam.short 5000) (h:WB W W) (hn:dp e=false):
  Calls prog 186 #[aE e] W fun x w'=>x=.returned (.tuple #[.string ⟨#[]⟩,.iface 57 (.int .i64 1)])∧Below W.heap.size W w':=by
 have HR:=zH (fun w (hm:dt w)=>jv e w hs hm);rw[hn]at HR;have H0:=zH (EW.start (T:=116) h e);obtain⟨k,⟨i,cl,su,sc,ge,ma,us,re,de⟩,id,ti⟩:=e;clear hs hn h;unfold aE ax at*;dsimp only at*;go_enter Tryz.func186,Tryz.ntmps186;go_wp2_with fail;go_at_call 159;refine(HR.out _ H0.out.wb.maxl).mono ?_;rintro x w1 ⟨rfl,hb⟩;have H1:=zH (H0.out.keep hb);clear hb;go_wp2_with fail;go_ret2;exact⟨rfl,H1.out.wb.below⟩
theorem I6 (a b:UInt8) (x:ByteArray) (hx:x.size≤900) (w:World):(Op.stringOp .add ⟨#[a,b]⟩ x).run prog w=.ok (.string (⟨#[a,b]⟩++x)) w:=
 run_string_add_sum w _ _ (by show 2+x.size≤_;omega)
theorem Hy {e:Ev} (h:e.kind=2):(⟨#[100,32]⟩:ByteArray)++aL e.id=ah (iy e):=by
 unfold iy;rw[yf h]
 show ah [100,32]++ah (Lib.itoa e.id)=_
 rw[gD];rfl
theorem Hl {e:Ev} (h:e.kind=3):(⟨#[99,32]⟩:ByteArray)++aL e.time=ah (iy e):=by
 unfold iy;rw[t6 h]
 show ah [99,32]++ah (Lib.itoa e.time)=_
 rw[gD];rfl
theorem j0 {x:Int} (h:ba x=true):(aL x).size≤900:=by
 have:=cY x h;omega
theorem ud (e:Ev) (W:World) (hs:e.fam.short 5000) (h:WB W W) (hy:dp e=true) (hk:e.kind=2∨e.kind=3):
  Calls prog 186 #[aE e] W fun x w'=>x=.returned (.tuple #[.string (ah (iy e)),.nilIface])∧Below W.heap.size W w':=by
 have HR:=zH (fun w (hm:dt w)=>jv e w hs hm);rw[hy]at HR;have H0:=zH (EW.start (T:=116) h e);have hc:=eV hy;rcases hk with hk|hk
 ·have hn:ba e.id=true:=by
   rcases hc with⟨h1,_⟩|⟨_,_,_,h2⟩|⟨h1,_⟩
   ·omega
   ·exact h2
   ·omega
  have HL:=zH (Hy hk);have hz:=j0 hn;have HI:=zH (fun w hT=>hU e.id hn w hT);generalize ah (iy e)=line at*;obtain⟨k,⟨i,cl,su,sc,ge,ma,us,re,de⟩,id,ti⟩:=e;dsimp only at hk;subst hk;clear hs hy h hc hn;unfold aE ax at*;dsimp only at*;have ha:=I6 100 32 _ hz;generalize aL id=y at*;go_enter Tryz.func186,Tryz.ntmps186;go_wp2_with fail;go_at_call 159;refine(HR.out _ H0.out.wb.maxl).mono ?_;rintro x w1 ⟨rfl,hb⟩;have H1:=zH (H0.out.keep hb);clear hb;obtain⟨c0,c1,c2,c3,c4,c5,c6,c7,c8,c9,c10,c11⟩:=bg H1.out.ev;go_wp2_with fail;go_at_call 26;refine(HI.out _ H1.out.wb.tens).mono ?_;rintro x w2 ⟨rfl,hb⟩;have H2:=zH (H1.out.keep hb);clear hb;go_wp2_with fail;go_ret2;exact⟨by rw[←HL.out];rfl,H2.out.wb.below⟩
 ·have hn:ba e.time=true:=by
   rcases hc with⟨h1,_⟩|⟨h1,_⟩|⟨_,_,_,h2⟩
   ·omega
   ·omega
   ·exact h2
  have HL:=zH (Hl hk);have hz:=j0 hn;have HI:=zH (fun w hT=>hU e.time hn w hT);generalize ah (iy e)=line at*;obtain⟨k,⟨i,cl,su,sc,ge,ma,us,re,de⟩,id,ti⟩:=e;dsimp only at hk;subst hk;clear hs hy h hc hn;unfold aE ax at*;dsimp only at*;have ha:=I6 99 32 _ hz;generalize aL ti=y at*;go_enter Tryz.func186,Tryz.ntmps186;go_wp2_with fail;go_at_call 159;refine(HR.out _ H0.out.wb.maxl).mono ?_;rintro x w1 ⟨rfl,hb⟩;have H1:=zH (H0.out.keep hb);clear hb;obtain⟨c0,c1,c2,c3,c4,c5,c6,c7,c8,c9,c10,c11⟩:=bg H1.out.ev;go_wp2_with fail;go_at_call 26;refine(HI.out _ H1.out.wb.tens).mono ?_;rintro x w2 ⟨rfl,hb⟩;have H2:=zH (H1.out.keep hb);clear hb;go_wp2_with fail;go_ret2;exact⟨by rw[←HL.out];rfl,H2.out.wb.below⟩
theorem zv (k:Nat):(Builtin.zeroCells (Value.agg (af an.zero)).cells k).size=k*9:=by
 simp[Builtin.zeroCells,Value.cells,af]
theorem yM {L:List an} {f:an} {zs:List Value} {i G:Nat} (hz:zs.length=(G - i)*9) (hi:i≤L.length) (hG:L.length+1≤G):
  let r0:=aH (L.take i)++zs
  let r1:=r0.take (i*9)++(af f).toList++r0.drop (i*9+(af f).toList.length)
  let r2:=r1.take ((i+1)*9)++aH (L.drop i)++r1.drop ((i+1)*9+(aH (L.drop i)).length)
  r0.length=G*9∧r1.length=G*9∧r2.length=G*9∧r2.take ((L.length+1)*9)=aH (L.take i++f::L.drop i):=by
 intro r0 r1 r2;have hd:(aH (L.drop i)).length=(L.length - i)*9:=by rw[bI,List.length_drop]
 have ht:(aH (L.take i)).length=i*9:=by rw[bI,List.length_take];congr 1;omega
 have hf:(af f).toList.length=9:=rfl
 have h0:r0.length=G*9:=by
  show(aH (L.take i)++zs).length=_
  rw[List.length_append,ht,hz];omega
 have e1:r1=aH (L.take i)++(af f).toList++r0.drop (i*9+9):=by
  show r0.take (i*9)++(af f).toList++r0.drop (i*9+(af f).toList.length)=_
  rw[hf]
  congr 2
  show(aH (L.take i)++zs).take (i*9)=_
  rw[←ht,List.take_left]
 have h1:r1.length=G*9:=by
  rw[e1,List.length_append,List.length_append,List.length_drop,ht,hf,h0];omega
 have e2:r1.take ((i+1)*9)=aH (L.take i)++(af f).toList:=by
  have hl:(aH (L.take i)++(af f).toList).length=(i+1)*9:=by rw[List.length_append,ht,hf];omega
  rw[e1,←hl,List.take_left]
 have e3:r2=aH (L.take i)++(af f).toList++aH (L.drop i)++r1.drop ((i+1)*9+(aH (L.drop i)).length):=by
  show r1.take ((i+1)*9)++aH (L.drop i)++r1.drop ((i+1)*9+(aH (L.drop i)).length)=_
  rw[e2]
 refine⟨h0,h1,?_,?_⟩
 ·rw[e3]
  simp only[List.length_append,List.length_drop,ht,hf,hd,h1];omega
 ·have e:aH (L.take i++f::L.drop i)=aH (L.take i)++(af f).toList++aH (L.drop i):=by
   rw[j2,fR,List.append_assoc]
  have hl:(aH (L.take i)++(af f).toList++aH (L.drop i)).length=(L.length+1)*9:=by
   simp only[List.length_append,ht,hf,hd];omega
  rw[e3,e,←hl,List.take_left]
theorem pW (B g cap vb i:Nat) (cur:Array Value) (L:List an) (f:an) (w:World) (hi:i<L.length) (hb:aj w g 95 cur) (hcap:cap<L.length+1) (hlc:L.length≤cap) (hm:cap≤9223372036854775807)
  (ht:cur.toList.take (L.length*9)=aH L) (hL:L.length≤1000000) (hv:aj w vb 95 (af f)) (hBw:B≤w.heap.size):
  Calls prog 113 #[.slice (some ⟨g,0,none⟩) L.length cap,.int .i64 i,.slice (some ⟨vb,0,none⟩) 1 1] w fun e w'=> ∃ v',e=.returned v'∧aD w' B v' (L.take i++f::L.drop i)∧w.grownBy w' (some g):=by
 obtain⟨i0,hi0,hz0,hzs,hzb⟩:=info_parts kO;have hgw:=hb.lt;have hvw:=hv.lt;have hd:(aH (L.drop i)).length=(L.length - i)*9:=by rw[bI,List.length_drop]
 have htl:(aH (L.take i)).length=i*9:=by rw[bI,List.length_take];congr 1;omega
 have hkk:(L.length:Int)+1 - (i:Int)=((L.length+1 - i:Nat):Int):=by omega
 have hik:i+(L.length+1 - i)=L.length+1:=by omega
 have hcell: ∀ j u,(aH L)[j]?=some u→w.cell? ⟨g,j,none⟩=some u:=by
  intro j u hj;rw[hb.cell,←hj,←ht,List.getElem?_take,if_pos (by have:=(List.getElem?_eq_some_iff.1 hj).1;rw[bI]at this;exact this),Array.getElem?_toList]
 have hold:(Builtin.firstCells i0.size i (.slice (some ⟨g,0,none⟩) i cap)).run prog w.drew=.ok (aH (L.take i)).toArray w.drew:=by
  rw[hzs]
  exact run_firstCells_some w.drew 9 i ⟨g,0,none⟩ i cap (aH (L.take i)) htl (fun j u hj=>by
   rw[Addr.add_lit,Nat.zero_add]
   show w.cell? ⟨g,j,none⟩=some u
   rw[mi,List.getElem?_take]at hj;split at hj
   ·exact hcell j u hj
   ·cases hj)
 obtain⟨G,hG⟩: ∃ G,G=grownCap w (L.length+1) cap 95:=⟨_,rfl⟩;obtain⟨ROW,hROW⟩: ∃ ROW:Array Value,ROW=(aH (L.take i)).toArray++Builtin.zeroCells (Value.agg (af an.zero)).cells (L.length+1 - i)++Builtin.zeroCells (Value.agg (af an.zero)).cells (G - (L.length+1)):=⟨_,rfl⟩
 have hrz: ∀ ty,(Builtin.append_ #[81,3] ty #[.slice (some ⟨g,0,none⟩) i cap,.int .i64 ((L.length:Int)+1 - (i:Int))]).run prog w=
   .ok (.slice (some ⟨w.heap.size,0,none⟩) (L.length+1) G) (w.drew.alloc (.cells ROW 95)):=fun ty=>by
  have h:=Lib.run_append_grow_zeros w 81 3 ty 95 i0 _ .i64 .i64 underlying81 underlying3 hi0 hz0 (some ⟨g,0,none⟩) i cap (aH (L.take i)) hold (L.length+1 - i) oM oM oM oM (by rw[hzb];omega) (by rw[hzb,hik];exact growslice_fits hcap oM);rw[hik,←hG]at h;rw[hkk,hROW];exact h
 have hGn:L.length+1≤G:=by rw[hG];exact grownCap_ge w _ _ _
 have hG63:G≤9223372036854775807:=by
  have:=grownCap_le_maxLen w (L.length+1) cap 95 (by unfold maxLen;omega);rw[←hG]at this;unfold maxLen at this;omega
 obtain⟨zs,hzs1,hzs2⟩: ∃ zs:List Value,ROW.toList=aH (L.take i)++zs∧zs.length=(G - i)*9:=
  ⟨(Builtin.zeroCells (Value.agg (af an.zero)).cells (L.length+1 - i)).toList++(Builtin.zeroCells (Value.agg (af an.zero)).cells (G - (L.length+1))).toList,by rw[hROW];simp,by
    simp only[List.length_append,Array.length_toList,zv];omega⟩
 obtain⟨q0,q1,q2,q3⟩:=yM (f:=f) hzs2 (Nat.le_of_lt hi) hGn;rw[←hzs1]at q0 q1 q2 q3;obtain⟨R1,hR1⟩: ∃ R1:Array Value,R1=(ROW.toList.take (i*9)++(af f).toList++ROW.toList.drop (i*9+(af f).toList.length)).toArray:=⟨_,rfl⟩;have hR1l:R1.toList=ROW.toList.take (i*9)++(af f).toList++ROW.toList.drop (i*9+(af f).toList.length):=by rw[hR1]
 rw[←hR1l]at q1 q2 q3;obtain⟨R2,hR2⟩: ∃ R2:Array Value,R2=(R1.toList.take ((i+1)*9)++aH (L.drop i)++R1.toList.drop ((i+1)*9+(aH (L.drop i)).length)).toArray:=⟨_,rfl⟩;have hR2l:R2.toList=R1.toList.take ((i+1)*9)++aH (L.drop i)++R1.toList.drop ((i+1)*9+(aH (L.drop i)).length):=by rw[hR2]
 rw[←hR2l]at q2 q3
 have hcpA: ∀ W,aj W w.heap.size 95 ROW→aj W vb 95 (af f)→ ∀ ty dc,(Builtin.copy_ #[81,81] ty #[.slice (some ⟨w.heap.size,i*9,none⟩) (L.length+1 - i) dc,.slice (some ⟨vb,0,none⟩) 1 1]).run prog W=.ok (goInt (1:Nat)) (W.setRow w.heap.size R1):=fun W h1 h2 ty dc=>by
  rw[hR1];exact iT W ty w.heap.size _ _ _ _ _ _ 1 ROW _ h1 (by simp only[Nat.min_def];split<;>omega) rfl (fun j u hj=>by rw[Addr.add_lit,Nat.zero_add,h2.cell,←Array.getElem?_toList,hj]) (by rw[←Array.length_toList,q0];show i*9+9≤_;omega) (fun v hv=>dO (L:=[f]) (by simpa[aH]using hv))
 have hcpB: ∀ W,aj W w.heap.size 95 R1→aj W g 95 cur→ ∀ ty,(Builtin.copy_ #[81,81] ty #[.slice (some ⟨w.heap.size,(i+1)*9,none⟩) (L.length - i) (G - (i+1)),.slice (some ⟨g,i*9,none⟩) (L.length - i) (cap - i)]).run prog W=.ok (goInt (L.length - i:Nat)) (W.setRow w.heap.size R2):=fun W h1 h2 ty=>by
  rw[hR2]
  exact iT W ty w.heap.size _ _ _ _ _ _ (L.length - i) R1 _ h1 (by simp only[Nat.min_def];split<;>omega) hd (fun j u hj=>by
   rw[Addr.add_lit,h2.cell];have hjl:=(List.getElem?_eq_some_iff.1 hj).1;rw[←hj,l9,List.getElem?_drop,←ht,List.getElem?_take,if_pos oM,Array.getElem?_toList]) (by rw[←Array.length_toList,q1,hd];omega) (fun v hv=>dO hv)
 have hlen:(L.take i++f::L.drop i).length=L.length+1:=by simp;omega
 have hR2s:R2.size=G*9:=by rw[←Array.length_toList];exact q2
 have HFIN:=zH (fun(W:World) (h1:aj W w.heap.size 95 R2)=>(aD.of_block hBw h1 oM hG63 hR2s (by rw[hlen];exact q3):aD W B (.slice (some ⟨w.heap.size,0,none⟩) (L.take i++f::L.drop i).length G) (L.take i++f::L.drop i)));rw[hlen]at HFIN;have hcA:=fun ty dc=>hcpA ((w.alloc (.cells ROW 95)).drew) (aj.new w _ _).drew (hv.alloc _).drew ty dc
 obtain⟨W1,hW1⟩: ∃ W1,W1=(w.alloc (.cells ROW 95)).drew.setRow w.heap.size R1:=⟨_,rfl⟩;rw[←hW1]at hcA;have hb1:aj W1 w.heap.size 95 R1:=by rw[hW1];exact(aj.new w _ _).drew.row
 have hg1:aj W1 g 95 cur:=by rw[hW1];exact(hb.alloc _).drew.grown (dF _ _ _) (by simp;omega)
 have hl1:Below w.heap.size w W1:=by
  rw[hW1];have b1:Below w.heap.size w (w.alloc (.cells ROW 95)).drew:=aF ((Below.refl w.heap.size w).alloc (Nat.le_refl _) _) 1;exact b1.grown (dF _ _ _) (by simp) (fun j hj=>by cases hj;exact Nat.le_refl _)
 have hcB:=fun ty=>hcpB W1.drew hb1.drew hg1.drew ty
 have HEND:=zH (show aD (W1.drew.setRow w.heap.size R2) B (.slice (some ⟨w.heap.size,0,none⟩) (L.length+1) G) (L.take i++f::L.drop i)∧w.grownBy (W1.drew.setRow w.heap.size R2) (some g)from
  ⟨HFIN.out _ hb1.drew.row,aG ((aF hl1 1).grown (dF _ _ _) (by have:=hl1.size;simp;omega) (fun j hj=>by cases hj;exact Nat.le_refl _)) _⟩)
 have HW1:=zH hW1;have hGi: ¬ (G=i):=by omega
 have hGim: ¬ (G=i+1):=by omega
 have hci: ¬ (cap=i):=by omega
 have hw1:IntKind.i64.wrap ((i:Int)+1)=(i:Int)+1:=by rw[IntKind.wrap_i64];omega
 have hz1:(0:Int)≤(i:Int)+1:=by omega
 have htn:((i:Int)+1).toNat=i+1:=by omega
 have hin:i≤L.length:=by omega
 have hz3:(cap:Int)<(L.length:Int)+1:=by omega
 have hz2: ¬ ((i:Int)=(L.length:Int)):=by omega
 have mixed:prog.follows .mixedOrders=true:=kR;clear HFIN hW1 hb1 hg1 hl1 hR2s hcpA hcpB hv hb q0 q1 q2 q3 hR1 hR1l hR2 hR2l hzs1 hzs2 hROW hG hold hcell htl hkk hik ht hd hlen;go_enter Tryz.func113,Tryz.ntmps113
 go_wp2_with
  (first
  |(at_builtin;refine Lib.wpList_append_run _ rfl _ _ _ _ rfl _ _ rfl rfl _ _ (hrz _) ?_)
  |(at_builtin;refine wpList_copy_runI _ rfl _ _ 81 81 rfl _ _ rfl rfl (hcA _ _) ?_))
 go_region_law_o (refine step_copy_runI rfl _ _ 81 81 rfl _ _ (by simp[Act.eval,Act.put]) (by simp[Act.eval,Act.put]) (hcB _) ?_)
 go_wp2
 go_ret;exact⟨_,rfl,HEND.out.1,HEND.out.2⟩
theorem zx (B vb k:Nat) (v:Value) (L:List an) (f:an) (w:World) (h:aD w B v L) (hk:k≤L.length) (hL:L.length≤1000000) (hB:B≤w.heap.size) (hv:aj w vb 95 (af f)) (hne:v.ownBlock≠some vb):
  Calls prog 113 #[v,.int .i64 k,.slice (some ⟨vb,0,none⟩) 1 1] w fun e w'=> ∃ v',e=.returned v'∧aD w' B v' (L.take k++f::L.drop k)∧w.grownBy w' v.ownBlock:=by
 by_cases he:k=L.length
 ·subst he
  rw[List.take_length,List.drop_length];exact sr B vb v L f w h hL hB hv
 ·rcases h.block with⟨rfl,rfl⟩|⟨g,cap,cur,rfl,h1,h2,h3,h4,h5,h6⟩
  ·simp at hk he
   exact absurd hk he
  ·by_cases hc:L.length+1≤cap
   ·exact pY B g cap vb k cur L f w oM h2 hc h4 h5 h6 h1 hL hv (by rintro rfl;exact hne rfl)
   ·exact pW B g cap vb k cur L f w oM h2 oM h3 h4 h6 hL hv hB
end Go.Proofs.YtepjcdjpikbbjaaGreatDoor
