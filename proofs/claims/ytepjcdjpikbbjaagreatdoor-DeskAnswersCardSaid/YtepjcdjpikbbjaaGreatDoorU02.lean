/-
  A slice of bytes that the call itself made, also one out of a conversion (whose row bears a mark beyond its cells).
-/
import Derived.Test.YtepjcdjpikbbjaaGreatDoorU00
import Derived.Test.YtepjcdjpikbbjaaGreatDoorU01
import Derived.ArgAppend
import Derived.Lib.ConvBytes
import Derived.OwnWalk
import Derived.StillTailTactics
import Derived.RegionTactic
import Derived.Outline
import Derived.Deep.QuietTactic
import Derived.BigQuiet
import Derived.Deep.LoopGhost
import Derived.Laws.BitsAllLaws
import Derived.Laws.BitsLemmas
import Derived.IntWalk
set_option maxHeartbeats 1000000
set_option maxRecDepth 100000
namespace Go.Proofs.YtepjcdjpikbbjaaGreatDoor
open Go.Proofs.Tryz
open Go.RowKit
structure jm (w:World) (B g cap:Nat) (l:List UInt8):Prop where
 base:B≤g
 lt:g<w.heap.size
 le:l.length≤cap
 max:cap≤maxLen
 cells: ∀ j,j<cap→(w.cell? ⟨g,j,none⟩).isSome=true∧w.frozen? ⟨g,j,none⟩=false
 bytes: ∀ j (h:j<l.length),w.cell? ⟨g,j,none⟩=some (.int .u8 (l[j]).toNat)
def BS (w:World) (B:Nat) (v:Value) (l:List UInt8):Prop:= ∃ g cap,v=.slice (some ⟨g,0,none⟩) l.length cap∧jm w B g cap l
section
variable {w w':World} {B g cap:Nat} {v:Value} {l:List UInt8}
theorem jm.keep (h:jm w B g cap l) (hb:w'.heap[g]?=w.heap[g]?) (hs:w.heap.size≤w'.heap.size):jm w' B g cap l:=
 ⟨h.base,Nat.lt_of_lt_of_le h.lt hs,h.le,h.max,fun j hj=>by
   rw[World.cell?_of_block (w:=w) (a:=⟨g,j,none⟩) hb,World.frozen?_of_block (w:=w) (a:=⟨g,j,none⟩) hb];exact h.cells j hj,
  fun j hj=>by rw[World.cell?_of_block (w:=w) (a:=⟨g,j,none⟩) hb];exact h.bytes j hj⟩
theorem jm.below (h:jm w B g cap l) (hb:Below w.heap.size w w'):jm w' B g cap l:=h.keep (hb.block g h.lt) hb.size
theorem jm.alloc (h:jm w B g cap l) (o:Obj):jm (w.alloc o) B g cap l:=h.keep (Below.heap_alloc w o g h.lt) (by simp)
theorem jm.drewN (h:jm w B g cap l) (n:Nat):jm (w.drewN n) B g cap l:=h.keep rfl (Nat.le_refl _)
theorem jm.only {r:Option Nat} (h:jm w B g cap l) (hb:w.grownBy w' r) (hr:some g≠r):jm w' B g cap l:=h.keep (hb.block g h.lt hr) hb.size
theorem BS.alloc (h:BS w B v l) (o:Obj):BS (w.alloc o) B v l:=by
 obtain⟨g,cap,hv,h⟩:=h;exact⟨g,cap,hv,h.alloc o⟩
theorem jm.bs (h:jm w B g cap l) (n:Nat) (hn:n=l.length):BS w B (.slice (some ⟨g,0,none⟩) n cap) l:=⟨g,cap,by rw[hn],h⟩
theorem BS.conv (W:World) (e:TypeId) (s:ByteArray) (hs:s.size≤140737488355328):BS (Lib.bytesWorld W e s) W.heap.size (.slice (some ⟨W.heap.size,0,none⟩) s.size (grownCap W s.size 0 e)) s.data.toList:=by
 have hl:s.data.toList.length=s.size:=rfl;have hge:=grownCap_ge W s.size 0 e
 have hsz:(Lib.bytesCells W e s).size=grownCap W s.size 0 e:=by
  simp[Lib.bytesCells];have:s.data.size=s.size:=rfl;omega
 have hfr:=Lib.bytesWorld_at_new W e s;refine⟨W.heap.size,grownCap W s.size 0 e,by rw[hl],⟨Nat.le_refl _,by rw[Lib.bytesWorld_size];omega,by rw[hl];exact hge,grownCap_le_maxLen W s.size 0 e (by unfold maxLen;omega),?_,?_⟩⟩
 ·intro j hj
  refine⟨?_,?_⟩
  ·simp only[World.cell?,hfr]
   have:j<(Lib.bytesCells W e s).size:=by omega
   simp[this]
  ·simp only[World.frozen?,hfr]
   simp;omega
 ·intro j hj
  rw[Lib.bytesWorld_cell W e s j oM];rw[List.getD_eq_getElem?_getD,List.getElem?_eq_getElem hj];rfl
theorem yz (W:World) (e:TypeId) (s:ByteArray):Below W.heap.size W (Lib.bytesWorld W e s):=
 ⟨rfl,rfl,rfl,by rw[Lib.bytesWorld_size];omega,fun k hk=>Lib.bytesWorld_at_old W e s k hk⟩
theorem pV {P:Program} (t ty e:TypeId) (i:TypeInfo) (ht:P.underlying t=some (.slice e)) (hi:P.info? e=some i) (hz:i.zero=some (.int .u8 0)) (hsize:i.size=1) (hby:i.bytes=1)
  (h:BS w B v l) (ad:Addr) (c:Nat) (b:UInt8) (hb:w.cell? ad=some (.int .u8 b.toNat)) (hn:l.length+1≤140737488355328) (hB:B≤w.heap.size):
  ∃ v' w',(Builtin.append_ #[t,t] ty #[v,.slice (some ad) 1 c]).run P w=.ok v' w'∧BS w' B v' (l++[b])∧Below B w w':=by
 obtain⟨g,cap,rfl,h⟩:=h
 have hnews: ∀ j u,[Value.int .u8 (b.toNat:Int)][j]?=some u→w.cell? (ad.add j)=some u:=by
  intro j u hu;cases j with
  |zero=>simp at hu;subst hu;simpa[Addr.add]using hb
  |succ j=>simp at hu
 have h1: ∀ u∈[Value.int .u8 (b.toNat:Int)],u.oneCell'=true:=by intro u hu;simp at hu;subst hu;rfl
 by_cases hr:l.length+1≤cap
 ·have hrun:=run_append_room_cells (P:=P) (w:=w) t ty e i ht hi g 0 l.length cap ad 1 c [.int .u8 (b.toNat:Int)] (by simp[hsize]) hnews h1 hr
   (fun j hj=>by simp at hj;subst hj;simp[hsize];exact(h.cells l.length oM).1) (fun j hj=>by simp at hj;subst hj;simp[hsize];exact(h.cells l.length oM).2)
  rw[hsize]at hrun;simp only[Nat.zero_add,Nat.mul_one,World.setCells]at hrun;refine⟨_,_,hrun,⟨g,cap,by simp,⟨h.base,by simpa[World.setCell]using h.lt,by simpa using hr,h.max,?_,?_⟩⟩,(Below.refl B w).setCell h.base _⟩
  ·intro j hj
   have h2:=h.cells j hj
   by_cases e':j=l.length
   ·subst e'
    refine⟨?_,?_⟩
    ·obtain⟨u,hu⟩:=Option.isSome_iff_exists.1 h2.1
     rw[World.cell?_setCell_same _ _ _ hu];rfl
    ·rw[World.frozen?_setCell];exact h2.2
   ·refine⟨?_,?_⟩
    ·rw[World.cell?_setCell_other _ _ _ _ (by simp<;>omega)];exact h2.1
    ·rw[World.frozen?_setCell];exact h2.2
  ·intro j hj
   rw[List.length_append,List.length_singleton]at hj
   by_cases e':j=l.length
   ·subst e'
    obtain⟨u,hu⟩:=Option.isSome_iff_exists.1 (h.cells l.length oM).1;rw[World.cell?_setCell_same _ _ _ hu];simp
   ·rw[World.cell?_setCell_other _ _ _ _ (by simp<;>omega),List.getElem_append_left oM]
    exact h.bytes j oM
 ·obtain⟨v',w',hrun,hown,hg⟩:=run_append_arg_grows (P:=P) (w:=w) t ty e i (.int .u8 0) 1 1 ht hi hz hsize hby rfl oM ⟨g,0,none⟩ l.length cap (l.map fun x=>Value.int .u8 (x.toNat:Int)) (by simp)
   (fun j u hu=>by
    rw[List.getElem?_map]at hu
    by_cases hj:j<l.length
    ·rw[List.getElem?_eq_getElem hj]at hu
     simp at hu;rw[Addr.add_lit,←hu];simpa using h.bytes j hj
    ·rw[List.getElem?_eq_none oM]at hu;cases hu)
   ad 1 c [.int .u8 (b.toNat:Int)] rfl hnews oM (by unfold maxLen;omega) oM
  refine⟨v',w',hrun,?_,(Below.refl B w).grown hg hB (fun k e=>by cases e)⟩;rcases hown.2 with⟨_,h0⟩|⟨g',cap',cur,hv,hbg,hg',hnc,hcm,hcs,htake⟩
  ·omega
  ·have hlt':g'<w'.heap.size:=by
    rcases Nat.lt_or_ge g' w'.heap.size with h3|h3
    ·exact h3
    ·rw[Array.getElem?_eq_none h3]at hg';exact absurd hg' (by simp)
   refine⟨g',cap',by rw[hv];simp,⟨by omega,hlt',by simpa using hnc,hcm,?_,?_⟩⟩
   ·intro j hj
    simp only[World.cell?,World.frozen?,hg'];have:j<cur.size:=by omega
    simp[this]
   ·intro j hj
    have h4:(cur.toList.take ((l.length+1)*1))[j]?=cur.toList[j]?:=by
     rw[List.getElem?_take_of_lt (by simpa using hj)]
    rw[htake]at h4;have h5:w'.cell? ⟨g',j,none⟩=cur.toList[j]?:=by simp[World.cell?,hg']
    rw[h5,←h4];rw[show(l.map fun x=>Value.int .u8 (x.toNat:Int))++[.int .u8 (b.toNat:Int)]=(l++[b]).map fun x=>Value.int .u8 (x.toNat:Int) by simp,List.getElem?_map,List.getElem?_eq_getElem hj];rfl
theorem ji {P:Program} {ops:Array Oper} {rest:List Oper} {o:Oper} {a:Act} {Q:Exit→Act→World→Prop} (hgd:o.guard=none) (s x:Operand) (t:TypeId)
  (ho:o.op=.call {callee:=.builtin .append,args:=#[s,x],argTypes:=#[t,t]})
  (e:TypeId) (i:TypeInfo) (ht:P.underlying t=some (.slice e)) (hi:P.info? e=some i) (hz:i.zero=some (.int .u8 0)) (hsize:i.size=1) (hby:i.bytes=1)
  (hs:a.eval s=v) (h:BS w B v l) (ad:Addr) (c:Nat) (b:UInt8) (hx:a.eval x=.slice (some ad) 1 c) (hb:w.cell? ad=some (.int .u8 b.toNat)) (hn:l.length+1≤140737488355328) (hB:B≤w.heap.size)
  (hK: ∀ v' w',BS w' B v' (l++[b])→Below B w w'→wpList P ops Q rest (a.put o.dst v') w'):wpList P ops Q (o::rest) a w:=by
 refine wpList_plain hgd fun K hK'=>?_
 obtain⟨v',w',hrun,r1,r2⟩:=pV (P:=P) t o.type e i ht hi hz hsize hby h ad c b hb hn hB;unfold Oper.wp;simp[execOp,ho,resolve,invoke,builtin,hs,hx,hrun,Result.andThen];exact hK' _ _ (hK v' w' r1 r2)
end
theorem ct {P:Program} {id:Nat} {Q:Exit→Act→World→Prop} {a:Act} {w:World} {l:List Oper} (n:Nat) (hm:P.follows .mixedOrders=true) (hB:Region.lexTailB .any l.toArray n=true)
  (h:wpStill P l.toArray w.drew (fun a'=>wpList P l.toArray Q (l.drop n) a' w.drew) (l.take n) a):(Code.region id l.toArray true).wp P Q a w:=
 wp_region_still_tail n hm hB h
def bS (x k:Int):Int:=bits .or .u64 (IntKind.u64.wrap (x*2 ^ k.toNat)) (x / 2 ^ (64 - k).toNat)
def bx (x y:Int):Int:=bits .xor .u64 x y
def ad (x y:Int):Int:=IntKind.u64.wrap (x+y)
def BW (x:Int):Prop:=0≤x∧x<18446744073709551616
structure S4 where
 a:Int
 b:Int
 c:Int
 d:Int
def S4.round (s:S4):S4:=
 let a1:=ad s.a s.b
 let b1:=bx (bS s.b 13) a1
 let a2:=bS a1 32
 let c1:=ad s.c s.d
 let d1:=bx (bS s.d 16) c1
 let a3:=ad a2 d1
 let d2:=bx (bS d1 21) a3
 let c2:=ad c1 b1
 let b2:=bx (bS b1 17) c2
 let c3:=bS c2 32
 ⟨a3,b2,c3,d2⟩
def S4.cells (s:S4):Array Value:=#[.int .u64 s.a,.int .u64 s.b,.int .u64 s.c,.int .u64 s.d]
def S4.ok (s:S4):Prop:=BW s.a∧BW s.b∧BW s.c∧BW s.d
theorem iC (x:Int):BW (IntKind.u64.wrap x):=by
 unfold BW;simp[IntKind.wrap,IntKind.bits,IntKind.signed];omega
theorem jZ (op:BinOp) (x y:Int) (h:op=.or∨op=.xor∨op=.and):BW (bits op .u64 x y):=by
 rcases h with rfl|rfl|rfl<;>exact iC _
theorem CM (x k:Int):BW (bS x k):=jZ _ _ _ (.inl rfl)
theorem iN (x y:Int):BW (bx x y):=jZ _ _ _ (.inr (.inl rfl))
theorem IR (x y:Int):BW (ad x y):=iC _
theorem S4.round_ok (s:S4):s.round.ok:=⟨IR _ _,iN _ _,CM _ _,iN _ _⟩
theorem IW (k:Int) (h:k=13∨k=16∨k=17∨k=21∨k=32):bits .and .u64 k 63=k:=by
 rcases h with rfl|rfl|rfl|rfl|rfl<;>decide
theorem qD (x k:Int) (w:World) (hx:BW x) (hk:k=13∨k=16∨k=17∨k=21∨k=32):Calls prog 161 #[.int .u64 x,.int .i64 k] w fun e w'=>e=.returned (.int .u64 (bS x k))∧w'=w:=by
 obtain⟨h0,h1⟩:=hx;have ha:=IW k hk;have hk0:1≤k:=by omega
 have hk1:k≤63:=by omega
 clear hk;go_enter Tryz.func161,Tryz.ntmps161
 go_wp2
 go_ret;exact⟨rfl,rfl⟩
theorem mY (x k:Int) (w:World) (hx:BW x) (hk0:1≤k) (hk1:k≤63):Calls prog 96 #[.int .u64 x,.int .i64 k] w fun e w'=>e=.returned (.int .u64 (bS x k))∧ ∃ n,w'=w.drewN n:=by
 obtain⟨h0,h1⟩:=hx;go_enter Tryz.func96,Tryz.ntmps96
 go_wp2
 go_quiet (fail)
 go_wp2
 go_ret;exact⟨rfl,_,rfl⟩
section
variable {w:World} {g:Nat} {t:TypeId} {p0 p1 p2 p3:Value}
theorem aj.s0 (h:aj w g t #[p0,p1,p2,p3]) (x:Value):aj (w.setCell ⟨g,0,none⟩ x).drew g t #[x,p1,p2,p3]:=h.set_ 0 x
theorem aj.s1 (h:aj w g t #[p0,p1,p2,p3]) (x:Value):aj (w.setCell ⟨g,1,none⟩ x).drew g t #[p0,x,p2,p3]:=h.set_ 1 x
theorem aj.s2 (h:aj w g t #[p0,p1,p2,p3]) (x:Value):aj (w.setCell ⟨g,2,none⟩ x).drew g t #[p0,p1,x,p3]:=h.set_ 2 x
theorem aj.s3 (h:aj w g t #[p0,p1,p2,p3]) (x:Value):aj (w.setCell ⟨g,3,none⟩ x).drew g t #[p0,p1,p2,x]:=h.set_ 3 x
theorem aj.c0 (h:aj w g t #[p0,p1,p2,p3]):w.cell? ⟨g,0,none⟩=some p0:=h.cell 0
theorem aj.c1 (h:aj w g t #[p0,p1,p2,p3]):w.cell? ⟨g,1,none⟩=some p1:=h.cell 1
theorem aj.c2 (h:aj w g t #[p0,p1,p2,p3]):w.cell? ⟨g,2,none⟩=some p2:=h.cell 2
theorem aj.c3 (h:aj w g t #[p0,p1,p2,p3]):w.cell? ⟨g,3,none⟩=some p3:=h.cell 3
theorem er {a:World} (h:a.grownBy w (some g)) (i:Nat) (x:Value):a.grownBy (w.setCell ⟨g,i,none⟩ x).drew (some g):=lZ (ag h (.inl rfl) x)
end
theorem oX (s:S4) (hs:s.ok) (w:World) (g:Nat) (h:aj w g 257 s.cells):Calls prog 207 #[.pointer (some ⟨g,0,none⟩)] w fun e w'=>e=.returned (.tuple #[])∧(aj w' g 257 s.round.cells∧w.grownBy w' (some g)):=by
 obtain⟨a,b,c,d⟩:=s;obtain⟨ha,hb,hc,hd⟩:=hs;have HB:=zH hb;have HD:=zH hd;have b0:aj w g 257 #[.int .u64 a,.int .u64 b,.int .u64 c,.int .u64 d]:=h;have B0:=zH b0;have G0:=zH (bT w (some g));clear b0 h ha hb hc hd;go_enter Tryz.func207,Tryz.ntmps207;have c0:=B0.out.c0;have c1:=B0.out.c1;have c2:=B0.out.c2;have c3:=B0.out.c3;have f0:=B0.out.frozen 0;have f1:=B0.out.frozen 1;have f2:=B0.out.frozen 2;have f3:=B0.out.frozen 3;go_wp2_with fail;refine ct 11 kR kR ?_;simp only[List.take_succ_cons,List.take_zero,List.drop_succ_cons,List.drop_zero]
 repeat still_step
 refine wpStill_nil ?_;go_wp2_with fail;have B1:=zH (B0.out.s0 (.int .u64 (IntKind.u64.wrap (a+b))));have G1:=zH (er G0.out 0 (.int .u64 (IntKind.u64.wrap (a+b))));clear c0 c1 c2 c3 f0 f1 f2 f3 B0 G0;generalize (w.setCell ⟨g,0,none⟩ (.int .u64 (IntKind.u64.wrap (a+b)))).drew=w1 at B1 G1 ⊢;have c0:=B1.out.c0;have c1:=B1.out.c1;have c2:=B1.out.c2;have c3:=B1.out.c3;have f0:=B1.out.frozen 0;have f1:=B1.out.frozen 1;have f2:=B1.out.frozen 2;have f3:=B1.out.frozen 3;go_wp2_with fail;refine ct 13 kR kR ?_;simp only[List.take_succ_cons,List.take_zero,List.drop_succ_cons,List.drop_zero]
 repeat still_step
 still_call (qD (b) 13 _ HB.out oM)
 repeat still_step
 refine wpStill_nil ?_;go_wp2_with fail;have B2:=zH (B1.out.s1 (.int .u64 (bits .xor .u64 (bS (b) 13) (IntKind.u64.wrap (a+b)))));have G2:=zH (er G1.out 1 (.int .u64 (bits .xor .u64 (bS (b) 13) (IntKind.u64.wrap (a+b)))));clear c0 c1 c2 c3 f0 f1 f2 f3 B1 G1;generalize (w1.setCell ⟨g,1,none⟩ (.int .u64 (bits .xor .u64 (bS (b) 13) (IntKind.u64.wrap (a+b))))).drew=w2 at B2 G2 ⊢;have c0:=B2.out.c0;have c1:=B2.out.c1;have c2:=B2.out.c2;have c3:=B2.out.c3;have f0:=B2.out.frozen 0;have f1:=B2.out.frozen 1;have f2:=B2.out.frozen 2;have f3:=B2.out.frozen 3;go_wp2_with fail;refine ct 8 kR kR ?_;simp only[List.take_succ_cons,List.take_zero,List.drop_succ_cons,List.drop_zero]
 repeat still_step
 still_call (qD (IntKind.u64.wrap (a+b)) 32 _ (iC _) oM)
 repeat still_step
 refine wpStill_nil ?_;go_wp2_with fail;have B3:=zH (B2.out.s0 (.int .u64 (bS (IntKind.u64.wrap (a+b)) 32)));have G3:=zH (er G2.out 0 (.int .u64 (bS (IntKind.u64.wrap (a+b)) 32)));clear c0 c1 c2 c3 f0 f1 f2 f3 B2 G2;generalize (w2.setCell ⟨g,0,none⟩ (.int .u64 (bS (IntKind.u64.wrap (a+b)) 32))).drew=w3 at B3 G3 ⊢;have c0:=B3.out.c0;have c1:=B3.out.c1;have c2:=B3.out.c2;have c3:=B3.out.c3;have f0:=B3.out.frozen 0;have f1:=B3.out.frozen 1;have f2:=B3.out.frozen 2;have f3:=B3.out.frozen 3;go_wp2_with fail;refine ct 11 kR kR ?_;simp only[List.take_succ_cons,List.take_zero,List.drop_succ_cons,List.drop_zero]
 repeat still_step
 refine wpStill_nil ?_;go_wp2_with fail;have B4:=zH (B3.out.s2 (.int .u64 (IntKind.u64.wrap (c+d))));have G4:=zH (er G3.out 2 (.int .u64 (IntKind.u64.wrap (c+d))));clear c0 c1 c2 c3 f0 f1 f2 f3 B3 G3;generalize (w3.setCell ⟨g,2,none⟩ (.int .u64 (IntKind.u64.wrap (c+d)))).drew=w4 at B4 G4 ⊢;have c0:=B4.out.c0;have c1:=B4.out.c1;have c2:=B4.out.c2;have c3:=B4.out.c3;have f0:=B4.out.frozen 0;have f1:=B4.out.frozen 1;have f2:=B4.out.frozen 2;have f3:=B4.out.frozen 3;go_wp2_with fail;refine ct 13 kR kR ?_;simp only[List.take_succ_cons,List.take_zero,List.drop_succ_cons,List.drop_zero]
 repeat still_step
 still_call (qD (d) 16 _ HD.out oM)
 repeat still_step
 refine wpStill_nil ?_;go_wp2_with fail;have B5:=zH (B4.out.s3 (.int .u64 (bits .xor .u64 (bS (d) 16) (IntKind.u64.wrap (c+d)))));have G5:=zH (er G4.out 3 (.int .u64 (bits .xor .u64 (bS (d) 16) (IntKind.u64.wrap (c+d)))));clear c0 c1 c2 c3 f0 f1 f2 f3 B4 G4;generalize (w4.setCell ⟨g,3,none⟩ (.int .u64 (bits .xor .u64 (bS (d) 16) (IntKind.u64.wrap (c+d))))).drew=w5 at B5 G5 ⊢;have c0:=B5.out.c0;have c1:=B5.out.c1;have c2:=B5.out.c2;have c3:=B5.out.c3;have f0:=B5.out.frozen 0;have f1:=B5.out.frozen 1;have f2:=B5.out.frozen 2;have f3:=B5.out.frozen 3;go_wp2_with fail;refine ct 11 kR kR ?_;simp only[List.take_succ_cons,List.take_zero,List.drop_succ_cons,List.drop_zero]
 repeat still_step
 refine wpStill_nil ?_;go_wp2_with fail;have B6:=zH (B5.out.s0 (.int .u64 (IntKind.u64.wrap (bS (IntKind.u64.wrap (a+b)) 32+bits .xor .u64 (bS (d) 16) (IntKind.u64.wrap (c+d))))));have G6:=zH (er G5.out 0 (.int .u64 (IntKind.u64.wrap (bS (IntKind.u64.wrap (a+b)) 32+bits .xor .u64 (bS (d) 16) (IntKind.u64.wrap (c+d))))));clear c0 c1 c2 c3 f0 f1 f2 f3 B5 G5;generalize (w5.setCell ⟨g,0,none⟩ (.int .u64 (IntKind.u64.wrap (bS (IntKind.u64.wrap (a+b)) 32+bits .xor .u64 (bS (d) 16) (IntKind.u64.wrap (c+d)))))).drew=w6 at B6 G6 ⊢;have c0:=B6.out.c0;have c1:=B6.out.c1;have c2:=B6.out.c2;have c3:=B6.out.c3;have f0:=B6.out.frozen 0;have f1:=B6.out.frozen 1;have f2:=B6.out.frozen 2;have f3:=B6.out.frozen 3;go_wp2_with fail;refine ct 13 kR kR ?_;simp only[List.take_succ_cons,List.take_zero,List.drop_succ_cons,List.drop_zero]
 repeat still_step
 still_call (qD (bits .xor .u64 (bS (d) 16) (IntKind.u64.wrap (c+d))) 21 _ (jZ _ _ _ (.inr (.inl rfl))) oM)
 repeat still_step
 refine wpStill_nil ?_;go_wp2_with fail;have B7:=zH (B6.out.s3 (.int .u64 (bits .xor .u64 (bS (bits .xor .u64 (bS (d) 16) (IntKind.u64.wrap (c+d))) 21) (IntKind.u64.wrap (bS (IntKind.u64.wrap (a+b)) 32+bits .xor .u64 (bS (d) 16) (IntKind.u64.wrap (c+d)))))));have G7:=zH (er G6.out 3 (.int .u64 (bits .xor .u64 (bS (bits .xor .u64 (bS (d) 16) (IntKind.u64.wrap (c+d))) 21) (IntKind.u64.wrap (bS (IntKind.u64.wrap (a+b)) 32+bits .xor .u64 (bS (d) 16) (IntKind.u64.wrap (c+d)))))));clear c0 c1 c2 c3 f0 f1 f2 f3 B6 G6;generalize (w6.setCell ⟨g,3,none⟩ (.int .u64 (bits .xor .u64 (bS (bits .xor .u64 (bS (d) 16) (IntKind.u64.wrap (c+d))) 21) (IntKind.u64.wrap (bS (IntKind.u64.wrap (a+b)) 32+bits .xor .u64 (bS (d) 16) (IntKind.u64.wrap (c+d))))))).drew=w7 at B7 G7 ⊢;have c0:=B7.out.c0;have c1:=B7.out.c1;have c2:=B7.out.c2;have c3:=B7.out.c3;have f0:=B7.out.frozen 0;have f1:=B7.out.frozen 1;have f2:=B7.out.frozen 2;have f3:=B7.out.frozen 3;go_wp2_with fail;refine ct 11 kR kR ?_;simp only[List.take_succ_cons,List.take_zero,List.drop_succ_cons,List.drop_zero]
 repeat still_step
 refine wpStill_nil ?_;go_wp2_with fail;have B8:=zH (B7.out.s2 (.int .u64 (IntKind.u64.wrap (IntKind.u64.wrap (c+d)+bits .xor .u64 (bS (b) 13) (IntKind.u64.wrap (a+b))))));have G8:=zH (er G7.out 2 (.int .u64 (IntKind.u64.wrap (IntKind.u64.wrap (c+d)+bits .xor .u64 (bS (b) 13) (IntKind.u64.wrap (a+b))))));clear c0 c1 c2 c3 f0 f1 f2 f3 B7 G7;generalize (w7.setCell ⟨g,2,none⟩ (.int .u64 (IntKind.u64.wrap (IntKind.u64.wrap (c+d)+bits .xor .u64 (bS (b) 13) (IntKind.u64.wrap (a+b)))))).drew=w8 at B8 G8 ⊢;have c0:=B8.out.c0;have c1:=B8.out.c1;have c2:=B8.out.c2;have c3:=B8.out.c3;have f0:=B8.out.frozen 0;have f1:=B8.out.frozen 1;have f2:=B8.out.frozen 2;have f3:=B8.out.frozen 3;go_wp2_with fail;refine ct 13 kR kR ?_;simp only[List.take_succ_cons,List.take_zero,List.drop_succ_cons,List.drop_zero]
 repeat still_step
 still_call (qD (bits .xor .u64 (bS (b) 13) (IntKind.u64.wrap (a+b))) 17 _ (jZ _ _ _ (.inr (.inl rfl))) oM)
 repeat still_step
 refine wpStill_nil ?_;go_wp2_with fail;have B9:=zH (B8.out.s1 (.int .u64 (bits .xor .u64 (bS (bits .xor .u64 (bS (b) 13) (IntKind.u64.wrap (a+b))) 17) (IntKind.u64.wrap (IntKind.u64.wrap (c+d)+bits .xor .u64 (bS (b) 13) (IntKind.u64.wrap (a+b)))))));have G9:=zH (er G8.out 1 (.int .u64 (bits .xor .u64 (bS (bits .xor .u64 (bS (b) 13) (IntKind.u64.wrap (a+b))) 17) (IntKind.u64.wrap (IntKind.u64.wrap (c+d)+bits .xor .u64 (bS (b) 13) (IntKind.u64.wrap (a+b)))))));clear c0 c1 c2 c3 f0 f1 f2 f3 B8 G8;generalize (w8.setCell ⟨g,1,none⟩ (.int .u64 (bits .xor .u64 (bS (bits .xor .u64 (bS (b) 13) (IntKind.u64.wrap (a+b))) 17) (IntKind.u64.wrap (IntKind.u64.wrap (c+d)+bits .xor .u64 (bS (b) 13) (IntKind.u64.wrap (a+b))))))).drew=w9 at B9 G9 ⊢;have c0:=B9.out.c0;have c1:=B9.out.c1;have c2:=B9.out.c2;have c3:=B9.out.c3;have f0:=B9.out.frozen 0;have f1:=B9.out.frozen 1;have f2:=B9.out.frozen 2;have f3:=B9.out.frozen 3;go_wp2_with fail;refine ct 8 kR kR ?_;simp only[List.take_succ_cons,List.take_zero,List.drop_succ_cons,List.drop_zero]
 repeat still_step
 still_call (qD (IntKind.u64.wrap (IntKind.u64.wrap (c+d)+bits .xor .u64 (bS (b) 13) (IntKind.u64.wrap (a+b)))) 32 _ (iC _) oM)
 repeat still_step
 refine wpStill_nil ?_;go_wp2_with fail;have B10:=zH (B9.out.s2 (.int .u64 (bS (IntKind.u64.wrap (IntKind.u64.wrap (c+d)+bits .xor .u64 (bS (b) 13) (IntKind.u64.wrap (a+b)))) 32)));have G10:=zH (er G9.out 2 (.int .u64 (bS (IntKind.u64.wrap (IntKind.u64.wrap (c+d)+bits .xor .u64 (bS (b) 13) (IntKind.u64.wrap (a+b)))) 32)))
 go_end0
 exact⟨rfl,B10.out,G10.out⟩
def S4.eat (s:S4) (m:Int):S4:=
 let t:=(S4.mk s.a s.b s.c (bx s.d m)).round.round
 ⟨bx t.a m,t.b,t.c,t.d⟩
theorem S4.eat_ok (s:S4) (m:Int):(s.eat m).ok:=
 ⟨iN _ _,(S4.round_ok _).2.1,(S4.round_ok _).2.2.1,(S4.round_ok _).2.2.2⟩
theorem AE (s:S4) (hs:s.ok) (m:Int) (w:World) (g:Nat) (h:aj w g 257 s.cells):Calls prog 206 #[.int .u64 m,.pointer (some ⟨g,0,none⟩)] w fun e w'=>e=.returned (.tuple #[])∧(aj w' g 257 (s.eat m).cells∧w.grownBy w' (some g)):=by
 obtain⟨a,b,c,d⟩:=s;have b0:aj w g 257 #[.int .u64 a,.int .u64 b,.int .u64 c,.int .u64 d]:=h;have c3:=b0.c3;have f3:=b0.frozen 3;have B0:=zH b0;have HS:=zH hs;clear b0 h hs;go_enter Tryz.func206,Tryz.ntmps206;go_wp2_with fail;refine(oX ⟨a,b,c,bx d m⟩ ⟨HS.out.1,HS.out.2.1,HS.out.2.2.1,iN _ _⟩ _ g (B0.out.set_ 3 (.int .u64 (bx d m)))).mono ?_;rintro e w1 ⟨rfl,hb1,hg1⟩;have B1:=zH hb1;have G1:=zH hg1;clear hb1 hg1;go_wp2_with fail;refine(oX (S4.round ⟨a,b,c,bx d m⟩) (S4.round_ok _) _ g B1.out).mono ?_;rintro e w2 ⟨rfl,hb2,hg2⟩;have B2:=zH hb2;have G2:=zH (aU (aU (ag (bT w (some g)) (p:=⟨g,3,none⟩) (.inl rfl) (.int .u64 (bx d m))) G1.out) hg2);clear hb2 hg2;have E: ∃ s2:S4,s2=(S4.round (S4.round ⟨a,b,c,bx d m⟩)):=⟨_,rfl⟩;obtain⟨s2,e2⟩:=E;have E2:=zH e2;rw[←e2]at B2;clear e2;have c0:=aj.c0 B2.out;have f0:=B2.out.frozen 0;go_wp2_with fail
 go_end0
 refine⟨rfl,?_,?_⟩
 ·have h1:=B2.out.set_ 0 (.int .u64 (bx s2.a m))
  have h2:(S4.eat ⟨a,b,c,d⟩ m).cells=#[.int .u64 (bx s2.a m),.int .u64 s2.b,.int .u64 s2.c,.int .u64 s2.d]:=by rw[E2.out];rfl
  rw[h2];exact h1
 ·exact ag G2.out (.inl rfl) _
def dr (l:List UInt8):Nat:=l.foldr (fun b acc=>b.toNat+256*acc) 0
theorem oO:dr []=0:=rfl
theorem ie (b:UInt8) (l:List UInt8):dr (b::l)=b.toNat+256*dr l:=rfl
theorem sj (l:List UInt8):dr l<256 ^ l.length:=by
 induction l with
 |nil=>simp[dr]
 |cons b l ih=>
  have hb:=b.toNat_lt;rw[ie,List.length_cons,Nat.pow_succ];omega
theorem kv (l r:List UInt8):dr (l++r)=dr l+256 ^ l.length*dr r:=by
 induction l with
 |nil=>simp[oO]
 |cons b l ih=>
  rw[List.cons_append,ie,ie,ih,List.length_cons,Nat.pow_succ,Nat.mul_add,←Nat.mul_assoc,Nat.mul_comm 256 (256 ^ l.length)];omega
theorem vR (n:Nat):dr (List.replicate n 0)=0:=by
 induction n with
 |zero=>rfl
 |succ n ih=>rw[List.replicate_succ,ie,ih];rfl
theorem zo (l:List UInt8) (b:UInt8):dr (l++[b])=dr l+256 ^ l.length*b.toNat:=by
 rw[kv];simp[ie,oO]
theorem kY (l:List UInt8) (i:Nat) (h:i<l.length):dr (l.take (i+1))=dr (l.take i)+256 ^ i*(l[i]).toNat:=by
 rw[List.take_succ_eq_append_getElem h,zo,List.length_take,Nat.min_eq_left (Nat.le_of_lt h)]
theorem o7 (i:Nat):256 ^ i=2 ^ (8*i):=by rw[Nat.pow_mul]
theorem xU (m b i:Nat) (hm:m<256 ^ i):m |||(b*256 ^ i)=m+256 ^ i*b:=by
 rw[o7]at*;rw[Nat.or_comm,Nat.mul_comm b,←Nat.two_pow_add_eq_or_of_lt hm,Nat.add_comm]
theorem DT (t m:Nat) (hm:m<2 ^ 56):t*2 ^ 56 |||m=t*2 ^ 56+m:=by
 rw[Nat.mul_comm,Nat.two_pow_add_eq_or_of_lt hm]
def yb (n m:Nat):Nat:=(n % 256)*2 ^ 56+m
theorem nQ (n:Nat) (h:n<18446744073709551616):IntKind.u64.wrap (n:Int)=(n:Int):=by
 simp[IntKind.wrap,IntKind.bits,IntKind.signed];omega
theorem Gj (m:Nat) (b:UInt8) (i:Nat) (hi:i<8) (hm:m<256 ^ i):
  bits .or .u64 (m:Int) (IntKind.u64.wrap ((b.toNat:Int)*2 ^ (8*i)))=((m+256 ^ i*b.toNat:Nat):Int):=by
 have hb:=b.toNat_lt;have hp:(256:Nat) ^ i≤256 ^ 7:=Nat.pow_le_pow_right oM oM;have hbp:b.toNat*256 ^ i<18446744073709551616:=Nat.lt_of_lt_of_le (Nat.mul_lt_mul_of_lt_of_le hb hp oM) dC
 have e2:IntKind.u64.wrap ((b.toNat:Int)*2 ^ (8*i))=((b.toNat*256 ^ i:Nat):Int):=by
  rw[o7];have e3:((b.toNat:Int)*2 ^ (8*i))=((b.toNat*2 ^ (8*i):Nat):Int):=by simp
  rw[e3];rw[o7]at hbp;exact nQ _ oM
 rw[e2,u64_or_nat _ _ oM hbp,xU m b.toNat i hm]
theorem wG (t m:Nat) (b:UInt8) (i:Nat) (ht:t<256) (hi:i<7) (hm:m<256 ^ i):
  bits .or .u64 ((t*2 ^ 56+m:Nat):Int) (IntKind.u64.wrap ((b.toNat:Int)*2 ^ (8*i)))=((t*2 ^ 56+(m+256 ^ i*b.toNat):Nat):Int):=by
 have hb:=b.toNat_lt;have hp:(256:Nat) ^ i≤256 ^ 6:=Nat.pow_le_pow_right oM oM;have hq:(256:Nat) ^ (i+1)≤256 ^ 7:=Nat.pow_le_pow_right oM oM;have hbp:b.toNat*256 ^ i<2 ^ 56:=Nat.lt_of_lt_of_le (Nat.mul_lt_mul_of_lt_of_le hb hp oM) dC;have hm2:m<2 ^ 56:=by omega
 have hs:m+256 ^ i*b.toNat<2 ^ 56:=by
  have h1:m+256 ^ i*b.toNat<256 ^ (i+1):=by
   rw[Nat.pow_succ];have h2:256 ^ i*b.toNat≤256 ^ i*255:=Nat.mul_le_mul_left _ oM;omega
  omega
 have e2:IntKind.u64.wrap ((b.toNat:Int)*2 ^ (8*i))=((b.toNat*256 ^ i:Nat):Int):=by
  rw[o7];have e3:((b.toNat:Int)*2 ^ (8*i))=((b.toNat*2 ^ (8*i):Nat):Int):=by simp
  rw[e3];rw[o7]at hbp;exact nQ _ oM
 rw[e2,u64_or_nat _ _ oM oM,←DT t m hm2,Nat.or_assoc,xU m b.toNat i hm,DT t _ hs]
theorem CJ (n:Nat):IntKind.u64.wrap ((n:Int)*72057594037927936)=(((n % 256)*2 ^ 56:Nat):Int):=by
 simp[IntKind.wrap,IntKind.bits,IntKind.signed];omega
theorem CU (n:Nat):IntKind.u64.wrap ((n:Int)*72057594037927936)=((yb n (dr []):Nat):Int):=by
 rw[CJ];unfold yb;rw[oO,Nat.add_zero]
theorem Dz (n m:Nat) (b:UInt8) (i:Nat) (hi:i<7) (hm:m<256 ^ i):
  bits .or .u64 ((yb n m:Nat):Int) (IntKind.u64.wrap ((b.toNat:Int)*2 ^ (8*i)))=((yb n (m+256 ^ i*b.toNat):Nat):Int):=
 wG (n % 256) m b i (Nat.mod_lt _ oM) hi hm
theorem ye (l:List UInt8) (k:Nat) (h:k<l.length):dr (l.drop k)=(l[k]).toNat+256*dr (l.drop (k+1)):=by
 rw[List.drop_eq_getElem_cons h,ie]
def gh (k0 k1:Int):S4:=⟨bx k0 8317987319222330741,bx k1 7237128888997146477,bx k0 7816392313619706465,bx k1 8387220255154660723⟩
def dE (s0:S4) (l:List UInt8) (j:Nat):S4:=(List.range j).foldl (fun s i=>s.eat (dr ((l.drop (8*i)).take 8))) s0
def lN (l:List UInt8):Nat:=yb l.length (dr (l.drop (8*(l.length / 8))))
def dD (s:S4):Nat→S4
 |0=>s
 |n+1=>(dD s n).round
theorem uy (s:S4) (h:s.ok) (n:Nat):(dD s n).ok:=by
 cases n with
 |zero=>exact h
 |succ n=>exact S4.round_ok _
def zN (s:S4):Int:=
 let t:=dD (S4.mk s.a s.b (bx s.c 255) s.d) 4
 bx (bx (bx t.a t.b) t.c) t.d
def CK (k0 k1:Int) (l:List UInt8):Int:=zN ((dE (gh k0 k1) l (l.length / 8)).eat (lN l))
theorem eY (s0:S4) (l:List UInt8) (j:Nat):dE s0 l (j+1)=(dE s0 l j).eat (dr ((l.drop (8*j)).take 8)):=by
 simp[dE,List.range_succ]
theorem nv (k0 k1:Int):(gh k0 k1).ok:=⟨iN _ _,iN _ _,iN _ _,iN _ _⟩
theorem nA (s0:S4) (h:s0.ok) (l:List UInt8) (j:Nat):(dE s0 l j).ok:=by
 cases j with
 |zero=>exact h
 |succ j=>rw[eY];exact S4.eat_ok _ _
def vI:Value→Nat| .string t=>t.size|_=>0
def vk (W:World) (l:List UInt8) (s0:S4) (v:Value) (w:World):Prop:=
 ∃ (t:ByteArray) (j:Nat),v=.string t∧t.data.toList=l.drop (8*j)∧8*j≤l.length∧Below W.heap.size W w∧aj w W.heap.size 257 (dE s0 l j).cells
theorem nF (t:ByteArray) (k:Nat):(t.extract k t.size).data.toList=t.data.toList.drop k:=by
 simp[ByteArray.data_extract];exact List.take_of_length_le (by rw[List.length_drop];exact Nat.le_refl _)
theorem vk.step {W wr w1:World} {l:List UInt8} {s0:S4} {t:ByteArray} {j:Nat} (ht:t.data.toList=l.drop (8*j)) (hb:Below W.heap.size W wr) (h8:8≤t.size)
  (hk:aj w1 W.heap.size 257 ((dE s0 l j).eat (dr (t.data.toList.take 8))).cells) (hg:wr.grownBy w1 (some W.heap.size)):
  vk W l s0 (.string (t.extract 8 t.size)) w1∧vI (.string (t.extract 8 t.size))<vI (.string t):=by
 have hl:=congrArg List.length ht;rw[List.length_drop]at hl;have hs:t.data.toList.length=t.size:=rfl;refine⟨⟨_,j+1,rfl,?_,by omega,dm hb hg (Nat.le_refl _) hb.size,?_⟩,?_⟩
 ·rw[nF,ht,List.drop_drop];congr 1
 ·rw[eY,←ht];exact hk
 ·have h1:=congrArg List.length (nF t 8)
  rw[List.length_drop]at h1;have h2:(t.extract 8 t.size).data.toList.length=(t.extract 8 t.size).size:=rfl;simp only[vI];omega
def IQ (W:World) (s0:S4) (v:Value) (w:World):Prop:=
 ∃ k:Nat,k≤4∧v=.int .i64 k∧Below W.heap.size W w∧aj w W.heap.size 257 (dD s0 k).cells
theorem Gc (k0 k1:Int) (s:ByteArray) (W:World) (hs:s.size≤9223372036854775807):
  Calls prog 160 #[.int .u64 k0,.int .u64 k1,.string s] W fun e w'=>e=.returned (.int .u64 (CK k0 k1 s.data.toList))∧Below W.heap.size W w':=by
 go_enter Tryz.func160,Tryz.ntmps160;go_wp2_with fail
 go_loopw [2] (fun v wr=>vk W s.data.toList (gh k0 k1) v wr) (fun v _=>vI v)
 case atStart=>exact⟨s,0,rfl,rfl,by omega,(Below.refl _ _).alloc (Nat.le_refl _) _,aj.new W _ _⟩
 case round=>
  obtain⟨t,j,rfl,ht,hj,hb,hB⟩:=hrel
  have hts:t.size=s.data.toList.length - 8*j:=by
   have:=congrArg List.length ht;rw[List.length_drop]at this;exact this
  have HT:=zH ht;have HS:=zH hts;have HB:=zH hb;have HK:=zH hB
  have htm:t.size≤9223372036854775807:=by
   have:s.data.toList.length=s.size:=rfl;omega
  clear ht hts hb hB
  by_cases h8:8≤t.size
  ·go_wp2_with fail
   go_loop [10,31] (fun m i=> ∃ k:Nat,k≤8∧i=.int .i64 k∧m=.int .u64 ((dr (t.data.toList.take k):Nat):Int)) (fun _ i=>8 - (intOf i).toNat)
   case atStart=>exact⟨0,by omega,rfl,rfl⟩
   case round=>
    obtain⟨k,hk,rfl,rfl⟩:=hrel
    by_cases hlt:k<8
    ·have hks:k<t.size:=by omega
     have hb256:=t[k].toNat_lt;go_wp2_with fail;refine⟨⟨k+1,by omega,by go_num,?_⟩,by simp[intOf];omega⟩
     rw[Gj _ _ k hlt (by
      have h1:=sj (t.data.toList.take k);have h2:(t.data.toList.take k).length=k:=by rw[List.length_take];have:t.data.toList.length=t.size:=rfl;omega
      rw[h2]at h1;exact h1),kY t.data.toList k hks]
     rfl
    ·obtain rfl:k=8:=by omega
     go_wp2_with (go_at_call 206;refine(AE _ (nA _ (nv k0 k1) s.data.toList j) _ _ _ HK.out).mono ?_;rintro e w1 ⟨rfl,hk1,hg1⟩);exact vk.step HT.out HB.out h8 hk1 hg1
  ·have hjl:j=s.data.toList.length / 8:=by
    have h1:=HS.out;omega
   have HJ:=zH hjl;clear hjl;have htop:=CU s.size;have HTOP:=zH htop;clear htop;go_wp2_with fail
   go_loop [12,52] (fun m i=> ∃ k:Nat,k≤t.size∧i=.int .i64 k∧m=.int .u64 ((yb s.size (dr (t.data.toList.take k)):Nat):Int)) (fun _ i=>t.size - (intOf i).toNat)
   case atStart=>exact⟨0,by omega,rfl,by rw[HTOP.out];rfl⟩
   case round=>
    obtain⟨k,hk,rfl,rfl⟩:=hrel
    by_cases hlt:k<t.size
    ·have hb256:=t[k].toNat_lt
     go_wp2_with fail;refine⟨⟨k+1,by omega,by go_num,?_⟩,by simp[intOf];omega⟩
     rw[Dz _ _ _ k oM (by
      have h1:=sj (t.data.toList.take k);have h2:(t.data.toList.take k).length=k:=by rw[List.length_take];have:t.data.toList.length=t.size:=rfl;omega
      rw[h2]at h1;exact h1),kY t.data.toList k hlt]
     rfl
    ·obtain rfl:k=t.size:=by omega
     have hw:yb s.size (dr (t.data.toList.take t.size))=lN s.data.toList:=by
      have h1:t.data.toList.take t.size=t.data.toList:=List.take_of_length_le (Nat.le_refl _);rw[h1,HT.out,HJ.out];rfl
     have hk0:aj wr W.heap.size 257 (dE (gh k0 k1) s.data.toList (s.data.toList.length / 8)).cells:=by rw[←HJ.out];exact HK.out
     have HK0:=zH hk0;rw[hw];clear hw hk0 hlt hk;obtain⟨sc,hsc⟩: ∃ sc:S4,sc=(dE (gh k0 k1) s.data.toList (s.data.toList.length / 8)).eat (lN s.data.toList):=⟨_,rfl⟩;have HSC:=zH hsc;clear hsc;go_wp2_with (go_at_call 206;refine(AE _ (nA _ (nv k0 k1) s.data.toList _) _ _ _ HK0.out).mono ?_;rintro e w1 ⟨rfl,hk1,hg1⟩;rw[←HSC.out]at hk1;have c2:=aj.c2 hk1;have f2:=hk1.frozen 2)
     go_loopw [72] (fun i wr2=>IQ W ⟨sc.a,sc.b,bx sc.c 255,sc.d⟩ i wr2) (fun i _=>4 - (intOf i).toNat)
     case atStart=>
      exact⟨0,by omega,rfl,dm (dm HB.out hg1 (Nat.le_refl _) HB.out.size) (ag (bT w1 (some W.heap.size)) (p:=⟨W.heap.size,2,none⟩) (.inl rfl) _) (Nat.le_refl _) (Nat.le_trans HB.out.size hg1.size),hk1.set_ 2 _⟩
     case round=>
      obtain⟨i,hi,rfl,hb,hk⟩:=hrel;have HB2:=zH hb;have HK2:=zH hk;clear hb hk
      have hok:(S4.mk sc.a sc.b (bx sc.c 255) sc.d).ok:=by
       have h1:sc.ok:=by rw[HSC.out];exact S4.eat_ok _ _
       exact⟨h1.1,h1.2.1,iN _ _,h1.2.2.2⟩
      have HOK:=zH hok;clear hok
      by_cases hlt:i<4
      ·go_wp2_with (go_at_call 207;refine(oX _ (uy _ HOK.out i) _ _ HK2.out).mono ?_;rintro e w3 ⟨rfl,hk3,hg3⟩)
       exact⟨⟨i+1,by omega,by go_num,dm HB2.out hg3 (Nat.le_refl _) HB2.out.size,hk3⟩,by simp[intOf];omega⟩
      ·obtain rfl:i=4:=by omega
       have hfin:CK k0 k1 s.data.toList=bx (bx (bx (dD ⟨sc.a,sc.b,bx sc.c 255,sc.d⟩ 4).a (dD ⟨sc.a,sc.b,bx sc.c 255,sc.d⟩ 4).b) (dD ⟨sc.a,sc.b,bx sc.c 255,sc.d⟩ 4).c) (dD ⟨sc.a,sc.b,bx sc.c 255,sc.d⟩ 4).d:=by
        rw[HSC.out];rfl
       have HF:=zH hfin;clear hfin;have c0:=aj.c0 HK2.out;have c1:=aj.c1 HK2.out;have c2':=aj.c2 HK2.out;have c3:=aj.c3 HK2.out;generalize dD ⟨sc.a,sc.b,bx sc.c 255,sc.d⟩ 4=tt at*;go_wp2_with fail;go_ret;exact⟨by rw[HF.out];rfl,HB2.out⟩
end Go.Proofs.YtepjcdjpikbbjaaGreatDoor
