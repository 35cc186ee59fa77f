/-
  A service: New.
-/
import Derived.Test.YtepjcdjpikbbjaaGreatDoorU00
import Derived.Test.YtepjcdjpikbbjaaGreatDoorU31
import Derived.Test.YtepjcdjpikbbjaaGreatDoorU21
import Derived.Test.YtepjcdjpikbbjaaGreatDoorU05
import Derived.Test.YtepjcdjpikbbjaaGreatDoorU32
import Derived.Test.YtepjcdjpikbbjaaGreatDoorU17
set_option maxHeartbeats 4000000
set_option maxRecDepth 100000
namespace Go.Proofs.YtepjcdjpikbbjaaGreatDoor
open Go.Proofs.Tryz
open Go.RowKit Go.Sort
theorem fO {B sb db k:Nat} {r:Ru} {z:SS} {v:Value} {W:World} (h:SX B sb db k z v W) (hr:sP r=true):
  Calls prog 21 #[.pointer (some ⟨sb,0,none⟩),.agg #[.int .i64 r.key,.int .i64 r.idle,.int .i64 r.life,.int .i64 r.access]] W fun e w'=> ∃ vb,e=.returned (.tuple #[.pointer (some ⟨vb,0,none⟩),.nilIface])∧SW B vb sb db k r z v w'∧W.heap.size≤vb∧Below W.heap.size W w':=by
 have hB:B≤W.heap.size:=by obtain⟨D,n,f,x,h1,_⟩:=h;exact h1.big
 obtain⟨k1,k2,k3,k4⟩:=i1 hr;obtain⟨a0,a1⟩:=az.1 k1;obtain⟨b0,b1⟩:=az.1 k2;obtain⟨d0,d1⟩:=az.1 k3;obtain⟨e0,e1⟩:=az.1 k4;have HR:=zH hr;have H:=zH h;clear h hr k1 k2 k3 k4;obtain⟨ky,il,li,ac⟩:=r;dsimp only at*;have hal:=bZ W (.cells #[.int .i64 ky,.int .i64 il,.int .i64 li,.int .i64 ac] 30) (.cells #[.int .i64 ky,.int .i64 il,.int .i64 li,.int .i64 ac] 3);have HAL:=zH hal;have H1:=zH (H.out.keep hal);have HR3:=zH ((aj.new W 30 #[.int .i64 ky,.int .i64 il,.int .i64 li,.int .i64 ac]).alloc (.cells #[.int .i64 ky,.int .i64 il,.int .i64 li,.int .i64 ac] 3))
 have hg:aj ((W.alloc (.cells #[.int .i64 ky,.int .i64 il,.int .i64 li,.int .i64 ac] 30)).alloc (.cells #[.int .i64 ky,.int .i64 il,.int .i64 li,.int .i64 ac] 3)) (W.heap.size+1) 3 #[.int .i64 ky,.int .i64 il,.int .i64 li,.int .i64 ac]:=by
  have:=aj.new (W.alloc (.cells #[.int .i64 ky,.int .i64 il,.int .i64 li,.int .i64 ac] 30)) 3 #[.int .i64 ky,.int .i64 il,.int .i64 li,.int .i64 ac];rw[show(W.alloc (.cells #[.int .i64 ky,.int .i64 il,.int .i64 li,.int .i64 ac] 30)).heap.size=W.heap.size+1 by simp]at this;exact this
 have HG3:=zH hg;clear hal hg;go_enter Tryz.func21,Tryz.ntmps21;go_wp2_with fail;generalize (W.alloc (.cells #[.int .i64 ky,.int .i64 il,.int .i64 li,.int .i64 ac] 30)).alloc (.cells #[.int .i64 ky,.int .i64 il,.int .i64 li,.int .i64 ac] 3)=w1 at*;obtain⟨x0,x1,x2,x3⟩:=aN HG3.out;obtain⟨y0,y1,y2,y3⟩:=aN HR3.out;refine wp_loop_rounds 5 ?_;rw[rounds_succ];go_wp2_with fail;rw[rounds_succ];go_wp2_with fail;rw[rounds_succ];go_wp2_with fail;rw[rounds_succ];go_wp2_with fail;rw[rounds_succ];go_wp2_with fail;go_ret2;have hal:=(Below.refl w1.heap.size w1).alloc (Nat.le_refl _) (.cells #[.pointer (some ⟨sb,0,none⟩),.int .i64 ky,.int .i64 il,.int .i64 li,.int .i64 ac] 122);exact⟨w1.heap.size,rfl,⟨aj.new w1 _ _,H1.out.keep hal,HR.out,Nat.le_trans hB HAL.out.size⟩,HAL.out.size,ae HAL.out hal⟩
theorem qu {x:Int} (h:ba x=false):x<0∨1099511627776<x:=by
 by_cases h0:x<0
 ·exact .inl h0
 ·by_cases h1:1099511627776<x
  ·exact .inr h1
  ·rw[az.2 ⟨by omega,by omega⟩]at h
   cases h
theorem FT {r:Ru} (h:sP r=false):ba r.key=false∨(ba r.key=true∧(ba r.idle=false∨(ba r.idle=true∧(ba r.life=false∨(ba r.life=true∧ba r.access=false))))):=by
 unfold sP at h;cases h1:ba r.key<;>cases h2:ba r.idle<;>cases h3:ba r.life<;>cases h4:ba r.access<;>simp_all
theorem js {sb:Nat} {r:Ru} {W:World} (hr:sP r=false):
  Calls prog 21 #[.pointer (some ⟨sb,0,none⟩),.agg #[.int .i64 r.key,.int .i64 r.idle,.int .i64 r.life,.int .i64 r.access]] W fun e w'=>e=.returned (.tuple #[.pointer none,bV 2])∧Below W.heap.size W w':=by
 have hn:=FT hr;clear hr;obtain⟨ky,il,li,ac⟩:=r;dsimp only at*;have hal:=bZ W (.cells #[.int .i64 ky,.int .i64 il,.int .i64 li,.int .i64 ac] 30) (.cells #[.int .i64 ky,.int .i64 il,.int .i64 li,.int .i64 ac] 3);have HAL:=zH hal
 have hg:aj ((W.alloc (.cells #[.int .i64 ky,.int .i64 il,.int .i64 li,.int .i64 ac] 30)).alloc (.cells #[.int .i64 ky,.int .i64 il,.int .i64 li,.int .i64 ac] 3)) (W.heap.size+1) 3 #[.int .i64 ky,.int .i64 il,.int .i64 li,.int .i64 ac]:=by
  have:=aj.new (W.alloc (.cells #[.int .i64 ky,.int .i64 il,.int .i64 li,.int .i64 ac] 30)) 3 #[.int .i64 ky,.int .i64 il,.int .i64 li,.int .i64 ac];rw[show(W.alloc (.cells #[.int .i64 ky,.int .i64 il,.int .i64 li,.int .i64 ac] 30)).heap.size=W.heap.size+1 by simp]at this;exact this
 have HG3:=zH hg;clear hal hg;go_enter Tryz.func21,Tryz.ntmps21;go_wp2_with fail;generalize (W.alloc (.cells #[.int .i64 ky,.int .i64 il,.int .i64 li,.int .i64 ac] 30)).alloc (.cells #[.int .i64 ky,.int .i64 il,.int .i64 li,.int .i64 ac] 3)=w1 at*;obtain⟨x0,x1,x2,x3⟩:=aN HG3.out;refine wp_loop_rounds 5 ?_;rcases hn with h|⟨k1,h|⟨k2,h|⟨k3,h⟩⟩⟩
 ·rcases qu h with hx|hx
  ·rw[rounds_succ]
   go_wp2_with fail;go_ret2;exact⟨by rw[aP dC];rfl,HAL.out⟩
  ·have hx0: ¬ ky<0:=by omega
   rw[rounds_succ];go_wp2_with fail;go_ret2;exact⟨by rw[aP dC];rfl,HAL.out⟩
 ·obtain⟨p0,q0⟩:=az.1 k1
  rcases qu h with hx|hx
  ·rw[rounds_succ]
   go_wp2_with fail;rw[rounds_succ];go_wp2_with fail;go_ret2;exact⟨by rw[aP dC];rfl,HAL.out⟩
  ·have hx0: ¬ il<0:=by omega
   rw[rounds_succ];go_wp2_with fail;rw[rounds_succ];go_wp2_with fail;go_ret2;exact⟨by rw[aP dC];rfl,HAL.out⟩
 ·obtain⟨p0,q0⟩:=az.1 k1
  obtain⟨p1,q1⟩:=az.1 k2;rcases qu h with hx|hx
  ·rw[rounds_succ]
   go_wp2_with fail;rw[rounds_succ];go_wp2_with fail;rw[rounds_succ];go_wp2_with fail;go_ret2;exact⟨by rw[aP dC];rfl,HAL.out⟩
  ·have hx0: ¬ li<0:=by omega
   rw[rounds_succ];go_wp2_with fail;rw[rounds_succ];go_wp2_with fail;rw[rounds_succ];go_wp2_with fail;go_ret2;exact⟨by rw[aP dC];rfl,HAL.out⟩
 ·obtain⟨p0,q0⟩:=az.1 k1
  obtain⟨p1,q1⟩:=az.1 k2;obtain⟨p2,q2⟩:=az.1 k3;rcases qu h with hx|hx
  ·rw[rounds_succ]
   go_wp2_with fail;rw[rounds_succ];go_wp2_with fail;rw[rounds_succ];go_wp2_with fail;rw[rounds_succ];go_wp2_with fail;go_ret2;exact⟨by rw[aP dC];rfl,HAL.out⟩
  ·have hx0: ¬ ac<0:=by omega
   rw[rounds_succ];go_wp2_with fail;rw[rounds_succ];go_wp2_with fail;rw[rounds_succ];go_wp2_with fail;rw[rounds_succ];go_wp2_with fail;go_ret2;exact⟨by rw[aP dC];rfl,HAL.out⟩
theorem gT {a b c:Prop} (_:a) (_:b) (_:c):True:=trivial
def E8 (db sb vb:Nat) (r:Ru):Array Value:=#[.pointer (some ⟨db,0,none⟩),.pointer (some ⟨sb,0,none⟩),.pointer (some ⟨vb,0,none⟩),.int .i64 r.key,.int .i64 r.idle,.int .i64 r.life,.int .i64 r.access]
structure bP (W:World) (xb vb sb db k:Nat) (r:Ru) (z:SS) (v:Value) (w:World):Prop where
 at_:aj w xb 32 (E8 db sb vb r)
 sw:SW W.heap.size vb sb db k r z v w
 bx:W.heap.size≤xb
 below:Below W.heap.size W w
 err:da W
 eg:1<W.heap.size
def Gk (t:TypeId):Bool:=t == 112 || t == 65 || t == 32
def Ba:Obj→Bool
 | .cells _ t _=>Gk t
 |_=>false
structure bt (w w':World):Prop where
 os:w'.os=w.os
 tape:w'.tape=w.tape
 output:w'.output=w.output
 size:w.heap.size≤w'.heap.size
 block: ∀ (i:Nat) (o:Obj),w.heap[i]?=some o→Ba o=false→w'.heap[i]?=some o
section
variable {w w' w'':World}
theorem bt.trans (h:bt w w') (k:bt w' w''):bt w w'':=⟨k.os.trans h.os,k.tape.trans h.tape,k.output.trans h.output,Nat.le_trans h.size k.size,fun i o hi hm=>k.block i o (h.block i o hi hm) hm⟩
theorem bt.of_below (h:Below w.heap.size w w'):bt w w':=⟨h.os,h.tape,h.output,h.size,fun i _ hi _=>(h.block i (Array.getElem?_eq_some_iff.1 hi).1).trans hi⟩
theorem bt.of_two {a b:Nat} {ca cb:Array Value} (h:dH a b w w') (ha:aj w a 112 ca) (hb:aj w b 65 cb):bt w w':=
 ⟨h.os,h.tape,h.output,h.size,fun i o hi hm=>by
  have hlt:=(Array.getElem?_eq_some_iff.1 hi).1;refine(h.block i hlt ?_ ?_).trans hi
  ·rintro rfl
   unfold aj at ha;rw[ha]at hi;cases hi;rw[show Ba (.cells ca 112 (0,0))=true from rfl]at hm;cases hm
  ·rintro rfl
   unfold aj at hb;rw[hb]at hi;cases hi;rw[show Ba (.cells cb 65 (0,0))=true from rfl]at hm;cases hm⟩
theorem bt.of_one {x:Nat} {t:TypeId} {cs:Array Value} (h:w.grownBy w' (some x)) (hx:aj w x t cs) (ht:Gk t=true):bt w w':=
 ⟨h.os,h.tape,h.output,h.size,fun i o hi hm=>by
  have hlt:=(Array.getElem?_eq_some_iff.1 hi).1;refine(h.block i hlt ?_).trans hi;intro he;cases he;unfold aj at hx;rw[hx]at hi;cases hi;rw[show Ba (.cells cs t (0,0))=Gk t from rfl,ht]at hm;cases hm⟩
theorem aj.stay {g:Nat} {t:TypeId} {cs:Array Value} (h:aj w g t cs) (k:bt w w') (ht:Gk t=false):aj w' g t cs:=k.block g _ h ht
end
section
variable {W w w':World} {xb vb sb db k:Nat} {r:Ru} {z:SS} {v:Value}
theorem bP.keep (h:bP W xb vb sb db k r z v w) (hb:Below w.heap.size w w'):bP W xb vb sb db k r z v w':=⟨h.at_.below' hb,h.sw.keep hb,h.bx,ae h.below hb,h.err,h.eg⟩
theorem bP.drew (h:bP W xb vb sb db k r z v w):bP W xb vb sb db k r z v w.drew:=h.keep (au (Below.refl _ _))
theorem bP.later (h:bP W xb vb sb db k r z v w):bP W xb vb sb db (k+1) r z v w:=⟨h.at_,h.sw.later,h.bx,h.below,h.err,h.eg⟩
theorem bP.et (h:bP W xb vb sb db k r z v w):da w:=h.err.below h.below h.eg
theorem bP.env (h:bP W xb vb sb db k r z v w):pR W.heap.size w:=h.sw.sx.env
theorem bP.elt (h:bP W xb vb sb db k r z v w):1<w.heap.size:=Nat.lt_of_lt_of_le h.eg h.below.size
theorem bP.seven (h:bP W xb vb sb db k r z v w):w.cell? ⟨xb,0,none⟩=some (.pointer (some ⟨db,0,none⟩))∧w.cell? ⟨xb,1,none⟩=some (.pointer (some ⟨sb,0,none⟩))∧w.cell? ⟨xb,2,none⟩=some (.pointer (some ⟨vb,0,none⟩))∧w.cell? ⟨xb,3,none⟩=some (.int .i64 r.key)∧w.cell? ⟨xb,4,none⟩=some (.int .i64 r.idle)∧w.cell? ⟨xb,5,none⟩=some (.int .i64 r.life)∧w.cell? ⟨xb,6,none⟩=some (.int .i64 r.access)∧xb<w.heap.size:=
 ⟨h.at_.cell 0,h.at_.cell 1,h.at_.cell 2,h.at_.cell 3,h.at_.cell 4,h.at_.cell 5,h.at_.cell 6,h.at_.lt⟩
theorem bP.two {k':Nat} {z':SS} {v':Value} (h:bP W xb vb sb db k r z v w) (t:dH sb db w w') (hs:SW W.heap.size vb sb db k' r z' v' w'):bP W xb vb sb db k' r z' v' w'∧bt w w':=by
 obtain⟨⟨ca,ha⟩,cb,hb⟩:=h.sw.sx.blocks;obtain⟨p1,p2,p3⟩:=h.sw.sx.places;exact⟨⟨h.at_.two t (h.at_.ne_ ha dC) (h.at_.ne_ hb dC),hs,h.bx,t.below h.below h.below.size p1 p2,h.err,h.eg⟩,bt.of_two t ha hb⟩
end
def vL (W:World) (xb k:Nat) (d:DS) (w:World):Prop:= ∃ vb sb db v,bP W xb vb sb db k d.r d.z v w
def Jp (a:pD) (e:Ending):Prop:=(a.2.2=0∧e=.returned (.string a.2.1))∨(a.2.2≠0∧e=.panicked (wD a.2.2))
def dh (W w:World) (xb k:Nat) (a:pD) (e:Ending) (w':World):Prop:=Jp a e∧vL W xb (k+1) a.1 w'∧bt w w'
section
variable {W w w' w'':World} {xb vb sb db k:Nat} {r:Ru} {z:SS} {v:Value}
theorem bP.thrown (h:bP W xb vb sb db k r z v w) (hb:Below w.heap.size w w') {c:Int} (hc:c≠0) {a:ByteArray}:dh W w xb k (⟨r,z⟩,a,c) (.panicked (wD c)) w':=⟨.inr ⟨hc,rfl⟩,⟨vb,sb,db,v,(h.keep hb).later⟩,bt.of_below hb⟩
theorem bP.told (h:bP W xb vb sb db k r z v w) (hb:Below w.heap.size w w') (a:ByteArray):dh W w xb k (⟨r,z⟩,a,0) (.returned (.string a)) w':=⟨.inl ⟨rfl,rfl⟩,⟨vb,sb,db,v,(h.keep hb).later⟩,bt.of_below hb⟩
end
def eN (w:World) (g off:Nat) (L:List (List UInt8)):Prop:=(∃ o,w.heap[g]?=some o∧Ba o=false)∧ ∀ j x,L[j]?=some x→w.cell? ⟨g,off+j,none⟩=some (.string (ah x))
theorem eN.stay {w w':World} {g off:Nat} {L:List (List UInt8)} (h:eN w g off L) (hs:bt w w'):eN w' g off L:=by
 obtain⟨⟨o,ho,hm⟩,hc⟩:=h;have hb:=hs.block g o ho hm;refine⟨⟨o,hb,hm⟩,fun j x hx=>?_⟩;rw[World.cell?_of_block (w:=w) (hb.trans ho.symm)];exact hc j x hx
theorem eN.keep {w w':World} {g off:Nat} {L:List (List UInt8)} (h:eN w g off L) (hb:Below w.heap.size w w'):eN w' g off L:=h.stay (bt.of_below hb)
theorem eN.drew {w:World} {g off:Nat} {L:List (List UInt8)} (h:eN w g off L):eN w.drew g off L:=h
theorem eN.one {w:World} {g off:Nat} {a:List UInt8} (h:eN w g off [a]):w.cell? ⟨g,off,none⟩=some (.string (ah a)):=h.2 0 a rfl
theorem eN.two_ {w:World} {g off:Nat} {a b:List UInt8} (h:eN w g off [a,b]):w.cell? ⟨g,off,none⟩=some (.string (ah a))∧w.cell? ⟨g,off+1,none⟩=some (.string (ah b)):=⟨h.2 0 a rfl,h.2 1 b rfl⟩
theorem eN.three {w:World} {g off:Nat} {a b c:List UInt8} (h:eN w g off [a,b,c]):w.cell? ⟨g,off,none⟩=some (.string (ah a))∧w.cell? ⟨g,off+1,none⟩=some (.string (ah b))∧w.cell? ⟨g,off+2,none⟩=some (.string (ah c)):=⟨h.2 0 a rfl,h.2 1 b rfl,h.2 2 c rfl⟩
theorem eN.four {w:World} {g off:Nat} {a b c e:List UInt8} (h:eN w g off [a,b,c,e]):w.cell? ⟨g,off,none⟩=some (.string (ah a))∧w.cell? ⟨g,off+1,none⟩=some (.string (ah b))∧w.cell? ⟨g,off+2,none⟩=some (.string (ah c))∧w.cell? ⟨g,off+3,none⟩=some (.string (ah e)):=⟨h.2 0 a rfl,h.2 1 b rfl,h.2 2 c rfl,h.2 3 e rfl⟩
theorem bP.call {W w:World} {xb vb sb db k:Nat} {r:Ru} {z:SS} {v:Value} (h:bP W xb vb sb db k r z v w):w.cell? ⟨xb,2,none⟩=some (.pointer (some ⟨vb,0,none⟩)):=h.seven.2.2.1
theorem gc (b:ByteArray) {n:Nat} (h:b.size≤n):(bG b).size≤n:=by
 unfold bG;split
 ·exact Nat.zero_le _
 ·exact h
theorem SX.off_ {B sb db k xb:Nat} {z:SS} {v:Value} {w w':World} {cs:Array Value} (h:SX B sb db k z v w) (hg:w.grownBy w' (some xb)) (hb:aj w xb 32 cs) (hB:B≤xb):SX B sb db k z v w':=by
 obtain⟨D,n,f,x,h1,h2,h3⟩:=h;have hbl:Below B w w':=(Below.refl _ _).grown hg h1.big (fun i hi=>by cases hi;exact hB);have env:=h1.env.keep hbl;have dk:=h1.disk.grown hg (by simpa using aj.ne_ h1.disk.at_ hb dC);exact⟨D,n,f,x,⟨env,aj.grown h1.st hg (by simpa using aj.ne_ h1.st hb dC),dk,h1.row.kept hg (h1.row.apart hb dC),h1.bs,h1.bd⟩,⟨env,dk,h1.bd,Nat.le_trans h1.big hbl.size,h2.fits,h2.fit,h2.inv⟩,h3⟩
theorem SW.off_ {B vb sb db k xb:Nat} {r:Ru} {z:SS} {v:Value} {w w':World} {cs:Array Value} (h:SW B vb sb db k r z v w) (hg:w.grownBy w' (some xb)) (hb:aj w xb 32 cs) (hB:B≤xb):SW B vb sb db k r z v w':=
 ⟨h.at_.grown hg (by simpa using h.at_.ne_ hb dC),h.sx.off_ hg hb hB,h.right,h.bv⟩
section
variable {W w:World} {xb vb sb db k:Nat} {r:Ru} {z:SS} {v:Value}
theorem Ca (h:bP W xb vb sb db k r z v w) (hk:k<1000000) (g off c:Nat) (L:List (List UInt8)) (hw:eN w g off L) (hl: ∀ x∈L,x.length≤5000):
  Calls prog 70 #[.pointer (some ⟨xb,0,none⟩),.slice (some ⟨g,off,none⟩) L.length c] w (dh W w xb k (j6 ⟨r,z⟩ L)):=by
 obtain⟨⟩:=gT hk hw hl
 by_cases hL:L.length=0
 ·obtain rfl:L=[]:=List.eq_nil_of_length_eq_zero hL
  clear hL hw hl;simp only[List.length_nil];have H:=zH h;have hD:j6 ⟨r,z⟩ []=(⟨r,qH z⟩,ah fg,0):=rfl;rw[hD];have HC:=zH (CW h.sw.sx (-1));obtain⟨c0,c1,c2,c3,c4,c5,c6,hlt⟩:=h.seven;clear h hk hD;go_enter Tryz.func70,Tryz.ntmps70;go_wp2_with fail;go_at_call 17;refine(aY _ 0 c w).mono ?_;rintro e w0 ⟨rfl,rfl⟩;go_wp2_with fail;go_at_call 119;refine HC.out.mono ?_;rintro x' w1 ⟨rfl,hs,hg⟩;dsimp only;have h1:=H.out.two (dH.of_two hg) (H.out.sw.two (dH.of_two hg) hs);have HD1:=zH h1.1;have HST1:=zH h1.2;clear hs hg h1 HC c0 c1 c2 c3 c4 c5 c6 hlt;obtain⟨c0,c1,c2,c3,c4,c5,c6,hlt⟩:=HD1.out.seven;have HO:=zH (FA HD1.out.sw.sx);unfold GY at HO;go_wp2_with fail;go_at_call 19;refine HO.out.mono ?_;rintro x' w2 ⟨sb',v',rfl,hsx,-,hsb,hb⟩;dsimp only;have HX2:=zH (show SX W.heap.size sb' db k (qH z) v' w2 from hsx.free rfl z.left);have HD2:=zH (HD1.out.keep hb);have HST2:=zH (HST1.out.trans (bt.of_below hb));clear hsx hsb hb HO HD1 HST1 c0 c1 c2 c3 c4 c5 c6 hlt;go_wp2_with fail;go_at_call 20;refine(bR _).mono ?_;rintro x' w4 ⟨rfl,rfl⟩;have hz2:=HD2.out.at_.frozen;obtain⟨c0,c1,c2,c3,c4,c5,c6,hlt⟩:=HD2.out.seven;have at3:aj (w2.setCell ⟨xb,1,none⟩ (.pointer (some ⟨sb',0,none⟩))) xb 32 (E8 db sb' vb r):=HD2.out.at_.put_ 1 (.pointer (some ⟨sb',0,none⟩)) (cs':=E8 db sb' vb r) rfl;have g3:w2.grownBy (w2.setCell ⟨xb,1,none⟩ (.pointer (some ⟨sb',0,none⟩))) (some xb):=aZ w2 xb ⟨xb,1,none⟩ rfl (.pointer (some ⟨sb',0,none⟩));have HX3:=zH (HX2.out.off_ g3 HD2.out.at_ HD2.out.bx);have HST3:=zH (HST2.out.trans (bt.of_one g3 HD2.out.at_ dC));have HB3:=zH (HD2.out.below.grown g3 HD2.out.below.size (fun i hi=>by cases hi;exact HD2.out.bx));have HAT3:=zH at3;clear at3 g3 HX2 HST2;go_wp2_with fail;generalize w2.setCell ⟨xb,1,none⟩ (.pointer (some ⟨sb',0,none⟩))=w3 at*;have HN:=zH (fO HX3.out H.out.sw.right);go_at_call 21;refine HN.out.mono ?_;rintro x' w4 ⟨vb',rfl,hsw,hvb,hb⟩;dsimp only;have hat4:=HAT3.out.below' hb;have hz4:=hat4.frozen;have y2:=hat4.cell 2;have at5:aj (w4.setCell ⟨xb,2,none⟩ (.pointer (some ⟨vb',0,none⟩))) xb 32 (E8 db sb' vb' r):=hat4.put_ 2 (.pointer (some ⟨vb',0,none⟩)) (cs':=E8 db sb' vb' r) rfl;have g5:w4.grownBy (w4.setCell ⟨xb,2,none⟩ (.pointer (some ⟨vb',0,none⟩))) (some xb):=aZ w4 xb ⟨xb,2,none⟩ rfl (.pointer (some ⟨vb',0,none⟩))
  have HE:=zH (show dh W w xb k (⟨r,qH z⟩,ah fg,0) (.returned (.string (ah fg))) (w4.setCell ⟨xb,2,none⟩ (.pointer (some ⟨vb',0,none⟩)))from
   ⟨.inl ⟨rfl,rfl⟩,⟨vb',sb',db,v',bP.later ⟨at5,hsw.off_ g5 hat4 HD2.out.bx,HD2.out.bx,(ae HB3.out hb).grown g5 (ae HB3.out hb).size (fun i hi=>by cases hi;exact HD2.out.bx),HD2.out.err,HD2.out.eg⟩⟩,(HST3.out.trans (bt.of_below hb)).trans (bt.of_one g5 hat4 dC)⟩)
  clear hsw hvb hb hat4 at5 g5 HX3 HST3 HB3 HAT3 HN HD2 hz2 c0 c1 c2 c3 c4 c5 c6 hlt;go_wp2_with fail;go_at_call 20;refine(bR _).mono ?_;rintro x' w6 ⟨rfl,rfl⟩;go_wp2_with fail;go_ret;exact HE.out
 ·have hbad:j6 ⟨r,z⟩ L=bad ⟨r,z⟩ 3:=by
   unfold j6;split
   ·exact absurd rfl hL
   ·rfl
  rw[hbad];have HM:=zH (cO (some ⟨g,off,none⟩) L.length c 0 w h.et (by simpa using(show(L.length:Int)≠0 by omega)));have H:=zH h;clear h hw hl hL hbad hk;unfold cG at HM;go_enter Tryz.func70,Tryz.ntmps70;go_wp2_with fail;go_at_call 17;refine HM.out.mono ?_;rintro e w0 ⟨rfl,hb⟩;dsimp only;exact⟨rfl,H.out.thrown hb dC⟩
end
def mM (s:St):List (List UInt8):=(cg [s.clock,s.next]).data.toList::s.fams.map fun f=>(iE f).data.toList
theorem AS (L:List an) (o:ByteArray):(L.foldl (fun o f=>o++(⟨#[44,32]⟩++iE f)) o).data.toList=o.data.toList++Lib.joinTail [44,32] (L.map fun f=>(iE f).data.toList):=by
 induction L generalizing o with
 |nil=>simp[Lib.joinTail]
 |cons f L ih=>
  rw[List.foldl_cons,ih,ByteArray.data_append,Array.toList_append,ByteArray.data_append,Array.toList_append];simp[Lib.joinTail]
theorem tv (s:St):ah (Lib.join (mM s) [44,32])=vO s:=by
 unfold mM vO;rw[Lib.join_cons,←AS,bJ]
theorem wL {s:St} (h:iQ s):(Lib.join (mM s) [44,32]).length≤100000:=by
 have hj:=cC (L:=[s.clock,s.next]) (by simp) (by
  have h1:=jj h.clock;have h2:=bO.1 h.next;intro x hx;simp only[List.mem_cons,List.not_mem_nil,or_false]at hx;rcases hx with rfl|rfl
  ·exact h1
  ·exact⟨by omega,by omega⟩)
 have key: ∀ L:List an,(∀ f∈L,gy f=true)→Lib.lens (L.map fun f=>(iE f).data.toList)≤4000*L.length:=by
  intro L
  induction L with
  |nil=>intro _;simp[Lib.lens]
  |cons f L ih=>
   intro hf;have h1:=ih fun g hg=>hf g (List.mem_cons_of_mem _ hg)
   have h2:=j5 (jo.of (hf f (by simp)));have h3:(iE f).data.toList.length=(iE f).size:=aq _;simp only[Lib.lens,List.map_cons,List.sum_cons,List.length_cons]at h1 ⊢;omega
 have h1:=key s.fams h.fams;have h2:=h.len;have h3:(cg [s.clock,s.next]).data.toList.length=(cg [s.clock,s.next]).size:=aq _;unfold mM;rw[Lib.join_length];simp only[Lib.lens,List.map_cons,List.sum_cons,List.length_map,List.length_cons,List.length_nil]at h1 ⊢;omega
theorem Bl (sep:ByteArray) {B:Nat} {v:Value} {L:List (List UInt8)} {w:World} (h:gi w B v L) (hL:L.length≤1000000) (hlen:(Lib.join L sep.data.toList).length≤1000000):
  Calls prog 50 #[v,.string sep] w fun e w'=>e=.returned (.string (ah (Lib.join L sep.data.toList)))∧Below w.heap.size w w':=by
 obtain⟨g,cap,rfl,hg,hlt,hn,hm,hH⟩:=h.parts
 have hd:(L.map ah).map (·.data.toList)=L:=by
  rw[List.map_map];exact(List.map_congr_left fun x _=>ak x).trans (List.map_id L)
 have:=Tryz.strings_Join g 0 cap (L.map ah) sep w (fun j x hx=>by
  rw[List.getElem?_map]at hx;rcases e:L[j]? with _|y
  ·rw[e]at hx;cases hx
  ·rw[e]at hx
   have hj:=(List.getElem?_eq_some_iff.1 e).1;have hc:=(hH j (by simpa using hj)).1;rw[hc];simp at hx;subst hx;simp[encStr,ah,List.getElem!_eq_getElem?_getD,e]) hlt (by rw[List.length_map];omega) (by rw[List.length_map];omega) (by rw[hd];omega)
 rw[List.length_map,hd]at this;exact this
structure FL (W w0:World) (fv:Value) (L:List an) (T:List (List UInt8)) (k:Nat) (out:Value) (w:World):Prop where
 below:Below W.heap.size W w
 since:Below w0.heap.size w0 w
 env:pR W.heap.size w
 row:w.ownsRow w0.heap.size 9 1 out (k+1) ((T.take (k+1)).map encStr)
 fr:aD w w0.heap.size fv L
section
variable {W w0 w w':World} {fv out:Value} {L:List an} {T:List (List UInt8)} {k:Nat}
theorem FL.keep (h:FL W w0 fv L T k out w) (hb:Below w.heap.size w w'):FL W w0 fv L T k out w':=⟨ae h.below hb,ae h.since hb,h.env.new h.below.size hb,po h.row hb,h.fr.below hb⟩
theorem FL.next {v':Value} {y:Value} {w1:World} {o:Obj} (hB:W.heap.size≤w0.heap.size) (h:FL W w0 fv L T k out w1) (hk:k+1<T.length) (hy:y=encStr (T.getD (k+1) []))
  (ho:w'.ownsRow w0.heap.size 9 1 v' (k+1+1) ((T.take (k+1)).map encStr++[y])) (hg:(w1.alloc o).grownBy w' out.ownBlock) (hf:aD w' w0.heap.size fv L):FL W w0 fv L T (k+1) v' w':=by
 have b1:Below w0.heap.size w0 (w1.alloc o):=h.since.alloc h.since.size o;have c1:Below W.heap.size W (w1.alloc o):=h.below.alloc h.below.size o;have hr: ∀ i,out.ownBlock=some i→w0.heap.size≤i:=fun i e=>(h.row.lt i e).1
 have b2:Below w0.heap.size w0 w':=b1.grown hg b1.size hr;have c2:Below W.heap.size W w':=c1.grown hg c1.size fun i e=>Nat.le_trans hB (hr i e)
 refine⟨c2,b2,h.env.keep ((Below.refl _ _ |>.alloc h.below.size o).grown hg c1.size fun i e=>Nat.le_trans hB (hr i e)),?_,hf⟩
 have e:(T.take (k+1+1)).map encStr=(T.take (k+1)).map encStr++[y]:=by
  rw[List.take_add_one,List.getElem?_eq_getElem hk,List.map_append,hy];simp[List.getD,hk]
 rw[e];exact ho
end
def Jc (W w0:World) (fv:Value) (L:List an) (T:List (List UInt8)) (out i:Value) (wr:World):Prop:= ∃ k:Nat,k≤L.length∧i=.int .i64 k∧FL W w0 fv L T k out wr
end Go.Proofs.YtepjcdjpikbbjaaGreatDoor
