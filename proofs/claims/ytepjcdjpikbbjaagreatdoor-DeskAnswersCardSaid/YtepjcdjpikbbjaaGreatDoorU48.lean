/-
  strings.Builder: copyCheck, by hand (the shelf's contract does not lay over this seat).
-/
import Derived.Test.YtepjcdjpikbbjaaGreatDoorU00
import Derived.Test.YtepjcdjpikbbjaaGreatDoorU47
import Derived.Lib.Builder
import Derived.Lib.AppendStr
import Derived.Laws.Externs
import Derived.Test.YtepjcdjpikbbjaaGreatDoorU01
import Derived.Test.YtepjcdjpikbbjaaGreatDoorU06
import Derived.Test.YtepjcdjpikbbjaaGreatDoorU43
import Derived.Test.YtepjcdjpikbbjaaGreatDoorU27
import Derived.Test.YtepjcdjpikbbjaaGreatDoorU40
import Derived.Test.YtepjcdjpikbbjaaGreatDoorU20
import Derived.Test.YtepjcdjpikbbjaaGreatDoorU17
set_option maxHeartbeats 8000000
set_option maxRecDepth 100000
namespace Go.Proofs.YtepjcdjpikbbjaaGreatDoor
open Go.Proofs.Tryz
open Go.RowKit Go.Sort Go.Lib
theorem vQ:(prog.info? 38).map (·.size)=some 2:=kR
theorem Ec:liesAt prog prog.depth 38 (2 / prog.cellsOf 38) 0 38 1=true:=kR
theorem BF (w:World) (bb:Nat) (v:Value) (h:aj w bb 38 #[.pointer none,v]):
  Calls prog 24 #[.pointer (some ⟨bb,0,none⟩)] w fun e w'=>e=.returned (.tuple #[])∧w'=w.setCell ⟨bb,0,none⟩ (.pointer (some ⟨bb,0,none⟩)):=by
 obtain⟨j,hj,hjs⟩:=Option.map_eq_some_iff.1 vQ;have hz:w.frozen? ⟨bb,0,none⟩=false:=h.frozen 0;have h0:w.cell? ⟨bb,0,none⟩=some (.pointer none):=h.cell 0
 have hsh:w.shape? bb=some (38,2):=by
  unfold aj at h;simp[World.shape?,h]
 go_enter Tryz.func24,Tryz.ntmps24;go_wp2_with fail;rw[Lib.run_to_unsafe w ⟨bb,0,none⟩ underlying35 underlying126 hj (by rw[hjs];decide) hsh (Nat.zero_lt_succ 1)];simp only[Result.andThen];rw[Oper.upon_value];go_wp2_with fail;rw[run_callFunc_extern Tryz.func60 kR kR kR (e:=Extern.AbiNoEscape.same) kR];rw[Lib.run_noEscape];simp only[Result.andThen];rw[Oper.upon_value];go_wp2_with fail;rw[Lib.run_from_unsafe w ⟨bb,0,none⟩ underlying126 underlying35 hj hsh Ec];simp only[Result.andThen];rw[Oper.upon_value];go_wp2_with fail
 go_end0
 exact⟨rfl,rfl⟩
theorem Dp (w:World) (bb:Nat) (v:Value) (h:aj w bb 38 #[.pointer (some ⟨bb,0,none⟩),v]):
  Calls prog 24 #[.pointer (some ⟨bb,0,none⟩)] w fun e w'=>e=.returned (.tuple #[])∧w'=w:=by
 obtain⟨j,hj,hjs⟩:=Option.map_eq_some_iff.1 vQ;have h0:w.cell? ⟨bb,0,none⟩=some (.pointer (some ⟨bb,0,none⟩)):=h.cell 0;go_enter Tryz.func24,Tryz.ntmps24;go_wp2_with fail;rw[Lib.run_neq_ptr_same w _ underlying35 hj];go_wp2_with fail
 go_end0
 exact⟨rfl,rfl⟩
theorem Cv:(prog.info? 5).map (fun i=>(i.zero,i.size,i.bytes))=some (some (.int .u8 0),1,1):=kR
def Ab:Obj→Bool
 | .cells _ t _=>t == 32 || t == 122 || t == 112 || t == 65 || t == 95
 |_=>false
structure AK (w w':World):Prop where
 size:w.heap.size≤w'.heap.size
 block: ∀ (i:Nat) (o:Obj),w.heap[i]?=some o→Ab o=true→w'.heap[i]?=some o
section
variable {w w':World}
theorem aj.far_ {g:Nat} {t:TypeId} {cs:Array Value} (h:aj w g t cs) (k:AK w w') (ht:Ab (.cells cs t (0,0))=true):aj w' g t cs:=k.block g _ h ht
theorem AK.of_grown {l:Nat} (hg:w.grownBy w' (some l)) (hl: ∀ o,w.heap[l]?=some o→Ab o=false):AK w w':=
 ⟨hg.size,fun i o hi ho=>by
  refine(hg.block i (Array.getElem?_eq_some_iff.1 hi).1 ?_).trans hi;intro e;cases e;rw[hl o hi]at ho;cases ho⟩
theorem aD.far {B:Nat} {v:Value} {L:List an} (h:aD w B v L) (k:AK w w'):aD w' B v L:=by
 obtain⟨h1,h2⟩:=h;refine⟨h1,?_⟩;rcases h2 with h2|⟨g,cap,cur,h3,h4,hg,h5⟩
 ·exact .inl h2
 ·exact .inr ⟨g,cap,cur,h3,h4,k.block g _ hg rfl,h5⟩
theorem SX.far {B sb db k:Nat} {z:SS} {v:Value} (h:SX B sb db k z v w) (hf:AK w w') (hbl:Below B w w'):SX B sb db k z v w':=by
 obtain⟨D,n,f,x,h1,h2,h3⟩:=h;have env:=h1.env.keep hbl;have dk:bc w' db D:=⟨h1.disk.at_.far_ hf rfl,h1.disk.len⟩;exact⟨D,n,f,x,⟨env,aj.far_ h1.st hf rfl,dk,h1.row.far hf,h1.bs,h1.bd⟩,⟨env,dk,h1.bd,Nat.le_trans h1.big hbl.size,h2.fits,h2.fit,h2.inv⟩,h3⟩
theorem bP.far {W:World} {xb vb sb db k:Nat} {r:Ru} {z:SS} {v:Value} (h:bP W xb vb sb db k r z v w) (hf:AK w w') (hbl:Below W.heap.size w w'):bP W xb vb sb db k r z v w':=
 ⟨h.at_.far_ hf rfl,⟨h.sw.at_.far_ hf rfl,h.sw.sx.far hf hbl,h.sw.right,h.sw.bv⟩,h.bx,h.below.trans hbl,h.err,h.eg⟩
theorem vL.far {W:World} {xb k:Nat} {d:DS} (h:vL W xb k d w) (hf:AK w w') (hbl:Below W.heap.size w w'):vL W xb k d w':=by
 obtain⟨vb,sb,db,v,h⟩:=h;exact⟨vb,sb,db,v,h.far hf hbl⟩
end
def zy:Obj→Bool
 | .cells _ t _=>t == 38 || t == 5
 |_=>false
structure qc (w w':World):Prop where
 size:w.heap.size≤w'.heap.size
 block: ∀ (i:Nat) (o:Obj),w.heap[i]?=some o→zy o=true→w'.heap[i]?=some o
theorem qc.of_grown {w w':World} {l:Nat} (hg:w.grownBy w' (some l)) (hl: ∀ o,w.heap[l]?=some o→zy o=false):qc w w':=
 ⟨hg.size,fun i o hi ho=>by
  refine(hg.block i (Array.getElem?_eq_some_iff.1 hi).1 ?_).trans hi;intro e;cases e;rw[hl o hi]at ho;cases ho⟩
theorem qc.of_stay {w w':World} (h:bt w w'):qc w w':=⟨h.size,fun i o hi ho=>h.block i o hi (by
 cases o with
 |cells c t f=>
  simp only[zy,Bool.or_eq_true,beq_iff_eq]at ho;rcases ho with rfl|rfl<;>rfl
 |_=>rfl)⟩
theorem zX {B b:Nat} {p:Value} {bs:List Value} {w w':World} (h:BuilderAt 38 5 B b p bs w) (hf:qc w w'):BuilderAt 38 5 B b p bs w':=by
 obtain⟨hB,v,hb,⟨h1,h2⟩,hne⟩:=h;refine⟨hB,v,hf.block b _ hb rfl,⟨h1,?_⟩,hne⟩;rcases h2 with h2|⟨g,cap,cur,h3,h4,hg,h5⟩
 ·exact .inl h2
 ·exact .inr ⟨g,cap,cur,h3,h4,hf.block g _ hg rfl,h5⟩
theorem oa {B b:Nat} {bs:List Value} {w w':World} (h:IsBuilder 38 5 B b bs w) (hf:qc w w'):IsBuilder 38 5 B b bs w':=by
 rcases h with h|h
 ·exact .inl (zX h hf)
 ·exact .inr (zX h hf)
structure fW (w w':World):Prop where
 size:w.heap.size≤w'.heap.size
 block: ∀ (i:Nat) (o:Obj),w.heap[i]?=some o→zy o=false→w'.heap[i]?=some o
theorem fW.trans {a b c:World} (h:fW a b) (k:fW b c):fW a c:=⟨Nat.le_trans h.size k.size,fun i o hi ho=>k.block i o (h.block i o hi ho) ho⟩
theorem fW.refl (w:World):fW w w:=⟨Nat.le_refl _,fun _ _ h _=>h⟩
theorem fW.set {w:World} {b:Nat} {cs:Array Value} {t:TypeId} (hb:w.heap[b]?=some (.cells cs t (0,0))) (ht:zy (.cells cs t (0,0))=true) (i:Nat) (v:Value):fW w (w.setCell ⟨b,i,none⟩ v):=
 ⟨(KeepsWalks.setCell w ⟨b,i,none⟩ v).size,fun j o hj ho=>by
   by_cases e:j=b
   ·subst e
    rw[hb]at hj;cases hj;rw[ht]at ho;cases ho
   ·exact(Below.heap_setCell w _ v j e).trans hj⟩
theorem fW.grown {w w':World} {row:Option Nat} (hg:w.grownBy w' row) (hl: ∀ l o,row=some l→w.heap[l]?=some o→zy o=true):fW w w':=
 ⟨hg.size,fun i o hi ho=>by
  refine(hg.block i (Array.getElem?_eq_some_iff.1 hi).1 ?_).trans hi;intro e;rw[hl i o e.symm hi]at ho;cases ho⟩
theorem AK.of_bld {w w':World} (h:fW w w'):AK w w':=⟨h.size,fun i o hi ho=>h.block i o hi (by
 cases o with
 |cells c t f=>
  simp only[Ab,Bool.or_eq_true,beq_iff_eq]at ho;rcases ho with(((rfl|rfl)|rfl)|rfl)|rfl<;>rfl
 |_=>rfl)⟩
theorem yC (B b:Nat) (bs:List Value) (w:World) (h:IsBuilder 38 5 B b bs w):
  Calls prog 24 #[.pointer (some ⟨b,0,none⟩)] w fun e w'=>e=.returned (.tuple #[])∧BuilderAt 38 5 B b (.pointer (some ⟨b,0,none⟩)) bs w'∧Below B w w'∧fW w w':=by
 rcases h with h|h
 ·obtain⟨hB,v,hb,hr⟩:=id h
  refine(BF w b v hb).mono ?_;rintro e w' ⟨rfl,rfl⟩;exact⟨rfl,h.used _,(Below.refl B w).setCell (p:=⟨b,0,none⟩) hB _,fW.set hb rfl _ _⟩
 ·obtain⟨hB,v,hb,hr⟩:=id h
  refine(Dp w b v hb).mono ?_;rintro e w' ⟨rfl,rfl⟩;exact⟨rfl,h,Below.refl B _,fW.refl _⟩
theorem yS (B b:Nat) (bs:List Value) (s:ByteArray) (w:World) (h:IsBuilder 38 5 B b bs w) (hlen:bs.length+s.size≤140737488355328) (hBw:B≤w.heap.size):
  Calls prog 10 #[.pointer (some ⟨b,0,none⟩),.string s] w fun e w'=>e=.returned (.tuple #[.int .i64 s.size,.nilIface])∧IsBuilder 38 5 B b (bs++strCells s) w'∧Below B w w'∧fW w w':=by
 obtain⟨i0,hi,hz0,hz1,hz2⟩:=info_parts Cv;go_enter Tryz.func10,Tryz.ntmps10;go_wp2_with fail;go_at_call 24;refine(yC B b bs _ h).mono ?_;rintro e w1 ⟨rfl,h1,hb1,ho1⟩;obtain⟨hB,v,hbk,hown,hne⟩:=h1;have c0:w1.cell? ⟨b,0,none⟩=some (.pointer (some ⟨b,0,none⟩)):=by rw[Lib.cell_of_heap hbk];rfl
 have c1:w1.cell? ⟨b,1,none⟩=some v:=by rw[Lib.cell_of_heap hbk];rfl
 go_wp2_with (at_builtin;refine Lib.wpList_append_own_string _ rfl _ _ 36 9 rfl B 5 i0 underlying36 underlying9 hi hz0 hz1 hz2 _ _ _ rfl hown s rfl ?c3 ?c4 ?c5 ?_)
 case c3=>unfold maxLen;omega
 case c4=>omega
 case c5=>have:=hb1.size;omega
 intro v' w2 hown' hgrow _;have hlt:b<w1.heap.size:=(Array.getElem?_eq_some_iff.1 hbk).1;have hb2:w2.heap[b]?=some (.cells #[.pointer (some ⟨b,0,none⟩),v] 38 (0,0)):=(hgrow.block b hlt (fun e=>hne e.symm)).trans hbk;have d0:w2.cell? ⟨b,0,none⟩=some (.pointer (some ⟨b,0,none⟩)):=by rw[Lib.cell_of_heap hb2];rfl
 have d1:w2.cell? ⟨b,1,none⟩=some v:=by rw[Lib.cell_of_heap hb2];rfl
 have f1:w2.frozen? ⟨b,1,none⟩=false:=Lib.frozen_of_heap hb2 1
 have ho2:fW w1 w2:=fW.grown hgrow (fun l o hl hlo=>by
  rcases hown.2 with⟨rfl,_⟩|⟨g,cap,cur,rfl,_,hg,_⟩
  ·cases hl
  ·have:g=l:=by simpa[Value.ownBlock]using hl
   subst this;rw[hg]at hlo;cases hlo;rfl)
 obtain⟨ao,n',cap,rfl⟩: ∃ ao n' cap,v'=.slice ao n' cap:=by
  rcases hown'.2 with⟨hv,_⟩|⟨g,cap,cur,hv,_⟩
  ·exact⟨_,_,_,hv⟩
  ·exact⟨_,_,_,hv⟩
 go_wp2_with fail;go_ret2;refine⟨rfl,.inr ?_,?_,(ho1.trans ho2).trans (fW.set hb2 rfl _ _)⟩
 ·exact Lib.BuilderAt.put (T:=38) (e:=5) hB hb2 (bs':=bs++Lib.strCells s) (by simpa[Lib.strCells_length]using hown') dC
 ·exact(hb1.grown hgrow (by have:=hb1.size;omega) (fun k hk=>(hown.lt k hk).1)).setCell (p:=⟨b,1,none⟩) hB _
def kU (pre:List (List UInt8)):DS×ByteArray:=pre.foldl GX (IV,aI)
theorem iz (pre:List (List UInt8)) (x:List UInt8):kU (pre++[x])=((cJ (kU pre).1 x).1,(kU pre).2++((cJ (kU pre).1 x).2++⟨#[10]⟩)):=by
 unfold kU;rw[List.foldl_append];rfl
structure DZ (d:DS):Prop where
 fit:iQ d.z.s
 lg:0≤d.z.log∧d.z.log≤1000000
 ru:sP d.r=true
theorem vL.dz {W w:World} {xb k:Nat} {d:DS} (h:vL W xb k d w) (hk:k≤1000000):DZ d:=by
 obtain⟨vb,sb,db,v,h⟩:=h;exact⟨h.sw.sx.fit,by have:=h.sw.sx.log_;omega,h.sw.right⟩
structure iD (W:World) (bb B:Nat) (pre:List (List UInt8)) (w:World):Prop where
 dk:vL W W.heap.size pre.length (kU pre).1 w
 box:aj w (W.heap.size+1) 25 #[.pointer (some ⟨W.heap.size,0,none⟩)]
 bld:IsBuilder 38 5 W.heap.size bb (strCells (kU pre).2) w
 seq: ∃ s,j9 B s w
 ok:cP (kU pre).1.z.writes
 sz:(kU pre).2.size≤100001*pre.length
 zs: ∀ p,p<+:pre→DZ (kU p).1
section
variable {W w w':World} {bb B:Nat} {pre:List (List UInt8)}
theorem yO {s:ByteArray} {row:Option Nat} (h:j9 B s w) (hg:w.grownBy w' row) (h0:some B≠row) (h1:some (B+1)≠row) (h2:some (B+1+1)≠row) (h3:some 4≠row):j9 B s w':=by
 obtain⟨a,b,c,m,d⟩:=h;exact⟨a.grown hg h0,b.grown hg h1,c.grown hg h2,m,(World.cell?_of_block (hg.block _ (World.block_lt_of_cell? w _ d) h3)).trans d⟩
theorem iD.odd {l:Nat} (h:iD W bb B pre w) (hg:w.grownBy w' (some l)) (hl:W.heap.size≤l) (hG:4<W.heap.size) (ho: ∃ o:Obj,w.heap[l]?=some o∧o.isCells=false):iD W bb B pre w':=by
 have hod: ∀ o,w.heap[l]?=some o→o.isCells=false:=fun o h1=>by
  obtain⟨o',h2,h3⟩:=ho;rw[h1]at h2;cases h2;exact h3
 have hne: ∀ {g:Nat} {t:TypeId} {cs:Array Value},aj w g t cs→some g≠some l:=fun {g t cs} hb e=>by
  cases e;have:=hod _ hb;cases this
 have hf:AK w w':=AK.of_grown hg fun o h1=>by
  have:=hod o h1;cases o with
  |cells _ _ _=>cases this
  |_=>rfl
 have hfb:qc w w':=qc.of_grown hg fun o h1=>by
  have:=hod o h1;cases o with
  |cells _ _ _=>cases this
  |_=>rfl
 have hlt:l<w.heap.size:=by
  obtain⟨o,h1,_⟩:=ho;exact(Array.getElem?_eq_some_iff.1 h1).1
 have hbl:Below W.heap.size w w':=(Below.refl _ w).grown hg oM (fun k e=>by cases e;exact hl);obtain⟨s,hs⟩:=h.seq;exact⟨h.dk.far hf hbl,h.box.grown hg (hne h.box),oa h.bld hfb,⟨s,yO hs hg (hne hs.s) (hne hs.sep) (hne hs.save) (by simp;omega)⟩,h.ok,h.sz,h.zs⟩
theorem iD.turn (h:iD W bb B pre w) (ht:FZ B w w') (hl:W.heap.size≤B) (hG:4<W.heap.size):iD W bb B pre w':=by
 obtain⟨⟨s,hs⟩,⟨s',hs'⟩,hg⟩:=ht
 have hst: ∀ o,w.heap[B]?=some o→o=.cells #[.string s] 9 (0,0):=fun o h1=>by
  unfold aj at hs;rw[hs]at h1;exact(Option.some.inj h1).symm
 have hf:AK w w':=AK.of_grown hg fun o h1=>by rw[hst o h1];rfl
 have hfb:qc w w':=qc.of_grown hg fun o h1=>by rw[hst o h1];rfl
 have hlt:=hs.lt;have hbl:Below W.heap.size w w':=(Below.refl _ w).grown hg oM (fun k e=>by cases e;exact hl);obtain⟨x,hx⟩:=h.seq;obtain⟨a,b,c,m,d⟩:=hx;refine⟨h.dk.far hf hbl,h.box.grown hg (by simpa using h.box.ne_ hs dC),oa h.bld hfb,⟨s',hs',b.grown hg (by simp),c.grown hg (by simp;omega),m,(World.cell?_of_block (hg.block _ (World.block_lt_of_cell? w _ d) (by simp;omega))).trans d⟩,h.ok,h.sz,h.zs⟩
theorem iD.keep (h:iD W bb B pre w) (hb:Below w.heap.size w w'):iD W bb B pre w':=by
 obtain⟨vb,sb,db,v,hd⟩:=h.dk;obtain⟨s,hs⟩:=h.seq;have hfb:qc w w':=⟨hb.size,fun i o hi _=>(hb.block i (Array.getElem?_eq_some_iff.1 hi).1).trans hi⟩;exact⟨⟨vb,sb,db,v,hd.keep hb⟩,h.box.below' hb,oa h.bld hfb,⟨s,hs.s.below' hb,hs.sep.below' hb,hs.save.below' hb,hs.max.below' hb⟩,h.ok,h.sz,h.zs⟩
theorem iD.start {w4:World} {t:ByteArray} (hd:vL W W.heap.size 0 IV w4) (hbx:aj w4 (W.heap.size+1) 25 #[.pointer (some ⟨W.heap.size,0,none⟩)]) (hm:dt w4):
  iD W w4.heap.size (w4.heap.size+1) [] (gp (w4.alloc (.cells #[.pointer none,.slice none 0 0] 38)) t)∧j9 (w4.heap.size+1) t (gp (w4.alloc (.cells #[.pointer none,.slice none 0 0] 38)) t)∧W.heap.size≤w4.heap.size:=by
 obtain⟨vb,sb,db,v,hk⟩:=hd;have hz:=vL.dz ⟨vb,sb,db,v,hk⟩ dC;have hle:=hk.below.size;have h1:Below w4.heap.size w4 (w4.alloc (.cells #[.pointer none,.slice none 0 0] 38)):=(Below.refl _ _).alloc (Nat.le_refl _) _;have hb:Below w4.heap.size w4 (gp (w4.alloc (.cells #[.pointer none,.slice none 0 0] 38)) t):=((h1.alloc h1.size _).alloc (by simp;omega) _).alloc (by simp;omega) _;have hbk:aj (gp (w4.alloc (.cells #[.pointer none,.slice none 0 0] 38)) t) w4.heap.size 38 #[.pointer none,.slice none 0 0]:=(((aj.new w4 _ _).alloc _).alloc _).alloc _
 have hs0:aj (gp (w4.alloc (.cells #[.pointer none,.slice none 0 0] 38)) t) (w4.heap.size+1) 9 #[.string t]:=by
  have:=((aj.new (w4.alloc (.cells #[.pointer none,.slice none 0 0] 38)) 9 #[.string t]).alloc (.cells #[.string ⟨#[10]⟩] 9)).alloc (.cells #[.int .i64 0] 3);simpa[gp]using this
 have hs1:aj (gp (w4.alloc (.cells #[.pointer none,.slice none 0 0] 38)) t) (w4.heap.size+1+1) 9 #[.string ⟨#[10]⟩]:=by
  have:=(aj.new ((w4.alloc (.cells #[.pointer none,.slice none 0 0] 38)).alloc (.cells #[.string t] 9)) 9 #[.string ⟨#[10]⟩]).alloc (.cells #[.int .i64 0] 3);simpa[gp]using this
 have hs2:aj (gp (w4.alloc (.cells #[.pointer none,.slice none 0 0] 38)) t) (w4.heap.size+1+1+1) 3 #[.int .i64 0]:=by
  have:=aj.new (((w4.alloc (.cells #[.pointer none,.slice none 0 0] 38)).alloc (.cells #[.string t] 9)).alloc (.cells #[.string ⟨#[10]⟩] 9)) 3 #[.int .i64 0];simpa[gp]using this
 have hsq:j9 (w4.heap.size+1) t (gp (w4.alloc (.cells #[.pointer none,.slice none 0 0] 38)) t):=⟨hs0,hs1,hs2,hm.below' hb⟩;refine⟨⟨⟨vb,sb,db,v,hk.keep hb⟩,hbx.below' hb,.inl ⟨hle,.slice none 0 0,hbk,World.ownsRow_nil _ _ _ _,by simp[Value.ownBlock]⟩,⟨t,hsq⟩,sD,Nat.zero_le _,?_⟩,hsq,hle⟩;intro p hp;obtain rfl:=List.prefix_nil.1 hp;exact hz
theorem iD.next {w1 w2:World} {x:List UInt8} (h:iD W bb B pre w) (hk:pre.length<1000000) (hG:4<W.heap.size)
  (hd:vL W W.heap.size (pre.length+1) (cJ (kU pre).1 x).1 w1) (hs:bt w w1)
  (hb:IsBuilder 38 5 W.heap.size bb (strCells (kU pre).2++strCells ((cJ (kU pre).1 x).2++⟨#[10]⟩)) w2) (hbl:Below W.heap.size w1 w2) (ho:fW w1 w2):
  iD W bb B (pre++[x]) w2∧KeepsOthers w w2∧xS B w w2:=by
 have hd2:=hd.far (AK.of_bld ho) hbl;have hz:=h.zs pre (List.prefix_refl _);have hz2:=hd2.dz oM;have hnl:nl (cJ (kU pre).1 x).2:=uR ⟨hz.fit,hz.ru,h.ok,hz.lg⟩ x hz2.fit;have hkeep: ∀ (i:Nat) (o:Obj),w.heap[i]?=some o→Ba o=false→zy o=false→w2.heap[i]?=some o:=fun i o h1 h2 h3=>ho.block i o (hs.block i o h1 h2) h3
 obtain⟨s,hsq⟩:=h.seq;obtain⟨a,b,c,m,d⟩:=id hsq;obtain⟨vb,sb,db,v,hdk⟩:=h.dk;obtain⟨vb2,sb2,db2,v2,hdk2⟩:=id hd2;have hgl:w2.heap[(4:Nat)]?=w.heap[(4:Nat)]?:=(hdk2.below.block _ hG).trans (hdk.below.block _ hG).symm;refine⟨⟨?_,?_,?_,⟨s,hkeep _ _ a rfl rfl,hkeep _ _ b rfl rfl,hkeep _ _ c rfl rfl,m,(World.cell?_of_block hgl).trans d⟩,?_,?_,?_⟩,⟨Nat.le_trans hs.size ho.size,fun i o h1 h2=>hkeep i o h1 (by cases o<;>first|rfl|cases h2) (by cases o<;>first|rfl|cases h2)⟩,?_⟩
 ·rw[iz,List.length_append]
  exact hd2
 ·exact hkeep _ _ h.box rfl rfl
 ·rw[iz]
  have e:strCells ((kU pre).2++((cJ (kU pre).1 x).2++⟨#[10]⟩))=strCells (kU pre).2++strCells ((cJ (kU pre).1 x).2++⟨#[10]⟩):=by
   rw[strCells_eq,strCells_eq,strCells_eq,ByteArray.data_append,Array.toList_append,byteCells_append]
  rw[e];exact hb
 ·rw[iz]
  exact xD h.ok x
 ·rw[iz]
  have h1:=h.sz;have h2:(⟨#[10]⟩:ByteArray).size=1:=rfl;have h3:(cJ (kU pre).1 x).2.size≤100000:=hnl;dsimp only;rw[ByteArray.size_append,ByteArray.size_append,List.length_append,List.length_singleton];omega
 ·intro p hp
  rcases List.prefix_concat_iff.1 hp with rfl|hp
  ·rw[iz]
   exact hz2
  ·exact h.zs p hp
 ·rintro i o (rfl|rfl|rfl|rfl) h1 _
  ·exact hkeep _ _ h1 (by unfold aj at a;rw[a]at h1;cases h1;rfl) (by unfold aj at a;rw[a]at h1;cases h1;rfl)
  ·exact hkeep _ _ h1 (by unfold aj at b;rw[b]at h1;cases h1;rfl) (by unfold aj at b;rw[b]at h1;cases h1;rfl)
  ·exact hkeep _ _ h1 (by unfold aj at c;rw[c]at h1;cases h1;rfl) (by unfold aj at c;rw[c]at h1;cases h1;rfl)
  ·exact hgl.trans h1
end
theorem Ji (z:SS) (e:Ev):(aV z e).1.s=z.s∨((aV z e).1.s=am z.s e∧dp e=true):=by
 have hl: ∀ (y:SS) (s:St),(ka y s).1.s=y.s∨(ka y s).1.s=s:=fun y s=>by
  unfold ka;split
  ·exact .inl rfl
  ·exact .inr rfl
 unfold aV;split
 ·exact .inl rfl
 ·split
  ·exact .inl rfl
  ·rename_i hv
   have hv':dp e=true:=by simpa using hv
   split
   ·exact .inl rfl
   ·split
    ·split
     ·rcases hl (df z).1 (am z.s e)with h|h
      ·exact .inl (h.trans (qm z).1)
      ·exact .inr ⟨h,hv'⟩
     ·exact .inl (qm z).1
    ·rcases hl z (am z.s e)with h|h
     ·exact .inl h
     ·exact .inr ⟨h,hv'⟩
theorem Ga {z:SS} (h:iQ z.s) (n:Int):cP (ar () z (dY z.s n)).1.s.clock:=by
 have h0:cP z.s.clock:=jj h.clock
 have key:cP (aV z (gH (cK z.s.clock n))).1.s.clock:=by
  rcases Ji z (gH (cK z.s.clock n))with e|⟨e,hv⟩
  ·rw[e]
   exact h0
  ·rw[e]
   have hv2:ba (cK z.s.clock n)=true:=by
    unfold dp gH at hv;have hv3:=(show _ from(by simpa using hv:an.zero.isZero=true∧ba (cK z.s.clock n)=true));exact hv3.2
   exact jj hv2
 unfold dY;split
 ·exact h0
 ·unfold ar
  dsimp only;split
  ·exact key
  ·exact key
theorem tX {LL:List (List UInt8)} (hz: ∀ p,p<+:LL→DZ (kU p).1): ∀ k,k≤LL.length→cP (kU (LL.take k)).1.z.writes∧(kU (LL.take k)).2.size≤100001*k
 |0,_=>⟨sD,Nat.zero_le _⟩
 |k+1,hk=>by
  obtain⟨h1,h2⟩:=tX hz k oM;have hx:LL[k]?=some LL[k]:=List.getElem?_eq_getElem oM;have e:LL.take (k+1)=LL.take k++[LL[k]]:=by rw[List.take_add_one,hx];rfl
  have z0:=hz (LL.take k) (List.take_prefix _ _);have z1:=hz (LL.take (k+1)) (List.take_prefix _ _);rw[e,iz]at z1;rw[e,iz];have hn:(cJ (kU (LL.take k)).1 LL[k]).2.size≤100000:=uR ⟨z0.fit,z0.ru,h1,z0.lg⟩ LL[k] z1.fit;have h3:(⟨#[10]⟩:ByteArray).size=1:=rfl;refine⟨xD h1 _,?_⟩;dsimp only;rw[ByteArray.size_append,ByteArray.size_append];omega
def lT (o:ByteArray) (L:List an) (k:Nat):ByteArray:=(L.take k).foldl (fun o f=>o++(⟨#[44,32]⟩++iE f)) o
theorem By (o:ByteArray) (L:List an):lT o L L.length=L.foldl (fun o f=>o++(⟨#[44,32]⟩++iE f)) o:=by
 unfold lT;rw[List.take_length]
theorem qQ (o:ByteArray) (L:List an) {k:Nat} {f:an} (h:L[k]?=some f):lT o L (k+1)=lT o L k++(⟨#[44,32]⟩++iE f):=by
 unfold lT;rw[List.take_add_one,h,List.foldl_append];rfl
theorem rR {o:ByteArray} {L:List an} (ho:o.size≤100) (h: ∀ f∈L,gy f=true): ∀ k,k≤L.length→(lT o L k).size≤100+4002*k
 |0,_=>by unfold lT;simpa using ho
 |k+1,hk=>by
  have hf:L[k]?=some L[k]:=List.getElem?_eq_getElem oM;have h1:=rR ho h k oM;have h2:=j5 (jo.of (h L[k] (List.getElem_mem _)));have h3:(⟨#[44,32]⟩:ByteArray).size=2:=rfl;rw[qQ o L hf,ByteArray.size_append,ByteArray.size_append];omega
def Jh (W:World) (mb hb qb rb:Nat) (r:Ru) (z:SS) (v:Value) (w1:World) (o:ByteArray) (L:List an) (out i:Value) (w:World):Prop:= ∃ k:Nat,k≤L.length∧i=.int .i64 k∧out=.string (lT o L k)∧iL W mb hb qb rb r z v w∧Below w1.heap.size w1 w
section
variable {W w:World} {mb hb qb rb:Nat} {r:Ru} {z:SS} {v:Value}
theorem qG (h:iL W mb hb qb rb r z v w) (hz:RZ r z) (hwr:cP z.writes) (g off c:Nat) (L:List (List UInt8)) (hw:iF w g off L) (hl: ∀ x∈L,x.length≤5000):
  Calls prog 15 #[.pointer (some ⟨hb,0,none⟩),.string ⟨#[102,97,109,105,108,105,101,115]⟩,.slice (some ⟨g,off,none⟩) L.length c] w (bw W w mb hb (cX ⟨r,z⟩ L)):=by
 by_cases hL:L.length=0
 ·rcases L with _|⟨_,L⟩
  ·clear hL
   obtain⟨⟩:=ey hw hl hwr;obtain⟨wcs,hwb⟩:=hw.1
   show Calls prog 15 #[.pointer (some ⟨hb,0,none⟩),.string ⟨#[102,97,109,105,108,105,101,115]⟩,.slice (some ⟨g,off,none⟩) 0 c] w (bw W w mb hb (cX ⟨r,z⟩ []))
   have HWR:=zH hwr;clear hw hl hwr;have hal:=(Below.refl w.heap.size w).alloc (Nat.le_refl _) (.cells #[.slice (some ⟨g,off,none⟩) 0 c] 34);have H0:=zH (h.keep hal);have hfc:=H0.out.forms;have hlk:(Instr.lookup 87 (.map (some mb)) (.string ⟨#[102,97,109,105,108,105,101,115]⟩) true).run prog _=.ok (.tuple #[.string ⟨#[]⟩,.bool true]) _:=H0.out.look cQ dC;have HBX:=zH (aj.new w 34 #[.slice (some ⟨g,off,none⟩) 0 c]);have HWB:=zH (hwb.below' hal);clear hwb;have HAL:=zH hal;have HZ:=zH hz;clear h hal hz;have hmf: ∀ (fn:Fn) (first cap:Array Value) (w:World),(Instr.makeFunc fn first cap).run prog w=.ok (.func fn first cap) w:=fun _ _ _ _=>rfl
   go_enter Tryz.func15,Tryz.ntmps15;go_wp2_with fail;refine wp_loop_rounds 1 ?_;generalize w.alloc (.cells #[.slice (some ⟨g,off,none⟩) 0 c] 34)=w0 at*;have HNS:=zH (NS.nil w0);clear hfc hlk;have HH:=zH (H0.out.keep HNS.out.bl);have HB:=zH (ae HAL.out HNS.out.bl);have HBX:=zH (HBX.out.below' HNS.out.bl);have HWB:=zH (HWB.out.below' HNS.out.bl);have hbx:=HBX.out.cell 0;have hh:=HH.out.at_.cell 0;obtain⟨s0,s1,s2,s3,s4,slt⟩:=HH.out.rv.five;rw[rounds_succ];have hfit:=HZ.out.fit;have HS_:=zH (show z.s=z.s from rfl);obtain⟨⟨ck,nx,F⟩,lg,wr_,off_,lf,dn⟩:=z;dsimp only at hfit;obtain⟨sa,sc,rfl⟩:=HH.out.rv.rr.slice;obtain⟨r0,r1,r2,r3,r4,r5,r6,r7,rz,rlt⟩:=HH.out.rv.ra.cells;have hok1:cP ck:=jj hfit.clock;have hok2:cP nx:=by have hm:kt nx=true:=hfit.next;have:=bO.1 hm;exact⟨by omega,by omega⟩
   have HHd:=zH HH.out.drew;have HBd:=zH (au HB.out);have HD:(w0:World).drew.cell? ⟨qb,0,none⟩=some (.pointer (some ⟨rb,0,none⟩))∧(w0:World).drew.cell? ⟨rb,0,none⟩=some (.int .i64 ck)∧(w0:World).drew.cell? ⟨rb,1,none⟩=some (.int .i64 nx):=⟨s0,r0,r1⟩;have HHD:=zH HD;have hal:=(Below.refl w0.drew.heap.size w0.drew).alloc (Nat.le_refl _) (.cells #[.int .i64 ck,.int .i64 nx] 3);have HAl:World.cell? (w0.alloc (.cells #[.int .i64 ck,.int .i64 nx] 3)).drew ⟨qb,0,none⟩=some (.pointer (some ⟨rb,0,none⟩))∧World.cell? (w0.alloc (.cells #[.int .i64 ck,.int .i64 nx] 3)).drew ⟨rb,0,none⟩=some (.int .i64 ck)∧World.cell? (w0.alloc (.cells #[.int .i64 ck,.int .i64 nx] 3)).drew ⟨rb,1,none⟩=some (.int .i64 nx):=⟨aB HHD.out.1 hal,aB HHD.out.2.1 hal,aB HHD.out.2.2 hal⟩;have HTO:Hid (Calls prog 16 #[.slice (some ⟨w0.heap.size,0,none⟩) 2 2] (w0.alloc (.cells #[.int .i64 ck,.int .i64 nx] 3)).drew fun e w'=>e=.returned (.string (cg [ck,nx]))∧Below w0.drew.heap.size w0.drew w'):=zH (Dt HHd.out ck nx hok1 hok2);have hy:cX ⟨r,⟨⟨ck,nx,F⟩,lg,wr_,off_,lf,dn⟩⟩ []=(⟨r,⟨⟨ck,nx,F⟩,lg,wr_,off_,lf,dn⟩⟩,lT (cg [ck,nx]) F F.length,0):=by rw[By];rfl
   have hj2:=cC (L:=[ck,nx]) (by simp) (by simp[hok1,hok2]);generalize cg [ck,nx]=y0 at*;clear hal;go_wp2_with fail
   go_region_held3 (fun w'=>w'.cell? ⟨qb,0,none⟩=some (.pointer (some ⟨rb,0,none⟩))∧w'.cell? ⟨rb,0,none⟩=some (.int .i64 ck)∧w'.cell? ⟨rb,1,none⟩=some (.int .i64 nx))
    (first
     |with_reducible assumption
     |with_reducible exact HAl)
    (first
     |(go_at_call 16;(with_reducible refine HTO.out.mono ?_);rintro x' w9 ⟨rfl,hb9⟩
       have hs9:World.cell? w9 ⟨qb,0,none⟩=some (.pointer (some ⟨rb,0,none⟩))∧World.cell? w9 ⟨rb,0,none⟩=some (.int .i64 ck)∧World.cell? w9 ⟨rb,1,none⟩=some (.int .i64 nx):=⟨aB HHD.out.1 hb9,aB HHD.out.2.1 hb9,aB HHD.out.2.2 hb9⟩))
   have H9:=zH (HHd.out.keep hb9);have HB9:=zH (ae HBd.out hb9);clear hb9 hs9 HAl HTO HHD HD HHd HBd r0 r1 r2 r3 r4 r5 r6 r7 rz rlt s0 s1 s2 s3 s4 slt hh hbx;obtain⟨r0,r1,r2,r3,r4,r5,r6,r7,rz,rlt⟩:=H9.out.rv.ra.cells;obtain⟨s0,s1,s2,s3,s4,slt⟩:=H9.out.rv.five;have HFA:=zH hfit.fams;have hlen:=hfit.len;dsimp only at hlen;go_wp2_with fail;clear r0 r1 r2 r3 r4 r5 r6 r7 rz rlt s0 s1 s2 s3 s4 slt hfit hok1 hok2
   go_loopw [23,271] (fun out i wr=>Jh W mb hb qb rb r ⟨⟨ck,nx,F⟩,lg,wr_,off_,lf,dn⟩ (.slice sa F.length sc) w9 y0 F out i wr) (fun _ i _=>F.length - (intOf i).toNat)
   case atStart=>exact⟨0,Nat.zero_le _,rfl,rfl,H9.out,Below.refl _ _⟩
   case round=>
    obtain⟨k',hk',rfl,rfl,hw,hbw⟩:=hrel;have HW:=zH hw;have HBW:=zH hbw;clear hw hbw
    by_cases hlt:k'<F.length
    ·obtain⟨f,hf⟩: ∃ f,F[k']?=some f:=⟨_,List.getElem?_eq_getElem hlt⟩
     obtain⟨ga,hga,_,ra⟩:=HW.out.rv.rr.lit hlt;subst hga;obtain⟨c0,c1,c2,c3,c4,c5,c6,c7,c8⟩:=ra.nine hf;have hmem:=List.mem_of_getElem? hf;have HX:=zH (qQ y0 F hf);have HFM:=zH (fun w hw=>rM f w (jo.of (HFA.out f hmem)) hw);have z1:=rR hj2 HFA.out k' oM;have z2:=j5 (jo.of (HFA.out f hmem));have z3:(⟨#[44,32]⟩:ByteArray).size=2:=rfl;have q1:=bi ⟨#[44,32]⟩ (iE f) oM;have q2:=bi (lT y0 F k') (⟨#[44,32]⟩++iE f) (by rw[ByteArray.size_append];omega);generalize iE f=y at*;generalize lT y0 F k'=ok at*;have h0:(0:Int)≤(k':Int):=by omega
     have h1:(k':Int)<(F.length:Int):=by omega
     obtain⟨fi,fcl,fsu,fsc,fge,fma,fus,fre,fde⟩:=f;unfold aO af at HFM;dsimp only at HFM;have hal:=(Below.refl wr.heap.size wr).alloc (Nat.le_refl _) (.cells #[.int .i64 fi,.string fcl,.string fsu,.string fsc,.int .i64 fge,.int .i64 fma,.int .i64 fus,.string fre,.bool fde] 95);have HW1:=zH (HW.out.keep hal);have HB1:=zH (ae HBW.out hal);clear hal hf ra hmem;go_wp2_with fail;go_at_call 39;refine(HFM.out _ HW1.out.rv.env.wb).mono ?_;rintro x' w5 ⟨rfl,hb⟩;dsimp only;have HW5:=zH (HW1.out.keep hb);have HB5:=zH (ae HB1.out hb);clear hb c0 c1 c2 c3 c4 c5 c6 c7 c8;go_wp2_with fail;go_roundw
     case rel=>exact⟨k'+1,by omega,by go_num,by rw[HX.out],HW5.out,HB5.out⟩
     case measure=>simp[intOf];omega
    ·obtain rfl:k'=F.length:=by omega
     have HT:=zH (vG ((cR.of_below (ae HB9.out HBW.out))) HW.out (Below.refl _ _));go_wp2_with fail;go_ret2
     try rw[hy]
     exact HT.out _ _ 0 (fun _=>rfl)
  ·exact absurd hL (by simp)
 ·refine(cF h cQ dC _ L.length (some ⟨g,off,none⟩) c rfl (fun F hF=>by cases (show some _=some F from hF);simpa using fun e=>hL e.symm)).mono ?_
  rintro e w' ⟨rfl,hb⟩;refine cf (d:=⟨r,z⟩) (h.keep hb) hb dC ?_;rcases L with _|⟨_,L⟩
  ·exact absurd rfl hL
  ·rfl
end
section
variable {W w:World} {mb hb qb rb:Nat} {r:Ru} {z:SS} {v:Value}
theorem yN (h:iL W mb hb qb rb r z v w) (hz:RZ r z) (hwr:cP z.writes) (g off c:Nat) (L:List (List UInt8)) (hw:iF w g off L) (hl: ∀ x∈L,x.length≤5000):
  Calls prog 15 #[.pointer (some ⟨hb,0,none⟩),.string ⟨#[115,97,118,101]⟩,.slice (some ⟨g,off,none⟩) L.length c] w (bw W w mb hb (jI ⟨r,z⟩ L)):=by
 by_cases hL:L.length=0
 ·rcases L with _|⟨_,L⟩
  ·clear hL
   obtain⟨⟩:=ey hw hl hwr;obtain⟨wcs,hwb⟩:=hw.1
   show Calls prog 15 #[.pointer (some ⟨hb,0,none⟩),.string ⟨#[115,97,118,101]⟩,.slice (some ⟨g,off,none⟩) 0 c] w (bw W w mb hb (jI ⟨r,z⟩ []))
   have HWR:=zH hwr;clear hw hl hwr;have hal:=(Below.refl w.heap.size w).alloc (Nat.le_refl _) (.cells #[.slice (some ⟨g,off,none⟩) 0 c] 34);have H0:=zH (h.keep hal);have hfc:=H0.out.forms;have hlk:(Instr.lookup 87 (.map (some mb)) (.string ⟨#[115,97,118,101]⟩) true).run prog _=.ok (.tuple #[.string ⟨#[]⟩,.bool true]) _:=H0.out.look gG dC;have HBX:=zH (aj.new w 34 #[.slice (some ⟨g,off,none⟩) 0 c]);have HWB:=zH (hwb.below' hal);clear hwb;have HAL:=zH hal;have HZ:=zH hz;clear h hal hz;have hmf: ∀ (fn:Fn) (first cap:Array Value) (w:World),(Instr.makeFunc fn first cap).run prog w=.ok (.func fn first cap) w:=fun _ _ _ _=>rfl
   go_enter Tryz.func15,Tryz.ntmps15;go_wp2_with fail;refine wp_loop_rounds 1 ?_;generalize w.alloc (.cells #[.slice (some ⟨g,off,none⟩) 0 c] 34)=w0 at*;have HNS:=zH (NS.nil w0);clear hfc hlk;have HH:=zH (H0.out.keep HNS.out.bl);have HB:=zH (ae HAL.out HNS.out.bl);have HBX:=zH (HBX.out.below' HNS.out.bl);have HWB:=zH (HWB.out.below' HNS.out.bl);have hbx:=HBX.out.cell 0;have hh:=HH.out.at_.cell 0;obtain⟨s0,s1,s2,s3,s4,slt⟩:=HH.out.rv.five;rw[rounds_succ];have hfl:z.s.fams.length≤1000000:=by have:=HZ.out.fit.len;omega
   go_wp2_with fail;go_at_call 41;refine(wX rb z v W.heap.size _ HH.out.rv.ra HH.out.rv.rr hfl).mono ?_;rintro e w8 ⟨rfl,ha,hg⟩;have hs:=(qm z).1;have hr:=HH.out.rv.turn hg ha (by rw[hs];exact HH.out.rv.rr.kept hg (HH.out.rv.rr.apart HH.out.rv.ra dC));have hy:jI ⟨r,z⟩ []=(⟨r,(df z).1⟩,ah gG,(df z).2):=rfl;generalize df z=P at*;obtain⟨z8,c8⟩:=P;dsimp only at hr hy ⊢;have HT:=zH (iY (w:=w) HH.out HB.out hg hr);clear hg hr ha hs;go_wp2_with fail;go_ret2
   try rw[hy]
   exact HT.out _ _ c8 (fun _=>rfl)
  ·exact absurd hL (by simp)
 ·refine(cF h gG dC _ L.length (some ⟨g,off,none⟩) c rfl (fun F hF=>by cases (show some _=some F from hF);simpa using fun e=>hL e.symm)).mono ?_
  rintro e w' ⟨rfl,hb⟩;refine cf (d:=⟨r,z⟩) (h.keep hb) hb dC ?_;rcases L with _|⟨_,L⟩
  ·exact absurd rfl hL
  ·rfl
end
end Go.Proofs.YtepjcdjpikbbjaaGreatDoor
