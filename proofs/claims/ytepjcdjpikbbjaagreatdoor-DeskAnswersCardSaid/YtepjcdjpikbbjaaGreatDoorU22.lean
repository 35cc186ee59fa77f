/-
  sort.Slice of families by number, as the reference's Apply calls it.
-/
import Derived.Test.YtepjcdjpikbbjaaGreatDoorU00
import Derived.Test.YtepjcdjpikbbjaaGreatDoorU12
import Derived.Test.YtepjcdjpikbbjaaGreatDoorU21
import Derived.Test.YtepjcdjpikbbjaaGreatDoorU04
import Derived.Shelf.SlSortFuncK.WholeK
import Derived.Shelf.GgSortFunc.Tiny
import Derived.Test.YtepjcdjpikbbjaaGreatDoorU17
import Derived.Test.YtepjcdjpikbbjaaGreatDoorU20
set_option maxHeartbeats 8000000
set_option maxRecDepth 100000
namespace Go.Proofs.YtepjcdjpikbbjaaGreatDoor
open Go.Proofs.Tryz
open Go.RowKit Go.Sort Go.Lib
instance:Inhabited an:=⟨an.zero⟩
def td (f:an):List Value:=(af f).toList
def Hc (a b:an):Bool:=decide (a.id<b.id)
theorem GP:SWO Hc:=⟨fun x=>by simp[Hc],fun x y z h1 h2=>by simp only[Hc,decide_eq_true_eq]at*;omega,fun x y z h1 h2=>by simp only[Hc,decide_eq_false_iff_not]at*;omega⟩
theorem tQ (L:List an):flatK td 9 L.toArray=(aH L).toArray:=by
 refine ext_get! (by simp[bI]) fun t ht=>?_
 have ht':t<L.length*9:=by simpa using ht
 rw[get_flatK _ _ _ _ (by simpa using ht')];have hi:t / 9<L.length:=by omega
 have hj:t % 9<9:=by omega
 have hg:=sC (List.getElem?_eq_getElem hi) (t % 9) hj;rw[show t / 9*9+t % 9=t by omega]at hg;have e1:(L.toArray)[t / 9]! =L[t / 9]:=by simp[hi]
 rw[e1]
 have e2:(td L[t / 9])[t % 9]! =((af L[t / 9])[t % 9]?).getD default:=by
  unfold td;rw[List.getElem!_eq_getElem?_getD,Array.getElem?_toList]
 rw[e2,←hg];simp
theorem Df (blk c Bs size:Nat) (W:World) (G:Nat→Int) (hs:W.cell? ⟨Bs,0,none⟩=some (.slice (some ⟨blk,0,none⟩) size c))
  (hc: ∀ t,t<size→W.cell? ⟨blk,t*9,none⟩=some (.int .i64 (G t))) (i j:Nat) (hi:i<size) (hj:j<size):
  Calls prog 196 #[.int .i64 i,.int .i64 j,.pointer (some ⟨Bs,0,none⟩)] W fun e w'=>e=.returned (.bool (decide (G i<G j)))∧ ∃ q,w'=W.drewN q:=by
 have ci:=hc i hi;have cj:=hc j hj;have h0:(0:Int)≤(i:Int):=by omega
 have h1:(i:Int)<(size:Int):=by omega
 have h2:(0:Int)≤(j:Int):=by omega
 have h3:(j:Int)<(size:Int):=by omega
 clear hc hi hj;go_enter Tryz.func196,Tryz.ntmps196;go_wp2_with fail
 go_quiet (fail)
 go_wp2_with fail;go_ret;exact⟨rfl,nq,rfl⟩
noncomputable def I0:TypeInfo:=(prog.info? 81).get kR
noncomputable def xK:TypeInfo:=(prog.info? 95).get kR
theorem Jm (n:Nat) (h2:2≤n):Lib.swapperK n xK 25=9:=by
 have a:xK.hasPointers=true:=kR;have b:xK.bytes=104:=kR;have c:(n == 0)=false:=by simp;omega
 have d:(n == 1)=false:=by simp;omega
 simp[Lib.swapperK,a,b,c,d]
theorem I8:Lib.swapperK 0 xK 25=1:=rfl
theorem I5:Lib.swapperK 1 xK 25=2:=rfl
theorem zr {w:World} {B g cap:Nat} {L:List an} (h:aD w B (.slice (some ⟨g,0,none⟩) L.length cap) L):HoldsK td 9 w g 0 L.toArray:=by
 unfold HoldsK;rw[tQ];rcases h.parts with⟨e,_⟩|⟨g',cap',e,h1,h2,h3,h4,h5,h6,h7⟩
 ·simp at e
 ·simp only[Value.slice.injEq,Option.some.injEq,Addr.mk.injEq,and_true,true_and]at e
  obtain⟨rfl,rfl⟩:=e;intro j hj;have hj':j<L.length*9:=by simpa[bI]using hj
  rw[Nat.zero_add];refine⟨?_,h5 j⟩;rw[h7 j hj',List.getElem?_eq_getElem (by rw[bI];exact hj')];simp[bI,hj']
theorem Fb {w:World} {g n:Nat} {os:Array Obj} {cur:Array Value} {T:TypeId} (F:Array Value) (hb:aj w g T cur):aj (grow (putRow id (Sort.ahead w n) g 0 F) os) g T (putCells id 0 F cur):=by
 have hg:=hb.lt;unfold aj at*;rw[heap_grow_old _ _ (by simpa using hg)];simp[putRow,mapBlock,Sort.ahead,Array.getElem?_modify,hb,onCells]
theorem E5 {w:World} {g n:Nat} {os:Array Obj} (F:Array Value):w.grownBy (grow (putRow id (Sort.ahead w n) g 0 F) os) (some g):=by
 refine⟨rfl,rfl,rfl,by simp,fun k hk hne=>?_⟩;rw[heap_grow_old _ _ (by simpa using hk)];have:g≠k:=fun e=>hne (by rw[e])
 simp[putRow,mapBlock,Sort.ahead,Array.getElem?_modify,this]
theorem Ds (cur:Array Value) (xs:List Value) (h:xs.length≤cur.size):(putCells id 0 xs.toArray cur).toList.take xs.length=xs:=by
 apply List.ext_getElem?;intro j
 by_cases hj:j<xs.length
 ·rw[List.getElem?_take_of_lt hj,Array.getElem?_toList]
  simp[putCells,hj,show j<cur.size by omega]
 ·rw[List.getElem?_take_eq_none oM,List.getElem?_eq_none oM]
theorem ub (w:World) (os:Array Obj) (row:Option Nat):w.grownBy (grow w os) row:=
 ⟨rfl,rfl,rfl,by simp,fun k hk _=>heap_grow_old _ _ hk⟩
theorem zl {d d':Array an} (h:PermIn 0 d.size d d'):d'.toList.Perm d.toList:=by
 obtain⟨h1,_,h3⟩:=h;have e1:d'.extract 0 d.size=d':=by rw[←h1];exact Array.extract_size
 have e2:d.extract 0 d.size=d:=Array.extract_size
 rwa[e1,e2]at h3
theorem u4 {d':Array an} {n:Nat} (hn:d'.size=n) (h:SortedIn Hc 0 n d'):d'.toList.Pairwise fun a b=>a.id≤b.id:=by
 rw[List.pairwise_iff_getElem];intro i j hi hj hij;have hi':i<d'.size:=by simpa using hi
 have hj':j<d'.size:=by simpa using hj
 have:=h i j (Nat.zero_le _) hij oM;rw[getElem!_pos d' i hi',getElem!_pos d' j hj']at this;simp only[Hc,decide_eq_false_iff_not]at this;simp only[Array.getElem_toList];omega
def As (w:World) (B:Nat) (v:Value) (L:List an) (e:Ending) (w':World):Prop:=
 e=.returned (.tuple #[])∧ ∃ R:List an,R.Perm L∧(R.Pairwise fun a b=>a.id≤b.id)∧R.length=L.length∧aD w' B v R∧w.grownBy w' v.ownBlock
theorem tc (B vb g cap:Nat) (L:List an) (w:World) (h:aD w B (.slice (some ⟨g,0,none⟩) L.length cap) L) (h2:2≤L.length) (hL:L.length≤2000000) (hv:w.cell? ⟨vb,0,none⟩=some (.slice (some ⟨g,0,none⟩) L.length cap)) (hne:vb≠g):
  Calls prog 195 #[.iface 81 (.slice (some ⟨g,0,none⟩) L.length cap),.func (.func 196) #[] #[.pointer (some ⟨vb,0,none⟩)]] w (As w B (.slice (some ⟨g,0,none⟩) L.length cap) L):=by
 have hH:=zr h;have hvb:=World.block_lt_of_cell? w _ hv
 obtain⟨g',cap',cur,he,hBg,hblk,hlc,hm,hc,ht⟩: ∃ g' cap' cur,Value.slice (some ⟨g,0,none⟩) L.length cap=.slice (some ⟨g',0,none⟩) L.length cap'∧B≤g'∧aj w g' 95 cur∧L.length≤cap'∧cap'≤9223372036854775807∧cur.size=cap'*9∧cur.toList.take (L.length*9)=aH L:=by
  rcases h.block with⟨e,_⟩|h
  ·simp at e
  ·exact h
 simp only[Value.slice.injEq,Option.some.injEq,Addr.mk.injEq,and_true,true_and]at he;obtain⟨rfl,rfl⟩:=he
 have hless:LessReadsK prog 196 #[.pointer (some ⟨vb,0,none⟩)] td 9 Hc g 0 L.toArray.size w:=by
  intro m os dk hs i j hi hj
  have e:sortWorldK td 9 w g 0 m dk os=putRowK td 9 (grow (Sort.ahead w m) os) g 0 dk:=by
   unfold sortWorldK;rw[putRowK_grow _ _ (Sort.ahead w m) _ g 0 _ hblk.lt]
  have hHg:HoldsK td 9 (grow (Sort.ahead w m) os) g 0 L.toArray:=holdsK_grow _ _ _ _ g 0 _ hblk.lt (holdsK_ahead _ _ _ _ _ _ _ hH);refine Df g cap vb L.toArray.size _ (fun t=>dk[t]!.id) ?_ (fun t ht=>?_) i j hi hj
  ·rw[e,cell?_putRowK_other _ _ _ g 0 dk _ (by exact hne),cell?_grow _ _ _ (by exact hvb)]
   simpa using hv
  ·rw[e]
   have:=((holdsK_putRowK _ _ _ g 0 _ dk hHg hs).cell (i:=t) (c:=0) oM oM).1;rw[Nat.zero_add,Nat.add_zero]at this;exact this
 have hsz:L.toArray.size=L.length:=by simp
 have hcall:=Any.sort_Slice_cells_sorted Tryz.sl6 81 95 I0 xK kR kR kR kR 25 (fun _=>by kernel_rfl) td 9 (fun _=>rfl) kR (fun _=>by kernel_rfl)
  (fun x u hu=>dO (L:=[x]) (by simpa[aH,td]using hu)) Hc GP 196 _
  (enters_of Tryz.func196 kR rfl) g 0 cap L.toArray (by rw[hsz];exact h2) (by rw[hsz];omega) 261 (by rw[Jm _ (by rw[hsz];exact h2)];kernel_rfl) false
  (fun args W=>run_callFunc_extern Tryz.func261 kR kR kR (e:=Extern.ReflectliteSwapper.swap false) kR args W) w hless hH hblk.lt
 rw[hsz]at hcall;refine hcall.mono ?_;rintro e w' ⟨rfl,d',n,os,hp,hs,rfl⟩;have hp':=zl (d:=L.toArray) (by rw[hsz];exact hp);have hlen:d'.size=L.length:=hp.1.trans hsz;have hll:d'.toList.length=L.length:=by simpa using hlen
 refine⟨rfl,d'.toList,by simpa using hp',u4 hlen hs,hll,?_,?_⟩
 ·unfold putRowK
  rw[show d'=d'.toList.toArray from rfl,tQ];have hb:=Fb (n:=n) (os:=os) (aH d'.toList).toArray hblk;rw[←hll];refine aD.of_block hBg hb oM hm (by simp[putCells,hc]) ?_;rw[←bI];exact Ds cur _ (by rw[bI];omega)
 ·exact E5 _
theorem E9 (B vb:Nat) (v:Value) (L:List an) (w:World) (h:aD w B v L) (hL:L.length≤2000000) (hv:w.cell? ⟨vb,0,none⟩=some v) (hne:v.ownBlock≠some vb):
  Calls prog 195 #[.iface 81 v,.func (.func 196) #[] #[.pointer (some ⟨vb,0,none⟩)]] w (As w B v L):=by
 by_cases h2:2≤L.length
 ·rcases h.parts with⟨rfl,rfl⟩|⟨g,cap,rfl,_⟩
  ·simp at h2
  ·exact tc B vb g cap L w h h2 hL hv (by intro e;apply hne;simp[Value.ownBlock,e])
 ·have hpw:L.Pairwise fun a b=>a.id≤b.id:=by
   rw[List.pairwise_iff_getElem];intro i j hi hj hij;omega
  have hn:L.length=0∨L.length=1:=by omega
  obtain⟨p,c,hv'⟩: ∃ p c,v=.slice p L.length c:=by
   rcases h.parts with⟨rfl,rfl⟩|⟨g,cap,rfl,_⟩
   ·exact⟨_,_,rfl⟩
   ·exact⟨_,_,rfl⟩
  rw[hv']at h ⊢
  obtain⟨f,hf⟩: ∃ f,prog.funcs.findIdx? (·.name == "internal/reflectlite"++ ".Swapper$"++toString (swapperK L.length xK 25))=some f:=by
   rcases hn with e|e
   ·rw[e,I8];exact⟨253,by kernel_rfl⟩
   ·rw[e,I5];exact⟨254,by kernel_rfl⟩
  refine(Any.sort_Slice_tiny Tryz.sl6 81 95 I0 xK kR kR kR kR 25 (fun _=>by kernel_rfl) p L.length c oM f hf (.func 196) #[] #[.pointer (some ⟨vb,0,none⟩)] w).mono ?_;rintro e w' ⟨rfl,os,rfl⟩;refine⟨rfl,L,List.Perm.refl _,hpw,rfl,?_,ub w os _⟩;exact h.kept (ub w os (some w.heap.size)) (fun e=>by have:=(h.lt _ e).2;omega)
structure RP (W:World) (B:Nat) (cs:Array Value) (e:Ev) (v0:Value) (Lf:List an) (v:Value) (L:List an) (w:World):Prop where
 below:Below W.heap.size W w
 st:aj w W.heap.size 83 cs
 ev:aj w (W.heap.size+1) 145 (ax e)
 re:aj w (W.heap.size+1+1) 83 #[.int .i64 0,.int .i64 0,.slice none 0 0]
 var:aj w (W.heap.size+1+1+1) 81 #[v]
 row:aD w (W.heap.size+1+1+1+1) v L
 src:aD w B v0 Lf
 low: ∀ g,v0.ownBlock=some g→g<W.heap.size
section
variable {W:World} {B:Nat} {cs:Array Value} {e:Ev} {v0 v:Value} {Lf L:List an} {w w':World}
theorem RP.far (h:RP W B cs e v0 Lf v L w) {g:Nat} (hg:g≤W.heap.size+1+1+1):v.ownBlock≠some g:=fun he=>by have:=(h.row.lt _ he).1;omega
theorem RP.near (h:RP W B cs e v0 Lf v L w) {g:Nat} (hg:W.heap.size≤g):v0.ownBlock≠some g:=fun he=>by have:=h.low _ he;omega
theorem RP.keep (h:RP W B cs e v0 Lf v L w) (hb:Below w.heap.size w w'):RP W B cs e v0 Lf v L w':=
 ⟨h.below.trans (hb.mono h.below.size),h.st.below' hb,h.ev.below' hb,h.re.below' hb,h.var.below' hb,h.row.below hb,h.src.below hb,h.low⟩
theorem RP.set (h:RP W B cs e v0 Lf v L w) (i:Nat) (u:Value) {cs':Array Value} (hc:cs.setIfInBounds i u=cs'):RP W B cs' e v0 Lf v L (w.setCell ⟨W.heap.size,i,none⟩ u):=by
 have hg:=aZ w W.heap.size ⟨W.heap.size,i,none⟩ rfl u;refine⟨h.below.setCell (Nat.le_refl _) u,?_,h.ev.far (by show W.heap.size+1≠W.heap.size;omega) u,h.re.far (by show W.heap.size+1+1≠W.heap.size;omega) u,h.var.far (by show W.heap.size+1+1+1≠W.heap.size;omega) u,h.row.kept hg (h.far oM),h.src.kept hg (h.near (Nat.le_refl _)),h.low⟩;rw[←hc];exact h.st.set_ i u
theorem RP.turn (h:RP W B cs e v0 Lf v L w) (hg:w.grownBy w' v.ownBlock) {L':List an} (hr:aD w' (W.heap.size+1+1+1+1) v L'):RP W B cs e v0 Lf v L' w':=by
 have hne: ∀ g,g≤W.heap.size+1+1+1→some g≠v.ownBlock:=fun g hg=>Ne.symm (h.far hg)
 refine⟨h.below.grown hg h.below.size (fun k hk=>by have:=(h.row.lt k hk).1;omega),h.st.grown hg (hne _ oM),h.ev.grown hg (hne _ oM),h.re.grown hg (hne _ oM),h.var.grown hg (hne _ oM),hr,World.ownsRow.kept h.src hg ?_,h.low⟩;rcases hv:v0.ownBlock with _|g
 ·exact .inl rfl
 ·refine .inr fun he=>?_
  have:=h.low g hv;have:=(h.row.lt g he.symm).1;omega
theorem RP.go (h:RP W B cs e v0 Lf v L w) (hg:w.grownBy w' v.ownBlock) {v':Value} {L':List an} (hr:aD w' (W.heap.size+1+1+1+1) v' L'):RP W B cs e v0 Lf v' L' (w'.setCell ⟨W.heap.size+1+1+1,0,none⟩ v'):=by
 have hne: ∀ g,g≤W.heap.size+1+1+1→some g≠v.ownBlock:=fun g hg=>Ne.symm (h.far hg)
 have k1:=h.below.grown hg h.below.size (fun k hk=>by have:=(h.row.lt k hk).1;omega);have k2:=h.st.grown hg (hne _ oM);have k3:=h.ev.grown hg (hne _ oM);have k4:=h.re.grown hg (hne _ oM);have k5:=h.var.grown hg (hne _ oM)
 have k6:aD w' B v0 Lf:=World.ownsRow.kept h.src hg (by
  rcases hv:v0.ownBlock with _|g
  ·exact .inl rfl
  ·refine .inr fun he=>?_
   have:=h.low g hv;have:=(h.row.lt g he.symm).1;omega)
 have hs:=aZ w' (W.heap.size+1+1+1) ⟨W.heap.size+1+1+1,0,none⟩ rfl v';exact⟨k1.setCell (by show W.heap.size≤W.heap.size+1+1+1;omega) v',k2.far (by show W.heap.size≠W.heap.size+1+1+1;omega) v',k3.far (by show W.heap.size+1≠W.heap.size+1+1+1;omega) v',k4.far (by show W.heap.size+1+1≠W.heap.size+1+1+1;omega) v',k5.set_ 0 v',hr.kept hs (fun he=>by have:=(hr.lt _ he).1;omega),k6.kept hs (h.near oM),h.low⟩
theorem RP.cells {k0 k1 k2:Value} (h:RP W B #[k0,k1,k2] e v0 Lf v L w):w.cell? ⟨W.heap.size,0,none⟩=some k0∧w.cell? ⟨W.heap.size,1,none⟩=some k1∧w.cell? ⟨W.heap.size,2,none⟩=some k2∧w.cell? ⟨W.heap.size+1+1+1,0,none⟩=some v∧
  w.cell? ⟨W.heap.size+1+1,0,none⟩=some (.int .i64 0)∧w.cell? ⟨W.heap.size+1+1,1,none⟩=some (.int .i64 0)∧w.cell? ⟨W.heap.size+1+1,2,none⟩=some (.slice none 0 0)∧(∀ j,w.frozen? ⟨W.heap.size,j,none⟩=false)∧(∀ j,w.frozen? ⟨W.heap.size+1+1,j,none⟩=false)∧(∀ j,w.frozen? ⟨W.heap.size+1+1+1,j,none⟩=false):=
 nS h.st h.re h.var
theorem RP.lts (h:RP W B cs e v0 Lf v L w):W.heap.size<w.heap.size∧W.heap.size+1<w.heap.size∧W.heap.size+1+1<w.heap.size∧W.heap.size+1+1+1<w.heap.size:=⟨h.st.lt,h.ev.lt,h.re.lt,h.var.lt⟩
end
def fq (W:World) (s:St) (e:Ev) (v:Value):World:=(((W.alloc (.cells (dN s v) 83)).alloc (.cells (ax e) 145)).alloc (.cells #[.int .i64 0,.int .i64 0,.slice none 0 0] 83)).alloc (.cells #[.slice none 0 0] 81)
theorem RP.start {W:World} {B:Nat} {s:St} {e:Ev} {v:Value} (hr:aD W B v s.fams):RP W B (dN s v) e v s.fams (.slice none 0 0) [] (fq W s e v):=by
 have hb:Below W.heap.size W (fq W s e v):=((((Below.refl W.heap.size W).alloc (Nat.le_refl _) _).alloc (by simp) _).alloc (by simp;omega) _).alloc (by simp;omega) _;have a1:aj (fq W s e v) W.heap.size 83 (dN s v):=(((aj.new W _ _).alloc _).alloc _).alloc _
 have a2:aj (fq W s e v) (W.heap.size+1) 145 (ax e):=by
  have:=((aj.new (W.alloc (.cells (dN s v) 83)) 145 (ax e)).alloc (.cells #[.int .i64 0,.int .i64 0,.slice none 0 0] 83)).alloc (.cells #[.slice none 0 0] 81);simpa[fq]using this
 have a3:aj (fq W s e v) (W.heap.size+1+1) 83 #[.int .i64 0,.int .i64 0,.slice none 0 0]:=by
  have:=(aj.new ((W.alloc (.cells (dN s v) 83)).alloc (.cells (ax e) 145)) 83 #[.int .i64 0,.int .i64 0,.slice none 0 0]).alloc (.cells #[.slice none 0 0] 81);simpa[fq]using this
 have a4:aj (fq W s e v) (W.heap.size+1+1+1) 81 #[.slice none 0 0]:=by
  have:=aj.new (((W.alloc (.cells (dN s v) 83)).alloc (.cells (ax e) 145)).alloc (.cells #[.int .i64 0,.int .i64 0,.slice none 0 0] 83)) 81 #[.slice none 0 0];simpa[fq]using this
 exact⟨hb,a1,a2,a3,a4,aD.nil _ _,hr.below hb,fun g hg=>(hr.lt g hg).2⟩
theorem ve {W w:World} {A:Act} {B:Nat} {s':St} {e:Ev} {v v0 vz:Value} {Lf:List an} {ck nx:Int} (h:RP W B #[.int .i64 ck,.int .i64 nx,vz] e v0 Lf v s'.fams w) (h1:ck=s'.clock) (h2:nx=s'.next)
  (hp:A.tmps.getD 4 undef=.pointer (some ⟨W.heap.size+1+1,0,none⟩)) (hd:A.defers=[]):
  bodyPost prog Tryz.f143 (cD W s') Exit.ret A ((((w.setCell ⟨W.heap.size,2,none⟩ v).setCell ⟨W.heap.size+1+1,0,none⟩ (.int .i64 ck)).setCell ⟨W.heap.size+1+1,1,none⟩ (.int .i64 nx)).setCell ⟨W.heap.size+1+1,2,none⟩ v):=by
 subst h1;subst h2;have k:=h.set 2 v rfl;have h1:=k.re.put_ 0 (.int .i64 s'.clock) (cs':=#[.int .i64 s'.clock,.int .i64 0,.slice none 0 0]) rfl;have h2:=h1.put_ 1 (.int .i64 s'.next) (cs':=#[.int .i64 s'.clock,.int .i64 s'.next,.slice none 0 0]) rfl;have hr:=h2.put_ 2 v (cs':=dN s' v) rfl;have g1:=aZ (w.setCell ⟨W.heap.size,2,none⟩ v) (W.heap.size+1+1) ⟨W.heap.size+1+1,0,none⟩ rfl (.int .i64 s'.clock);have g2:=ag g1 (p:=⟨W.heap.size+1+1,1,none⟩) (.inl rfl) (.int .i64 s'.next);have hg:=ag g2 (p:=⟨W.heap.size+1+1,2,none⟩) (.inl rfl) v;have hb:=k.below.grown hg k.below.size (fun j hj=>by cases hj;omega);have hrow:=k.row.kept hg (k.far oM);generalize ((((w.setCell ⟨W.heap.size,2,none⟩ v).setCell ⟨W.heap.size+1+1,0,none⟩ (.int .i64 s'.clock)).setCell ⟨W.heap.size+1+1,1,none⟩ (.int .i64 s'.next)).setCell ⟨W.heap.size+1+1,2,none⟩ v)=wz at*;exact bodyPost_ret (results_cell_row rfl A.tmps wz _ _ _ (0,0) _ hp hr underlying83 rfl kR) hd ⟨v,rfl,hrow.mono oM,hb⟩
theorem pU {L:List an} {n:Int} {k:Nat} {f:an} (hf:L[k]?=some f):fw (L.take (k+1)) n=fw (L.take k) n++if f.id≠n then[f]else[]:=by
 rw[List.take_add_one,hf];unfold fw;rw[List.filter_append]
 congr 1
 by_cases h:f.id=n
 ·simp[h]
 ·simp[h]
theorem aD.app {w:World} {B:Nat} {v:Value} {L:List an} {f:an} (h:w.ownsRow B 95 9 v (L.length+1) (aH L++(af f).toList)):aD w B v (L++[f]):=by
 unfold aD;rw[List.length_append,j2];have e:aH [f]=(af f).toList:=by simp[aH]
 rw[e];exact h
theorem zQ {w:World} {g:Nat} {T:TypeId} {cs:Array Value} (h:aj w g T cs): ∀ j u,cs.toList[j]?=some u→w.cell? ((⟨g,0,none⟩:Addr).add j)=some u:=by
 intro j u hj;rw[Addr.add_lit,Nat.zero_add,h.cell j]
 rwa[Array.getElem?_toList]at hj
theorem mf {w:World} {B:Nat} {T:TypeId} {z n:Nat} {v:Value} {xs:List Value} (h:w.ownsRow B T z v n xs): ∃ a m c,v=.slice a m c:=by
 rcases h.2 with⟨rfl,_⟩|⟨g,cap,cur,rfl,_⟩
 ·exact⟨_,_,_,rfl⟩
 ·exact⟨_,_,_,rfl⟩
def oB (w:World) (f:an):World:=(w.alloc (.cells (af f) 95)).alloc (.cells (af f) 95)
theorem RP.twice_ {W:World} {B:Nat} {cs:Array Value} {e:Ev} {v0 v:Value} {Lf L:List an} {w:World} (h:RP W B cs e v0 Lf v L w) (f:an):RP W B cs e v0 Lf v L (oB w f)∧(oB w f).ownsRow (W.heap.size+1+1+1+1) 95 9 v L.length (aH L)∧
  (∀ j u,(af f).toList[j]?=some u→(oB w f).cell? ((⟨w.heap.size+1,0,none⟩:Addr).add j)=some u)∧W.heap.size+1+1+1+1≤(oB w f).heap.size:=by
 have k:=h.keep (((Below.refl w.heap.size w).alloc (Nat.le_refl _) (.cells (af f) 95)).alloc (by simp) (.cells (af f) 95));refine⟨k,k.row,?_,by have:=k.var.lt;show _≤(oB w f).heap.size;unfold oB;omega⟩;have hb:=aj.new (w.alloc (.cells (af f) 95)) 95 (af f);have:=zQ hb;simpa[oB]using this
def yA (w:World) (f:an):World:=w.alloc (.cells (af f) 95)
theorem RP.once_ {W:World} {B:Nat} {cs:Array Value} {e:Ev} {v0 v:Value} {Lf L:List an} {w:World} (h:RP W B cs e v0 Lf v L w) (f:an):RP W B cs e v0 Lf v L (yA w f)∧(yA w f).ownsRow (W.heap.size+1+1+1+1) 95 9 v L.length (aH L)∧
  (∀ j u,(af f).toList[j]?=some u→(yA w f).cell? ((⟨w.heap.size,0,none⟩:Addr).add j)=some u)∧W.heap.size+1+1+1+1≤(yA w f).heap.size:=by
 have k:=h.keep ((Below.refl w.heap.size w).alloc (Nat.le_refl _) (.cells (af f) 95));exact⟨k,k.row,zQ (aj.new w 95 (af f)),by have:=k.var.lt;show _≤(yA w f).heap.size;unfold yA;omega⟩
theorem RP.news {W:World} {B:Nat} {cs:Array Value} {e:Ev} {v:Value} {Lf L:List an} {w:World} {g cap:Nat} (h:RP W B cs e (.slice (some ⟨g,0,none⟩) Lf.length cap) Lf v L w): ∀ j u,(aH Lf)[j]?=some u→w.cell? ((⟨g,0,none⟩:Addr).add j)=some u:=by
 intro j u hj;have hjl:=(List.getElem?_eq_some_iff.1 hj).1;rw[bI]at hjl;rcases h.src.parts with⟨e,_⟩|⟨g',cap',e,_,_,_,_,_,_,hc⟩
 ·simp at e
 ·simp only[Value.slice.injEq,Option.some.injEq,Addr.mk.injEq,and_true,true_and]at e
  obtain⟨rfl,rfl⟩:=e;rw[Addr.add_lit,Nat.zero_add,hc j hjl,hj]
theorem sh (f:an): ∀ u∈(af f).toList,u.oneCell'=true:=fun u hu=>dO (L:=[f]) (by simpa[aH]using hu)
theorem RP.after {W:World} {B:Nat} {cs:Array Value} {e:Ev} {v0 v:Value} {Lf L:List an} {w w':World} (h:RP W B cs e v0 Lf v L w) (hg:w.grownBy w' v.ownBlock):w'.cell? ⟨W.heap.size+1+1+1,0,none⟩=some v∧w'.frozen? ⟨W.heap.size+1+1+1,0,none⟩=false:=by
 have k:=h.var.grown hg (Ne.symm (h.far oM));exact⟨k.cell 0,k.frozen 0⟩
theorem RP.next {W:World} {B:Nat} {cs:Array Value} {e:Ev} {v0 v v':Value} {Lf L:List an} {w w':World} {f:an} (h:RP W B cs e v0 Lf v L w) (hg:w.grownBy w' v.ownBlock) (ho:w'.ownsRow (W.heap.size+1+1+1+1) 95 9 v' (L.length+1) (aH L++(af f).toList)):
 RP W B cs e v0 Lf v' (L++[f]) (w'.setCell ⟨W.heap.size+1+1+1,0,none⟩ v'):=h.go hg (aD.app ho)
def Hd (W:World) (B:Nat) (cs:Array Value) (e:Ev) (v0:Value) (Lf:List an) (n:Int) (i:Value) (w:World):Prop:= ∃ (k:Nat) (v:Value),k≤Lf.length∧i=.int .i64 k∧RP W B cs e v0 Lf v (fw (Lf.take k) n) w
theorem u0 (B:Nat) (v:Value) (s:St) (e:Ev) (W:World) (h:aD W B v s.fams) (hok:kn s) (hid:ba e.fam.id=true) (hk:e.kind=1):
  Calls prog 143 #[dj s v,aE e] W (cD W (am s e)):=by
 have hap:am s e=⟨s.clock,max s.next (e.fam.id+1),lS s.fams e.fam⟩:=by unfold am;rw[if_pos hk]
 have HA:=zH hok.asc;have hin:=az.1 hid;obtain⟨i0,hii,hz0,hz1,hz2⟩:=info_parts kO;have hlen:=hok.len;generalize am s e=s' at*;have HS:=zH hap;have H0:=zH (RP.start (e:=e) h);have h0:=h;clear hap h hok hid;obtain⟨sa,sc',rfl⟩:=h0.slice;obtain⟨k,⟨i,cl,su,sc,ge,ma,us,re,de⟩,id,ti⟩:=e;obtain⟨ck,nx,L⟩:=s;dsimp only at*;subst hk;clear h0;unfold dj dN aE ax;dsimp only;go_enter Tryz.func143,Tryz.ntmps143;go_wp2_with fail
 go_loopw [24] (fun i' wr=>Hd W B #[.int .i64 ck,.int .i64 nx,.slice sa L.length sc'] ⟨1,⟨i,cl,su,sc,ge,ma,us,re,de⟩,id,ti⟩ (.slice sa L.length sc') L i i' wr) (fun i' _=>L.length - (intOf i').toNat)
 case atStart=>exact⟨0,_,Nat.zero_le _,rfl,H0.out⟩
 case round=>
  obtain⟨k,v,hk,rfl,hp⟩:=hrel;have HP:=zH hp;obtain⟨va,vn,vc,rfl⟩: ∃ a n c,v=.slice a n c:=by obtain⟨a,c,hx⟩:=hp.row.slice;exact⟨_,_,_,hx⟩
  obtain⟨m0,m1,m2,mv,r0,r1,r2,z0,z1,z2⟩:=hp.cells;obtain⟨c0,c1,c2,c3,c4,c5,c6,c7,c8,c9,c10,c11⟩:=bg hp.ev;obtain⟨l0,l1,l2,l3⟩:=hp.lts;clear hp
  by_cases hlt:k<L.length
  ·obtain⟨g,rfl,_,rs⟩:=HP.out.src.lit hlt
   obtain⟨f,hf⟩: ∃ f,L[k]?=some f:=⟨_,List.getElem?_eq_getElem hlt⟩;have ho:=pU (n:=i) hf;obtain⟨fi,fcl,fsu,fsc,fge,fma,fus,fre,fde⟩:=f;obtain⟨d0,d1,d2,d3,d4,d5,d6,d7,d8⟩:=rs.nine hf;clear rs hf;dsimp only at ho
   by_cases hne:fi=i
   ·rw[if_neg (by simpa using hne),List.append_nil]at ho
    have HO:=zH ho;subst hne;clear ho;have HP1:=zH (HP.out.keep ((Below.refl wr.heap.size wr).alloc (Nat.le_refl _) (.cells (af ⟨fi,fcl,fsu,fsc,fge,fma,fus,fre,fde⟩) 95)));unfold af at HP1;dsimp only at HP1;go_wp2_with fail;go_roundw
    case rel=>exact⟨k+1,_,by omega,by go_num,by rw[HO.out];exact HP1.out⟩
    case measure=>simp[intOf];omega
   ·rw[if_pos hne]at ho
    have HO:=zH ho;clear ho;obtain⟨p1,p2,p3,p4⟩:=HP.out.twice_ ⟨fi,fcl,fsu,fsc,fge,fma,fus,fre,fde⟩;have HP1:=zH p1;have HW:=zH p2;have HN:=zH p3;have HON:=zH (sh ⟨fi,fcl,fsu,fsc,fge,fma,fus,fre,fde⟩);have HSZ:=zH p4;have hol:=nC (L.take k) i;have htl:(L.take k).length≤L.length:=by simp;omega
    clear p1 p2 p3 p4;generalize fw (L.take k) i=Lk at*;unfold oB af at HP1 HW HN HSZ HON;dsimp only at HP1 HW HN HSZ HON
    go_wp2_with
     (at_builtin;refine wpList_append_own _ rfl _ _ 81 rfl (W.heap.size+1+1+1+1) 95 i0 (.agg (af an.zero)) 9 104 underlying81 hii hz0 hz1 hz2 rfl dC _ _ _ rfl HW.out ⟨wr.heap.size+1,0,none⟩ 1 1 _ rfl rfl HN.out HON.out (by unfold maxLen;omega) oM HSZ.out ?_;intro v' w3 hown hgrow hnil
      have HG:=zH hgrow;have HX:=zH hown;obtain⟨xa,xn,xc,rfl⟩:=mf hown;obtain⟨mw,zw⟩:=HP1.out.after hgrow;clear hown hgrow hnil)
    go_roundw
    case rel=>exact⟨k+1,_,by omega,by go_num,by rw[HO.out];exact HP1.out.next HG.out HX.out⟩
    case measure=>simp[intOf];omega
  ·obtain rfl:k=L.length:=by omega
   rw[List.take_length]at HP;have hol:=nC L i;obtain⟨p1,p2,p3,p4⟩:=HP.out.once_ ⟨i,cl,su,sc,ge,ma,us,re,de⟩;have HP1:=zH p1;have HW:=zH p2;have HN:=zH p3;have HON:=zH (sh ⟨i,cl,su,sc,ge,ma,us,re,de⟩);have HSZ:=zH p4;have HSO:=zH (fun R hp hs=>vT (R:=R) HA.out (f:=⟨i,cl,su,sc,ge,ma,us,re,de⟩) hp hs);clear p1 p2 p3 p4;dsimp only at HSO;generalize fw L i=Lk at*;unfold yA af at HP1 HW HN HSZ HON;dsimp only at HP1 HW HN HSZ HON
   go_wp2_with
    (at_builtin;refine wpList_append_own _ rfl _ _ 81 rfl (W.heap.size+1+1+1+1) 95 i0 (.agg (af an.zero)) 9 104 underlying81 hii hz0 hz1 hz2 rfl dC _ _ _ rfl HW.out ⟨wr.heap.size,0,none⟩ 1 1 _ rfl rfl HN.out HON.out (by unfold maxLen;omega) oM HSZ.out ?_;intro v' w3 hown hgrow hnil
     have HG:=zH hgrow;have HX:=zH hown;obtain⟨xa,xn,xc,rfl⟩:=mf hown;obtain⟨mw,zw⟩:=HP1.out.after hgrow;clear hown hgrow hnil)
   have HP4:=zH (RP.next (f:=⟨i,cl,su,sc,ge,ma,us,re,de⟩) HP1.out HG.out HX.out);go_at_call 195;refine(E9 _ _ _ _ _ HP4.out.row (by rw[List.length_append];simp;omega) (HP4.out.var.cell 0) (HP4.out.far (Nat.le_refl _))).mono ?_;rintro x w5 ⟨rfl,R,hR1,hR2,hR3,hR4,hR5⟩;have HP5:=zH (HP4.out.turn hR5 hR4);obtain rfl:=HSO.out R hR1 hR2;clear hR1 hR2 hR3 hR4 hR5 HP1 HP4 HW HN HON HSZ HSO HG HX m0 m1 m2 mv r0 r1 r2 z0 z1 z2 c0 c1 c2 c3 c4 c5 c6 c7 c8 c9 c10 c11 mw zw l0 l1 l2 l3;obtain⟨m0,m1,m2,mv,r0,r1,r2,z0,z1,z2⟩:=HP5.out.cells;obtain⟨c0,c1,c2,c3,c4,c5,c6,c7,c8,c9,c10,c11⟩:=bg HP5.out.ev
   by_cases hle:nx≤i
   ·go_wp2_with fail
    obtain rfl:=HS.out;exact ve (HP5.out.set 1 (.int .i64 (i+1)) rfl) rfl (by show i+1=max nx (i+1);omega) rfl rfl
   ·go_wp2_with fail
    obtain rfl:=HS.out;exact ve HP5.out rfl (by show nx=max nx (i+1);omega) rfl rfl
theorem tn (B:Nat) (v:Value) (s:St) (e:Ev) (W:World) (h:aD W B v s.fams) (hok:kn s) (hk:e.kind=2):
  Calls prog 143 #[dj s v,aE e] W (cD W (am s e)):=by
 have hap:am s e=⟨s.clock,s.next,fw s.fams e.id⟩:=by rw[←u7 hok.asc];unfold am;rw[if_neg oM,if_pos hk]
 obtain⟨i0,hii,hz0,hz1,hz2⟩:=info_parts kO;have hlen:=hok.len;generalize am s e=s' at*;have HS:=zH hap;have H0:=zH (RP.start (e:=e) h);have h0:=h;clear hap h hok;obtain⟨sa,sc',rfl⟩:=h0.slice;obtain⟨k,⟨i,cl,su,sc,ge,ma,us,re,de⟩,id,ti⟩:=e;obtain⟨ck,nx,L⟩:=s;dsimp only at*;subst hk;clear h0;unfold dj dN aE ax;dsimp only;go_enter Tryz.func143,Tryz.ntmps143;go_wp2_with fail
 go_loopw [64] (fun i' wr=>Hd W B #[.int .i64 ck,.int .i64 nx,.slice sa L.length sc'] ⟨2,⟨i,cl,su,sc,ge,ma,us,re,de⟩,id,ti⟩ (.slice sa L.length sc') L id i' wr) (fun i' _=>L.length - (intOf i').toNat)
 case atStart=>exact⟨0,_,Nat.zero_le _,rfl,H0.out⟩
 case round=>
  obtain⟨k,v,hk,rfl,hp⟩:=hrel;have HP:=zH hp;obtain⟨va,vn,vc,rfl⟩: ∃ a n c,v=.slice a n c:=by obtain⟨a,c,hx⟩:=hp.row.slice;exact⟨_,_,_,hx⟩
  obtain⟨m0,m1,m2,mv,r0,r1,r2,z0,z1,z2⟩:=hp.cells;obtain⟨c0,c1,c2,c3,c4,c5,c6,c7,c8,c9,c10,c11⟩:=bg hp.ev;obtain⟨l0,l1,l2,l3⟩:=hp.lts;clear hp
  by_cases hlt:k<L.length
  ·obtain⟨g,rfl,_,rs⟩:=HP.out.src.lit hlt
   obtain⟨f,hf⟩: ∃ f,L[k]?=some f:=⟨_,List.getElem?_eq_getElem hlt⟩;have ho:=pU (n:=id) hf;obtain⟨fi,fcl,fsu,fsc,fge,fma,fus,fre,fde⟩:=f;obtain⟨d0,d1,d2,d3,d4,d5,d6,d7,d8⟩:=rs.nine hf;clear rs hf;dsimp only at ho
   by_cases hne:fi=id
   ·rw[if_neg (by simpa using hne),List.append_nil]at ho
    have HO:=zH ho;subst hne;clear ho;have HP1:=zH (HP.out.keep ((Below.refl wr.heap.size wr).alloc (Nat.le_refl _) (.cells (af ⟨fi,fcl,fsu,fsc,fge,fma,fus,fre,fde⟩) 95)));unfold af at HP1;dsimp only at HP1;go_wp2_with fail;go_roundw
    case rel=>exact⟨k+1,_,by omega,by go_num,by rw[HO.out];exact HP1.out⟩
    case measure=>simp[intOf];omega
   ·rw[if_pos hne]at ho
    have HO:=zH ho;clear ho;obtain⟨p1,p2,p3,p4⟩:=HP.out.twice_ ⟨fi,fcl,fsu,fsc,fge,fma,fus,fre,fde⟩;have HP1:=zH p1;have HW:=zH p2;have HN:=zH p3;have HON:=zH (sh ⟨fi,fcl,fsu,fsc,fge,fma,fus,fre,fde⟩);have HSZ:=zH p4;have hol:=nC (L.take k) id;have htl:(L.take k).length≤L.length:=by simp;omega
    clear p1 p2 p3 p4;generalize fw (L.take k) id=Lk at*;unfold oB af at HP1 HW HN HSZ HON;dsimp only at HP1 HW HN HSZ HON
    go_wp2_with
     (at_builtin;refine wpList_append_own _ rfl _ _ 81 rfl (W.heap.size+1+1+1+1) 95 i0 (.agg (af an.zero)) 9 104 underlying81 hii hz0 hz1 hz2 rfl dC _ _ _ rfl HW.out ⟨wr.heap.size+1,0,none⟩ 1 1 _ rfl rfl HN.out HON.out (by unfold maxLen;omega) oM HSZ.out ?_;intro v' w3 hown hgrow hnil
      have HG:=zH hgrow;have HX:=zH hown;obtain⟨xa,xn,xc,rfl⟩:=mf hown;obtain⟨mw,zw⟩:=HP1.out.after hgrow;clear hown hgrow hnil)
    go_roundw
    case rel=>exact⟨k+1,_,by omega,by go_num,by rw[HO.out];exact HP1.out.next HG.out HX.out⟩
    case measure=>simp[intOf];omega
  ·obtain rfl:k=L.length:=by omega
   rw[List.take_length]at HP;go_wp2_with fail;obtain rfl:=HS.out;exact ve HP.out rfl rfl rfl rfl
theorem rl (B:Nat) (v:Value) (s:St) (e:Ev) (W:World) (h:aD W B v s.fams) (hok:kn s) (hk:e.kind=3):
  Calls prog 143 #[dj s v,aE e] W (cD W (am s e)):=by
 have hap:am s e=⟨e.time,s.next,s.fams⟩:=by unfold am;rw[if_neg oM,if_neg oM,if_pos hk]
 obtain⟨i0,hii,hz0,hz1,hz2⟩:=info_parts kO;have hlen:=hok.len;generalize am s e=s' at*;have HS:=zH hap;have H0:=zH (RP.start (e:=e) h);have h0:=h;clear hap h hok;rcases h0.parts with⟨rfl,hnil⟩|⟨g,cap,rfl,h1,h2,h3,h4,h5,h6,h7⟩
 ·obtain⟨k,⟨i,cl,su,sc,ge,ma,us,re,de⟩,id,ti⟩:=e
  obtain⟨ck,nx,L⟩:=s;dsimp only at*;subst hk hnil;clear h0;unfold dj dN aE ax;dsimp only;go_enter Tryz.func143,Tryz.ntmps143;go_wp2_with fail;obtain rfl:=HS.out
  have hb:aj ((((W.alloc (.cells #[.int .i64 ti,.int .i64 nx,.slice none 0 0] 83)).alloc (.cells #[.int .i64 3,.int .i64 i,.string cl,.string su,.string sc,.int .i64 ge,.int .i64 ma,.int .i64 us,.string re,.bool de,.int .i64 id,.int .i64 ti] 145)).alloc (.cells #[.int .i64 ti,.int .i64 nx,.slice none 0 0] 83)).alloc (.cells #[.slice none 0 0] 81)) (W.heap.size+1+1) 83 #[.int .i64 ti,.int .i64 nx,.slice none 0 0]:=by
   have:=(aj.new ((W.alloc (.cells #[.int .i64 ti,.int .i64 nx,.slice none 0 0] 83)).alloc (.cells #[.int .i64 3,.int .i64 i,.string cl,.string su,.string sc,.int .i64 ge,.int .i64 ma,.int .i64 us,.string re,.bool de,.int .i64 id,.int .i64 ti] 145)) 83 #[.int .i64 ti,.int .i64 nx,.slice none 0 0]).alloc (.cells #[.slice none 0 0] 81);simpa using this
  refine bodyPost_ret (results_cell_row rfl _ _ _ _ _ (0,0) _ rfl hb underlying83 rfl kR) rfl ?_;exact⟨.slice none 0 0,rfl,aD.nil _ _,((((Below.refl W.heap.size W).alloc (Nat.le_refl _) _).alloc (by simp) _).alloc (by simp;omega) _).alloc (by simp;omega) _⟩
 ·obtain⟨k,⟨i,cl,su,sc,ge,ma,us,re,de⟩,id,ti⟩:=e
  obtain⟨ck,nx,L⟩:=s;dsimp only at*;subst hk;clear h0 h1 h2 h3 h4 h5 h6 h7;have HN:=zH (H0.out.news);have HW:Hid ((fq W ⟨ck,nx,L⟩ ⟨3,⟨i,cl,su,sc,ge,ma,us,re,de⟩,id,ti⟩ (.slice (some ⟨g,0,none⟩) L.length cap)).ownsRow (W.heap.size+1+1+1+1) 95 9 (.slice none 0 0) 0 []):=zH (World.ownsRow_nil _ _ _ _);have HSZ:Hid (W.heap.size+1+1+1+1≤(fq W ⟨ck,nx,L⟩ ⟨3,⟨i,cl,su,sc,ge,ma,us,re,de⟩,id,ti⟩ (.slice (some ⟨g,0,none⟩) L.length cap)).heap.size):=zH (H0.out.var.lt);have HL:=zH (bI L);have HP0:=H0;unfold fq dN ax at HW HN HSZ HP0;unfold dj dN aE ax;dsimp only at HW HN HSZ HP0 ⊢;go_enter Tryz.func143,Tryz.ntmps143
  go_wp2_with
   (at_builtin;refine wpList_append_own _ rfl _ _ 81 rfl (W.heap.size+1+1+1+1) 95 i0 (.agg (af an.zero)) 9 104 underlying81 hii hz0 hz1 hz2 rfl dC _ _ _ rfl HW.out ⟨g,0,none⟩ L.length cap (aH L) rfl HL.out HN.out (fun x hx=>dO hx) (by unfold maxLen;omega) oM HSZ.out ?_;intro v' w3 hown hgrow hnil
    have HG:=zH hgrow;have HX:=zH hown;obtain⟨xa,xn,xc,rfl⟩:=mf hown;have HP3:=zH (HP0.out.turn hgrow (aD.nil _ _));obtain⟨m0,m1,m2,mv,r0,r1,r2,z0,z1,z2⟩:=HP3.out.cells;obtain⟨c0,c1,c2,c3,c4,c5,c6,c7,c8,c9,c10,c11⟩:=bg HP3.out.ev;clear hown hgrow hnil)
  obtain rfl:=HS.out;have hr:=HX.out;rw[Nat.zero_add,List.nil_append]at hr;exact ve ((HP0.out.go HG.out (L':=L) hr).set 0 (.int .i64 ti) rfl) rfl rfl rfl rfl
theorem Bh (B:Nat) (v:Value) (s:St) (e:Ev) (W:World) (h:aD W B v s.fams) (hok:kn s) (he:dp e=true):
  Calls prog 143 #[dj s v,aE e] W (cD W (am s e)):=by
 rcases eV he with⟨h1,_,_,hf⟩|⟨h1,_⟩|⟨h1,_⟩
 ·exact u0 B v s e W h hok (bo hf).1 h1
 ·exact tn B v s e W h hok h1
 ·exact rl B v s e W h hok h1
theorem sD:cP nu.writes:=⟨by decide,by decide⟩
theorem vF: ∀ (n:Nat) (z:SS),cP z.writes→cP (lh n z).1.writes
 |0,_,h=>h
 |n+1,z,h=>by
  unfold lh;split
  ·exact h
  ·exact vF n (kD z) (xZ _)
theorem pg {z:SS} (h:cP z.writes):cP (df z).1.writes:=by
 unfold df;split
 ·exact h
 ·split
  ·exact vF _ _ h
  ·exact vF _ _ h
theorem xg {z:SS} (h:cP z.writes) (s:St):cP (ka z s).1.writes:=by
 unfold ka;split
 ·exact h
 ·exact xZ _
theorem zS {z:SS} (h:cP z.writes) (e:Ev):cP (aV z e).1.writes:=by
 unfold aV;split
 ·exact h
 ·split
  ·exact h
  ·split
   ·exact h
   ·split
    ·split
     ·exact xg (pg h) _
     ·exact pg h
    ·exact xg h _
theorem lA {α:Type} {z:SS} (h:cP z.writes) (a:α) (p:ln α):cP (ar a z p).1.writes:=by
 cases p with
 |say _ _=>exact h
 |put ev _ _=>
  show cP (if (aV z ev).2=0 then _ else _:SS×α×Int).1.writes
  split
  ·exact zS h ev
  ·exact zS h ev
theorem Gu {d:DS} (h:cP d.z.writes) (L:List (List UInt8)):cP (lp d L).1.z.writes:=by
 unfold lp;split
 ·split
  ·exact h
  ·exact h
 ·exact h
theorem vl {d:DS} (h:cP d.z.writes) (L:List (List UInt8)):cP (cX d L).1.z.writes:=by
 unfold cX;split
 ·exact h
 ·exact h
theorem Cu {d:DS} (h:cP d.z.writes) (L:List (List UInt8)):cP (gC d L).1.z.writes:=by
 unfold gC;split
 ·exact lA h _ _
 ·exact h
theorem Dl {d:DS} (h:cP d.z.writes) (L:List (List UInt8)):cP (jY d L).1.z.writes:=by
 unfold jY;split
 ·exact h
 ·exact h
theorem C1 {d:DS} (h:cP d.z.writes) (L:List (List UInt8)):cP (iH d L).1.z.writes:=by
 unfold iH;split
 ·split
  ·exact lA h _ _
  ·exact h
 ·exact h
theorem Bi {d:DS} (h:cP d.z.writes) (L:List (List UInt8)):cP (ij d L).1.z.writes:=by
 unfold ij;split
 ·exact h
 ·exact h
theorem Gq {d:DS} (h:cP d.z.writes) (L:List (List UInt8)):cP (nL d L).1.z.writes:=by
 unfold nL;split
 ·exact h
 ·exact h
theorem Du {d:DS} (h:cP d.z.writes) (L:List (List UInt8)):cP (jM d L).1.z.writes:=by
 unfold jM;split
 ·exact h
 ·exact h
theorem GH {d:DS} (h:cP d.z.writes) (L:List (List UInt8)):cP (j4 d L).1.z.writes:=by
 unfold j4;split
 ·split
  ·split
   ·exact sD
   ·exact h
  ·exact h
 ·exact h
theorem D8 {d:DS} (h:cP d.z.writes) (L:List (List UInt8)):cP (j6 d L).1.z.writes:=by
 unfold j6;split
 ·exact h
 ·exact h
theorem zu {d:DS} (h:cP d.z.writes) (L:List (List UInt8)):cP (eD d L).1.z.writes:=by
 unfold eD;split
 ·exact lA h _ _
 ·exact h
theorem EX {d:DS} (h:cP d.z.writes) (L:List (List UInt8)):cP (jI d L).1.z.writes:=by
 unfold jI;split
 ·exact pg h
 ·exact h
theorem Fj {d:DS} (h:cP d.z.writes) (L:List (List UInt8)):cP (jJ d L).1.z.writes:=by
 unfold jJ;split
 ·exact h
 ·exact h
theorem Bz {d:DS} (h:cP d.z.writes) (L:List (List UInt8)):cP (gr d L).1.z.writes:=by
 unfold gr;split
 ·exact lA h _ _
 ·exact h
theorem Gw {d:DS} (h:cP d.z.writes) (L:List (List UInt8)):cP (mF d L).1.z.writes:=by
 unfold mF;split
 ·split
  ·exact h
  ·exact h
 ·exact h
theorem DM {d:DS} (h:cP d.z.writes) (L:List (List UInt8)):cP (gS d L).1.z.writes:=by
 unfold gS;split
 ·split
  ·exact lA h _ _
  ·exact h
 ·exact h
theorem Cm {d:DS} (h:cP d.z.writes) (L:List (List UInt8)):cP (dT d L).1.z.writes:=by
 unfold dT;split
 ·split
  ·split
   ·exact h
   ·exact h
  ·exact h
 ·exact h
theorem yB {d:DS} (h:cP d.z.writes) (L:List (List UInt8)):cP (eZ d L).1.z.writes:=by
 unfold eZ;split
 ·exact h
 ·exact h
theorem Fm {d:DS} (h:cP d.z.writes) (n:List UInt8) (L:List (List UInt8)):cP (cE d n L).1.z.writes:=by
 unfold cE
 by_cases h_cut:n=jQ
 ·rw[if_pos h_cut];exact Gu h L
 rw[if_neg h_cut]
 by_cases h_families:n=cQ
 ·rw[if_pos h_families];exact vl h L
 rw[if_neg h_families]
 by_cases h_grant:n=fJ
 ·rw[if_pos h_grant];exact Cu h L
 rw[if_neg h_grant]
 by_cases h_help:n=je
 ·rw[if_pos h_help];exact Dl h L
 rw[if_neg h_help]
 by_cases h_kill:n=gA
 ·rw[if_pos h_kill];exact C1 h L
 rw[if_neg h_kill]
 by_cases h_least:n=fB
 ·rw[if_pos h_least];exact Bi h L
 rw[if_neg h_least]
 by_cases h_log:n=mT
 ·rw[if_pos h_log];exact Gq h L
 rw[if_neg h_log]
 by_cases h_mint:n=jt
 ·rw[if_pos h_mint];exact Du h L
 rw[if_neg h_mint]
 by_cases h_new:n=jc
 ·rw[if_pos h_new];exact GH h L
 rw[if_neg h_new]
 by_cases h_open:n=fg
 ·rw[if_pos h_open];exact D8 h L
 rw[if_neg h_open]
 by_cases h_rotate:n=ee
 ·rw[if_pos h_rotate];exact zu h L
 rw[if_neg h_rotate]
 by_cases h_save:n=gG
 ·rw[if_pos h_save];exact EX h L
 rw[if_neg h_save]
 by_cases h_show:n=jb
 ·rw[if_pos h_show];exact Fj h L
 rw[if_neg h_show]
 by_cases h_sweep:n=fE
 ·rw[if_pos h_sweep];exact Bz h L
 rw[if_neg h_sweep]
 by_cases h_tag:n=jp
 ·rw[if_pos h_tag];exact Gw h L
 rw[if_neg h_tag]
 by_cases h_tick:n=jd
 ·rw[if_pos h_tick];exact DM h L
 rw[if_neg h_tick]
 by_cases h_token:n=fx
 ·rw[if_pos h_token];exact Cm h L
 rw[if_neg h_token]
 by_cases h_writes:n=eh
 ·rw[if_pos h_writes];exact yB h L
 rw[if_neg h_writes];exact h
theorem xD {d:DS} (h:cP d.z.writes) (l:List UInt8):cP (cJ d l).1.z.writes:=by
 unfold cJ;split
 ·exact h
 ·exact Fm h _ _
def sm (x:Int):Prop:=0≤x∧x≤20
theorem sm.ok {x:Int} (h:sm x):cP x:=⟨by have:=h.1;omega,by have:=h.2;omega⟩
theorem s_0:sm 0:=⟨dC,dC⟩
theorem s_1:sm 1:=⟨dC,dC⟩
theorem s_2:sm 2:=⟨dC,dC⟩
theorem s_3:sm 3:=⟨dC,dC⟩
theorem s_4:sm 4:=⟨dC,dC⟩
theorem s_5:sm 5:=⟨dC,dC⟩
theorem s_6:sm 6:=⟨dC,dC⟩
theorem s_7:sm 7:=⟨dC,dC⟩
theorem s_8:sm 8:=⟨dC,dC⟩
theorem s_9:sm 9:=⟨dC,dC⟩
theorem s_10:sm 10:=⟨dC,dC⟩
theorem s_11:sm 11:=⟨dC,dC⟩
theorem s_12:sm 12:=⟨dC,dC⟩
theorem s_13:sm 13:=⟨dC,dC⟩
theorem s_14:sm 14:=⟨dC,dC⟩
theorem s_15:sm 15:=⟨dC,dC⟩
theorem bA (s:List UInt8):sm (aw s):=by
 rcases vg s with h|h|h<;>rw[h]<;>first|exact s_0|exact s_1|exact s_2|exact s_3|exact s_4|exact s_5|exact s_6|exact s_7|exact s_8|exact s_9|exact s_10|exact s_11|exact s_12|exact s_13|exact s_14|exact s_15
theorem dg (z:SS):sm (df z).2:=by
 unfold df
 (repeat' split)<;>first|assumption|exact bA _|exact s_0|exact s_1|exact s_2|exact s_3|exact s_4|exact s_5|exact s_6|exact s_7|exact s_8|exact s_9|exact s_10|exact s_11|exact s_12|exact s_13|exact s_14|exact s_15
theorem AB (z:SS) (s:St):sm (ka z s).2:=by
 unfold ka
 (repeat' split)<;>first|assumption|exact bA _|exact s_0|exact s_1|exact s_2|exact s_3|exact s_4|exact s_5|exact s_6|exact s_7|exact s_8|exact s_9|exact s_10|exact s_11|exact s_12|exact s_13|exact s_14|exact s_15
theorem Hk (z:SS) (e:Ev):sm (aV z e).2:=by
 have h1:=dg z;have h2:=AB z (am z.s e);have h3:=AB (df z).1 (am z.s e);unfold aV
 (repeat' split)<;>first|assumption|exact bA _|exact s_0|exact s_1|exact s_2|exact s_3|exact s_4|exact s_5|exact s_6|exact s_7|exact s_8|exact s_9|exact s_10|exact s_11|exact s_12|exact s_13|exact s_14|exact s_15
def tJ {α:Type}:ln α→Int
 | .say _ e=>e
 | .put _ _ e=>e
theorem ap {α:Type} (a:α) (z:SS) (p:ln α) (h:sm (tJ p)):sm (ar a z p).2.2:=by
 cases p with
 |say _ e=>exact h
 |put ev b e=>
  show sm (if (aV z ev).2=0 then((aV z ev).1,b,e)else((aV z ev).1,a,(aV z ev).2):SS×α×Int).2.2
  split
  ·exact h
  ·exact Hk z ev
theorem Iw (r:Ru) (t:ByteArray):sm (a8 r t).1:=by
 unfold a8 iV
 (repeat' split)<;>first|assumption|exact bA _|exact s_0|exact s_1|exact s_2|exact s_3|exact s_4|exact s_5|exact s_6|exact s_7|exact s_8|exact s_9|exact s_10|exact s_11|exact s_12|exact s_13|exact s_14|exact s_15
theorem uK (r:Ru) (s:St) (t:ByteArray) (k:Int):sm (gO r s t k).e:=by
 have h1:=Iw r t;unfold gO
 (repeat' split)<;>first|assumption|exact bA _|exact s_0|exact s_1|exact s_2|exact s_3|exact s_4|exact s_5|exact s_6|exact s_7|exact s_8|exact s_9|exact s_10|exact s_11|exact s_12|exact s_13|exact s_14|exact s_15
theorem dA (s:St) (id:Int):sm (tJ (eF s id)):=by
 unfold eF
 (repeat' split)<;>first|exact s_0|exact s_1|exact s_2|exact s_3|exact s_4|exact s_5|exact s_6|exact s_7|exact s_8|exact s_9|exact s_10|exact s_11|exact s_12|exact s_13|exact s_14|exact s_15
theorem dy (s:St) (n:Int):sm (tJ (dY s n)):=by
 unfold dY
 (repeat' split)<;>first|exact s_0|exact s_1|exact s_2|exact s_3|exact s_4|exact s_5|exact s_6|exact s_7|exact s_8|exact s_9|exact s_10|exact s_11|exact s_12|exact s_13|exact s_14|exact s_15
theorem cN (r:Ru) (s:St):sm (tJ (bW r s)):=by
 unfold bW
 (repeat' split)<;>first|exact s_0|exact s_1|exact s_2|exact s_3|exact s_4|exact s_5|exact s_6|exact s_7|exact s_8|exact s_9|exact s_10|exact s_11|exact s_12|exact s_13|exact s_14|exact s_15
theorem cL (r:Ru) (s:St) (a b c:ByteArray):sm (tJ (bL r s a b c)):=by
 unfold bL
 (repeat' split)<;>first|exact bA _|exact s_0|exact s_1|exact s_2|exact s_3|exact s_4|exact s_5|exact s_6|exact s_7|exact s_8|exact s_9|exact s_10|exact s_11|exact s_12|exact s_13|exact s_14|exact s_15
theorem cm (r:Ru) (s:St) (a b c:ByteArray):sm (tJ (dG r s a b c)):=by
 have h:=uK r s a 1;unfold dG;split
 ·first|exact s_0|exact s_1|exact s_2|exact s_3|exact s_4|exact s_5|exact s_6|exact s_7|exact s_8|exact s_9|exact s_10|exact s_11|exact s_12|exact s_13|exact s_14|exact s_15
 ·generalize gO r s a 1=l at*
  unfold cZ
  (repeat' split)<;>first|exact h|exact bA _|exact s_0|exact s_1|exact s_2|exact s_3|exact s_4|exact s_5|exact s_6|exact s_7|exact s_8|exact s_9|exact s_10|exact s_11|exact s_12|exact s_13|exact s_14|exact s_15
theorem dw (r:Ru) (s:St) (t:ByteArray):sm (jL r s t).2:=by
 have h:=uK r s t 1;unfold jL;generalize gO r s t 1=l at*;unfold Ax
 (repeat' split)<;>first|assumption|exact bA _|exact s_0|exact s_1|exact s_2|exact s_3|exact s_4|exact s_5|exact s_6|exact s_7|exact s_8|exact s_9|exact s_10|exact s_11|exact s_12|exact s_13|exact s_14|exact s_15
theorem dx (r:Ru) (s:St) (t:ByteArray):sm (iI r s t).2:=by
 have h:=uK r s t 2;unfold iI;generalize gO r s t 2=l at*;unfold Ae
 (repeat' split)<;>first|assumption|exact bA _|exact s_0|exact s_1|exact s_2|exact s_3|exact s_4|exact s_5|exact s_6|exact s_7|exact s_8|exact s_9|exact s_10|exact s_11|exact s_12|exact s_13|exact s_14|exact s_15
theorem Hu (d:DS) (L:List (List UInt8)):sm (lp d L).2.2:=by
 unfold lp
 (repeat' split)<;>first|exact s_0|exact s_1|exact s_2|exact s_3|exact s_4|exact s_5|exact s_6|exact s_7|exact s_8|exact s_9|exact s_10|exact s_11|exact s_12|exact s_13|exact s_14|exact s_15|exact dg _|exact bA _|exact dw _ _ _|exact dx _ _ _|exact ap _ _ _ (cL _ _ _ _ _)|exact ap _ _ _ (cm _ _ _ _ _)|exact ap _ _ _ (dA _ _)|exact ap _ _ _ (dy _ _)|exact ap _ _ _ (cN _ _)
theorem wd (d:DS) (L:List (List UInt8)):sm (cX d L).2.2:=by
 unfold cX
 (repeat' split)<;>first|exact s_0|exact s_1|exact s_2|exact s_3|exact s_4|exact s_5|exact s_6|exact s_7|exact s_8|exact s_9|exact s_10|exact s_11|exact s_12|exact s_13|exact s_14|exact s_15|exact dg _|exact bA _|exact dw _ _ _|exact dx _ _ _|exact ap _ _ _ (cL _ _ _ _ _)|exact ap _ _ _ (cm _ _ _ _ _)|exact ap _ _ _ (dA _ _)|exact ap _ _ _ (dy _ _)|exact ap _ _ _ (cN _ _)
theorem Ei (d:DS) (L:List (List UInt8)):sm (gC d L).2.2:=by
 unfold gC
 (repeat' split)<;>first|exact s_0|exact s_1|exact s_2|exact s_3|exact s_4|exact s_5|exact s_6|exact s_7|exact s_8|exact s_9|exact s_10|exact s_11|exact s_12|exact s_13|exact s_14|exact s_15|exact dg _|exact bA _|exact dw _ _ _|exact dx _ _ _|exact ap _ _ _ (cL _ _ _ _ _)|exact ap _ _ _ (cm _ _ _ _ _)|exact ap _ _ _ (dA _ _)|exact ap _ _ _ (dy _ _)|exact ap _ _ _ (cN _ _)
theorem GC (d:DS) (L:List (List UInt8)):sm (jY d L).2.2:=by
 unfold jY
 (repeat' split)<;>first|exact s_0|exact s_1|exact s_2|exact s_3|exact s_4|exact s_5|exact s_6|exact s_7|exact s_8|exact s_9|exact s_10|exact s_11|exact s_12|exact s_13|exact s_14|exact s_15|exact dg _|exact bA _|exact dw _ _ _|exact dx _ _ _|exact ap _ _ _ (cL _ _ _ _ _)|exact ap _ _ _ (cm _ _ _ _ _)|exact ap _ _ _ (dA _ _)|exact ap _ _ _ (dy _ _)|exact ap _ _ _ (cN _ _)
theorem GG (d:DS) (L:List (List UInt8)):sm (iH d L).2.2:=by
 unfold iH
 (repeat' split)<;>first|exact s_0|exact s_1|exact s_2|exact s_3|exact s_4|exact s_5|exact s_6|exact s_7|exact s_8|exact s_9|exact s_10|exact s_11|exact s_12|exact s_13|exact s_14|exact s_15|exact dg _|exact bA _|exact dw _ _ _|exact dx _ _ _|exact ap _ _ _ (cL _ _ _ _ _)|exact ap _ _ _ (cm _ _ _ _ _)|exact ap _ _ _ (dA _ _)|exact ap _ _ _ (dy _ _)|exact ap _ _ _ (cN _ _)
theorem C6 (d:DS) (L:List (List UInt8)):sm (ij d L).2.2:=by
 unfold ij
 (repeat' split)<;>first|exact s_0|exact s_1|exact s_2|exact s_3|exact s_4|exact s_5|exact s_6|exact s_7|exact s_8|exact s_9|exact s_10|exact s_11|exact s_12|exact s_13|exact s_14|exact s_15|exact dg _|exact bA _|exact dw _ _ _|exact dx _ _ _|exact ap _ _ _ (cL _ _ _ _ _)|exact ap _ _ _ (cm _ _ _ _ _)|exact ap _ _ _ (dA _ _)|exact ap _ _ _ (dy _ _)|exact ap _ _ _ (cN _ _)
theorem IS (d:DS) (L:List (List UInt8)):sm (nL d L).2.2:=by
 unfold nL
 (repeat' split)<;>first|exact s_0|exact s_1|exact s_2|exact s_3|exact s_4|exact s_5|exact s_6|exact s_7|exact s_8|exact s_9|exact s_10|exact s_11|exact s_12|exact s_13|exact s_14|exact s_15|exact dg _|exact bA _|exact dw _ _ _|exact dx _ _ _|exact ap _ _ _ (cL _ _ _ _ _)|exact ap _ _ _ (cm _ _ _ _ _)|exact ap _ _ _ (dA _ _)|exact ap _ _ _ (dy _ _)|exact ap _ _ _ (cN _ _)
theorem GW (d:DS) (L:List (List UInt8)):sm (jM d L).2.2:=by
 unfold jM
 (repeat' split)<;>first|exact s_0|exact s_1|exact s_2|exact s_3|exact s_4|exact s_5|exact s_6|exact s_7|exact s_8|exact s_9|exact s_10|exact s_11|exact s_12|exact s_13|exact s_14|exact s_15|exact dg _|exact bA _|exact dw _ _ _|exact dx _ _ _|exact ap _ _ _ (cL _ _ _ _ _)|exact ap _ _ _ (cm _ _ _ _ _)|exact ap _ _ _ (dA _ _)|exact ap _ _ _ (dy _ _)|exact ap _ _ _ (cN _ _)
theorem IH (d:DS) (L:List (List UInt8)):sm (j4 d L).2.2:=by
 unfold j4
 (repeat' split)<;>first|exact s_0|exact s_1|exact s_2|exact s_3|exact s_4|exact s_5|exact s_6|exact s_7|exact s_8|exact s_9|exact s_10|exact s_11|exact s_12|exact s_13|exact s_14|exact s_15|exact dg _|exact bA _|exact dw _ _ _|exact dx _ _ _|exact ap _ _ _ (cL _ _ _ _ _)|exact ap _ _ _ (cm _ _ _ _ _)|exact ap _ _ _ (dA _ _)|exact ap _ _ _ (dy _ _)|exact ap _ _ _ (cN _ _)
theorem GF (d:DS) (L:List (List UInt8)):sm (j6 d L).2.2:=by
 unfold j6
 (repeat' split)<;>first|exact s_0|exact s_1|exact s_2|exact s_3|exact s_4|exact s_5|exact s_6|exact s_7|exact s_8|exact s_9|exact s_10|exact s_11|exact s_12|exact s_13|exact s_14|exact s_15|exact dg _|exact bA _|exact dw _ _ _|exact dx _ _ _|exact ap _ _ _ (cL _ _ _ _ _)|exact ap _ _ _ (cm _ _ _ _ _)|exact ap _ _ _ (dA _ _)|exact ap _ _ _ (dy _ _)|exact ap _ _ _ (cN _ _)
theorem A9 (d:DS) (L:List (List UInt8)):sm (eD d L).2.2:=by
 unfold eD
 (repeat' split)<;>first|exact s_0|exact s_1|exact s_2|exact s_3|exact s_4|exact s_5|exact s_6|exact s_7|exact s_8|exact s_9|exact s_10|exact s_11|exact s_12|exact s_13|exact s_14|exact s_15|exact dg _|exact bA _|exact dw _ _ _|exact dx _ _ _|exact ap _ _ _ (cL _ _ _ _ _)|exact ap _ _ _ (cm _ _ _ _ _)|exact ap _ _ _ (dA _ _)|exact ap _ _ _ (dy _ _)|exact ap _ _ _ (cN _ _)
theorem Gy (d:DS) (L:List (List UInt8)):sm (jI d L).2.2:=by
 unfold jI
 (repeat' split)<;>first|exact s_0|exact s_1|exact s_2|exact s_3|exact s_4|exact s_5|exact s_6|exact s_7|exact s_8|exact s_9|exact s_10|exact s_11|exact s_12|exact s_13|exact s_14|exact s_15|exact dg _|exact bA _|exact dw _ _ _|exact dx _ _ _|exact ap _ _ _ (cL _ _ _ _ _)|exact ap _ _ _ (cm _ _ _ _ _)|exact ap _ _ _ (dA _ _)|exact ap _ _ _ (dy _ _)|exact ap _ _ _ (cN _ _)
theorem FV (d:DS) (L:List (List UInt8)):sm (jJ d L).2.2:=by
 unfold jJ
 (repeat' split)<;>first|exact s_0|exact s_1|exact s_2|exact s_3|exact s_4|exact s_5|exact s_6|exact s_7|exact s_8|exact s_9|exact s_10|exact s_11|exact s_12|exact s_13|exact s_14|exact s_15|exact dg _|exact bA _|exact dw _ _ _|exact dx _ _ _|exact ap _ _ _ (cL _ _ _ _ _)|exact ap _ _ _ (cm _ _ _ _ _)|exact ap _ _ _ (dA _ _)|exact ap _ _ _ (dy _ _)|exact ap _ _ _ (cN _ _)
theorem Dq (d:DS) (L:List (List UInt8)):sm (gr d L).2.2:=by
 unfold gr
 (repeat' split)<;>first|exact s_0|exact s_1|exact s_2|exact s_3|exact s_4|exact s_5|exact s_6|exact s_7|exact s_8|exact s_9|exact s_10|exact s_11|exact s_12|exact s_13|exact s_14|exact s_15|exact dg _|exact bA _|exact dw _ _ _|exact dx _ _ _|exact ap _ _ _ (cL _ _ _ _ _)|exact ap _ _ _ (cm _ _ _ _ _)|exact ap _ _ _ (dA _ _)|exact ap _ _ _ (dy _ _)|exact ap _ _ _ (cN _ _)
theorem IG (d:DS) (L:List (List UInt8)):sm (mF d L).2.2:=by
 unfold mF
 (repeat' split)<;>first|exact s_0|exact s_1|exact s_2|exact s_3|exact s_4|exact s_5|exact s_6|exact s_7|exact s_8|exact s_9|exact s_10|exact s_11|exact s_12|exact s_13|exact s_14|exact s_15|exact dg _|exact bA _|exact dw _ _ _|exact dx _ _ _|exact ap _ _ _ (cL _ _ _ _ _)|exact ap _ _ _ (cm _ _ _ _ _)|exact ap _ _ _ (dA _ _)|exact ap _ _ _ (dy _ _)|exact ap _ _ _ (cN _ _)
theorem FO (d:DS) (L:List (List UInt8)):sm (gS d L).2.2:=by
 unfold gS
 (repeat' split)<;>first|exact s_0|exact s_1|exact s_2|exact s_3|exact s_4|exact s_5|exact s_6|exact s_7|exact s_8|exact s_9|exact s_10|exact s_11|exact s_12|exact s_13|exact s_14|exact s_15|exact dg _|exact bA _|exact dw _ _ _|exact dx _ _ _|exact ap _ _ _ (cL _ _ _ _ _)|exact ap _ _ _ (cm _ _ _ _ _)|exact ap _ _ _ (dA _ _)|exact ap _ _ _ (dy _ _)|exact ap _ _ _ (cN _ _)
theorem Fy (d:DS) (L:List (List UInt8)):sm (dT d L).2.2:=by
 unfold dT
 (repeat' split)<;>first|exact s_0|exact s_1|exact s_2|exact s_3|exact s_4|exact s_5|exact s_6|exact s_7|exact s_8|exact s_9|exact s_10|exact s_11|exact s_12|exact s_13|exact s_14|exact s_15|exact dg _|exact bA _|exact dw _ _ _|exact dx _ _ _|exact ap _ _ _ (cL _ _ _ _ _)|exact ap _ _ _ (cm _ _ _ _ _)|exact ap _ _ _ (dA _ _)|exact ap _ _ _ (dy _ _)|exact ap _ _ _ (cN _ _)
theorem Cx (d:DS) (L:List (List UInt8)):sm (eZ d L).2.2:=by
 unfold eZ
 (repeat' split)<;>first|exact s_0|exact s_1|exact s_2|exact s_3|exact s_4|exact s_5|exact s_6|exact s_7|exact s_8|exact s_9|exact s_10|exact s_11|exact s_12|exact s_13|exact s_14|exact s_15|exact dg _|exact bA _|exact dw _ _ _|exact dx _ _ _|exact ap _ _ _ (cL _ _ _ _ _)|exact ap _ _ _ (cm _ _ _ _ _)|exact ap _ _ _ (dA _ _)|exact ap _ _ _ (dy _ _)|exact ap _ _ _ (cN _ _)
theorem qh (d:DS) (n:List UInt8) (L:List (List UInt8)):sm (cE d n L).2.2:=by
 unfold cE
 by_cases h_cut:n=jQ
 ·rw[if_pos h_cut];exact Hu d L
 rw[if_neg h_cut]
 by_cases h_families:n=cQ
 ·rw[if_pos h_families];exact wd d L
 rw[if_neg h_families]
 by_cases h_grant:n=fJ
 ·rw[if_pos h_grant];exact Ei d L
 rw[if_neg h_grant]
 by_cases h_help:n=je
 ·rw[if_pos h_help];exact GC d L
 rw[if_neg h_help]
 by_cases h_kill:n=gA
 ·rw[if_pos h_kill];exact GG d L
 rw[if_neg h_kill]
 by_cases h_least:n=fB
 ·rw[if_pos h_least];exact C6 d L
 rw[if_neg h_least]
 by_cases h_log:n=mT
 ·rw[if_pos h_log];exact IS d L
 rw[if_neg h_log]
 by_cases h_mint:n=jt
 ·rw[if_pos h_mint];exact GW d L
 rw[if_neg h_mint]
 by_cases h_new:n=jc
 ·rw[if_pos h_new];exact IH d L
 rw[if_neg h_new]
 by_cases h_open:n=fg
 ·rw[if_pos h_open];exact GF d L
 rw[if_neg h_open]
 by_cases h_rotate:n=ee
 ·rw[if_pos h_rotate];exact A9 d L
 rw[if_neg h_rotate]
 by_cases h_save:n=gG
 ·rw[if_pos h_save];exact Gy d L
 rw[if_neg h_save]
 by_cases h_show:n=jb
 ·rw[if_pos h_show];exact FV d L
 rw[if_neg h_show]
 by_cases h_sweep:n=fE
 ·rw[if_pos h_sweep];exact Dq d L
 rw[if_neg h_sweep]
 by_cases h_tag:n=jp
 ·rw[if_pos h_tag];exact IG d L
 rw[if_neg h_tag]
 by_cases h_tick:n=jd
 ·rw[if_pos h_tick];exact FO d L
 rw[if_neg h_tick]
 by_cases h_token:n=fx
 ·rw[if_pos h_token];exact Fy d L
 rw[if_neg h_token]
 by_cases h_writes:n=eh
 ·rw[if_pos h_writes];exact Cx d L
 rw[if_neg h_writes]
 first|exact s_0|exact s_1|exact s_2|exact s_3|exact s_4|exact s_5|exact s_6|exact s_7|exact s_8|exact s_9|exact s_10|exact s_11|exact s_12|exact s_13|exact s_14|exact s_15
end Go.Proofs.YtepjcdjpikbbjaaGreatDoor
