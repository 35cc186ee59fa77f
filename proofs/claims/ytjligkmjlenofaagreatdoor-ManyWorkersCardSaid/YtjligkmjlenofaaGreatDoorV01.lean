/- Part of the proof. -/
import Derived.Test.YtjligkmjlenofaaGreatDoorV00
import Derived.Test.YtjligkmjlenofaaGreatDoorProg
import Derived.WalkSpells
import Derived.WalkLawsBesides
namespace Go.Proofs.YtjligkmjlenofaaGreatDoor
open Go.Proofs.Tryz
open Go.RowKit
variable{p:Addr}{B:Nat}{a b c:World}
def aC(w:World)(g:Nat)(t:TypeId)(cs:Array Value):Prop:=w.heap[g]?=some (.cells cs t (0,0))
section
variable{w w':World}{g:Nat}{t:TypeId}{cs:Array Value}
theorem aC.lt(h:aC w g t cs):g<w.heap.size:=by
 rcases Nat.lt_or_ge g w.heap.size with aE|Qk
 ·exact aE
 ·unfold aC at h;rw[Array.getElem?_eq_none Qk]at h;cases h
theorem aC.cell(h:aC w g t cs)(i:Nat):w.cell? ⟨g,i,none⟩=cs[i]?:=cell_of_row w g i cs t (0,0) h
theorem aC.frozen(h:aC w g t cs)(i:Nat):w.frozen? ⟨g,i,none⟩=false:=by
 unfold aC at h;simp[World.frozen?,h]
theorem aC.new(w:World)(t:TypeId)(cs:Array Value):aC (w.alloc (.cells cs t)) w.heap.size t cs:=heap_alloc_new w _
theorem aC.drew(h:aC w g t cs):aC w.drew g t cs:=h
theorem aC.drewN(h:aC w g t cs)(n:Nat):aC (w.drewN n) g t cs:=h
theorem aC.alloc(h:aC w g t cs)(o:Obj):aC (w.alloc o) g t cs:=(Below.heap_alloc w o g h.lt).T h
theorem aC.kX(h:aC w g t cs)(i:Nat)(u:Value):aC (w.setCell ⟨g,i,none⟩ u) g t (cs.setIfInBounds i u):=by
 unfold aC at h ⊢;simp[World.setCell,Array.getElem?_modify,h]
theorem aC.eO(h:aC w g t cs)(hp:g≠p.block)(u:Value):aC (w.setCell p u) g t cs:=(Below.heap_setCell w p u g hp).T h
theorem aC.below(h:aC w g t cs)(hb:Below B w w')(hg:g<B):aC w' g t cs:=(hb.block g hg).T h
theorem aC.aj(h:aC w g t cs)(hb:Below w.heap.size w w'):aC w' g t cs:=(hb.block g h.lt).T h
theorem aC.grown{row:Option Nat}(h:aC w g t cs)(hb:w.grownBy w' row)(hg:some g≠row):aC w' g t cs:=(hb.block g h.lt hg).T h
theorem aC.Gx{g':Nat}{t':TypeId}{cs':Array Value}(h:aC w g t cs)(h':aC w g' t' cs')(eZ:t≠t'):g≠g':=by
 rintro rfl;unfold aC at h h';rw[h]at h';injection h' with h'
 injection h' with _ ht
 exact eZ ht
end
theorem below_drewN{w:World}(h:Below B a w)(n:Nat):Below B a (w.drewN n):=⟨h.os,h.tape,h.output,h.size,h.block⟩
theorem zI{w:World}{row:Option Nat}(h:a.grownBy w row):a.grownBy w.drew row:=⟨h.os,h.tape,h.output,h.size,h.block⟩
theorem ak{w:World}{g:Nat}(h:a.grownBy w (some g))(hp:p.block=g\/a.heap.size<=p.block)(u:Value):a.grownBy (w.setCell p u) (some g):=
 ⟨h.os,h.tape,h.output,by simpa[World.setCell]using h.size,fun i hi eZ=>(Below.heap_setCell w p u i (by
  rintro rfl;rcases hp with hp|hp
  ·exact eZ (by rw[hp])
  ·omega)).T (h.block i hi eZ)⟩
theorem fV{w:World}(h:Below a.heap.size a w)(row:Option Nat):a.grownBy w row:=⟨h.os,h.tape,h.output,h.size,fun i hi _=>h.block i hi⟩
theorem dU(a:World)(row:Option Nat):a.grownBy a row:=World.grownBy.refl a row
theorem jD{g:Nat}(h:a.grownBy b (some g))(k:b.grownBy c (some g)):a.grownBy c (some g):=
 ⟨k.os.T h.os,k.tape.T h.tape,k.output.T h.output,Nat.le_trans h.size k.size,fun i hi hn=>(k.block i (Nat.lt_of_lt_of_le hi h.size) hn).T (h.block i hi hn)⟩
theorem oC{g:Nat}(h:a.grownBy b (some g))(k:Below b.heap.size b c):a.grownBy c (some g):=jD h (fV k _)
theorem fT{g:Nat}(h:Below B a b)(k:b.grownBy c (some g))(hB:B<=g)(hs:B<=b.heap.size):Below B a c:=
 h.grown k hs fun i e=>by injection e with e;omega
theorem below_2{W:World}(h1:Below W.heap.size W a)(h2:Below a.heap.size a b):Below W.heap.size W b:=h1.T (h2.mono h1.size)
end Go.Proofs.YtjligkmjlenofaaGreatDoor
