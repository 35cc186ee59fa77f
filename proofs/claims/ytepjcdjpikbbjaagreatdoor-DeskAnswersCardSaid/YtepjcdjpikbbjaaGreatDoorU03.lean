/-
  The contracts of package disk: a Disk known whole (its blocks, cut, left, writes).
-/
import Derived.Test.YtepjcdjpikbbjaaGreatDoorU00
import Derived.Test.YtepjcdjpikbbjaaGreatDoorU01
namespace Go.Proofs.YtepjcdjpikbbjaaGreatDoor
open Go.Proofs.Tryz
open Go.RowKit
structure Dk where
 blk:List ByteArray
 cut:Bool
 left:Int
 writes:Int
def Dk.cells (D:Dk):Array Value:=(D.blk.map Value.string++[Value.bool D.cut,Value.int .i64 D.left,Value.int .i64 D.writes]).toArray
structure bc (w:World) (b:Nat) (D:Dk):Prop where
 at_:aj w b 65 D.cells
 len:D.blk.length=90
theorem Dk.size (D:Dk) (h:D.blk.length=90):D.cells.size=93:=by simp[Dk.cells,h]
theorem Dk.cut_ (D:Dk) (h:D.blk.length=90):D.cells[90]?=some (.bool D.cut):=by
 simp only[Dk.cells,List.getElem?_toArray];rw[List.getElem?_append_right (by simp[h])];simp[h]
theorem Dk.left_ (D:Dk) (h:D.blk.length=90):D.cells[91]?=some (.int .i64 D.left):=by
 simp only[Dk.cells,List.getElem?_toArray];rw[List.getElem?_append_right (by simp[h])];simp[h]
theorem Dk.writes_ (D:Dk) (h:D.blk.length=90):D.cells[92]?=some (.int .i64 D.writes):=by
 simp only[Dk.cells,List.getElem?_toArray];rw[List.getElem?_append_right (by simp[h])];simp[h]
theorem Dk.blk_ (D:Dk) (h:D.blk.length=90) (k:Nat) (hk:k<90):D.cells[k]?=some (.string (D.blk.getD k ByteArray.empty)):=by
 simp only[Dk.cells,List.getElem?_toArray];rw[List.getElem?_append_left (by simp[h];omega)];simp[List.getD,List.getElem?_eq_getElem (show k<D.blk.length by omega)]
section
variable {w:World} {b:Nat} {D:Dk}
theorem bc.cut (h:bc w b D):w.cell? ⟨b,90,none⟩=some (.bool D.cut):=(h.at_.cell 90).trans (D.cut_ h.len)
theorem bc.left (h:bc w b D):w.cell? ⟨b,91,none⟩=some (.int .i64 D.left):=(h.at_.cell 91).trans (D.left_ h.len)
theorem bc.writes (h:bc w b D):w.cell? ⟨b,92,none⟩=some (.int .i64 D.writes):=(h.at_.cell 92).trans (D.writes_ h.len)
theorem bc.blk (h:bc w b D) (k:Nat) (hk:k<90):w.cell? ⟨b,k,none⟩=some (.string (D.blk.getD k ByteArray.empty)):=(h.at_.cell k).trans (D.blk_ h.len k hk)
end
section
variable {w w':World} {b:Nat} {D:Dk}
theorem bc.below (h:bc w b D) (hb:Below w.heap.size w w'):bc w' b D:=⟨h.at_.below' hb,h.len⟩
theorem bc.alloc (h:bc w b D) (o:Obj):bc (w.alloc o) b D:=⟨h.at_.alloc o,h.len⟩
theorem bc.drewN (h:bc w b D) (n:Nat):bc (w.drewN n) b D:=⟨h.at_,h.len⟩
theorem bc.grown (h:bc w b D) {row:Option Nat} (hg:w.grownBy w' row) (hne:some b≠row):bc w' b D:=⟨h.at_.grown hg hne,h.len⟩
end
theorem x9 (b:Nat) (D:Dk) (w:World) (h:bc w b D):
  Calls prog 137 #[.pointer (some ⟨b,0,none⟩)] w fun e w'=>e=.returned (.int .i64 D.writes)∧w=w':=by
 have hc:=h.writes;go_enter Tryz.func137,Tryz.ntmps137
 go_wp2
 go_ret;exact⟨rfl,rfl⟩
theorem iW (b:Nat) (D:Dk) (k:Nat) (w:World) (h:bc w b D) (hk:k<90):
  Calls prog 104 #[.pointer (some ⟨b,0,none⟩),.int .i64 k] w fun e w'=>e=.returned (.tuple #[.string (D.blk.getD k ByteArray.empty),.nilIface])∧w=w':=by
 have hc:=h.blk k hk;go_enter Tryz.func104,Tryz.ntmps104
 go_wp2
 go_ret2;exact⟨rfl,rfl⟩
theorem jq (b:Nat) (D:Dk) (k:Int) (s:ByteArray) (w:World) (h:bc w b D) (hk:0≤k) (hk2:k<90) (hs:s.size≤240) (hcut:D.cut=true) (hl:D.left=0):
  Calls prog 187 #[.pointer (some ⟨b,0,none⟩),.int .i64 k,.string s] w fun e w'=>e=.returned (.iface 57 (.int .i64 14))∧w=w':=by
 have hc:=h.cut;have h1:=h.left;rw[hcut]at hc;rw[hl]at h1;clear hcut hl;go_enter Tryz.func187,Tryz.ntmps187
 go_wp2
 go_ret;exact⟨rfl,rfl⟩
def Dk.put (D:Dk) (k:Nat) (s:ByteArray):Dk:={D with blk:=D.blk.set k s,left:=wrap64 (D.left - 1),writes:=wrap64 (D.writes+1)}
theorem Dk.put_cells (D:Dk) (k:Nat) (s:ByteArray) (h:D.blk.length=90) (hk:k<90):
  ((D.cells.setIfInBounds 91 (.int .i64 (wrap64 (D.left - 1)))).setIfInBounds 92 (.int .i64 (wrap64 (D.writes+1)))).setIfInBounds k (.string s)=(D.put k s).cells:=by
 simp only[Dk.cells,Dk.put,List.setIfInBounds_toArray]
 congr 1
 rw[List.set_append_right _ _ (by simp[h]),List.set_append_right _ _ (by simp[h]),List.set_append_left _ _ (by simp[h];omega)];simp[h,List.map_set]
theorem bc.put {w:World} {b:Nat} {D:Dk} (h:bc w b D) (k:Nat) (s:ByteArray) (hk:k<90):
  bc (((w.setCell ⟨b,91,none⟩ (.int .i64 (wrap64 (D.left - 1)))).setCell ⟨b,92,none⟩ (.int .i64 (wrap64 (D.writes+1)))).setCell ⟨b,k,none⟩ (.string s)) b (D.put k s):=by
 refine⟨?_,by simp[Dk.put,h.len]⟩;rw[←Dk.put_cells D k s h.len hk];exact((h.at_.set_ 91 _).set_ 92 _).set_ k _
theorem bc.put_ends {w:World} {b:Nat} {D:Dk} (h:bc w b D) (k:Nat) (s:ByteArray) (hk:k<90) (w':World) (e:w'=(((w.setCell ⟨b,91,none⟩ (.int .i64 (wrap64 (D.left - 1)))).setCell ⟨b,92,none⟩ (.int .i64 (wrap64 (D.writes+1)))).setCell ⟨b,k,none⟩ (.string s))):
  bc w' b (D.put k s)∧w.grownBy w' (some b):=by
 subst e;refine⟨h.put k s hk,?_⟩;refine ag ?_ (.inl rfl) _;refine ag ?_ (.inl rfl) _;refine ag ?_ (.inl rfl) _;exact bT w _
theorem mR (b:Nat) (D:Dk) (k:Nat) (s:ByteArray) (w:World) (h:bc w b D) (hk:k<90) (hs:s.size≤240) (hon:(D.cut&&D.left == 0)=false):
  Calls prog 187 #[.pointer (some ⟨b,0,none⟩),.int .i64 k,.string s] w fun e w'=>e=.returned .nilIface∧(bc w' b (D.put k s)∧w.grownBy w' (some b)):=by
 have hc:=h.cut;have h1:=h.left;have h2:=h.writes;have f1:=h.at_.frozen 91;have f2:=h.at_.frozen 92;have f3:=h.at_.frozen k;have h3:=h.blk k hk;have H:=zH h;clear h;have HE:=zH (H.out.put_ends k s hk);cases hcut:D.cut
 ·rw[hcut]at hc
  clear hcut hon;go_enter Tryz.func187,Tryz.ntmps187
  go_wp2
  go_ret;exact⟨rfl,HE.out _ rfl⟩
 ·rw[hcut]at hc
  have hl:(D.left == 0)=false:=by simpa[hcut]using hon
  clear hcut hon;go_enter Tryz.func187,Tryz.ntmps187
  go_wp2
  go_ret;exact⟨rfl,HE.out _ rfl⟩
def Dk.cutAt (D:Dk) (n:Int):Dk:={D with cut:=decide (0≤n),left:=if n<0 then 0 else n}
theorem Dk.cut_cells (D:Dk) (n:Int) (h:D.blk.length=90):
  (D.cells.setIfInBounds 90 (.bool (decide (0≤n)))).setIfInBounds 91 (.int .i64 (if n<0 then 0 else n))=(D.cutAt n).cells:=by
 simp only[Dk.cells,Dk.cutAt,List.setIfInBounds_toArray]
 congr 1
 rw[List.set_append_right _ _ (by simp[h]),List.set_append_right _ _ (by simp[h])];simp[h]
theorem bc.cutAt {w:World} {b:Nat} {D:Dk} (h:bc w b D) (n:Int):
  bc ((w.setCell ⟨b,90,none⟩ (.bool (decide (0≤n)))).setCell ⟨b,91,none⟩ (.int .i64 (if n<0 then 0 else n))) b (D.cutAt n):=by
 refine⟨?_,by simp[Dk.cutAt,h.len]⟩;rw[←Dk.cut_cells D n h.len];exact(h.at_.set_ 90 _).set_ 91 _
theorem bc.cut_ends {w:World} {b:Nat} {D:Dk} (h:bc w b D) (n:Int) (w':World) (e:w'=((w.setCell ⟨b,90,none⟩ (.bool (decide (0≤n)))).setCell ⟨b,91,none⟩ (.int .i64 (if n<0 then 0 else n)))):
  bc w' b (D.cutAt n)∧w.grownBy w' (some b):=by
 subst e;refine⟨h.cutAt n,?_⟩;refine ag ?_ (.inl rfl) _;refine ag ?_ (.inl rfl) _;exact bT w _
theorem bc.cut_on {w:World} {b:Nat} {D:Dk} (h:bc w b D) (n:Int) (hn:0≤n) (w':World) (e:w'=((w.setCell ⟨b,90,none⟩ (.bool true)).setCell ⟨b,91,none⟩ (.int .i64 n))):
  bc w' b (D.cutAt n)∧w.grownBy w' (some b):=by
 refine h.cut_ends n w' ?_;rw[decide_eq_true hn,if_neg oM];exact e
theorem bc.cut_off {w:World} {b:Nat} {D:Dk} (h:bc w b D) (n:Int) (hn:n<0) (w':World) (e:w'=((w.setCell ⟨b,90,none⟩ (.bool false)).setCell ⟨b,91,none⟩ (.int .i64 0))):
  bc w' b (D.cutAt n)∧w.grownBy w' (some b):=by
 refine h.cut_ends n w' ?_;rw[decide_eq_false oM,if_pos hn];exact e
theorem EZ (b:Nat) (D:Dk) (n:Int) (w:World) (h:bc w b D):
  Calls prog 119 #[.pointer (some ⟨b,0,none⟩),.int .i64 n] w fun e w'=>e=.returned (.tuple #[])∧(bc w' b (D.cutAt n)∧w.grownBy w' (some b)):=by
 have hc:=h.cut;have h1:=h.left;have f0:=h.at_.frozen 90;have f1:=h.at_.frozen 91
 by_cases hn:0≤n
 ·have HE:=zH (h.cut_on n hn)
  clear h;go_enter Tryz.func119,Tryz.ntmps119
  go_wp2
  go_end0
  exact⟨rfl,HE.out _ rfl⟩
 ·have hn':n<0:=by omega
  clear hn;have HE:=zH (h.cut_off n hn');clear h;go_enter Tryz.func119,Tryz.ntmps119
  go_wp2
  go_end0
  exact⟨rfl,HE.out _ (by rw[decide_eq_false (show ¬ 0≤n by omega)])⟩
end Go.Proofs.YtepjcdjpikbbjaaGreatDoor
