/- Part of the proof. -/
import Derived.Test.YtjligkmjlenofaaGreatDoorV01
open Go renaming World->aah
open List renaming getElem?_toArray->akD,set_append_right->akE,getElem?_append_right->aiZ
open Go.RowKit renaming wrap64->akF
open ByteArray renaming empty->akG
namespace Go.Proofs.YtjligkmjlenofaaGreatDoor
open Go.Proofs.Tryz
open Go.RowKit
structure Dk where
 blk:List ByteArray
 cut:Bool
 left:Int
 writes:Int
def Dk.cells(D:Dk):Array Value:=(D.blk.map Value.string++[Value.bool D.cut,Value.int .i64 D.left,Value.int .i64 D.writes]).toArray
structure bK(w:aah)(b:Nat)(D:Dk):Prop where
 at_:aC w b 84 D.cells
 len:D.blk.length=90
theorem Dk.al7(D:Dk)(h:D.blk.length=90):D.cells[90]?=some (.bool D.cut):=by
 simp only[Dk.cells,akD];rw[aiZ (by simp[h])];simp[h]
theorem Dk.ajr(D:Dk)(h:D.blk.length=90):D.cells[91]?=some (.int .i64 D.left):=by
 simp only[Dk.cells,akD];rw[aiZ (by simp[h])];simp[h]
theorem Dk.ab6(D:Dk)(h:D.blk.length=90):D.cells[92]?=some (.int .i64 D.writes):=by
 simp only[Dk.cells,akD];rw[aiZ (by simp[h])];simp[h]
theorem Dk.al3(D:Dk)(h:D.blk.length=90)(k:Nat)(hk:k<90):D.cells[k]?=some (.string (D.blk.getD k akG)):=by
 simp only[Dk.cells,akD];rw[List.getElem?_append_left (by simp[h];omega)];simp[List.getD,List.getElem?_eq_getElem (show k<D.blk.length by omega)]
section
variable{w:aah}{b:Nat}{D:Dk}
theorem bK.cut(h:bK w b D):w.cell? ⟨b,90,none⟩=some (.bool D.cut):=(h.at_.cell 90).T (D.al7 h.len)
theorem bK.left(h:bK w b D):w.cell? ⟨b,91,none⟩=some (.int .i64 D.left):=(h.at_.cell 91).T (D.ajr h.len)
theorem bK.writes(h:bK w b D):w.cell? ⟨b,92,none⟩=some (.int .i64 D.writes):=(h.at_.cell 92).T (D.ab6 h.len)
theorem bK.blk(h:bK w b D)(k:Nat)(hk:k<90):w.cell? ⟨b,k,none⟩=some (.string (D.blk.getD k akG)):=(h.at_.cell k).T (D.al3 h.len k hk)
end
section
variable{w w':aah}{b:Nat}{D:Dk}
theorem bK.below(h:bK w b D)(hb:Below w.heap.size w w'):bK w' b D:=⟨h.at_.aj hb,h.len⟩
theorem bK.grown(h:bK w b D){row:Option Nat}(hg:w.grownBy w' row)(eZ:some b≠row):bK w' b D:=⟨h.at_.grown hg eZ,h.len⟩
end
theorem Ke(b:Nat)(D:Dk)(w:aah)(h:bK w b D):
  Calls prog 120 #[.pointer (some ⟨b,0,none⟩)] w fun e w'=>e=.returned (.int .i64 D.writes)/\w=w':=by
 have hc:=h.writes
 go_in
 go_wp2
 go_ret;exact⟨rfl,rfl⟩
theorem nU(b:Nat)(D:Dk)(k:Nat)(w:aah)(h:bK w b D)(hk:k<90):
  Calls prog 84 #[.pointer (some ⟨b,0,none⟩),.int .i64 k] w fun e w'=>e=.returned (.tuple #[.string (D.blk.getD k akG),.nilIface])/\w=w':=by
 have hc:=h.blk k hk
 go_in
 go_wp2
 go_ret2;exact⟨rfl,rfl⟩
theorem om(b:Nat)(D:Dk)(k:Int)(s:ByteArray)(w:aah)(h:bK w b D)(hk:0<=k)(Gp:k<90)(hs:s.size<=240)(qE:D.cut=true)(hl:D.left=0):
  Calls prog 161 #[.pointer (some ⟨b,0,none⟩),.int .i64 k,.string s] w fun e w'=>e=.returned (.iface 30 (.int .i64 14))/\w=w':=by
 have hc:=h.cut;have h1:=h.left;rw[qE]at hc;rw[hl]at h1;clear qE hl
 go_in
 go_wp2
 go_ret;exact⟨rfl,rfl⟩
def Dk.put(D:Dk)(k:Nat)(s:ByteArray):Dk:={D with blk:=D.blk.set k s,left:=akF (D.left - 1),writes:=akF (D.writes+1)}
theorem Dk.SK(D:Dk)(k:Nat)(s:ByteArray)(h:D.blk.length=90)(hk:k<90):
  ((D.cells.setIfInBounds 91 (.int .i64 (akF (D.left - 1)))).setIfInBounds 92 (.int .i64 (akF (D.writes+1)))).setIfInBounds k (.string s)=(D.put k s).cells:=by
 simp only[Dk.cells,Dk.put,List.setIfInBounds_toArray]
 congr 1
 rw[akE _ _ (by simp[h]),akE _ _ (by simp[h]),List.set_append_left _ _ (by simp[h];omega)];simp[h,List.map_set]
theorem bK.put{w:aah}{b:Nat}{D:Dk}(h:bK w b D)(k:Nat)(s:ByteArray)(hk:k<90):
  bK (((w.setCell ⟨b,91,none⟩ (.int .i64 (akF (D.left - 1)))).setCell ⟨b,92,none⟩ (.int .i64 (akF (D.writes+1)))).setCell ⟨b,k,none⟩ (.string s)) b (D.put k s):=by
 refine⟨?_,by simp[Dk.put,h.len]⟩;rw[<-Dk.SK D k s h.len hk];exact((h.at_.kX 91 _).kX 92 _).kX k _
theorem bK.Xw{w:aah}{b:Nat}{D:Dk}(h:bK w b D)(k:Nat)(s:ByteArray)(hk:k<90)(w':aah)(e:w'=(((w.setCell ⟨b,91,none⟩ (.int .i64 (akF (D.left - 1)))).setCell ⟨b,92,none⟩ (.int .i64 (akF (D.writes+1)))).setCell ⟨b,k,none⟩ (.string s))):
  bK w' b (D.put k s)/\w.grownBy w' (some b):=by
 subst e;refine⟨h.put k s hk,?_⟩;refine ak ?_ (.inl rfl) _;refine ak ?_ (.inl rfl) _;refine ak ?_ (.inl rfl) _;exact dU w _
theorem wI(b:Nat)(D:Dk)(k:Nat)(s:ByteArray)(w:aah)(h:bK w b D)(hk:k<90)(hs:s.size<=240)(hon:(D.cut&&D.left == 0)=false):
  Calls prog 161 #[.pointer (some ⟨b,0,none⟩),.int .i64 k,.string s] w fun e w'=>e=.returned .nilIface/\(bK w' b (D.put k s)/\w.grownBy w' (some b)):=by
 have hc:=h.cut;have h1:=h.left;have h2:=h.writes;have f1:=h.at_.frozen 91;have f2:=h.at_.frozen 92;have f3:=h.at_.frozen k;have h3:=h.blk k hk;have H:=zH h;clear h;have HE:=zH (H.O.Xw k s hk);cases qE:D.cut
 ·rw[qE]at hc
  clear qE hon
  go_in
  go_wp2
  go_ret;exact⟨rfl,HE.O _ rfl⟩
 ·rw[qE]at hc
  have hl:(D.left == 0)=false:=by simpa[qE]using hon
  clear qE hon
  go_in
  go_wp2
  go_ret;exact⟨rfl,HE.O _ rfl⟩
def Dk.cutAt(D:Dk)(n:Int):Dk:={D with cut:=decide (0<=n),left:=if n<0 then 0 else n}
theorem Dk.Ro(D:Dk)(n:Int)(h:D.blk.length=90):
  (D.cells.setIfInBounds 90 (.bool (decide (0<=n)))).setIfInBounds 91 (.int .i64 (if n<0 then 0 else n))=(D.cutAt n).cells:=by
 simp only[Dk.cells,Dk.cutAt,List.setIfInBounds_toArray]
 congr 1
 rw[akE _ _ (by simp[h]),akE _ _ (by simp[h])];simp[h]
theorem bK.cutAt{w:aah}{b:Nat}{D:Dk}(h:bK w b D)(n:Int):
  bK ((w.setCell ⟨b,90,none⟩ (.bool (decide (0<=n)))).setCell ⟨b,91,none⟩ (.int .i64 (if n<0 then 0 else n))) b (D.cutAt n):=by
 refine⟨?_,by simp[Dk.cutAt,h.len]⟩;rw[<-Dk.Ro D n h.len];exact(h.at_.kX 90 _).kX 91 _
theorem bK.J_{w:aah}{b:Nat}{D:Dk}(h:bK w b D)(n:Int)(w':aah)(e:w'=((w.setCell ⟨b,90,none⟩ (.bool (decide (0<=n)))).setCell ⟨b,91,none⟩ (.int .i64 (if n<0 then 0 else n)))):
  bK w' b (D.cutAt n)/\w.grownBy w' (some b):=by
 subst e;refine⟨h.cutAt n,?_⟩;refine ak ?_ (.inl rfl) _;refine ak ?_ (.inl rfl) _;exact dU w _
theorem bK.adP{w:aah}{b:Nat}{D:Dk}(h:bK w b D)(n:Int)(hn:0<=n)(w':aah)(e:w'=((w.setCell ⟨b,90,none⟩ (.bool true)).setCell ⟨b,91,none⟩ (.int .i64 n))):
  bK w' b (D.cutAt n)/\w.grownBy w' (some b):=by
 refine h.J_ n w' ?_;rw[decide_eq_true hn,if_neg oM];exact e
theorem bK.ZO{w:aah}{b:Nat}{D:Dk}(h:bK w b D)(n:Int)(hn:n<0)(w':aah)(e:w'=((w.setCell ⟨b,90,none⟩ (.bool false)).setCell ⟨b,91,none⟩ (.int .i64 0))):
  bK w' b (D.cutAt n)/\w.grownBy w' (some b):=by
 refine h.J_ n w' ?_;rw[decide_eq_false oM,if_pos hn];exact e
theorem Vm(b:Nat)(D:Dk)(n:Int)(w:aah)(h:bK w b D):
  Calls prog 100 #[.pointer (some ⟨b,0,none⟩),.int .i64 n] w fun e w'=>e=.returned (.tuple #[])/\(bK w' b (D.cutAt n)/\w.grownBy w' (some b)):=by
 have hc:=h.cut;have h1:=h.left;have f0:=h.at_.frozen 90;have f1:=h.at_.frozen 91
 by_cases hn:0<=n
 ·have HE:=zH (h.adP n hn)
  clear h
  go_in
  go_wp2
  go_end0
  exact⟨rfl,HE.O _ rfl⟩
 ·have hn':n<0:=by omega
  clear hn;have HE:=zH (h.ZO n hn');clear h
  go_in
  go_wp2
  go_end0
  exact⟨rfl,HE.O _ (by rw[decide_eq_false (show ¬ 0<=n by omega)])⟩
end Go.Proofs.YtjligkmjlenofaaGreatDoor
