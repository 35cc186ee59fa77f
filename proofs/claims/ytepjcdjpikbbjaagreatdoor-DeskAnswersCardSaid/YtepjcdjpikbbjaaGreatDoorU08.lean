/-
  The helper bare of the statements: plain.Bare and api.Tell (with errors.As, at the target *api.Errno) at nil and at an api.Errno. After the worked example Toyas.
-/
import Derived.Test.YtepjcdjpikbbjaaGreatDoorU00
import Derived.Test.YtepjcdjpikbbjaaGreatDoorProg
import Derived.Test.YtepjcdjpikbbjaaGreatDoorU05
import Derived.WalkKit
import Derived.WalkSpells
import Derived.WalkLawsBesides
import Derived.LaidEql
import Derived.Stop.Asserts
import Derived.RowKitTokens
import Derived.Lib.Hide
set_option maxHeartbeats 4000000
namespace Go.Proofs.YtepjcdjpikbbjaaGreatDoor
open Go.Proofs.Tryz
open Go.RowKit Go.Extern.Stop Go.Stop Go.Extern
theorem xr (t:Addr) (w:World):(ReflectliteValue.unpack (.iface 171 (.pointer (some t)))).run prog w
 =.ok (.agg #[.pointer (some ⟨10,171,none⟩),.pointer (some ⟨w.heap.size,0,none⟩),.int .u64 150]) (w.alloc (.cells #[.pointer (some t)] 171)):=kR
theorem Ew (a:Addr) (w:World):(ReflectliteValue.methodAny (ReflectliteValue.valueError "reflectlite.Value.Type" 0) (fun t _ _ _=>ReflectliteType.toType t) #[.agg #[.pointer (some ⟨10,171,none⟩),.pointer (some a),.int .u64 150]]).run prog w
 =.ok (.iface 260 (.agg #[.pointer (some ⟨10,171,none⟩)])) w:=kR
theorem tq (h:Value) (w:World):(Go.method 466 260 (.agg #[h]) "Kind").run prog w=.ok (313,h) w:=kR
theorem E1 (w:World):((ReflectliteType.abiMethod fun t=>(fun a:Nat=>Value.int IntKind.u8 (a:Int))<$>Rtype.kind t) #[.pointer (some ⟨10,171,none⟩)]).run prog w=.ok (.int .u8 22) w:=kR
theorem Em (w:World):((ReflectliteType.abiMethod fun t=>(fun a:Nat=>Value.int IntKind.u8 (a:Int))<$>Rtype.kind t) #[.pointer (some ⟨10,57,none⟩)]).run prog w=.ok (.int .u8 2) w:=kR
theorem DG (z:Sem Value) (f:TypeId→Addr→Nat→Nat→Sem Value) (v:Value):
 ReflectliteValue.method z f #[v]=(do match←ReflectliteValue.parts v with|none=>z|some (t,a,fl)=>f t a fl (fl % 32)):=rfl
theorem tP (a:Addr) (w:World):(ReflectliteValue.parts (.agg #[.pointer (some ⟨10,171,none⟩),.pointer (some a),.int .u64 150])).run prog w=.ok (some (171,a,150)) w:=kR
theorem Bw (a p:Addr) (W:World) (ha:W.cell? a=some (.pointer (some p))):
  (ReflectliteValue.method (ReflectliteValue.valueError "reflectlite.Value.IsNil" 0) ReflectliteValue.isNil #[.agg #[.pointer (some ⟨10,171,none⟩),.pointer (some a),.int .u64 150]]).run prog W=.ok (.bool false) W:=by
 rw[DG];simp only[Sem.run_bind,tP,Result.andThen];simp[ReflectliteValue.isNil,loadVar,isAgg,underlying,underlying171,ha,Result.andThen]
theorem tj (h:Value) (w:World):(Go.method 466 260 (.agg #[h]) "Elem").run prog w=.ok (327,.agg #[h]) w:=kR
theorem mC (h:Value) (w:World):(Go.method 466 260 (.agg #[h]) "Implements").run prog w=.ok (328,.agg #[h]) w:=kR
theorem lk (h:Value) (w:World):(Go.method 466 260 (.agg #[h]) "AssignableTo").run prog w=.ok (325,.agg #[h]) w:=kR
theorem C4 (w:World):(ReflectliteType.method ReflectliteType.elem #[.agg #[.pointer (some ⟨10,171,none⟩)]]).run prog w=.ok (.iface 260 (.agg #[.pointer (some ⟨10,57,none⟩)])) w:=kR
theorem qT (w:World):(ReflectliteType.relation "Implements" ReflectliteType.implements_ #[.agg #[.pointer (some ⟨10,57,none⟩)],.iface 260 (.agg #[.pointer (some ⟨10,44,none⟩)])]).run prog w=.ok (.bool true) w:=kR
theorem yt (v:Value) (w:World):(ReflectliteType.typeOf #[.iface 57 v]).run prog w=.ok (.iface 260 (.agg #[.pointer (some ⟨10,57,none⟩)])) w:=kR
theorem qS (w:World):(ReflectliteType.relation "AssignableTo" ReflectliteType.assignableTo #[.agg #[.pointer (some ⟨10,57,none⟩)],.iface 260 (.agg #[.pointer (some ⟨10,57,none⟩)])]).run prog w=.ok (.bool true) w:=kR
theorem vM (n:Int) (w:World):(ReflectliteValue.unpack (.iface 57 (.int .i64 n))).run prog w
 =.ok (.agg #[.pointer (some ⟨10,57,none⟩),.pointer (some ⟨w.heap.size,0,none⟩),.int .u64 130]) (w.alloc (.cells #[.int .i64 n] 57)):=kR
theorem yJ (w:World):(Rtype.elem? 171).run prog w=.ok (some 57) w:=kR
theorem Iq (p:Addr) (w:World):(ReflectliteValue.mk 57 p ReflectliteValue.flagAddr).run prog w=.ok (.agg #[.pointer (some ⟨10,57,none⟩),.pointer (some p),.int .u64 386]) w:=kR
theorem Es (a p:Addr) (W:World) (ha:W.cell? a=some (.pointer (some p))):
  (ReflectliteValue.method (ReflectliteValue.valueError "reflectlite.Value.Elem" 0) ReflectliteValue.elem #[.agg #[.pointer (some ⟨10,171,none⟩),.pointer (some a),.int .u64 150]]).run prog W
   =.ok (.agg #[.pointer (some ⟨10,57,none⟩),.pointer (some p),.int .u64 386]) W:=by
 rw[DG];simp only[Sem.run_bind,tP,Result.andThen];simp[ReflectliteValue.elem,loadVar,isAgg,underlying,underlying171,ha,Result.andThen,yJ,Iq]
theorem If (v x:Value):ReflectliteValue.set #[v,x]=(do
 let (some (dst,a,fl),some (src,b,_)):=(←ReflectliteValue.parts v,←ReflectliteValue.parts x)
  |unsupported (.noEntry "extern/(internal/reflectlite.Value).Set.zeroValue")
 if fl / ReflectliteValue.flagAddr % 2 == 0 then unsupported (.noEntry "extern/(internal/reflectlite.Value).Set.unaddressable")
 let val←loadVar src b
 if←Rtype.directlyAssignable dst src then storeVar dst a val
 else if←Rtype.implements dst src then
  if (←Rtype.kind src) == 20 then
   match val with
   | .nilIface=>unsupported (.noEntry "extern/reflectlite: a nil value of one interface type handed on as a value of another")
   |_=>storeVar dst a val
  else storeVar dst a (.iface src val)
 else panicString ("reflectlite.Set: value of type "++(←Rtype.spelt src)++ " is not assignable to type "++(←Rtype.spelt dst))
 pure (.tuple #[])):=rfl
theorem zG (a:Addr) (w:World):(ReflectliteValue.parts (.agg #[.pointer (some ⟨10,57,none⟩),.pointer (some a),.int .u64 386])).run prog w=.ok (some (57,a,386)) w:=kR
theorem Bg (a:Addr) (w:World):(ReflectliteValue.parts (.agg #[.pointer (some ⟨10,57,none⟩),.pointer (some a),.int .u64 130])).run prog w=.ok (some (57,a,130)) w:=kR
theorem yL (w:World):(Rtype.directlyAssignable 57 57).run prog w=.ok true w:=kR
theorem F0 (ta b:Addr) (n:Int) (old:Value) (W:World) (hb:W.cell? b=some (.int .i64 n)) (ht:W.cell? ta=some old) (hf:W.frozen? ta=false):
  (ReflectliteValue.set #[.agg #[.pointer (some ⟨10,57,none⟩),.pointer (some ta),.int .u64 386],.agg #[.pointer (some ⟨10,57,none⟩),.pointer (some b),.int .u64 130]]).run prog W
   =.ok (.tuple #[]) (W.setCell ta (.int .i64 n)):=by
 rw[If];simp only[Sem.run_bind,zG,Bg,Result.andThen];simp[ReflectliteValue.flagAddr,loadVar,isAgg,underlying,underlying57,hb,Result.andThen,yL,storeVar,Value.cells,storeCells,Addr.add];rw[run_store prog W ta _ _ (by rfl)];simp[ht,hf]
def mr (w:World) (t:Addr) (n:Int):World:=
 ((((w.alloc (.cells #[.pointer (some t)] 171)).alloc (.cells #[.pointer (some ⟨10,171,none⟩),.pointer (some ⟨w.heap.size,0,none⟩),.int .u64 150] 208)).alloc (.cells #[.pointer (some ⟨10,171,none⟩),.pointer (some ⟨w.heap.size,0,none⟩),.int .u64 150] 208)).alloc (.cells #[.int .i64 n] 57)).setCell t (.int .i64 n)
theorem Ie (n:Int) (t:Addr) (old:Value) (w:World) (hg:w.cell? ⟨1,0,none⟩=some (.iface 260 (.agg #[.pointer (some ⟨10,44,none⟩)]))) (ht0:w.cell? t=some old) (hf0:w.frozen? t=false):
  Calls prog 115 #[.iface 57 (.int .i64 n),.iface 171 (.pointer (some t))] w fun ev w'=>ev=.returned (.bool true)∧w'=mr w t n:=by
 have h6:= @run_callFunc_extern prog 165 _ (fun args=>ReflectliteValue.unpack (args.getD 0 (.tuple #[]))) Tryz.func165 kR kR kR kR;have h7:= @run_callFunc_extern prog 166 _ (ReflectliteValue.methodAny (ReflectliteValue.valueError "reflectlite.Value.Type" 0) (fun t _ _ _=>ReflectliteType.toType t)) Tryz.func166 kR kR kR kR;have h8:= @run_callFunc_extern prog 167 _ (ReflectliteValue.method (ReflectliteValue.valueError "reflectlite.Value.IsNil" 0) ReflectliteValue.isNil) Tryz.func167 kR kR kR kR;have h27:= @run_callFunc_extern prog 313 _ (ReflectliteType.abiMethod fun t=>do pure (.int .u8 (←Rtype.kind t))) Tryz.func313 kR kR kR kR;have h37:= @run_callFunc_extern prog 327 _ (ReflectliteType.method ReflectliteType.elem) Tryz.func327 kR kR kR kR;have h38:= @run_callFunc_extern prog 328 _ (ReflectliteType.relation "Implements" ReflectliteType.implements_) Tryz.func328 kR kR kR kR;have h10:= @run_callFunc_extern prog 209 _ ReflectliteType.typeOf Tryz.func209 kR kR kR kR;have h35:= @run_callFunc_extern prog 325 _ (ReflectliteType.relation "AssignableTo" ReflectliteType.assignableTo) Tryz.func325 kR kR kR kR;have h11:= @run_callFunc_extern prog 210 _ (ReflectliteValue.method (ReflectliteValue.valueError "reflectlite.Value.Elem" 0) ReflectliteValue.elem) Tryz.func210 kR kR kR kR;have h12:= @run_callFunc_extern prog 211 _ ReflectliteValue.set Tryz.func211 kR kR kR kR;have tO:=yt;have mA:=lk;have a25:=qS;have v25:=vM;have f6:=xr;have f7:=Ew;have mK:=tq;have mE:=tj;have mI:=mC;have k27:=E1;have k25:=Em;have e27:=C4;have i25:=qT;have n8:=Bw ⟨w.heap.size,0,none⟩ t ((w.alloc (.cells #[.pointer (some t)] 171)).alloc (.cells #[.pointer (some ⟨10,171,none⟩),.pointer (some ⟨w.heap.size,0,none⟩),.int .u64 150] 208)) (by simp)
 have hlt:1<w.heap.size:=by
  rcases Nat.lt_or_ge 1 w.heap.size with h|h
  ·exact h
  ·simp[World.cell?,Array.getElem?_eq_none h]at hg
 have hg2:((w.alloc (.cells #[.pointer (some t)] 171)).alloc (.cells #[.pointer (some ⟨10,171,none⟩),.pointer (some ⟨w.heap.size,0,none⟩),.int .u64 150] 208)).cell? ⟨1,0,none⟩=some (.iface 260 (.agg #[.pointer (some ⟨10,44,none⟩)])):=by
  rw[World.cell?_alloc_lt _ _ ⟨1,0,none⟩ (by simp<;>omega),World.cell?_alloc_lt _ _ ⟨1,0,none⟩ hlt];exact hg
 have htl:t.block<w.heap.size:=by
  rcases Nat.lt_or_ge t.block w.heap.size with h|h
  ·exact h
  ·simp[World.cell?,Array.getElem?_eq_none h]at ht0
 have el:=Es ⟨w.heap.size,0,none⟩ t (((w.alloc (.cells #[.pointer (some t)] 171)).alloc (.cells #[.pointer (some ⟨10,171,none⟩),.pointer (some ⟨w.heap.size,0,none⟩),.int .u64 150] 208)).alloc (.cells #[.pointer (some ⟨10,171,none⟩),.pointer (some ⟨w.heap.size,0,none⟩),.int .u64 150] 208)) (by rw[World.cell?_alloc_lt _ _ ⟨w.heap.size,0,none⟩ (by simp;omega)];simp)
 have st:=F0 t ⟨w.heap.size+1+1+1,0,none⟩ n old ((((w.alloc (.cells #[.pointer (some t)] 171)).alloc (.cells #[.pointer (some ⟨10,171,none⟩),.pointer (some ⟨w.heap.size,0,none⟩),.int .u64 150] 208)).alloc (.cells #[.pointer (some ⟨10,171,none⟩),.pointer (some ⟨w.heap.size,0,none⟩),.int .u64 150] 208)).alloc (.cells #[.int .i64 n] 57))
  (by rw[World.cell?_alloc_at _ _ _ _ (by simp)];rfl)
  (by rw[World.cell?_alloc_lt _ _ t (by simp;omega),World.cell?_alloc_lt _ _ t (by simp;omega),World.cell?_alloc_lt _ _ t (by simp;omega),World.cell?_alloc_lt _ _ t htl];exact ht0)
  (by rw[World.frozen?_alloc_old _ _ t (by simp;omega),World.frozen?_alloc_old _ _ t (by simp;omega),World.frozen?_alloc_old _ _ t (by simp;omega),World.frozen?_alloc_old _ _ t (Nat.ne_of_lt htl)];exact hf0)
 go_enter Tryz.func115,Tryz.ntmps115
 go_wp2
 refine wp_loop_rounds 1 ?_;rw[rounds_succ]
 go_wp2
 go_ret;exact⟨rfl,rfl⟩
def da (w:World):Prop:=w.cell? ⟨1,0,none⟩=some (.iface 260 (.agg #[.pointer (some ⟨10,44,none⟩)]))
theorem da.lt {w:World} (h:da w):1<w.heap.size:=by
 unfold da at h;rcases Nat.lt_or_ge 1 w.heap.size with h'|h'
 ·exact h'
 ·simp[World.cell?,Array.getElem?_eq_none h']at h
theorem da.below {B:Nat} {w w':World} (h:da w) (hb:Below B w w') (hB:1<B):da w':=by
 unfold da at*;rw[hb.cell (p:=⟨1,0,none⟩) hB];exact h
theorem GU (n:Int) (w:World) (hg:da w):Calls prog 55 #[.iface 57 (.int .i64 n)] w fun e w'=>e=.returned (.int .i64 n)∧Below w.heap.size w w':=by
 have hlt:=hg.lt
 have hg1:(w.alloc (.cells #[.int .i64 0] 57)).cell? ⟨1,0,none⟩=some (.iface 260 (.agg #[.pointer (some ⟨10,44,none⟩)])):=by
  rw[World.cell?_alloc_lt _ _ ⟨1,0,none⟩ hlt];exact hg
 have hb:Below w.heap.size w (mr (w.alloc (.cells #[.int .i64 0] 57)) ⟨w.heap.size,0,none⟩ n):=by
  unfold mr;exact(((((Below.refl _ _).alloc (by simp) _).alloc (by simp) _ |>.alloc (by simp;omega) _).alloc (by simp;omega) _).alloc (by simp;omega) _).setCell (by simp) _
 have hc:(mr (w.alloc (.cells #[.int .i64 0] 57)) ⟨w.heap.size,0,none⟩ n).cell? ⟨w.heap.size,0,none⟩=some (.int .i64 n):=by
  unfold mr;refine World.cell?_setCell_same (u:=.int .i64 0) _ _ _ ?_;rw[World.cell?_alloc_lt _ _ _ (by simp<;>omega),World.cell?_alloc_lt _ _ _ (by simp<;>omega),World.cell?_alloc_lt _ _ _ (by simp<;>omega),World.cell?_alloc_lt _ _ _ (by simp<;>omega)];simp
 have H:=Ie n ⟨w.heap.size,0,none⟩ (.int .i64 0) (w.alloc (.cells #[.int .i64 0] 57)) hg1 (by simp) (by simp);generalize mr (w.alloc (.cells #[.int .i64 0] 57)) ⟨w.heap.size,0,none⟩ n=W1 at*;have H2:=zH H;clear H;go_enter Tryz.func55,Tryz.ntmps55;go_wp2_with (go_at_call 115;refine H2.out.mono ?_;rintro e w' ⟨rfl,rfl⟩);go_ret;exact⟨rfl,hb⟩
end Go.Proofs.YtepjcdjpikbbjaaGreatDoor
