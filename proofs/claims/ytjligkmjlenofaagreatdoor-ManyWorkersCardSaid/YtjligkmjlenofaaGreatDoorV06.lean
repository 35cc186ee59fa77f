/- Part of the proof. -/
import Derived.Stop.Asserts
import Derived.Test.YtjligkmjlenofaaGreatDoorV03
import Derived.Lib.LaidU8
import Derived.Deep.DeepLaidRun
import Derived.Stop.LaidErr
import Derived.Conc.LeavingOf
import Derived.Test.YtjligkmjlenofaaGreatDoorV0C
set_option maxHeartbeats 4000000
open Go.World renaming cell?_alloc_lt->alg,frozen?_alloc_old->ali,var?_cell->alm,cell?->alr
open Go renaming run_callFunc_extern->alh,World->aah,Value->aai,laidMetH->alk,Addr->akr,method->aln,DataW->alp,storeVar->alu,laidMet->alv
open Go.Result renaming andThen->alj
open Array renaming getElem?_eq_none->adm
open Option.some renaming inj->ahK
open Go.Sem renaming run_bind->alo
open Nat renaming lt_or_ge->af8
open List renaming mem_singleton->acg
namespace Go.Proofs.YtjligkmjlenofaaGreatDoor
open Go.Proofs.Tryz
open Go.RowKit Go.Extern.Stop Go.Stop Go.Extern
theorem JZ(t:akr)(w:aah):(ReflectliteValue.unpack (.iface 153 (.pointer (some t)))).run prog w
 =.ok (.agg #[.pointer (some ⟨9,153,none⟩),.pointer (some ⟨w.heap.size,0,none⟩),.int .u64 150]) (w.alloc (.cells #[.pointer (some t)] 153)):=kR
theorem U0(a:akr)(w:aah):(ReflectliteValue.methodAny (ReflectliteValue.valueError "reflectlite.Value.Type" 0) (fun t _ _ _=>ReflectliteType.toType t) #[.agg #[.pointer (some ⟨9,153,none⟩),.pointer (some a),.int .u64 150]]).run prog w
 =.ok (.iface 233 (.agg #[.pointer (some ⟨9,153,none⟩)])) w:=kR
theorem EN(h:aai)(w:aah):(aln 425 233 (.agg #[h]) "Kind").run prog w=.ok (261,h) w:=kR
theorem UY(w:aah):((ReflectliteType.abiMethod fun t=>(fun a:Nat=>Value.int IntKind.u8 (a:Int))<$>Rtype.kind t) #[.pointer (some ⟨9,153,none⟩)]).run prog w=.ok (.int .u8 22) w:=kR
theorem UX(w:aah):((ReflectliteType.abiMethod fun t=>(fun a:Nat=>Value.int IntKind.u8 (a:Int))<$>Rtype.kind t) #[.pointer (some ⟨9,30,none⟩)]).run prog w=.ok (.int .u8 2) w:=kR
theorem UZ(z:Sem aai)(f:TypeId->akr->Nat->Nat->Sem aai)(v:aai):
 ReflectliteValue.method z f #[v]=(do match<-ReflectliteValue.parts v with|none=>z|some (t,a,fl)=>f t a fl (fl % 32)):=rfl
theorem FW(a:akr)(w:aah):(ReflectliteValue.parts (.agg #[.pointer (some ⟨9,153,none⟩),.pointer (some a),.int .u64 150])).run prog w=.ok (some (153,a,150)) w:=kR
theorem Rf(a p:akr)(W:aah)(ha:W.cell? a=some (.pointer (some p))):
  (ReflectliteValue.method (ReflectliteValue.valueError "reflectlite.Value.IsNil" 0) ReflectliteValue.isNil #[.agg #[.pointer (some ⟨9,153,none⟩),.pointer (some a),.int .u64 150]]).run prog W=.ok (.bool false) W:=by
 rw[UZ];simp only[alo,FW,alj];simp[ReflectliteValue.isNil,loadVar,isAgg,underlying,underlying153,ha,alj]
theorem EM(h:aai)(w:aah):(aln 425 233 (.agg #[h]) "Elem").run prog w=.ok (275,.agg #[h]) w:=kR
theorem vI(h:aai)(w:aah):(aln 425 233 (.agg #[h]) "Implements").run prog w=.ok (276,.agg #[h]) w:=kR
theorem s_(h:aai)(w:aah):(aln 425 233 (.agg #[h]) "AssignableTo").run prog w=.ok (273,.agg #[h]) w:=kR
theorem UU(w:aah):(ReflectliteType.method ReflectliteType.elem #[.agg #[.pointer (some ⟨9,153,none⟩)]]).run prog w=.ok (.iface 233 (.agg #[.pointer (some ⟨9,30,none⟩)])) w:=kR
theorem Ce(w:aah):(ReflectliteType.relation "Implements" ReflectliteType.implements_ #[.agg #[.pointer (some ⟨9,30,none⟩)],.iface 233 (.agg #[.pointer (some ⟨9,24,none⟩)])]).run prog w=.ok (.bool true) w:=kR
theorem Ng(v:aai)(w:aah):(ReflectliteType.typeOf #[.iface 30 v]).run prog w=.ok (.iface 233 (.agg #[.pointer (some ⟨9,30,none⟩)])) w:=kR
theorem Cd(w:aah):(ReflectliteType.relation "AssignableTo" ReflectliteType.assignableTo #[.agg #[.pointer (some ⟨9,30,none⟩)],.iface 233 (.agg #[.pointer (some ⟨9,30,none⟩)])]).run prog w=.ok (.bool true) w:=kR
theorem JY(n:Int)(w:aah):(ReflectliteValue.unpack (.iface 30 (.int .i64 n))).run prog w
 =.ok (.agg #[.pointer (some ⟨9,30,none⟩),.pointer (some ⟨w.heap.size,0,none⟩),.int .u64 130]) (w.alloc (.cells #[.int .i64 n] 30)):=kR
theorem Nd(w:aah):(Rtype.elem? 153).run prog w=.ok (some 30) w:=kR
theorem adI(p:akr)(w:aah):(ReflectliteValue.mk 30 p ReflectliteValue.flagAddr).run prog w=.ok (.agg #[.pointer (some ⟨9,30,none⟩),.pointer (some p),.int .u64 386]) w:=kR
theorem UW(a p:akr)(W:aah)(ha:W.cell? a=some (.pointer (some p))):
  (ReflectliteValue.method (ReflectliteValue.valueError "reflectlite.Value.Elem" 0) ReflectliteValue.elem #[.agg #[.pointer (some ⟨9,153,none⟩),.pointer (some a),.int .u64 150]]).run prog W
   =.ok (.agg #[.pointer (some ⟨9,30,none⟩),.pointer (some p),.int .u64 386]) W:=by
 rw[UZ];simp only[alo,FW,alj];simp[ReflectliteValue.elem,loadVar,isAgg,underlying,underlying153,ha,alj,Nd,adI]
theorem adJ(v x:aai):ReflectliteValue.set #[v,x]=(do
 let (some (dst,a,fl),some (src,b,_)):=(<-ReflectliteValue.parts v,<-ReflectliteValue.parts x)
  |unsupported (.noEntry "extern/(internal/reflectlite.Value).Set.zeroValue")
 if fl / ReflectliteValue.flagAddr % 2 == 0 then unsupported (.noEntry "extern/(internal/reflectlite.Value).Set.unaddressable")
 let val<-loadVar src b
 if<-Rtype.directlyAssignable dst src then alu dst a val
 else if<-Rtype.implements dst src then
  if (<-Rtype.kind src) == 20 then
   match val with
   | .nilIface=>unsupported (.noEntry "extern/reflectlite: a nil value of one interface type handed on as a value of another")
   |_=>alu dst a val
  else alu dst a (.iface src val)
 else panicString ("reflectlite.Set: value of type "++(<-Rtype.spelt src)++ " is not assignable to type "++(<-Rtype.spelt dst))
 pure (.tuple #[])):=rfl
theorem Nf(a:akr)(w:aah):(ReflectliteValue.parts (.agg #[.pointer (some ⟨9,30,none⟩),.pointer (some a),.int .u64 386])).run prog w=.ok (some (30,a,386)) w:=kR
theorem Rg(a:akr)(w:aah):(ReflectliteValue.parts (.agg #[.pointer (some ⟨9,30,none⟩),.pointer (some a),.int .u64 130])).run prog w=.ok (some (30,a,130)) w:=kR
theorem Nc(w:aah):(Rtype.directlyAssignable 30 30).run prog w=.ok true w:=kR
theorem ZG(ta b:akr)(n:Int)(old:aai)(W:aah)(hb:W.cell? b=some (.int .i64 n))(ht:W.cell? ta=some old)(hf:W.frozen? ta=false):
  (ReflectliteValue.set #[.agg #[.pointer (some ⟨9,30,none⟩),.pointer (some ta),.int .u64 386],.agg #[.pointer (some ⟨9,30,none⟩),.pointer (some b),.int .u64 130]]).run prog W
   =.ok (.tuple #[]) (W.setCell ta (.int .i64 n)):=by
 rw[adJ];simp only[alo,Nf,Rg,alj];simp[ReflectliteValue.flagAddr,loadVar,isAgg,underlying,underlying30,hb,alj,Nc,alu,Value.cells,storeCells,Addr.add];rw[run_store prog W ta _ _ (by rfl)];simp[ht,hf]
def u_(w:aah)(t:akr)(n:Int):aah:=
 ((((w.alloc (.cells #[.pointer (some t)] 153)).alloc (.cells #[.pointer (some ⟨9,153,none⟩),.pointer (some ⟨w.heap.size,0,none⟩),.int .u64 150] 190)).alloc (.cells #[.pointer (some ⟨9,153,none⟩),.pointer (some ⟨w.heap.size,0,none⟩),.int .u64 150] 190)).alloc (.cells #[.int .i64 n] 30)).setCell t (.int .i64 n)
theorem adH(n:Int)(t:akr)(old:aai)(w:aah)(hg:w.cell? ⟨0,0,none⟩=some (.iface 233 (.agg #[.pointer (some ⟨9,24,none⟩)])))(ht0:w.cell? t=some old)(VZ:w.frozen? t=false):
  Calls prog 96 #[.iface 30 (.int .i64 n),.iface 153 (.pointer (some t))] w fun ev w'=>ev=.returned (.bool true)/\w'=u_ w t n:=by
 have h6:= @alh prog 137 _ (fun args=>ReflectliteValue.unpack (args.getD 0 (.tuple #[]))) func137 kR kR kR kR;have h7:= @alh prog 138 _ (ReflectliteValue.methodAny (ReflectliteValue.valueError "reflectlite.Value.Type" 0) (fun t _ _ _=>ReflectliteType.toType t)) func138 kR kR kR kR;have h8:= @alh prog 139 _ (ReflectliteValue.method (ReflectliteValue.valueError "reflectlite.Value.IsNil" 0) ReflectliteValue.isNil) func139 kR kR kR kR;have h27:= @alh prog 261 _ (ReflectliteType.abiMethod fun t=>do pure (.int .u8 (<-Rtype.kind t))) func261 kR kR kR kR;have h37:= @alh prog 275 _ (ReflectliteType.method ReflectliteType.elem) func275 kR kR kR kR;have h38:= @alh prog 276 _ (ReflectliteType.relation "Implements" ReflectliteType.implements_) func276 kR kR kR kR;have h10:= @alh prog 177 _ ReflectliteType.typeOf func177 kR kR kR kR;have h35:= @alh prog 273 _ (ReflectliteType.relation "AssignableTo" ReflectliteType.assignableTo) func273 kR kR kR kR;have h11:= @alh prog 178 _ (ReflectliteValue.method (ReflectliteValue.valueError "reflectlite.Value.Elem" 0) ReflectliteValue.elem) func178 kR kR kR kR;have h12:= @alh prog 179 _ ReflectliteValue.set func179 kR kR kR kR;have tO:=Ng;have mA:=s_;have a25:=Cd;have EE:=JY;have f6:=JZ;have f7:=U0;have mK:=EN;have mE:=EM;have mI:=vI;have k27:=UY;have k25:=UX;have e27:=UU;have i25:=Ce;have n8:=Rf ⟨w.heap.size,0,none⟩ t ((w.alloc (.cells #[.pointer (some t)] 153)).alloc (.cells #[.pointer (some ⟨9,153,none⟩),.pointer (some ⟨w.heap.size,0,none⟩),.int .u64 150] 190)) sP
 have aE:0<w.heap.size:=by
  rcases af8 0 w.heap.size with h|h
  ·exact h
  ·simp[alr,adm h]at hg
 have Ez:((w.alloc (.cells #[.pointer (some t)] 153)).alloc (.cells #[.pointer (some ⟨9,153,none⟩),.pointer (some ⟨w.heap.size,0,none⟩),.int .u64 150] 190)).cell? ⟨0,0,none⟩=some (.iface 233 (.agg #[.pointer (some ⟨9,24,none⟩)])):=by
  rw[alg _ _ ⟨0,0,none⟩ (by simp<;>omega),alg _ _ ⟨0,0,none⟩ aE];exact hg
 have htl:t.block<w.heap.size:=by
  rcases af8 t.block w.heap.size with h|h
  ·exact h
  ·simp[alr,adm h]at ht0
 have el:=UW ⟨w.heap.size,0,none⟩ t (((w.alloc (.cells #[.pointer (some t)] 153)).alloc (.cells #[.pointer (some ⟨9,153,none⟩),.pointer (some ⟨w.heap.size,0,none⟩),.int .u64 150] 190)).alloc (.cells #[.pointer (some ⟨9,153,none⟩),.pointer (some ⟨w.heap.size,0,none⟩),.int .u64 150] 190)) (by rw[alg _ _ ⟨w.heap.size,0,none⟩ sO];simp)
 have st:=ZG t ⟨w.heap.size+1+1+1,0,none⟩ n old ((((w.alloc (.cells #[.pointer (some t)] 153)).alloc (.cells #[.pointer (some ⟨9,153,none⟩),.pointer (some ⟨w.heap.size,0,none⟩),.int .u64 150] 190)).alloc (.cells #[.pointer (some ⟨9,153,none⟩),.pointer (some ⟨w.heap.size,0,none⟩),.int .u64 150] 190)).alloc (.cells #[.int .i64 n] 30))
  (by rw[World.cell?_alloc_at _ _ _ _ sP];rfl)
  (by rw[alg _ _ t sO,alg _ _ t sO,alg _ _ t sO,alg _ _ t htl];exact ht0)
  (by rw[ali _ _ t sO,ali _ _ t sO,ali _ _ t sO,ali _ _ t (Nat.ne_of_lt htl)];exact VZ)
 go_in
 go_wp2
 refine wp_loop_rounds 1 ?_;rw[rounds_succ]
 go_wp2
 go_ret;exact⟨rfl,rfl⟩
def ey(w:aah):Prop:=w.cell? ⟨0,0,none⟩=some (.iface 233 (.agg #[.pointer (some ⟨9,24,none⟩)]))
theorem ey.lt{w:aah}(h:ey w):0<w.heap.size:=by
 unfold ey at h;rcases af8 0 w.heap.size with h'|h'
 ·exact h'
 ·simp[alr,adm h']at h
theorem ey.below{B:Nat}{w w':aah}(h:ey w)(hb:Below B w w')(hB:0<B):ey w':=by
 unfold ey at*;rw[hb.cell (p:=⟨0,0,none⟩) hB];exact h
theorem abW(n:Int)(w:aah)(hg:ey w):Calls prog 57 #[.iface 30 (.int .i64 n)] w fun e w'=>e=.returned (.int .i64 n)/\Below w.heap.size w w':=by
 have aE:=hg.lt
 have As:(w.alloc (.cells #[.int .i64 0] 30)).cell? ⟨0,0,none⟩=some (.iface 233 (.agg #[.pointer (some ⟨9,24,none⟩)])):=by
  rw[alg _ _ ⟨0,0,none⟩ aE];exact hg
 have hb:Below w.heap.size w (u_ (w.alloc (.cells #[.int .i64 0] 30)) ⟨w.heap.size,0,none⟩ n):=by
  unfold u_;exact((((bR.alloc sP _).alloc sP _ |>.alloc sO _).alloc sO _).alloc sO _).setCell sP _
 have hc:(u_ (w.alloc (.cells #[.int .i64 0] 30)) ⟨w.heap.size,0,none⟩ n).cell? ⟨w.heap.size,0,none⟩=some (.int .i64 n):=by
  unfold u_;refine World.cell?_setCell_same (u:=.int .i64 0) _ _ _ ?_;rw[alg _ _ _ (by simp<;>omega),alg _ _ _ (by simp<;>omega),alg _ _ _ (by simp<;>omega),alg _ _ _ (by simp<;>omega)];simp
 have H:=adH n ⟨w.heap.size,0,none⟩ (.int .i64 0) (w.alloc (.cells #[.int .i64 0] 30)) As sP sP;generalize u_ (w.alloc (.cells #[.int .i64 0] 30)) ⟨w.heap.size,0,none⟩ n=W1 at*;have H2:=zH H;clear H
 go_in
 go_wp2_with (go_at_call 96;refine H2.O.mono ?_;rintro e w' ⟨rfl,rfl⟩);go_ret;exact⟨rfl,hb⟩
end Go.Proofs.YtjligkmjlenofaaGreatDoor
namespace Go.Proofs.YtjligkmjlenofaaGreatDoor.workers
open Go.Proofs.Tryz
open Go.ChangeShapes Go.WideShapes Go.ChangeAt Go.RowKit Go.Deep
variable{W:aah}
def afl:alp Unit->List aai
 | .lit (.int k z)=>[.int k z]
 | .lit (.string b)=>[.string ⟨b.toArray⟩]
 | .lit (.bool b)=>[.bool b]
 |_=>[]
def ahR:alp Unit->List aai
 | .agg l=>l.flatMap afl
 |x=>afl x
def ahS:alp Unit->List aai
 | .agg l=>l.flatMap ahR
 |x=>afl x
def yj(w:aah)(g:Nat)(d:alp Unit):aah:=
 {w with heap:=w.heap.modify g fun
  | .cells _ t frozen=>.cells (ahS d).toArray t frozen
  |o=>o}
noncomputable def low:Nat:=(World.holding prog default ⟨#[],#[],[]⟩).heap.size
def strOf:alp Unit->aai
 | .iface _ (.ptr (.agg [.lit (.string b)]))=>.string ⟨b.toArray⟩
 |_=>.nilIface
def Xv(w:aah)(g a:Nat):aah:=
 {w with heap:=w.heap.modify g fun
  | .cells _ t frozen=>.cells #[.iface 261 (.pointer (some ⟨a,0,none⟩))] t frozen
  |o=>o}
noncomputable def Yu(os:Os):aah:=
 yj (yj (yj (yj (yj (Xv (Xv (World.holding prog os ⟨#[.cells #[strOf Rows.laid_strconv_ErrRange] 263,.cells #[strOf Rows.laid_strconv_ErrSyntax] 263],#[],[]⟩) 5 (low+0)) 4 (low+1)) 7 Rows.laid_math_bits_deBruijn32tab) 8 Rows.laid_math_bits_deBruijn64tab) 6 Rows.laid_internal_strconv_uint64pow10) 2 Rows.laid_unicode_utf8_acceptRanges) 1 Rows.laid_unicode_utf8_first
noncomputable def zy(os:Os):aah:=
 let w0:=Yu os
 {w0 with heap:=w0.heap.modify 0 fun
  | .cells _ t frozen=>.cells #[.iface 233 (.agg #[.pointer (some ⟨9,24,none⟩)])] t frozen
  |o=>o}
def J':List (String×alp Unit):=[("math/bits.deBruijn32tab",Rows.laid_math_bits_deBruijn32tab),("math/bits.deBruijn64tab",Rows.laid_math_bits_deBruijn64tab),("internal/strconv.uint64pow10",Rows.laid_internal_strconv_uint64pow10),("unicode/utf8.acceptRanges",Rows.laid_unicode_utf8_acceptRanges),("strconv.ErrRange",Rows.laid_strconv_ErrRange),("strconv.ErrSyntax",Rows.laid_strconv_ErrSyntax),("unicode/utf8.first",Rows.laid_unicode_utf8_first)]
theorem oy(h:alk prog Rows.manyWorkersRow.laid W):alv prog J' W/\handlesMet prog [("errors.errorType",Rows.laid_errors_errorType)] W:=h
theorem et:prog.globalNamed "errors.errorType"=some 0:=kR
theorem rt:(prog.cutTypes.find? (·.1 == "internal/reflectlite.rtype")).map (·.2)=some 233:=kR
theorem afy:((List.range 325).filter fun t=>prog.rowNamed t [101,114,114,111,114])=[24]:=kR
theorem types_size:prog.types.size=325:=kR
theorem Ap(h:alk prog Rows.manyWorkersRow.laid W):ey W:=by
 have h':=oy h;obtain⟨name,u,ty,e1,e2,e3,e4,e5⟩:=h'.2 _ (acg.2 rfl);have en:name=[101,114,114,111,114]:=(ahK e1).symm;subst en;obtain rfl:=ahK (rt.symm.T e2);have hm:ty∈(List.range 325).filter fun t=>prog.rowNamed t [101,114,114,111,114]:=List.mem_filter.2 ⟨List.mem_range.2 (by rw[<-types_size];exact e3),e4⟩
 rw[afy]at hm;obtain rfl:=acg.1 hm;have hh:typeHandle prog 24=.pointer (some ⟨9,24,none⟩):=kR;rw[hh]at e5;have h1:=alm et e5 0;unfold ey;simpa using h1
theorem QX: "*"++ "errors.errorString"= "*errors.errorString":=by decide
theorem OB(u:TypeId)(h:prog.typeName? 3 u=some "*errors.errorString"):u=261:=
 typeName_ptr_named (nm:= "errors.errorString") (by rw[QX];kernel_rfl) kR dC u (by rw[QX];exact h)
theorem tf(h:alk prog Rows.manyWorkersRow.laid W):∃tp p,W.cell? ⟨5,0,none⟩=some (.iface tp p):=by
 obtain⟨a,s,hv, -, -, -⟩:=laid_sentinel (show alv prog J' W from(oy h).1).tail.tail.tail.tail (show prog.globalNamed "strconv.ErrRange"=some 5 by kernel_rfl) (show(prog.globals[5]?).map (·.type)=some 24 by kernel_rfl) underlying24 OB underlying261 underlying263 rfl rfl underlying9 kR kR;exact⟨_,_,by have h0:=alm (show prog.globalNamed "strconv.ErrRange"=some 5 by kernel_rfl) hv 0;simpa using h0⟩
theorem si(h:alk prog Rows.manyWorkersRow.laid W):∃tp p,W.cell? ⟨4,0,none⟩=some (.iface tp p):=by
 obtain⟨a,s,hv, -, -, -⟩:=laid_sentinel (show alv prog J' W from(oy h).1).tail.tail.tail.tail.tail (show prog.globalNamed "strconv.ErrSyntax"=some 4 by kernel_rfl) (show(prog.globals[4]?).map (·.type)=some 24 by kernel_rfl) underlying24 OB underlying261 underlying263 rfl rfl underlying9 kR kR;exact⟨_,_,by have h0:=alm (show prog.globalNamed "strconv.ErrSyntax"=some 4 by kernel_rfl) hv 0;simpa using h0⟩
theorem Ip(h:alk prog Rows.manyWorkersRow.laid W):bX W:=⟨si h,tf h⟩
theorem Yw:(Rows.laid_internal_strconv_uint64pow10:alp Unit)=Lib.tabData .u64 Lib.pow10Tab:=by rfl
theorem af4:(prog.globals[6]?).map (·.type)=some 248:=kR
theorem Ji(h:alk prog Rows.manyWorkersRow.laid W):eN W:=by
 have h':alv prog J' W:=(oy h).1;obtain⟨g,t,cs,fuel,p,h1,h2,h3,h4⟩:=Lib.laidMet.reads h' (.tail _ (.tail _ (.head _)));obtain rfl:=ahK (Ee.symm.T h1);obtain rfl:=ahK (af4.symm.T h2);rw[Yw]at h4;have hc:=Lib.cells_of_tab (n:=20) kR underlying36 kR kR h4;unfold eN Lib.TabIs;rw[h3,<-hc]
def II:Array aai:=#[.slice none 0 0,.int .i64 0,.int .i64 0]
theorem WA(os:Os):alk prog Rows.manyWorkersRow.laid ((zy os).forCall (fun _ _=>0) ⟨#[],II,[]⟩).memory:=
 laidMetH_of_parts (laidMet_of_run3 10 kR kR kR) kR
theorem reads(os:Os){H:Type}(enc:TypeId×aai->H):∃places,DataW.whole enc prog ((zy os).forCall (fun _ _=>0) ⟨#[],II,[]⟩).memory Tryz.f3.params.toList Rows.manyWorkersSpec.vars false II.toList 8=some ([.nil,.lit (.int .i64 0),.lit (.int .i64 0)],[],places):=
 ⟨[],by kernel_rfl⟩
theorem Xx:prog.inPlace 3=Rows.manyWorkersRow.inPlace:=kR
theorem XA:prog.unfollowed 3=Rows.manyWorkersRow.unfollowed:=kR
theorem Xz:prog.recurses 3=Rows.manyWorkersRow.recurses:=kR
theorem Xy:prog.varsNamed 3=Rows.manyWorkersRow.named:=kR
theorem facts:joinedFacts prog 3 Tryz.f3 Rows.manyWorkersSpec Rows.manyWorkersRow=true:=by
 unfold joinedFacts;rw[Xx,XA,Xz,Xy]
 kernel_rfl
end Go.Proofs.YtjligkmjlenofaaGreatDoor.workers
