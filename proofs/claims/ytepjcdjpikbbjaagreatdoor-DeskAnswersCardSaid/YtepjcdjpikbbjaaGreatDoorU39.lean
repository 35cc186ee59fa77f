/-
  DeskAnswers: a session is answered, line by line, as the document tells: the laid world and the row's reach.
-/
import Derived.Test.YtepjcdjpikbbjaaGreatDoorU00
import Derived.Test.YtepjcdjpikbbjaaGreatDoorU27
import Derived.Lib.LaidTab
import Derived.Lib.LaidU8
import Derived.Lib.SmallJoins
import Derived.Deep.DeepLaidRun
import Derived.Stop.LaidErr
import Derived.Test.YtepjcdjpikbbjaaGreatDoorU38
namespace Go.Proofs.YtepjcdjpikbbjaaGreatDoor.answers
open Go.Proofs.Tryz
open Go.ChangeShapes Go.WideShapes Go.ChangeAt Go.RowKit Go.Deep
def IB:DataW Unit→List Value
 | .lit (.int k z)=>[.int k z]
 | .lit (.string b)=>[.string ⟨b.toArray⟩]
 | .lit (.bool b)=>[.bool b]
 |_=>[]
def IY:DataW Unit→List Value
 | .agg l=>l.flatMap IB
 |x=>IB x
def Jd:DataW Unit→List Value
 | .agg l=>l.flatMap IY
 |x=>IB x
def nU (w:World) (g:Nat) (d:DataW Unit):World:=
 {w with heap:=w.heap.modify g fun
  | .cells _ t frozen=>.cells (Jd d).toArray t frozen
  |o=>o}
noncomputable def low:Nat:=(World.holding prog default ⟨#[],#[],[]⟩).heap.size
def Ha:DataW Unit→Value
 | .iface _ (.ptr (.agg [.lit (.string b)]))=>.string ⟨b.toArray⟩
 |_=>.nilIface
def Fv (w:World) (g a:Nat):World:=
 {w with heap:=w.heap.modify g fun
  | .cells _ t frozen=>.cells #[.iface 291 (.pointer (some ⟨a,0,none⟩))] t frozen
  |o=>o}
def Ja:Lit→Value
 | .string b=>.string ⟨b.toArray⟩
 |_=>.nilIface
def Jq:DataW Unit→Array MapEntry
 | .map l=>(l.zipIdx.map fun p=>(⟨Ja p.1.1,match p.1.2 with| .lit x=>Ja x|_=>.nilIface,p.2⟩:MapEntry)).toArray
 |_=>#[]
def IC (w:World) (g a:Nat):World:=
 {w with heap:=w.heap.modify g fun
  | .cells _ t frozen=>.cells #[.map (some a)] t frozen
  |o=>o}
noncomputable def CV (os:Os):World:=
 nU (nU (nU (nU (nU (IC (Fv (Fv (World.holding prog os ⟨#[.cells #[Ha Rows.laid_strconv_ErrRange] 293,.cells #[Ha Rows.laid_strconv_ErrSyntax] 293,.map (Jq Rows.laid_rotor_rotorref_forms) 5000],#[],[]⟩) 6 (low+0)) 5 (low+1)) 0 (low+2)) 8 Rows.laid_math_bits_deBruijn32tab) 9 Rows.laid_math_bits_deBruijn64tab) 7 Rows.laid_internal_strconv_uint64pow10) 3 Rows.laid_unicode_utf8_acceptRanges) 2 Rows.laid_unicode_utf8_first
noncomputable def o2 (os:Os):World:=
 let w0:=CV os
 {w0 with heap:=w0.heap.modify 1 fun
  | .cells _ t frozen=>.cells #[.iface 260 (.agg #[.pointer (some ⟨10,44,none⟩)])] t frozen
  |o=>o}
def tN:List (String×DataW Unit):=[("math/bits.deBruijn32tab",Rows.laid_math_bits_deBruijn32tab),("math/bits.deBruijn64tab",Rows.laid_math_bits_deBruijn64tab),("internal/strconv.uint64pow10",Rows.laid_internal_strconv_uint64pow10),("unicode/utf8.acceptRanges",Rows.laid_unicode_utf8_acceptRanges),("strconv.ErrRange",Rows.laid_strconv_ErrRange),("strconv.ErrSyntax",Rows.laid_strconv_ErrSyntax),("rotor/rotorref.forms",Rows.laid_rotor_rotorref_forms),("unicode/utf8.first",Rows.laid_unicode_utf8_first)]
theorem ic {W:World} (h:laidMetH prog Rows.deskAnswersRow.laid W):laidMet prog tN W∧handlesMet prog [("errors.errorType",Rows.laid_errors_errorType)] W:=h
theorem et:prog.globalNamed "errors.errorType"=some 1:=kR
theorem rt:(prog.cutTypes.find? (·.1 == "internal/reflectlite.rtype")).map (·.2)=some 260:=kR
theorem Ii:((List.range 366).filter fun t=>prog.rowNamed t [101,114,114,111,114])=[44]:=kR
theorem yv:prog.types.size=366:=kR
theorem wu {W:World} (h:laidMetH prog Rows.deskAnswersRow.laid W):da W:=by
 have h':=ic h;obtain⟨name,u,ty,e1,e2,e3,e4,e5⟩:=h'.2 _ (List.mem_singleton.2 rfl);have en:name=[101,114,114,111,114]:=(Option.some.inj e1).symm;subst en;obtain rfl:=Option.some.inj (rt.symm.trans e2);have hm:ty∈(List.range 366).filter fun t=>prog.rowNamed t [101,114,114,111,114]:=List.mem_filter.2 ⟨List.mem_range.2 (by rw[←yv];exact e3),e4⟩
 rw[Ii]at hm;obtain rfl:=List.mem_singleton.1 hm;have hh:typeHandle prog 44=.pointer (some ⟨10,44,none⟩):=kR;rw[hh]at e5;have h1:=World.var?_cell et e5 0;unfold da;simpa using h1
theorem zW: "*"++ "errors.errorString"= "*errors.errorString":=by decide
theorem Ff (u:TypeId) (h:prog.typeName? 3 u=some "*errors.errorString"):u=291:=
 typeName_ptr_named (nm:= "errors.errorString") (by rw[zW];kernel_rfl) kR dC u (by rw[zW];exact h)
theorem lj {W:World} (h:laidMetH prog Rows.deskAnswersRow.laid W): ∃ tp p,W.cell? ⟨6,0,none⟩=some (.iface tp p):=by
 obtain⟨a,s,hv,-,-,-⟩:=laid_sentinel (show laidMet prog tN W from(ic h).1).tail.tail.tail.tail (show prog.globalNamed "strconv.ErrRange"=some 6 by kernel_rfl) (show(prog.globals[6]?).map (·.type)=some 44 by kernel_rfl) underlying44 Ff underlying291 underlying293 rfl rfl underlying9 kR kR;exact⟨_,_,by have h0:=World.var?_cell (show prog.globalNamed "strconv.ErrRange"=some 6 by kernel_rfl) hv 0;simpa using h0⟩
theorem kQ {W:World} (h:laidMetH prog Rows.deskAnswersRow.laid W): ∃ tp p,W.cell? ⟨5,0,none⟩=some (.iface tp p):=by
 obtain⟨a,s,hv,-,-,-⟩:=laid_sentinel (show laidMet prog tN W from(ic h).1).tail.tail.tail.tail.tail (show prog.globalNamed "strconv.ErrSyntax"=some 5 by kernel_rfl) (show(prog.globals[5]?).map (·.type)=some 44 by kernel_rfl) underlying44 Ff underlying291 underlying293 rfl rfl underlying9 kR kR;exact⟨_,_,by have h0:=World.var?_cell (show prog.globalNamed "strconv.ErrSyntax"=some 5 by kernel_rfl) hv 0;simpa using h0⟩
theorem vv {W:World} (h:laidMetH prog Rows.deskAnswersRow.laid W):bf W:=⟨kQ h,lj h⟩
theorem C2:(Rows.laid_internal_strconv_uint64pow10:DataW Unit)=Lib.tabData .u64 Lib.pow10Tab:=by rfl
theorem Ho:(prog.globals[7]?).map (·.type)=some 274:=kR
theorem uN {W:World} (h:laidMetH prog Rows.deskAnswersRow.laid W):bH W:=by
 have h':laidMet prog tN W:=(ic h).1;obtain⟨g,t,cs,fuel,p,h1,h2,h3,h4⟩:=Lib.laidMet.reads h' (.tail _ (.tail _ (.head _)));obtain rfl:=Option.some.inj (uP.symm.trans h1);obtain rfl:=Option.some.inj (Ho.symm.trans h2);rw[C2]at h4;have hc:=Lib.cells_of_tab (n:=20) kR underlying149 kR kR h4;unfold bH Lib.TabIs;rw[h3,←hc]
def DN:DataW Unit→List Int
 | .agg l=>l.map fun| .lit (.int _ z)=>z|_=>0
 |_=>[]
theorem Ef:(Rows.laid_math_bits_deBruijn64tab:DataW Unit)=Lib.tabData .u8 (DN Rows.laid_math_bits_deBruijn64tab):=by rfl
theorem II:(prog.globals[9]?).map (·.type)=some 322:=kR
theorem Hf:prog.globalNamed "math/bits.deBruijn64tab"=some 9:=kR
theorem I2:prog.underlying 322=some (.array 64 5):=kR
theorem ID:prog.cellsOf 5=1:=kR
theorem Iy:prog.cellsOf 322=64:=kR
theorem xN {W:World} (h:laidMetH prog Rows.deskAnswersRow.laid W):cW W:=by
 have h':laidMet prog tN W:=(ic h).1;obtain⟨g,t,cs,fuel,p,h1,h2,h3,h4⟩:=Lib.laidMet.reads h' (.tail _ (.head _));obtain rfl:=Option.some.inj (Hf.symm.trans h1);obtain rfl:=Option.some.inj (II.symm.trans h2);rw[Ef]at h4;have hc:=Lib.cells_of_tab I2 underlying5 ID Iy h4
 have hT:Lib.TabIs prog W "math/bits.deBruijn64tab" .u8 (DN Rows.laid_math_bits_deBruijn64tab):=by
  unfold Lib.TabIs;rw[h3,←hc]
 exact hT.cell Hf 15 dC
def uO:Array Value:=#[.string ⟨#[]⟩]
theorem EB (os:Os):laidMetH prog Rows.deskAnswersRow.laid ((o2 os).forCall (fun _ _=>0) ⟨#[],uO,[]⟩).memory:=
 laidMetH_of_parts (laidMet_of_run3 10 kR kR kR) kR
theorem reads (os:Os) {H:Type} (enc:TypeId×Value→H): ∃ places,DataW.whole enc prog ((o2 os).forCall (fun _ _=>0) ⟨#[],uO,[]⟩).memory Tryz.f3.params.toList Rows.deskAnswersSpec.vars false uO.toList 8=some ([.lit (.string [])],[],places):=
 ⟨[],by kernel_rfl⟩
theorem Ek:prog.inPlace 3=Rows.deskAnswersRow.inPlace:=kR
theorem D4:prog.unfollowed 3=Rows.deskAnswersRow.unfollowed:=kR
theorem DO:prog.recurses 3=Rows.deskAnswersRow.recurses:=kR
theorem EM:prog.varsNamed 3=Rows.deskAnswersRow.named:=kR
theorem facts:joinedFacts prog 3 Tryz.f3 (OpenSpec.ofChange Rows.deskAnswersSpec).bare Rows.deskAnswersRow=true:=by
 unfold joinedFacts;rw[Ek,D4,DO,EM]
 kernel_rfl
end Go.Proofs.YtepjcdjpikbbjaaGreatDoor.answers
