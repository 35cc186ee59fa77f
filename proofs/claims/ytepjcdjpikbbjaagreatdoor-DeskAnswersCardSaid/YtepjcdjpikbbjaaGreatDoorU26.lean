/-
  What the last step of every statement wants: the row's post behind a call that left old memory as it was; a slice of structs opened. (After the guide's pages on small lemmas and structs.)
-/
import Derived.Test.YtepjcdjpikbbjaaGreatDoorU00
import Derived.Test.YtepjcdjpikbbjaaGreatDoorRows
import Derived.WalkKit
import Derived.ProofKit
import Derived.OpenShut
import Derived.Deep.DeepHandedRow
import Derived.Deep.Slices
import Derived.Deep.Fields
import Derived.ChangeSame
import Derived.Lib.LaidTab
import Derived.Lib.SmallJoins
import Derived.LaidLaws
import Derived.LaidHandle
import Derived.SizedLaws
import Derived.Test.YtepjcdjpikbbjaaGreatDoorU25
import Derived.Test.YtepjcdjpikbbjaaGreatDoorU24
import Derived.Test.YtepjcdjpikbbjaaGreatDoorU07
import Derived.Test.YtepjcdjpikbbjaaGreatDoorU20
import Derived.BigQuiet
import Derived.Deep.QuietTactic
import Derived.Deep.RegionHeld3
import Derived.Test.YtepjcdjpikbbjaaGreatDoorU05
import Derived.Test.YtepjcdjpikbbjaaGreatDoorU21
import Derived.Lib.LastIndexByte
import Derived.Lib.IndexAny
set_option maxHeartbeats 8000000
set_option maxRecDepth 100000
namespace Go.Proofs.YtepjcdjpikbbjaaGreatDoor
open Go.Proofs.Tryz
open Go.ChangeShapes Go.WideShapes Go.ChangeAt Go.RowKit Go.Deep
theorem DQ:ownKnob prog.godebug=none:=kR
theorem Fl:laidOutB prog=true:=kR
section
variable {H:Type} {enc:TypeId×Value→H} {P:Program}
theorem sU {f:Func} {s:ChangeSpec} {apart fresh handsOn again:Bool} {W W':World} {args:Array Value} {v:Value} {ds gs:List (DataW H)} {before pa pv:List MemPlace}
  (hW:DataW.Whole enc P f.params.toList s.vars apart W args.toList ds gs before)
  (hres: ∀ (b:Nat) (sp:Nat→Bool) (hd:Bool),DataW.TrodAll enc P W' b sp hd f.resultTypes.toList (v.resultList f.resultTypes.size) (s.fn H (ds++gs)).results [])
  (hargs: ∀ sp:Nat→Bool,(∀ p∈before,sp p.block=true)→DataW.TrodAll enc P W' 0 sp true f.params.toList args.toList (s.fn H (ds++gs)).args pa)
  (hvars: ∀ sp:Nat→Bool,(∀ p∈before,sp p.block=true)→DataW.TrodVars enc P W' sp s.vars (s.fn H (ds++gs)).vars pv)
  (hps:before=pa++pv) (hb:Below W.heap.size W W')
  (hok: ∀ (j:Nat) (t:TypeId) (r:Value),f.resultTypes[j]?=some t→(v.resultList f.resultTypes.size)[j]?=some r→Value.okWide P W' .any 0 t r):
  s.post enc P f apart fresh handsOn again W args v W':=by
 have hlt: ∀ p∈before,p.block<W.heap.size:=fun p hp=>hW.lt p hp
 have hold: ∀ p∈before,(fun b=>decide (b<W.heap.size)) p.block=true:=fun p hp=>by simpa using hlt p hp
 refine⟨ds,gs,before,[],pa,pv,hW,hres _ _ _,hargs _ hold,hvars _ hold,World.keptBut_mono (fun p hp=>⟨hp,?_⟩) (hb.frame (· ∈before)),fun _=>?_⟩
 ·rw[hps,List.mem_append]at hp
  exact Or.inr hp
 ·obtain⟨_,_,_,_,_,hz,hn⟩:=hW
  refine⟨hok,_,_,([]++pa)++pv,⟨[]++pa,pv,trodAll_append (hargs _ (fun _ _=>rfl)) (hres _ _ _),hvars _ (fun _ _=>rfl),rfl,?_,?_⟩,?_⟩
  ·intro b off hp
   have hin:MemPlace.cell b off∈before:=by rw[hps];simpa using hp
   rw[hb.frozen (hlt _ hin)];exact hz b off hin
  ·intro ha
   have:=hn ha;rw[hps]at this;simpa using this
  ·intro p hp _
   rw[hps];simpa using hp
end
section
variable {H:Type} {enc:TypeId×Value→H} {P:Program} {w:World} {base:Nat} {spare:Nat→Bool} {held:Bool}
end
theorem vD {H:Type} {enc:TypeId×Value→H} {P:Program} {W:World} {base:Nat} {sp:Nat→Bool} {held:Bool} {t:TypeId} {s:ByteArray} {d:DataW H} {p:List MemPlace} {ts:List TypeId} {ds:List (DataW H)} {j:Nat}
  (ht:P.underlying t=some .string) (h:DataW.Trod enc P W base sp held t (.string s) d p) (hwt:(DataW.weightsEach P ts ds).all (· ≤reachBytes)=true) (hts:ts[j]?=some t) (hds:ds[j]?=some d):s.size≤140737488351232∧d=.lit (.string s.data.toList):=by
 obtain⟨fuel,hf⟩:=h;obtain⟨s',e,e2,_⟩:=DataW.trod_string ht hf;simp only[Value.cells,List.cons.injEq,Value.string.injEq,and_true]at e;subst e;simp only[Prod.mk.injEq]at e2;have e3:=e2.1;subst e3;have:=sized_string hwt hts hds;refine⟨?_,rfl⟩;have hz:s.data.toList.length=s.size:=by cases s;simp[ByteArray.size]
 rw[hz]at this;exact this
open Go.Sort
def Is (W:World) (B db:Nat) (D:Dk) (s:St) (n f x:Int) (e:Ending) (w':World):Prop:=
 ∃ (sb:Nat) (v:Value),e=.returned (.tuple #[.pointer (some ⟨sb,0,none⟩),.nilIface])∧SD B sb db D s v n f x false w'∧W.heap.size≤sb∧Below W.heap.size W w'
def nN (blk:Nat→List UInt8):Nat→Int×Int×St
 |0=>(0,0,jf)
 |k+1=>fs (nN blk k) (fh aQ blk k)
theorem Cl (blk:Nat→List UInt8):nN blk 2=tM aQ blk:=rfl
structure io (W:World) (B db:Nat) (D:Dk) (s:St) (v:Value) (n f x:Int) (w:World):Prop where
 sd:SD B W.heap.size db D s v n f x false w
 below:Below W.heap.size W w
section
variable {W w w':World} {B db:Nat} {D:Dk} {s:St} {v:Value} {n f x:Int}
theorem io.keep (h:io W B db D s v n f x w) (hb:Below w.heap.size w w'):io W B db D s v n f x w':=⟨h.sd.keep hb,ae h.below hb⟩
theorem io.drew (h:io W B db D s v n f x w):io W B db D s v n f x w.drew:=⟨h.sd.drew,au h.below⟩
theorem io.start (hE:pR B W) (hd:bc W db D) (hB:B≤db) (hBW:B≤W.heap.size):io W B db D ⟨0,1,[]⟩ (.slice none 0 0) 0 0 0 (W.alloc (.cells (dM db ⟨0,1,[]⟩ (.slice none 0 0) 0 0 0 false) 112)):=by
 have hb:Below W.heap.size W (W.alloc (.cells (dM db ⟨0,1,[]⟩ (.slice none 0 0) 0 0 0 false) 112)):=(Below.refl _ _).alloc (Nat.le_refl _) _;exact⟨⟨hE.new hBW hb,aj.new W _ _,hd.below hb,aD.nil _ _,hBW,hB⟩,hb⟩
theorem io.sets (h:io W B db D s v n f x w) {s':St} {v':Value} {n' f' x':Int} (hr:aD w B v' s'.fams) (hs:qJ w' W.heap.size db s' v' n' f' x' false) (hg:w.grownBy w' (some W.heap.size)):io W B db D s' v' n' f' x' w':=by
 obtain⟨h1,h2,h3⟩:=h.sd.apart;have hb:=h.below.grown hg h.below.size (fun _ hk=>by cases hk;exact Nat.le_refl _);have hbB:Below B w w':=(Below.refl B w).grown hg h.sd.big (fun k hk=>by cases hk;exact h.sd.bs);exact⟨⟨h.sd.env.keep hbB,hs,h.sd.disk.grown hg (by simpa using Ne.symm h3),hr.kept hg (hr.apart h.sd.st dC),h.sd.bs,h.sd.bd⟩,hb⟩
theorem io.next (h:io W B db D s v n f x w) (x':Int):io W B db D s v n f x' (w.setCell ⟨W.heap.size,6,none⟩ (.int .i64 x')):=
 h.sets h.sd.row (aj.put_ h.sd.st 6 (.int .i64 x') (cs':=dM db s v n f x' false) rfl) (aZ w W.heap.size ⟨W.heap.size,6,none⟩ rfl (.int .i64 x'))
theorem io.state (h:io W B db D s v n f x w) (s':St) {v':Value} (hr:aD w B v' s'.fams):
  io W B db D s' v' n f x (((w.setCell ⟨W.heap.size,1,none⟩ (.int .i64 s'.clock)).setCell ⟨W.heap.size,2,none⟩ (.int .i64 s'.next)).setCell ⟨W.heap.size,3,none⟩ v'):=by
 have e1:=aj.put_ h.sd.st 1 (.int .i64 s'.clock) (cs':=dM db ⟨s'.clock,s.next,s.fams⟩ v n f x false) rfl;have e2:=aj.put_ e1 2 (.int .i64 s'.next) (cs':=dM db ⟨s'.clock,s'.next,s.fams⟩ v n f x false) rfl;have e3:=aj.put_ e2 3 v' (cs':=dM db s' v' n f x false) rfl;have g1:=aZ w W.heap.size ⟨W.heap.size,1,none⟩ rfl (.int .i64 s'.clock);have g2:=ag g1 (p:=⟨W.heap.size,2,none⟩) (.inl rfl) (.int .i64 s'.next);have g3:=ag g2 (p:=⟨W.heap.size,3,none⟩) (.inl rfl) v';exact h.sets hr e3 g3
theorem io.numbers (h:io W B db D s v n f x w) (n' f':Int):io W B db D s v n' f' x ((w.setCell ⟨W.heap.size,4,none⟩ (.int .i64 n')).setCell ⟨W.heap.size,5,none⟩ (.int .i64 f')):=by
 have e1:=aj.put_ h.sd.st 4 (.int .i64 n') (cs':=dM db s v n' f x false) rfl;have e2:=aj.put_ e1 5 (.int .i64 f') (cs':=dM db s v n' f' x false) rfl;have g1:=aZ w W.heap.size ⟨W.heap.size,4,none⟩ rfl (.int .i64 n');have g2:=ag g1 (p:=⟨W.heap.size,5,none⟩) (.inl rfl) (.int .i64 f');exact h.sets h.sd.row e2 g2
theorem io.taken (h:io W B db D s v n f x w) (s':St) {v':Value} (hr:aD w B v' s'.fams) (n' f':Int):
  io W B db D s' v' n' f' x (((((w.setCell ⟨W.heap.size,4,none⟩ (.int .i64 n')).setCell ⟨W.heap.size,5,none⟩ (.int .i64 f')).setCell ⟨W.heap.size,1,none⟩ (.int .i64 s'.clock)).setCell ⟨W.heap.size,2,none⟩ (.int .i64 s'.next)).setCell ⟨W.heap.size,3,none⟩ v'):=by
 have g1:=aZ w W.heap.size ⟨W.heap.size,4,none⟩ rfl (.int .i64 n');have g2:=ag g1 (p:=⟨W.heap.size,5,none⟩) (.inl rfl) (.int .i64 f');exact(h.numbers n' f').state s' (hr.kept g2 (hr.apart h.sd.st dC))
structure OE (W:World) (B db:Nat) (D:Dk) (s:St) (v:Value) (n f x:Int) (g:Nat) (e:Ev) (w:World):Prop where
 op:io W B db D s v n f x w
 ev:aj w g 116 (ax e)
theorem OE.keep {g:Nat} {e:Ev} (h:OE W B db D s v n f x g e w) (hb:Below w.heap.size w w'):OE W B db D s v n f x g e w':=⟨h.op.keep hb,h.ev.below' hb⟩
theorem OE.drew {g:Nat} {e:Ev} (h:OE W B db D s v n f x g e w):OE W B db D s v n f x g e w.drew:=⟨h.op.drew,h.ev⟩
theorem OE.three {g:Nat} {e:Ev} {ck nx:Int} {L:List an} (h:OE W B db D ⟨ck,nx,L⟩ v n f x g e w):w.cell? ⟨W.heap.size,1,none⟩=some (.int .i64 ck)∧w.cell? ⟨W.heap.size,2,none⟩=some (.int .i64 nx)∧w.cell? ⟨W.heap.size,3,none⟩=some v:=⟨aj.cell h.op.sd.st 1,aj.cell h.op.sd.st 2,aj.cell h.op.sd.st 3⟩
end
def Jv (W:World) (B db:Nat) (D:Dk) (i:Value) (w:World):Prop:= ∃ (k:Nat) (v:Value),k≤2∧i=.int .i64 k∧io W B db D (nN (bK D) k).2.2 v (nN (bK D) k).1 (nN (bK D) k).2.1 0 w
def Jx (W:World) (B db:Nat) (D:Dk) (s0:St) (es:List Ev) (n f:Int) (w:World):Prop:= ∃ (i:Nat) (v:Value),i≤es.length∧io W B db D ((es.take i).foldl am s0) v n f (f+i) w
theorem At {s0:St} {es:List Ev} (hf:iQ s0) (he: ∀ e∈es,dp e=true) (hl:es.length≤16): ∀ i,i≤es.length→kn ((es.take i).foldl am s0)∧((es.take i).foldl am s0).fams.length≤20+i
 |0,_=>by
  have:=hf.len;exact⟨hf.ok,by simpa using this⟩
 |i+1,hi=>by
  obtain⟨h1,h2⟩:=At hf he hl i oM;have hlt:i<es.length:=by omega
  have e1:es.take (i+1)=es.take i++[es[i]]:=by rw[List.take_add_one,List.getElem?_eq_getElem hlt];rfl
  rw[e1,List.foldl_append]
  show kn (am _ es[i])∧(am _ es[i]).fams.length≤_
  have h3:=mS ((es.take i).foldl am s0) es[i];exact⟨pA h1 oM (he _ (List.getElem_mem hlt)),by omega⟩
theorem Ct (s0:St) {es:List Ev} {i:Nat} {e:Ev} (he:es[i]?=some e):(es.take (i+1)).foldl am s0=am ((es.take i).foldl am s0) e:=by
 rw[List.take_add_one,he,List.foldl_append];rfl
theorem zn (B db:Nat) (D:Dk) (W:World) (hE:pR B W) (hd:bc W db D) (hB:B≤db) (hBW:B≤W.heap.size) (hf:D.fits) (n f x:Int) (s0:St) (es:List Ev) (hi:dJ aQ (bK D) n f x s0 es):
  Calls prog 19 #[.pointer (some ⟨db,0,none⟩)] W (Is W B db D (es.foldl am s0) n f x):=by
 have H0:=zH (io.start hE hd hB hBW);have HF:=zH hf;have HI:=zH hi;clear hE hd hf hi;unfold dM at H0;dsimp only at H0;go_enter Tryz.func19,Tryz.ntmps19;go_wp2_with fail
 go_loopw [19] (fun i wr=>Jv W B db D i wr) (fun i _=>2 - (intOf i).toNat)
 case atStart=>exact⟨0,_,Nat.zero_le _,rfl,H0.out⟩
 case round=>
  obtain⟨k,v,hk,rfl,hop⟩:=hrel;obtain⟨va,vc,rfl⟩:=hop.sd.row.slice;have HO:=zH hop;clear hop
  by_cases hk2:k<2
  ·have HL:=zH (yp B W.heap.size db D _ _ _ _ _ false wr HO.out.sd HF.out k hk2)
   have HBT:Hid (nN (bK D) (k+1)=fs (nN (bK D) k) (fh aQ (bK D) k)):=zH rfl;generalize fh aQ (bK D) k=o at*;generalize hpk:nN (bK D) k=pk at*;generalize hpk1:nN (bK D) (k+1)=pk1 at*;have HPK1:=zH hpk1;clear hpk hpk1;obtain⟨pn,pf,⟨pc,px,pL⟩⟩:=pk;dsimp only at*;obtain⟨c0,c1,c2,c3,c4,c5,c6,c7,z,hlt⟩:=HO.out.sd.cells;go_wp2_with fail;go_at_call 52;refine HL.out.mono ?_;rintro e w1 ⟨a,b,⟨lc,lx,lL⟩,lv,ok,rfl,hlr,hb,ho⟩;obtain⟨la,lcap,rfl⟩:=hlr.slice;have HO1:=zH (HO.out.keep hb);have HR1:=zH (hlr.mono (B':=B) HO.out.sd.big);have HA:=zH ((Below.refl w1.heap.size w1).alloc (Nat.le_refl _) (.cells #[.int .i64 lc,.int .i64 lx,.slice la lL.length lcap] 83));have HT:=zH (aj.new w1 83 #[.int .i64 lc,.int .i64 lx,.slice la lL.length lcap]);have HO2:=zH (HO1.out.keep HA.out);have HR2:=zH (HR1.out.below HA.out);unfold dj dN;dsimp only at HR2 ⊢;clear hb hlr HL c0 c1 c2 c3 c4 c5 c6 c7 z hlt;obtain⟨c0,c1,c2,c3,c4,c5,c6,c7,z,hlt⟩:=HO1.out.sd.cells;cases ok
   ·have HB:=zH (show fs (pn,pf,⟨pc,px,pL⟩) o=(pn,pf,⟨pc,px,pL⟩)from by
     rcases o with _|t
     ·rfl
     ·obtain⟨h1,_⟩:=ho
      cases h1)
    clear ho;go_wp2_with fail;go_roundw
    case rel=>
     refine⟨k+1,.slice va pL.length vc,by omega,by go_num,?_⟩;rw[HPK1.out,HBT.out,HB.out];exact HO2.out
    case measure=>simp[intOf];omega
   ·have HB:=zH (show fs (pn,pf,⟨pc,px,pL⟩) o=if a>pn then(a,b,⟨lc,lx,lL⟩)else(pn,pf,⟨pc,px,pL⟩)from by
     rcases o with _|t
     ·cases ho
     ·obtain⟨_,rfl⟩:=ho
      rfl)
    clear ho
    by_cases hgt:a>pn
    ·go_wp2_with fail
     clear c0 c1 c2 c3 c4 c5 c6 c7 z hlt;generalize w1.alloc (.cells #[.int .i64 lc,.int .i64 lx,.slice la lL.length lcap] 83)=w2 at*;generalize w1.heap.size=g1 at*;obtain⟨c0,c1,c2,c3,c4,c5,c6,c7,z,hlt⟩:=HO2.out.sd.cells;obtain⟨d0,d1,d2⟩:=dQ HT.out
     go_region
     go_wp2_with fail;go_roundw
     case rel=>
      refine⟨k+1,.slice la lL.length lcap,by omega,by go_num,?_⟩;rw[HPK1.out,HBT.out,HB.out,if_pos hgt];exact(HO2.out.taken ⟨lc,lx,lL⟩ HR2.out a b).drew
     case measure=>simp[intOf];omega
    ·go_wp2_with fail
     go_roundw
     case rel=>
      refine⟨k+1,.slice va pL.length vc,by omega,by go_num,?_⟩;rw[HPK1.out,HBT.out,HB.out,if_neg hgt];exact HO2.out
     case measure=>simp[intOf];omega
  ·obtain rfl:k=2:=by omega
   rw[Cl,(HI.out.opened pp).1]at HO;have HX:=zH (HO.out.next f);obtain⟨sck,snx,sL⟩:=s0;dsimp only at*;obtain⟨c0,c1,c2,c3,c4,c5,c6,c7,z,hlt⟩:=HO.out.sd.cells;go_wp2_with fail;clear c0 c1 c2 c3 c4 c5 c6 c7 z hlt HO H0;generalize wr.setCell ⟨W.heap.size,6,none⟩ (.int .i64 f)=w5 at*
   go_loopw [11] (fun _ wr=>Jx W B db D ⟨sck,snx,sL⟩ es n f wr) (fun _ wr=>(f+17 - intOf ((wr.cell? ⟨W.heap.size,6,none⟩).getD undef)).toNat)
   case atStart=>exact⟨0,_,Nat.zero_le _,by simpa using HX.out⟩
   case round=>
    obtain⟨i,v,hi,hop⟩:=hrel;obtain⟨wa,wc,rfl⟩:=hop.sd.row.slice;have HO:=zH hop;clear hop;have hx1:=HI.out.x1;have hxe:=HI.out.xe;have hf0:=HI.out.f0;have hl16:=HI.out.len;obtain⟨hok,hsl⟩:=At HI.out.fit HI.out.evs HI.out.len i hi;have HOK:=zH hok;have HEV:=zH (wA B W.heap.size db D _ _ n f (f+i) (f+i) false wr HO.out.sd HF.out hf0 oM oM oM);clear hok
    by_cases hie:i<es.length
    ·obtain⟨e,he⟩: ∃ e,es[i]?=some e:=⟨_,List.getElem?_eq_getElem hie⟩
     rw[HI.out.event pp he]at HEV;have hev:=HI.out.evs e (List.mem_of_getElem? he);have HNX:=zH (Ct ⟨sck,snx,sL⟩ he)
     have HA:Hid (∀ (w:World) (v:Value),aD w B v ((es.take i).foldl am ⟨sck,snx,sL⟩).fams→Calls prog 54 #[dj ((es.take i).foldl am ⟨sck,snx,sL⟩) v,aE e] w (iS w (am ((es.take i).foldl am ⟨sck,snx,sL⟩) e).clock (am ((es.take i).foldl am ⟨sck,snx,sL⟩) e).next (am ((es.take i).foldl am ⟨sck,snx,sL⟩) e).fams)):=
      zH fun w v hr=>(sk _ v _ e w hr HOK.out (uQ hev) (uM hev)).mono fun _ _ h=>fG h
     generalize am ((es.take i).foldl am ⟨sck,snx,sL⟩) e=s2 at*;generalize (es.take i).foldl am ⟨sck,snx,sL⟩=s1 at*;obtain⟨ck1,nx1,L1⟩:=s1;obtain⟨ck2,nx2,L2⟩:=s2;unfold iS dj dN aE ax at HA;clear he hev;obtain⟨kd,⟨fi,cl,su,sc,ge,ma,us,re,de⟩,id,ti⟩:=e;dsimp only at*;obtain⟨c0,c1,c2,c3,c4,c5,c6,c7,z,hlt⟩:=HO.out.sd.cells;go_wp2_with fail;go_at_call 53;refine HEV.out.mono ?_;rintro r w1 ⟨⟨e',b',rfl,rfl,rfl⟩,hb⟩;have HO1:=zH (HO.out.keep hb);have HOE:Hid (OE W B db D ⟨ck1,nx1,L1⟩ (.slice wa L1.length wc) n f (f+i) w1.heap.size ⟨kd,⟨fi,cl,su,sc,ge,ma,us,re,de⟩,id,ti⟩ (w1.alloc (.cells (ax ⟨kd,⟨fi,cl,su,sc,ge,ma,us,re,de⟩,id,ti⟩) 116))):=zH ⟨HO1.out.keep ((Below.refl _ _).alloc (Nat.le_refl _) _),aj.new w1 _ _⟩;unfold aE;unfold ax at HOE ⊢;dsimp only at HOE ⊢;clear hb HEV c0 c1 c2 c3 c4 c5 c6 c7 z hlt;go_wp2_with fail;generalize w1.alloc (.cells #[.int .i64 kd,.int .i64 fi,.string cl,.string su,.string sc,.int .i64 ge,.int .i64 ma,.int .i64 us,.string re,.bool de,.int .i64 id,.int .i64 ti] 116)=w2 at*;generalize w1.heap.size=g1 at*;refine aR (OE W B db D ⟨ck1,nx1,L1⟩ (.slice wa L1.length wc) n f (f+i) g1 ⟨kd,⟨fi,cl,su,sc,ge,ma,us,re,de⟩,id,ti⟩) [9] kR ?_;have HSD:=HOE.out.drew;refine aa 2 (i:=0) (v:= ?v0) rfl kR kR kR kR kR (fun _ _ _ h=>h) (by rfl) ?hy0 aS ?rest0
     case hy0=>(intro w hSw;obtain⟨q1,q2,q3⟩:=hSw.three;obtain⟨e0,e1,e2,e3,e4,e5,e6,e7,e8,e9,e10,e11⟩:=bg hSw.ev;go_simp;(try with_reducible rfl))
     simp only[Act.put];refine aa 2 (i:=1) (v:= ?v1) rfl kR kR kR kR kR (fun _ _ _ h=>h) (by rfl) ?hy1 aS ?rest1
     case hy1=>(intro w hSw;obtain⟨q1,q2,q3⟩:=hSw.three;obtain⟨e0,e1,e2,e3,e4,e5,e6,e7,e8,e9,e10,e11⟩:=bg hSw.ev;go_simp;(try with_reducible rfl))
     simp only[Act.put];refine aa 2 (i:=2) (v:= ?v2) rfl kR kR kR kR kR (fun _ _ _ h=>h) (by rfl) ?hy2 aS ?rest2
     case hy2=>(intro w hSw;obtain⟨q1,q2,q3⟩:=hSw.three;obtain⟨e0,e1,e2,e3,e4,e5,e6,e7,e8,e9,e10,e11⟩:=bg hSw.ev;go_simp;(try with_reducible rfl))
     simp only[Act.put];refine aa 2 (i:=3) (v:= ?v3) rfl kR kR kR kR kR (fun _ _ _ h=>h) (by rfl) ?hy3 aS ?rest3
     case hy3=>(intro w hSw;obtain⟨q1,q2,q3⟩:=hSw.three;obtain⟨e0,e1,e2,e3,e4,e5,e6,e7,e8,e9,e10,e11⟩:=bg hSw.ev;go_simp;(try with_reducible rfl))
     simp only[Act.put];refine aa 2 (i:=4) (v:= ?v4) rfl kR kR kR kR kR (fun _ _ _ h=>h) (by rfl) ?hy4 aS ?rest4
     case hy4=>(intro w hSw;obtain⟨q1,q2,q3⟩:=hSw.three;obtain⟨e0,e1,e2,e3,e4,e5,e6,e7,e8,e9,e10,e11⟩:=bg hSw.ev;go_simp;(try with_reducible rfl))
     simp only[Act.put];refine aa 2 (i:=5) (v:= ?v5) rfl kR kR kR kR kR (fun _ _ _ h=>h) (by rfl) ?hy5 aS ?rest5
     case hy5=>(intro w hSw;obtain⟨q1,q2,q3⟩:=hSw.three;obtain⟨e0,e1,e2,e3,e4,e5,e6,e7,e8,e9,e10,e11⟩:=bg hSw.ev;go_simp;(try with_reducible rfl))
     simp only[Act.put];refine ai (i:=6) kR rfl ?_;intro K6 hK6;go_simp;go_at_call 54;refine(HA.out _ _ HSD.op.sd.row).mono ?_;rintro r w3 ⟨a1,ac,rfl,hr1,hb⟩;have HSD3:=HSD.keep hb;have hr3:=hr1.mono (B':=B) HSD.op.sd.big
     try dsimp only
     refine hK6.out _ _ (fun _=>HSD3) ?_
     try simp only[Act.put]
     refine aa 2 (i:=7) (v:= ?v7) rfl kR kR kR kR kR (fun _ _ _ h=>h) (by rfl) ?hy7 aS ?rest7
     case hy7=>(intro w hSw;go_simp;(try with_reducible rfl))
     simp only[Act.put];refine aa 2 (i:=8) (v:= ?v8) rfl kR kR kR kR kR (fun _ _ _ h=>h) (by rfl) ?hy8 aS ?rest8
     case hy8=>(intro w hSw;go_simp;(try with_reducible rfl))
     simp only[Act.put];obtain⟨c0,c1,c2,c3,c4,c5,c6,c7,z,hlt⟩:=HSD3.op.sd.cells;refine ai (i:=9) kR rfl ?_;intro K9 hK9;go_simp
     try dsimp only
     refine hK9.out _ _ (fun h=>absurd h dC) ?_;refine aX kR ?_ _;have HN:=zH (HSD3.op.state ⟨ck2,nx2,L2⟩ hr3);dsimp only at HN;clear HSD HSD3 HOE HO1 c0 c1 c2 c3 c4 c5 c6 c7 z hlt hr1 hr3 hb;generalize ((w3.setCell ⟨W.heap.size,1,none⟩ (.int .i64 ck2)).setCell ⟨W.heap.size,2,none⟩ (.int .i64 nx2)).setCell ⟨W.heap.size,3,none⟩ (.slice a1 L2.length ac)=w4 at*;obtain⟨c0,c1,c2,c3,c4,c5,c6,c7,z,hlt⟩:=HN.out.sd.cells;have hc6:=HO.out.sd.cells.2.2.2.2.2.2.1;have HZ:=zH (HN.out.next (f+i+1));have hz6:=HZ.out.sd.cells.2.2.2.2.2.2.1;go_wp2_with fail;refine⟨?_,?measure⟩
     ·repeat apply Exists.intro
      refine⟨?rel,rfl⟩
      case rel=>
       refine⟨i+1,.slice a1 L2.length ac,by omega,?_⟩;rw[HNX.out];have e1:f+((i+1:Nat):Int)=f+i+1:=by omega
       rw[e1];exact HZ.out
     case measure=>
      rw[hc6,hz6];simp[intOf];omega
    ·obtain rfl:i=es.length:=by omega
     have hex:f+(es.length:Int)=x:=by omega
     rw[hex]at HEV HO;rw[HI.out.stop pp]at HEV;rw[List.take_length]at HO;clear hex hxe;generalize hs1:es.foldl am ⟨sck,snx,sL⟩=s1 at*;obtain⟨ck1,nx1,L1⟩:=s1;obtain⟨c0,c1,c2,c3,c4,c5,c6,c7,z,hlt⟩:=HO.out.sd.cells;go_wp2_with fail;go_at_call 53;refine HEV.out.mono ?_;rintro r w1 ⟨⟨e',b',rfl,rfl⟩,hb⟩;obtain⟨kd,⟨fi,cl,su,sc,ge,ma,us,re,de⟩,id,ti⟩:=e';have HO1:=zH (HO.out.keep hb);have HO2:=zH (HO1.out.keep ((Below.refl _ _).alloc (Nat.le_refl _) (.cells (ax ⟨kd,⟨fi,cl,su,sc,ge,ma,us,re,de⟩,id,ti⟩) 116)));unfold aE;unfold ax at HO2 ⊢;dsimp only at HO2 ⊢;go_wp2_with fail;go_ret2;exact⟨W.heap.size,_,rfl,HO2.out.sd,Nat.le_refl _,HO2.out.below⟩
structure DI (B db:Nat) (D:Dk) (n f x:Int) (s:St) (w:World):Prop where
 env:pR B w
 disk:bc w db D
 bd:B≤db
 big:B≤w.heap.size
 fits:D.fits
 fit:iQ s
 inv: ∃ s0 es,dJ aQ (bK D) n f x s0 es∧es.foldl am s0=s
structure SO (B sb db:Nat) (D:Dk) (n f x:Int) (s:St) (v:Value) (w:World):Prop where
 sd:SD B sb db D s v n f x false w
 di:DI B db D n f x s w
section
variable {B sb db:Nat} {D:Dk} {n f x:Int} {s:St} {v:Value} {w w':World}
theorem DI.nums (h:DI B db D n f x s w):0≤n∧n≤1000000∧0≤f∧f≤x∧x≤1000000:=by
 obtain⟨s0,es,hi,_⟩:=h.inv;have h1:=hi.n0;have h2:=hi.n1;have h3:=hi.f0;have h4:=hi.x1;have h5:=hi.xe;omega
theorem DI.keep (h:DI B db D n f x s w) (hb:Below w.heap.size w w'):DI B db D n f x s w':=⟨h.env.new h.big hb,h.disk.below hb,h.bd,Nat.le_trans h.big hb.size,h.fits,h.fit,h.inv⟩
theorem DI.drew (h:DI B db D n f x s w):DI B db D n f x s w.drew:=⟨⟨h.env.tens,h.env.maxl,h.env.errs,h.env.gt,h.env.gm,h.env.g1,h.env.g2⟩,⟨h.disk.at_,h.disk.len⟩,h.bd,h.big,h.fits,h.fit,h.inv⟩
theorem SO.keep (h:SO B sb db D n f x s v w) (hb:Below w.heap.size w w'):SO B sb db D n f x s v w':=⟨h.sd.keep hb,h.di.keep hb⟩
theorem SO.drew (h:SO B sb db D n f x s v w):SO B sb db D n f x s v w.drew:=⟨h.sd.drew,h.di.drew⟩
theorem SD.di {down:Bool} (h:SD B sb db D s v n f x down w) (h1:D.fits) (h2:iQ s) (h3: ∃ s0 es,dJ aQ (bK D) n f x s0 es∧es.foldl am s0=s):DI B db D n f x s w:=⟨h.env,h.disk,h.bd,h.big,h1,h2,h3⟩
end
theorem AJ {B db:Nat} {D:Dk} {n f x:Int} {s:St} {W:World} (h:DI B db D n f x s W):
  Calls prog 19 #[.pointer (some ⟨db,0,none⟩)] W fun e w'=> ∃ sb v,e=.returned (.tuple #[.pointer (some ⟨sb,0,none⟩),.nilIface])∧SO B sb db D n f x s v w'∧W.heap.size≤sb∧Below W.heap.size W w':=by
 obtain⟨s0,es,hi,rfl⟩:=h.inv;refine(zn B db D W h.env h.disk h.bd h.big h.fits n f x s0 es hi).mono ?_;rintro e w' ⟨sb,v,rfl,hsd,hsb,hb⟩;exact⟨sb,v,rfl,⟨hsd,hsd.di h.fits h.fit ⟨s0,es,hi,rfl⟩⟩,hsb,hb⟩
theorem DI.cut {B db:Nat} {D:Dk} {n f x:Int} {s:St} {w w':World} (h:DI B db D n f x s w) {k:Int} (hd:bc w' db (D.cutAt k)) (hg:w.grownBy w' (some db)):DI B db (D.cutAt k) n f x s w':=by
 have hb:Below B w w':=(Below.refl B w).grown hg h.big (fun j hj=>by cases hj;exact h.bd);exact⟨h.env.keep hb,hd,h.bd,Nat.le_trans h.big hb.size,h.fits,h.fit,h.inv⟩
theorem SO.cut {B sb db:Nat} {D:Dk} {n f x:Int} {s:St} {v:Value} {w w':World} (h:SO B sb db D n f x s v w) {k:Int} (hd:bc w' db (D.cutAt k)) (hg:w.grownBy w' (some db)):SO B sb db (D.cutAt k) n f x s v w':=⟨h.sd.wrote hd hg,h.di.cut hd hg⟩
theorem DI.put {B db:Nat} {D:Dk} {n f x:Int} {s:St} {w:World} (h:DI B db D n f x s w) {e:Ev} (he:dp e=true) (hl:(am s e).fams.length≤20) (hx:x - f≠16) (hx1:x<1000000):
  (D.put (x % 16).toNat (ah (gV aQ x e))).fits∧iQ (am s e)∧ ∃ s0 es,dJ aQ (bK (D.put (x % 16).toNat (ah (gV aQ x e)))) n f (x+1) s0 es∧es.foldl am s0=am s e:=by
 obtain⟨s0,es,hi,rfl⟩:=h.inv;have hxe:=hi.xe;have hle:=hi.len;have hf0:=hi.f0;refine⟨ot h.fits ?_ _,h.fit.apply he hl,s0,es++[e],?_,?_⟩
 ·have h1:=mt he
  have h2:=fY (x:=x) (bO.2 oM);rw[bB];unfold gV;rw[mn,List.length_append,List.length_cons];omega
 ·rw[l8 h.disk.len oM,ak]
  exact hi.add he oM hx1
 ·rw[List.foldl_append]
  rfl
theorem DI.saved {B db:Nat} {D D1:Dk} {n f x:Int} {s:St} {w:World} (h:DI B db D n f x s w) (hn:n<1000000) {ok:Bool} (ho:mc D (ay ((n+1) % 2).toNat) s.fams (ah (gR aQ (n+1) x s)) D1 ok):
  D1.fits∧(ok=true→ ∃ s0 es,dJ aQ (bK D1) (n+1) x x s0 es∧es.foldl am s0=s)∧(ok=false→ ∃ s0 es,dJ aQ (bK D1) n f x s0 es∧es.foldl am s0=s)∧D1.blk.length=90:=by
 obtain⟨hn0,_,hf0,hfx,hx1⟩:=h.nums;obtain⟨s0,es,hi,rfl⟩:=h.inv;obtain⟨k1,k2,k3⟩:=hi.saveOut h.fit hn h.disk.len ho;refine⟨?_,fun e=>⟨es.foldl am s0,[],k1 e,rfl⟩,fun e=>⟨s0,es,k2 e,rfl⟩,k3⟩;rcases ho with⟨_,_,rfl⟩|⟨_,m,hm,_,_,rfl⟩
 ·refine ot (pi h.fits h.fit.fams _ (Nat.le_refl _)) ?_ _
  rw[bB];exact(wT h.fit (bO.2 oM) (bO.2 oM)).2
 ·exact pi h.fits h.fit.fams m hm
def Dk.none_:Dk:=⟨List.replicate 90 ByteArray.empty,false,0,0⟩
theorem Dw:Tryz.zeroCells65=Dk.none_.cells:=kR
theorem DI.new {B:Nat} {W:World} (hE:pR B W) (hB:B≤W.heap.size):DI B W.heap.size Dk.none_ 0 0 0 jf (W.alloc (.cells Tryz.zeroCells65 65)):=by
 have hb:Below W.heap.size W (W.alloc (.cells Tryz.zeroCells65 65)):=(Below.refl _ _).alloc (Nat.le_refl _) _
 have hz: ∀ k,Dk.none_.blk.getD k ByteArray.empty=ByteArray.empty:=fun k=>by
  unfold Dk.none_;rw[List.getD_eq_getElem?_getD,List.getElem?_replicate];split<;>rfl
 refine⟨hE.new hB hb,⟨?_,by simp[Dk.none_]⟩,hB,Nat.le_trans hB hb.size,fun k=>by rw[hz];exact Nat.zero_le _,iQ.start,jf,[],?_,rfl⟩
 ·rw[Dw]
  exact aj.new W _ _
 ·have:bK Dk.none_=fun _=>[]:=by
   funext k
   unfold bK;rw[hz];rfl
  rw[this];exact BG aQ
def SX (B sb db:Nat) (k:Nat) (z:SS) (v:Value) (w:World):Prop:=
 ∃ (D:Dk) (n f x:Int),SD B sb db D z.s v n f x z.down w∧DI B db D n f x z.s w∧DR z D∧z.log=x - f∧n≤k∧x≤k
section
variable {B sb db k:Nat} {z:SS} {v:Value} {w w':World}
theorem SX.keep (h:SX B sb db k z v w) (hb:Below w.heap.size w w'):SX B sb db k z v w':=by
 obtain⟨D,n,f,x,h1,h2,h3⟩:=h;exact⟨D,n,f,x,h1.keep hb,h2.keep hb,h3⟩
theorem SX.drew (h:SX B sb db k z v w):SX B sb db k z v w.drew:=by
 obtain⟨D,n,f,x,h1,h2,h3⟩:=h;exact⟨D,n,f,x,h1.drew,h2.drew,h3⟩
theorem SX.later (h:SX B sb db k z v w):SX B sb db (k+1) z v w:=by
 obtain⟨D,n,f,x,h1,h2,h3,h4,h5,h6⟩:=h;exact⟨D,n,f,x,h1,h2,h3,h4,by omega,by omega⟩
theorem SX.fit (h:SX B sb db k z v w):iQ z.s:=by
 obtain⟨D,n,f,x,h1,h2,h3⟩:=h;exact h2.fit
theorem SX.row (h:SX B sb db k z v w):aD w B v z.s.fams:=by
 obtain⟨D,n,f,x,h1,h2,h3⟩:=h;exact h1.row
theorem SX.env (h:SX B sb db k z v w):pR B w:=by
 obtain⟨D,n,f,x,h1,h2,h3⟩:=h;exact h1.env
theorem SX.places (h:SX B sb db k z v w):B≤sb∧B≤db∧B≤w.heap.size:=by
 obtain⟨D,n,f,x,h1,h2,h3⟩:=h;exact⟨h1.bs,h1.bd,h1.big⟩
theorem SX.blocks (h:SX B sb db k z v w):(∃ cs,aj w sb 112 cs)∧ ∃ cs,aj w db 65 cs:=by
 obtain⟨D,n,f,x,h1,h2,h3⟩:=h;exact⟨⟨_,h1.st⟩,⟨_,h1.disk.at_⟩⟩
theorem SX.log_ (h:SX B sb db k z v w):0≤z.log∧z.log≤k:=by
 obtain⟨D,n,f,x,h1,h2,h3,h4,h5,h6⟩:=h;have:=h2.nums;omega
theorem SX.free (h:SX B sb db k z v w) (ho:z.off=false) (l:Int):SX B sb db k ⟨z.s,z.log,z.writes,z.off,l,z.down⟩ v w:=by
 obtain⟨D,n,f,x,h1,h2,h3,h4⟩:=h;exact⟨D,n,f,x,h1,h2,⟨h3.writes,h3.off,fun hc=>by rw[←h3.off,ho]at hc;cases hc⟩,h4⟩
end
theorem GS {D:Dk} {n f x:Int} {s:St} (hlen:D.blk.length=90) (hfits:D.fits) (hfit:iQ s) (hinv: ∃ s0 es,dJ aQ (bK D) n f x s0 es∧es.foldl am s0=s) {e:Ev} (he:dp e=true) (hl:(am s e).fams.length≤20) (hx:x - f≠16) (hx1:x<1000000):
  (D.put (x % 16).toNat (ah (gV aQ x e))).fits∧iQ (am s e)∧ ∃ s0 es,dJ aQ (bK (D.put (x % 16).toNat (ah (gV aQ x e)))) n f (x+1) s0 es∧es.foldl am s0=am s e:=by
 obtain⟨s0,es,hi,rfl⟩:=hinv;have hxe:=hi.xe;have hle:=hi.len;have hf0:=hi.f0;refine⟨ot hfits ?_ _,hfit.apply he hl,s0,es++[e],?_,?_⟩
 ·have h1:=mt he
  have h2:=fY (x:=x) (bO.2 oM);rw[bB];unfold gV;rw[mn,List.length_append,List.length_cons];omega
 ·rw[l8 hlen oM,ak]
  exact hi.add he oM hx1
 ·rw[List.foldl_append]
  rfl
theorem cH:bV 0=.nilIface:=if_pos rfl
theorem aP {n:Int} (h:n≠0):bV n=.iface 57 (.int .i64 n):=if_neg h
theorem zD (B sb db:Nat) (D:Dk) (s:St) (v:Value) (n f x:Int) (e:Ev) (W:World) (h:SD B sb db D s v n f x true W):
  Calls prog 190 #[.pointer (some ⟨sb,0,none⟩),aE e] W fun r w'=>r=.returned (.iface 57 (.int .i64 6))∧Below W.heap.size W w':=by
 obtain⟨ck,nx,L⟩:=s;obtain⟨kd,⟨i,cl,su,sc,ge,ma,us,re,de⟩,id,ti⟩:=e;have hb:Below W.heap.size W (W.alloc (.cells (ax ⟨kd,⟨i,cl,su,sc,ge,ma,us,re,de⟩,id,ti⟩) 116)):=(Below.refl _ _).alloc (Nat.le_refl _) _;obtain⟨c0,c1,c2,c3,c4,c5,c6,c7,hz,hlt⟩:=(h.keep hb).cells;have HB:=zH hb;clear h hb;unfold ax at*;unfold aE ax;dsimp only at*;go_enter Tryz.func190,Tryz.ntmps190;go_wp2_with fail;go_ret;exact⟨rfl,HB.out⟩
theorem xL (B sb db:Nat) (D:Dk) (s:St) (v:Value) (n f x:Int) (W:World) (h:SD B sb db D s v n f x true W):
  Calls prog 132 #[.pointer (some ⟨sb,0,none⟩)] W fun r w'=>r=.returned (.iface 57 (.int .i64 6))∧W=w':=by
 obtain⟨ck,nx,L⟩:=s;obtain⟨c0,c1,c2,c3,c4,c5,c6,c7,hz,hlt⟩:=h.cells;clear h;go_enter Tryz.func132,Tryz.ntmps132;go_wp2_with fail;go_ret;exact⟨rfl,rfl⟩
def qI (W:World) (B sb db k:Nat) (r:SS×Int) (e:Ending) (w':World):Prop:=
 e=.returned (bV r.2)∧dH sb db W w'∧ ∃ v',SX B sb db (k+1) r.1 v' w'
theorem FH {B sb db k:Nat} {z:SS} {v:Value} {W:World} (h:SX B sb db k z v W) (hk:k<1000000):
  Calls prog 132 #[.pointer (some ⟨sb,0,none⟩)] W (qI W B sb db k (df z)):=by
 obtain⟨D,n,f,x,h1,h2,h3,h4,h5,h6⟩:=h;obtain⟨hn0,_,hf0,hfx,hx1⟩:=h2.nums;rcases hd:z.down with _|_
 ·rw[hd]at h1
  refine(qC B sb db D z.s v n f x W h1 h2.fits h2.fit hn0 oM oM hx1).mono ?_;rintro e w' ⟨ok,D1,hso,htw,⟨rfl,rfl,hsd⟩|⟨rfl,rfl,hsd⟩⟩
  ·obtain⟨a,b,_,_⟩:=h2.saved oM hso
   obtain⟨hr,hdr⟩:=(h3.save hso).1 rfl;obtain⟨ks,kl,ko,kd⟩:=fS (z.s.fams.length+1) z;rw[pd hd hr];refine⟨rfl,htw,v,D1,n+1,x,x,?_,?_,hdr.same rfl rfl rfl,by show(0:Int)=x - x;omega,by omega,by omega⟩
   ·show SD B sb db D1 (cy _ z).s v (n+1) x x (cy _ z).down w'
    rw[ks,kd,hd];exact hsd
   ·show DI B db D1 (n+1) x x (cy _ z).s w'
    rw[ks];exact hsd.di a h2.fit (b rfl)
  ·obtain⟨a,_,c,_⟩:=h2.saved oM hso
   obtain⟨m,hr,hdr⟩:=(h3.save hso).2 rfl;obtain⟨ks,kl,ko,kd⟩:=fS m z;rw[rL hd hr];refine⟨rfl,htw,v,D1,n,f,x,?_,?_,hdr,?_,by omega,by omega⟩
   ·show SD B sb db D1 (cy _ z).s v n f x true w'
    rw[ks];exact hsd
   ·show DI B db D1 n f x (cy _ z).s w'
    rw[ks];exact hsd.di a h2.fit (c rfl)
   ·show(cy m z).log=x - f
    rw[kl,h4]
 ·have h1':=h1
  rw[hd]at h1';refine(xL B sb db D z.s v n f x W h1').mono ?_;rintro e w' ⟨rfl,rfl⟩;rw[si hd];exact⟨rfl,dH.refl _ _ _,v,D,n,f,x,h1,h2,h3,h4,by omega,by omega⟩
theorem yo {B sb db k:Nat} {z:SS} {v:Value} {W:World} (h:SX B sb db k z v W) (hk:k<1000000) (ev:Ev) (hs:ev.fam.short 5000):
  Calls prog 190 #[.pointer (some ⟨sb,0,none⟩),aE ev] W (qI W B sb db k (aV z ev)):=by
 obtain⟨D,n,f,x,h1,h2,h3,h4,h5,h6⟩:=h;obtain⟨hn0,_,hf0,hfx,hx1⟩:=h2.nums;rcases hd:z.down with _|_
 ·have h1':=h1
  rw[hd]at h1';refine(Cs B sb db D z.s v n f x ev W h1' hs h2.fits h2.fit hn0 oM hf0 hfx oM).mono ?_;rintro e w' ⟨htw,⟨he,rfl,hsd⟩|⟨he,hl,rfl,hsd⟩|⟨he,hl,hxf,hr⟩|⟨he,hl,hxf,D1,hso,hr⟩|⟨he,hl,hxf,D1,hso,rfl,hsd⟩⟩
  ·rw[x7 hd he]
   refine⟨rfl,htw,v,D,n,f,x,?_,hsd.di h2.fits h2.fit h2.inv,h3,h4,by omega,by omega⟩;rw[hd];exact hsd
  ·rw[tC hd he hl]
   refine⟨rfl,htw,v,D,n,f,x,?_,hsd.di h2.fits h2.fit h2.inv,h3,h4,by omega,by omega⟩;rw[hd];exact hsd
  ·rw[xw hd he hl (by rw[h4];exact hxf)]
   rcases hr with⟨ho,rfl,hsd⟩|⟨ho,rfl,v',hsd⟩
   ·rw[mq (by rw[h3.isOff];exact ho)]
    exact⟨rfl,htw,v,D,n,f,x,hsd,hsd.di h2.fits h2.fit h2.inv,h3.down,h4,by omega,by omega⟩
   ·rw[oJ (by rw[h3.isOff];exact ho)]
    obtain⟨a,b,c⟩:=h2.put he hl hxf oM;refine⟨rfl,htw,v',_,n,f,x+1,?_,hsd.di a b c,(h3.put _ _).same rfl rfl rfl,?_,by omega,by omega⟩
    ·show SD B sb db _ (am z.s ev) v' n f (x+1) z.down w'
     rw[hd];exact hsd
    ·show z.log+1=x+1 - f
     omega
  ·obtain⟨a,b,_,hlen⟩:=h2.saved oM hso
   obtain⟨hrun,hdr⟩:=(h3.save hso).1 rfl;obtain⟨ks,kl,ko,kd⟩:=fS (z.s.fams.length+1) z;have hdr':DR (CS (cy (z.s.fams.length+1) z) 0) D1:=hdr.same rfl rfl rfl;rw[o9 hd he hl (by rw[h4];exact hxf),pd hd hrun,if_pos rfl];rcases hr with⟨ho,rfl,hsd⟩|⟨ho,rfl,v',hsd⟩
   ·rw[mq (by rw[hdr'.isOff];exact ho)]
    refine⟨rfl,htw,v,D1,n+1,x,x,?_,?_,hdr'.down,by show(0:Int)=x - x;omega,by omega,by omega⟩
    ·show SD B sb db D1 (cy _ z).s v (n+1) x x true w'
     rw[ks];exact hsd
    ·show DI B db D1 (n+1) x x (cy _ z).s w'
     rw[ks];exact hsd.di a h2.fit (b rfl)
   ·rw[oJ (by rw[hdr'.isOff];exact ho)]
    obtain⟨a',b',c'⟩:=GS hlen a h2.fit (b rfl) he hl oM oM;refine⟨rfl,htw,v',_,n+1,x,x+1,?_,hsd.di a' b' c',(hdr'.put _ _).same rfl rfl rfl,by show(0:Int)+1=x+1 - x;omega,by omega,by omega⟩
    show SD B sb db _ (am z.s ev) v' (n+1) x (x+1) (cy _ z).down w'
    rw[kd,hd];exact hsd
  ·obtain⟨a,_,c,_⟩:=h2.saved oM hso
   obtain⟨m,hrun,hdr⟩:=(h3.save hso).2 rfl;obtain⟨ks,kl,ko,kd⟩:=fS m z;rw[o9 hd he hl (by rw[h4];exact hxf),rL hd hrun,if_neg (show ¬ (14:Int)=0 by decide)];refine⟨rfl,htw,v,D1,n,f,x,?_,?_,hdr,?_,by omega,by omega⟩
   ·show SD B sb db D1 (cy _ z).s v n f x true w'
    rw[ks];exact hsd
   ·show DI B db D1 n f x (cy _ z).s w'
    rw[ks];exact hsd.di a h2.fit (c rfl)
   ·show(cy m z).log=x - f
    rw[kl,h4]
 ·have h1':=h1
  rw[hd]at h1';refine(zD B sb db D z.s v n f x ev W h1').mono ?_;rintro e w' ⟨rfl,hb⟩;rw[uq hd];exact⟨rfl,dH.of_below hb,v,D,n,f,x,h1.keep hb,h2.keep hb,h3,h4,by omega,by omega⟩
theorem CW {B sb db k:Nat} {z:SS} {v:Value} {W:World} (h:SX B sb db k z v W) (c:Int):
  Calls prog 119 #[.pointer (some ⟨db,0,none⟩),.int .i64 c] W fun e w'=>e=.returned (.tuple #[])∧SX B sb db k (wK z c) v w'∧W.grownBy w' (some db):=by
 obtain⟨D,n,f,x,h1,h2,h3,h4,h5,h6⟩:=h;refine(EZ db D c W h1.disk).mono ?_;rintro e w' ⟨rfl,hd,hg⟩;exact⟨rfl,⟨_,n,f,x,h1.wrote hd hg,h2.cut hd hg,h3.cutAt c,h4,h5,h6⟩,hg⟩
def Ju (z:SS):SS:=⟨z.s,z.log,z.writes,z.off,z.left,false⟩
def GY (W:World) (B sb db k:Nat) (z:SS) (v:Value) (e:Ending) (w':World):Prop:=
 ∃ sb' v',e=.returned (.tuple #[.pointer (some ⟨sb',0,none⟩),.nilIface])∧SX B sb' db k (Ju z) v' w'∧SX B sb db k z v w'∧W.heap.size≤sb'∧Below W.heap.size W w'
theorem FA {B sb db k:Nat} {z:SS} {v:Value} {W:World} (h:SX B sb db k z v W):
  Calls prog 19 #[.pointer (some ⟨db,0,none⟩)] W (GY W B sb db k z v):=by
 have h0:=h;obtain⟨D,n,f,x,h1,h2,h3,h4,h5,h6⟩:=h;refine(AJ h2).mono ?_;rintro e w' ⟨sb',v',rfl,hso,hsb,hb⟩;exact⟨sb',v',rfl,⟨D,n,f,x,hso.sd,hso.di,h3.same rfl rfl rfl,h4,h5,h6⟩,h0.keep hb,hsb,hb⟩
theorem lQ {B db:Nat} {W:World} (h:DI B db Dk.none_ 0 0 0 jf W):
  Calls prog 19 #[.pointer (some ⟨db,0,none⟩)] W fun e w'=> ∃ sb v,e=.returned (.tuple #[.pointer (some ⟨sb,0,none⟩),.nilIface])∧SX B sb db 0 nu v w'∧W.heap.size≤sb∧Below W.heap.size W w':=by
 refine(AJ h).mono ?_;rintro e w' ⟨sb,v,rfl,hso,hsb,hb⟩;exact⟨sb,v,rfl,⟨Dk.none_,0,0,0,hso.sd,hso.di,⟨rfl,rfl,fun h=>by cases h⟩,rfl,Int.le_refl _,Int.le_refl _⟩,hsb,hb⟩
theorem gM {B sb db k:Nat} {z:SS} {v:Value} {W:World} (h:SX B sb db k z v W):
  Calls prog 177 #[.pointer (some ⟨sb,0,none⟩)] W (cD W z.s):=by
 obtain⟨D,n,f,x,h1,h2,h3⟩:=h;exact wS B sb db z.s v n f x z.down W h1.st h1.row (by have:=h2.fit.len;omega)
theorem Hv {B sb db k:Nat} {z:SS} {v:Value} {W:World} (h:SX B sb db k z v W):
  Calls prog 128 #[.pointer (some ⟨sb,0,none⟩)] W fun e w'=>e=.returned (.int .i64 z.log)∧Below W.heap.size W w':=by
 obtain⟨D,n,f,x,h1,h2,h3,h4,_⟩:=h;obtain⟨hn0,_,hf0,hfx,hx1⟩:=h2.nums;rw[h4];exact tS sb db z.s v n f x z.down W h1.st hf0 hfx hx1
theorem FG {B sb db k:Nat} {z:SS} {v:Value} {W:World} (h:SX B sb db k z v W):
  Calls prog 129 #[.pointer (some ⟨sb,0,none⟩)] W fun e w'=>e=.returned (.bool z.down)∧Below W.heap.size W w':=by
 obtain⟨D,n,f,x,h1,h2,h3⟩:=h;exact zb sb db z.s v n f x z.down W h1.st
theorem Cb {B sb db k:Nat} {z:SS} {v:Value} {W:World} (h:SX B sb db k z v W):
  Calls prog 137 #[.pointer (some ⟨db,0,none⟩)] W fun e w'=>e=.returned (.int .i64 z.writes)∧W=w':=by
 obtain⟨D,n,f,x,h1,h2,h3,h4,_⟩:=h;rw[h3.writes];exact x9 db D W h1.disk
def oP (sb:Nat) (r:Ru):Array Value:=#[.pointer (some ⟨sb,0,none⟩),.int .i64 r.key,.int .i64 r.idle,.int .i64 r.life,.int .i64 r.access]
structure SW (B vb sb db k:Nat) (r:Ru) (z:SS) (v:Value) (w:World):Prop where
 at_:aj w vb 122 (oP sb r)
 sx:SX B sb db k z v w
 right:sP r=true
 bv:B≤vb
theorem i1 {r:Ru} (h:sP r=true):ba r.key=true∧ba r.idle=true∧ba r.life=true∧ba r.access=true:=by
 unfold sP at h;simp only[Bool.and_eq_true]at h;exact⟨h.1.1.1,h.1.1.2,h.1.2,h.2⟩
section
variable {B vb sb db k:Nat} {r:Ru} {z:SS} {v:Value} {w w':World}
theorem SW.keep (h:SW B vb sb db k r z v w) (hb:Below w.heap.size w w'):SW B vb sb db k r z v w':=⟨h.at_.below' hb,h.sx.keep hb,h.right,h.bv⟩
theorem SW.drew (h:SW B vb sb db k r z v w):SW B vb sb db k r z v w.drew:=⟨h.at_,h.sx.drew,h.right,h.bv⟩
theorem SW.later (h:SW B vb sb db k r z v w):SW B vb sb db (k+1) r z v w:=⟨h.at_,h.sx.later,h.right,h.bv⟩
theorem SW.two {k':Nat} {z':SS} {v':Value} (h:SW B vb sb db k r z v w) (t:dH sb db w w') (hs:SX B sb db k' z' v' w'):SW B vb sb db k' r z' v' w':=by
 obtain⟨⟨ca,ha⟩,cb,hb⟩:=h.sx.blocks;exact⟨h.at_.two t (h.at_.ne_ ha dC) (h.at_.ne_ hb dC),hs,h.right,h.bv⟩
theorem SW.five (h:SW B vb sb db k r z v w):w.cell? ⟨vb,0,none⟩=some (.pointer (some ⟨sb,0,none⟩))∧w.cell? ⟨vb,1,none⟩=some (.int .i64 r.key)∧w.cell? ⟨vb,2,none⟩=some (.int .i64 r.idle)∧w.cell? ⟨vb,3,none⟩=some (.int .i64 r.life)∧w.cell? ⟨vb,4,none⟩=some (.int .i64 r.access)∧vb<w.heap.size:=
 ⟨h.at_.cell 0,h.at_.cell 1,h.at_.cell 2,h.at_.cell 3,h.at_.cell 4,h.at_.lt⟩
end
def BH (W:World) (B vb sb db k:Nat) (r:Ru) (q:SS×Int) (e:Ending) (w':World):Prop:=
 e=.returned (bV q.2)∧dH sb db W w'∧ ∃ v',SW B vb sb db (k+1) r q.1 v' w'
theorem jH (a b:Int) (w:World) (ha:0≤a∧a≤1099511627776) (hb:0≤b∧b≤1099511627776):Calls prog 184 #[.int .i64 a,.int .i64 b] w fun e w'=>e=.returned (.int .i64 (cK a b))∧w=w':=by
 obtain⟨a0,a1⟩:=ha;obtain⟨b0,b1⟩:=hb;unfold cK
 by_cases h:a+b>1099511627776
 ·rw[if_pos h]
  go_enter Tryz.func184,Tryz.ntmps184;go_wp2_with fail;go_ret;refine⟨?_,rfl⟩
  show Ending.returned (Value.int _ _)=_
  congr 2
  omega
 ·rw[if_neg h]
  go_enter Tryz.func184,Tryz.ntmps184;go_wp2_with fail;go_ret;refine⟨?_,rfl⟩
  show Ending.returned (Value.int _ _)=_
  congr 2
  omega
def FB (vb sb fb:Nat) (i:Int) (cl su sc:ByteArray) (ge ma us:Int) (re:ByteArray) (de:Bool) (w:World):Prop:=
 w.cell? ⟨vb,0,none⟩=some (.pointer (some ⟨sb,0,none⟩))∧w.cell? ⟨fb,0,none⟩=some (.int .i64 i)∧w.cell? ⟨fb,1,none⟩=some (.string cl)∧w.cell? ⟨fb,2,none⟩=some (.string su)∧w.cell? ⟨fb,3,none⟩=some (.string sc)∧w.cell? ⟨fb,4,none⟩=some (.int .i64 ge)∧
  w.cell? ⟨fb,5,none⟩=some (.int .i64 ma)∧w.cell? ⟨fb,6,none⟩=some (.int .i64 us)∧w.cell? ⟨fb,7,none⟩=some (.string re)∧w.cell? ⟨fb,8,none⟩=some (.bool de)
theorem FB.of {vb sb fb:Nat} {i:Int} {cl su sc:ByteArray} {ge ma us:Int} {re:ByteArray} {de:Bool} {w:World} {T:TypeId} (h:w.cell? ⟨vb,0,none⟩=some (.pointer (some ⟨sb,0,none⟩))) (hb:aj w fb T (af ⟨i,cl,su,sc,ge,ma,us,re,de⟩)):FB vb sb fb i cl su sc ge ma us re de w:=
 ⟨h,hb.cell 0,hb.cell 1,hb.cell 2,hb.cell 3,hb.cell 4,hb.cell 5,hb.cell 6,hb.cell 7,hb.cell 8⟩
theorem SX.apart {B sb db k:Nat} {z:SS} {v:Value} {w:World} (h:SX B sb db k z v w) {g:Nat} {T:TypeId} {cs:Array Value} (hb:aj w g T cs) (h1:T≠112) (h2:T≠65):g≠sb∧g≠db:=by
 obtain⟨⟨ca,ha⟩,cb,hc⟩:=h.blocks;exact⟨hb.ne_ ha h1,hb.ne_ hc h2⟩
theorem vu {B vb sb db k:Nat} {r:Ru} {z:SS} {v:Value} {W:World} (h:SW B vb sb db k r z v W) (hk:k<1000000) (f:an) (hf:f.short 5000):
  Calls prog 179 #[.pointer (some ⟨vb,0,none⟩),aO f] W (BH W B vb sb db k r (aV z (aW f))):=by
 have HA:Hid (∀ w,SX B sb db k z v w→Calls prog 190 #[.pointer (some ⟨sb,0,none⟩),aE (aW f)] w (qI w B sb db k (aV z (aW f)))):=zH fun w h=>yo h hk (aW f) hf
 have H:=zH h;generalize aV z (aW f)=q at*;obtain⟨i,cl,su,sc,ge,ma,us,re,de⟩:=f;unfold aE ax aW at HA;unfold aO af;dsimp only at*;clear h hf;have hal:Below W.heap.size W (W.alloc (.cells #[.int .i64 i,.string cl,.string su,.string sc,.int .i64 ge,.int .i64 ma,.int .i64 us,.string re,.bool de] 95)):=(Below.refl _ _).alloc (Nat.le_refl _) _;have HAL:=zH hal;have H1:=zH (H.out.keep hal);obtain⟨c0,c1,c2,c3,c4,hlt⟩:=H1.out.five;clear hal;go_enter Tryz.func179,Tryz.ntmps179;go_wp2_with fail;have hfb:aj (W.alloc (.cells #[.int .i64 i,.string cl,.string su,.string sc,.int .i64 ge,.int .i64 ma,.int .i64 us,.string re,.bool de] 95)).drew W.heap.size 95 #[.int .i64 i,.string cl,.string su,.string sc,.int .i64 ge,.int .i64 ma,.int .i64 us,.string re,.bool de]:=aj.new W _ _;have HD:FB vb sb W.heap.size i cl su sc ge ma us re de (W.alloc (.cells #[.int .i64 i,.string cl,.string su,.string sc,.int .i64 ge,.int .i64 ma,.int .i64 us,.string re,.bool de] 95)).drew:=FB.of c0 hfb;have HSD:=zH H1.out.drew;have HFB:=zH hfb;have HBD:=zH (dH.of_below (a:=sb) (b:=db) (au HAL.out));unfold FB at HD;clear hfb c0 c1 c2 c3 c4 hlt
 go_region_held3 (fun w'=>w'.cell? ⟨vb,0,none⟩=some (.pointer (some ⟨sb,0,none⟩))∧w'.cell? ⟨W.heap.size,0,none⟩=some (.int .i64 i)∧w'.cell? ⟨W.heap.size,1,none⟩=some (.string cl)∧w'.cell? ⟨W.heap.size,2,none⟩=some (.string su)∧w'.cell? ⟨W.heap.size,3,none⟩=some (.string sc)∧w'.cell? ⟨W.heap.size,4,none⟩=some (.int .i64 ge)∧
   w'.cell? ⟨W.heap.size,5,none⟩=some (.int .i64 ma)∧w'.cell? ⟨W.heap.size,6,none⟩=some (.int .i64 us)∧w'.cell? ⟨W.heap.size,7,none⟩=some (.string re)∧w'.cell? ⟨W.heap.size,8,none⟩=some (.bool de))
  (first
   |with_reducible assumption
   |with_reducible exact HD)
  (first
   |(go_at_call 190;(with_reducible refine(HA.out _ HSD.out.sx).mono ?_);rintro x' w2 ⟨rfl,htw,v2,hsx⟩
     have hend:BH W B vb sb db k r q (.returned (bV q.2)) w2:=⟨rfl,HBD.out.trans htw,v2,HSD.out.two htw hsx⟩;have hx2:=FB.of (i:=i) (cl:=cl) (su:=su) (sc:=sc) (ge:=ge) (ma:=ma) (us:=us) (re:=re) (de:=de) ((HSD.out.two htw hsx).five.1) (HFB.out.two htw (HSD.out.sx.apart HFB.out dC dC).1 (HSD.out.sx.apart HFB.out dC dC).2);unfold FB at hx2))
 go_wp2_with fail;go_ret;exact hend
theorem tW {a b:Int} (ha:ba a=true) (hb:ba b=true):bN 1 a b 0=true:=by unfold bN;rw[ha,hb];decide
theorem pP {B vb sb db k:Nat} {r:Ru} {z:SS} {v:Value} {W:World} (h:SW B vb sb db k r z v W) (f:an) (h1:ba f.id=true) (h2:ba f.gen=true):
  Calls prog 180 #[.pointer (some ⟨vb,0,none⟩),aO f] W fun e w'=>e=.returned (.string (bX r f))∧Below W.heap.size W w':=by
 have HA:Hid (∀ w,bH w→Calls prog 136 #[.int .i64 r.key,v4 1 f.id f.gen 0] w fun e w'=>e=.returned (.tuple #[.string (bX r f),.nilIface])∧Below w.heap.size w w'):=zH fun w hT=>fp r.key 1 f.id f.gen 0 w hT (tW h1 h2)
 have H:=zH h;generalize bX r f=x at*;obtain⟨i,cl,su,sc,ge,ma,us,re,de⟩:=f;unfold v4 at HA;unfold aO af;dsimp only at*;clear h h1 h2;have hal:Below W.heap.size W (W.alloc (.cells #[.int .i64 i,.string cl,.string su,.string sc,.int .i64 ge,.int .i64 ma,.int .i64 us,.string re,.bool de] 95)):=(Below.refl _ _).alloc (Nat.le_refl _) _;have HAL:=zH hal;have H1:=zH (H.out.keep hal);obtain⟨c0,c1,c2,c3,c4,hlt⟩:=H1.out.five;have hfb:aj (W.alloc (.cells #[.int .i64 i,.string cl,.string su,.string sc,.int .i64 ge,.int .i64 ma,.int .i64 us,.string re,.bool de] 95)).drew W.heap.size 95 #[.int .i64 i,.string cl,.string su,.string sc,.int .i64 ge,.int .i64 ma,.int .i64 us,.string re,.bool de]:=aj.new W _ _;have HT:=zH H1.out.drew.sx.env.tens;have HBD:=zH (au HAL.out)
 have HD:(W.alloc (.cells #[.int .i64 i,.string cl,.string su,.string sc,.int .i64 ge,.int .i64 ma,.int .i64 us,.string re,.bool de] 95)).drew.cell? ⟨vb,1,none⟩=some (.int .i64 r.key)∧(W.alloc (.cells #[.int .i64 i,.string cl,.string su,.string sc,.int .i64 ge,.int .i64 ma,.int .i64 us,.string re,.bool de] 95)).drew.cell? ⟨W.heap.size,0,none⟩=some (.int .i64 i)∧
  (W.alloc (.cells #[.int .i64 i,.string cl,.string su,.string sc,.int .i64 ge,.int .i64 ma,.int .i64 us,.string re,.bool de] 95)).drew.cell? ⟨W.heap.size,4,none⟩=some (.int .i64 ge):=⟨c1,hfb.cell 0,hfb.cell 4⟩
 clear hal c0 c1 c2 c3 c4 hlt;go_enter Tryz.func180,Tryz.ntmps180;go_wp2_with fail
 go_region_held3 (fun w'=>w'.cell? ⟨vb,1,none⟩=some (.int .i64 r.key)∧w'.cell? ⟨W.heap.size,0,none⟩=some (.int .i64 i)∧w'.cell? ⟨W.heap.size,4,none⟩=some (.int .i64 ge))
  (first
   |with_reducible assumption
   |with_reducible exact HD)
  (first
   |(go_at_call 136;(with_reducible refine(HA.out _ HT.out).mono ?_);rintro x' w2 ⟨rfl,hb⟩
     have hend:=ae HBD.out hb;have hx2:w2.cell? ⟨vb,1,none⟩=some (.int .i64 r.key)∧w2.cell? ⟨W.heap.size,0,none⟩=some (.int .i64 i)∧w2.cell? ⟨W.heap.size,4,none⟩=some (.int .i64 ge):=⟨(H1.out.drew.keep hb).five.2.1,(hfb.below' hb).cell 0,(hfb.below' hb).cell 4⟩))
 go_wp2_with fail;go_ret;exact⟨rfl,hend⟩
theorem jk (ck nx:Int) (a:Option Addr) (n c:Nat) (w:World):(Instr.field 83 (.agg #[.int .i64 ck,.int .i64 nx,.slice a n c]) 0).run prog w=.ok (.int .i64 ck) w:=kR
theorem GR (ck nx:Int) (a:Option Addr) (n c:Nat) (w:World):(Instr.field 83 (.agg #[.int .i64 ck,.int .i64 nx,.slice a n c]) 2).run prog w=.ok (.slice a n c) w:=kR
theorem EH (id:Int) (bx:Nat) (f:an) (w:World) (hc:w.cell? ⟨bx,0,none⟩=some (.int .i64 id)):
  Calls prog 221 #[aO f,.pointer (some ⟨bx,0,none⟩)] w fun e w'=>e=.returned (.bool (decide (f.id=id)))∧Below w.heap.size w w':=by
 obtain⟨i,cl,su,sc,ge,ma,us,re,de⟩:=f;unfold aO af;dsimp only;have hal:Below w.heap.size w (w.alloc (.cells #[.int .i64 i,.string cl,.string su,.string sc,.int .i64 ge,.int .i64 ma,.int .i64 us,.string re,.bool de] 95)):=(Below.refl _ _).alloc (Nat.le_refl _) _;have HAL:=zH hal;have hlt:bx<w.heap.size:=World.block_lt_of_cell? w _ hc;clear hal;go_enter Tryz.func221,Tryz.ntmps221;go_wp2_with fail;go_ret;refine⟨?_,HAL.out⟩
 show Ending.returned (Value.bool _)=_
 congr 2
theorem uv (f:an) (L:List an) (id:Int):dR (f::L) id=if f.id=id then some f else dR L id:=by
 unfold dR;rw[List.find?_cons]
 by_cases h:f.id=id
 ·simp[h]
 ·simp[h]
def GO (L:List an) (id:Int) (W:World) (e:Ending) (w':World):Prop:=
 Below W.heap.size W w'∧((∃ (j:Nat) (f:an),L[j]?=some f∧dR L id=some f∧e=.returned (.int .i64 j))∨(dR L id=none∧e=.returned (.int .i64 (-1))))
theorem uh {L:List an} {id:Int} {k:Nat} (h: ∀ j f,j<k→L[j]?=some f→f.id≠id):dR L id=dR (L.drop k) id:=by
 induction k generalizing L with
 |zero=>rfl
 |succ k ih=>
  cases L with
  |nil=>rfl
  |cons g L=>
   rw[uv,if_neg (h 0 g (Nat.succ_pos _) rfl),List.drop_succ_cons];exact ih fun j f hj hf=>h (j+1) f (Nat.succ_lt_succ hj) (by simpa using hf)
def Jb (W:World) (bx B:Nat) (v:Value) (L:List an) (id:Int) (i:Value) (w:World):Prop:= ∃ k:Nat,k≤L.length∧i=.int .i64 k∧Below W.heap.size W w∧aD w B v L∧w.cell? ⟨bx,0,none⟩=some (.int .i64 id)∧ ∀ j f,j<k→L[j]?=some f→f.id≠id
theorem yR (B bx:Nat) (v:Value) (L:List an) (id:Int) (W:World) (hr:aD W B v L) (hl:L.length≤1000000) (hc:W.cell? ⟨bx,0,none⟩=some (.int .i64 id)):
  Calls prog 220 #[v,.func (.func 221) #[] #[.pointer (some ⟨bx,0,none⟩)]] W (GO L id W):=by
 obtain⟨sa,sc,rfl⟩:=hr.slice;have HR:=zH hr;have HC:=zH hc;clear hr hc;go_enter Tryz.func220,Tryz.ntmps220;go_wp2_with fail
 go_loopw [8] (fun i wr=>Jb W bx B (.slice sa L.length sc) L id i wr) (fun i _=>L.length - (intOf i).toNat)
 case atStart=>exact⟨0,Nat.zero_le _,rfl,Below.refl _ _,HR.out,HC.out,fun j f hj=>absurd hj (Nat.not_lt_zero _)⟩
 case round=>
  obtain⟨k,hk,rfl,hb,hr,hc,hno⟩:=hrel;have HB:=zH hb;have HR1:=zH hr;have HC1:=zH hc;have HNO:=zH hno;clear hb hr hc hno HR HC
  by_cases hlt:k<L.length
  ·obtain⟨g,rfl,_,ra⟩:=HR1.out.lit hlt
   obtain⟨f,hf⟩: ∃ f,L[k]?=some f:=⟨_,List.getElem?_eq_getElem hlt⟩;have HF:=zH hf;have HO:=zH (fun w h=>EH id bx f w h)
   by_cases hid:f.id=id
   ·have HID:=zH hid
    rw[decide_eq_true hid]at HO;obtain⟨i,cl,su,scp,ge,ma,us,re,de⟩:=f;obtain⟨c0,c1,c2,c3,c4,c5,c6,c7,c8⟩:=ra.nine hf;unfold aO af at HO;dsimp only at HO;have h0:(0:Int)≤(k:Int):=by omega
    have h1:(k:Int)<(L.length:Int):=by omega
    clear hf ra hid;go_wp2_with fail;go_at_call 221;refine(HO.out _ HC1.out).mono ?_;rintro e w2 ⟨rfl,hb⟩;have HB2:=zH (ae HB.out hb);clear hb;go_wp2_with fail;go_ret;refine⟨HB2.out,.inl ⟨k,_,HF.out,?_,rfl⟩⟩;have hlt':=(List.getElem?_eq_some_iff.1 HF.out).1;rw[uh HNO.out,List.drop_eq_getElem_cons hlt',uv];have he:=(List.getElem?_eq_some_iff.1 HF.out).2;rw[he,if_pos HID.out]
   ·have HID:=zH hid
    rw[decide_eq_false hid]at HO;obtain⟨i,cl,su,scp,ge,ma,us,re,de⟩:=f;obtain⟨c0,c1,c2,c3,c4,c5,c6,c7,c8⟩:=ra.nine hf;unfold aO af at HO;dsimp only at HO;have h0:(0:Int)≤(k:Int):=by omega
    have h1:(k:Int)<(L.length:Int):=by omega
    clear hf ra hid;go_wp2_with fail;go_at_call 221;refine(HO.out _ HC1.out).mono ?_;rintro e w2 ⟨rfl,hb⟩;have HB2:=zH (ae HB.out hb);have HR2:=zH (HR1.out.below hb);have HC2:=zH ((hb.cell (p:=⟨bx,0,none⟩) (World.block_lt_of_cell? wr _ HC1.out)).trans HC1.out);clear hb;go_wp2_with fail;go_roundw
    case rel=>exact⟨k+1,by omega,by go_num,HB2.out,HR2.out,HC2.out,fun j f hj hf=>by
     by_cases e:j=k
     ·subst e
      rw[HF.out]at hf;cases hf;exact HID.out
     ·exact HNO.out j f oM hf⟩
    case measure=>simp[intOf];omega
  ·have hkn:k=L.length:=by omega
   go_wp2_with fail;go_ret;refine⟨HB.out,.inr ⟨?_,rfl⟩⟩;rw[uh HNO.out,hkn,List.drop_length];rfl
def An (L:List an) (id:Int) (W:World) (e:Ending) (w':World):Prop:=
 Below W.heap.size W w'∧((∃ f,dR L id=some f∧f∈L∧e=.returned (.tuple #[aO f,.bool true]))∨(dR L id=none∧e=.returned (.tuple #[aO an.zero,.bool false])))
theorem dS {w:World} {g:Nat} {T:TypeId} {f0:an} (h:aj w g T (af f0)) (i:Int) (cl su sc:ByteArray) (ge ma us:Int) (re:ByteArray) (de:Bool):
  aj (((((((((w.setCell ⟨g,0,none⟩ (.int .i64 i)).setCell ⟨g,1,none⟩ (.string cl)).setCell ⟨g,2,none⟩ (.string su)).setCell ⟨g,3,none⟩ (.string sc)).setCell ⟨g,4,none⟩ (.int .i64 ge)).setCell ⟨g,5,none⟩ (.int .i64 ma)).setCell ⟨g,6,none⟩ (.int .i64 us)).setCell ⟨g,7,none⟩ (.string re)).setCell ⟨g,8,none⟩ (.bool de)) g T (af ⟨i,cl,su,sc,ge,ma,us,re,de⟩)∧
   w.grownBy (((((((((w.setCell ⟨g,0,none⟩ (.int .i64 i)).setCell ⟨g,1,none⟩ (.string cl)).setCell ⟨g,2,none⟩ (.string su)).setCell ⟨g,3,none⟩ (.string sc)).setCell ⟨g,4,none⟩ (.int .i64 ge)).setCell ⟨g,5,none⟩ (.int .i64 ma)).setCell ⟨g,6,none⟩ (.int .i64 us)).setCell ⟨g,7,none⟩ (.string re)).setCell ⟨g,8,none⟩ (.bool de)) (some g):=by
 obtain⟨i0,cl0,su0,sc0,ge0,ma0,us0,re0,de0⟩:=f0;have e0:=h.put_ 0 (.int .i64 i) (cs':=af ⟨i,cl0,su0,sc0,ge0,ma0,us0,re0,de0⟩) rfl;have e1:=e0.put_ 1 (.string cl) (cs':=af ⟨i,cl,su0,sc0,ge0,ma0,us0,re0,de0⟩) rfl;have e2:=e1.put_ 2 (.string su) (cs':=af ⟨i,cl,su,sc0,ge0,ma0,us0,re0,de0⟩) rfl;have e3:=e2.put_ 3 (.string sc) (cs':=af ⟨i,cl,su,sc,ge0,ma0,us0,re0,de0⟩) rfl;have e4:=e3.put_ 4 (.int .i64 ge) (cs':=af ⟨i,cl,su,sc,ge,ma0,us0,re0,de0⟩) rfl;have e5:=e4.put_ 5 (.int .i64 ma) (cs':=af ⟨i,cl,su,sc,ge,ma,us0,re0,de0⟩) rfl;have e6:=e5.put_ 6 (.int .i64 us) (cs':=af ⟨i,cl,su,sc,ge,ma,us,re0,de0⟩) rfl;have e7:=e6.put_ 7 (.string re) (cs':=af ⟨i,cl,su,sc,ge,ma,us,re,de0⟩) rfl;have e8:=e7.put_ 8 (.bool de) (cs':=af ⟨i,cl,su,sc,ge,ma,us,re,de⟩) rfl;refine⟨e8,?_⟩;refine ag ?_ (.inl rfl) _;refine ag ?_ (.inl rfl) _;refine ag ?_ (.inl rfl) _;refine ag ?_ (.inl rfl) _;refine ag ?_ (.inl rfl) _;refine ag ?_ (.inl rfl) _;refine ag ?_ (.inl rfl) _;refine ag ?_ (.inl rfl) _;exact aZ w g ⟨g,0,none⟩ rfl _
theorem xu {W w:World} {A:Act} {L:List an} {id:Int} {f:an} {b:Bool} (hb:Below W.heap.size W w) (hr:aj w (W.heap.size+1) 95 (af f)) (hp:A.tmps.getD 4 undef=.pointer (some ⟨W.heap.size+1,0,none⟩)) (hx:A.tmps.getD 5 undef=.bool b) (hd:A.defers=[])
  (h:(b=true∧dR L id=some f∧f∈L)∨(b=false∧f=an.zero∧dR L id=none)):
  bodyPost prog Tryz.f181 (An L id W) Exit.ret A w:=by
 refine bodyPost_ret (ei rfl A.tmps w _ _ _ _ _ hp hx hr underlying95 rfl kR) hd ⟨hb,?_⟩;rcases h with⟨rfl,h1,h2⟩|⟨rfl,rfl,h1⟩
 ·exact .inl ⟨f,h1,h2,rfl⟩
 ·exact .inr ⟨h1,rfl⟩
theorem vU {B vb sb db k:Nat} {r:Ru} {z:SS} {v:Value} {W:World} (h:SW B vb sb db k r z v W) (id:Int):
  Calls prog 181 #[.pointer (some ⟨vb,0,none⟩),.int .i64 id] W (An z.s.fams id W):=by
 have HST:=zH (fun w (h:SW B vb sb db k r z v w)=>(gM h.sx).mono fun _ _ h=>fG h);have hlen:=h.sx.fit.len;have H:=zH h;clear h;generalize z.s.fams=L at*;generalize z.s.clock=ck at*;generalize z.s.next=nx at*;unfold iS at HST;have HFI:=zH (fun B bx v w hr hc=>yR B bx v L id w hr oM hc);clear hlen;have hal:=bZ W (.cells #[.int .i64 id] 3) (.cells (af an.zero) 95);have HAL:=zH hal;have H1:=zH (H.out.keep hal);have HI1:=zH ((aj.new W 3 #[.int .i64 id]).alloc (.cells (af an.zero) 95))
 have hf1:aj ((W.alloc (.cells #[.int .i64 id] 3)).alloc (.cells (af an.zero) 95)) (W.heap.size+1) 95 (af an.zero):=by
  have:=aj.new (W.alloc (.cells #[.int .i64 id] 3)) 95 (af an.zero);rw[show(W.alloc (.cells #[.int .i64 id] 3)).heap.size=W.heap.size+1 by simp]at this;exact this
 have HF1:=zH hf1;clear hal hf1 H;unfold af an.zero at HAL H1 HI1 HF1;dsimp only at HAL H1 HI1 HF1;obtain⟨c0,c1,c2,c3,c4,hlt⟩:=H1.out.five;go_enter Tryz.func181,Tryz.ntmps181;go_wp2_with fail;go_at_call 177;refine(HST.out _ H1.out).mono ?_;rintro e w1 ⟨a1,ac,rfl,hr,hb⟩;have HB1:=zH (ae HAL.out hb);have HR1:=zH hr;have HI2:=zH (HI1.out.below' hb);have HF2:=zH (HF1.out.below' hb);have hsf:=GR ck nx a1 L.length ac;clear hr hb H1 HI1 HF1 HAL c0 c1 c2 c3 c4 hlt HST;go_wp2_with fail;go_at_call 220;refine(HFI.out _ _ _ _ HR1.out (HI2.out.cell 0)).mono ?_;rintro e w2 ⟨hb,⟨j,f,hj,hfd,rfl⟩|⟨hfd,rfl⟩⟩
 ·have hjl:=(List.getElem?_eq_some_iff.1 hj).1
  have hmem:=List.mem_of_getElem? hj;have hr2:=HR1.out.below hb;obtain⟨g,hga,_,ra⟩:=hr2.lit hjl;subst hga;have HB2:=zH (ae HB1.out hb);have HF3:=zH (HF2.out.below' hb);have HFD:=zH hfd;have HM:=zH hmem;obtain⟨i,cl,su,scp,ge,ma,us,re,de⟩:=f;obtain⟨c0,c1,c2,c3,c4,c5,c6,c7,c8⟩:=ra.nine hj;have h0:(0:Int)≤(j:Int):=by omega
  have h1:(j:Int)<(L.length:Int):=by omega
  have hz:=HF3.out.frozen;obtain⟨z0,z1,z2,z3,z4,z5,z6,z7,z8⟩:=aA HF3.out;clear hfd hmem hj ra hr2 hb HR1 HB1 HF2 HI2 HFI;go_wp2_with fail;obtain⟨n1,n2⟩:=dS (f0:=an.zero) HF3.out i cl su scp ge ma us re de;exact xu (HB2.out.grown n2 HB2.out.size (fun i hi=>by cases hi;exact Nat.le_succ _)) n1 rfl rfl rfl (.inl ⟨rfl,HFD.out,HM.out⟩)
 ·have HB2:=zH (ae HB1.out hb)
  have HF3:=zH (HF2.out.below' hb);have HFD:=zH hfd;have hz:=HF3.out.frozen;obtain⟨z0,z1,z2,z3,z4,z5,z6,z7,z8⟩:=aA HF3.out;clear hfd hb HR1 HB1 HF2 HI2 HFI;go_wp2_with fail;obtain⟨n1,n2⟩:=dS (f0:=an.zero) HF3.out 0 ⟨#[]⟩ ⟨#[]⟩ ⟨#[]⟩ 0 0 0 ⟨#[]⟩ false;exact xu (HB2.out.grown n2 HB2.out.size (fun i hi=>by cases hi;exact Nat.le_succ _)) n1 rfl rfl rfl (.inr ⟨rfl,rfl,HFD.out⟩)
structure RK (W:World) (w:World):Prop where
 below:Below W.heap.size W w
 res:aj w W.heap.size 109 #[.int .i64 0,.int .i64 0,.int .i64 0,.int .i64 0]
 tens:bH w
 tab:cW w
 errs:bf w
 maxl:dt w
 gl:5<W.heap.size∧6<W.heap.size∧7<W.heap.size∧9<W.heap.size∧4<W.heap.size
theorem RK.keepB {W w w':World} {B:Nat} (h:RK W w) (hb:Below B w w') (hB:W.heap.size<B):RK W w':=
 ⟨h.below.trans (hb.mono (Nat.le_of_lt hB)),h.res.below hb hB,h.tens.below hb (Nat.lt_trans h.gl.2.2.1 hB),h.tab.below hb (Nat.lt_trans h.gl.2.2.2.1 hB),h.errs.below hb (Nat.lt_trans h.gl.1 hB) (Nat.lt_trans h.gl.2.1 hB),h.maxl.below hb (Nat.lt_trans h.gl.2.2.2.2 hB),h.gl⟩
theorem RK.keep {W w w':World} (h:RK W w) (hb:Below w.heap.size w w'):RK W w':=h.keepB hb h.res.lt
theorem RK.start {W:World} (hm:dt W) (hT:bH W) (hT2:cW W) (hv:bf W):RK W (W.alloc (.cells #[.int .i64 0,.int .i64 0,.int .i64 0,.int .i64 0] 109)):=by
 have hb:Below W.heap.size W (W.alloc (.cells #[.int .i64 0,.int .i64 0,.int .i64 0,.int .i64 0] 109)):=(Below.refl _ _).alloc (Nat.le_refl _) _;exact⟨hb,aj.new W _ _,hT.below hb hT.lt,hT2.below hb hT2.lt,hv.below' hb,hm.below' hb,hv.lt.1,hv.lt.2,hT.lt,hT2.lt,hm.lt⟩
theorem RK.facts {W w:World} (h:RK W w):(w.cell? ⟨W.heap.size,0,none⟩=some (.int .i64 0)∧w.cell? ⟨W.heap.size,1,none⟩=some (.int .i64 0)∧w.cell? ⟨W.heap.size,2,none⟩=some (.int .i64 0)∧w.cell? ⟨W.heap.size,3,none⟩=some (.int .i64 0))∧
  (w.frozen? ⟨W.heap.size,0,none⟩=false∧w.frozen? ⟨W.heap.size,1,none⟩=false∧w.frozen? ⟨W.heap.size,2,none⟩=false∧w.frozen? ⟨W.heap.size,3,none⟩=false)∧W.heap.size<w.heap.size:=by
 have hr:=h.res;exact⟨⟨hr.cell 0,hr.cell 1,hr.cell 2,hr.cell 3⟩,⟨hr.frozen 0,hr.frozen 1,hr.frozen 2,hr.frozen 3⟩,hr.lt⟩
def fK (W:World) (R:Int×Int×Int×Int×Int) (e:Ending) (w':World):Prop:=e=.returned (.tuple #[v4 R.2.1 R.2.2.1 R.2.2.2.1 R.2.2.2.2,.int .i64 R.1])∧Below W.heap.size W w'
theorem fe {W w:World} {A:Act} {a b c d n:Int} (hb:Below W.heap.size W w) (hr:aj w W.heap.size 109 #[.int .i64 a,.int .i64 b,.int .i64 c,.int .i64 d])
  (hp:A.tmps.getD 4 undef=.pointer (some ⟨W.heap.size,0,none⟩)) (hx:A.tmps.getD 5 undef=.int .i64 n) (hd:A.defers=[]):
  bodyPost prog Tryz.f141 (fK W (n,a,b,c,d)) Exit.ret A w:=
 bodyPost_ret (pM rfl A.tmps w _ _ _ _ _ hp hx hr underlying109 rfl kR) hd ⟨rfl,hb⟩
structure Jn (s B T:ByteArray) (k:Nat):Prop where
 at_:Lib.lastIndexByte s 46=(k:Int)
 lt:k<s.size
 tag:s.extract (k+1) s.size=T
 body:s.extract 0 k=B
 parts:parts 46 s.data.toList=Go.Proofs.YtepjcdjpikbbjaaGreatDoor.parts 46 B.data.toList++[T.data.toList]
theorem oS (s:ByteArray) (j:Nat) (hj:j<s.size):s.data.toList[j]?=some (s.data[j]!):=by
 have hj':j<s.data.size:=hj;rw[List.getElem?_eq_getElem (by simpa using hj'),getElem!_pos s.data j hj'];simp
theorem Ip (s:ByteArray):(Lib.lastIndexByte s 46= -1∧parts 46 s.data.toList=[s.data.toList])∨ ∃ B T k,Jn s B T k:=by
 rcases Lib.lastIndexByte_spec s 46 with⟨h1,h2⟩|⟨i,h1,h2,h3,h4⟩
 ·refine .inl ⟨h1,eQ fun hm=>?_⟩
  obtain⟨j,hj,e⟩:=List.mem_iff_getElem.1 hm;rw[aq]at hj;have e2:=oS s j hj;rw[List.getElem?_eq_getElem (by rw[aq];exact hj),e]at e2;have e3:=h2 j hj;rw[←Option.some.inj e2]at e3;exact e3 rfl
 ·refine .inr ⟨s.extract 0 i,s.extract (i+1) s.size,i,h2,h1,rfl,rfl,?_⟩
  have e46:s.data[i]! =46:=by
   apply UInt8.toNat_inj.1;have:(46:UInt8).toNat=46:=rfl;omega
  have eB:(s.extract 0 i).data.toList=s.data.toList.take i:=by rw[Lib.extract_data];simp
  have eT:(s.extract (i+1) s.size).data.toList=s.data.toList.drop (i+1):=by rw[Lib.extract_to_end]
  have hl:i<s.data.toList.length:=by rw[aq];exact h1
  have e:s.data.toList=s.data.toList.take i++46::s.data.toList.drop (i+1):=by
   have hd:=List.drop_eq_getElem_cons hl;have e2:=oS s i h1;rw[List.getElem?_eq_getElem hl,e46]at e2;rw[Option.some.inj e2]at hd;rw[←hd,List.take_append_drop]
  rw[eB,eT];have hno:(46:UInt8) ∉ s.data.toList.drop (i+1):=?_
  ·conv=>lhs;rw[e]
   rw[iZ,eQ hno]
  intro hm;obtain⟨j,hj,ej⟩:=List.mem_iff_getElem.1 hm;rw[List.length_drop,aq]at hj;have e2:=oS s (i+1+j) oM;rw[List.getElem_drop]at ej;rw[List.getElem?_eq_getElem (by rw[aq];omega),ej]at e2;have e3:=h4 (i+1+j) oM oM;rw[←Option.some.inj e2]at e3;exact e3 rfl
theorem wo (T:ByteArray) (j:Nat) (hj:j<T.size):pl.contains (T[j])=decide (0≤Lib.indexByte (⟨#[48,49,50,51,52,53,54,55,56,57,97,98,99,100,101,102]⟩:ByteArray).data.toList ((T[j].toNat:Int).toNat.toUInt8)):=by
 have e:((T[j].toNat:Int).toNat.toUInt8)=T[j]:=by simp
 rw[e];exact Lib.contains_iff_indexByte _ _
def Fq (T:ByteArray) (i:Value):Prop:= ∃ j:Nat,j≤16∧i=.int .i64 j∧ ∀ m (h:m<T.size),m<j→pl.contains (T[m])=true
theorem FQ {T:ByteArray} (h16:T.size=16) (h: ∀ m (h:m<T.size),m<16→pl.contains (T[m])=true):lE T.data.toList=true:=by
 refine lG (by rw[aq];exact h16) ?_;rw[List.all_eq_true];intro x hx;obtain⟨m,hm,rfl⟩:=List.mem_iff_getElem.1 hx;rw[aq]at hm;exact h m hm oM
theorem E6 {T:ByteArray} (h:lE T.data.toList=true) (m:Nat) (hm:m<T.size):pl.contains (T[m])=true:=by
 unfold lE at h;rw[Bool.and_eq_true]at h
 have:=List.all_eq_true.1 h.2 T[m] (by
  have:T.data.toList[m]'(by rw[aq];exact hm)=T[m]:=rfl;rw[←this];exact List.getElem_mem _)
 exact this
theorem vy (key:Int) (s:ByteArray) (W:World) (hs:s.size≤5000) (h:Lib.lastIndexByte s 46= -1) (hm:dt W) (hT:bH W) (hT2:cW W) (hv:bf W):
  Calls prog 141 #[.int .i64 key,.string s] W (fK W (3,0,0,0,0)):=by
 have HR:=zH (RK.start hm hT hT2 hv);have HL:=zH (fun w=>Tryz.strings_LastIndexByte s 46 oM w);rw[h]at HL;clear h hm hT hT2 hv;have hb:Below W.heap.size W (W.alloc (.cells #[.int .i64 0,.int .i64 0,.int .i64 0,.int .i64 0] 109)):=HR.out.below;go_enter Tryz.func141,Tryz.ntmps141;go_wp2_with (go_at_call 155;refine(HL.out _).mono ?_;rintro e w1 ⟨rfl,rfl⟩);exact fe HR.out.below HR.out.res rfl rfl rfl
theorem wE (key:Int) (s B T:ByteArray) (k:Nat) (W:World) (hs:s.size≤5000) (h:Jn s B T k) (hb:lE T.data.toList=false) (hm:dt W) (hT:bH W) (hT2:cW W) (hv:bf W):
  Calls prog 141 #[.int .i64 key,.string s] W (fK W (3,0,0,0,0)):=by
 have HR:=zH (RK.start hm hT hT2 hv);have HL:=zH (fun w=>Tryz.strings_LastIndexByte s 46 oM w);rw[h.at_]at HL;have hk:=h.lt;have hE:=h.tag;have HTB:=zH hb;have hz:T.size=s.size - (k+1):=by rw[←hE,ByteArray.size_extract];omega
 have hk0: ¬ (k:Int)<0:=by omega
 have hTs:T.size≤5000:=by omega
 clear h hm hT hT2 hv hb hz
 by_cases h16:T.size=16
 ·have e16:((T.size:Int) != 16)=false:=by simp;omega
  have H16:=zH h16;have ht16:16≤T.size:=by omega
  clear h16;go_enter Tryz.func141,Tryz.ntmps141;go_wp2_with (go_at_call 155;refine(HL.out _).mono ?_;rintro e w1 ⟨rfl,rfl⟩);clear hE
  go_loop [30] (fun i=>Fq T i) (fun i=>16 - (intOf i).toNat)
  case atStart=>exact⟨0,by omega,rfl,fun m _ hm=>by omega⟩
  case round=>
   obtain⟨j,hj,rfl,hno⟩:=hrel;have HNO:=zH hno;clear hno
   by_cases hlt:j<16
   ·have hjT:j<T.size:=by omega
    have hcase:=wo T j hjT;have HI:=zH (fun w=>Tryz.strings_IndexByte ⟨#[48,49,50,51,52,53,54,55,56,57,97,98,99,100,101,102]⟩ (T[j].toNat:Int) w);generalize Lib.indexByte (⟨#[48,49,50,51,52,53,54,55,56,57,97,98,99,100,101,102]⟩:ByteArray).data.toList ((T[j].toNat:Int).toNat.toUInt8)=n at*
    by_cases hn:0≤n
    ·have HC:=zH hcase
     have hn2: ¬ n<0:=by omega
     clear hcase;go_wp2_with (go_at_call 194;refine(HI.out _).mono ?_;rintro e w2 ⟨rfl,rfl⟩)
     go_round
     case rel=>
      refine⟨j+1,by omega,by go_num,fun m hm hmj=>?_⟩
      by_cases e:m=j
      ·subst e
       rw[HC.out];simpa using hn
      ·exact HNO.out m hm oM
     case measure=>simp[intOf];omega
    ·clear hcase
     have hn2:n<0:=by omega
     obtain⟨⟨r0,r1,r2,r3⟩,⟨f0,f1,f2,f3⟩,lW⟩:=HR.out.facts;go_wp2_with (go_at_call 194;refine(HI.out _).mono ?_;rintro e w2 ⟨rfl,rfl⟩);exact fe HR.out.below HR.out.res rfl rfl rfl
   ·exfalso
    have:=FQ H16.out fun m hm h16=>HNO.out m hm oM
    rw[HTB.out]at this;cases this
 ·have e16:((T.size:Int) != 16)=true:=by simp;omega
  clear h16;go_enter Tryz.func141,Tryz.ntmps141;go_wp2_with (go_at_call 155;refine(HL.out _).mono ?_;rintro e w1 ⟨rfl,rfl⟩);exact fe HR.out.below HR.out.res rfl rfl rfl
end Go.Proofs.YtepjcdjpikbbjaaGreatDoor
