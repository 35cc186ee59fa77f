/-
  DeskAnswers: the reference's table of forms, as it is laid.
-/
import Derived.Test.YtepjcdjpikbbjaaGreatDoorU00
import Derived.Test.YtepjcdjpikbbjaaGreatDoorRows
import Derived.Test.YtepjcdjpikbbjaaGreatDoorU27
import Derived.Laws.IdiomMaps
import Derived.WideKeyElems2
import Derived.StringKeys
import Derived.Lib.LaidU8
import Derived.Test.YtepjcdjpikbbjaaGreatDoorU20
import Derived.Lib.FieldsP
import Derived.Lib.DecodeN
import Derived.Lib.QuoteLoop
import Derived.Lib.RuneCount
import Derived.Lib.RuneCountTail
import Derived.Test.YtepjcdjpikbbjaaGreatDoorU37
import Derived.Test.YtepjcdjpikbbjaaGreatDoorU01
import Derived.Maps.OwnOps
import Derived.Maps.OwnSet
import Derived.Maps.Views
set_option maxRecDepth 100000
namespace Go.Proofs.YtepjcdjpikbbjaaGreatDoor
open Go.Proofs.Tryz
open Go.RowKit Go.WideElems Go.WideMaps
theorem zF {H:Type} {enc:TypeId×Value→H} {P:Program} {base:Nat} {held:Bool} {e:TypeId} (he:P.underlying e=some .string) {W:World} {sp:Nat→Bool} {n:Nat} {v:Value} {z:DataW H×List MemPlace} (h:elemAt enc P W base sp held n e v=some z): ∃ b:ByteArray,v=.string b∧z=(.lit (.string b.data.toList),[]):=by
 unfold elemAt at h;split at h
 ·rename_i hf
  obtain⟨b,hc,hz,_⟩:=DataW.trod_string he h;cases v<;>simp[Value.formed,he,Value.cells]at hf hc
  subst hc;exact⟨_,rfl,hz⟩
 ·cases h
def rp:DataW Unit:=Rows.laid_rotor_rotorref_forms
theorem ul (x:List UInt8) (zd:DataW Unit):rp.atKey (.string x) zd=match km x with|some F=>.lit (.string F)|none=>zd:=by
 by_cases h_cut:x=jQ
 ·subst h_cut
  kernel_rfl
 by_cases h_families:x=cQ
 ·subst h_families
  kernel_rfl
 by_cases h_grant:x=fJ
 ·subst h_grant
  kernel_rfl
 by_cases h_help:x=je
 ·subst h_help
  kernel_rfl
 by_cases h_kill:x=gA
 ·subst h_kill
  kernel_rfl
 by_cases h_least:x=fB
 ·subst h_least
  kernel_rfl
 by_cases h_log:x=mT
 ·subst h_log
  kernel_rfl
 by_cases h_mint:x=jt
 ·subst h_mint
  kernel_rfl
 by_cases h_new:x=jc
 ·subst h_new
  kernel_rfl
 by_cases h_open:x=fg
 ·subst h_open
  kernel_rfl
 by_cases h_rotate:x=ee
 ·subst h_rotate
  kernel_rfl
 by_cases h_save:x=gG
 ·subst h_save
  kernel_rfl
 by_cases h_show:x=jb
 ·subst h_show
  kernel_rfl
 by_cases h_sweep:x=fE
 ·subst h_sweep
  kernel_rfl
 by_cases h_tag:x=jp
 ·subst h_tag
  kernel_rfl
 by_cases h_tick:x=jd
 ·subst h_tick
  kernel_rfl
 by_cases h_token:x=fx
 ·subst h_token
  kernel_rfl
 by_cases h_writes:x=eh
 ·subst h_writes
  kernel_rfl
 have hf:km x=none:=by
  unfold km;rw[if_neg (by rintro(h|h|h)<;>contradiction)];rw[if_neg (by rintro(h|h|h|h|h|h|h)<;>contradiction)];rw[if_neg (by rintro(h|h)<;>contradiction)];rw[if_neg (by rintro(h|h|h)<;>contradiction)];rw[if_neg h_new];rw[if_neg h_tag];rw[if_neg h_token]
 rw[hf];unfold rp Rows.laid_rotor_rotorref_forms DataW.atKey;dsimp only;rw[List.find?_eq_none.2];intro p hp;simp only[List.mem_cons,List.not_mem_nil,or_false]at hp;rcases hp with rfl|rfl|rfl|rfl|rfl|rfl|rfl|rfl|rfl|rfl|rfl|rfl|rfl|rfl|rfl|rfl|rfl|rfl
 ·exact fun e=>h_cut (beq_iff_eq.1 e).symm
 ·exact fun e=>h_families (beq_iff_eq.1 e).symm
 ·exact fun e=>h_grant (beq_iff_eq.1 e).symm
 ·exact fun e=>h_help (beq_iff_eq.1 e).symm
 ·exact fun e=>h_kill (beq_iff_eq.1 e).symm
 ·exact fun e=>h_least (beq_iff_eq.1 e).symm
 ·exact fun e=>h_log (beq_iff_eq.1 e).symm
 ·exact fun e=>h_mint (beq_iff_eq.1 e).symm
 ·exact fun e=>h_new (beq_iff_eq.1 e).symm
 ·exact fun e=>h_open (beq_iff_eq.1 e).symm
 ·exact fun e=>h_rotate (beq_iff_eq.1 e).symm
 ·exact fun e=>h_save (beq_iff_eq.1 e).symm
 ·exact fun e=>h_show (beq_iff_eq.1 e).symm
 ·exact fun e=>h_sweep (beq_iff_eq.1 e).symm
 ·exact fun e=>h_tag (beq_iff_eq.1 e).symm
 ·exact fun e=>h_tick (beq_iff_eq.1 e).symm
 ·exact fun e=>h_token (beq_iff_eq.1 e).symm
 ·exact fun e=>h_writes (beq_iff_eq.1 e).symm
theorem C0 {W:World} (h:Lib.VarReads prog W "rotor/rotorref.forms" Rows.laid_rotor_rotorref_forms): ∃ mb,jy W mb:=by
 obtain⟨g,t,cs,fuel,p,h1,h2,h3,h4⟩:=h;obtain rfl:=Option.some.inj ((show prog.globalNamed "rotor/rotorref.forms"=some 0 by kernel_rfl).symm.trans h1);obtain rfl:=Option.some.inj ((show(prog.globals[0]?).map (·.type)=some 87 by kernel_rfl).symm.trans h2);rcases open_map underlying87 h4 with⟨_,hx⟩|⟨b,es,clock,n,_,hcs,hb,_,F,hx⟩
 ·cases hx
 ·have hD:rp=.map ((es.toList.map (rg prog 9 (elemAt (fun _=>()) prog W 0 (fun _=>true) false n 9))).foldr DataW.insert []):=congrArg (·.1) hx
  refine⟨b,?_,?_,?_⟩
  ·have h5:=World.var?_cell h1 h3 0
   have:cs=#[.map (some b)]:=by
    cases cs;simpa using hcs
   rw[this]at h5;simpa using h5
  ·exact(Array.getElem?_eq_some_iff.1 hb).1
  ·intro x w hx5 hw
   have hbw:w.heap[b]?=some (.map es clock):=hw.trans hb;have hz:(zeroValue 9).run prog w=.ok (.string ⟨#[]⟩) w:=Tryz.zeroValue9 w
   have hkey:keyOf prog 9 (.string (ah x))=some (.string x):=by
    rw[keyOf_string_mk underlying9 (by show x.length≤maxLen;unfold maxLen;omega)];rfl
   rcases fit_lookup_ok (WideMaps.string_law underlying9) underlying87 hz hbw F hkey with⟨hr,ha⟩|⟨v,y,hr,hR,ha,_⟩
   ·have h6:rp.atKey (.string x) .nil=.nil:=by rw[hD];exact ha .nil
    rw[ul]at h6;rw[hr];cases hf:km x with
    |none=>rfl
    |some G=>rw[hf]at h6;cases h6
   ·obtain⟨bs,rfl,rfl⟩:=zF underlying9 hR
    have h6:rp.atKey (.string x) .nil=.lit (.string bs.data.toList):=by rw[hD];exact ha .nil
    rw[ul]at h6;rw[hr];cases hf:km x with
    |none=>rw[hf]at h6;cases h6
    |some G=>
     rw[hf]at h6;have h7:G=bs.data.toList:=by injection h6 with h6;injection h6
     rw[h7];rfl
theorem i6 (s:ByteArray):s.data.toList.length=s.size:=Array.length_toList
def gP (r:Nat):Bool:=r == 32
theorem xy {x:List UInt8} (h:(32:UInt8) ∉ x) (h0:x≠ []):fC x=[x]:=by
 unfold fC;rw[eQ h];simp[h0]
theorem x8 {x:List UInt8} (h:(32:UInt8) ∉ x) (h0:x≠ []) (b:List UInt8):fC (x++32::b)=x::fC b:=by
 unfold fC;rw[kM h,List.filter_cons,if_pos (by simpa using h0)]
theorem vH (b:List UInt8):fC (32::b)=fC b:=by
 unfold fC;rw[fQ,List.filter_cons,if_neg (by simp)]
theorem mH (n b0 b1 b2 b3:Nat):(Lib.decodeN n b0 b1 b2 b3).1=32↔b0=32:=by
 unfold Lib.decodeN
 repeat' split
 all_goals (constructor<;>intro h<;>(first|omega|(simp only at h;omega)|(simp only;omega)))
theorem sQ (n b0 b1 b2 b3:Nat) (_h:b0≠32):(1<(Lib.decodeN n b0 b1 b2 b3).2→b1≠32)∧(2<(Lib.decodeN n b0 b1 b2 b3).2→b2≠32)∧(3<(Lib.decodeN n b0 b1 b2 b3).2→b3≠32)∧(Lib.decodeN n b0 b1 b2 b3).2≤4:=by
 unfold Lib.decodeN
 repeat' split
 all_goals (refine⟨fun hh=>?_,fun hh=>?_,fun hh=>?_,?_⟩<;>(first|omega|(simp only at hh;omega)|(simp only;omega)))
theorem wH (s:ByteArray) (i:Nat) (h:i<s.size):s.get! i=s.data.toList[i]'(by rw[i6];exact h):=by
 show s.data[i]! =_
 rw[getElem!_pos s.data i h,Array.getElem_toList]
theorem BR (l:List UInt8) (a pos k:Nat) (ha:a≤pos):(l.drop a).take (pos+k - a)=(l.drop a).take (pos - a)++(l.drop pos).take k:=by
 rw[show pos+k - a=(pos - a)+k by omega,List.take_add,List.drop_drop,show a+(pos - a)=pos by omega]
theorem CB (s:ByteArray) (pos:Nat) (h:pos<s.size) (hr:(Utf8.decode s pos).1≠32):(32:UInt8) ∉ (s.data.toList.drop pos).take (Utf8.decode s pos).2:=by
 have hw:=Lib.width_le (s.extract pos s.size) (by rw[ByteArray.size_extract];omega);rw[Lib.tail_decode,Nat.add_zero,ByteArray.size_extract]at hw;intro hm;obtain⟨j,hj,hje⟩:=List.mem_iff_getElem.1 hm;simp only[List.length_take,List.length_drop]at hj;simp only[List.getElem_take,List.getElem_drop]at hje;have hsz:=i6 s;have hb:=mH (s.size - pos) (s.get! pos).toNat (s.get! (pos+1)).toNat (s.get! (pos+2)).toNat (s.get! (pos+3)).toNat;rw[←Lib.decode_at]at hb;have h0:(s.get! pos).toNat≠32:=fun e=>hr (hb.2 e)
 obtain⟨c1,c2,c3,c4⟩:=sQ (s.size - pos) (s.get! pos).toNat (s.get! (pos+1)).toNat (s.get! (pos+2)).toNat (s.get! (pos+3)).toNat h0;rw[←Lib.decode_at]at c1 c2 c3 c4;have hg:(s.get! (pos+j)).toNat=32:=by rw[wH s (pos+j) oM,hje];rfl
 rcases j with _|_|_|_|j
 ·exact h0 hg
 ·exact c1 oM hg
 ·exact c2 oM hg
 ·exact c3 oM hg
 ·omega
def ns (s:ByteArray) (x:List (Nat×Nat)):List (List UInt8):=x.map fun y=>(s.extract y.1 y.2).data.toList
theorem qL (s:ByteArray) (a b:List (Nat×Nat)):ns s (a++b)=ns s a++ns s b:=List.map_append
theorem nV (s:ByteArray) (a b:Nat):(s.extract a b).data.toList=(s.data.toList.drop a).take (b - a):=by
 rw[ByteArray.data_extract];simp[Array.toList_extract,List.extract_eq_take_drop]
theorem zp (s:ByteArray) (f pos:Nat) (st:Option Nat) (acc:List (Nat×Nat)) (hlt:pos<s.size):Lib.spansFromP gP s (f+1) pos st acc=(if gP (Utf8.decode s pos).1 then(match st with|some a=>Lib.spansFromP gP s f (pos+(Utf8.decode s pos).2) none (acc++[(a,pos)])|none=>Lib.spansFromP gP s f (pos+(Utf8.decode s pos).2) none acc)else(match st with|some a=>Lib.spansFromP gP s f (pos+(Utf8.decode s pos).2) (some a) acc|none=>Lib.spansFromP gP s f (pos+(Utf8.decode s pos).2) (some pos) acc)):=by
 rw[Lib.spansFromP.eq_def];exact if_pos hlt
theorem wi (s:ByteArray): ∀ (f pos:Nat) (st:Option Nat) (acc:List (Nat×Nat)),s.size - pos≤f→pos≤s.size→(∀ a,st=some a→a<pos∧(32:UInt8) ∉ (s.data.toList.drop a).take (pos - a))→
  ns s (Lib.closeSpans s (Lib.spansFromP gP s f pos st acc))=ns s acc++fC (s.data.toList.drop (st.getD pos)):=by
 intro f
 induction f with
 |zero=>
  intro pos st acc hf hp hst;have hsz:=i6 s;rw[Lib.spansFromP_end _ _ _ _ _ _ oM];have hps:pos=s.size:=by omega
  cases st with
  |none=>rw[Option.getD_none,hps,List.drop_of_length_le oM];simp[Lib.closeSpans,fC,parts]
  |some a=>
   obtain⟨h1,h2⟩:=hst a rfl;rw[Option.getD_some];have e:(s.data.toList.drop a).take (pos - a)=s.data.toList.drop a:=List.take_of_length_le (by rw[List.length_drop];omega);rw[e]at h2;rw[xy h2 (by intro h;have:=congrArg List.length h;rw[List.length_drop]at this;simp at this;omega)];simp only[Lib.closeSpans];rw[qL];unfold ns;rw[List.map_singleton,nV,←hps,e]
 |succ f ih=>
  intro pos st acc hf hp hst;have hsz:=i6 s
  by_cases hlt:pos<s.size
  ·have hw:=Lib.width_le (s.extract pos s.size) (by rw[ByteArray.size_extract];omega)
   rw[Lib.tail_decode,Nat.add_zero,ByteArray.size_extract]at hw;have hpos:=Lib.decode_width_pos s pos hlt;have hdrop:s.data.toList.drop pos=s.data.toList[pos]'oM::s.data.toList.drop (pos+1):=List.drop_eq_getElem_cons oM;rw[zp s f pos st acc hlt]
   by_cases hb:(Utf8.decode s pos).1=32
   ·have hb0:=mH (s.size - pos) (s.get! pos).toNat (s.get! (pos+1)).toNat (s.get! (pos+2)).toNat (s.get! (pos+3)).toNat
    rw[←Lib.decode_at]at hb0;have h0:=hb0.1 hb
    have hone:(Utf8.decode s pos).2=1:=by
     rw[Lib.decode_at,h0];unfold Lib.decodeN;rw[if_pos oM]
    have hg:s.data.toList[pos]'oM=32:=by
     rw[wH s pos hlt]at h0;exact UInt8.toNat_inj.1 (by rw[h0];rfl)
    rw[hg]at hdrop;rw[if_pos (by rw[hb];rfl),hone];cases st with
    |none=>
     dsimp only;rw[ih (pos+1) none acc oM oM (by simp),Option.getD_none,Option.getD_none,hdrop,vH]
    |some a=>
     dsimp only;obtain⟨h1,h2⟩:=hst a rfl;rw[ih (pos+1) none _ oM oM (by simp),Option.getD_none,Option.getD_some,qL,List.append_assoc]
     congr 1
     have hsplit:s.data.toList.drop a=(s.data.toList.drop a).take (pos - a)++32::s.data.toList.drop (pos+1):=by
      rw[←hdrop]
      conv=>lhs;rw[←List.take_append_drop (pos - a) (s.data.toList.drop a)]
      rw[List.drop_drop,show a+(pos - a)=pos by omega]
     have hne:(s.data.toList.drop a).take (pos - a)≠ []:=by
      intro h;have:=congrArg List.length h;simp only[List.length_take,List.length_drop,List.length_nil]at this;omega
     rw[hsplit,x8 h2 hne];unfold ns;rw[List.map_singleton,nV];rfl
   ·have hfree:=CB s pos hlt hb
    rw[if_neg (by unfold gP;simpa using hb)];cases st with
    |none=>
     dsimp only;rw[ih _ (some pos) acc oM oM (fun a ha=>by cases ha;exact⟨by omega,by rw[show pos+(Utf8.decode s pos).2 - pos=(Utf8.decode s pos).2 by omega];exact hfree⟩)];rfl
    |some a=>
     dsimp only;obtain⟨h1,h2⟩:=hst a rfl
     rw[ih _ (some a) acc oM oM (fun b hb'=>by
      cases hb';refine⟨by omega,?_⟩;rw[BR _ a pos _ oM,List.mem_append,not_or];exact⟨h2,hfree⟩)]
     rfl
  ·rw[Lib.spansFromP_end _ _ _ _ _ _ hlt]
   have:=ih pos st acc oM hp hst;rw[Lib.spansFromP_end _ _ _ _ _ _ hlt]at this;exact this
theorem u5 (s:ByteArray):(Lib.goFieldsP gP s).map (·.data.toList)=fC s.data.toList:=by
 have:=wi s s.size 0 none [] oM oM (by simp);unfold Lib.goFieldsP Lib.spansOfP;rw[List.map_map];exact this
theorem DF (key:Int) (s:ByteArray) (W:World) (hs:s.size≤5000) (hm:dt W) (hT:bH W) (hT2:cW W) (hv:bf W):
  Calls prog 141 #[.int .i64 key,.string s] W (fK W (iV (fun B=>aQ key B) (parts 46 s.data.toList))):=by
 rcases Ip s with⟨h1,h2⟩|⟨B,T,k,h⟩
 ·rw[h2,eW (by rfl)]
  exact vy key s W hs h1 hm hT hT2 hv
 ·cases hb:lE T.data.toList
  ·have e:iV (fun B=>aQ key B) (parts 46 s.data.toList)=(3,0,0,0,0):=by
    rw[h.parts];unfold iV;have e1:(parts 46 B.data.toList++[T.data.toList]).getLastD []=T.data.toList:=by simp
    rw[e1,hb];cases ia (parts 46 B.data.toList++[T.data.toList]).dropLast<;>rfl
   rw[e];exact wE key s B T k W hs h hb hm hT hT2 hv
  ·exact uX key s B T k W hs h hb hm hT hT2 hv
open Go.Maps
def oz (P:Program) (K E:TypeId) (w:World) (b n:Nat) (f:List UInt8→Int):Prop:=
 ∃ D:DataW Unit,w.ownsMap P K (plainElem P E) b n D∧IsMap D∧ ∀ x:List UInt8,D.atKey (.string x) (.lit (.int .i64 0))=.lit (.int .i64 (f x))
section
variable {P:Program} {K E T:TypeId} {w w':World} {b n:Nat} {f:List UInt8→Int}
theorem oz.made (w:World):oz P K E (w.alloc (.map #[] 0)) w.heap.size 0 (fun _=>0):=
 ⟨.map [],World.ownsMap_made w P K _,⟨[],rfl⟩,fun x=>by simp[DataW.atKey]⟩
theorem oz.look (h:oz P K E w b n f) (ht:P.underlying T=some (.map K E)) (hk:P.underlying K=some .string) (he:P.underlying E=some (.int .i64))
  (hz:(zeroValue E).run P w=.ok (.int .i64 0) w) (x:List UInt8) (hx:x.length≤maxLen):
  (Instr.lookup T (.map (some b)) (.string (ah x)) false).run P w=.ok (.int .i64 (f x)) w:=by
 obtain⟨D,h1,h2,h3⟩:=h
 have hkey:keyOf P K (.string (ah x))=some (.string x):=by
  rw[keyOf_string_mk hk (by rw[av];exact hx),ak]
 obtain⟨c,hrun,hat,_⟩:=h1.lookup_int (string_keyed hk) ht he hz hkey;have h4:=h3 x;rw[hat]at h4;have h6:c=f x:=by injection h4 with h4;injection h4
 rw[hrun,h6]
theorem oz.put (h:oz P K E w b n f) (ht:P.underlying T=some (.map K E)) (hk:P.underlying K=some .string) (he:P.underlying E=some (.int .i64))
  (hn:n<maxLen) (x:List UInt8) (hx:x.length≤maxLen) (v:Int) (hv:(Lit.int .i64 v).wf=true):
  ∃ w',(Instr.mapUpdate T (.map (some b)) (.string (ah x)) (.int .i64 v)).run P w=.ok () w'∧oz P K E w' b (n+1) (fun y=>if y=x then v else f y)∧w.grownBy w' (some b):=by
 obtain⟨D,h1,h2,h3⟩:=h
 have hkey:keyOf P K (.string (ah x))=some (.string x):=by
  rw[keyOf_string_mk hk (by rw[av];exact hx),ak]
 obtain⟨w',hrun,r1,r2⟩:=h1.update (string_keyed hk) ht hn hkey (plainElem_int he hv);refine⟨w',hrun,⟨_,r1,?_,?_⟩,r2⟩
 ·obtain⟨l,rfl⟩:=h2
  exact⟨_,rfl⟩
 ·intro y
  dsimp only
  by_cases e:y=x
  ·subst e
   rw[if_pos rfl,atKey_put_same h2 (by simp[WideAt.IsKeyLit])]
  ·rw[if_neg e,atKey_put_other (by simpa using e)]
   exact h3 y
end
end Go.Proofs.YtepjcdjpikbbjaaGreatDoor
