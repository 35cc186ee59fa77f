/- Part of the proof. -/
import Derived.Test.YtjligkmjlenofaaGreatDoorV14
import Derived.Test.YtjligkmjlenofaaGreatDoorV15
import Derived.Test.YtjligkmjlenofaaGreatDoorV16
import Derived.RangeFuncKeeps
set_option maxHeartbeats 4000000
set_option maxRecDepth 100000
open Go renaming World->aah,Value->aai,callsIn_wide->alf,leaves_cons->amN,Calls->ach,heap_alloc_new->amR,results->al6,heap_alloc_old->amW,Leaves->am1,settle->am2,undef->agp
open Array renaming getElem?_eq_some_iff->akN
open Go.World renaming block_lt_of_cell?->acC,cell?_of_block->akU,size_alloc->ak_
open Go.Lib renaming IsBuilder->amL,strCells->amM,cell_of_heap->amQ,trimSuffix->amY,hasSuffix->amZ,strCells_eq->am7,BuilderAt->am9
open ByteArray renaming size_append->akI
open Nat renaming le_trans->aiC,zero_add->ahq,reduceAdd->alI
open List renaming eq_nil_of_length_eq_zero->acL,length_append->ag2,length_cons->agj,length_nil->ajE,length_singleton->aij,getElem?_map->am5
open Go.Oper renaming upon_value->amS
open Option renaming map_eq_some_iff->amU
open Go.Result renaming andThen->alj
open Go.Proofs.Tryz renaming underlying53->agG
open Bool renaming or_eq_true->aeu
open Go.Instr renaming makeFunc->am8
open Go.Value renaming ownBlock->akw,string->anb
namespace Go.Proofs.YtjligkmjlenofaaGreatDoor
open Go.Proofs.Tryz
open Go.RowKit Go.Sort
variable{b g off rb l:Nat}{x:BL}{L:List BL}{cs:Array aai}{w1 w2:aah}
theorem SW.more{B vb sb db k:Nat}{r:Ru}{z:SS}{v:aai}{w:aah}(h:SW B vb sb db k r z v w):∀n:Nat,SW B vb sb db (k+n) r z v w
 |0=>h
 |n+1=>(SW.more h n).later
theorem dW.more{W w:aah}{xb vb sb db k:Nat}{r:Ru}{z:SS}{v:aai}(h:dW W xb vb sb db k r z v w)(n:Nat):dW W xb vb sb db (k+n) r z v w:=⟨h.at_,h.sw.more n,h.bx,h.below,h.err,h.eg⟩
theorem d_.done{W w w':aah}{xb vb sb db k:Nat}{r:Ru}{z:SS}{v:aai}{a b c e:BL}{x:Ending}(h:dW W xb vb sb db k r z v w)(hf:d_ W w xb a b c e x w'):eL W w xb k (A8 ⟨r,z⟩ [a,b,c,e]) x w':=by
 have hn:A8 ⟨r,z⟩ [a,b,c,e]=if (aZ a&&aZ b&&aZ c&&aZ e)=true then(if LL ⟨aa a,aa b,aa c,aa e⟩=true then(⟨⟨aa a,aa b,aa c,aa e⟩,Og⟩,aq uu,0)else bad ⟨r,z⟩ 2)else bad ⟨r,z⟩ 3:=rfl
 rw[hn];rcases hf with⟨hc,rfl,⟨Q2,BB,db',v',hd⟩,gX⟩|⟨hc,rfl,hb⟩
 ·unfold A7 at hc
  split at hc
  ·rename_i h1
   split at hc
   ·rename_i h2
    rw[if_pos h1,if_pos h2];exact⟨.inl ⟨rfl,rfl⟩,⟨Q2,BB,db',v',by have:=hd.more (k+1);rw[ahq]at this;exact this⟩,gX⟩
   ·cases hc
  ·cases hc
 ·unfold A7 at hc ⊢
  split at hc
  ·rename_i h1
   split at hc;(·exact absurd rfl hc)
   ·rename_i h2
    rw[if_pos h1,if_pos h1,if_neg h2,if_neg h2];exact h.cu hb (c:=2) dC
  ·rename_i h1
   rw[if_neg h1,if_neg h1];exact h.cu hb (c:=3) dC
section
variable{W w:aah}{xb vb sb db k:Nat}{r:Ru}{z:SS}{v:aai}
theorem Vk(h:dW W xb vb sb db k r z v w)(hk:k<1000000)(g off c:Nat)(L:List BL)(hw:iG w g off L)(hl:∀x∈L,x.length<=5000):
  ach prog 11 #[.pointer (some ⟨xb,0,none⟩),.slice (some ⟨g,off,none⟩) L.length c] w (eL W w xb k (A8 ⟨r,z⟩ L)):=by
 obtain⟨⟩:=lB hk hw hl
 by_cases hL:L.length=4
 ·rcases L with _|⟨a,_|⟨b,_|⟨c_,_|⟨e_,_|⟨_,L⟩⟩⟩⟩⟩
  ·exact absurd hL sP
  ·exact absurd hL sP
  ·exact absurd hL sP
  ·exact absurd hL sP
  ·clear hL
   have sZ:=zH hw;have d0:=hw.2 0 a rfl;have d1:=hw.2 1 b rfl;have d2:=hw.2 2 c_ rfl;have d3:=hw.2 3 e_ rfl;have l0:=hl a sP;have l1:=hl b sP;have l2:=hl c_ sP;have l3:=hl e_ sP;simp only[Nat.add_zero,agj,ajE,ahq,alI]at*;clear hw hl;have hf:=Cn (W:=W) (w:=w) (xb:=xb) (g:=g) (off:=off) (cp:=c) (a:=a) (b:=b) (c:=c_) (e:=e_) (show aC w xb 51 #[.pointer (some ⟨db,0,none⟩),.pointer (some ⟨sb,0,none⟩),.pointer (some ⟨vb,0,none⟩),.int .i64 r.key,.int .i64 r.idle,.int .i64 r.oA,.int .i64 r.access]from h.at_) h.bx ⟨h.below,Below.refl _ _,h.env,sZ.O,h.err,h.eg⟩ l0 l1 l2 l3;exact hf.mono fun _ _ q=>q.done h
  ·exact absurd hL sP
 ·have cT:A8 ⟨r,z⟩ L=bad ⟨r,z⟩ 3:=by
   unfold A8;split;(·exact absurd rfl hL)
   ·rfl
  rw[cT];have HM:=zH (dS (some ⟨g,off,none⟩) L.length c 4 w h.et (by simpa using(show(L.length:Int)≠4 by omega)));have H:=zH h;clear h hw hl hL cT hk;unfold dF at HM
  go_in
  go_wp2_with fail;refine HM.O.mono ?_;rintro e w0 ⟨rfl,hb⟩;dsimp only;exact⟨rfl,H.O.cu hb dC⟩
end
theorem Ka{W w:aah}{xb vb sb db k:Nat}{r:Ru}{z:SS}{v:aai}(h:dW W xb vb sb db k r z v w)(hk:k<1000000)(fR:hU z.writes)(g off c:Nat)(x:BL)(L:List BL)(hw:iG w g off L)(hl:∀y∈L,y.length<=5000)(m:Nat)(hm:Cp x=m):
  ach prog m #[.pointer (some ⟨xb,0,none⟩),.slice (some ⟨g,off,none⟩) L.length c] w (eL W w xb k (eU ⟨r,z⟩ x L)):=by
 by_cases o_:x=wG
 ·subst o_
  obtain rfl:m=64:=Int.ofNat.inj (hm.symm.T dC);exact Vi h hk g off c L hw hl
 by_cases dH:x=g_
 ·subst dH
  obtain rfl:m=65:=Int.ofNat.inj (hm.symm.T dC);exact EU h hk g off c L hw hl
 by_cases iu:x=pW
 ·subst iu
  obtain rfl:m=66:=Int.ofNat.inj (hm.symm.T dC);exact Nr h hk g off c L hw hl
 by_cases j8:x=vT
 ·subst j8
  obtain rfl:m=67:=Int.ofNat.inj (hm.symm.T dC);exact Rr h hk g off c L hw hl
 by_cases j9:x=qH
 ·subst j9
  obtain rfl:m=68:=Int.ofNat.inj (hm.symm.T dC);exact Rs h hk g off c L hw hl
 by_cases iw:x=qa
 ·subst iw
  obtain rfl:m=69:=Int.ofNat.inj (hm.symm.T dC);exact Ns h hk g off c L hw hl
 by_cases pg:x=E7
 ·subst pg
  obtain rfl:m=70:=Int.ofNat.inj (hm.symm.T dC);exact Vj h hk g off c L hw hl
 by_cases j_:x=vX
 ·subst j_
  obtain rfl:m=71:=Int.ofNat.inj (hm.symm.T dC);exact Rv h hk g off c L hw hl
 by_cases t_:x=uu
 ·subst t_
  obtain rfl:m=11:=Int.ofNat.inj (hm.symm.T dC);exact Vk h hk g off c L hw hl
 by_cases kg:x=oD
 ·subst kg
  obtain rfl:m=72:=Int.ofNat.inj (hm.symm.T dC);exact Rw h hk g off c L hw hl
 by_cases fN:x=lY
 ·subst fN
  obtain rfl:m=73:=Int.ofNat.inj (hm.symm.T dC);exact Kb h hk g off c L hw hl
 by_cases ki:x=qR
 ·subst ki
  obtain rfl:m=74:=Int.ofNat.inj (hm.symm.T dC);exact Rx h hk g off c L hw hl
 by_cases ku:x=we
 ·subst ku
  obtain rfl:m=75:=Int.ofNat.inj (hm.symm.T dC);exact Ry h hk g off c L hw hl
 by_cases iy:x=ql
 ·subst iy
  obtain rfl:m=76:=Int.ofNat.inj (hm.symm.T dC);exact Nt h hk g off c L hw hl
 by_cases ud:x=wj
 ·subst ud
  obtain rfl:m=77:=Int.ofNat.inj (hm.symm.T dC);exact Vl h hk g off c L hw hl
 by_cases kC:x=wm
 ·subst kC
  obtain rfl:m=78:=Int.ofNat.inj (hm.symm.T dC);exact Rz h hk g off c L hw hl
 by_cases iz:x=qo
 ·subst iz
  obtain rfl:m=79:=Int.ofNat.inj (hm.symm.T dC);exact Nu h hk g off c L hw hl
 by_cases fO:x=mg
 ·subst fO
  obtain rfl:m=80:=Int.ofNat.inj (hm.symm.T dC);exact Kc h hk g off c L hw hl fR
 exfalso;unfold Cp at hm;rw[if_neg fO,if_neg iz,if_neg kC,if_neg ud,if_neg iy,if_neg ku,if_neg ki,if_neg fN,if_neg kg,if_neg t_,if_neg j_,if_neg pg,if_neg iw,if_neg j9,if_neg j8,if_neg iu,if_neg dH,if_neg o_]at hm;omega
theorem Vo(d:DS)(x:BL)(L:List BL)(hm:Cp x= -1):eU d x L=bad d 3:=by
 by_cases o_:x=wG
 ·subst o_
  exact absurd hm dC
 by_cases dH:x=g_
 ·subst dH
  exact absurd hm dC
 by_cases iu:x=pW
 ·subst iu
  exact absurd hm dC
 by_cases j8:x=vT
 ·subst j8
  exact absurd hm dC
 by_cases j9:x=qH
 ·subst j9
  exact absurd hm dC
 by_cases iw:x=qa
 ·subst iw
  exact absurd hm dC
 by_cases pg:x=E7
 ·subst pg
  exact absurd hm dC
 by_cases j_:x=vX
 ·subst j_
  exact absurd hm dC
 by_cases t_:x=uu
 ·subst t_
  exact absurd hm dC
 by_cases kg:x=oD
 ·subst kg
  exact absurd hm dC
 by_cases fN:x=lY
 ·subst fN
  exact absurd hm dC
 by_cases ki:x=qR
 ·subst ki
  exact absurd hm dC
 by_cases ku:x=we
 ·subst ku
  exact absurd hm dC
 by_cases iy:x=ql
 ·subst iy
  exact absurd hm dC
 by_cases ud:x=wj
 ·subst ud
  exact absurd hm dC
 by_cases kC:x=wm
 ·subst kC
  exact absurd hm dC
 by_cases iz:x=qo
 ·subst iz
  exact absurd hm dC
 by_cases fO:x=mg
 ·subst fO
  exact absurd hm dC
 unfold eU;rw[if_neg o_,if_neg dH,if_neg iu,if_neg j8,if_neg j9,if_neg iw,if_neg pg,if_neg j_,if_neg t_,if_neg kg,if_neg fN,if_neg ki,if_neg ku,if_neg iy,if_neg ud,if_neg kC,if_neg iz,if_neg fO]
open Go.Lib
theorem N9(x:Nat)(W:aah):FnGives prog 46 #[] #[encR x] (.bool (j5 x)) W:=by
 unfold FnGives
 show ach prog 46 #[.int .i32 (x:Int)] W _
 go_in
 go_wp2_with fail;go_ret;refine⟨?_,0,(World.drewN_zero _).symm⟩
 have:((x:Int) == 32)=j5 x:=by
  unfold j5
  by_cases h:x=32
  ·subst h;rfl
  ·have h2:¬ ((x:Int)=32):=by omega
   rw[beq_eq_false_iff_ne.2 h2,beq_eq_false_iff_ne.2 h]
 show Ending.returned (.bool ((x:Int) == 32))=_
 rw[this]
theorem YK{w:aah}{A:Nat}{F:List ByteArray}(h:w.ownsRow b 9 1 (.slice (some ⟨A,0,none⟩) F.length F.length) F.length (F.map anb)):iG w A 0 (F.map (·.data.toList)):=by
 obtain⟨h1,h2⟩:=h;rcases h2 with⟨he,_⟩|⟨g,cap,cur,he,_,hg,hc,_,hs,ht⟩
 ·cases he
 ·cases he
  refine⟨⟨_,hg,rfl⟩,fun j x hx=>?_⟩;have e:cur.toList=F.map anb:=by rw[<-ht,List.take_of_length_le];simp[hs]
  rw[cell_of_row w A (0+j) cur 9 (0,0) hg,ahq,<-Array.getElem?_toList,e,am5];rw[am5]at hx;cases hF:F[j]? with
  |none=>rw[hF]at hx;cases hx
  |some y=>rw[hF]at hx;cases hx;rfl
theorem iG.tail{w:aah}(h:iG w g off (x::L)):iG w g (off+1) L:=⟨h.1,fun j y hy=>by rw[Nat.add_assoc,Nat.add_comm 1 j];exact h.2 (j+1) y hy⟩
theorem iG.none_{w:aah}{aoF:Nat}(h:iG w g off L):iG w g aoF []:=⟨h.1,fun j y hy=>by cases hy⟩
theorem SX.said{B sb db k xb:Nat}{z:SS}{v:aai}{w w':aah}(h:SX B sb db k z v w)(hg:w.grownBy w' (some xb))(hb:aC w xb 9 cs)(hB:B<=xb):SX B sb db k z v w':=by
 obtain⟨D,n,f,x,h1,h2,h3⟩:=h;have zv:Below B w w':=bR.grown hg h1.nH (fun i hi=>by cases hi;exact hB);have env:=h1.env.keep zv;have dk:=h1.fM.grown hg (by simpa using aC.Gx h1.fM.at_ hb dC);exact⟨D,n,f,x,⟨env,aC.grown h1.st hg (by simpa using aC.Gx h1.st hb dC),dk,h1.row.kept hg (h1.row.apart hb dC),h1.bs,h1.bd⟩,⟨env,dk,h1.bd,aiC h1.nH zv.size,h2.fits,h2.fit,h2.inv⟩,h3⟩
theorem dW.said{W w w':aah}{xb vb sb db k:Nat}{r:Ru}{z:SS}{v:aai}(h:dW W xb vb sb db k r z v w)(hg:w.grownBy w' (some rb))(hb:aC w rb 9 cs)(hB:W.heap.size<=rb):dW W xb vb sb db k r z v w':=
 ⟨h.at_.grown hg (by simpa using h.at_.Gx hb dC),⟨h.sw.at_.grown hg (by simpa using h.sw.at_.Gx hb dC),h.sw.sx.said hg hb hB,h.sw.right,h.sw.bv⟩,h.bx,h.below.grown hg h.below.size (fun i hi=>by cases hi;exact hB),h.err,h.eg⟩
theorem Jp.said{W w w':aah}{xb k:Nat}{d:DS}(h:Jp W xb k d w)(hg:w.grownBy w' (some rb))(hb:aC w rb 9 cs)(hB:W.heap.size<=rb):Jp W xb k d w':=by
 obtain⟨vb,sb,db,v,h⟩:=h;exact⟨vb,sb,db,v,h.said hg hb hB⟩
theorem bT.said{w:aah}(h:bT w w1)(hg:w1.grownBy w2 (some rb))(hr:w.heap.size<=rb):bT w w2:=
 ⟨hg.os.T h.os,hg.tape.T h.tape,hg.output.T h.output,aiC h.size hg.size,fun i o hi hm=>by
  have aE:=(akN.1 hi).1;exact(hg.block i (Nat.lt_of_lt_of_le aE h.size) (by intro e;cases e;omega)).T (h.block i o hi hm)⟩
def xz(W w:aah)(xb k:Nat)(d:DS)(l:BL)(e:Ending)(w':aah):Prop:=e=.returned (.string (eW d l).2)/\Jp W xb (k+1) (eW d l).1 w'/\bT w w'
theorem qI{W w:aah}{xb k:Nat}{d d':DS}{l:BL}{x:ByteArray}{y:aai}(hl:eW d l=(d',x))(h:Jp W xb (k+1) d' w1)(hs:bT w w1)(hb:aC w1 rb 9 #[y])(hW:W.heap.size<=rb)(hr:w.heap.size<=rb):xz W w xb k d l (.returned (.string x)) (w1.setCell ⟨rb,0,none⟩ (.string x)):=by
 have hg:=cC w1 rb ⟨rb,0,none⟩ rfl (.string x);unfold xz;rw[hl];exact⟨rfl,h.said hg hb hW,hs.said hg hr⟩
theorem Kg{m:Nat}(h:Cp x=m):∀args w,(callFunc m args).run prog w=.ok (.enter m args) w:=by
 by_cases fO:x=mg
 ·subst fO
  obtain rfl:m=80:=Int.ofNat.inj (h.symm.T dC);exact enters_of func80 kR rfl
 by_cases iz:x=qo
 ·subst iz
  obtain rfl:m=79:=Int.ofNat.inj (h.symm.T dC);exact enters_of func79 kR rfl
 by_cases kC:x=wm
 ·subst kC
  obtain rfl:m=78:=Int.ofNat.inj (h.symm.T dC);exact enters_of func78 kR rfl
 by_cases ud:x=wj
 ·subst ud
  obtain rfl:m=77:=Int.ofNat.inj (h.symm.T dC);exact enters_of func77 kR rfl
 by_cases iy:x=ql
 ·subst iy
  obtain rfl:m=76:=Int.ofNat.inj (h.symm.T dC);exact enters_of func76 kR rfl
 by_cases ku:x=we
 ·subst ku
  obtain rfl:m=75:=Int.ofNat.inj (h.symm.T dC);exact enters_of func75 kR rfl
 by_cases ki:x=qR
 ·subst ki
  obtain rfl:m=74:=Int.ofNat.inj (h.symm.T dC);exact enters_of func74 kR rfl
 by_cases fN:x=lY
 ·subst fN
  obtain rfl:m=73:=Int.ofNat.inj (h.symm.T dC);exact enters_of func73 kR rfl
 by_cases kg:x=oD
 ·subst kg
  obtain rfl:m=72:=Int.ofNat.inj (h.symm.T dC);exact enters_of func72 kR rfl
 by_cases Qe:x=uu
 ·subst Qe
  obtain rfl:m=11:=Int.ofNat.inj (h.symm.T dC);exact enters_of func11 kR rfl
 by_cases j_:x=vX
 ·subst j_
  obtain rfl:m=71:=Int.ofNat.inj (h.symm.T dC);exact enters_of func71 kR rfl
 by_cases pg:x=E7
 ·subst pg
  obtain rfl:m=70:=Int.ofNat.inj (h.symm.T dC);exact enters_of func70 kR rfl
 by_cases iw:x=qa
 ·subst iw
  obtain rfl:m=69:=Int.ofNat.inj (h.symm.T dC);exact enters_of func69 kR rfl
 by_cases j9:x=qH
 ·subst j9
  obtain rfl:m=68:=Int.ofNat.inj (h.symm.T dC);exact enters_of func68 kR rfl
 by_cases j8:x=vT
 ·subst j8
  obtain rfl:m=67:=Int.ofNat.inj (h.symm.T dC);exact enters_of func67 kR rfl
 by_cases iu:x=pW
 ·subst iu
  obtain rfl:m=66:=Int.ofNat.inj (h.symm.T dC);exact enters_of func66 kR rfl
 by_cases dH:x=g_
 ·subst dH
  obtain rfl:m=65:=Int.ofNat.inj (h.symm.T dC);exact enters_of func65 kR rfl
 by_cases o_:x=wG
 ·subst o_
  obtain rfl:m=64:=Int.ofNat.inj (h.symm.T dC);exact enters_of func64 kR rfl
 unfold Cp at h;rw[if_neg fO,if_neg iz,if_neg kC,if_neg ud,if_neg iy,if_neg ku,if_neg ki,if_neg fN,if_neg kg,if_neg Qe,if_neg j_,if_neg pg,if_neg iw,if_neg j9,if_neg j8,if_neg iu,if_neg dH,if_neg o_]at h;exact absurd h oM
theorem Rt{W w:aah}{xb vb sb db k:Nat}{r:Ru}{z:SS}{v:aai}(h:dW W xb vb sb db k r z v w)(hk:k<1000000)(fR:hU z.writes)(hcd:∀n L,hU (eU ⟨r,z⟩ n L).2.2)(s:ByteArray)(hs:s.size<=5000):
  ach prog 15 #[.pointer (some ⟨xb,0,none⟩),.string s] w (xz W w xb k ⟨r,z⟩ s.data.toList):=by
 have hmf:∀(fn:Fn) (first cap:Array aai) (w:aah),(am8 fn first cap).run prog w=.ok (.func fn first cap) w:=fun _ _ _ _=>rfl
 have H:=zH h;have HCD:=zH hcd;have PG:=zH fR;have hw0:Below w.heap.size w (w.alloc (.cells #[.string ⟨#[]⟩] 9)):=bR.alloc nR _;have MU:=zH hw0;have HF:=zH (fun W0=>tv 46 #[] (enters_of func46 kR rfl) j5 s W0 oM (fun W x _=>N9 x W));clear h fR hcd hw0;have hbf:∀(m:Nat) (a b:Array aai) (w:aah),Sem.run prog (binOp .eql 52 (.func (.func m) a b) .nilFunc) w=Result.ok (.bool false) w:=fun _ _ _ _=>rfl
 have hbn:∀(w:aah),Sem.run prog (binOp .eql 52 .nilFunc .nilFunc) w=Result.ok (.bool true) w:=fun _=>rfl
 go_enter_defers func15,ntmps15
 go_wp2_with fail;refine(HF.O _).mono ?_;rintro e w2 ⟨A,rfl,hA,kF,hb⟩;have Zl:=zH (Iv s);generalize Lib.goFieldsP j5 s=F at*;have HWA:=YK kF;have hFL:F.length=(F.map (·.data.toList)).length:=by simp
 rw[hFL];clear hFL kF HF;have Zl:=Zl.O;generalize F.map (·.data.toList)=M at*;clear F;have HB:=zH (below_2 MU.O hb);have HRB:=zH (show aC w2 w.heap.size 9 #[.string ⟨#[]⟩]from((hb.block _ sP).T (amR _ _)));have hp:w2.cell? ⟨w.heap.size,0,none⟩=some (.string ⟨#[]⟩):=HRB.O.cell 0;have hz:w2.frozen? ⟨w.heap.size,0,none⟩=false:=HRB.O.frozen 0;have HD:=H.O.keep HB.O;have hW:=H.O.below.size;clear hA hb MU;rcases M with _|⟨n,L⟩
 ·simp only[ajE]
  go_wp2_with fail;refine amN (f:=43) (args:=#[.pointer (some ⟨w.heap.size,0,none⟩)]) sP (by simp[go_sem]) ?_;refine(zA ⟨w.heap.size,0,none⟩ _).mono ?_;rintro e u' w' ⟨rfl,rfl,rfl⟩;have hr:(w2.setCell ⟨w.heap.size,0,none⟩ (.string ⟨#[111,107]⟩)).cell? ⟨w.heap.size,0,none⟩=some (.string ⟨#[111,107]⟩):=(HRB.O.dD 0 _ rfl).cell 0;have hl:eW ⟨r,z⟩ s.data.toList=(⟨r,z⟩,⟨#[111,107]⟩):=by unfold eW;rw[<-Zl]
  simp[am1,am2,al6,Tryz.results15,go_sem,hr];exact qI hl ⟨vb,sb,db,v,HD.later⟩ (bT.aG HB.O) HRB.O hW nR
 ·have HL:∀y∈n::L,y.length<=5000:=fun y hy=>by
   rw[Zl]at hy;exact bO 32 _ 5000 (by rw[nY];exact hs) y (List.mem_filter.1 hy).1
  have hc:w2.cell? ⟨A,0,none⟩=some (.string (aq n)):=HWA.2 0 n rfl;have HWA:=zH HWA;have HL:=zH HL;have T9:=zH (Rq xb n w2 (HL.O n sP));have HD:=zH HD;simp only[agj];go_wp2_with fail;refine T9.O.mono ?_;rintro e w3 ⟨lV,⟨hm,rfl⟩|⟨m,hm,rfl⟩⟩
  ·have hp3:w3.cell? ⟨w.heap.size,0,none⟩=some (.string ⟨#[]⟩):=(lV.cell (acC _ _ hp)).T hp
   have hz3:w3.frozen? ⟨w.heap.size,0,none⟩=false:=(lV.frozen (acC _ _ hp)).T hz;have jb:=zH lV;have oQ:=zH (HD.O.keep lV);have FO:=zH (show aC w3 w.heap.size 9 #[.string ⟨#[]⟩]from HRB.O.aj lV);clear lV hp hz hc T9;go_wp2_with fail;refine(dY 3 _ oQ.O.et).mono ?_;rintro e w4 ⟨rfl,RP⟩;have vH:=FO.O.aj RP
   have hl:eW ⟨r,z⟩ s.data.toList=(⟨r,z⟩,zf 3):=by
    unfold eW;rw[<-Zl];(show told (eU ⟨r,z⟩ n L)=_);rw[Vo _ _ _ hm];rfl
   dsimp only;refine amN (f:=43) (args:=#[.pointer (some ⟨w.heap.size,0,none⟩)]) sP (by simp[go_sem]) ?_;refine(uo ⟨w.heap.size,0,none⟩ 3 _ _ ⟨by decide,by decide⟩ (vH.cell 0) (vH.frozen 0) (oQ.O.keep RP).sw.tm.1).mono ?_;rintro e u' w5 ⟨rfl,rfl,w6,qw,rfl⟩;have HR6:=vH.aj qw;have hr:(w6.setCell ⟨w.heap.size,0,none⟩ (.string (zf 3))).cell? ⟨w.heap.size,0,none⟩=some (.string (zf 3)):=(HR6.dD 0 _ rfl).cell 0;have hB:=below_2 HB.O (below_2 jb.O (below_2 RP qw));simp[am1,am2,al6,Tryz.results15,go_sem,hr];exact qI hl ⟨vb,sb,db,v,((oQ.O.keep RP).keep qw).later⟩ (bT.aG hB) HR6 hW nR
  ·have jb:=zH lV
   have hp3:w3.cell? ⟨w.heap.size,0,none⟩=some (.string ⟨#[]⟩):=(lV.cell (acC _ _ hp)).T hp;have hz3:w3.frozen? ⟨w.heap.size,0,none⟩=false:=(lV.frozen (acC _ _ hp)).T hz;have oQ:=zH (HD.O.keep lV);have HW3:=zH (HWA.O.keep lV);have FO:=zH (show aC w3 w.heap.size 9 #[.string ⟨#[]⟩]from HRB.O.aj lV);have heg:=Kg hm;clear lV hp hz hc T9;go_wp2_with fail
   ·obtain rfl:L=[]:=by first|assumption|exact acL aS|exact acL oM
    refine(Ka oQ.O hk PG.O A 0 _ n [] HW3.O.none_ (fun y hy=>by cases hy) m hm).mono ?_;rintro e w4 ⟨⟨h0,rfl⟩|⟨h0,rfl⟩,MM,gX⟩
    ·have vH:=FO.O.stay gX dC
     have hp4:w4.cell? ⟨w.heap.size,0,none⟩=some (.string ⟨#[]⟩):=vH.cell 0;have hz4:w4.frozen? ⟨w.heap.size,0,none⟩=false:=vH.frozen 0
     have hl:eW ⟨r,z⟩ s.data.toList=((eU ⟨r,z⟩ n []).1,(eU ⟨r,z⟩ n []).2.1):=by
      unfold eW;rw[<-Zl];(show told _=_);unfold told;rw[if_pos h0]
     have HL0:=zH hl;have MX:=zH MM;have gJ:=zH gX;have HR:=zH vH;clear hl MM gX vH hp3 hz3 h0;generalize (eU ⟨r,z⟩ n []).2.1=x at*;generalize (eU ⟨r,z⟩ n []).1=d' at*;dsimp only;go_wp2_with fail;refine amN (f:=43) (args:=#[.pointer (some ⟨w.heap.size,0,none⟩)]) sP (by simp[go_sem]) ?_;refine(zA ⟨w.heap.size,0,none⟩ _).mono ?_;rintro e u' w' ⟨rfl,rfl,rfl⟩;have hr:(w4.setCell ⟨w.heap.size,0,none⟩ (.string x)).cell? ⟨w.heap.size,0,none⟩=some (.string x):=(HR.O.dD 0 _ rfl).cell 0;simp[am1,am2,al6,Tryz.results15,go_sem,hr];exact qI HL0.O MX.O ((bT.aG (below_2 HB.O jb.O)).T gJ.O) HR.O hW nR
    ·have vH:=FO.O.stay gX dC
     have hl:eW ⟨r,z⟩ s.data.toList=((eU ⟨r,z⟩ n []).1,zf (eU ⟨r,z⟩ n []).2.2):=by
      unfold eW;rw[<-Zl];(show told _=_);unfold told;rw[if_neg h0]
     have hc:=HCD.O n [];generalize (eU ⟨r,z⟩ n []).2.2=c at*;generalize (eU ⟨r,z⟩ n []).1=d' at*;obtain⟨Q2,BB,db',v',hd4⟩:=MM;dsimp only;refine amN (f:=43) (args:=#[.pointer (some ⟨w.heap.size,0,none⟩)]) sP (by simp[go_sem]) ?_;refine(uo ⟨w.heap.size,0,none⟩ c _ _ hc (vH.cell 0) (vH.frozen 0) hd4.sw.tm.1).mono ?_;rintro e u' w5 ⟨rfl,rfl,w6,qw,rfl⟩;have HR6:=vH.aj qw;have hr:(w6.setCell ⟨w.heap.size,0,none⟩ (.string (zf c))).cell? ⟨w.heap.size,0,none⟩=some (.string (zf c)):=(HR6.dD 0 _ rfl).cell 0;simp[am1,am2,al6,Tryz.results15,go_sem,hr];exact qI hl ⟨Q2,BB,db',v',hd4.keep qw⟩ (((bT.aG (below_2 HB.O jb.O)).T gX).T (bT.aG qw)) HR6 hW nR
   ·refine(Ka oQ.O hk PG.O A 1 _ n L HW3.O.tail (fun y hy=>HL.O y (List.mem_cons_of_mem _ hy)) m hm).mono ?_
    rintro e w4 ⟨⟨h0,rfl⟩|⟨h0,rfl⟩,MM,gX⟩
    ·have vH:=FO.O.stay gX dC
     have hp4:w4.cell? ⟨w.heap.size,0,none⟩=some (.string ⟨#[]⟩):=vH.cell 0;have hz4:w4.frozen? ⟨w.heap.size,0,none⟩=false:=vH.frozen 0
     have hl:eW ⟨r,z⟩ s.data.toList=((eU ⟨r,z⟩ n L).1,(eU ⟨r,z⟩ n L).2.1):=by
      unfold eW;rw[<-Zl];(show told _=_);unfold told;rw[if_pos h0]
     have HL0:=zH hl;have MX:=zH MM;have gJ:=zH gX;have HR:=zH vH;clear hl MM gX vH hp3 hz3 h0;generalize (eU ⟨r,z⟩ n L).2.1=x at*;generalize (eU ⟨r,z⟩ n L).1=d' at*;dsimp only;go_wp2_with fail;refine amN (f:=43) (args:=#[.pointer (some ⟨w.heap.size,0,none⟩)]) sP (by simp[go_sem]) ?_;refine(zA ⟨w.heap.size,0,none⟩ _).mono ?_;rintro e u' w' ⟨rfl,rfl,rfl⟩;have hr:(w4.setCell ⟨w.heap.size,0,none⟩ (.string x)).cell? ⟨w.heap.size,0,none⟩=some (.string x):=(HR.O.dD 0 _ rfl).cell 0;simp[am1,am2,al6,Tryz.results15,go_sem,hr];exact qI HL0.O MX.O ((bT.aG (below_2 HB.O jb.O)).T gJ.O) HR.O hW nR
    ·have vH:=FO.O.stay gX dC
     have hl:eW ⟨r,z⟩ s.data.toList=((eU ⟨r,z⟩ n L).1,zf (eU ⟨r,z⟩ n L).2.2):=by
      unfold eW;rw[<-Zl];(show told _=_);unfold told;rw[if_neg h0]
     have hc:=HCD.O n L;generalize (eU ⟨r,z⟩ n L).2.2=c at*;generalize (eU ⟨r,z⟩ n L).1=d' at*;obtain⟨Q2,BB,db',v',hd4⟩:=MM;dsimp only;refine amN (f:=43) (args:=#[.pointer (some ⟨w.heap.size,0,none⟩)]) sP (by simp[go_sem]) ?_;refine(uo ⟨w.heap.size,0,none⟩ c _ _ hc (vH.cell 0) (vH.frozen 0) hd4.sw.tm.1).mono ?_;rintro e u' w5 ⟨rfl,rfl,w6,qw,rfl⟩;have HR6:=vH.aj qw;have hr:(w6.setCell ⟨w.heap.size,0,none⟩ (.string (zf c))).cell? ⟨w.heap.size,0,none⟩=some (.string (zf c)):=(HR6.dD 0 _ rfl).cell 0;simp[am1,am2,al6,Tryz.results15,go_sem,hr];exact qI hl ⟨Q2,BB,db',v',hd4.keep qw⟩ (((bT.aG (below_2 HB.O jb.O)).T gX).T (bT.aG qw)) HR6 hW nR
def yc:Array aai:=#[.pointer none,.pointer none,.pointer none,.int .i64 0,.int .i64 0,.int .i64 0,.int .i64 0]
def NF:Array aai:=#[.string ⟨#[49]⟩,.string ⟨#[50,48]⟩,.string ⟨#[49,48,48]⟩,.string ⟨#[53]⟩]
def qj(W:aah):aah:=((W.alloc (.cells yc 51)).alloc (.cells #[.pointer (some ⟨W.heap.size,0,none⟩)] 44)).alloc (.cells NF 9)
theorem yF(W:aah):aC (qj W) W.heap.size 51 yc/\aC (qj W) (W.heap.size+1) 44 #[.pointer (some ⟨W.heap.size,0,none⟩)]/\aC (qj W) (W.heap.size+1+1) 9 NF/\Below W.heap.size W (qj W):=by
 have h1:Below W.heap.size W (W.alloc (.cells yc 51)):=bR.alloc nR _;have h2:=h1.alloc sP (.cells #[.pointer (some ⟨W.heap.size,0,none⟩)] 44);refine⟨?_,?_,?_,h2.alloc (by simp only[ak_];omega) _⟩
 ·unfold aC qj
  rw[amW _ _ (by simp only[ak_];omega),amW _ _ sP,amR]
 ·unfold aC qj
  rw[amW _ _ sP];have:=amR (W.alloc (.cells yc 51)) (.cells #[.pointer (some ⟨W.heap.size,0,none⟩)] 44);simpa using this
 ·unfold aC qj
  have:=amR ((W.alloc (.cells yc 51)).alloc (.cells #[.pointer (some ⟨W.heap.size,0,none⟩)] 44)) (.cells NF 9);simpa using this
theorem VE:A7 [49] [50,48] [49,48,48] [53]=0:=by
 kernel_rfl
theorem Ky(W:aah)(aar:Env W.heap.size W)(he:ey W)(hg:0<W.heap.size)(cp:Nat):
  ach prog 11 #[.pointer (some ⟨W.heap.size,0,none⟩),.slice (some ⟨W.heap.size+1+1,0,none⟩) 4 cp] (qj W) fun e w'=>e=.returned (.string (aq uu))/\Jp W W.heap.size 0 ds0 w'/\bT (qj W) w':=by
 obtain⟨h1,h2,h3,h4⟩:=yF W
 have hw:iG (qj W) (W.heap.size+1+1) 0 [[49],[50,48],[49,48,48],[53]]:=by
  refine⟨⟨_,h3,rfl⟩,fun j x hx=>?_⟩;rw[h3.cell];rcases j with _|_|_|_|j
  ·cases hx;rfl
  ·cases hx;rfl
  ·cases hx;rfl
  ·cases hx;rfl
  ·cases hx
 refine(Cn h1 nR ⟨h4,Below.refl _ _,aar.keep h4,hw,he,hg⟩ dC dC dC dC).mono ?_;rintro e w' (⟨h0,rfl,⟨vb,sb,db,v,hd⟩,hs⟩|⟨h0,_,_⟩)
 ·exact⟨rfl,⟨vb,sb,db,v,hd⟩,hs⟩
 ·exact absurd VE h0
def ajW(B:Nat):aai:=.func (.func 58) #[] #[.pointer (some ⟨B+1,0,none⟩),.pointer (some ⟨B,0,none⟩),.pointer (some ⟨B+1+1,0,none⟩)]
def kM(w:aah)(t:ByteArray):aah:=((w.alloc (.cells #[.string t] 9)).alloc (.cells #[.string ⟨#[10]⟩] 9)).alloc (.cells #[.int .i64 0] 3)
theorem XL(t:ByteArray)(w:aah):ach prog 12 #[.string t,.string ⟨#[10]⟩] w fun e w'=>e=.returned (ajW w.heap.size)/\w'=kM w t:=by
 have hmf:∀(fn:Fn) (first cap:Array aai) (w:aah),(am8 fn first cap).run prog w=.ok (.func fn first cap) w:=fun _ _ _ _=>rfl
 go_in
 go_wp2_with fail
 go_in
 go_wp2_with fail
 all_goals (go_ret;exact⟨rfl,rfl⟩)
theorem J0:(prog.info? 56).map (·.size)=some 2:=kR
theorem U4:liesAt prog prog.depth 56 (2 / prog.cellsOf 56) 0 56 1=true:=kR
theorem Rj(w:aah)(bb:Nat)(v:aai)(h:aC w bb 56 #[.pointer none,v]):
  ach prog 42 #[.pointer (some ⟨bb,0,none⟩)] w fun e w'=>e=.returned (.tuple #[])/\w'=w.setCell ⟨bb,0,none⟩ (.pointer (some ⟨bb,0,none⟩)):=by
 obtain⟨j,hj,hjs⟩:=amU.1 J0;have hz:w.frozen? ⟨bb,0,none⟩=false:=h.frozen 0;have h0:w.cell? ⟨bb,0,none⟩=some (.pointer none):=h.cell 0
 have mQ:w.shape? bb=some (56,2):=by
  unfold aC at h;simp[World.shape?,h]
 go_in
 go_wp2_with fail;rw[Lib.run_to_unsafe w ⟨bb,0,none⟩ agG underlying66 hj (by rw[hjs];decide) mQ (Nat.zero_lt_succ 1)];simp only[alj];rw[amS];go_wp2_with fail;rw[run_callFunc_extern func62 kR kR kR (e:=Extern.AbiNoEscape.same) kR];rw[Lib.run_noEscape];simp only[alj];rw[amS];go_wp2_with fail;rw[Lib.run_from_unsafe w ⟨bb,0,none⟩ underlying66 agG hj mQ U4];simp only[alj];rw[amS];go_wp2_with fail
 go_end0
 exact⟨rfl,rfl⟩
theorem U5(w:aah)(bb:Nat)(v:aai)(h:aC w bb 56 #[.pointer (some ⟨bb,0,none⟩),v]):
  ach prog 42 #[.pointer (some ⟨bb,0,none⟩)] w fun e w'=>e=.returned (.tuple #[])/\w'=w:=by
 obtain⟨j,hj,hjs⟩:=amU.1 J0;have h0:w.cell? ⟨bb,0,none⟩=some (.pointer (some ⟨bb,0,none⟩)):=h.cell 0
 go_in
 go_wp2_with fail;rw[Lib.run_neq_ptr_same w _ agG hj];go_wp2_with fail
 go_end0
 exact⟨rfl,rfl⟩
theorem Rl:(prog.info? 5).map (fun i=>(i.zero,i.size,i.bytes))=some (some (.int .u8 0),1,1):=kR
def P0:Obj->Bool
 | .cells _ t _=>t == 51 || t == 122 || t == 109 || t == 84 || t == 113
 |_=>false
structure Px(w w':aah):Prop where
 size:w.heap.size<=w'.heap.size
 block:∀(i:Nat) (o:Obj),w.heap[i]?=some o->P0 o=true->w'.heap[i]?=some o
section
variable{w w':aah}
theorem aC.ZW{t:TypeId}(h:aC w g t cs)(k:Px w w')(ht:P0 (.cells cs t (0,0))=true):aC w' g t cs:=k.block g _ h ht
theorem Px.uy(hg:w.grownBy w' (some l))(hl:∀o,w.heap[l]?=some o->P0 o=false):Px w w':=
 ⟨hg.size,fun i o hi ho=>by
  refine(hg.block i (akN.1 hi).1 ?_).T hi;intro e;cases e;rw[hl o hi]at ho;cases ho⟩
theorem bz.eO{B:Nat}{v:aai}{L:List az}(h:bz w B v L)(k:Px w w'):bz w' B v L:=by
 obtain⟨h1,h2⟩:=h;refine⟨h1,?_⟩;rcases h2 with h2|⟨g,cap,cur,h3,h4,hg,h5⟩
 ·exact .inl h2
 ·exact .inr ⟨g,cap,cur,h3,h4,k.block g _ hg rfl,h5⟩
theorem SX.eO{B sb db k:Nat}{z:SS}{v:aai}(h:SX B sb db k z v w)(hf:Px w w')(zv:Below B w w'):SX B sb db k z v w':=by
 obtain⟨D,n,f,x,h1,h2,h3⟩:=h;have env:=h1.env.keep zv;have dk:bK w' db D:=⟨h1.fM.at_.ZW hf rfl,h1.fM.len⟩;exact⟨D,n,f,x,⟨env,aC.ZW h1.st hf rfl,dk,h1.row.eO hf,h1.bs,h1.bd⟩,⟨env,dk,h1.bd,aiC h1.nH zv.size,h2.fits,h2.fit,h2.inv⟩,h3⟩
theorem dW.eO{W:aah}{xb vb sb db k:Nat}{r:Ru}{z:SS}{v:aai}(h:dW W xb vb sb db k r z v w)(hf:Px w w')(zv:Below W.heap.size w w'):dW W xb vb sb db k r z v w':=
 ⟨h.at_.ZW hf rfl,⟨h.sw.at_.ZW hf rfl,h.sw.sx.eO hf zv,h.sw.right,h.sw.bv⟩,h.bx,h.below.T zv,h.err,h.eg⟩
theorem Jp.eO{W:aah}{xb k:Nat}{d:DS}(h:Jp W xb k d w)(hf:Px w w')(zv:Below W.heap.size w w'):Jp W xb k d w':=by
 obtain⟨vb,sb,db,v,h⟩:=h;exact⟨vb,sb,db,v,h.eO hf zv⟩
end
def Nj:Obj->Bool
 | .cells _ t _=>t == 56 || t == 5
 |_=>false
structure AU(w w':aah):Prop where
 size:w.heap.size<=w'.heap.size
 block:∀(i:Nat) (o:Obj),w.heap[i]?=some o->Nj o=true->w'.heap[i]?=some o
theorem AU.uy{w w':aah}(hg:w.grownBy w' (some l))(hl:∀o,w.heap[l]?=some o->Nj o=false):AU w w':=
 ⟨hg.size,fun i o hi ho=>by
  refine(hg.block i (akN.1 hi).1 ?_).T hi;intro e;cases e;rw[hl o hi]at ho;cases ho⟩
theorem AU.abf{w w':aah}(h:bT w w'):AU w w':=⟨h.size,fun i o hi ho=>h.block i o hi (by
 cases o with
 |cells c t f=>
  simp only[Nj,aeu,beq_iff_eq]at ho;rcases ho with rfl|rfl<;>rfl
 |_=>rfl)⟩
theorem PX{B:Nat}{p:aai}{bs:List aai}{w w':aah}(h:am9 56 5 B b p bs w)(hf:AU w w'):am9 56 5 B b p bs w':=by
 obtain⟨hB,v,hb,⟨h1,h2⟩,eZ⟩:=h;refine⟨hB,v,hf.block b _ hb rfl,⟨h1,?_⟩,eZ⟩;rcases h2 with h2|⟨g,cap,cur,h3,h4,hg,h5⟩
 ·exact .inl h2
 ·exact .inr ⟨g,cap,cur,h3,h4,hf.block g _ hg rfl,h5⟩
theorem xF{B:Nat}{bs:List aai}{w w':aah}(h:amL 56 5 B b bs w)(hf:AU w w'):amL 56 5 B b bs w':=by
 rcases h with h|h
 ·exact .inl (PX h hf)
 ·exact .inr (PX h hf)
structure jF(w w':aah):Prop where
 size:w.heap.size<=w'.heap.size
 block:∀(i:Nat) (o:Obj),w.heap[i]?=some o->Nj o=false->w'.heap[i]?=some o
theorem jF.T{a b c:aah}(h:jF a b)(k:jF b c):jF a c:=⟨aiC h.size k.size,fun i o hi ho=>k.block i o (h.block i o hi ho) ho⟩
theorem jF.refl(w:aah):jF w w:=⟨Nat.le_refl _,fun _ _ h _=>h⟩
theorem jF.set{w:aah}{b:Nat}{cs:Array aai}{t:TypeId}(hb:w.heap[b]?=some (.cells cs t (0,0)))(ht:Nj (.cells cs t (0,0))=true)(i:Nat)(v:aai):jF w (w.setCell ⟨b,i,none⟩ v):=
 ⟨(KeepsWalks.setCell w ⟨b,i,none⟩ v).size,fun j o hj ho=>by
   by_cases e:j=b
   ·subst e
    rw[hb]at hj;cases hj;rw[ht]at ho;cases ho
   ·exact(Below.heap_setCell w _ v j e).T hj⟩
theorem jF.grown{w w':aah}{row:Option Nat}(hg:w.grownBy w' row)(hl:∀l o,row=some l->w.heap[l]?=some o->Nj o=true):jF w w':=
 ⟨hg.size,fun i o hi ho=>by
  refine(hg.block i (akN.1 hi).1 ?_).T hi;intro e;rw[hl i o e.symm hi]at ho;cases ho⟩
theorem Px.afv{w w':aah}(h:jF w w'):Px w w':=⟨h.size,fun i o hi ho=>h.block i o hi (by
 cases o with
 |cells c t f=>
  simp only[P0,aeu,beq_iff_eq]at ho;rcases ho with(((rfl|rfl)|rfl)|rfl)|rfl<;>rfl
 |_=>rfl)⟩
theorem Nk(B b:Nat)(bs:List aai)(w:aah)(h:amL 56 5 B b bs w):
  ach prog 42 #[.pointer (some ⟨b,0,none⟩)] w fun e w'=>e=.returned (.tuple #[])/\am9 56 5 B b (.pointer (some ⟨b,0,none⟩)) bs w'/\Below B w w'/\jF w w':=by
 rcases h with h|h
 ·obtain⟨hB,v,hb,hr⟩:=id h
  refine(Rj w b v hb).mono ?_;rintro e w' ⟨rfl,rfl⟩;exact⟨rfl,h.used _,(Below.refl B w).setCell (p:=⟨b,0,none⟩) hB _,jF.set hb rfl _ _⟩
 ·obtain⟨hB,v,hb,hr⟩:=id h
  refine(U5 w b v hb).mono ?_;rintro e w' ⟨rfl,rfl⟩;exact⟨rfl,h,Below.refl B _,jF.refl _⟩
theorem Nl(B b:Nat)(bs:List aai)(s:ByteArray)(w:aah)(h:amL 56 5 B b bs w)(hlen:bs.length+s.size<=140737488355328)(hBw:B<=w.heap.size):
  ach prog 14 #[.pointer (some ⟨b,0,none⟩),.string s] w fun e w'=>e=.returned (.tuple #[.int .i64 s.size,.nilIface])/\amL 56 5 B b (bs++amM s) w'/\Below B w w'/\jF w w':=by
 obtain⟨i0,hi,sQ,vp,mY⟩:=info_parts Rl
 go_in
 go_wp2_with fail;refine(Nk B b bs _ h).mono ?_;rintro e w1 ⟨rfl,h1,eu,ho1⟩;obtain⟨hB,v,E0,eE,eZ⟩:=h1;have c0:w1.cell? ⟨b,0,none⟩=some (.pointer (some ⟨b,0,none⟩)):=by rw[amQ E0];rfl
 have c1:w1.cell? ⟨b,1,none⟩=some v:=by rw[amQ E0];rfl
 go_wp2_with (at_builtin;refine Lib.wpList_append_own_string _ rfl _ _ 54 9 rfl B 5 i0 underlying54 underlying9 hi sQ vp mY _ _ _ rfl eE s rfl ?c3 ?c4 ?c5 ?_)
 case c3=>unfold maxLen;omega
 case c4=>omega
 case c5=>have:=eu.size;omega
 intro v' w2 mC cZ _;have aE:b<w1.heap.size:=(akN.1 E0).1;have ju:w2.heap[b]?=some (.cells #[.pointer (some ⟨b,0,none⟩),v] 56 (0,0)):=(cZ.block b aE (fun e=>eZ e.symm)).T E0;have d0:w2.cell? ⟨b,0,none⟩=some (.pointer (some ⟨b,0,none⟩)):=by rw[amQ ju];rfl
 have d1:w2.cell? ⟨b,1,none⟩=some v:=by rw[amQ ju];rfl
 have f1:w2.frozen? ⟨b,1,none⟩=false:=Lib.frozen_of_heap ju 1
 have ho2:jF w1 w2:=jF.grown cZ (fun l o hl hlo=>by
  rcases eE.2 with⟨rfl,_⟩|⟨g,cap,cur,rfl,_,hg,_⟩
  ·cases hl
  ·have:g=l:=by simpa[akw]using hl
   subst this;rw[hg]at hlo;cases hlo;rfl)
 obtain⟨ao,n',cap,rfl⟩:∃ao n' cap,v'=.slice ao n' cap:=by
  rcases mC.2 with⟨hv,_⟩|⟨g,cap,cur,hv,_⟩
  ·exact⟨_,_,_,hv⟩
  ·exact⟨_,_,_,hv⟩
 go_wp2_with fail;go_ret2;refine⟨rfl,.inr ?_,?_,(ho1.T ho2).T (jF.set ju rfl _ _)⟩
 ·exact Lib.BuilderAt.put (T:=56) (e:=5) hB ju (bs':=bs++Lib.strCells s) (by simpa[Lib.strCells_length]using mC) dC
 ·exact(eu.grown cZ (by have:=eu.size;omega) (fun k hk=>(eE.lt k hk).1)).setCell (p:=⟨b,1,none⟩) hB _
def yV(pre:List BL):DS×ByteArray:=pre.foldl ac9 (ds0,bG)
theorem uQ(pre:List BL)(x:BL):yV (pre++[x])=((eW (yV pre).1 x).1,(yV pre).2++((eW (yV pre).1 x).2++⟨#[10]⟩)):=by
 unfold yV;rw[List.foldl_append];rfl
structure DZ(d:DS):Prop where
 fit:Fit d.z.s
 lg:0<=d.z.log/\d.z.log<=1000000
 ru:LL d.r=true
theorem Jp.dz{W w:aah}{xb k:Nat}{d:DS}(h:Jp W xb k d w)(hk:k<=1000000):DZ d:=by
 obtain⟨vb,sb,db,v,h⟩:=h;exact⟨h.sw.sx.fit,by have:=h.sw.sx.ajt;omega,h.sw.right⟩
structure mj(W:aah)(bb B:Nat)(pre:List BL)(w:aah):Prop where
 dk:Jp W W.heap.size pre.length (yV pre).1 w
 box:aC w (W.heap.size+1) 44 #[.pointer (some ⟨W.heap.size,0,none⟩)]
 bld:amL 56 5 W.heap.size bb (amM (yV pre).2) w
 seq:∃s,tL B s w
 ok:hU (yV pre).1.z.writes
 sz:(yV pre).2.size<=100001*pre.length
 zs:∀p,p<+:pre->DZ (yV p).1
section
variable{W w w':aah}{bb B:Nat}{pre:List BL}
theorem OF{s:ByteArray}{row:Option Nat}(h:tL B s w)(hg:w.grownBy w' row)(h0:some B≠row)(h1:some (B+1)≠row)(h2:some (B+1+1)≠row)(h3:some 3≠row):tL B s w':=by
 obtain⟨a,b,c,m,d⟩:=h;exact⟨a.grown hg h0,b.grown hg h1,c.grown hg h2,m,(akU (hg.block _ (acC w _ d) h3)).T d⟩
theorem mj.odd(h:mj W bb B pre w)(hg:w.grownBy w' (some l))(hl:W.heap.size<=l)(hG:3<W.heap.size)(ho:∃o:Obj,w.heap[l]?=some o/\o.isCells=false):mj W bb B pre w':=by
 have hod:∀o,w.heap[l]?=some o->o.isCells=false:=fun o h1=>by
  obtain⟨o',h2,h3⟩:=ho;rw[h1]at h2;cases h2;exact h3
 have eZ:∀{g:Nat} {t:TypeId} {cs:Array aai},aC w g t cs->some g≠some l:=fun {g t cs} hb e=>by
  cases e;have:=hod _ hb;cases this
 have hf:Px w w':=Px.uy hg fun o h1=>by
  have:=hod o h1;cases o with
  |cells _ _ _=>cases this
  |_=>rfl
 have xS:AU w w':=AU.uy hg fun o h1=>by
  have:=hod o h1;cases o with
  |cells _ _ _=>cases this
  |_=>rfl
 have aE:l<w.heap.size:=by
  obtain⟨o,h1,_⟩:=ho;exact(akN.1 h1).1
 have zv:Below W.heap.size w w':=(Below.refl _ w).grown hg oM (fun k e=>by cases e;exact hl);obtain⟨s,hs⟩:=h.seq;exact⟨h.dk.eO hf zv,h.box.grown hg (eZ h.box),xF h.bld xS,⟨s,OF hs hg (eZ hs.s) (eZ hs.sep) (eZ hs.save) sO⟩,h.ok,h.sz,h.zs⟩
theorem mj.qp(h:mj W bb B pre w)(ht:Zw B w w')(hl:W.heap.size<=B)(hG:3<W.heap.size):mj W bb B pre w':=by
 obtain⟨⟨s,hs⟩,⟨s',ID⟩,hg⟩:=ht
 have gX:∀o,w.heap[B]?=some o->o=.cells #[.string s] 9 (0,0):=fun o h1=>by
  unfold aC at hs;rw[hs]at h1;exact(Option.some.inj h1).symm
 have hf:Px w w':=Px.uy hg fun o h1=>by rw[gX o h1];rfl
 have xS:AU w w':=AU.uy hg fun o h1=>by rw[gX o h1];rfl
 have aE:=hs.lt;have zv:Below W.heap.size w w':=(Below.refl _ w).grown hg oM (fun k e=>by cases e;exact hl);obtain⟨x,hx⟩:=h.seq;obtain⟨a,b,c,m,d⟩:=hx;refine⟨h.dk.eO hf zv,h.box.grown hg (by simpa using h.box.Gx hs dC),xF h.bld xS,⟨s',ID,b.grown hg sP,c.grown hg sO,m,(akU (hg.block _ (acC w _ d) sO)).T d⟩,h.ok,h.sz,h.zs⟩
theorem mj.keep(h:mj W bb B pre w)(hb:Below w.heap.size w w'):mj W bb B pre w':=by
 obtain⟨vb,sb,db,v,hd⟩:=h.dk;obtain⟨s,hs⟩:=h.seq;have xS:AU w w':=⟨hb.size,fun i o hi _=>(hb.block i (akN.1 hi).1).T hi⟩;exact⟨⟨vb,sb,db,v,hd.keep hb⟩,h.box.aj hb,xF h.bld xS,⟨s,hs.s.aj hb,hs.sep.aj hb,hs.save.aj hb,hs.max.aj hb⟩,h.ok,h.sz,h.zs⟩
theorem mj.start{w4:aah}{t:ByteArray}(hd:Jp W W.heap.size 0 ds0 w4)(hbx:aC w4 (W.heap.size+1) 44 #[.pointer (some ⟨W.heap.size,0,none⟩)])(hm:gp w4):
  mj W w4.heap.size (w4.heap.size+1) [] (kM (w4.alloc (.cells #[.pointer none,.slice none 0 0] 56)) t)/\tL (w4.heap.size+1) t (kM (w4.alloc (.cells #[.pointer none,.slice none 0 0] 56)) t)/\W.heap.size<=w4.heap.size:=by
 obtain⟨vb,sb,db,v,hk⟩:=hd;have hz:=Jp.dz ⟨vb,sb,db,v,hk⟩ dC;have hle:=hk.below.size;have h1:Below w4.heap.size w4 (w4.alloc (.cells #[.pointer none,.slice none 0 0] 56)):=bR.alloc nR _;have hb:Below w4.heap.size w4 (kM (w4.alloc (.cells #[.pointer none,.slice none 0 0] 56)) t):=((h1.alloc h1.size _).alloc sO _).alloc sO _;have E0:aC (kM (w4.alloc (.cells #[.pointer none,.slice none 0 0] 56)) t) w4.heap.size 56 #[.pointer none,.slice none 0 0]:=(((aC.new w4 _ _).alloc _).alloc _).alloc _
 have Aw:aC (kM (w4.alloc (.cells #[.pointer none,.slice none 0 0] 56)) t) (w4.heap.size+1) 9 #[.string t]:=by
  have:=((aC.new (w4.alloc (.cells #[.pointer none,.slice none 0 0] 56)) 9 #[.string t]).alloc (.cells #[.string ⟨#[10]⟩] 9)).alloc (.cells #[.int .i64 0] 3);simpa[kM]using this
 have hs1:aC (kM (w4.alloc (.cells #[.pointer none,.slice none 0 0] 56)) t) (w4.heap.size+1+1) 9 #[.string ⟨#[10]⟩]:=by
  have:=(aC.new ((w4.alloc (.cells #[.pointer none,.slice none 0 0] 56)).alloc (.cells #[.string t] 9)) 9 #[.string ⟨#[10]⟩]).alloc (.cells #[.int .i64 0] 3);simpa[kM]using this
 have xV:aC (kM (w4.alloc (.cells #[.pointer none,.slice none 0 0] 56)) t) (w4.heap.size+1+1+1) 3 #[.int .i64 0]:=by
  have:=aC.new (((w4.alloc (.cells #[.pointer none,.slice none 0 0] 56)).alloc (.cells #[.string t] 9)).alloc (.cells #[.string ⟨#[10]⟩] 9)) 3 #[.int .i64 0];simpa[kM]using this
 have hsq:tL (w4.heap.size+1) t (kM (w4.alloc (.cells #[.pointer none,.slice none 0 0] 56)) t):=⟨Aw,hs1,xV,hm.aj hb⟩;refine⟨⟨⟨vb,sb,db,v,hk.keep hb⟩,hbx.aj hb,.inl ⟨hle,.slice none 0 0,E0,World.ownsRow_nil _ _ _ _,by simp[akw]⟩,⟨t,hsq⟩,Lg,Nat.zero_le _,?_⟩,hsq,hle⟩;intro p hp;obtain rfl:=List.prefix_nil.1 hp;exact hz
theorem mj.next(h:mj W bb B pre w)(hk:pre.length<1000000)(hG:3<W.heap.size)(hd:Jp W W.heap.size (pre.length+1) (eW (yV pre).1 x).1 w1)(hs:bT w w1)(hb:amL 56 5 W.heap.size bb (amM (yV pre).2++amM ((eW (yV pre).1 x).2++⟨#[10]⟩)) w2)(zv:Below W.heap.size w1 w2)(ho:jF w1 w2):
  mj W bb B (pre++[x]) w2/\KeepsOthers w w2/\JM B w w2:=by
 have hd2:=hd.eO (Px.afv ho) zv;have hz:=h.zs pre (List.prefix_refl _);have mY:=hd2.dz oM;have hnl:nl (eW (yV pre).1 x).2:=Qx ⟨hz.fit,hz.ru,h.ok,hz.lg⟩ x mY.fit;have Au:∀(i:Nat) (o:Obj),w.heap[i]?=some o->Sl o=false->Nj o=false->w2.heap[i]?=some o:=fun i o h1 h2 h3=>ho.block i o (hs.block i o h1 h2) h3
 obtain⟨s,hsq⟩:=h.seq;obtain⟨a,b,c,m,d⟩:=id hsq;obtain⟨vb,sb,db,v,MM⟩:=h.dk;obtain⟨vb2,sb2,db2,v2,am0⟩:=id hd2;have hgl:w2.heap[(3:Nat)]?=w.heap[(3:Nat)]?:=(am0.below.block _ hG).T (MM.below.block _ hG).symm;refine⟨⟨?_,?_,?_,⟨s,Au _ _ a rfl rfl,Au _ _ b rfl rfl,Au _ _ c rfl rfl,m,(akU hgl).T d⟩,?_,?_,?_⟩,⟨aiC hs.size ho.size,fun i o h1 h2=>Au i o h1 (by cases o<;>first|rfl|cases h2) (by cases o<;>first|rfl|cases h2)⟩,?_⟩
 ·rw[uQ,ag2]
  exact hd2
 ·exact Au _ _ h.box rfl rfl
 ·rw[uQ]
  have e:amM ((yV pre).2++((eW (yV pre).1 x).2++⟨#[10]⟩))=amM (yV pre).2++amM ((eW (yV pre).1 x).2++⟨#[10]⟩):=by
   rw[am7,am7,am7,ByteArray.data_append,Array.toList_append,byteCells_append]
  rw[e];exact hb
 ·rw[uQ]
  exact WG h.ok x
 ·rw[uQ]
  have h1:=h.sz;have h2:(⟨#[10]⟩:ByteArray).size=1:=rfl;have h3:(eW (yV pre).1 x).2.size<=100000:=hnl;dsimp only;rw[akI,akI,ag2,aij];omega
 ·intro p hp
  rcases List.prefix_concat_iff.1 hp with rfl|hp
  ·rw[uQ]
   exact mY
  ·exact h.zs p hp
 ·rintro i o (rfl|rfl|rfl|rfl) h1 _
  ·exact Au _ _ h1 (by unfold aC at a;rw[a]at h1;cases h1;rfl) (by unfold aC at a;rw[a]at h1;cases h1;rfl)
  ·exact Au _ _ h1 (by unfold aC at b;rw[b]at h1;cases h1;rfl) (by unfold aC at b;rw[b]at h1;cases h1;rfl)
  ·exact Au _ _ h1 (by unfold aC at c;rw[c]at h1;cases h1;rfl) (by unfold aC at c;rw[c]at h1;cases h1;rfl)
  ·exact hgl.T h1
end
attribute [local go_sem] Oper.semAt_some
theorem af5(l:BL):amY l [10]=iP l:=by
 unfold iP amY
 by_cases h:l.getLast?=some 10
 ·obtain⟨a,rfl⟩:=List.getLast?_eq_some_iff.1 h
  have h2:amZ (a++[10]) [10]=true:=by simp[amZ]
  rw[if_pos h,if_pos h2];simp
 ·have h2:¬ amZ l [10]=true:=by
   intro h3;apply h;obtain⟨t,rfl⟩:=List.isSuffixOf_iff_suffix.1 h3;simp
  rw[if_neg h,if_neg h2]
theorem abZ(s:ByteArray):(⟨(amY s.data.toList [10]).toArray⟩:ByteArray)=aq (iP s.data.toList):=by
 rw[af5];rfl
theorem S8(W:aah)(aar:Env W.heap.size W)(he:ey W)(hg:0<W.heap.size)(s:ByteArray)(hs:s.size<=5000):
  ach prog 6 #[.string s] W fun e w'=>(e=.returned (.string (Dm s.data.toList))/\∀p,p<+:CV s.data.toList->DZ (yV p).1)/\Below W.heap.size W w':=by
 refine(alf (n:=3)).1 ?_;have HF:=zH (Ky W aar he hg);have f1:Fence.wide.fn 11:=trivial;have f2:Fence.wide.fn 13:=trivial;have f3:Fence.wide.fn 12:=trivial;have f4:Fence.wide.fn 16:=trivial;have h1:1<=3:=by decide
 refine callsIn_of_wp_marks func6 rfl trivial ?_ rfl;simp only[ntmps6,List.size_toArray,agj,ajE,alI,Nat.reduceSub,Array.replicate_succ,Array.replicate_zero,List.push_toArray,List.append_toArray,List.nil_append,List.cons_append]
 have HT:Hid (∀w,ach prog 13 #[.string s,.string ⟨#[10]⟩] w fun e w'=>e=.returned (.string (aq (iP s.data.toList)))/\w'=w):=zH (fun w=>by
  rw[<-abZ];exact tC s ⟨#[10]⟩ w oM)
 have xV:¬ ((20000:Int)<(s.size:Int)):=by omega
 gi_wp2_with (first
  |(gi_at_call 11;refine(alf.2 (HF.O _)).mono ?_;rintro e w4 ⟨rfl,hd,gX⟩
    have hbx:=(yF W).2.1.stay gX rfl;have hc:=hbx.cell 0)
  |(gi_at_call 13;refine(alf.2 (HT.O _)).mono ?_;rintro e w5 ⟨rfl,hw5⟩;obtain rfl:=hw5.symm)
  |(gi_at_call 12;refine(alf.2 (XL _ _)).mono ?_;rintro e w6 ⟨rfl,hq⟩))
 have hG:3<W.heap.size:=aar.gm
 have hm4:gp w4:=by
  obtain⟨vb,sb,db,v,hk⟩:=hd;exact hk.env.iV
 obtain⟨hI0,hsq,hle⟩:=mj.start (t:=aq (iP s.data.toList)) hd hbx hm4
 have hlen:(iP s.data.toList).length<=5000:=by
  have h1:s.data.toList.length=s.size:=size_data _;unfold iP;split
  ·rw[List.length_dropLast];omega
  ·omega
 have hqd:(aq (iP s.data.toList)).data.toList=iP s.data.toList:=an _;have iS:(aq (iP s.data.toList)).size<=5000:=hlen;have MP:CV s.data.toList=parts 10 (aq (iP s.data.toList)).data.toList:=by rw[hqd,N_]
 have hpl:(parts 10 (aq (iP s.data.toList)).data.toList).length<=5001:=by
  have:=qN 10 (iP s.data.toList);rw[hqd];omega
 have oV:Dm s.data.toList=(yV (parts 10 (aq (iP s.data.toList)).data.toList)).2:=by unfold Dm yV;rw[MP]
 generalize aq (iP s.data.toList)=t at*;have hw6:(kM (w4.alloc (.cells #[.pointer none,.slice none 0 0] 56)) t).heap.size=w4.heap.size+4:=by unfold kM;simp
 refine vM rfl h1 (gf:=58) (lb:=#[.pointer (some ⟨w4.heap.size+1+1,0,none⟩),.pointer (some ⟨w4.heap.size+1,0,none⟩),.pointer (some ⟨w4.heap.size+1+1+1,0,none⟩)]) rfl trivial
  (enters_of func58 kR rfl) (XM (3 - 1) (w4.heap.size+1) dC t _ oM hsq oM) rfl OH (fun _ _ _=>OG) XJ
  (mj W w4.heap.size (w4.heap.size+1)) (fun xs A A' l hA hg hl ho=>hA.odd hg oM hG ho) (fun pre A A' hA hT=>hA.qp hT oM hG) (fun W' _ hg=>hI0.keep ⟨hg.os,hg.tape,hg.output,hg.size,fun k hk=>hg.block k hk sP⟩)
  (fun x=>{tmps:=#[.string s,agp,.string ⟨#[]⟩,.pointer (some ⟨W.heap.size+1,0,none⟩),.pointer (some ⟨w4.heap.size,0,none⟩),.string (aq x),.string s,.int .i64 s.size,.bool false,
   .agg #[.pointer none,.pointer none,.pointer none,.int .i64 0,.int .i64 0,.int .i64 0,.int .i64 0],.pointer (some ⟨W.heap.size,0,none⟩),.pointer (some ⟨W.heap.size,0,none⟩),.slice (some ⟨W.heap.size+1+1,0,none⟩) 4 4,.string (aq uu),.string s,.string t,ajW (w4.heap.size+1),.string (aq x),agp,agp,agp,agp,agp,agp],defers:=[]}) ?assign ?body ?done
 case assign=>
  intro l x W' K hK
  gi_wp2
  exact hK
 case body=>
  intro l pre x W' hI hp
  have atW:pre.length<5001:=by
   have:=hp.length_le;rw[ag2,aij]at this;omega
  have hx:x.length<=5000:=by
   have hm:x∈parts 10 t.data.toList:=hp.subset sP;exact bO 10 _ 5000 (by rw[nY];exact iS) x hm
  obtain⟨vb,sb,db,v,MM⟩:=hI.dk;have hc:=hI.box.cell 0;have hz:=hI.zs pre (List.prefix_refl _);have g1:Fence.wide.fn 15:=trivial;have g2:Fence.wide.fn 14:=trivial;obtain⟨d',oS,hda⟩:∃d' oS,eW (yV pre).1 x=(d',oS):=⟨_,_,rfl⟩;have HL0:=Rt MM oM hI.ok (fun n L=>(P4 _ n L).ok) (aq x) (by show x.length<=_;omega);have e0:eW ⟨(yV pre).1.r,(yV pre).1.z⟩ x=(d',oS):=hda;unfold xz at HL0;rw[an,e0]at HL0;have HL:=zH HL0;have HI:=zH hI
  have hn7:∀w7,Jp W W.heap.size (pre.length+1) d' w7->oS.size<=100000:=fun w7 h7=>by
   have:=Qx (d:=(yV pre).1) ⟨hz.fit,hz.ru,hI.ok,hz.lg⟩ x (by rw[hda];exact(h7.dz oM).fit);rw[hda]at this;exact this
  have hsI:=hI.sz;have hGl:W.heap.size<=W'.heap.size:=MM.below.size;have h10:(⟨#[10]⟩:ByteArray).size=1:=rfl
  have NT:∀w1 w2,Jp W W.heap.size (pre.length+1) d' w1->bT W' w1->amL 56 5 W.heap.size w4.heap.size (amM (yV pre).2++amM (oS++⟨#[10]⟩)) w2->Below W.heap.size w1 w2->jF w1 w2->
   mj W w4.heap.size (w4.heap.size+1) (pre++[x]) w2/\KeepsOthers W' w2/\JM (w4.heap.size+1) W' w2:=fun w1 w2 a1 a2 a3 a4 a5=>HI.O.next oM hG (by rw[hda];exact a1) a2 (by rw[hda];exact a3) a4 a5
  have HNX:=zH NT;have HN7:=zH hn7;clear hI MM hz HL0 e0 NT hn7
  gi_wp2_with (gi_at_call 15;refine(CallsIn.inRound l (alf.2 HL.O)).mono ?_;rintro e w7 ⟨rfl,hd7,ae4⟩
               have hq7:=HN7.O w7 hd7;have as4:=ir oS ⟨#[10]⟩ oM;have H7:=zH hd7;have wu:=zH ae4;have Wh:=ae4.size;clear hd7 ae4)
  have ME:=xF HI.O.bld (AU.abf wu.O);have HW7:=Nl W.heap.size w4.heap.size _ (oS++⟨#[10]⟩) w7 ME (by rw[strCells_length,akI];omega) oM;refine(CallsIn.inRound l (alf.2 HW7)).mono ?_;rintro e w8 ⟨rfl,MK,ah7,ho8⟩;have HN:=zH (HNX.O w7 w8 H7.O wu.O MK ah7 ho8);clear MK ah7 ho8 HW7 ME
  gi_wp2
  exact⟨HN.O.2.1,HN.O.2.2,HN.O.1⟩
 case done=>
  intro D W' hD hI hDk;have hbw:amL 56 5 W.heap.size w4.heap.size (Lib.byteCells (yV (parts 10 t.data.toList)).2.data.toList) W':=hI.bld;obtain⟨vb,sb,db,v,hk⟩:=id hI.dk
  have as9:w4.heap.size<W'.heap.size:=by
   rcases hI.bld with h|h
   ·exact h.lt
   ·exact h.lt
  have hDb:some D≠some w4.heap.size:=by
   intro e;cases e;rw[hw6]at hD;omega
  have HBL:=zH hk.below;have HZ:=zH hI.zs;have HS:=zH (qZ W.heap.size w4.heap.size _ W' (IsBuilderF.of hbw) hk.below.size);clear hI hbw hk;rw[<-MP]at HZ;rw[<-oV]at HS;clear oV MP hqd;obtain⟨y,hy⟩:∃y,y=Dm s.data.toList:=⟨_,rfl⟩;rw[<-hy]at HS;have HY:=zH hy;clear hy
  gi_wp2_with (gi_at_call 16;refine(alf.2 HS.O).mono ?_;rintro e w8 ⟨rfl,_,MK,hk8⟩)
  have hD8:w8.heap[D]?=some (.deferred (some [])):=hk8 D _ hDk hDb (fun c fz e=>by cases e);refine⟨by simp,.inl ⟨_,_,rfl,run_takeDeferred hD8,?_⟩⟩;exact⟨_,results_tmp rfl _ _ _,⟨by rw[<-HY.O];rfl,HZ.O⟩,(HBL.O.T MK).T (belowK_b (w:=W) nR w8 D _ _ oM hD8 rfl rfl)⟩
end Go.Proofs.YtjligkmjlenofaaGreatDoor
