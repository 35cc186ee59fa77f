/-
  The desk: what a line's first word does: a map of its methods.
-/
import Derived.Test.YtepjcdjpikbbjaaGreatDoorU00
import Derived.Test.YtepjcdjpikbbjaaGreatDoorU46
import Derived.Test.YtepjcdjpikbbjaaGreatDoorU33
import Derived.Test.YtepjcdjpikbbjaaGreatDoorU35
import Derived.Test.YtepjcdjpikbbjaaGreatDoorU44
import Derived.Test.YtepjcdjpikbbjaaGreatDoorU41
import Derived.Test.YtepjcdjpikbbjaaGreatDoorU45
import Derived.Test.YtepjcdjpikbbjaaGreatDoorU43
import Derived.Test.YtepjcdjpikbbjaaGreatDoorU22
import Derived.Test.YtepjcdjpikbbjaaGreatDoorU38
import Derived.Shelf.GgClosure.Gives
import Derived.Test.YtepjcdjpikbbjaaGreatDoorU34
set_option maxHeartbeats 8000000
set_option maxRecDepth 100000
namespace Go.Proofs.YtepjcdjpikbbjaaGreatDoor
open Go.Proofs.Tryz
open Go.RowKit Go.Sort
def qz (x:List UInt8):Int:=
 if x=eh then(78:Nat)else if x=fx then(77:Nat)else if x=jd then(76:Nat)else if x=jp then(75:Nat)else if x=fE then(74:Nat)else if x=jb then(73:Nat)else if x=gG then(72:Nat)else if x=ee then(71:Nat)else if x=fg then(70:Nat)else if x=jc then(7:Nat)else if x=jt then(69:Nat)else if x=mT then(68:Nat)else if x=fB then(67:Nat)else if x=gA then(66:Nat)else if x=je then(65:Nat)else if x=fJ then(64:Nat)else if x=cQ then(63:Nat)else if x=jQ then(62:Nat)else -1
def GQ (xb:Nat) (x:List UInt8) (w:World) (e:Ending) (w':World):Prop:=
 Below w.heap.size w w'∧((qz x= -1∧e=.returned .nilFunc)∨ ∃ m:Nat,qz x=m∧e=.returned (.func (.func m) #[.pointer (some ⟨xb,0,none⟩)] #[]))
theorem Cn (xb:Nat) (x:List UInt8) (w:World) (hx:x.length≤5000):
  Calls prog 29 #[.pointer (some ⟨xb,0,none⟩),.string (ah x)] w (GQ xb x w):=by
 have m0:dV prog 9 xb (w.alloc (.map #[] 0)) w.heap.size 0 (fun _=> -1):=dV.made w;have b0:Below w.heap.size w (w.alloc (.map #[] 0)):=(Below.refl _ _).alloc (Nat.le_refl _) _;obtain⟨w1,e1,m1,g1⟩:=m0.put (T:=131) (E:=33) underlying131 underlying9 (by unfold maxLen;omega) jQ dC 62;have b1:=b0.grown g1 b0.size (fun i hi=>by cases hi;exact Nat.le_refl _);clear g1 b0 m0;obtain⟨w2,e2,m2,g2⟩:=m1.put (T:=131) (E:=33) underlying131 underlying9 (by unfold maxLen;omega) cQ dC 63;have b2:=b1.grown g2 b1.size (fun i hi=>by cases hi;exact Nat.le_refl _);clear g2 b1 m1;obtain⟨w3,e3,m3,g3⟩:=m2.put (T:=131) (E:=33) underlying131 underlying9 (by unfold maxLen;omega) fJ dC 64;have b3:=b2.grown g3 b2.size (fun i hi=>by cases hi;exact Nat.le_refl _);clear g3 b2 m2;obtain⟨w4,e4,m4,g4⟩:=m3.put (T:=131) (E:=33) underlying131 underlying9 (by unfold maxLen;omega) je dC 65;have b4:=b3.grown g4 b3.size (fun i hi=>by cases hi;exact Nat.le_refl _);clear g4 b3 m3;obtain⟨w5,e5,m5,g5⟩:=m4.put (T:=131) (E:=33) underlying131 underlying9 (by unfold maxLen;omega) gA dC 66;have b5:=b4.grown g5 b4.size (fun i hi=>by cases hi;exact Nat.le_refl _);clear g5 b4 m4;obtain⟨w6,e6,m6,g6⟩:=m5.put (T:=131) (E:=33) underlying131 underlying9 (by unfold maxLen;omega) fB dC 67;have b6:=b5.grown g6 b5.size (fun i hi=>by cases hi;exact Nat.le_refl _);clear g6 b5 m5;obtain⟨w7,e7,m7,g7⟩:=m6.put (T:=131) (E:=33) underlying131 underlying9 (by unfold maxLen;omega) mT dC 68;have b7:=b6.grown g7 b6.size (fun i hi=>by cases hi;exact Nat.le_refl _);clear g7 b6 m6;obtain⟨w8,e8,m8,g8⟩:=m7.put (T:=131) (E:=33) underlying131 underlying9 (by unfold maxLen;omega) jt dC 69;have b8:=b7.grown g8 b7.size (fun i hi=>by cases hi;exact Nat.le_refl _);clear g8 b7 m7;obtain⟨w9,e9,m9,g9⟩:=m8.put (T:=131) (E:=33) underlying131 underlying9 (by unfold maxLen;omega) jc dC 7;have b9:=b8.grown g9 b8.size (fun i hi=>by cases hi;exact Nat.le_refl _);clear g9 b8 m8;obtain⟨w10,e10,m10,g10⟩:=m9.put (T:=131) (E:=33) underlying131 underlying9 (by unfold maxLen;omega) fg dC 70;have b10:=b9.grown g10 b9.size (fun i hi=>by cases hi;exact Nat.le_refl _);clear g10 b9 m9;obtain⟨w11,e11,m11,g11⟩:=m10.put (T:=131) (E:=33) underlying131 underlying9 (by unfold maxLen;omega) ee dC 71;have b11:=b10.grown g11 b10.size (fun i hi=>by cases hi;exact Nat.le_refl _);clear g11 b10 m10;obtain⟨w12,e12,m12,g12⟩:=m11.put (T:=131) (E:=33) underlying131 underlying9 (by unfold maxLen;omega) gG dC 72;have b12:=b11.grown g12 b11.size (fun i hi=>by cases hi;exact Nat.le_refl _);clear g12 b11 m11;obtain⟨w13,e13,m13,g13⟩:=m12.put (T:=131) (E:=33) underlying131 underlying9 (by unfold maxLen;omega) jb dC 73;have b13:=b12.grown g13 b12.size (fun i hi=>by cases hi;exact Nat.le_refl _);clear g13 b12 m12;obtain⟨w14,e14,m14,g14⟩:=m13.put (T:=131) (E:=33) underlying131 underlying9 (by unfold maxLen;omega) fE dC 74;have b14:=b13.grown g14 b13.size (fun i hi=>by cases hi;exact Nat.le_refl _);clear g14 b13 m13;obtain⟨w15,e15,m15,g15⟩:=m14.put (T:=131) (E:=33) underlying131 underlying9 (by unfold maxLen;omega) jp dC 75;have b15:=b14.grown g15 b14.size (fun i hi=>by cases hi;exact Nat.le_refl _);clear g15 b14 m14;obtain⟨w16,e16,m16,g16⟩:=m15.put (T:=131) (E:=33) underlying131 underlying9 (by unfold maxLen;omega) jd dC 76;have b16:=b15.grown g16 b15.size (fun i hi=>by cases hi;exact Nat.le_refl _);clear g16 b15 m15;obtain⟨w17,e17,m17,g17⟩:=m16.put (T:=131) (E:=33) underlying131 underlying9 (by unfold maxLen;omega) fx dC 77;have b17:=b16.grown g17 b16.size (fun i hi=>by cases hi;exact Nat.le_refl _);clear g17 b16 m16;obtain⟨w18,e18,m18,g18⟩:=m17.put (T:=131) (E:=33) underlying131 underlying9 (by unfold maxLen;omega) eh dC 78;have b18:=b17.grown g18 b17.size (fun i hi=>by cases hi;exact Nat.le_refl _);clear g18 b17 m17;obtain⟨v,hl,hv⟩:=m18.look (T:=131) (E:=33) underlying131 underlying9 (Tryz.zeroValue33 _) x (by unfold maxLen;omega);have HV:=zH hv;have HB:=zH b18;clear hv b18 m18 hx;have hmm:= @run_makeMap prog;have hmf: ∀ (fn:Fn) (first cap:Array Value) (w:World),(Instr.makeFunc fn first cap).run prog w=.ok (.func fn first cap) w:=fun _ _ _ _=>rfl
 rw[show ah jQ=⟨#[99,117,116]⟩from rfl]at e1;rw[show ah cQ=⟨#[102,97,109,105,108,105,101,115]⟩from rfl]at e2;rw[show ah fJ=⟨#[103,114,97,110,116]⟩from rfl]at e3;rw[show ah je=⟨#[104,101,108,112]⟩from rfl]at e4;rw[show ah gA=⟨#[107,105,108,108]⟩from rfl]at e5;rw[show ah fB=⟨#[108,101,97,115,116]⟩from rfl]at e6;rw[show ah mT=⟨#[108,111,103]⟩from rfl]at e7;rw[show ah jt=⟨#[109,105,110,116]⟩from rfl]at e8;rw[show ah jc=⟨#[110,101,119]⟩from rfl]at e9;rw[show ah fg=⟨#[111,112,101,110]⟩from rfl]at e10;rw[show ah ee=⟨#[114,111,116,97,116,101]⟩from rfl]at e11;rw[show ah gG=⟨#[115,97,118,101]⟩from rfl]at e12;rw[show ah jb=⟨#[115,104,111,119]⟩from rfl]at e13;rw[show ah fE=⟨#[115,119,101,101,112]⟩from rfl]at e14;rw[show ah jp=⟨#[116,97,103]⟩from rfl]at e15;rw[show ah jd=⟨#[116,105,99,107]⟩from rfl]at e16;rw[show ah fx=⟨#[116,111,107,101,110]⟩from rfl]at e17;rw[show ah eh=⟨#[119,114,105,116,101,115]⟩from rfl]at e18;generalize ah x=nm at*;go_enter Tryz.func29,Tryz.ntmps29;go_wp2_with fail;go_ret;refine⟨HB.out,?_⟩;rcases HV.out with⟨rfl,h⟩|⟨m,rfl,h⟩
 ·exact .inl ⟨h,rfl⟩
 ·exact .inr ⟨m,h,rfl⟩
theorem xE {W w:World} {xb vb sb db k:Nat} {r:Ru} {z:SS} {v:Value} (h:bP W xb vb sb db k r z v w) (hk:k<1000000) (hok:cP z.writes) (g off c:Nat) (x:List UInt8) (L:List (List UInt8)) (hw:eN w g off L) (hl: ∀ y∈L,y.length≤5000) (m:Nat) (hm:qz x=m):
  Calls prog m #[.pointer (some ⟨xb,0,none⟩),.slice (some ⟨g,off,none⟩) L.length c] w (dh W w xb k (cE ⟨r,z⟩ x L)):=by
 by_cases h_cut:x=jQ
 ·subst h_cut
  obtain rfl:m=62:=Int.ofNat.inj (hm.symm.trans dC);exact EY h hk g off c L hw hl
 by_cases h_families:x=cQ
 ·subst h_families
  obtain rfl:m=63:=Int.ofNat.inj (hm.symm.trans dC);exact sV h hk g off c L hw hl
 by_cases h_grant:x=fJ
 ·subst h_grant
  obtain rfl:m=64:=Int.ofNat.inj (hm.symm.trans dC);exact zc h hk g off c L hw hl
 by_cases h_help:x=je
 ·subst h_help
  obtain rfl:m=65:=Int.ofNat.inj (hm.symm.trans dC);exact BL h hk g off c L hw hl
 by_cases h_kill:x=gA
 ·subst h_kill
  obtain rfl:m=66:=Int.ofNat.inj (hm.symm.trans dC);exact A5 h hk g off c L hw hl
 by_cases h_least:x=fB
 ·subst h_least
  obtain rfl:m=67:=Int.ofNat.inj (hm.symm.trans dC);exact yX h hk g off c L hw hl
 by_cases h_log:x=mT
 ·subst h_log
  obtain rfl:m=68:=Int.ofNat.inj (hm.symm.trans dC);exact CQ h hk g off c L hw hl
 by_cases h_mint:x=jt
 ·subst h_mint
  obtain rfl:m=69:=Int.ofNat.inj (hm.symm.trans dC);exact Bc h hk g off c L hw hl
 by_cases h_new:x=jc
 ·subst h_new
  obtain rfl:m=7:=Int.ofNat.inj (hm.symm.trans dC);exact Ep h hk g off c L hw hl
 by_cases h_open:x=fg
 ·subst h_open
  obtain rfl:m=70:=Int.ofNat.inj (hm.symm.trans dC);exact Ca h hk g off c L hw hl
 by_cases h_rotate:x=ee
 ·subst h_rotate
  obtain rfl:m=71:=Int.ofNat.inj (hm.symm.trans dC);exact vP h hk g off c L hw hl
 by_cases h_save:x=gG
 ·subst h_save
  obtain rfl:m=72:=Int.ofNat.inj (hm.symm.trans dC);exact Cj h hk g off c L hw hl
 by_cases h_show:x=jb
 ·subst h_show
  obtain rfl:m=73:=Int.ofNat.inj (hm.symm.trans dC);exact AY h hk g off c L hw hl
 by_cases h_sweep:x=fE
 ·subst h_sweep
  obtain rfl:m=74:=Int.ofNat.inj (hm.symm.trans dC);exact yw h hk g off c L hw hl
 by_cases h_tag:x=jp
 ·subst h_tag
  obtain rfl:m=75:=Int.ofNat.inj (hm.symm.trans dC);exact EL h hk g off c L hw hl
 by_cases h_tick:x=jd
 ·subst h_tick
  obtain rfl:m=76:=Int.ofNat.inj (hm.symm.trans dC);exact Cg h hk g off c L hw hl
 by_cases h_token:x=fx
 ·subst h_token
  obtain rfl:m=77:=Int.ofNat.inj (hm.symm.trans dC);exact zL h hk g off c L hw hl
 by_cases h_writes:x=eh
 ·subst h_writes
  obtain rfl:m=78:=Int.ofNat.inj (hm.symm.trans dC);exact xM h hk g off c L hw hl hok
 exfalso;unfold qz at hm;rw[if_neg h_writes,if_neg h_token,if_neg h_tick,if_neg h_tag,if_neg h_sweep,if_neg h_show,if_neg h_save,if_neg h_rotate,if_neg h_open,if_neg h_new,if_neg h_mint,if_neg h_log,if_neg h_least,if_neg h_kill,if_neg h_help,if_neg h_grant,if_neg h_families,if_neg h_cut]at hm;omega
theorem Dj (d:DS) (x:List UInt8) (L:List (List UInt8)) (hm:qz x= -1):cE d x L=bad d 3:=by
 by_cases h_cut:x=jQ
 ·subst h_cut
  exact absurd hm dC
 by_cases h_families:x=cQ
 ·subst h_families
  exact absurd hm dC
 by_cases h_grant:x=fJ
 ·subst h_grant
  exact absurd hm dC
 by_cases h_help:x=je
 ·subst h_help
  exact absurd hm dC
 by_cases h_kill:x=gA
 ·subst h_kill
  exact absurd hm dC
 by_cases h_least:x=fB
 ·subst h_least
  exact absurd hm dC
 by_cases h_log:x=mT
 ·subst h_log
  exact absurd hm dC
 by_cases h_mint:x=jt
 ·subst h_mint
  exact absurd hm dC
 by_cases h_new:x=jc
 ·subst h_new
  exact absurd hm dC
 by_cases h_open:x=fg
 ·subst h_open
  exact absurd hm dC
 by_cases h_rotate:x=ee
 ·subst h_rotate
  exact absurd hm dC
 by_cases h_save:x=gG
 ·subst h_save
  exact absurd hm dC
 by_cases h_show:x=jb
 ·subst h_show
  exact absurd hm dC
 by_cases h_sweep:x=fE
 ·subst h_sweep
  exact absurd hm dC
 by_cases h_tag:x=jp
 ·subst h_tag
  exact absurd hm dC
 by_cases h_tick:x=jd
 ·subst h_tick
  exact absurd hm dC
 by_cases h_token:x=fx
 ·subst h_token
  exact absurd hm dC
 by_cases h_writes:x=eh
 ·subst h_writes
  exact absurd hm dC
 unfold cE;rw[if_neg h_cut,if_neg h_families,if_neg h_grant,if_neg h_help,if_neg h_kill,if_neg h_least,if_neg h_log,if_neg h_mint,if_neg h_new,if_neg h_open,if_neg h_rotate,if_neg h_save,if_neg h_show,if_neg h_sweep,if_neg h_tag,if_neg h_tick,if_neg h_token,if_neg h_writes]
open Go.Lib
theorem zz (x:Nat) (W:World):FnGives prog 28 #[] #[encR x] (.bool (gP x)) W:=by
 unfold FnGives
 show Calls prog 28 #[.int .i32 (x:Int)] W _
 go_enter Tryz.func28,Tryz.ntmps28;go_wp2_with fail;go_ret;refine⟨?_,0,(World.drewN_zero _).symm⟩
 have:((x:Int) == 32)=gP x:=by
  unfold gP
  by_cases h:x=32
  ·subst h;rfl
  ·have h2: ¬ ((x:Int)=32):=by omega
   rw[beq_eq_false_iff_ne.2 h2,beq_eq_false_iff_ne.2 h]
 show Ending.returned (.bool ((x:Int) == 32))=_
 rw[this]
theorem ES {w:World} {b A:Nat} {F:List ByteArray} (h:w.ownsRow b 9 1 (.slice (some ⟨A,0,none⟩) F.length F.length) F.length (F.map Value.string)):eN w A 0 (F.map (·.data.toList)):=by
 obtain⟨h1,h2⟩:=h;rcases h2 with⟨he,_⟩|⟨g,cap,cur,he,_,hg,hc,_,hs,ht⟩
 ·cases he
 ·cases he
  refine⟨⟨_,hg,rfl⟩,fun j x hx=>?_⟩;have e:cur.toList=F.map Value.string:=by rw[←ht,List.take_of_length_le];simp[hs]
  rw[cell_of_row w A (0+j) cur 9 (0,0) hg,Nat.zero_add,←Array.getElem?_toList,e,List.getElem?_map];rw[List.getElem?_map]at hx;cases hF:F[j]? with
  |none=>rw[hF]at hx;cases hx
  |some y=>rw[hF]at hx;cases hx;rfl
theorem eN.tail {w:World} {g off:Nat} {x:List UInt8} {L:List (List UInt8)} (h:eN w g off (x::L)):eN w g (off+1) L:=⟨h.1,fun j y hy=>by rw[Nat.add_assoc,Nat.add_comm 1 j];exact h.2 (j+1) y hy⟩
theorem eN.none_ {w:World} {g off off':Nat} {L:List (List UInt8)} (h:eN w g off L):eN w g off' []:=⟨h.1,fun j y hy=>by cases hy⟩
theorem SX.said {B sb db k xb:Nat} {z:SS} {v:Value} {w w':World} {cs:Array Value} (h:SX B sb db k z v w) (hg:w.grownBy w' (some xb)) (hb:aj w xb 9 cs) (hB:B≤xb):SX B sb db k z v w':=by
 obtain⟨D,n,f,x,h1,h2,h3⟩:=h;have hbl:Below B w w':=(Below.refl _ _).grown hg h1.big (fun i hi=>by cases hi;exact hB);have env:=h1.env.keep hbl;have dk:=h1.disk.grown hg (by simpa using aj.ne_ h1.disk.at_ hb dC);exact⟨D,n,f,x,⟨env,aj.grown h1.st hg (by simpa using aj.ne_ h1.st hb dC),dk,h1.row.kept hg (h1.row.apart hb dC),h1.bs,h1.bd⟩,⟨env,dk,h1.bd,Nat.le_trans h1.big hbl.size,h2.fits,h2.fit,h2.inv⟩,h3⟩
theorem bP.said {W w w':World} {xb vb sb db k rb:Nat} {r:Ru} {z:SS} {v:Value} {cs:Array Value} (h:bP W xb vb sb db k r z v w) (hg:w.grownBy w' (some rb)) (hb:aj w rb 9 cs) (hB:W.heap.size≤rb):bP W xb vb sb db k r z v w':=
 ⟨h.at_.grown hg (by simpa using h.at_.ne_ hb dC),⟨h.sw.at_.grown hg (by simpa using h.sw.at_.ne_ hb dC),h.sw.sx.said hg hb hB,h.sw.right,h.sw.bv⟩,h.bx,h.below.grown hg h.below.size (fun i hi=>by cases hi;exact hB),h.err,h.eg⟩
theorem vL.said {W w w':World} {xb k rb:Nat} {d:DS} {cs:Array Value} (h:vL W xb k d w) (hg:w.grownBy w' (some rb)) (hb:aj w rb 9 cs) (hB:W.heap.size≤rb):vL W xb k d w':=by
 obtain⟨vb,sb,db,v,h⟩:=h;exact⟨vb,sb,db,v,h.said hg hb hB⟩
theorem bt.said {w w1 w2:World} {rb:Nat} (h:bt w w1) (hg:w1.grownBy w2 (some rb)) (hr:w.heap.size≤rb):bt w w2:=
 ⟨hg.os.trans h.os,hg.tape.trans h.tape,hg.output.trans h.output,Nat.le_trans h.size hg.size,fun i o hi hm=>by
  have hlt:=(Array.getElem?_eq_some_iff.1 hi).1;exact(hg.block i (Nat.lt_of_lt_of_le hlt h.size) (by intro e;cases e;omega)).trans (h.block i o hi hm)⟩
def nG (W w:World) (xb k:Nat) (d:DS) (l:List UInt8) (e:Ending) (w':World):Prop:=e=.returned (.string (cJ d l).2)∧vL W xb (k+1) (cJ d l).1 w'∧bt w w'
theorem kf {W w w1:World} {xb k rb:Nat} {d d':DS} {l:List UInt8} {x:ByteArray} {y:Value} (hl:cJ d l=(d',x)) (h:vL W xb (k+1) d' w1) (hs:bt w w1) (hb:aj w1 rb 9 #[y]) (hW:W.heap.size≤rb) (hr:w.heap.size≤rb):nG W w xb k d l (.returned (.string x)) (w1.setCell ⟨rb,0,none⟩ (.string x)):=by
 have hg:=aZ w1 rb ⟨rb,0,none⟩ rfl (.string x);unfold nG;rw[hl];exact⟨rfl,h.said hg hb hW,hs.said hg hr⟩
theorem wR {x:List UInt8} {m:Nat} (h:qz x=m): ∀ args w,(callFunc m args).run prog w=.ok (.enter m args) w:=by
 by_cases h_writes:x=eh
 ·subst h_writes
  obtain rfl:m=78:=Int.ofNat.inj (h.symm.trans dC);exact enters_of Tryz.func78 kR rfl
 by_cases h_token:x=fx
 ·subst h_token
  obtain rfl:m=77:=Int.ofNat.inj (h.symm.trans dC);exact enters_of Tryz.func77 kR rfl
 by_cases h_tick:x=jd
 ·subst h_tick
  obtain rfl:m=76:=Int.ofNat.inj (h.symm.trans dC);exact enters_of Tryz.func76 kR rfl
 by_cases h_tag:x=jp
 ·subst h_tag
  obtain rfl:m=75:=Int.ofNat.inj (h.symm.trans dC);exact enters_of Tryz.func75 kR rfl
 by_cases h_sweep:x=fE
 ·subst h_sweep
  obtain rfl:m=74:=Int.ofNat.inj (h.symm.trans dC);exact enters_of Tryz.func74 kR rfl
 by_cases h_show:x=jb
 ·subst h_show
  obtain rfl:m=73:=Int.ofNat.inj (h.symm.trans dC);exact enters_of Tryz.func73 kR rfl
 by_cases h_save:x=gG
 ·subst h_save
  obtain rfl:m=72:=Int.ofNat.inj (h.symm.trans dC);exact enters_of Tryz.func72 kR rfl
 by_cases h_rotate:x=ee
 ·subst h_rotate
  obtain rfl:m=71:=Int.ofNat.inj (h.symm.trans dC);exact enters_of Tryz.func71 kR rfl
 by_cases h_open:x=fg
 ·subst h_open
  obtain rfl:m=70:=Int.ofNat.inj (h.symm.trans dC);exact enters_of Tryz.func70 kR rfl
 by_cases h_fresh:x=jc
 ·subst h_fresh
  obtain rfl:m=7:=Int.ofNat.inj (h.symm.trans dC);exact enters_of Tryz.func7 kR rfl
 by_cases h_mint:x=jt
 ·subst h_mint
  obtain rfl:m=69:=Int.ofNat.inj (h.symm.trans dC);exact enters_of Tryz.func69 kR rfl
 by_cases h_log:x=mT
 ·subst h_log
  obtain rfl:m=68:=Int.ofNat.inj (h.symm.trans dC);exact enters_of Tryz.func68 kR rfl
 by_cases h_least:x=fB
 ·subst h_least
  obtain rfl:m=67:=Int.ofNat.inj (h.symm.trans dC);exact enters_of Tryz.func67 kR rfl
 by_cases h_kill:x=gA
 ·subst h_kill
  obtain rfl:m=66:=Int.ofNat.inj (h.symm.trans dC);exact enters_of Tryz.func66 kR rfl
 by_cases h_help:x=je
 ·subst h_help
  obtain rfl:m=65:=Int.ofNat.inj (h.symm.trans dC);exact enters_of Tryz.func65 kR rfl
 by_cases h_grant:x=fJ
 ·subst h_grant
  obtain rfl:m=64:=Int.ofNat.inj (h.symm.trans dC);exact enters_of Tryz.func64 kR rfl
 by_cases h_families:x=cQ
 ·subst h_families
  obtain rfl:m=63:=Int.ofNat.inj (h.symm.trans dC);exact enters_of Tryz.func63 kR rfl
 by_cases h_cut:x=jQ
 ·subst h_cut
  obtain rfl:m=62:=Int.ofNat.inj (h.symm.trans dC);exact enters_of Tryz.func62 kR rfl
 unfold qz at h;rw[if_neg h_writes,if_neg h_token,if_neg h_tick,if_neg h_tag,if_neg h_sweep,if_neg h_show,if_neg h_save,if_neg h_rotate,if_neg h_open,if_neg h_fresh,if_neg h_mint,if_neg h_log,if_neg h_least,if_neg h_kill,if_neg h_help,if_neg h_grant,if_neg h_families,if_neg h_cut]at h;exact absurd h oM
theorem CE {W w:World} {xb vb sb db k:Nat} {r:Ru} {z:SS} {v:Value} (h:bP W xb vb sb db k r z v w) (hk:k<1000000) (hok:cP z.writes) (hcd: ∀ n L,cP (cE ⟨r,z⟩ n L).2.2) (s:ByteArray) (hs:s.size≤5000):
  Calls prog 11 #[.pointer (some ⟨xb,0,none⟩),.string s] w (nG W w xb k ⟨r,z⟩ s.data.toList):=by
 have hmf: ∀ (fn:Fn) (first cap:Array Value) (w:World),(Instr.makeFunc fn first cap).run prog w=.ok (.func fn first cap) w:=fun _ _ _ _=>rfl
 have H:=zH h;have HCD:=zH hcd;have HOK:=zH hok;have hw0:Below w.heap.size w (w.alloc (.cells #[.string ⟨#[]⟩] 9)):=(Below.refl _ _).alloc (Nat.le_refl _) _;have HB0:=zH hw0;have HF:=zH (fun W0=>Tryz.strings_FieldsFunc 28 #[] (enters_of Tryz.func28 kR rfl) gP s W0 oM (fun W x _=>zz x W));clear h hok hcd hw0;have hbf: ∀ (m:Nat) (a b:Array Value) (w:World),Sem.run prog (binOp .eql 33 (.func (.func m) a b) .nilFunc) w=Result.ok (.bool false) w:=fun _ _ _ _=>rfl
 have hbn: ∀ (w:World),Sem.run prog (binOp .eql 33 .nilFunc .nilFunc) w=Result.ok (.bool true) w:=fun _=>rfl
 go_enter_defers Tryz.func11,Tryz.ntmps11
 go_wp2_with fail;go_at_call 27;refine(HF.out _).mono ?_;rintro e w2 ⟨A,rfl,hA,hrow,hb⟩;have HFW:=zH (u5 s);generalize Lib.goFieldsP gP s=F at*;have HWA:=ES hrow;have hFL:F.length=(F.map (·.data.toList)).length:=by simp
 rw[hFL];clear hFL hrow HF;have HFW:=HFW.out;generalize F.map (·.data.toList)=M at*;clear F;have HB:=zH (ae HB0.out hb);have HRB:=zH (show aj w2 w.heap.size 9 #[.string ⟨#[]⟩]from((hb.block _ (by simp)).trans (heap_alloc_new _ _)));have hp:w2.cell? ⟨w.heap.size,0,none⟩=some (.string ⟨#[]⟩):=HRB.out.cell 0;have hz:w2.frozen? ⟨w.heap.size,0,none⟩=false:=HRB.out.frozen 0;have HD:=H.out.keep HB.out;have hW:=H.out.below.size;clear hA hb HB0;rcases M with _|⟨n,L⟩
 ·simp only[List.length_nil]
  go_wp2_with fail;refine leaves_cons (f:=25) (args:=#[.pointer (some ⟨w.heap.size,0,none⟩)]) (by simp) (by simp[go_sem]) ?_;refine(pb ⟨w.heap.size,0,none⟩ _).mono ?_;rintro e u' w' ⟨rfl,rfl,rfl⟩;have hr:(w2.setCell ⟨w.heap.size,0,none⟩ (.string ⟨#[111,107]⟩)).cell? ⟨w.heap.size,0,none⟩=some (.string ⟨#[111,107]⟩):=(HRB.out.put_ 0 _ rfl).cell 0;have hl:cJ ⟨r,z⟩ s.data.toList=(⟨r,z⟩,⟨#[111,107]⟩):=by unfold cJ;rw[←HFW]
  simp[Leaves,settle,results,Tryz.results11,go_sem,hr];exact kf hl ⟨vb,sb,db,v,HD.later⟩ (bt.of_below HB.out) HRB.out hW (Nat.le_refl _)
 ·have HL: ∀ y∈n::L,y.length≤5000:=fun y hy=>by
   rw[HFW]at hy;exact be 32 _ 5000 (by rw[i6];exact hs) y (List.mem_filter.1 hy).1
  have hc:w2.cell? ⟨A,0,none⟩=some (.string (ah n)):=HWA.2 0 n rfl;have HWA:=zH HWA;have HL:=zH HL;have HDD:=zH (Cn xb n w2 (HL.out n (by simp)));have HD:=zH HD;simp only[List.length_cons];go_wp2_with fail;go_at_call 29;refine HDD.out.mono ?_;rintro e w3 ⟨hb3,⟨hm,rfl⟩|⟨m,hm,rfl⟩⟩
  ·have hp3:w3.cell? ⟨w.heap.size,0,none⟩=some (.string ⟨#[]⟩):=(hb3.cell (World.block_lt_of_cell? _ _ hp)).trans hp
   have hz3:w3.frozen? ⟨w.heap.size,0,none⟩=false:=(hb3.frozen (World.block_lt_of_cell? _ _ hp)).trans hz;have HB3:=zH hb3;have HD3:=zH (HD.out.keep hb3);have HR3:=zH (show aj w3 w.heap.size 9 #[.string ⟨#[]⟩]from HRB.out.below' hb3);clear hb3 hp hz hc HDD;go_wp2_with fail;go_at_call 20;refine(cS 3 _ HD3.out.et).mono ?_;rintro e w4 ⟨rfl,hb4⟩;have HR4:=HR3.out.below' hb4
   have hl:cJ ⟨r,z⟩ s.data.toList=(⟨r,z⟩,nB 3):=by
    unfold cJ;rw[←HFW]
    show told (cE ⟨r,z⟩ n L)=_
    rw[Dj _ _ _ hm];rfl
   dsimp only;refine leaves_cons (f:=25) (args:=#[.pointer (some ⟨w.heap.size,0,none⟩)]) (by simp) (by simp[go_sem]) ?_;refine(lr ⟨w.heap.size,0,none⟩ 3 _ _ ⟨by decide,by decide⟩ (HR4.cell 0) (HR4.frozen 0) (HD3.out.keep hb4).sw.tm.1).mono ?_;rintro e u' w5 ⟨rfl,rfl,w6,hb6,rfl⟩;have HR6:=HR4.below' hb6;have hr:(w6.setCell ⟨w.heap.size,0,none⟩ (.string (nB 3))).cell? ⟨w.heap.size,0,none⟩=some (.string (nB 3)):=(HR6.put_ 0 _ rfl).cell 0;have hB:=ae HB.out (ae HB3.out (ae hb4 hb6));simp[Leaves,settle,results,Tryz.results11,go_sem,hr];exact kf hl ⟨vb,sb,db,v,((HD3.out.keep hb4).keep hb6).later⟩ (bt.of_below hB) HR6 hW (Nat.le_refl _)
  ·have HB3:=zH hb3
   have hp3:w3.cell? ⟨w.heap.size,0,none⟩=some (.string ⟨#[]⟩):=(hb3.cell (World.block_lt_of_cell? _ _ hp)).trans hp;have hz3:w3.frozen? ⟨w.heap.size,0,none⟩=false:=(hb3.frozen (World.block_lt_of_cell? _ _ hp)).trans hz;have HD3:=zH (HD.out.keep hb3);have HW3:=zH (HWA.out.keep hb3);have HR3:=zH (show aj w3 w.heap.size 9 #[.string ⟨#[]⟩]from HRB.out.below' hb3);have heg:=wR hm;clear hb3 hp hz hc HDD;go_wp2_with fail
   ·obtain rfl:L=[]:=by first|assumption|exact List.eq_nil_of_length_eq_zero aS|exact List.eq_nil_of_length_eq_zero oM
    refine(xE HD3.out hk HOK.out A 0 _ n [] HW3.out.none_ (fun y hy=>by cases hy) m hm).mono ?_;rintro e w4 ⟨⟨h0,rfl⟩|⟨h0,rfl⟩,hdk,hst⟩
    ·have HR4:=HR3.out.stay hst dC
     have hp4:w4.cell? ⟨w.heap.size,0,none⟩=some (.string ⟨#[]⟩):=HR4.cell 0;have hz4:w4.frozen? ⟨w.heap.size,0,none⟩=false:=HR4.frozen 0
     have hl:cJ ⟨r,z⟩ s.data.toList=((cE ⟨r,z⟩ n []).1,(cE ⟨r,z⟩ n []).2.1):=by
      unfold cJ;rw[←HFW]
      show told _=_
      unfold told;rw[if_pos h0]
     have HL0:=zH hl;have HDK:=zH hdk;have HST:=zH hst;have HR:=zH HR4;clear hl hdk hst HR4 hp3 hz3 h0;generalize (cE ⟨r,z⟩ n []).2.1=x at*;generalize (cE ⟨r,z⟩ n []).1=d' at*;dsimp only;go_wp2_with fail;refine leaves_cons (f:=25) (args:=#[.pointer (some ⟨w.heap.size,0,none⟩)]) (by simp) (by simp[go_sem]) ?_;refine(pb ⟨w.heap.size,0,none⟩ _).mono ?_;rintro e u' w' ⟨rfl,rfl,rfl⟩;have hr:(w4.setCell ⟨w.heap.size,0,none⟩ (.string x)).cell? ⟨w.heap.size,0,none⟩=some (.string x):=(HR.out.put_ 0 _ rfl).cell 0;simp[Leaves,settle,results,Tryz.results11,go_sem,hr];exact kf HL0.out HDK.out ((bt.of_below (ae HB.out HB3.out)).trans HST.out) HR.out hW (Nat.le_refl _)
    ·have HR4:=HR3.out.stay hst dC
     have hl:cJ ⟨r,z⟩ s.data.toList=((cE ⟨r,z⟩ n []).1,nB (cE ⟨r,z⟩ n []).2.2):=by
      unfold cJ;rw[←HFW]
      show told _=_
      unfold told;rw[if_neg h0]
     have hc:=HCD.out n [];generalize (cE ⟨r,z⟩ n []).2.2=c at*;generalize (cE ⟨r,z⟩ n []).1=d' at*;obtain⟨vb',sb',db',v',hd4⟩:=hdk;dsimp only;refine leaves_cons (f:=25) (args:=#[.pointer (some ⟨w.heap.size,0,none⟩)]) (by simp) (by simp[go_sem]) ?_;refine(lr ⟨w.heap.size,0,none⟩ c _ _ hc (HR4.cell 0) (HR4.frozen 0) hd4.sw.tm.1).mono ?_;rintro e u' w5 ⟨rfl,rfl,w6,hb6,rfl⟩;have HR6:=HR4.below' hb6;have hr:(w6.setCell ⟨w.heap.size,0,none⟩ (.string (nB c))).cell? ⟨w.heap.size,0,none⟩=some (.string (nB c)):=(HR6.put_ 0 _ rfl).cell 0;simp[Leaves,settle,results,Tryz.results11,go_sem,hr];exact kf hl ⟨vb',sb',db',v',hd4.keep hb6⟩ (((bt.of_below (ae HB.out HB3.out)).trans hst).trans (bt.of_below hb6)) HR6 hW (Nat.le_refl _)
   ·refine(xE HD3.out hk HOK.out A 1 _ n L HW3.out.tail (fun y hy=>HL.out y (List.mem_cons_of_mem _ hy)) m hm).mono ?_
    rintro e w4 ⟨⟨h0,rfl⟩|⟨h0,rfl⟩,hdk,hst⟩
    ·have HR4:=HR3.out.stay hst dC
     have hp4:w4.cell? ⟨w.heap.size,0,none⟩=some (.string ⟨#[]⟩):=HR4.cell 0;have hz4:w4.frozen? ⟨w.heap.size,0,none⟩=false:=HR4.frozen 0
     have hl:cJ ⟨r,z⟩ s.data.toList=((cE ⟨r,z⟩ n L).1,(cE ⟨r,z⟩ n L).2.1):=by
      unfold cJ;rw[←HFW]
      show told _=_
      unfold told;rw[if_pos h0]
     have HL0:=zH hl;have HDK:=zH hdk;have HST:=zH hst;have HR:=zH HR4;clear hl hdk hst HR4 hp3 hz3 h0;generalize (cE ⟨r,z⟩ n L).2.1=x at*;generalize (cE ⟨r,z⟩ n L).1=d' at*;dsimp only;go_wp2_with fail;refine leaves_cons (f:=25) (args:=#[.pointer (some ⟨w.heap.size,0,none⟩)]) (by simp) (by simp[go_sem]) ?_;refine(pb ⟨w.heap.size,0,none⟩ _).mono ?_;rintro e u' w' ⟨rfl,rfl,rfl⟩;have hr:(w4.setCell ⟨w.heap.size,0,none⟩ (.string x)).cell? ⟨w.heap.size,0,none⟩=some (.string x):=(HR.out.put_ 0 _ rfl).cell 0;simp[Leaves,settle,results,Tryz.results11,go_sem,hr];exact kf HL0.out HDK.out ((bt.of_below (ae HB.out HB3.out)).trans HST.out) HR.out hW (Nat.le_refl _)
    ·have HR4:=HR3.out.stay hst dC
     have hl:cJ ⟨r,z⟩ s.data.toList=((cE ⟨r,z⟩ n L).1,nB (cE ⟨r,z⟩ n L).2.2):=by
      unfold cJ;rw[←HFW]
      show told _=_
      unfold told;rw[if_neg h0]
     have hc:=HCD.out n L;generalize (cE ⟨r,z⟩ n L).2.2=c at*;generalize (cE ⟨r,z⟩ n L).1=d' at*;obtain⟨vb',sb',db',v',hd4⟩:=hdk;dsimp only;refine leaves_cons (f:=25) (args:=#[.pointer (some ⟨w.heap.size,0,none⟩)]) (by simp) (by simp[go_sem]) ?_;refine(lr ⟨w.heap.size,0,none⟩ c _ _ hc (HR4.cell 0) (HR4.frozen 0) hd4.sw.tm.1).mono ?_;rintro e u' w5 ⟨rfl,rfl,w6,hb6,rfl⟩;have HR6:=HR4.below' hb6;have hr:(w6.setCell ⟨w.heap.size,0,none⟩ (.string (nB c))).cell? ⟨w.heap.size,0,none⟩=some (.string (nB c)):=(HR6.put_ 0 _ rfl).cell 0;simp[Leaves,settle,results,Tryz.results11,go_sem,hr];exact kf hl ⟨vb',sb',db',v',hd4.keep hb6⟩ (((bt.of_below (ae HB.out HB3.out)).trans hst).trans (bt.of_below hb6)) HR6 hW (Nat.le_refl _)
def oq:Array Value:=#[.pointer none,.pointer none,.pointer none,.int .i64 0,.int .i64 0,.int .i64 0,.int .i64 0]
def zK:Array Value:=#[.string ⟨#[49]⟩,.string ⟨#[50,48]⟩,.string ⟨#[49,48,48]⟩,.string ⟨#[53]⟩]
def jS (W:World):World:=((W.alloc (.cells oq 32)).alloc (.cells #[.pointer (some ⟨W.heap.size,0,none⟩)] 25)).alloc (.cells zK 9)
theorem ov (W:World):aj (jS W) W.heap.size 32 oq∧aj (jS W) (W.heap.size+1) 25 #[.pointer (some ⟨W.heap.size,0,none⟩)]∧aj (jS W) (W.heap.size+1+1) 9 zK∧Below W.heap.size W (jS W):=by
 have h1:Below W.heap.size W (W.alloc (.cells oq 32)):=(Below.refl _ _).alloc (Nat.le_refl _) _;have h2:=h1.alloc (by simp) (.cells #[.pointer (some ⟨W.heap.size,0,none⟩)] 25);refine⟨?_,?_,?_,h2.alloc (by simp only[World.size_alloc];omega) _⟩
 ·unfold aj jS
  rw[heap_alloc_old _ _ (by simp only[World.size_alloc];omega),heap_alloc_old _ _ (by simp),heap_alloc_new]
 ·unfold aj jS
  rw[heap_alloc_old _ _ (by simp)];have:=heap_alloc_new (W.alloc (.cells oq 32)) (.cells #[.pointer (some ⟨W.heap.size,0,none⟩)] 25);simpa using this
 ·unfold aj jS
  have:=heap_alloc_new ((W.alloc (.cells oq 32)).alloc (.cells #[.pointer (some ⟨W.heap.size,0,none⟩)] 25)) (.cells zK 9);simpa using this
theorem Dr:pX [49] [50,48] [49,48,48] [53]=0:=by
 kernel_rfl
theorem xo (W:World) (henv:pR W.heap.size W) (he:da W) (hg:1<W.heap.size) (cp:Nat):
  Calls prog 7 #[.pointer (some ⟨W.heap.size,0,none⟩),.slice (some ⟨W.heap.size+1+1,0,none⟩) 4 cp] (jS W) fun e w'=>e=.returned (.string (ah jc))∧vL W W.heap.size 0 IV w'∧bt (jS W) w':=by
 obtain⟨h1,h2,h3,h4⟩:=ov W
 have hw:eN (jS W) (W.heap.size+1+1) 0 [[49],[50,48],[49,48,48],[53]]:=by
  refine⟨⟨_,h3,rfl⟩,fun j x hx=>?_⟩;rw[h3.cell];rcases j with _|_|_|_|j
  ·cases hx;rfl
  ·cases hx;rfl
  ·cases hx;rfl
  ·cases hx;rfl
  ·cases hx
 refine(qO h1 (Nat.le_refl _) ⟨h4,Below.refl _ _,henv.keep h4,hw,he,hg⟩ dC dC dC dC).mono ?_;rintro e w' (⟨h0,rfl,⟨vb,sb,db,v,hd⟩,hs⟩|⟨h0,_,_⟩)
 ·exact⟨rfl,⟨vb,sb,db,v,hd⟩,hs⟩
 ·exact absurd Dr h0
def Jj (B:Nat):Value:=.func (.func 56) #[] #[.pointer (some ⟨B+1,0,none⟩),.pointer (some ⟨B,0,none⟩),.pointer (some ⟨B+1+1,0,none⟩)]
def gp (w:World) (t:ByteArray):World:=((w.alloc (.cells #[.string t] 9)).alloc (.cells #[.string ⟨#[10]⟩] 9)).alloc (.cells #[.int .i64 0] 3)
theorem EU (t:ByteArray) (w:World):Calls prog 8 #[.string t,.string ⟨#[10]⟩] w fun e w'=>e=.returned (Jj w.heap.size)∧w'=gp w t:=by
 have hmf: ∀ (fn:Fn) (first cap:Array Value) (w:World),(Instr.makeFunc fn first cap).run prog w=.ok (.func fn first cap) w:=fun _ _ _ _=>rfl
 go_enter Tryz.func8,Tryz.ntmps8;go_wp2_with fail;go_enter Tryz.func22,Tryz.ntmps22;go_wp2_with fail
 all_goals (go_ret;exact⟨rfl,rfl⟩)
theorem u3 (W:World) (s:ByteArray) (hs:20000<s.size):
  Calls prog 5 #[.string s] W fun e w'=>e=.returned (.string ⟨#[101,114,114,111,114,32,52,10]⟩)∧w'=W:=by
 go_enter Tryz.func5,Tryz.ntmps5;go_wp2_with fail
 all_goals first|(exfalso;omega)|(go_ret;exact⟨rfl,rfl⟩)
end Go.Proofs.YtepjcdjpikbbjaaGreatDoor
