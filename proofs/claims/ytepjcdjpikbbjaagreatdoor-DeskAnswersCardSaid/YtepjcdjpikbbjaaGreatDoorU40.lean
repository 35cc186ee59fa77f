/-
  rotorref's desk: what all commands share: its numbers, the closure text, a line that is of no form.
-/
import Derived.Test.YtepjcdjpikbbjaaGreatDoorU00
import Derived.Test.YtepjcdjpikbbjaaGreatDoorU27
import Derived.Test.YtepjcdjpikbbjaaGreatDoorU36
import Derived.Test.YtepjcdjpikbbjaaGreatDoorU20
import Derived.Test.YtepjcdjpikbbjaaGreatDoorU31
import Derived.Test.YtepjcdjpikbbjaaGreatDoorU38
import Derived.Test.YtepjcdjpikbbjaaGreatDoorU28
set_option maxHeartbeats 8000000
set_option maxRecDepth 100000
namespace Go.Proofs.YtepjcdjpikbbjaaGreatDoor
open Go.Proofs.Tryz
open Go.RowKit Go.Sort
theorem ey {a b c:Prop} (_:a) (_:b) (_:c):True:=trivial
theorem kq:(prog.info? 3).map (fun i=>(i.zero,i.size,i.bytes))=some (some (.int .i64 0),1,8):=kR
section
variable {W w w':World} {mb hb qb rb:Nat} {r:Ru} {z:SS} {v:Value}
theorem cf {d:DS} {a:pD} {c:Int} {t:ByteArray} (h:iL W mb hb qb rb d.r d.z v w') (k:Below w.heap.size w w') (hc:c≠0) (ha:a=bad d c):bw W w mb hb a (.returned (.tuple #[.string t,.int .i64 c])) w':=by
 subst ha;exact⟨⟨t,rfl,fun e=>absurd e hc⟩,⟨qb,rb,v,h⟩,cR.of_below k⟩
theorem ju (a:List UInt8) (ha:a.length≤5000) (hn:aC a=false) (h:iL W mb hb qb rb r z v w):
  Calls prog 31 #[.string (ah a)] w fun e w'=>e=.returned (.tuple #[.int .i64 0,.bool false])∧Below w.heap.size w w':=by
 have:=sf (ah a) w (by show a.length≤_;omega) h.rv.env.tens h.rv.env.errs;rw[ak,hn,show nJ a=0 by unfold nJ;rw[hn];rfl]at this;exact this
theorem gj (a:List UInt8) (ha:a.length≤5000) (hn:aC a=true) (h:iL W mb hb qb rb r z v w):
  Calls prog 31 #[.string (ah a)] w fun e w'=>e=.returned (.tuple #[.int .i64 (ab a),.bool true])∧Below w.heap.size w w':=by
 have:=sf (ah a) w (by show a.length≤_;omega) h.rv.env.tens h.rv.env.errs;rw[ak,hn,show nJ a=ab a by unfold nJ;rw[hn];rfl]at this;exact this
end
section
variable {W w w1 w':World} {mb hb qb rb:Nat} {r:Ru} {z z':SS} {v v':Value}
theorem iY (h:iL W mb hb qb rb r z v w1) (k:Below w.heap.size w w1) (hg:w1.grownBy w' (some rb)) (hr:RV W.heap.size qb rb r z' v' w') (t t':ByteArray) (c:Int) (hc:c=0→t=t'):bw W w mb hb (⟨r,z'⟩,t',c) (.returned (.tuple #[.string t,.int .i64 c])) w':=
 ⟨⟨t,rfl,hc⟩,⟨qb,rb,v',(h.turn hg hr).1⟩,(cR.of_below k).trans (h.turn hg hr).2⟩
end
theorem kB {W w w1 w':World} {mb hb qb rb:Nat} {r:Ru} {z:SS} {v:Value} (h:iL W mb hb qb rb r z v w1) (k:Below w.heap.size w w1) (hb':Below w1.heap.size w1 w') (t t':ByteArray) (c:Int) (hc:c=0→t=t'):bw W w mb hb (⟨r,z⟩,t',c) (.returned (.tuple #[.string t,.int .i64 c])) w':=
 ⟨⟨t,rfl,hc⟩,⟨qb,rb,v,h.keep hb'⟩,cR.of_below (ae k hb')⟩
theorem vG {W w w1 w':World} {mb hb qb rb:Nat} {r:Ru} {z:SS} {v:Value} (k:cR w w1) (h:iL W mb hb qb rb r z v w1) (hb':Below w1.heap.size w1 w') (t t':ByteArray) (c:Int) (hc:c=0→t=t'):bw W w mb hb (⟨r,z⟩,t',c) (.returned (.tuple #[.string t,.int .i64 c])) w':=
 ⟨⟨t,rfl,hc⟩,⟨qb,rb,v,h.keep hb'⟩,k.trans (cR.of_below hb')⟩
theorem Ej {W w5 w6:World} {mb hb qb rb sb:Nat} {r:Ru} {z:SS} {v:Value} (h:iL W mb hb qb rb r z v w5) (k:Below w5.heap.size w5 w6) (hra:gX w6 sb nu (.slice none 0 0)) (hsb:w5.heap.size≤sb) (r':Ru):
  iL W mb hb w6.heap.size sb r' nu (.slice none 0 0) ((w6.alloc (.cells (oP sb r') 54)).setCell ⟨hb,0,none⟩ (.pointer (some ⟨w6.heap.size,0,none⟩)))∧cR w5 ((w6.alloc (.cells (oP sb r') 54)).setCell ⟨hb,0,none⟩ (.pointer (some ⟨w6.heap.size,0,none⟩))):=by
 have hal:=(Below.refl w6.heap.size w6).alloc (Nat.le_refl _) (.cells (oP sb r') 54);have h7:=h.keep (ae k hal);have hg:=aZ (w6.alloc (.cells (oP sb r') 54)) hb ⟨hb,0,none⟩ rfl (.pointer (some ⟨w6.heap.size,0,none⟩));have hbl:Below W.heap.size (w6.alloc (.cells (oP sb r') 54)) ((w6.alloc (.cells (oP sb r') 54)).setCell ⟨hb,0,none⟩ (.pointer (some ⟨w6.heap.size,0,none⟩))):=(Below.refl _ _).grown hg h7.below.size (fun i hi=>by cases hi;exact h7.bh);have ha7:aj (w6.alloc (.cells (oP sb r') 54)) w6.heap.size 54 (oP sb r'):=aj.new w6 _ _;have hr7:gX (w6.alloc (.cells (oP sb r') 54)) sb nu (.slice none 0 0):=hra.below' hal;have hW:=h.below.size;have hk:=k.size
 have hrv:RV W.heap.size w6.heap.size sb r' nu (.slice none 0 0) ((w6.alloc (.cells (oP sb r') 54)).setCell ⟨hb,0,none⟩ (.pointer (some ⟨w6.heap.size,0,none⟩))):=
  ⟨ha7.grown hg (by simpa using ha7.ne_ h7.at_ dC),aj.grown hr7 hg (by simpa using aj.ne_ hr7 h7.at_ dC),aD.nil _ _,Nat.le_trans h7.rv.big hg.size,h7.rv.env.keep hbl,h7.rv.tab.below hbl h7.rv.g15,h7.rv.g15,by omega⟩
 have ho:=h7.other hg (h7.at_.put_ 0 _ rfl) hrv oM;exact⟨ho.1,(cR.of_below (ae k hal)).trans ho.2⟩
theorem Eb {W w2:World} {mb sb:Nat} (henv:pR W.heap.size W) (htab:cW W) (hg15:9<W.heap.size) (hfm:jy W mb) (hb:Below W.heap.size W w2) (hra:gX w2 sb nu (.slice none 0 0)) (hsb:W.heap.size≤sb):
  iL W mb (w2.heap.size+1) w2.heap.size sb IV.r nu (.slice none 0 0) ((w2.alloc (.cells #[.pointer (some ⟨sb,0,none⟩),.int .i64 1,.int .i64 20,.int .i64 100,.int .i64 5] 54)).alloc (.cells #[.pointer (some ⟨w2.heap.size,0,none⟩)] 56)):=by
 have h1:=(Below.refl w2.heap.size w2).alloc (Nat.le_refl _) (.cells #[.pointer (some ⟨sb,0,none⟩),.int .i64 1,.int .i64 20,.int .i64 100,.int .i64 5] 54);have hk:=h1.alloc h1.size (.cells #[.pointer (some ⟨w2.heap.size,0,none⟩)] 56);have hW:=hb.size;have hall:=ae hb hk;have hh:=aj.new (w2.alloc (.cells #[.pointer (some ⟨sb,0,none⟩),.int .i64 1,.int .i64 20,.int .i64 100,.int .i64 5] 54)) 56 #[.pointer (some ⟨w2.heap.size,0,none⟩)];rw[World.size_alloc]at hh;exact⟨hh,⟨(aj.new w2 _ _).alloc _,aj.below' hra hk,aD.nil _ _,hall.size,henv.keep hall,htab.below hall hg15,hg15,hsb⟩,hall,hfm,by omega,hW⟩
theorem qX {w w':World} {p:Addr} {x:Value} {rb:Nat} (hc:w.cell? p=some x) (hg:w.grownBy w' (some rb)) (hp:p.block≠rb):w'.cell? p=some x:=
 (World.cell?_of_block (hg.block _ (World.block_lt_of_cell? w _ hc) (by simpa using hp))).trans hc
theorem aB {w w':World} {p:Addr} {x:Value} (hc:w.cell? p=some x) (hb:Below w.heap.size w w'):w'.cell? p=some x:=(hb.cell (World.block_lt_of_cell? w _ hc)).trans hc
theorem pZ (b:Bool):(⟨(Lib.formatBool b).toArray⟩:ByteArray)=fy b:=by cases b<;>rfl
theorem dq {w w':World} {g i:Nat} {t:TypeId} {cs:Array Value} {x:Value} (hc:w.cell? ⟨g,i,none⟩=some x) (hb:aj w g t cs) (k:cR w w') (ht:Dg t=false):w'.cell? ⟨g,i,none⟩=some x:=
 (World.cell?_of_block ((hb.stayR k ht).trans hb.symm)).trans hc
structure NS (w1:World) (v:Value) (L:List Int) (w:World):Prop where
 bl:Below w1.heap.size w1 w
 own:w.ownsRow w1.heap.size 3 1 v L.length (L.map (Value.int .i64))
section
variable {w1 w w':World} {v v':Value} {L:List Int}
theorem NS.nil (w1:World):NS w1 (.slice none 0 0) [] w1:=⟨Below.refl _ _,World.ownsRow_nil _ _ _ _⟩
theorem NS.keep (h:NS w1 v L w) (hb:Below w.heap.size w w'):NS w1 v L w':=⟨ae h.bl hb,po h.own hb⟩
theorem NS.app {o:Obj} {n:Int} (h:NS w1 v L w) (hown:w'.ownsRow w1.heap.size 3 1 v' (L.length+1) (L.map (Value.int .i64)++[.int .i64 n])) (hg:(w.alloc o).grownBy w' v.ownBlock):NS w1 v' (L++[n]) w':=
 ⟨(h.bl.alloc h.bl.size o).grown hg (by have:=h.bl.size;simp;omega) (fun i e=>(h.own.lt i e).1),by simpa using hown⟩
theorem NS.cells (h:NS w1 v L w) (hL:L≠ []): ∃ g cap,v=.slice (some ⟨g,0,none⟩) L.length cap∧w1.heap.size≤g∧ ∀ j x,L[j]?=some x→w.cell? ⟨g,j,none⟩=some (.int .i64 x):=by
 rcases h.own.2 with⟨_,h0⟩|⟨g,cap,cur,rfl,hge,hg,_,_,hs,ht⟩
 ·exact absurd (List.eq_nil_of_length_eq_zero h0) hL
 ·refine⟨g,cap,rfl,hge,fun j x hx=>?_⟩
  have hlt:=(List.getElem?_eq_some_iff.1 hx).1;have e:(cur.toList.take (L.length*1))[j]?=some (.int .i64 x):=by rw[ht,List.getElem?_map,hx];rfl
  rw[List.getElem?_take_of_lt oM]at e;rw[cell_of_row w g j cur 3 (0,0) hg,←Array.getElem?_toList,e]
end
theorem jW {W w:World} {mb hb qb rb:Nat} {r:Ru} {z:SS} {v:Value} (h:iL W mb hb qb rb r z v w) (n:Int) (hn:cP n):
  Calls prog 16 #[.slice (some ⟨w.heap.size,0,none⟩) 1 1] (w.alloc (.cells #[.int .i64 n] 3)) fun e w'=>e=.returned (.string (aL n))∧Below w.heap.size w w':=by
 have hal:=(Below.refl w.heap.size w).alloc (Nat.le_refl _) (.cells #[.int .i64 n] 3);refine(mg w.heap.size [n] _ (h.keep hal).rv.env.wb (eI w 3 [n]) (by simp) (by simp) (by simpa using hn)).mono ?_;rintro e w' ⟨rfl,hb⟩;exact⟨rfl,ae hal hb⟩
theorem Dt {W w:World} {mb hb qb rb:Nat} {r:Ru} {z:SS} {v:Value} (h:iL W mb hb qb rb r z v w) (n m:Int) (hn:cP n) (hm:cP m):
  Calls prog 16 #[.slice (some ⟨w.heap.size,0,none⟩) 2 2] (w.alloc (.cells #[.int .i64 n,.int .i64 m] 3)) fun e w'=>e=.returned (.string (cg [n,m]))∧Below w.heap.size w w':=by
 have hal:=(Below.refl w.heap.size w).alloc (Nat.le_refl _) (.cells #[.int .i64 n,.int .i64 m] 3);refine(mg w.heap.size [n,m] _ (h.keep hal).rv.env.wb (eI w 3 [n,m]) (by simp) (by simp) (by simp[hn,hm])).mono ?_;rintro e w' ⟨rfl,hb⟩;exact⟨rfl,ae hal hb⟩
theorem nt (w:World) (bx g off c n j:Nat) (a:List UInt8) (hb:w.cell? ⟨bx,0,none⟩=some (.slice (some ⟨g,off,none⟩) n c)) (hj:j<n) (hc:w.cell? ⟨g,off+j,none⟩=some (.string (ah a))):
  Calls prog 32 #[.int .i64 j,.pointer (some ⟨bx,0,none⟩)] w fun e w'=>e=.returned (.string (bG (ah a)))∧w=w':=by
 have hj2:(j:Int)<n:=by omega
 rw[Bo]
 have he:((ah a).toList == [95])=decide (a=[95]):=by
  rw[bn,Bool.eq_iff_iff];simp
 by_cases ha:a=[95]
 ·rw[if_pos ha]
  rw[decide_eq_true ha]at he;clear ha;go_enter Tryz.func32,Tryz.ntmps32;go_wp2_with fail
  all_goals first|(exfalso;omega)|(go_ret;exact⟨rfl,rfl⟩)
 ·rw[if_neg ha]
  rw[decide_eq_false ha]at he;clear ha;go_enter Tryz.func32,Tryz.ntmps32;go_wp2_with fail
  all_goals first|(exfalso;omega)|(go_ret;exact⟨rfl,rfl⟩)
theorem cF {W w:World} {mb hb qb rb:Nat} {r:Ru} {z:SS} {v:Value} (h:iL W mb hb qb rb r z v w) (x:List UInt8) (hxl:x.length≤5000) (sv:Value) (n:Nat) (g:Option Addr) (c:Nat) (hsv:sv=.slice g n c) (hx: ∀ F,km x=some F→F.length≠n):
  Calls prog 15 #[.pointer (some ⟨hb,0,none⟩),.string (ah x),sv] w fun e w'=>e=.returned (.tuple #[.string ⟨#[]⟩,.int .i64 3])∧Below w.heap.size w w':=by
 subst hsv;have hal:=(Below.refl w.heap.size w).alloc (Nat.le_refl _) (.cells #[.slice g n c] 34);have H0:=h.keep hal;have hfc:=H0.forms;have hlk:=H0.look x hxl;have HAL:=zH hal;clear h H0 hal;rcases hF:km x with _|F
 ·rw[hF]at hlk
  simp only[Option.getD_none,Option.isSome_none]at hlk;clear hx hF;go_enter Tryz.func15,Tryz.ntmps15;go_wp2_with fail
  all_goals (go_ret2;exact⟨rfl,HAL.out⟩)
 ·have hne: ¬ ((F.length:Int)=n):=by have:=hx F hF;omega
  have hne2:((F.length:Int) == n)=false:=beq_eq_false_iff_ne.2 hne;have hsz:(ah F).size=F.length:=rfl;rw[hF]at hlk;simp only[Option.getD_some,Option.isSome_some]at hlk;clear hx hF;go_enter Tryz.func15,Tryz.ntmps15;go_wp2_with fail
  all_goals (go_ret2;exact⟨rfl,HAL.out⟩)
section
variable {W:World} {B qb rb:Nat} {r:Ru} {z:SS} {v:Value}
theorem CO (h:RV B qb rb r z v W) (hz:RZ r z) (id:Int):
  Calls prog 40 #[.pointer (some ⟨qb,0,none⟩),.int .i64 id] W (ig W B qb rb r z (eF z.s id)):=by
 have hfit:=hz.fit;have hlen:=hfit.len;have HPT:=zH (fun w v f (hf:f.short 5000) (h:RV B qb rb r z v w)=>vK h hz.fit hz.lg f hf);obtain⟨sa,sc,rfl⟩:=h.rr.slice;obtain⟨c0,c1,c2,c3,c4,hlt⟩:=h.five;obtain⟨d0,d1,d2,hlt2⟩:=h.three;have H:=zH h;clear h;go_enter Tryz.func40,Tryz.ntmps40;go_wp2_with fail;clear c0 c1 c2 c3 c4 hlt d0 d1 d2 hlt2
 go_loopw [16] (fun i wr=>Hi W B qb rb r z (.slice sa z.s.fams.length sc) (fun f=>decide (f.id=id)) i wr) (fun i _=>z.s.fams.length - (intOf i).toNat)
 case atStart=>exact⟨0,Nat.zero_le _,rfl,Below.refl _ _,H.out,fun j f hj=>absurd hj (Nat.not_lt_zero _)⟩
 case round=>
  obtain⟨j,hj,rfl,hb,hs,hno⟩:=hrel;have HB:=zH hb;have HS:=zH hs;have HNO:=zH hno;clear hb hs hno H
  by_cases hlt:j<z.s.fams.length
  ·obtain⟨g,rfl,_,ra⟩:=HS.out.rr.lit hlt
   obtain⟨f,hf⟩: ∃ f,z.s.fams[j]?=some f:=⟨_,List.getElem?_eq_getElem hlt⟩;have HF:=zH hf;have hfb:=hfit.fams f (List.mem_of_getElem? hf);have hsh:(eS f).short 5000:=dP hfb;have h0:(0:Int)≤(j:Int):=by omega
   have h1:(j:Int)<(z.s.fams.length:Int):=by omega
   by_cases hid:f.id=id
   ·have hfd:dR z.s.fams id=some f:=kN HNO.out hf (decide_eq_true hid)
    rcases hd:f.dead with _|_
    ·have hp:eF z.s id=.put (aW (eS f)) () 0:=by unfold eF;rw[hfd];simp[hd]
     have HP:=zH hp;have HP2:=zH (fun w (h:RV B qb rb r z (.slice (some ⟨g,0,none⟩) z.s.fams.length sc) w)=>HPT.out w _ (eS f) hsh h);generalize hQ:aV z (aW (eS f))=Q at*;have HQ:=zH hQ;generalize aW (eS f)=FE at*;unfold aO eS at HP2;obtain⟨i,cl,su,scp,ge,ma,us,re,de⟩:=f;unfold af at HP2;obtain⟨e0,e1,e2,e3,e4,e5,e6,e7,e8⟩:=ra.nine hf;dsimp only at hid hd HP2;subst hd;subst hid;clear hp hfd hf hfb hsh hQ ra HPT;have hal:=(Below.refl wr.heap.size wr).alloc (Nat.le_refl _) (.cells #[.int .i64 i,.string cl,.string su,.string scp,.int .i64 ge,.int .i64 ma,.int .i64 us,.string re,.bool true] 95);have H2:=zH (HS.out.keep hal);have HB2:=zH (ae HB.out hal);clear hal;go_wp2_with fail;go_at_call 85;refine(HP2.out _ H2.out).mono ?_;rintro e w3 ⟨rfl,hg,v3,h3⟩;have H3:=zH h3;have HG3:=zH (aU (aG HB2.out _) hg);clear hg h3;go_wp2_with fail;go_ret;rw[HP.out,←HQ.out];exact ig.put HG3.out (by rw[HQ.out];exact H3.out)
    ·have hp:eF z.s id=.say () 6:=by unfold eF;rw[hfd];simp[hd]
     have HP:=zH hp;obtain⟨i,cl,su,scp,ge,ma,us,re,de⟩:=f;obtain⟨e0,e1,e2,e3,e4,e5,e6,e7,e8⟩:=ra.nine hf;dsimp only at hid hd;subst hd;subst hid;have hal:=(Below.refl wr.heap.size wr).alloc (Nat.le_refl _) (.cells #[.int .i64 i,.string cl,.string su,.string scp,.int .i64 ge,.int .i64 ma,.int .i64 us,.string re,.bool true] 95);have H2:=zH (HS.out.keep hal);have HB2:=zH (ae HB.out hal);clear hp hfd hf hfb hsh ra HPT hal;go_wp2_with fail;go_ret;rw[HP.out];exact ig.say H2.out HB2.out
   ·obtain⟨i,cl,su,scp,ge,ma,us,re,de⟩:=f
    obtain⟨e0,e1,e2,e3,e4,e5,e6,e7,e8⟩:=ra.nine hf;dsimp only at hid;have HID:=zH hid;have hal:=(Below.refl wr.heap.size wr).alloc (Nat.le_refl _) (.cells #[.int .i64 i,.string cl,.string su,.string scp,.int .i64 ge,.int .i64 ma,.int .i64 us,.string re,.bool de] 95);have H2:=zH (HS.out.keep hal);have HB2:=zH (ae HB.out hal);clear hf hfb hsh ra HPT hal;go_wp2_with fail;go_roundw
    case rel=>exact⟨j+1,by omega,by go_num,HB2.out,H2.out,fun m f hm hf=>by
     by_cases e:m=j
     ·subst e
      rw[HF.out]at hf;cases hf;exact decide_eq_false HID.out
     ·exact HNO.out m f oM hf⟩
    case measure=>simp[intOf];omega
  ·have hkn:j=z.s.fams.length:=by omega
   have hp:eF z.s id=.say () 7:=by
    unfold eF;rw[show dR z.s.fams id=none from iq (fun m f hm hf=>HNO.out m f oM hf)]
   have HP:=zH hp;clear hp;go_wp2_with fail;go_ret;rw[HP.out];exact ig.say HS.out HB.out
end
section
variable {W:World} {B qb rb:Nat} {r:Ru} {z:SS} {v:Value}
theorem AU (h:RV B qb rb r z v W) (hz:RZ r z):
  Calls prog 44 #[.pointer (some ⟨qb,0,none⟩)] W (gL W B qb rb r z (bW r z.s)):=by
 have hfit:=hz.fit;have hlen:=hfit.len;have HOLD:=zH (fun w v f (hf:gy f=true) (h:RV B qb rb r z v w)=>AH h hz.ru f hf);have HA:Hid (∀ w v id,RV B qb rb r z v w→Calls prog 91 #[.pointer (some ⟨rb,0,none⟩),aE (eG id)] w (kH w B rb (aV z (eG id)))):=zH fun w v id h=>sA B rb z v _ w h.ra h.rr h.big hfit (by show an.zero.short 5000;unfold an.short an.zero;dsimp only;refine⟨by decide,by decide,by decide,by decide⟩) hz.lg
 obtain⟨sa,sc,rfl⟩:=h.rr.slice;obtain⟨c0,c1,c2,c3,c4,hlt⟩:=h.five;obtain⟨d0,d1,d2,hlt2⟩:=h.three;have H:=zH h;clear h;go_enter Tryz.func44,Tryz.ntmps44;go_wp2_with fail;clear c0 c1 c2 c3 c4 hlt d0 d1 d2 hlt2
 go_loopw [16] (fun i wr=>Hi W B qb rb r z (.slice sa z.s.fams.length sc) (fun f=>f.dead || kZ r z.s.clock f) i wr) (fun i _=>z.s.fams.length - (intOf i).toNat)
 case atStart=>exact⟨0,Nat.zero_le _,rfl,Below.refl _ _,H.out,fun j f hj=>absurd hj (Nat.not_lt_zero _)⟩
 case round=>
  obtain⟨j,hj,rfl,hb,hs,hno⟩:=hrel;have HB:=zH hb;have HS:=zH hs;have HNO:=zH hno;clear hb hs hno H
  by_cases hlt:j<z.s.fams.length
  ·obtain⟨g,rfl,_,ra⟩:=HS.out.rr.lit hlt
   obtain⟨f,hf⟩: ∃ f,z.s.fams[j]?=some f:=⟨_,List.getElem?_eq_getElem hlt⟩;have HF:=zH hf;have hfb:=hfit.fams f (List.mem_of_getElem? hf);have HO:=zH (fun w (h:RV B qb rb r z (.slice (some ⟨g,0,none⟩) z.s.fams.length sc) w)=>HOLD.out w _ f hfb h);have h0:(0:Int)≤(j:Int):=by omega
   have h1:(j:Int)<(z.s.fams.length:Int):=by omega
   have HAA:Hid (∀ w,RV B qb rb r z (.slice (some ⟨g,0,none⟩) z.s.fams.length sc) w→Calls prog 91 #[.pointer (some ⟨rb,0,none⟩),.agg #[.int .i64 2,.int .i64 0,.string ⟨#[]⟩,.string ⟨#[]⟩,.string ⟨#[]⟩,.int .i64 0,.int .i64 0,.int .i64 0,.string ⟨#[]⟩,.bool false,.int .i64 f.id,.int .i64 0]] w (kH w B rb (aV z (eG f.id)))):=zH fun w h=>HA.out w _ f.id h
   obtain⟨i,cl,su,scp,ge,ma,us,re,de⟩:=f;unfold aO af at HO;obtain⟨e0,e1,e2,e3,e4,e5,e6,e7,e8⟩:=ra.nine hf;have hal:=(Below.refl wr.heap.size wr).alloc (Nat.le_refl _) (.cells #[.int .i64 i,.string cl,.string su,.string scp,.int .i64 ge,.int .i64 ma,.int .i64 us,.string re,.bool de] 95);have H2:=zH (HS.out.keep hal);have HB2:=zH (ae HB.out hal);have HG2:=zH (aj.new wr 95 #[.int .i64 i,.string cl,.string su,.string scp,.int .i64 ge,.int .i64 ma,.int .i64 us,.string re,.bool de]);dsimp only at HO HAA;clear hal hf hfb ra;cases de
   ·generalize hob:kZ r z.s.clock ⟨i,cl,su,scp,ge,ma,us,re,false⟩=ob at*
    have HOB:=zH hob;clear hob;go_wp2_with fail;generalize wr.alloc (.cells #[.int .i64 i,.string cl,.string su,.string scp,.int .i64 ge,.int .i64 ma,.int .i64 us,.string re,.bool false] 95)=w2 at*;generalize wr.heap.size=fb at*;clear e0 e1 e2 e3 e4 e5 e6 e7 e8;go_at_call 92;refine(HO.out _ H2.out).mono ?_;rintro e w3 ⟨rfl,hb3⟩;have H3:=zH (H2.out.keep hb3);have HG3:=zH (HG2.out.below' hb3);have HB3:=zH (ae HB2.out hb3);clear hb3 H2 HG2 HB2;cases ob
    ·go_wp2_with fail
     go_roundw
     case rel=>exact⟨j+1,by omega,by go_num,HB3.out,H3.out,fun m f hm hf=>by
      by_cases e:m=j
      ·subst e
       rw[HF.out]at hf;cases hf
       show(false || kZ r z.s.clock _)=false
       rw[HOB.out];rfl
      ·exact HNO.out m f oM hf⟩
     case measure=>simp[intOf];omega
    ·have hp:bW r z.s=.put (eG i) i 0:=by
      unfold bW ku;rw[kN HNO.out HF.out (by show(false || kZ r z.s.clock _)=true;rw[HOB.out];rfl)]
     have HP:=zH hp;clear hp HNO HF;obtain⟨d0,d1,d2,d3,d4,d5,d6,d7,d8⟩:=aA HG3.out;go_wp2_with fail;clear d0 d1 d2 d3 d4 d5 d6 d7 d8;generalize hQ:aV z (eG i)=Q at*;have HQ:=zH hQ;clear hQ;have HSD:=H3.out.drew;have HGD:aj w3.drew fb 95 #[.int .i64 i,.string cl,.string su,.string scp,.int .i64 ge,.int .i64 ma,.int .i64 us,.string re,.bool false]:=HG3.out;have HBD:=zH (au HB3.out);have HD:w3.drew.cell? ⟨qb,0,none⟩=some (.pointer (some ⟨rb,0,none⟩))∧w3.drew.cell? ⟨fb,0,none⟩=some (.int .i64 i):=⟨HSD.five.1,HGD.cell 0⟩
     go_region_held3 (fun w'=>w'.cell? ⟨qb,0,none⟩=some (.pointer (some ⟨rb,0,none⟩))∧w'.cell? ⟨fb,0,none⟩=some (.int .i64 i))
      (first
       |with_reducible assumption
       |with_reducible exact HD)
      (first
       |(go_at_call 91;(with_reducible refine(HAA.out _ HSD).mono ?_);rintro x' w6 ⟨rfl,hg,v6,ha,hr⟩
         have hs6:=HSD.turn hg ha hr;have hk:=HGD.grown hg (by simpa using HGD.ne_ HSD.ra dC);have hx6:w6.cell? ⟨qb,0,none⟩=some (.pointer (some ⟨rb,0,none⟩))∧w6.cell? ⟨fb,0,none⟩=some (.int .i64 i):=⟨hs6.five.1,hk.cell 0⟩))
     have H6:=zH hs6;have HT6:=zH (aU (aG HBD.out _) hg);have HK6:=zH hk;clear hg ha hr hs6 hk hx6 HD HSD HGD HBD
     by_cases hq:Q.2=0
     ·have e0:(.int .i64 Q.2:Value)=.int .i64 0:=by rw[hq]
      rw[e0];have HQ0:=zH hq;obtain⟨d0,d1,d2,d3,d4,d5,d6,d7,d8⟩:=aA HK6.out;clear e0 hq;go_wp2_with fail;go_ret2;rw[HP.out];exact gL.good (by rw[HQ.out];exact HQ0.out) HT6.out (by rw[HQ.out];exact H6.out)
     ·have HQ0:=zH hq
      go_wp2_with fail;go_ret2;rw[HP.out,←HQ.out];exact gL.bad (by rw[HQ.out];exact HQ0.out) HT6.out (by rw[HQ.out];exact H6.out)
   ·have hp:bW r z.s=.put (eG i) i 0:=by
     unfold bW ku;rw[kN HNO.out HF.out rfl]
    have HP:=zH hp;clear hp HNO HF HO HOLD;go_wp2_with fail;generalize wr.alloc (.cells #[.int .i64 i,.string cl,.string su,.string scp,.int .i64 ge,.int .i64 ma,.int .i64 us,.string re,.bool true] 95)=w2 at*;generalize wr.heap.size=fb at*;clear e0 e1 e2 e3 e4 e5 e6 e7 e8;generalize hQ:aV z (eG i)=Q at*;have HQ:=zH hQ;clear hQ;have HSD:=H2.out.drew;have HGD:aj w2.drew fb 95 #[.int .i64 i,.string cl,.string su,.string scp,.int .i64 ge,.int .i64 ma,.int .i64 us,.string re,.bool true]:=HG2.out;have HBD:=zH (au HB2.out);have HD:w2.drew.cell? ⟨qb,0,none⟩=some (.pointer (some ⟨rb,0,none⟩))∧w2.drew.cell? ⟨fb,0,none⟩=some (.int .i64 i):=⟨HSD.five.1,HGD.cell 0⟩
    go_region_held3 (fun w'=>w'.cell? ⟨qb,0,none⟩=some (.pointer (some ⟨rb,0,none⟩))∧w'.cell? ⟨fb,0,none⟩=some (.int .i64 i))
     (first
      |with_reducible assumption
      |with_reducible exact HD)
     (first
      |(go_at_call 91;(with_reducible refine(HAA.out _ HSD).mono ?_);rintro x' w6 ⟨rfl,hg,v6,ha,hr⟩
        have hs6:=HSD.turn hg ha hr;have hk:=HGD.grown hg (by simpa using HGD.ne_ HSD.ra dC);have hx6:w6.cell? ⟨qb,0,none⟩=some (.pointer (some ⟨rb,0,none⟩))∧w6.cell? ⟨fb,0,none⟩=some (.int .i64 i):=⟨hs6.five.1,hk.cell 0⟩))
    have H6:=zH hs6;have HT6:=zH (aU (aG HBD.out _) hg);have HK6:=zH hk;clear hg ha hr hs6 hk hx6 HD HSD HGD HBD
    by_cases hq:Q.2=0
    ·have e0:(.int .i64 Q.2:Value)=.int .i64 0:=by rw[hq]
     rw[e0];have HQ0:=zH hq;obtain⟨d0,d1,d2,d3,d4,d5,d6,d7,d8⟩:=aA HK6.out;clear e0 hq;go_wp2_with fail;go_ret2;rw[HP.out];exact gL.good (by rw[HQ.out];exact HQ0.out) HT6.out (by rw[HQ.out];exact H6.out)
    ·have HQ0:=zH hq
     go_wp2_with fail;go_ret2;rw[HP.out,←HQ.out];exact gL.bad (by rw[HQ.out];exact HQ0.out) HT6.out (by rw[HQ.out];exact H6.out)
  ·have hkn:j=z.s.fams.length:=by omega
   have hp:bW r z.s=.say 0 8:=by
    unfold bW ku;rw[iq (fun m f hm hf=>HNO.out m f oM hf)]
   have HP:=zH hp;clear hp;go_wp2_with fail;go_ret2;rw[HP.out];exact gL.say HS.out HB.out
end
def ip (s:St) (q:Int×Int×Int×Int×Int) (kind:Int):an:=if q.1≠0 then an.zero else if q.2.1≠kind then an.zero else(dR s.fams q.2.2.1).getD an.zero
def lC (r:Ru) (s:St) (q:Int×Int×Int×Int×Int) (kind:Int) (W:World) (e:Ending) (w':World):Prop:=
 e=.returned (.tuple #[v4 q.2.1 q.2.2.1 q.2.2.2.1 q.2.2.2.2,aO (ip s q kind),.int .i64 (co r s q kind)])∧Below W.heap.size W w'
theorem iX {r:Ru} {s:St} {q:Int×Int×Int×Int×Int} {kind:Int} {W w:World} {A:Act} {a b c d e:Int} {f:an} (hb:Below W.heap.size W w) (ht:aj w W.heap.size 109 #[.int .i64 a,.int .i64 b,.int .i64 c,.int .i64 d]) (hf:aj w (W.heap.size+1) 95 (af f))
  (hp:A.tmps.getD 6 undef=.pointer (some ⟨W.heap.size,0,none⟩)) (hq:A.tmps.getD 7 undef=.pointer (some ⟨W.heap.size+1,0,none⟩)) (hx:A.tmps.getD 8 undef=.int .i64 e) (hd:A.defers=[]) (h1:q.2=(a,b,c,d)) (h2:f=ip s q kind) (h3:e=co r s q kind):
  bodyPost prog Tryz.f87 (lC r s q kind W) Exit.ret A w:=by
 refine bodyPost_ret (kp rfl A.tmps w _ _ _ _ _ _ _ _ _ hp hq hx ht hf underlying109 rfl kR underlying95 rfl kR) hd ⟨?_,hb⟩;rw[h1,←h2,←h3];rfl
def I4 (W:World) (B qb rb tb:Nat) (r:Ru) (z:SS) (v:Value) (qk qf qg qd:Int) (i:Value) (w:World):Prop:=
 ∃ j:Nat,j≤z.s.fams.length∧i=.int .i64 j∧Below W.heap.size W w∧RV B qb rb r z v w∧aj w W.heap.size 109 #[.int .i64 0,.int .i64 0,.int .i64 0,.int .i64 0]∧aj w (W.heap.size+1) 95 (af an.zero)∧aj w tb 109 #[.int .i64 qk,.int .i64 qf,.int .i64 qg,.int .i64 qd]∧ ∀ m f,m<j→z.s.fams[m]?=some f→decide (f.id=qf)=false
section
variable {W:World} {B qb rb:Nat} {r:Ru} {z:SS} {v:Value}
theorem oR (h:RV B qb rb r z v W) (hz:RZ r z) (t:ByteArray) (kind:Int) (ht:t.size≤5000):
  Calls prog 87 #[.pointer (some ⟨qb,0,none⟩),.string t,.int .i64 kind] W (lC r z.s (a8 r t) kind W):=by
 have HTR:Hid (∀ w v,RV B qb rb r z v w→Calls prog 141 #[.int .i64 r.key,.string t] w (fK w (a8 r t))):=zH fun w v h=>DF r.key t w ht h.env.maxl h.env.tens h.tab h.env.errs
 have hfit:=hz.fit;have hlen:=hfit.len;have HOLD:=zH (fun w v f (hf:gy f=true) (h:RV B qb rb r z v w)=>AH h hz.ru f hf);obtain⟨sa,sc,rfl⟩:=h.rr.slice;have H:=zH h;clear h;generalize a8 r t=q at*;obtain⟨qe,qk,qf,qg,qd⟩:=q;unfold fK v4 at HTR;dsimp only at HTR;have hal:=bZ W (.cells #[.int .i64 0,.int .i64 0,.int .i64 0,.int .i64 0] 109) (.cells (af an.zero) 95);have HAL:=zH hal;have H1:=zH (H.out.keep hal);have HT1:=zH ((aj.new W 109 #[.int .i64 0,.int .i64 0,.int .i64 0,.int .i64 0]).alloc (.cells (af an.zero) 95))
 have hf1:aj ((W.alloc (.cells #[.int .i64 0,.int .i64 0,.int .i64 0,.int .i64 0] 109)).alloc (.cells (af an.zero) 95)) (W.heap.size+1) 95 (af an.zero):=by
  have:=aj.new (W.alloc (.cells #[.int .i64 0,.int .i64 0,.int .i64 0,.int .i64 0] 109)) 95 (af an.zero);rw[show(W.alloc (.cells #[.int .i64 0,.int .i64 0,.int .i64 0,.int .i64 0] 109)).heap.size=W.heap.size+1 by simp]at this;exact this
 have HF1:=zH hf1;clear hal hf1 H;unfold af an.zero at HAL H1 HT1 HF1;dsimp only at HAL H1 HT1 HF1;obtain⟨c0,c1,c2,c3,c4,hlt⟩:=H1.out.five;go_enter Tryz.func87,Tryz.ntmps87;go_wp2_with fail;go_at_call 141;refine(HTR.out _ _ H1.out).mono ?_;rintro e w1 ⟨rfl,hb⟩;have HB1:=zH (ae HAL.out hb);have H2:=zH (H1.out.keep hb);have HT2:=zH (HT1.out.below' hb);have HF2:=zH (HF1.out.below' hb);clear hb H1 HT1 HF1 HAL c0 c1 c2 c3 c4 hlt HTR;have hal:=(Below.refl w1.heap.size w1).alloc (Nat.le_refl _) (.cells #[.int .i64 qk,.int .i64 qf,.int .i64 qg,.int .i64 qd] 109);have H3:=zH (H2.out.keep hal);have HT3:=zH (HT2.out.below' hal);have HF3:=zH (HF2.out.below' hal);have HB3:=zH (ae HB1.out hal);have HV3:=zH (aj.new w1 109 #[.int .i64 qk,.int .i64 qf,.int .i64 qg,.int .i64 qd]);have hF2l:=HF2.out.lt;clear hal H2 HT2 HF2 HB1;have hz0:=HT3.out.frozen;have hz1:=HF3.out.frozen;obtain⟨v0,v1,v2,v3⟩:=aN HV3.out;obtain⟨t0,t1,t2,t3⟩:=aN HT3.out;obtain⟨z0,z1,z2,z3,z4,z5,z6,z7,z8⟩:=aA (i:=0) (cl:=⟨#[]⟩) (su:=⟨#[]⟩) (sc:=⟨#[]⟩) (ge:=0) (ma:=0) (us:=0) (re:=⟨#[]⟩) (de:=false) HF3.out
 by_cases hq:qe=0
 ·subst hq
  by_cases hk:qk=kind
  ·have hk':(qk != kind)=false:=by simpa using hk
   have HK:=zH hk;obtain⟨c0,c1,c2,c3,c4,hlt⟩:=H3.out.five;obtain⟨d0,d1,d2,hlt2⟩:=H3.out.three;clear hk;go_wp2_with fail;clear v0 v1 v2 v3 t0 t1 t2 t3 z0 z1 z2 z3 z4 z5 z6 z7 z8 hz0 hz1 c0 c1 c2 c3 c4 d0 d1 d2 hlt hlt2;generalize w1.alloc (.cells #[.int .i64 qk,.int .i64 qf,.int .i64 qg,.int .i64 qd] 109)=w3 at*;have htb:W.heap.size+1<w1.heap.size:=hF2l;clear hF2l;generalize w1.heap.size=tb at*
   go_loopw [43] (fun i wr=>I4 W B qb rb tb r z (.slice sa z.s.fams.length sc) qk qf qg qd i wr) (fun i _=>z.s.fams.length - (intOf i).toNat)
   case atStart=>exact⟨0,Nat.zero_le _,rfl,HB3.out,H3.out,HT3.out,HF3.out,HV3.out,fun j f hj=>absurd hj (Nat.not_lt_zero _)⟩
   case round=>
    obtain⟨j,hj,rfl,hb,hs,hht,hhf,hhv,hno⟩:=hrel;have HB4:=zH hb;have HS4:=zH hs;have HT4:=zH hht;have HF4:=zH hhf;have HV4:=zH hhv;have HNO:=zH hno;clear hb hs hht hhf hhv hno H3 HT3 HF3 HB3 HV3
    by_cases hlt:j<z.s.fams.length
    ·obtain⟨g,rfl,_,ra⟩:=HS4.out.rr.lit hlt
     obtain⟨f,hf⟩: ∃ f,z.s.fams[j]?=some f:=⟨_,List.getElem?_eq_getElem hlt⟩;have HFF:=zH hf;have hfb:=hfit.fams f (List.mem_of_getElem? hf);have HO:=zH (fun w (h:RV B qb rb r z (.slice (some ⟨g,0,none⟩) z.s.fams.length sc) w)=>HOLD.out w _ f hfb h);have h0:(0:Int)≤(j:Int):=by omega
     have h1:(j:Int)<(z.s.fams.length:Int):=by omega
     obtain⟨i,cl,su,scp,ge,ma,us,re,de⟩:=f;unfold aO af at HO;obtain⟨e0,e1,e2,e3,e4,e5,e6,e7,e8⟩:=ra.nine hf;have hal:=(Below.refl wr.heap.size wr).alloc (Nat.le_refl _) (.cells #[.int .i64 i,.string cl,.string su,.string scp,.int .i64 ge,.int .i64 ma,.int .i64 us,.string re,.bool de] 95);have HS5:=zH (HS4.out.keep hal);have HT5:=zH (HT4.out.below' hal);have HF5:=zH (HF4.out.below' hal);have HV5:=zH (HV4.out.below' hal);have HB5:=zH (ae HB4.out hal);have HG5:=zH (aj.new wr 95 #[.int .i64 i,.string cl,.string su,.string scp,.int .i64 ge,.int .i64 ma,.int .i64 us,.string re,.bool de]);have hfl:W.heap.size+1<wr.heap.size:=HF4.out.lt;dsimp only at HO;obtain⟨v0,v1,v2,v3⟩:=aN HV5.out;clear hal hfb ra HS4 HT4 HF4 HV4 HB4
     by_cases hid:i=qf
     ·subst hid
      have HFD:=zH (show dR z.s.fams i=some ⟨i,cl,su,scp,ge,ma,us,re,de⟩from kN HNO.out hf (decide_eq_true rfl));clear hf HNO HFF;cases de
      ·generalize hob:kZ r z.s.clock ⟨i,cl,su,scp,ge,ma,us,re,false⟩=ob at*
       have HOB:=zH hob;clear hob;go_wp2_with fail;generalize wr.alloc (.cells #[.int .i64 i,.string cl,.string su,.string scp,.int .i64 ge,.int .i64 ma,.int .i64 us,.string re,.bool false] 95)=w5 at*;generalize wr.heap.size=fb at*;clear e0 e1 e2 e3 e4 e5 e6 e7 e8 v0 v1 v2 v3;go_at_call 92;refine(HO.out _ HS5.out).mono ?_;rintro e w6 ⟨rfl,hb6⟩;have HT6:=zH (HT5.out.below' hb6);have HF6:=zH (HF5.out.below' hb6);have HV6:=zH (HV5.out.below' hb6);have HG6:=zH (HG5.out.below' hb6);have HB6:=zH (ae HB5.out hb6);clear hb6 HS5 HT5 HF5 HV5 HG5 HB5;cases ob
       ·have ntb0:tb≠W.heap.size:=by omega
        have ntb1:tb≠W.heap.size+1:=by omega
        have nfb0:fb≠W.heap.size:=by omega
        have nfb1:fb≠W.heap.size+1:=by omega
        have htz:=HT6.out.frozen;have hz:=HF6.out.frozen;obtain⟨v0,v1,v2,v3⟩:=aN HV6.out;obtain⟨g0,g1,g2,g3,g4,g5,g6,g7,g8⟩:=aA (i:=i) (cl:=cl) (su:=su) (sc:=scp) (ge:=ge) (ma:=ma) (us:=us) (re:=re) (de:=false) HG6.out;obtain⟨t0,t1,t2,t3⟩:=aN HT6.out;obtain⟨z0,z1,z2,z3,z4,z5,z6,z7,z8⟩:=aA (i:=0) (cl:=⟨#[]⟩) (su:=⟨#[]⟩) (sc:=⟨#[]⟩) (ge:=0) (ma:=0) (us:=0) (re:=⟨#[]⟩) (de:=false) HF6.out;go_wp2_with fail
        go_region
        go_wp2_with fail;obtain⟨_,rfl,n1,n2,n3⟩:=bC (f0:=an.zero) HT6.out HF6.out oM qk i qg qd ⟨i,cl,su,scp,ge,ma,us,re,false⟩;exact iX (q:=(0,qk,i,qg,qd)) (f:=⟨i,cl,su,scp,ge,ma,us,re,false⟩) (au (n3 HB6.out (Nat.le_refl _) (Nat.le_succ _) HB6.out.size)) n1.drew n2.drew rfl rfl rfl rfl rfl (by unfold ip;rw[if_neg (show ¬ (0:Int)≠0 by decide),if_neg (by rw[HK.out];exact fun h=>h rfl)];show _=(dR z.s.fams i).getD an.zero;rw[HFD.out];rfl) (by unfold co;rw[if_neg (show ¬ (0:Int)≠0 by decide),if_neg (by rw[HK.out];exact fun h=>h rfl)];dsimp only;rw[HFD.out];simp[HOB.out])
       ·have ntb0:tb≠W.heap.size:=by omega
        have ntb1:tb≠W.heap.size+1:=by omega
        have nfb0:fb≠W.heap.size:=by omega
        have nfb1:fb≠W.heap.size+1:=by omega
        have htz:=HT6.out.frozen;have hz:=HF6.out.frozen;obtain⟨v0,v1,v2,v3⟩:=aN HV6.out;obtain⟨g0,g1,g2,g3,g4,g5,g6,g7,g8⟩:=aA (i:=i) (cl:=cl) (su:=su) (sc:=scp) (ge:=ge) (ma:=ma) (us:=us) (re:=re) (de:=false) HG6.out;obtain⟨t0,t1,t2,t3⟩:=aN HT6.out;obtain⟨z0,z1,z2,z3,z4,z5,z6,z7,z8⟩:=aA (i:=0) (cl:=⟨#[]⟩) (su:=⟨#[]⟩) (sc:=⟨#[]⟩) (ge:=0) (ma:=0) (us:=0) (re:=⟨#[]⟩) (de:=false) HF6.out;go_wp2_with fail
        go_region
        go_wp2_with fail;obtain⟨_,rfl,n1,n2,n3⟩:=bC (f0:=an.zero) HT6.out HF6.out oM qk i qg qd ⟨i,cl,su,scp,ge,ma,us,re,false⟩;exact iX (q:=(0,qk,i,qg,qd)) (f:=⟨i,cl,su,scp,ge,ma,us,re,false⟩) (au (n3 HB6.out (Nat.le_refl _) (Nat.le_succ _) HB6.out.size)) n1.drew n2.drew rfl rfl rfl rfl rfl (by unfold ip;rw[if_neg (show ¬ (0:Int)≠0 by decide),if_neg (by rw[HK.out];exact fun h=>h rfl)];show _=(dR z.s.fams i).getD an.zero;rw[HFD.out];rfl) (by unfold co;rw[if_neg (show ¬ (0:Int)≠0 by decide),if_neg (by rw[HK.out];exact fun h=>h rfl)];dsimp only;rw[HFD.out];simp[HOB.out])
      ·go_wp2_with fail
       generalize wr.alloc (.cells #[.int .i64 i,.string cl,.string su,.string scp,.int .i64 ge,.int .i64 ma,.int .i64 us,.string re,.bool true] 95)=w5 at*;generalize wr.heap.size=fb at*;clear e0 e1 e2 e3 e4 e5 e6 e7 e8 v0 v1 v2 v3 HS5 HO HOLD;have ntb0:tb≠W.heap.size:=by omega
       have ntb1:tb≠W.heap.size+1:=by omega
       have nfb0:fb≠W.heap.size:=by omega
       have nfb1:fb≠W.heap.size+1:=by omega
       have htz:=HT5.out.frozen;have hz:=HF5.out.frozen;obtain⟨v0,v1,v2,v3⟩:=aN HV5.out;obtain⟨g0,g1,g2,g3,g4,g5,g6,g7,g8⟩:=aA (i:=i) (cl:=cl) (su:=su) (sc:=scp) (ge:=ge) (ma:=ma) (us:=us) (re:=re) (de:=true) HG5.out;obtain⟨t0,t1,t2,t3⟩:=aN HT5.out;obtain⟨z0,z1,z2,z3,z4,z5,z6,z7,z8⟩:=aA (i:=0) (cl:=⟨#[]⟩) (su:=⟨#[]⟩) (sc:=⟨#[]⟩) (ge:=0) (ma:=0) (us:=0) (re:=⟨#[]⟩) (de:=false) HF5.out;go_wp2_with fail
       go_region
       go_wp2_with fail;obtain⟨_,rfl,n1,n2,n3⟩:=bC (f0:=an.zero) HT5.out HF5.out oM qk i qg qd ⟨i,cl,su,scp,ge,ma,us,re,true⟩;exact iX (q:=(0,qk,i,qg,qd)) (f:=⟨i,cl,su,scp,ge,ma,us,re,true⟩) (au (n3 HB5.out (Nat.le_refl _) (Nat.le_succ _) HB5.out.size)) n1.drew n2.drew rfl rfl rfl rfl rfl (by unfold ip;rw[if_neg (show ¬ (0:Int)≠0 by decide),if_neg (by rw[HK.out];exact fun h=>h rfl)];show _=(dR z.s.fams i).getD an.zero;rw[HFD.out];rfl) (by unfold co;rw[if_neg (show ¬ (0:Int)≠0 by decide),if_neg (by rw[HK.out];exact fun h=>h rfl)];dsimp only;rw[HFD.out];simp)
     ·have HID:=zH hid
      clear hf;go_wp2_with fail;go_roundw
      case rel=>exact⟨j+1,by omega,by go_num,HB5.out,HS5.out,HT5.out,HF5.out,HV5.out,fun m f hm hf=>by
       by_cases e:m=j
       ·subst e
        rw[HFF.out]at hf;cases hf;exact decide_eq_false HID.out
       ·exact HNO.out m f oM hf⟩
      case measure=>simp[intOf];omega
    ·have hkn:j=z.s.fams.length:=by omega
     have HFD:=zH (show dR z.s.fams qf=none from iq (fun m f hm hf=>HNO.out m f oM hf));have htz:=HT4.out.frozen;have hz:=HF4.out.frozen;have hfl:W.heap.size+1<wr.heap.size:=HF4.out.lt;obtain⟨v0,v1,v2,v3⟩:=aN HV4.out;obtain⟨t0,t1,t2,t3⟩:=aN HT4.out;obtain⟨z0,z1,z2,z3,z4,z5,z6,z7,z8⟩:=aA (i:=0) (cl:=⟨#[]⟩) (su:=⟨#[]⟩) (sc:=⟨#[]⟩) (ge:=0) (ma:=0) (us:=0) (re:=⟨#[]⟩) (de:=false) HF4.out;go_wp2_with fail;obtain⟨_,rfl,n1,n2,n3⟩:=bC (f0:=an.zero) HT4.out HF4.out oM qk qf qg qd an.zero;exact iX (q:=(0,qk,qf,qg,qd)) (n3 HB4.out (Nat.le_refl _) (Nat.le_succ _) HB4.out.size) n1 n2 rfl rfl rfl rfl rfl (by unfold ip;rw[if_neg (show ¬ (0:Int)≠0 by decide),if_neg (by rw[HK.out];exact fun h=>h rfl)];show _=(dR z.s.fams qf).getD an.zero;rw[HFD.out];rfl) (by unfold co;rw[if_neg (show ¬ (0:Int)≠0 by decide),if_neg (by rw[HK.out];exact fun h=>h rfl)];dsimp only;rw[HFD.out])
  ·have hk':(qk != kind)=true:=by simpa using hk
   go_wp2_with fail;obtain⟨_,rfl,n1,n2,n3⟩:=bC (f0:=an.zero) HT3.out HF3.out oM qk qf qg qd an.zero;exact iX (q:=(0,qk,qf,qg,qd)) (n3 HB3.out (Nat.le_refl _) (Nat.le_succ _) HB3.out.size) n1 n2 rfl rfl rfl rfl rfl (by unfold ip;rw[if_neg (show ¬ (0:Int)≠0 by decide),if_pos hk]) (by unfold co;rw[if_neg (show ¬ (0:Int)≠0 by decide),if_pos hk])
 ·go_wp2_with fail
  obtain⟨_,rfl,n1,n2,n3⟩:=bC (f0:=an.zero) HT3.out HF3.out oM qk qf qg qd an.zero;exact iX (q:=(qe,qk,qf,qg,qd)) (n3 HB3.out (Nat.le_refl _) (Nat.le_succ _) HB3.out.size) n1 n2 rfl rfl rfl rfl rfl (by unfold ip;rw[if_pos hq]) (by unfold co;rw[if_pos hq])
end
end Go.Proofs.YtepjcdjpikbbjaaGreatDoor
