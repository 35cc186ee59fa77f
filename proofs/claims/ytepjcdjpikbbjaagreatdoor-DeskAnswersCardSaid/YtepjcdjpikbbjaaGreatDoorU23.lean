/-
  event.Read at a number that is dropped, at the time, at another text; and at all.
-/
import Derived.Test.YtepjcdjpikbbjaaGreatDoorU00
import Derived.Test.YtepjcdjpikbbjaaGreatDoorU16
import Derived.Test.YtepjcdjpikbbjaaGreatDoorU17
import Derived.Test.YtepjcdjpikbbjaaGreatDoorU05
set_option maxHeartbeats 8000000
set_option maxRecDepth 100000
namespace Go.Proofs.YtepjcdjpikbbjaaGreatDoor
open Go.Proofs.Tryz
open Go.RowKit Go.Sort
theorem Ig (s:ByteArray) (W:World) (hs:s.size≤5000) (h:WB W W) (he:bf W) (hp:bp (parts 32 s.data.toList,false)=[100]):
  Calls prog 106 #[.string s] W (jA W (gF (parts 32 s.data.toList,false)) (gz (parts 32 s.data.toList,false))):=by
 have HSP:=zH (kz s W hs h he);have hE:dB (parts 32 s.data.toList,false)=(⟨2,an.zero,jx (cz (parts 32 s.data.toList,false)),0⟩,br (cz (parts 32 s.data.toList,false))):=by unfold dB;rw[if_neg (by rw[hp];decide),if_pos hp]
 have HSH:=zH (jK (st:=(parts 32 s.data.toList,false)) (be 32 _ _ (by rw[aq];exact hs)));have HY:=zH (@oC (parts 32 s.data.toList,false));have HN:=zH (@qs (parts 32 s.data.toList,false));rw[hE]at HY HN HSH;clear h he hE;generalize gF (parts 32 s.data.toList,false)=eR at*;generalize gz (parts 32 s.data.toList,false)=nR at*;have HP:Hid (ah (bp (parts 32 s.data.toList,false))=⟨#[100]⟩):=zH (by rw[hp];rfl);clear hp;generalize parts 32 s.data.toList=L at*;unfold ax Ev.zero an.zero at HSP;dsimp only at HSP;go_enter Tryz.func106,Tryz.ntmps106;go_wp2_with fail;go_at_call 13;refine HSP.out.mono ?_;rintro x w1 ⟨g,cap,rfl,h1⟩;have H:=zH h1;clear h1;go_wp2_with fail;generalize ((w1.alloc (.cells #[.slice (some ⟨g,0,none⟩) L.length cap,.bool false] 201)).alloc (.cells #[.int .i64 0,.int .i64 0,.string ⟨#[]⟩,.string ⟨#[]⟩,.string ⟨#[]⟩,.int .i64 0,.int .i64 0,.int .i64 0,.string ⟨#[]⟩,.bool false,.int .i64 0,.int .i64 0] 116))=w2 at*;have hre:w1.heap.size+1=w1.heap.size+1:=rfl;generalize w1.heap.size+1=eb at H hre ⊢;generalize w1.heap.size=rb at*;go_at_call 156;refine(kw H.out.rs).mono ?_;rintro x w3 ⟨rfl,hr,hg⟩;have H:=zH (H.out.turn hr hg);clear hr hg;rw[HP.out];generalize cz (L,false)=st at*;go_wp2_with fail;go_at_call 157;refine(o8 H.out.rs).mono ?_;rintro x w7 ⟨rfl,hr,hg⟩;have H:=zH (H.out.turn hr hg);clear hr hg;generalize jx st=v1 at*;generalize br st=s9 at*;obtain⟨ws9,b9⟩:=s9;dsimp only at HY HN HSH;have hlt:=H.out.n2;have hlt1:=H.out.n1;obtain⟨hc,hf,hrc,hrf⟩:=H.out.facts;obtain⟨A,cap2,k0,k1,k2⟩:=H.out.words;have c0:=hc 0;have f0:=hf 0;have r0:=hrc 0;have q0:=hrf 0;have c1:=hc 1;have f1:=hf 1;have r1:=hrc 1;have q1:=hrf 1;have c2:=hc 2;have f2:=hf 2;have r2:=hrc 2;have q2:=hrf 2;have c3:=hc 3;have f3:=hf 3;have r3:=hrc 3;have q3:=hrf 3;have c4:=hc 4;have f4:=hf 4;have r4:=hrc 4;have q4:=hrf 4;have c5:=hc 5;have f5:=hf 5;have r5:=hrc 5;have q5:=hrf 5;have c6:=hc 6;have f6:=hf 6;have r6:=hrc 6;have q6:=hrf 6;have c7:=hc 7;have f7:=hf 7;have r7:=hrc 7;have q7:=hrf 7;have c8:=hc 8;have f8:=hf 8;have r8:=hrc 8;have q8:=hrf 8;have c9:=hc 9;have f9:=hf 9;have r9:=hrc 9;have q9:=hrf 9;have c10:=hc 10;have f10:=hf 10;have r10:=hrc 10;have q10:=hrf 10;have c11:=hc 11;have f11:=hf 11;have r11:=hrc 11;have q11:=hrf 11;clear hc hf hrc hrf;unfold ax at c0 c1 c2 c3 c4 c5 c6 c7 c8 c9 c10 c11;unfold ax Ev.zero an.zero at r0 r1 r2 r3 r4 r5 r6 r7 r8 r9 r10 r11;dsimp only at c0 c1 c2 c3 c4 c5 c6 c7 c8 c9 c10 c11 r0 r1 r2 r3 r4 r5 r6 r7 r8 r9 r10 r11 k0 k1;cases b9
 ·by_cases hw:ws9.length=0
  ·have HRT:=zH (fun w (hm:dt w)=>jv ⟨2,an.zero,v1,0⟩ w HSH.out hm)
   have H8:=zH ((H.out.set 0 (.int .i64 2) (e':=⟨2,an.zero,0,0⟩) rfl).set 10 (.int .i64 v1) (e':=⟨2,an.zero,v1,0⟩) rfl);generalize hbe:dp ⟨2,an.zero,v1,0⟩=bE at*;unfold aE ax an.zero at HRT;dsimp only at HRT;clear hbe;go_wp2_with fail;generalize (w7.setCell ⟨eb,0,none⟩ (.int .i64 2)).setCell ⟨eb,10,none⟩ (.int .i64 v1)=w8 at*;go_at_call 159;refine(HRT.out _ H8.out.rs.wb.maxl).mono ?_;rintro x w9 ⟨rfl,hb⟩;have H:=zH (H8.out.keep hb);clear hb H8;clear c0 f0 r0 q0 c1 f1 r1 q1 c2 f2 r2 q2 c3 f3 r3 q3 c4 f4 r4 q4 c5 f5 r5 q5 c6 f6 r6 q6 c7 f7 r7 q7 c8 f8 r8 q8 c9 f9 r9 q9 c10 f10 r10 q10 c11 f11 r11 q11 k0 k1 k2;obtain⟨hc,hf,hrc,hrf⟩:=H.out.facts;obtain⟨A,cap2,k0,k1,k2⟩:=H.out.words;have c0:=hc 0;have f0:=hf 0;have r0:=hrc 0;have q0:=hrf 0;have c1:=hc 1;have f1:=hf 1;have r1:=hrc 1;have q1:=hrf 1;have c2:=hc 2;have f2:=hf 2;have r2:=hrc 2;have q2:=hrf 2;have c3:=hc 3;have f3:=hf 3;have r3:=hrc 3;have q3:=hrf 3;have c4:=hc 4;have f4:=hf 4;have r4:=hrc 4;have q4:=hrf 4;have c5:=hc 5;have f5:=hf 5;have r5:=hrc 5;have q5:=hrf 5;have c6:=hc 6;have f6:=hf 6;have r6:=hrc 6;have q6:=hrf 6;have c7:=hc 7;have f7:=hf 7;have r7:=hrc 7;have q7:=hrf 7;have c8:=hc 8;have f8:=hf 8;have r8:=hrc 8;have q8:=hrf 8;have c9:=hc 9;have f9:=hf 9;have r9:=hrc 9;have q9:=hrf 9;have c10:=hc 10;have f10:=hf 10;have r10:=hrc 10;have q10:=hrf 10;have c11:=hc 11;have f11:=hf 11;have r11:=hrc 11;have q11:=hrf 11;clear hc hf hrc hrf;unfold ax at c0 c1 c2 c3 c4 c5 c6 c7 c8 c9 c10 c11;unfold ax Ev.zero an.zero at r0 r1 r2 r3 r4 r5 r6 r7 r8 r9 r10 r11;dsimp only at c0 c1 c2 c3 c4 c5 c6 c7 c8 c9 c10 c11 r0 r1 r2 r3 r4 r5 r6 r7 r8 r9 r10 r11 k0 k1;unfold an.zero at c1 c2 c3 c4 c5 c6 c7 c8 c9;dsimp only at c1 c2 c3 c4 c5 c6 c7 c8 c9;cases bE
   ·obtain⟨rfl,rfl⟩:=HN.out (.inr (.inr rfl))
    go_wp2_with fail;exact cV (e:=Ev.zero) (bU (e':=Ev.zero) H.out.rs.below) (cv (e':=Ev.zero) H.out.res) rfl rfl rfl
   ·obtain⟨rfl,rfl⟩:=HY.out (by simp) hw rfl
    go_wp2_with fail;exact cV (e:=⟨2,an.zero,v1,0⟩) (bU (e':=⟨2,an.zero,v1,0⟩) H.out.rs.below) (cv (e':=⟨2,an.zero,v1,0⟩) H.out.res) rfl rfl rfl
  ·obtain⟨rfl,rfl⟩:=HN.out (.inr (.inl hw))
   have H8:=zH ((H.out.set 0 (.int .i64 2) (e':=⟨2,an.zero,0,0⟩) rfl).set 10 (.int .i64 v1) (e':=⟨2,an.zero,v1,0⟩) rfl);go_wp2_with fail;exact cV (e:=Ev.zero) (bU (e':=Ev.zero) H8.out.rs.below) (cv (e':=Ev.zero) H8.out.res) rfl rfl rfl
 ·obtain⟨rfl,rfl⟩:=HN.out (.inl (by simp))
  have H8:=zH ((H.out.set 0 (.int .i64 2) (e':=⟨2,an.zero,0,0⟩) rfl).set 10 (.int .i64 v1) (e':=⟨2,an.zero,v1,0⟩) rfl);go_wp2_with fail;exact cV (e:=Ev.zero) (bU (e':=Ev.zero) H8.out.rs.below) (cv (e':=Ev.zero) H8.out.res) rfl rfl rfl
theorem Iz (s:ByteArray) (W:World) (hs:s.size≤5000) (h:WB W W) (he:bf W) (hp:bp (parts 32 s.data.toList,false)=[99]):
  Calls prog 106 #[.string s] W (jA W (gF (parts 32 s.data.toList,false)) (gz (parts 32 s.data.toList,false))):=by
 have HSP:=zH (kz s W hs h he);have hE:dB (parts 32 s.data.toList,false)=(⟨3,an.zero,0,jx (cz (parts 32 s.data.toList,false))⟩,br (cz (parts 32 s.data.toList,false))):=by unfold dB;rw[if_neg (by rw[hp];decide),if_neg (by rw[hp];decide),if_pos hp]
 have HSH:=zH (jK (st:=(parts 32 s.data.toList,false)) (be 32 _ _ (by rw[aq];exact hs)));have HY:=zH (@oC (parts 32 s.data.toList,false));have HN:=zH (@qs (parts 32 s.data.toList,false));rw[hE]at HY HN HSH;clear h he hE;generalize gF (parts 32 s.data.toList,false)=eR at*;generalize gz (parts 32 s.data.toList,false)=nR at*;have HP:Hid (ah (bp (parts 32 s.data.toList,false))=⟨#[99]⟩):=zH (by rw[hp];rfl);clear hp;generalize parts 32 s.data.toList=L at*;unfold ax Ev.zero an.zero at HSP;dsimp only at HSP;go_enter Tryz.func106,Tryz.ntmps106;go_wp2_with fail;go_at_call 13;refine HSP.out.mono ?_;rintro x w1 ⟨g,cap,rfl,h1⟩;have H:=zH h1;clear h1;go_wp2_with fail;generalize ((w1.alloc (.cells #[.slice (some ⟨g,0,none⟩) L.length cap,.bool false] 201)).alloc (.cells #[.int .i64 0,.int .i64 0,.string ⟨#[]⟩,.string ⟨#[]⟩,.string ⟨#[]⟩,.int .i64 0,.int .i64 0,.int .i64 0,.string ⟨#[]⟩,.bool false,.int .i64 0,.int .i64 0] 116))=w2 at*;have hre:w1.heap.size+1=w1.heap.size+1:=rfl;generalize w1.heap.size+1=eb at H hre ⊢;generalize w1.heap.size=rb at*;go_at_call 156;refine(kw H.out.rs).mono ?_;rintro x w3 ⟨rfl,hr,hg⟩;have H:=zH (H.out.turn hr hg);clear hr hg;rw[HP.out];generalize cz (L,false)=st at*;go_wp2_with fail;go_at_call 157;refine(o8 H.out.rs).mono ?_;rintro x w7 ⟨rfl,hr,hg⟩;have H:=zH (H.out.turn hr hg);clear hr hg;generalize jx st=v1 at*;generalize br st=s9 at*;obtain⟨ws9,b9⟩:=s9;dsimp only at HY HN HSH;have hlt:=H.out.n2;have hlt1:=H.out.n1;obtain⟨hc,hf,hrc,hrf⟩:=H.out.facts;obtain⟨A,cap2,k0,k1,k2⟩:=H.out.words;have c0:=hc 0;have f0:=hf 0;have r0:=hrc 0;have q0:=hrf 0;have c1:=hc 1;have f1:=hf 1;have r1:=hrc 1;have q1:=hrf 1;have c2:=hc 2;have f2:=hf 2;have r2:=hrc 2;have q2:=hrf 2;have c3:=hc 3;have f3:=hf 3;have r3:=hrc 3;have q3:=hrf 3;have c4:=hc 4;have f4:=hf 4;have r4:=hrc 4;have q4:=hrf 4;have c5:=hc 5;have f5:=hf 5;have r5:=hrc 5;have q5:=hrf 5;have c6:=hc 6;have f6:=hf 6;have r6:=hrc 6;have q6:=hrf 6;have c7:=hc 7;have f7:=hf 7;have r7:=hrc 7;have q7:=hrf 7;have c8:=hc 8;have f8:=hf 8;have r8:=hrc 8;have q8:=hrf 8;have c9:=hc 9;have f9:=hf 9;have r9:=hrc 9;have q9:=hrf 9;have c10:=hc 10;have f10:=hf 10;have r10:=hrc 10;have q10:=hrf 10;have c11:=hc 11;have f11:=hf 11;have r11:=hrc 11;have q11:=hrf 11;clear hc hf hrc hrf;unfold ax at c0 c1 c2 c3 c4 c5 c6 c7 c8 c9 c10 c11;unfold ax Ev.zero an.zero at r0 r1 r2 r3 r4 r5 r6 r7 r8 r9 r10 r11;dsimp only at c0 c1 c2 c3 c4 c5 c6 c7 c8 c9 c10 c11 r0 r1 r2 r3 r4 r5 r6 r7 r8 r9 r10 r11 k0 k1;cases b9
 ·by_cases hw:ws9.length=0
  ·have HRT:=zH (fun w (hm:dt w)=>jv ⟨3,an.zero,0,v1⟩ w HSH.out hm)
   have H8:=zH ((H.out.set 0 (.int .i64 3) (e':=⟨3,an.zero,0,0⟩) rfl).set 11 (.int .i64 v1) (e':=⟨3,an.zero,0,v1⟩) rfl);generalize hbe:dp ⟨3,an.zero,0,v1⟩=bE at*;unfold aE ax an.zero at HRT;dsimp only at HRT;clear hbe;go_wp2_with fail;generalize (w7.setCell ⟨eb,0,none⟩ (.int .i64 3)).setCell ⟨eb,11,none⟩ (.int .i64 v1)=w8 at*;go_at_call 159;refine(HRT.out _ H8.out.rs.wb.maxl).mono ?_;rintro x w9 ⟨rfl,hb⟩;have H:=zH (H8.out.keep hb);clear hb H8;clear c0 f0 r0 q0 c1 f1 r1 q1 c2 f2 r2 q2 c3 f3 r3 q3 c4 f4 r4 q4 c5 f5 r5 q5 c6 f6 r6 q6 c7 f7 r7 q7 c8 f8 r8 q8 c9 f9 r9 q9 c10 f10 r10 q10 c11 f11 r11 q11 k0 k1 k2;obtain⟨hc,hf,hrc,hrf⟩:=H.out.facts;obtain⟨A,cap2,k0,k1,k2⟩:=H.out.words;have c0:=hc 0;have f0:=hf 0;have r0:=hrc 0;have q0:=hrf 0;have c1:=hc 1;have f1:=hf 1;have r1:=hrc 1;have q1:=hrf 1;have c2:=hc 2;have f2:=hf 2;have r2:=hrc 2;have q2:=hrf 2;have c3:=hc 3;have f3:=hf 3;have r3:=hrc 3;have q3:=hrf 3;have c4:=hc 4;have f4:=hf 4;have r4:=hrc 4;have q4:=hrf 4;have c5:=hc 5;have f5:=hf 5;have r5:=hrc 5;have q5:=hrf 5;have c6:=hc 6;have f6:=hf 6;have r6:=hrc 6;have q6:=hrf 6;have c7:=hc 7;have f7:=hf 7;have r7:=hrc 7;have q7:=hrf 7;have c8:=hc 8;have f8:=hf 8;have r8:=hrc 8;have q8:=hrf 8;have c9:=hc 9;have f9:=hf 9;have r9:=hrc 9;have q9:=hrf 9;have c10:=hc 10;have f10:=hf 10;have r10:=hrc 10;have q10:=hrf 10;have c11:=hc 11;have f11:=hf 11;have r11:=hrc 11;have q11:=hrf 11;clear hc hf hrc hrf;unfold ax at c0 c1 c2 c3 c4 c5 c6 c7 c8 c9 c10 c11;unfold ax Ev.zero an.zero at r0 r1 r2 r3 r4 r5 r6 r7 r8 r9 r10 r11;dsimp only at c0 c1 c2 c3 c4 c5 c6 c7 c8 c9 c10 c11 r0 r1 r2 r3 r4 r5 r6 r7 r8 r9 r10 r11 k0 k1;unfold an.zero at c1 c2 c3 c4 c5 c6 c7 c8 c9;dsimp only at c1 c2 c3 c4 c5 c6 c7 c8 c9;cases bE
   ·obtain⟨rfl,rfl⟩:=HN.out (.inr (.inr rfl))
    go_wp2_with fail;exact cV (e:=Ev.zero) (bU (e':=Ev.zero) H.out.rs.below) (cv (e':=Ev.zero) H.out.res) rfl rfl rfl
   ·obtain⟨rfl,rfl⟩:=HY.out (by simp) hw rfl
    go_wp2_with fail;exact cV (e:=⟨3,an.zero,0,v1⟩) (bU (e':=⟨3,an.zero,0,v1⟩) H.out.rs.below) (cv (e':=⟨3,an.zero,0,v1⟩) H.out.res) rfl rfl rfl
  ·obtain⟨rfl,rfl⟩:=HN.out (.inr (.inl hw))
   have H8:=zH ((H.out.set 0 (.int .i64 3) (e':=⟨3,an.zero,0,0⟩) rfl).set 11 (.int .i64 v1) (e':=⟨3,an.zero,0,v1⟩) rfl);go_wp2_with fail;exact cV (e:=Ev.zero) (bU (e':=Ev.zero) H8.out.rs.below) (cv (e':=Ev.zero) H8.out.res) rfl rfl rfl
 ·obtain⟨rfl,rfl⟩:=HN.out (.inl (by simp))
  have H8:=zH ((H.out.set 0 (.int .i64 3) (e':=⟨3,an.zero,0,0⟩) rfl).set 11 (.int .i64 v1) (e':=⟨3,an.zero,0,v1⟩) rfl);go_wp2_with fail;exact cV (e:=Ev.zero) (bU (e':=Ev.zero) H8.out.rs.below) (cv (e':=Ev.zero) H8.out.res) rfl rfl rfl
theorem Ht (s:ByteArray) (W:World) (hs:s.size≤5000) (h:WB W W) (he:bf W) (h1:bp (parts 32 s.data.toList,false)≠ [112]) (h2:bp (parts 32 s.data.toList,false)≠ [100]) (h3:bp (parts 32 s.data.toList,false)≠ [99]):
  Calls prog 106 #[.string s] W (jA W (gF (parts 32 s.data.toList,false)) (gz (parts 32 s.data.toList,false))):=by
 have HSP:=zH (kz s W hs h he);have hE:dB (parts 32 s.data.toList,false)=(Ev.zero,((cz (parts 32 s.data.toList,false)).1,true)):=by unfold dB;rw[if_neg h1,if_neg h2,if_neg h3]
 have HSH:=zH (jK (st:=(parts 32 s.data.toList,false)) (be 32 _ _ (by rw[aq];exact hs)));have HY:=zH (@oC (parts 32 s.data.toList,false));have HN:=zH (@qs (parts 32 s.data.toList,false));rw[hE]at HY HN HSH;clear h he hE;generalize gF (parts 32 s.data.toList,false)=eR at*;generalize gz (parts 32 s.data.toList,false)=nR at*;clear HSH HY;have e1:=sN (bp (parts 32 s.data.toList,false)) 112;have e2:=sN (bp (parts 32 s.data.toList,false)) 100;have e3:=sN (bp (parts 32 s.data.toList,false)) 99;rw[decide_eq_false h1]at e1;rw[decide_eq_false h2]at e2;rw[decide_eq_false h3]at e3;clear h1 h2 h3;generalize parts 32 s.data.toList=L at*;unfold ax Ev.zero an.zero at HSP;dsimp only at HSP;go_enter Tryz.func106,Tryz.ntmps106;go_wp2_with fail;go_at_call 13;refine HSP.out.mono ?_;rintro x w1 ⟨g,cap,rfl,h1⟩;have H:=zH h1;clear h1;go_wp2_with fail;generalize ((w1.alloc (.cells #[.slice (some ⟨g,0,none⟩) L.length cap,.bool false] 201)).alloc (.cells #[.int .i64 0,.int .i64 0,.string ⟨#[]⟩,.string ⟨#[]⟩,.string ⟨#[]⟩,.int .i64 0,.int .i64 0,.int .i64 0,.string ⟨#[]⟩,.bool false,.int .i64 0,.int .i64 0] 116))=w2 at*;have hre:w1.heap.size+1=w1.heap.size+1:=rfl;generalize w1.heap.size+1=eb at H hre ⊢;generalize w1.heap.size=rb at*;go_at_call 156;refine(kw H.out.rs).mono ?_;rintro x w3 ⟨rfl,hr,hg⟩;have H:=zH (H.out.turn hr hg);clear hr hg;generalize ah (bp (L,false))=y at*;generalize cz (L,false)=st at*;obtain⟨ws9,b9⟩:=st;have hlt:=H.out.n2;have hlt1:=H.out.n1;obtain⟨rfl,rfl⟩:=HN.out (.inl (by simp));have H8:=zH (H.out.setBad true);obtain⟨hc,hf,hrc,hrf⟩:=H.out.facts;obtain⟨A,cap2,k0,k1,k2⟩:=H.out.words;have c0:=hc 0;have f0:=hf 0;have r0:=hrc 0;have q0:=hrf 0;have c1:=hc 1;have f1:=hf 1;have r1:=hrc 1;have q1:=hrf 1;have c2:=hc 2;have f2:=hf 2;have r2:=hrc 2;have q2:=hrf 2;have c3:=hc 3;have f3:=hf 3;have r3:=hrc 3;have q3:=hrf 3;have c4:=hc 4;have f4:=hf 4;have r4:=hrc 4;have q4:=hrf 4;have c5:=hc 5;have f5:=hf 5;have r5:=hrc 5;have q5:=hrf 5;have c6:=hc 6;have f6:=hf 6;have r6:=hrc 6;have q6:=hrf 6;have c7:=hc 7;have f7:=hf 7;have r7:=hrc 7;have q7:=hrf 7;have c8:=hc 8;have f8:=hf 8;have r8:=hrc 8;have q8:=hrf 8;have c9:=hc 9;have f9:=hf 9;have r9:=hrc 9;have q9:=hrf 9;have c10:=hc 10;have f10:=hf 10;have r10:=hrc 10;have q10:=hrf 10;have c11:=hc 11;have f11:=hf 11;have r11:=hrc 11;have q11:=hrf 11;clear hc hf hrc hrf;unfold ax at c0 c1 c2 c3 c4 c5 c6 c7 c8 c9 c10 c11;unfold ax Ev.zero an.zero at r0 r1 r2 r3 r4 r5 r6 r7 r8 r9 r10 r11;dsimp only at c0 c1 c2 c3 c4 c5 c6 c7 c8 c9 c10 c11 r0 r1 r2 r3 r4 r5 r6 r7 r8 r9 r10 r11 k0 k1;go_wp2_with fail;exact cV (e:=Ev.zero) (bU (e':=Ev.zero) H8.out.rs.below) (cv (e':=Ev.zero) H8.out.res) rfl rfl rfl
theorem Ai (s:ByteArray) (W:World) (hs:s.size≤5000) (h:WB W W) (he:bf W):
  Calls prog 106 #[.string s] W (jA W (fX s.data.toList) (if gK s.data.toList then 0 else 3)):=by
 have hp:=Bv s.data.toList
 have e1:gF (parts 32 s.data.toList,false)=fX s.data.toList:=by
  unfold gF;rw[hp.1]
  by_cases hb:gK s.data.toList=true
  ·rw[if_pos hb,hp.2 hb]
  ·rw[if_neg hb]
   unfold fX;rw[if_neg hb]
 have e2:gz (parts 32 s.data.toList,false)=(if gK s.data.toList then 0 else 3):=by
  unfold gz;rw[hp.1]
 rw[←e1,←e2]
 by_cases h1:bp (parts 32 s.data.toList,false)=[112]
 ·exact IK s W hs h he h1
 ·by_cases h2:bp (parts 32 s.data.toList,false)=[100]
  ·exact Ig s W hs h he h2
  ·by_cases h3:bp (parts 32 s.data.toList,false)=[99]
   ·exact Iz s W hs h he h3
   ·exact Ht s W hs h he h1 h2 h3
def tZ (W:World) (o:Option Ev) (x:Ending) (w':World):Prop:=(∃ (e:Ev) (b:Bool),x=.returned (.tuple #[aE e,.bool b])∧(match o with|some ev=>e=ev∧b=true|none=>b=false))∧Below W.heap.size W w'
theorem ry {W w:World} {A:Act} {e:Ev} {b:Bool} {o:Option Ev} (hb:Below W.heap.size W w) (hr:aj w W.heap.size 116 (ax e)) (ho:match o with|some ev=>e=ev∧b=true|none=>b=false)
  (hp:A.tmps.getD 4 undef=.pointer (some ⟨W.heap.size,0,none⟩)) (hx:A.tmps.getD 5 undef=.bool b) (hd:A.defers=[]):
  bodyPost prog Tryz.f53 (tZ W o) Exit.ret A w:=
 bodyPost_ret (ei rfl A.tmps w _ _ _ _ _ hp hx hr underlying116 rfl kR) hd ⟨⟨e,b,rfl,ho⟩,hb⟩
structure SE (W:World) (B sb db:Nat) (D:Dk) (s:St) (v:Value) (n f x:Int) (down:Bool) (w:World):Prop where
 sd:SD B sb db D s v n f x down w
 res:aj w W.heap.size 116 (ax Ev.zero)
 below:Below W.heap.size W w
section
variable {W w w':World} {B sb db:Nat} {D:Dk} {s:St} {v:Value} {n f x:Int} {down:Bool}
theorem SE.keep (h:SE W B sb db D s v n f x down w) (hb:Below w.heap.size w w'):SE W B sb db D s v n f x down w':=⟨h.sd.keep hb,h.res.below' hb,ae h.below hb⟩
theorem SE.drew (h:SE W B sb db D s v n f x down w):SE W B sb db D s v n f x down w.drew:=⟨h.sd.drew,h.res,⟨h.below.os,h.below.tape,h.below.output,h.below.size,h.below.block⟩⟩
theorem SE.start (h:SD B sb db D s v n f x down W):SE W B sb db D s v n f x down (W.alloc (.cells (ax Ev.zero) 116)):=
 ⟨h.keep ((Below.refl _ _).alloc (Nat.le_refl _) _),aj.new W _ _,(Below.refl _ _).alloc (Nat.le_refl _) _⟩
end
theorem EK (l:List UInt8) (hl:l.length≤5000) (w:World) (hm:dt w):Calls prog 108 #[.string (ah l),.string ⟨#[32]⟩] w fun e w'=>e=.returned (.tuple #[.string (ah (dd l)),.string (ah (bY l)),.bool (decide (32∈l))])∧Below w.heap.size w w':=by
 obtain⟨m,hm⟩:=hm;refine(Tryz.strings_Cut (ah l) ⟨#[32]⟩ m w (by rw[bB];omega) hm).mono ?_;rintro e w' ⟨rfl,q,rfl⟩;refine⟨?_,aF (Below.refl _ _) q⟩;rw[ak];have:=F6 l;have e2:(⟨#[32]⟩:ByteArray).data.toList=[32]:=rfl;rw[e2,this];rfl
theorem Dd (l:List UInt8):(bY l).length≤l.length:=by
 unfold bY;rw[List.length_drop];have:=(List.dropWhile_sublist (p:=fun c:UInt8=>c != 32) (l:=l)).length_le;omega
theorem BD (B sb db:Nat) (D:Dk) (s:St) (v:Value) (n f x k:Int) (down:Bool) (W:World) (h:SD B sb db D s v n f x down W) (h0:0≤f) (h1:f≤1000000) (h2:0≤k) (h3:k≤1000000) (hk:16≤k - f):
  Calls prog 53 #[.pointer (some ⟨sb,0,none⟩),.int .i64 k] W (tZ W none):=by
 have H0:=zH (SE.start h);obtain⟨ck,nx,L⟩:=s;obtain⟨c0,c1,c2,c3,c4,c5,c6,c7,z,hlt⟩:=h.cells;clear h;unfold ax Ev.zero an.zero at H0;dsimp only at H0;go_enter Tryz.func53,Tryz.ntmps53;go_wp2_with fail;exact ry (e:=Ev.zero) (b:=false) H0.out.below H0.out.res rfl rfl rfl rfl
theorem yx (B sb db:Nat) (D:Dk) (s:St) (v:Value) (n f x k:Int) (down:Bool) (W:World) (h:SD B sb db D s v n f x down W) (hf:D.fits) (h0:0≤f) (h1:f≤1000000) (h2:0≤k) (h3:k≤1000000) (hk:k - f<16) (ho:eE aQ (bK D (k % 16).toNat)=none):
  Calls prog 53 #[.pointer (some ⟨sb,0,none⟩),.int .i64 k] W (tZ W none):=by
 have H0:=zH (SE.start h);obtain⟨j,hj,hj2⟩: ∃ j:Nat,k.tmod 16=(j:Int)∧(k % 16).toNat=j:=⟨(k % 16).toNat,by rw[Int.tmod_eq_emod_of_nonneg h2];omega,rfl⟩;have hj16:j<16:=by omega
 rw[hj2]at ho;have HRD:=zH (fun w hd=>iW db D j w hd oM);have HOP:=zH (fun w=>gg (D.blk.getD j ByteArray.empty) w (by have:=hf j;omega));have hol:eE aQ (D.blk.getD j ByteArray.empty).data.toList=none:=ho;rw[hol]at HOP;have HCU:=zH (EK [] (Nat.zero_le _));have hnil:ah []=⟨#[]⟩:=rfl;rw[hnil]at HCU;generalize D.blk.getD j ByteArray.empty=blk at*;obtain⟨ck,nx,L⟩:=s;obtain⟨c0,c1,c2,c3,c4,c5,c6,c7,z,hlt⟩:=h.cells;clear h ho hol hnil hj2;unfold ax Ev.zero an.zero at H0;dsimp only at H0;go_enter Tryz.func53,Tryz.ntmps53;go_wp2_with fail;refine(HRD.out _ H0.out.sd.disk).mono ?_;rintro e w1 ⟨rfl,rfl⟩;go_wp2_with fail;go_at_call 105;refine(HOP.out _).mono ?_;rintro e w2 ⟨⟨x2,b2,rfl,rfl,rfl⟩,hb⟩;have H2:=zH (H0.out.keep hb);clear hb;go_wp2_with fail;go_at_call 108;refine(HCU.out _ H2.out.sd.env.maxl).mono ?_;rintro e w3 ⟨rfl,hb⟩;have H3:=zH (H2.out.keep hb);clear hb H2 H0;have hres:=H3.out.res;have f1:=hres.frozen;obtain⟨r0,r1,r2,r3,r4,r5,r6,r7,r8,r9,r10,r11⟩:=bg (k:=0) (i:=0) (cl:=⟨#[]⟩) (su:=⟨#[]⟩) (sc:=⟨#[]⟩) (ge:=0) (ma:=0) (us:=0) (re:=⟨#[]⟩) (de:=false) (id:=0) (ti:=0) hres;clear hres;go_wp2_with fail;exact ry (e:=Ev.zero) (b:=false) (bU (e':=Ev.zero) H3.out.below) (cv (e':=Ev.zero) H3.out.res) rfl rfl rfl rfl
theorem wh (B sb db:Nat) (D:Dk) (s:St) (v:Value) (n f x k:Int) (down:Bool) (W:World) (h:SD B sb db D s v n f x down W) (hf:D.fits) (h0:0≤f) (h1:f≤1000000) (h2:0≤k) (h3:k≤1000000) (hk:k - f<16) (l:List UInt8) (ho:eE aQ (bK D (k % 16).toNat)=some l) (hll:l.length≤240) (hne:dd l≠Lib.itoa k) (hkM:kt k=true):
  Calls prog 53 #[.pointer (some ⟨sb,0,none⟩),.int .i64 k] W (tZ W none):=by
 have H0:=zH (SE.start h);obtain⟨j,hj,hj2⟩: ∃ j:Nat,k.tmod 16=(j:Int)∧(k % 16).toNat=j:=⟨(k % 16).toNat,by rw[Int.tmod_eq_emod_of_nonneg h2];omega,rfl⟩;have hj16:j<16:=by omega
 rw[hj2]at ho;have HRD:=zH (fun w hd=>iW db D j w hd oM);have HOP:=zH (fun w=>gg (D.blk.getD j ByteArray.empty) w (by have:=hf j;omega));have hol:eE aQ (D.blk.getD j ByteArray.empty).data.toList=some l:=ho
 have HOP:Hid (∀ w,Calls prog 105 #[.string (D.blk.getD j ByteArray.empty)] w fun e w'=>e=.returned (.tuple #[.string (ah l),.bool true])∧Below w.heap.size w w'):=zH fun w=>by
  have h1:=HOP.out w;rw[hol]at h1;refine h1.mono ?_;rintro e w' ⟨⟨x2,b2,rfl,rfl,rfl⟩,hb⟩;exact⟨rfl,hb⟩
 have HCU:=zH (EK l oM);have HIT:=zH (fun w hT=>qo k hkM w hT)
 have hq:((ah (dd l)).toList == (aL k).toList)=false:=by
  rw[bn,show(aL k).toList=Lib.itoa k from by unfold aL;rw[ByteArray.toList_eq]];simpa using hne
 generalize aL k=ik at*;generalize decide (32∈l)=fb at*;generalize ah (dd l)=th at*;generalize ah (bY l)=tr at*;generalize ah l=tl at*;generalize D.blk.getD j ByteArray.empty=blk at*;obtain⟨ck,nx,L⟩:=s;obtain⟨c0,c1,c2,c3,c4,c5,c6,c7,z,hlt⟩:=h.cells;clear h ho hol hj2 hne hkM hll;unfold ax Ev.zero an.zero at H0;dsimp only at H0;go_enter Tryz.func53,Tryz.ntmps53;go_wp2_with fail;refine(HRD.out _ H0.out.sd.disk).mono ?_;rintro e w1 ⟨rfl,rfl⟩;go_wp2_with fail;go_at_call 105;refine(HOP.out _).mono ?_;rintro e w2 ⟨rfl,hb⟩;have H2:=zH (H0.out.keep hb);clear hb;go_wp2_with fail;go_at_call 108;refine(HCU.out _ H2.out.sd.env.maxl).mono ?_;rintro e w3 ⟨rfl,hb⟩;have H3a:=zH (H2.out.keep hb);clear hb H2 H0;go_wp2_with fail;go_at_call 26;refine(HIT.out _ H3a.out.sd.env.tens).mono ?_;rintro e w4 ⟨rfl,hb⟩;have H3:=zH (H3a.out.keep hb);clear hb H3a;have hres:=H3.out.res;have f1:=hres.frozen;obtain⟨r0,r1,r2,r3,r4,r5,r6,r7,r8,r9,r10,r11⟩:=bg (k:=0) (i:=0) (cl:=⟨#[]⟩) (su:=⟨#[]⟩) (sc:=⟨#[]⟩) (ge:=0) (ma:=0) (us:=0) (re:=⟨#[]⟩) (de:=false) (id:=0) (ti:=0) hres;clear hres;go_wp2_with fail;exact ry (e:=Ev.zero) (b:=false) (bU (e':=Ev.zero) H3.out.below) (cv (e':=Ev.zero) H3.out.res) rfl rfl rfl rfl
theorem au {B:Nat} {a w:World} (h:Below B a w):Below B a w.drew:=⟨h.os,h.tape,h.output,h.size,h.block⟩
theorem DW {w:World} {g:Nat} {t:TypeId} {cs:Array Value} (h:aj w g t cs):aj w.drew g t cs:=h
theorem yg (B sb db:Nat) (D:Dk) (s:St) (v:Value) (n f x k:Int) (down:Bool) (W:World) (h:SD B sb db D s v n f x down W) (hf:D.fits) (h0:0≤f) (h1:f≤1000000) (h2:0≤k) (h3:k≤1000000) (hk:k - f<16) (l:List UInt8) (ho:eE aQ (bK D (k % 16).toNat)=some l) (hll:l.length≤240) (hne:dd l=Lib.itoa k) (hkM:kt k=true):
  Calls prog 53 #[.pointer (some ⟨sb,0,none⟩),.int .i64 k] W (tZ W (if gK (bY l)then some (fX (bY l))else none)):=by
 have H0:=zH (SE.start h);obtain⟨j,hj,hj2⟩: ∃ j:Nat,k.tmod 16=(j:Int)∧(k % 16).toNat=j:=⟨(k % 16).toNat,by rw[Int.tmod_eq_emod_of_nonneg h2];omega,rfl⟩;have hj16:j<16:=by omega
 rw[hj2]at ho;have HRD:=zH (fun w hd=>iW db D j w hd oM);have HOP:=zH (fun w=>gg (D.blk.getD j ByteArray.empty) w (by have:=hf j;omega));have hol:eE aQ (D.blk.getD j ByteArray.empty).data.toList=some l:=ho
 have HOP:Hid (∀ w,Calls prog 105 #[.string (D.blk.getD j ByteArray.empty)] w fun e w'=>e=.returned (.tuple #[.string (ah l),.bool true])∧Below w.heap.size w w'):=zH fun w=>by
  have h1:=HOP.out w;rw[hol]at h1;refine h1.mono ?_;rintro e w' ⟨⟨x2,b2,rfl,rfl,rfl⟩,hb⟩;exact⟨rfl,hb⟩
 have HCU:=zH (EK l oM);have HIT:=zH (fun w hT=>qo k hkM w hT)
 have hq:((ah (dd l)).toList == (aL k).toList)=true:=by
  rw[bn,show(aL k).toList=Lib.itoa k from by unfold aL;rw[ByteArray.toList_eq]];simpa using hne
 have hrl:=Dd l
 have HRE:Hid (∀ w,WB w w→bf w→Calls prog 106 #[.string (ah (bY l))] w (jA w (fX (bY l)) (if gK (bY l)then 0 else 3))):=zH fun w hw he=>by
  have:=Ai (ah (bY l)) w (by rw[bB];omega) hw he;rw[ak]at this;exact this
 generalize aL k=ik at*;generalize decide (32∈l)=fb at*;generalize ah (dd l)=th at*;generalize ah (bY l)=tr at*;generalize fX (bY l)=ev at*;generalize gK (bY l)=rb at*;generalize ah l=tl at*;generalize D.blk.getD j ByteArray.empty=blk at*;obtain⟨ck,nx,L⟩:=s;obtain⟨c0,c1,c2,c3,c4,c5,c6,c7,z,hlt⟩:=h.cells;clear h ho hol hj2 hne hkM hll hrl;unfold ax Ev.zero an.zero at H0;dsimp only at H0;rcases rb with _|_
 all_goals
  simp only[Bool.false_eq_true,if_false,if_true]at HRE;go_enter Tryz.func53,Tryz.ntmps53;go_wp2_with fail;refine(HRD.out _ H0.out.sd.disk).mono ?_;rintro e w1 ⟨rfl,rfl⟩;go_wp2_with fail;go_at_call 105;refine(HOP.out _).mono ?_;rintro e w2 ⟨rfl,hb⟩;have H2:=zH (H0.out.keep hb);clear hb;go_wp2_with fail;go_at_call 108;refine(HCU.out _ H2.out.sd.env.maxl).mono ?_;rintro e w3 ⟨rfl,hb⟩;have H3a:=zH (H2.out.keep hb);clear hb H2 H0;go_wp2_with fail;go_at_call 26;refine(HIT.out _ H3a.out.sd.env.tens).mono ?_;rintro e w4 ⟨rfl,hb⟩;have H3:=zH (H3a.out.keep hb);clear hb H3a;go_wp2_with fail;go_at_call 106;refine(HRE.out _ H3.out.sd.env.wb H3.out.sd.env.errs).mono ?_;rintro e w5 ⟨rfl,hb⟩;have H4:=zH (H3.out.keep hb);clear hb H3 c0 c1 c2 c3 c4 c5 c6 c7 z hlt;obtain⟨kd,⟨i,cl,su,sc,ge,ma,us,re,de⟩,id,ti⟩:=ev;unfold aE ax;dsimp only
  first
   |rw[show bV 3=.iface 57 (.int .i64 3)from rfl]
   |rw[show bV 0=.nilIface from rfl]
  have HN:=zH (aj.new w5 116 (ax ⟨kd,⟨i,cl,su,sc,ge,ma,us,re,de⟩,id,ti⟩));have HK:=zH (H4.out.keep ((Below.refl _ _).alloc (Nat.le_refl _) (.cells (ax ⟨kd,⟨i,cl,su,sc,ge,ma,us,re,de⟩,id,ti⟩) 116)));have hres:=H4.out.res;have f1:=hres.frozen;have f2:=hres.lt;obtain⟨r0,r1,r2,r3,r4,r5,r6,r7,r8,r9,r10,r11⟩:=bg (k:=0) (i:=0) (cl:=⟨#[]⟩) (su:=⟨#[]⟩) (sc:=⟨#[]⟩) (ge:=0) (ma:=0) (us:=0) (re:=⟨#[]⟩) (de:=false) (id:=0) (ti:=0) hres;clear hres;have f3:=HK.out.res.frozen;unfold ax at f3;dsimp only at f3;go_wp2_with fail
  go_region
  go_wp2_with fail;have hb1:=bU (e':=⟨kd,⟨i,cl,su,sc,ge,ma,us,re,de⟩,id,ti⟩) H4.out.below;have hb2:=au (hb1.alloc hb1.size (.cells #[.int .i64 kd,.int .i64 i,.string cl,.string su,.string sc,.int .i64 ge,.int .i64 ma,.int .i64 us,.string re,.bool de,.int .i64 id,.int .i64 ti] 116));have hr1:=cv (e':=⟨kd,⟨i,cl,su,sc,ge,ma,us,re,de⟩,id,ti⟩) H4.out.res;have hr2:=DW (hr1.alloc (.cells #[.int .i64 kd,.int .i64 i,.string cl,.string su,.string sc,.int .i64 ge,.int .i64 ma,.int .i64 us,.string re,.bool de,.int .i64 id,.int .i64 ti] 116))
  first
   |exact ry (o:=none) (b:=false) hb2 hr2 rfl rfl rfl rfl
   |exact ry (b:=true) hb2 hr2 ⟨rfl,rfl⟩ rfl rfl rfl
theorem tR {s x:List UInt8} (h:eE aQ s=some x):x.length≤s.length:=by
 unfold eE at h;split at h
 ·rename_i y t hc
  split at h
  ·obtain rfl:=Option.some.inj h
   unfold kK at hc;split at hc
   ·obtain⟨rfl,_⟩:=Prod.mk.inj (Option.some.inj hc)
    rw[List.length_take];omega
   ·cases hc
  ·cases h
 ·cases h
theorem wA (B sb db:Nat) (D:Dk) (s:St) (v:Value) (n f x k:Int) (down:Bool) (W:World) (h:SD B sb db D s v n f x down W) (hf:D.fits) (h0:0≤f) (h1:f≤1000000) (h2:0≤k) (h3:k≤1000000):
  Calls prog 53 #[.pointer (some ⟨sb,0,none⟩),.int .i64 k] W (tZ W (mW aQ (bK D) f k)):=by
 have hkM:kt k=true:=bO.2 oM;unfold mW
 by_cases hk:k - f≥16
 ·rw[if_pos hk]
  exact BD B sb db D s v n f x k down W h h0 h1 h2 h3 hk
 ·rw[if_neg hk]
  unfold kI;rcases ho:eE aQ (bK D (k % 16).toNat)with _|l
  ·exact yx B sb db D s v n f x k down W h hf h0 h1 h2 h3 oM ho
  ·have hl:=tR ho
   have hb:=nh hf (k % 16).toNat;dsimp only
   by_cases hh:dd l=Lib.itoa k
   ·rw[if_pos hh]
    exact yg B sb db D s v n f x k down W h hf h0 h1 h2 h3 oM l ho oM hh hkM
   ·rw[if_neg hh]
    exact wh B sb db D s v n f x k down W h hf h0 h1 h2 h3 oM l ho oM hh hkM
end Go.Proofs.YtepjcdjpikbbjaaGreatDoor
