/- Part of the proof. -/
import Derived.StillTailTactics
import Derived.Test.YtjligkmjlenofaaGreatDoorV02
import Derived.Deep.Onto
import Derived.Shelf.Spec.SlicesInsertGrow
import Derived.Deep.DeepHandedRow
import Derived.Lib.SmallJoins
import Derived.Test.YtjligkmjlenofaaGreatDoorCards
import Derived.Test.YtjligkmjlenofaaGreatDoorTie
set_option maxHeartbeats 16000000
set_option maxRecDepth 100000
open Go renaming World->aah,Value->aai,Calls->ach,bits->ahj,TypeId->aat,wpStill_nil->ahM,run_storeCells_at->ai7,info_parts->aj',wpList_append_own->akl,Program->ag0
open List renaming length_append->ag2,getElem?_eq_some_iff->ag6,getElem?_eq_getElem->ag8,take_succ_cons->ag9,length_drop->ag_,length_take->ag',drop_succ_cons->ahd,take_zero->ahk,drop_zero->ahl,getElem?_take->ahm,length_cons->agj,append_assoc->aho,mem_of_getElem?->ahG,mem_cons_of_mem->acU,take_of_length_le->ahO,mem_iff_getElem?->ahX,drop_eq_getElem_cons->ah3,mem_cons->ab',getElem?_drop->ah_,eq_nil_of_length_eq_zero->acL,take_append_of_le_length->aia,drop_sublist->aii,length_singleton->aij,pairwise_iff_getElem->aiq,getElem?_append_left->air,pairwise_cons->ais,mem_cons_self->ait,take_left->aiu,length_eq_one_iff->aiv,map_cons->aix,not_mem_nil->adn,getElem_mem->aiz,mem_append->adh,takeWhile_cons->aiH,take_take->aiK,getD->agv,sum_cons->aiS,getElem?_append_right->aiZ,take_add_one->ai6,map_nil->ajh,take_length->ajy,length_nil->ajE,drop_of_length_le->ajT,singleton_append->ajY,getElem?_eq_none->aj3,length_mergeSort->aj4,mem_of_mem_take->aj9,pairwise_append->adz,mem_iff_getElem->aj_,sum_nil->akd,length->akn,drop_length->akq,nil_append->akt
open Go.Lib renaming itoa->aax,compact->acv,lastIndexByte->akm,cut->agZ
open Array renaming getElem?_toList->ahb,length_toList->ahh,getElem?_eq_getElem->aht,getElem?_eq_none->adm
open Go.Builtin renaming zeroCells->ahi,copy_->aip,clear_->aj8,firstCells->akh
open Bool renaming eq_iff_iff->ahp,and_eq_true->aaB,false_or->aka,and_true->akb,not_not->akf,false_eq_true->akg,or_eq_true->aeu,and_assoc->aku,not_false->akv,and_self->akx,true_and->aky
open Nat renaming zero_add->ahq,le_refl->ahP,zero_le->ahW,lt_or_ge->af8,not_lt_zero->ah',le_trans->aiC,mod_eq_of_lt->ajD,min_def->ajU,sub_self->akc,add_zero->ake,le_of_lt->aki
open Option.some renaming inj->ahK,injEq->akk
open Go.Proofs.Tryz renaming underlying105->ahY
open Go.RowKit renaming intOf->ahZ
open Go.Addr renaming add_lit->ah4
open Go.World renaming block_lt_of_cell?->acC
open Go.Value renaming agg->aiB,cells->akp,ownBlock->akw
open Go.Ending renaming returned->aiD
open Int renaming le_refl->aiQ,lt_or_eq_of_le->aiR,toNat_natCast->akj
open Go.Act renaming eval->agl,put->agu
open Go.Instr renaming index->ako
open Go.IntKind renaming wrap_i64->aks
open Go.DataW renaming TrodAll->akz
namespace Go.Proofs.YtjligkmjlenofaaGreatDoor
open Go.Proofs.Tryz
open Go.RowKit
variable{id m ge ma us ti:Int}{w1:aah}{l xs y:BL}{j k i cap c o:Nat}{ps r ws:List BL}{cl su sc re:ByteArray}{de:Bool}{cur cs:Array aai}
theorem cU{P:ag0}{id:Nat}{Q:Exit->Act->aah->Prop}{a:Act}{w:aah}{l:List Oper}(n:Nat)(hm:P.follows .mixedOrders=true)(hB:Region.lexTailB .any l.toArray n=true)(h:wpStill P l.toArray w.drew (fun a'=>wpList P l.toArray Q (l.drop n) a' w.drew) (l.take n) a):(Code.region id l.toArray true).wp P Q a w:=
 wp_region_still_tail n hm hB h
def rotl(x k:Int):Int:=ahj .or .u64 (IntKind.u64.wrap (x*2 ^ k.toNat)) (x / 2 ^ (64 - k).toNat)
def bx(x y:Int):Int:=ahj .xor .u64 x y
def ad(x y:Int):Int:=IntKind.u64.wrap (x+y)
def Ug(x:Int):Prop:=0<=x/\x<18446744073709551616
structure S4 where
 a:Int
 b:Int
 c:Int
 d:Int
def S4.round(s:S4):S4:=
 let a1:=ad s.a s.b
 let b1:=bx (rotl s.b 13) a1
 let a2:=rotl a1 32
 let c1:=ad s.c s.d
 let d1:=bx (rotl s.d 16) c1
 let a3:=ad a2 d1
 let d2:=bx (rotl d1 21) a3
 let c2:=ad c1 b1
 let b2:=bx (rotl b1 17) c2
 let c3:=rotl c2 32
 ⟨a3,b2,c3,d2⟩
def S4.cells(s:S4):Array aai:=#[.int .u64 s.a,.int .u64 s.b,.int .u64 s.c,.int .u64 s.d]
def S4.ok(s:S4):Prop:=Ug s.a/\Ug s.b/\Ug s.c/\Ug s.d
theorem uZ(x:Int):Ug (IntKind.u64.wrap x):=by
 unfold Ug;simp[IntKind.wrap,IntKind.bits,IntKind.signed];omega
theorem yJ(op:BinOp)(x y:Int)(h:op=.or\/op=.xor\/op=.and):Ug (ahj op .u64 x y):=by
 rcases h with rfl|rfl|rfl<;>exact uZ _
theorem YF(x k:Int):Ug (rotl x k):=yJ _ _ _ (.inl rfl)
theorem qq(x y:Int):Ug (bx x y):=yJ _ _ _ (.inr (.inl rfl))
theorem af6(x y:Int):Ug (ad x y):=uZ _
theorem S4.uE(s:S4):s.round.ok:=⟨af6 _ _,qq _ _,YF _ _,qq _ _⟩
theorem ahw(k:Int)(h:k=13\/k=16\/k=17\/k=21\/k=32):ahj .and .u64 k 63=k:=by
 rcases h with rfl|rfl|rfl|rfl|rfl<;>decide
theorem Dg(x k:Int)(w:aah)(hx:Ug x)(hk:k=13\/k=16\/k=17\/k=21\/k=32):ach prog 133 #[.int .u64 x,.int .i64 k] w fun e w'=>e=.returned (.int .u64 (rotl x k))/\w'=w:=by
 obtain⟨h0,h1⟩:=hx;have ha:=ahw k hk;have hk0:1<=k:=by omega
 have E3:k<=63:=by omega
 clear hk
 go_in
 go_wp2
 go_ret;exact⟨rfl,rfl⟩
section
variable{w:aah}{g:Nat}{t:aat}{p0 p1 p2 p3:aai}
theorem aC.s0(h:aC w g t #[p0,p1,p2,p3])(x:aai):aC (w.setCell ⟨g,0,none⟩ x).drew g t #[x,p1,p2,p3]:=h.kX 0 x
theorem aC.s1(h:aC w g t #[p0,p1,p2,p3])(x:aai):aC (w.setCell ⟨g,1,none⟩ x).drew g t #[p0,x,p2,p3]:=h.kX 1 x
theorem aC.s2(h:aC w g t #[p0,p1,p2,p3])(x:aai):aC (w.setCell ⟨g,2,none⟩ x).drew g t #[p0,p1,x,p3]:=h.kX 2 x
theorem aC.s3(h:aC w g t #[p0,p1,p2,p3])(x:aai):aC (w.setCell ⟨g,3,none⟩ x).drew g t #[p0,p1,p2,x]:=h.kX 3 x
theorem aC.c0(h:aC w g t #[p0,p1,p2,p3]):w.cell? ⟨g,0,none⟩=some p0:=h.cell 0
theorem aC.c1(h:aC w g t #[p0,p1,p2,p3]):w.cell? ⟨g,1,none⟩=some p1:=h.cell 1
theorem aC.c2(h:aC w g t #[p0,p1,p2,p3]):w.cell? ⟨g,2,none⟩=some p2:=h.cell 2
theorem aC.c3(h:aC w g t #[p0,p1,p2,p3]):w.cell? ⟨g,3,none⟩=some p3:=h.cell 3
theorem h_{a:aah}(h:a.grownBy w (some g))(i:Nat)(x:aai):a.grownBy (w.setCell ⟨g,i,none⟩ x).drew (some g):=zI (ak h (.inl rfl) x)
end
theorem zD(s:S4)(hs:s.ok)(w:aah)(g:Nat)(h:aC w g 231 s.cells):ach prog 175 #[.pointer (some ⟨g,0,none⟩)] w fun e w'=>e=.returned (.tuple #[])/\(aC w' g 231 s.round.cells/\w.grownBy w' (some g)):=by
 obtain⟨a,b,c,d⟩:=s;obtain⟨ha,hb,hc,hd⟩:=hs;have HB:=zH hb;have HD:=zH hd;have b0:aC w g 231 #[.int .u64 a,.int .u64 b,.int .u64 c,.int .u64 d]:=h;have B0:=zH b0;have G0:=zH (dU w (some g));clear b0 h ha hb hc hd
 go_in
 have c0:=B0.O.c0;have c1:=B0.O.c1;have c2:=B0.O.c2;have c3:=B0.O.c3;have f0:=B0.O.frozen 0;have f1:=B0.O.frozen 1;have f2:=B0.O.frozen 2;have f3:=B0.O.frozen 3;go_wp2_with fail;refine cU 11 kR kR ?_;simp only[ag9,ahk,ahd,ahl]
 repeat still_step
 refine ahM ?_;go_wp2_with fail;have B1:=zH (B0.O.s0 (.int .u64 (IntKind.u64.wrap (a+b))));have G1:=zH (h_ G0.O 0 (.int .u64 (IntKind.u64.wrap (a+b))));clear c0 c1 c2 c3 f0 f1 f2 f3 B0 G0;generalize (w.setCell ⟨g,0,none⟩ (.int .u64 (IntKind.u64.wrap (a+b)))).drew=w1 at B1 G1 ⊢;have c0:=B1.O.c0;have c1:=B1.O.c1;have c2:=B1.O.c2;have c3:=B1.O.c3;have f0:=B1.O.frozen 0;have f1:=B1.O.frozen 1;have f2:=B1.O.frozen 2;have f3:=B1.O.frozen 3;go_wp2_with fail;refine cU 13 kR kR ?_;simp only[ag9,ahk,ahd,ahl]
 repeat still_step
 still_call (Dg (b) 13 _ HB.O oM)
 repeat still_step
 refine ahM ?_;go_wp2_with fail;have B2:=zH (B1.O.s1 (.int .u64 (ahj .xor .u64 (rotl (b) 13) (IntKind.u64.wrap (a+b)))));have G2:=zH (h_ G1.O 1 (.int .u64 (ahj .xor .u64 (rotl (b) 13) (IntKind.u64.wrap (a+b)))));clear c0 c1 c2 c3 f0 f1 f2 f3 B1 G1;generalize (w1.setCell ⟨g,1,none⟩ (.int .u64 (ahj .xor .u64 (rotl (b) 13) (IntKind.u64.wrap (a+b))))).drew=w2 at B2 G2 ⊢;have c0:=B2.O.c0;have c1:=B2.O.c1;have c2:=B2.O.c2;have c3:=B2.O.c3;have f0:=B2.O.frozen 0;have f1:=B2.O.frozen 1;have f2:=B2.O.frozen 2;have f3:=B2.O.frozen 3;go_wp2_with fail;refine cU 8 kR kR ?_;simp only[ag9,ahk,ahd,ahl]
 repeat still_step
 still_call (Dg (IntKind.u64.wrap (a+b)) 32 _ (uZ _) oM)
 repeat still_step
 refine ahM ?_;go_wp2_with fail;have B3:=zH (B2.O.s0 (.int .u64 (rotl (IntKind.u64.wrap (a+b)) 32)));have G3:=zH (h_ G2.O 0 (.int .u64 (rotl (IntKind.u64.wrap (a+b)) 32)));clear c0 c1 c2 c3 f0 f1 f2 f3 B2 G2;generalize (w2.setCell ⟨g,0,none⟩ (.int .u64 (rotl (IntKind.u64.wrap (a+b)) 32))).drew=w3 at B3 G3 ⊢;have c0:=B3.O.c0;have c1:=B3.O.c1;have c2:=B3.O.c2;have c3:=B3.O.c3;have f0:=B3.O.frozen 0;have f1:=B3.O.frozen 1;have f2:=B3.O.frozen 2;have f3:=B3.O.frozen 3;go_wp2_with fail;refine cU 11 kR kR ?_;simp only[ag9,ahk,ahd,ahl]
 repeat still_step
 refine ahM ?_;go_wp2_with fail;have B4:=zH (B3.O.s2 (.int .u64 (IntKind.u64.wrap (c+d))));have G4:=zH (h_ G3.O 2 (.int .u64 (IntKind.u64.wrap (c+d))));clear c0 c1 c2 c3 f0 f1 f2 f3 B3 G3;generalize (w3.setCell ⟨g,2,none⟩ (.int .u64 (IntKind.u64.wrap (c+d)))).drew=w4 at B4 G4 ⊢;have c0:=B4.O.c0;have c1:=B4.O.c1;have c2:=B4.O.c2;have c3:=B4.O.c3;have f0:=B4.O.frozen 0;have f1:=B4.O.frozen 1;have f2:=B4.O.frozen 2;have f3:=B4.O.frozen 3;go_wp2_with fail;refine cU 13 kR kR ?_;simp only[ag9,ahk,ahd,ahl]
 repeat still_step
 still_call (Dg (d) 16 _ HD.O oM)
 repeat still_step
 refine ahM ?_;go_wp2_with fail;have B5:=zH (B4.O.s3 (.int .u64 (ahj .xor .u64 (rotl (d) 16) (IntKind.u64.wrap (c+d)))));have G5:=zH (h_ G4.O 3 (.int .u64 (ahj .xor .u64 (rotl (d) 16) (IntKind.u64.wrap (c+d)))));clear c0 c1 c2 c3 f0 f1 f2 f3 B4 G4;generalize (w4.setCell ⟨g,3,none⟩ (.int .u64 (ahj .xor .u64 (rotl (d) 16) (IntKind.u64.wrap (c+d))))).drew=w5 at B5 G5 ⊢;have c0:=B5.O.c0;have c1:=B5.O.c1;have c2:=B5.O.c2;have c3:=B5.O.c3;have f0:=B5.O.frozen 0;have f1:=B5.O.frozen 1;have f2:=B5.O.frozen 2;have f3:=B5.O.frozen 3;go_wp2_with fail;refine cU 11 kR kR ?_;simp only[ag9,ahk,ahd,ahl]
 repeat still_step
 refine ahM ?_;go_wp2_with fail;have B6:=zH (B5.O.s0 (.int .u64 (IntKind.u64.wrap (rotl (IntKind.u64.wrap (a+b)) 32+ahj .xor .u64 (rotl (d) 16) (IntKind.u64.wrap (c+d))))));have G6:=zH (h_ G5.O 0 (.int .u64 (IntKind.u64.wrap (rotl (IntKind.u64.wrap (a+b)) 32+ahj .xor .u64 (rotl (d) 16) (IntKind.u64.wrap (c+d))))));clear c0 c1 c2 c3 f0 f1 f2 f3 B5 G5;generalize (w5.setCell ⟨g,0,none⟩ (.int .u64 (IntKind.u64.wrap (rotl (IntKind.u64.wrap (a+b)) 32+ahj .xor .u64 (rotl (d) 16) (IntKind.u64.wrap (c+d)))))).drew=w6 at B6 G6 ⊢;have c0:=B6.O.c0;have c1:=B6.O.c1;have c2:=B6.O.c2;have c3:=B6.O.c3;have f0:=B6.O.frozen 0;have f1:=B6.O.frozen 1;have f2:=B6.O.frozen 2;have f3:=B6.O.frozen 3;go_wp2_with fail;refine cU 13 kR kR ?_;simp only[ag9,ahk,ahd,ahl]
 repeat still_step
 still_call (Dg (ahj .xor .u64 (rotl (d) 16) (IntKind.u64.wrap (c+d))) 21 _ (yJ _ _ _ (.inr (.inl rfl))) oM)
 repeat still_step
 refine ahM ?_;go_wp2_with fail;have B7:=zH (B6.O.s3 (.int .u64 (ahj .xor .u64 (rotl (ahj .xor .u64 (rotl (d) 16) (IntKind.u64.wrap (c+d))) 21) (IntKind.u64.wrap (rotl (IntKind.u64.wrap (a+b)) 32+ahj .xor .u64 (rotl (d) 16) (IntKind.u64.wrap (c+d)))))));have G7:=zH (h_ G6.O 3 (.int .u64 (ahj .xor .u64 (rotl (ahj .xor .u64 (rotl (d) 16) (IntKind.u64.wrap (c+d))) 21) (IntKind.u64.wrap (rotl (IntKind.u64.wrap (a+b)) 32+ahj .xor .u64 (rotl (d) 16) (IntKind.u64.wrap (c+d)))))));clear c0 c1 c2 c3 f0 f1 f2 f3 B6 G6;generalize (w6.setCell ⟨g,3,none⟩ (.int .u64 (ahj .xor .u64 (rotl (ahj .xor .u64 (rotl (d) 16) (IntKind.u64.wrap (c+d))) 21) (IntKind.u64.wrap (rotl (IntKind.u64.wrap (a+b)) 32+ahj .xor .u64 (rotl (d) 16) (IntKind.u64.wrap (c+d))))))).drew=w7 at B7 G7 ⊢;have c0:=B7.O.c0;have c1:=B7.O.c1;have c2:=B7.O.c2;have c3:=B7.O.c3;have f0:=B7.O.frozen 0;have f1:=B7.O.frozen 1;have f2:=B7.O.frozen 2;have f3:=B7.O.frozen 3;go_wp2_with fail;refine cU 11 kR kR ?_;simp only[ag9,ahk,ahd,ahl]
 repeat still_step
 refine ahM ?_;go_wp2_with fail;have B8:=zH (B7.O.s2 (.int .u64 (IntKind.u64.wrap (IntKind.u64.wrap (c+d)+ahj .xor .u64 (rotl (b) 13) (IntKind.u64.wrap (a+b))))));have G8:=zH (h_ G7.O 2 (.int .u64 (IntKind.u64.wrap (IntKind.u64.wrap (c+d)+ahj .xor .u64 (rotl (b) 13) (IntKind.u64.wrap (a+b))))));clear c0 c1 c2 c3 f0 f1 f2 f3 B7 G7;generalize (w7.setCell ⟨g,2,none⟩ (.int .u64 (IntKind.u64.wrap (IntKind.u64.wrap (c+d)+ahj .xor .u64 (rotl (b) 13) (IntKind.u64.wrap (a+b)))))).drew=w8 at B8 G8 ⊢;have c0:=B8.O.c0;have c1:=B8.O.c1;have c2:=B8.O.c2;have c3:=B8.O.c3;have f0:=B8.O.frozen 0;have f1:=B8.O.frozen 1;have f2:=B8.O.frozen 2;have f3:=B8.O.frozen 3;go_wp2_with fail;refine cU 13 kR kR ?_;simp only[ag9,ahk,ahd,ahl]
 repeat still_step
 still_call (Dg (ahj .xor .u64 (rotl (b) 13) (IntKind.u64.wrap (a+b))) 17 _ (yJ _ _ _ (.inr (.inl rfl))) oM)
 repeat still_step
 refine ahM ?_;go_wp2_with fail;have B9:=zH (B8.O.s1 (.int .u64 (ahj .xor .u64 (rotl (ahj .xor .u64 (rotl (b) 13) (IntKind.u64.wrap (a+b))) 17) (IntKind.u64.wrap (IntKind.u64.wrap (c+d)+ahj .xor .u64 (rotl (b) 13) (IntKind.u64.wrap (a+b)))))));have G9:=zH (h_ G8.O 1 (.int .u64 (ahj .xor .u64 (rotl (ahj .xor .u64 (rotl (b) 13) (IntKind.u64.wrap (a+b))) 17) (IntKind.u64.wrap (IntKind.u64.wrap (c+d)+ahj .xor .u64 (rotl (b) 13) (IntKind.u64.wrap (a+b)))))));clear c0 c1 c2 c3 f0 f1 f2 f3 B8 G8;generalize (w8.setCell ⟨g,1,none⟩ (.int .u64 (ahj .xor .u64 (rotl (ahj .xor .u64 (rotl (b) 13) (IntKind.u64.wrap (a+b))) 17) (IntKind.u64.wrap (IntKind.u64.wrap (c+d)+ahj .xor .u64 (rotl (b) 13) (IntKind.u64.wrap (a+b))))))).drew=w9 at B9 G9 ⊢;have c0:=B9.O.c0;have c1:=B9.O.c1;have c2:=B9.O.c2;have c3:=B9.O.c3;have f0:=B9.O.frozen 0;have f1:=B9.O.frozen 1;have f2:=B9.O.frozen 2;have f3:=B9.O.frozen 3;go_wp2_with fail;refine cU 8 kR kR ?_;simp only[ag9,ahk,ahd,ahl]
 repeat still_step
 still_call (Dg (IntKind.u64.wrap (IntKind.u64.wrap (c+d)+ahj .xor .u64 (rotl (b) 13) (IntKind.u64.wrap (a+b)))) 32 _ (uZ _) oM)
 repeat still_step
 refine ahM ?_;go_wp2_with fail;have B10:=zH (B9.O.s2 (.int .u64 (rotl (IntKind.u64.wrap (IntKind.u64.wrap (c+d)+ahj .xor .u64 (rotl (b) 13) (IntKind.u64.wrap (a+b)))) 32)));have G10:=zH (h_ G9.O 2 (.int .u64 (rotl (IntKind.u64.wrap (IntKind.u64.wrap (c+d)+ahj .xor .u64 (rotl (b) 13) (IntKind.u64.wrap (a+b)))) 32)))
 go_end0
 exact⟨rfl,B10.O,G10.O⟩
def S4.eat(s:S4)(m:Int):S4:=
 let t:=(S4.mk s.a s.b s.c (bx s.d m)).round.round
 ⟨bx t.a m,t.b,t.c,t.d⟩
theorem S4.Vq(s:S4)(m:Int):(s.eat m).ok:=
 ⟨qq _ _,(S4.uE _).2.1,(S4.uE _).2.2.1,(S4.uE _).2.2.2⟩
theorem Qz(s:S4)(hs:s.ok)(m:Int)(w:aah)(g:Nat)(h:aC w g 231 s.cells):ach prog 174 #[.int .u64 m,.pointer (some ⟨g,0,none⟩)] w fun e w'=>e=.returned (.tuple #[])/\(aC w' g 231 (s.eat m).cells/\w.grownBy w' (some g)):=by
 obtain⟨a,b,c,d⟩:=s;have b0:aC w g 231 #[.int .u64 a,.int .u64 b,.int .u64 c,.int .u64 d]:=h;have c3:=b0.c3;have f3:=b0.frozen 3;have B0:=zH b0;have HS:=zH hs;clear b0 h hs
 go_in
 go_wp2_with fail;refine(zD ⟨a,b,c,bx d m⟩ ⟨HS.O.1,HS.O.2.1,HS.O.2.2.1,qq _ _⟩ _ g (B0.O.kX 3 (.int .u64 (bx d m)))).mono ?_;rintro e w1 ⟨rfl,eu,As⟩;have B1:=zH eu;have G1:=zH As;clear eu As;go_wp2_with fail;refine(zD (S4.round ⟨a,b,c,bx d m⟩) (S4.uE _) _ g B1.O).mono ?_;rintro e w2 ⟨rfl,ju,Ez⟩;have B2:=zH ju;have G2:=zH (jD (jD (ak (dU w (some g)) (p:=⟨g,3,none⟩) (.inl rfl) (.int .u64 (bx d m))) G1.O) Ez);clear ju Ez;have E:∃s2:S4,s2=(S4.round (S4.round ⟨a,b,c,bx d m⟩)):=⟨_,rfl⟩;obtain⟨s2,e2⟩:=E;have E2:=zH e2;rw[<-e2]at B2;clear e2;have c0:=aC.c0 B2.O;have f0:=B2.O.frozen 0;go_wp2_with fail
 go_end0
 refine⟨rfl,?_,?_⟩
 ·have h1:=B2.O.kX 0 (.int .u64 (bx s2.a m))
  have h2:(S4.eat ⟨a,b,c,d⟩ m).cells=#[.int .u64 (bx s2.a m),.int .u64 s2.b,.int .u64 s2.c,.int .u64 s2.d]:=by rw[E2.O];rfl
  rw[h2];exact h1
 ·exact ak G2.O (.inl rfl) _
def yx(k0 k1:Int):S4:=⟨bx k0 8317987319222330741,bx k1 7237128888997146477,bx k0 7816392313619706465,bx k1 8387220255154660723⟩
def nI(s0:S4)(l:BL)(j:Nat):S4:=(List.range j).foldl (fun s i=>s.eat (jQ ((l.drop (8*i)).take 8))) s0
def CU(l:BL):Nat:=Ph l.length (jQ (l.drop (8*(l.length / 8))))
def rY(s:S4):Nat->S4
 |0=>s
 |n+1=>(rY s n).round
theorem S0(s:S4)(h:s.ok)(n:Nat):(rY s n).ok:=by
 cases n with
 |zero=>exact h
 |succ n=>exact S4.uE _
def afO(s:S4):Int:=
 let t:=rY (S4.mk s.a s.b (bx s.c 255) s.d) 4
 bx (bx (bx t.a t.b) t.c) t.d
def sip(k0 k1:Int)(l:BL):Int:=afO ((nI (yx k0 k1) l (l.length / 8)).eat (CU l))
theorem xG(s0:S4)(l:BL)(j:Nat):nI s0 l (j+1)=(nI s0 l j).eat (jQ ((l.drop (8*j)).take 8)):=by
 simp[nI,List.range_succ]
theorem Dn(k0 k1:Int):(yx k0 k1).ok:=⟨qq _ _,qq _ _,qq _ _,qq _ _⟩
theorem Ci(s0:S4)(h:s0.ok)(l:BL)(j:Nat):(nI s0 l j).ok:=by
 cases j with
 |zero=>exact h
 |succ j=>rw[xG];exact S4.Vq _ _
def Je:aai->Nat| .string t=>t.size|_=>0
def Ih(W:aah)(l:BL)(s0:S4)(v:aai)(w:aah):Prop:=
 ∃(t:ByteArray) (j:Nat),v=.string t/\t.data.toList=l.drop (8*j)/\8*j<=l.length/\Below W.heap.size W w/\aC w W.heap.size 231 (nI s0 l j).cells
theorem xJ(t:ByteArray)(k:Nat):(t.extract k t.size).data.toList=t.data.toList.drop k:=by
 simp[ByteArray.data_extract];exact ahO (by rw[ag_];exact ahP _)
theorem Ih.step{W wr:aah}{s0:S4}{t:ByteArray}(ht:t.data.toList=l.drop (8*j))(hb:Below W.heap.size W wr)(h8:8<=t.size)(hk:aC w1 W.heap.size 231 ((nI s0 l j).eat (jQ (t.data.toList.take 8))).cells)(hg:wr.grownBy w1 (some W.heap.size)):
  Ih W l s0 (.string (t.extract 8 t.size)) w1/\Je (.string (t.extract 8 t.size))<Je (.string t):=by
 have hl:=congrArg akn ht;rw[ag_]at hl;have hs:t.data.toList.length=t.size:=rfl;refine⟨⟨_,j+1,rfl,?_,by omega,fT hb hg nR hb.size,?_⟩,?_⟩
 ·rw[xJ,ht,List.drop_drop];congr 1
 ·rw[xG,<-ht];exact hk
 ·have h1:=congrArg akn (xJ t 8)
  rw[ag_]at h1;have h2:(t.extract 8 t.size).data.toList.length=(t.extract 8 t.size).size:=rfl;simp only[Je];omega
def ade(W:aah)(s0:S4)(v:aai)(w:aah):Prop:=
 ∃k:Nat,k<=4/\v=.int .i64 k/\Below W.heap.size W w/\aC w W.heap.size 231 (rY s0 k).cells
theorem aaW(k0 k1:Int)(s:ByteArray)(W:aah)(hs:s.size<=9223372036854775807):
  ach prog 132 #[.int .u64 k0,.int .u64 k1,.string s] W fun e w'=>e=.returned (.int .u64 (sip k0 k1 s.data.toList))/\Below W.heap.size W w':=by
 go_in
 go_wp2_with fail
 go_loopw [2] (fun v wr=>Ih W s.data.toList (yx k0 k1) v wr) (fun v _=>Je v)
 case atStart=>exact⟨s,0,rfl,rfl,by omega,bR.alloc nR _,aC.new W _ _⟩
 case round=>
  obtain⟨t,j,rfl,ht,hj,hb,hB⟩:=hrel
  have EB:t.size=s.data.toList.length - 8*j:=by
   have:=congrArg akn ht;rw[ag_]at this;exact this
  have HT:=zH ht;have HS:=zH EB;have HB:=zH hb;have HK:=zH hB
  have htm:t.size<=9223372036854775807:=by
   have:s.data.toList.length=s.size:=rfl;omega
  clear ht EB hb hB
  by_cases h8:8<=t.size
  ·go_wp2_with fail
   (go_loop [10,31] (fun m i=>∃k:Nat,k<=8/\i=.int .i64 k/\m=.int .u64 ((jQ (t.data.toList.take k):Nat):Int)) (fun _ i=>8 - (ahZ i).toNat));case atStart=>exact⟨0,by omega,rfl,rfl⟩
   case round=>
    obtain⟨k,hk,rfl,rfl⟩:=hrel;by_cases aE:k<8
    ·have hks:k<t.size:=by omega
     have ah5:=t[k].toNat_lt;go_wp2_with fail;refine⟨⟨k+1,by omega,by go_num,?_⟩,by simp[ahZ];omega⟩
     rw[abj _ _ k aE (by
      have h1:=Mx (t.data.toList.take k);have h2:(t.data.toList.take k).length=k:=by rw[ag'];have:t.data.toList.length=t.size:=rfl;omega
      rw[h2]at h1;exact h1),sY t.data.toList k hks]
     rfl
    ·obtain rfl:k=8:=by omega
     go_wp2_with (go_at_call 174;refine(Qz _ (Ci _ (Dn k0 k1) s.data.toList j) _ _ _ HK.O).mono ?_;rintro e w1 ⟨rfl,E3,As⟩);exact Ih.step HT.O HB.O h8 E3 As
  ·have Qm:j=s.data.toList.length / 8:=by
    have h1:=HS.O;omega
   (have HJ:=zH Qm;clear Qm;have IG:=YD s.size;have alE:=zH IG;clear IG;go_wp2_with fail);(go_loop [12,52] (fun m i=>∃k:Nat,k<=t.size/\i=.int .i64 k/\m=.int .u64 ((Ph s.size (jQ (t.data.toList.take k)):Nat):Int)) (fun _ i=>t.size - (ahZ i).toNat));case atStart=>exact⟨0,by omega,rfl,by rw[alE.O];rfl⟩
   case round=>
    obtain⟨k,hk,rfl,rfl⟩:=hrel;by_cases aE:k<t.size
    ·have ah5:=t[k].toNat_lt
     go_wp2_with fail;refine⟨⟨k+1,by omega,by go_num,?_⟩,by simp[ahZ];omega⟩
     rw[YC _ _ _ k oM (by
      have h1:=Mx (t.data.toList.take k);have h2:(t.data.toList.take k).length=k:=by rw[ag'];have:t.data.toList.length=t.size:=rfl;omega
      rw[h2]at h1;exact h1),sY t.data.toList k aE]
     rfl
    ·obtain rfl:k=t.size:=by omega
     have hw:Ph s.size (jQ (t.data.toList.take t.size))=CU s.data.toList:=by
      have h1:t.data.toList.take t.size=t.data.toList:=ahO nR;rw[h1,HT.O,HJ.O];rfl
     (have hk0:aC wr W.heap.size 231 (nI (yx k0 k1) s.data.toList (s.data.toList.length / 8)).cells:=by rw[<-HJ.O];exact HK.O);(have HK0:=zH hk0;rw[hw];clear hw hk0 aE hk;obtain⟨sc,Y4⟩:∃sc:S4,sc=(nI (yx k0 k1) s.data.toList (s.data.toList.length / 8)).eat (CU s.data.toList):=⟨_,rfl⟩;have HSC:=zH Y4;clear Y4;go_wp2_with (go_at_call 174;refine(Qz _ (Ci _ (Dn k0 k1) s.data.toList _) _ _ _ HK0.O).mono ?_;rintro e w1 ⟨rfl,E3,As⟩;rw[<-HSC.O]at E3;have c2:=aC.c2 E3;have f2:=E3.frozen 2));go_loopw [72] (fun i wr2=>ade W ⟨sc.a,sc.b,bx sc.c 255,sc.d⟩ i wr2) (fun i _=>4 - (ahZ i).toNat)
     case atStart=>
      exact⟨0,by omega,rfl,fT (fT HB.O As nR HB.O.size) (ak (dU w1 (some W.heap.size)) (p:=⟨W.heap.size,2,none⟩) (.inl rfl) _) nR (aiC HB.O.size As.size),E3.kX 2 _⟩
     case round=>
      obtain⟨i,hi,rfl,hb,hk⟩:=hrel;have gS:=zH hb;have HK2:=zH hk;clear hb hk
      have fR:(S4.mk sc.a sc.b (bx sc.c 255) sc.d).ok:=by
       (have h1:sc.ok:=by rw[HSC.O];exact S4.Vq _ _);exact⟨h1.1,h1.2.1,qq _ _,h1.2.2.2⟩
      (have PG:=zH fR;clear fR);by_cases aE:i<4
      ·go_wp2_with (go_at_call 175;refine(zD _ (S0 _ PG.O i) _ _ HK2.O).mono ?_;rintro e w3 ⟨rfl,Qn,hg3⟩)
       exact⟨⟨i+1,by omega,by go_num,fT gS.O hg3 nR gS.O.size,Qn⟩,by simp[ahZ];omega⟩
      ·obtain rfl:i=4:=by omega
       have aew:sip k0 k1 s.data.toList=bx (bx (bx (rY ⟨sc.a,sc.b,bx sc.c 255,sc.d⟩ 4).a (rY ⟨sc.a,sc.b,bx sc.c 255,sc.d⟩ 4).b) (rY ⟨sc.a,sc.b,bx sc.c 255,sc.d⟩ 4).c) (rY ⟨sc.a,sc.b,bx sc.c 255,sc.d⟩ 4).d:=by
        rw[HSC.O];rfl
       have HF:=zH aew;clear aew;have c0:=aC.c0 HK2.O;have c1:=aC.c1 HK2.O;have c2':=aC.c2 HK2.O;have c3:=aC.c3 HK2.O;generalize rY ⟨sc.a,sc.b,bx sc.c 255,sc.d⟩ 4=tt at*;go_wp2_with fail;go_ret;exact⟨by rw[HF.O];rfl,gS.O⟩
def Aj(b:UInt8):aai:=.int .u8 (b.toNat:Int)
def BA(w:aah)(g:Nat)(t:aat)(xs:BL):Prop:=aC w g t (xs.map Aj).toArray
theorem BA.cell{w:aah}{g:Nat}{t:aat}(h:BA w g t xs)(i:Nat)(hi:i<xs.length):w.cell? ⟨g,i,none⟩=some (Aj xs[i]):=by
 rw[aC.cell h];simp[hi]
theorem BA.kX{w:aah}{g:Nat}{t:aat}(h:BA w g t xs)(i:Nat)(b:UInt8):BA (w.setCell ⟨g,i,none⟩ (Aj b)) g t (xs.set i b):=by
 have h1:=aC.kX h i (Aj b);unfold BA;rw[List.map_set];simpa using h1
theorem BA.string{P:ag0}{w:aah}{g:Nat}{t:aat}(h:BA w g t xs)(src dst e:aat)(hs:P.underlying src=some (.slice e))(he:P.underlying e=some (.int .u8))(hd:P.underlying dst=some .string)(off len cap:Nat)(hl:off+len=xs.length):(convert src dst (.slice (some ⟨g,off,none⟩) len cap)).run P w=.ok (.string ⟨(xs.drop off).toArray⟩) w:=by
 have h1:=run_convert_bytes_arg (P:=P) w src e hs he g off len cap ((xs.drop off).map fun b=>(b.toNat:Int)) sO (fun i hi=>by
  rw[h.cell (off+i) oM];have h2:off+i<xs.length:=by omega
  simp[Aj,agv,h2]) dst hd
 rw[h1]
 congr 2
 simp[strOfNums,Function.comp_def]
def ajp(key:Int):Int:=IntKind.u64.wrap key
def ao7(key:Int)(l:BL):Nat:=(sip (ajp key) (rotl (ajp key) 32) l).toNat
def bt(key:Int)(l:BL):BL:=pZ 16 (ao7 key l)
theorem ab1(k0 k1:Int)(l:BL):Ug (sip k0 k1 l):=qq _ _
def yI(n i:Nat):BL:=(pZ 16 n).take i++List.replicate (16 - i) 0
def adC(W:aah)(g:Nat)(n:Nat)(v:aai)(w:aah):Prop:=
 ∃i:Nat,i<=16/\v=.int .i64 i/\BA w g 185 (yI n i)/\Below W.heap.size W w
theorem abz(n i:Nat)(h:i<16):(yI n i).set i (Ui (n / 16 ^ (15 - i) % 16))=yI n (i+1):=by
 unfold yI;have hl:=iJ 16 n;have h1:((pZ 16 n).take i).length=i:=by rw[ag'];omega
 rw[List.set_append_right _ _ oM,h1,akc];have h2:=VX 16 n i h
 have h3:(pZ 16 n).take (i+1)=(pZ 16 n).take i++[Ui (n / 16 ^ (15 - i) % 16)]:=by
  rw[ai6,h2];rfl
 rw[h3,aho,show 16 - i=(16 - (i+1))+1 from by omega,List.replicate_succ,List.set_cons_zero,ajY]
theorem af2(d:Nat)(hd:d<16):Value.int .u8 (((⟨#[48,49,50,51,52,53,54,55,56,57,97,98,99,100,101,102]⟩:ByteArray)[d]'hd).toNat:Int)=Aj (Ui d):=by
 have h:d=0\/d=1\/d=2\/d=3\/d=4\/d=5\/d=6\/d=7\/d=8\/d=9\/d=10\/d=11\/d=12\/d=13\/d=14\/d=15:=by omega
 rcases h with h|h|h|h|h|h|h|h|h|h|h|h|h|h|h|h<;>subst h<;>rfl
theorem TB(d:Nat)(hd:d<16)(w:aah):(ako 9 (.string ⟨#[48,49,50,51,52,53,54,55,56,57,97,98,99,100,101,102]⟩) (.int .u64 (d:Int))).run prog w=.ok (.int .u8 ((Ui d).toNat:Int)) w:=by
 have hs:(⟨#[48,49,50,51,52,53,54,55,56,57,97,98,99,100,101,102]⟩:ByteArray).size=16:=rfl;rw[run_index_string w 9 _ .u64 (d:Int) underlying9,dif_pos ⟨by omega,by rw[hs];omega⟩];have h1:=af2 d hd;unfold Aj at h1;rw[<-h1];rfl
theorem vr(key:Int)(s:ByteArray)(W:aah)(hs:s.size<=9223372036854775807):
  ach prog 88 #[.int .i64 key,.string s] W fun e w'=>e=.returned (.string ⟨(bt key s.data.toList).toArray⟩)/\Below W.heap.size W w':=by
 go_in
 go_wp2_with (first
  |(go_at_call 133;refine(Dg _ 32 _ (uZ _) oM).mono ?_;rintro e w1 ⟨rfl,hww⟩;obtain rfl:=hww.symm)
  |(go_at_call 132;refine(aaW _ _ s _ hs).mono ?_;rintro e w2 ⟨rfl,hb⟩))
 have hu:=ab1 (IntKind.u64.wrap key) (rotl (IntKind.u64.wrap key) 32) s.data.toList;have ug:bt key s.data.toList=pZ 16 (sip (IntKind.u64.wrap key) (rotl (IntKind.u64.wrap key) 32) s.data.toList).toNat:=rfl;generalize sip (IntKind.u64.wrap key) (rotl (IntKind.u64.wrap key) 32) s.data.toList=N at*;obtain⟨n,rfl⟩:=Int.eq_ofNat_of_zero_le hu.1;have hn:n<18446744073709551616:=by have:=hu.2;omega
 rw[akj]at ug;have HT:=zH ug;have HB:=zH hb;have HN:=zH hn;clear hu ug hb hn
 go_loopw [16] (fun v wr=>adC W w2.heap.size n v wr) (fun v _=>16 - (ahZ v).toNat)
 case atStart=>exact⟨0,by omega,rfl,aC.new w2 _ _,HB.O.alloc HB.O.size _⟩
 case round=>
  obtain⟨i,hi,rfl,Bp,zv⟩:=hrel;have HBA:=zH Bp;have HBL:=zH zv;clear Bp zv
  by_cases aE:i<16
  ·obtain⟨d,hd⟩:∃d,d=n / 16 ^ (15 - i) % 16:=⟨_,rfl⟩
   have amX:d<16:=by omega
   have hand:ahj .and .u64 ((n:Int) / 2 ^ (60 - 4*i)) 15=(d:Int):=by
    (have e1:((n:Int) / 2 ^ (60 - 4*i))=((n / 2 ^ (60 - 4*i):Nat):Int):=by simp);rw[e1,ahv _ (Nat.lt_of_le_of_lt (Nat.div_le_self _ _) HN.O),hd,ajH,show 4*(15 - i)=60 - 4*i from by omega]
   (have hix:∀w:aah,(ako 9 (.string ⟨#[48,49,50,51,52,53,54,55,56,57,97,98,99,100,101,102]⟩) (.int .u64 (d:Int))).run prog w=.ok (.int .u8 ((Ui d).toNat:Int)) w:=TB d amX;have HD:=zH hd;clear hd HN HT;have hlen:(yI n i).length=16:=by unfold yI;rw[ag2,ag',iJ,List.length_replicate];omega);have qD:=HBA.O.cell i oM;unfold Aj at qD;generalize ((yI n i)[i]'oM).toNat=z at qD;have hfr:=aC.frozen HBA.O i;clear hlen;go_wp2_with fail;refine⟨⟨i+1,by omega,by go_num,?_,HBL.O.setCell (p:=⟨w2.heap.size,i,none⟩) HB.O.size _⟩,by simp[ahZ];omega⟩;have h1:=HBA.O.kX i (Ui d);rw[HD.O,abz n i aE,<-HD.O]at h1;exact h1
  ·obtain rfl:i=16:=by omega
   have Ar:yI n 16=pZ 16 n:=by
    unfold yI;rw[ahO (by rw[iJ];exact ahP _),akc,List.replicate_zero,List.append_nil]
   have an1:=HBA.O.string (P:=prog) 54 9 5 underlying54 underlying5 underlying9 0 16 16 (by rw[Ar,iJ]);rw[Ar,ahl]at an1;clear Ar;generalize pZ 16 n=H at*;have ht:=HT.O;subst ht;clear HT;go_wp2_with fail;go_ret;exact⟨rfl,HBL.O⟩
def xg:List BL->Option (Int×Int×Int×Int)
 |[h,x,y]=>if h=[114]/\ji x=true/\ji y=true then some (1,aa x,aa y,0)else none
 |[h,x,y,z]=>if h=[97]/\ji x=true/\ji y=true/\ji z=true then some (2,aa x,aa y,aa z)else none
 |_=>none
def IB:BL:=[48,49,50,51,52,53,54,55,56,57,97,98,99,100,101,102]
def Jh(t:BL):Bool:=decide (t.length=16)&&t.all (IB.contains ·)
def tD(T:BL->BL)(ps:List BL):Int×Int×Int×Int×Int:=
 match xg ps.dropLast with
 |none=>(3,0,0,0,0)
 |some (a,b,c,d)=>if Jh (ps.getLastD [])=true then(if ps.getLastD []=T (glue 46 ps.dropLast)then(0,a,b,c,d)else(5,0,0,0,0))else(3,0,0,0,0)
theorem TJ{L:List BL}(h1:L.getD 0 []≠ [97])(h2:L.getD 0 []≠ [114]):xg L.dropLast=none:=by
 rcases L with _|⟨a,_|⟨b,_|⟨c,_|⟨d,_|⟨e,_|⟨f,r⟩⟩⟩⟩⟩⟩
 all_goals first|rfl|(simp at h1 h2;simp[xg,h1,h2])
theorem TO{L:List BL}(h1:L.getD 0 []=[97])(h2:L.length≠5):xg L.dropLast=none:=by
 rcases L with _|⟨a,_|⟨b,_|⟨c,_|⟨d,_|⟨e,_|⟨f,r⟩⟩⟩⟩⟩⟩
 all_goals first|rfl|(simp at h1 h2;done)|(simp at h1;simp[xg,h1])
theorem TM{L:List BL}(h1:L.getD 0 []=[114])(h2:L.length≠4):xg L.dropLast=none:=by
 rcases L with _|⟨a,_|⟨b,_|⟨c,_|⟨d,_|⟨e,_|⟨f,r⟩⟩⟩⟩⟩⟩
 all_goals first|rfl|(simp at h1 h2;done)|(simp at h1;simp[xg,h1])
theorem Jj{T:BL->BL}{x t:BL}(hx:ji x=true)(hy:ji y=true):tD T [[114],x,y,t]=if Jh t=true then(if t=T (glue 46 [[114],x,y])then(0,1,aa x,aa y,0)else(5,0,0,0,0))else(3,0,0,0,0):=by
 simp[tD,xg,hx,hy]
theorem Jk{T:BL->BL}{x z t:BL}(hx:ji x=true)(hy:ji y=true)(hz:ji z=true):tD T [[97],x,y,z,t]=if Jh t=true then(if t=T (glue 46 [[97],x,y,z])then(0,2,aa x,aa y,aa z)else(5,0,0,0,0))else(3,0,0,0,0):=by
 simp[tD,xg,hx,hy,hz]
theorem Mm{t:BL}(h:¬ t.length=16):¬ Jh t=true:=by simp[Jh,h]
theorem Mn{t:BL}(h:t.all (IB.contains ·)=false):¬ Jh t=true:=by unfold Jh;rw[h];simp
theorem yH{t:BL}(h1:t.length=16)(h2:t.all (IB.contains ·)=true):Jh t=true:=by unfold Jh;rw[h2];simp[h1]
theorem jP{T:BL->BL}(h:xg ps.dropLast=none):tD T ps=(3,0,0,0,0):=by unfold tD;rw[h]
def EF(L:List az):Prop:=L.Pairwise fun a b=>a.id<b.id
def ahead(L:List az)(n:Int):Nat:=(L.takeWhile fun f=>decide (f.id<n)).length
def hasB(L:List az)(n:Int):Bool:=match L[ahead L n]? with
 |some f=>decide (f.id=n)
 |none=>false
def zJ(L:List az)(f:az):List az:=if hasB L f.id then L.set (ahead L f.id) f else L.take (ahead L f.id)++f::L.drop (ahead L f.id)
def tT(L:List az)(n:Int):List az:=if hasB L n then L.take (ahead L n)++L.drop (ahead L n+1)else L
structure St where
 clock:Int
 next:Int
 ax:List az
def av(s:St)(e:Ev):St:=
 if e.kind=1 then⟨s.clock,max s.next (e.bA.id+1),zJ s.ax e.bA⟩
 else if e.kind=2 then⟨s.clock,s.next,tT s.ax e.id⟩
 else if e.kind=3 then⟨e.time,s.next,s.ax⟩
 else s
theorem tN(L:List az)(n:Int):ahead L n<=L.length:=(List.takeWhile_sublist _).length_le
theorem Ra(n:Int):ahead [] n=0:=rfl
theorem wA(f:az)(L:List az)(n:Int):ahead (f::L) n=if f.id<n then ahead L n+1 else 0:=by
 unfold ahead;rw[aiH]
 by_cases h:f.id<n
 ·simp[h]
 ·simp[h]
theorem Cb:∀{L:List az} {n:Int} {j:Nat},j<ahead L n->∃f,L[j]?=some f/\f.id<n
 |[],n,j,h=>by simp[Ra]at h
 |f::L,n,j,h=>by
  rw[wA]at h;split at h
  ·rename_i hf
   cases j with
   |zero=>exact⟨f,rfl,hf⟩
   |succ j=>exact Cb (L:=L) oM
  ·omega
theorem xD:∀{L:List az} {n:Int},EF L->∀{j:Nat} {f:az},ahead L n<=j->L[j]?=some f->n<=f.id
 |[],n,_,j,f,_,h=>by simp at h
 |g::L,n,ha,j,f,hj,h=>by
  rw[wA]at hj;obtain⟨h1,h2⟩:=ais.1 ha;split at hj
  ·cases j with
   |zero=>omega
   |succ j=>exact xD h2 (j:=j) oM (by simpa using h)
  ·rename_i hg
   cases j with
   |zero=>
    simp at h;subst h;omega
   |succ j=>
    have hm:f∈L:=ahG (by simpa using h);have:=h1 f hm;omega
theorem UP{L:List az}{n:Int}(ha:EF L)(hk:k<=L.length)(h1:∀j f,j<k->L[j]?=some f->f.id<n)(h2:∀j f,k<=j->L[j]?=some f->n<=f.id):ahead L n=k:=by
 rcases Nat.lt_trichotomy (ahead L n) k with h|h|h
 ·obtain⟨f,hf⟩:∃f,L[ahead L n]?=some f:=⟨_,ag8 oM⟩
  have a:=h1 _ f h hf;have b:=xD ha nR hf;omega
 ·exact h
 ·obtain⟨f,hf,aE⟩:=Cb h
  have:=h2 k f nR hf;omega
theorem zo{L:List az}{n:Int}{f:az}(h:L[ahead L n]?=some f):hasB L n=decide (f.id=n):=by unfold hasB;rw[h]
theorem zn{L:List az}{n:Int}(h:ahead L n=L.length):hasB L n=false:=by
 unfold hasB;rw[aj3 oM]
theorem Bo{L:List az}{n:Int}(h:hasB L n=true):ahead L n<L.length:=by
 rcases af8 (ahead L n) L.length with h'|h'
 ·exact h'
 ·have:=tN L n
  rw[zn oM]at h;cases h
theorem Xu(L:List az)(f:az):(zJ L f).length<=L.length+1:=by
 unfold zJ;split
 ·simp
 ·have:=tN L f.id
  simp;omega
theorem RA(L:List az)(n:Int):(tT L n).length<=L.length:=by
 unfold tT;split
 ·have:=tN L n
  simp;omega
 ·exact ahP _
theorem C4{L:List az}{f g:az}(h:g∈zJ L f):g=f\/g∈L:=by
 unfold zJ at h;split at h
 ·rcases List.mem_or_eq_of_mem_set h with h|h
  ·exact .inr h
  ·exact .inl h
 ·rw[adh,ab']at h
  rcases h with h|h|h
  ·exact .inr (aj9 h)
  ·exact .inl h
  ·exact .inr (List.mem_of_mem_drop h)
theorem zE{L:List az}{n:Int}{g:az}(h:g∈tT L n):g∈L:=by
 unfold tT at h;split at h
 ·rcases adh.1 h with h|h
  ·exact aj9 h
  ·exact List.mem_of_mem_drop h
 ·exact h
theorem Ed{L:List az}{n:Int}{g:az}(h:g∈L.take (ahead L n)):g.id<n:=by
 obtain⟨j,hj⟩:=ahX.1 h;rw[ahm]at hj;split at hj
 ·rename_i aE
  obtain⟨f,hf,hid⟩:=Cb aE;rw[hf]at hj;cases hj;exact hid
 ·cases hj
theorem Nv{L:List az}{n:Int}(ha:EF L){g:az}(h:g∈L.drop (ahead L n)):n<=g.id:=by
 obtain⟨j,hj⟩:=ahX.1 h;rw[ah_]at hj;exact xD ha (Nat.le_add_right _ _) hj
theorem F8{L:List az}{n:Int}(ha:EF L)(hb:hasB L n=true){g:az}(h:g∈L.drop (ahead L n+1)):n<g.id:=by
 have aE:=Bo hb;have hd:=ah3 aE;have hp:(L.drop (ahead L n)).Pairwise fun a b=>a.id<b.id:=ha.sublist (aii _ _)
 rw[hd]at hp;have h1:=(ais.1 hp).1 g h;rw[zo (ag8 aE),decide_eq_true_eq]at hb;omega
theorem Nw{L:List az}{n:Int}(ha:EF L)(hb:hasB L n=false){g:az}(h:g∈L.drop (ahead L n)):n<g.id:=by
 have h1:=Nv ha h;rcases aiR h1 with h2|h2
 ·exact h2
 ·exfalso
  rcases af8 (ahead L n) L.length with aE|Qk
  ·have hd:=ah3 aE
   have hp:(L.drop (ahead L n)).Pairwise fun a b=>a.id<b.id:=ha.sublist (aii _ _)
   rw[hd]at hp h;have h3:n<=L[ahead L n].id:=xD ha nR (ag8 aE);rw[zo (ag8 aE),decide_eq_false_iff_not]at hb;rcases ab'.1 h with rfl|h
   ·omega
   ·have:=(ais.1 hp).1 g h
    omega
  ·rw[List.drop_eq_nil_of_le Qk]at h
   simp at h
theorem GS{L:List az}(h:k<L.length)(f:az):L.set k f=L.take k++f::L.drop (k+1):=by
 rw[List.set_eq_take_append_cons_drop,if_pos h]
theorem Rh{a b:List az}{f:az}(ha:EF a)(hb:EF b)(h1:∀g∈a,g.id<f.id)(h2:∀g∈b,f.id<g.id):EF (a++f::b):=by
 refine adz.2 ⟨ha,ais.2 ⟨h2,hb⟩,?_⟩;intro x hx y hy;have hx':=h1 x hx;rcases ab'.1 hy with rfl|hy
 ·exact hx'
 ·have:=h2 y hy
  omega
theorem Ou(L:List az)(f:az):∃b,zJ L f=L.take (ahead L f.id)++f::b/\(EF L->EF b/\∀g∈b,f.id<g.id):=by
 unfold zJ
 by_cases hb:hasB L f.id=true
 ·rw[if_pos hb,GS (Bo hb)]
  exact⟨_,rfl,fun ha=>⟨ha.sublist (aii _ _),fun g hg=>F8 ha hb hg⟩⟩
 ·rw[if_neg hb]
  exact⟨_,rfl,fun ha=>⟨ha.sublist (aii _ _),fun g hg=>Nw ha (by simpa using hb) hg⟩⟩
theorem LC{L:List az}(ha:EF L)(f:az):EF (zJ L f):=by
 obtain⟨b,e,h⟩:=Ou L f;rw[e];exact Rh (ha.sublist (List.take_sublist _ _)) (h ha).1 (fun g hg=>Ed hg) (h ha).2
theorem F7{L:List az}(ha:EF L)(n:Int):EF (tT L n):=by
 unfold tT;split
 ·rename_i hb
  refine adz.2 ⟨ha.sublist (List.take_sublist _ _),ha.sublist (aii _ _),fun x hx y hy=>?_⟩;have:=Ed hx;have:=F8 ha hb hy;omega
 ·exact ha
structure ww(s:St):Prop where
 U2:EF s.ax
 ids:∀f∈s.ax,bZ f.id=true
 len:s.ax.length<=1000000
theorem CH(c:UInt8):∀ws:List BL,(glue c ws).length<=(ws.map fun w=>w.length+1).sum
 |[]=>by simp[glue]
 |[w]=>by simp[glue]
 |w::v::r=>by
  have:=CH c (v::r);rw[glue,ag2,agj,aix,aiS];omega
theorem QN(h:Fc l=true):l.length<=20:=by
 unfold Fc at h;rw[aeu,decide_eq_true_eq]at h;rcases h with rfl|h
 ·simp
 ·exact ff h
theorem Mw{n:Nat}(h:l.length<=n)(hn:1<=n):(fF l).length<=n:=by
 unfold fF;split
 ·simpa using hn
 ·exact h
theorem vg{e:Ev}(h:gG e=true):(mq e).length<=180:=by
 unfold mq;refine aiC (CH 32 _) ?_;rcases jj h with⟨hk,_,_,hf⟩|⟨hk,_,_,hn⟩|⟨hk,_,_,hn⟩
 ·obtain⟨h1,h2,h3,h4,h5,h6,h7,h8⟩:=bV hf
  have k1:=mF h1;have k2:=mF h2;have k3:=mF h3;have k4:=mF h4;have k5:=ff h5;have k6:=ff h6;have k7:=Mw (QN h7) dC;have k8:=Mw (se h8) dC;have k9:(vQ e.bA.dead).length=1:=by unfold vQ;split<;>rfl
  rw[Kj hk];simp only[Ko,aix,ajh,aiS,akd,agj,ajE];omega
 ·have:=mF hn
  rw[Kk hk];simp only[aix,ajh,aiS,akd,agj,ajE];omega
 ·have:=mF hn
  rw[Ga hk];simp only[aix,ajh,aiS,akd,agj,ajE];omega
theorem Hl(h:(95:UInt8) ∉ l):xp (fF l)=l:=by
 unfold fF;split
 ·rename_i e
  rw[e];rfl
 ·unfold xp
  rw[if_neg];rintro rfl;simp at h
theorem Nq(b:Bool):decide (vQ b=[49])=b:=by cases b<;>decide
theorem U9{e:Ev}(h:gG e=true):mW (Iq e)=e:=by
 rcases jj h with⟨hk,hi,ht,hf⟩|⟨hk,hz,ht,hn⟩|⟨hk,hz,hi,hn⟩
 ·obtain⟨h1,h2,h3,h4,h5,h6,h7,h8⟩:=bV hf
  have n7:xp (fF e.bA.request.data.toList)=e.bA.request.data.toList:=Hl (GO h7 dC);have n8:xp (fF e.bA.scope.data.toList)=e.bA.scope.data.toList:=Hl (AG h8 dC dC);rw[Kj hk];unfold Ko mW;obtain⟨k,⟨a,b,c,d,g,m,u,r,de⟩,id,ti⟩:=e;dsimp only at*;subst hk hi ht;rw[n7,n8,jA h1,jA h2,jA h3,jA h4,gC,gC,gC,gC,Nq]
 ·rw[Kk hk]
  obtain⟨k,bA,id,ti⟩:=e;dsimp only at*;subst hk hz ht;simp only[mW];rw[if_pos trivial,jA hn]
 ·rw[Ga hk]
  obtain⟨k,bA,id,ti⟩:=e;dsimp only at*;subst hk hz hi;simp only[mW];rw[if_neg dC,jA hn]
theorem Ki{e:Ev}(h:gG e=true):kK (mq e)=true/\jM (mq e)=e:=by
 have hc:mW (parts 32 (mq e))=e:=by rw[GF h,U9 h]
 have hr:kK (mq e)=true:=GM.2 (by rw[hc];exact⟨h,rfl⟩);refine⟨hr,?_⟩;unfold jM;rw[if_pos hr,hc]
theorem JS{e:Ev}(h:e.kind=1)(s:St):av s e=⟨s.clock,max s.next (e.bA.id+1),zJ s.ax e.bA⟩:=by unfold av;rw[if_pos h]
theorem UT{e:Ev}(h:e.kind=2)(s:St):av s e=⟨s.clock,s.next,tT s.ax e.id⟩:=by unfold av;rw[if_neg oM,if_pos h]
theorem M9{s:St}(ha:EF s.ax)(e:Ev):EF (av s e).ax:=by
 unfold av;split
 ·exact LC ha _
 ·split
  ·exact F7 ha _
  ·split<;>exact ha
theorem M_{s:St}{e:Ev}(hs:∀f∈s.ax,bZ f.id=true)(h1:e.kind=1->bZ e.bA.id=true):∀f∈(av s e).ax,bZ f.id=true:=by
 intro f;unfold av;split
 ·rename_i hk
  intro hf;rcases C4 hf with rfl|hf
  ·exact h1 hk
  ·exact hs f hf
 ·split
  ·intro hf
   exact hs f (zE hf)
  ·split<;>exact hs f
theorem wB(s:St)(e:Ev):(av s e).ax.length<=s.ax.length+1:=by
 unfold av;split
 ·exact Xu _ _
 ·split
  ·have:=RA s.ax e.id
   (show(tT s.ax e.id).length<=_);omega
  ·split<;>simp
def rQ(x:Int):Bool:=decide (0<=x)&&decide (x<=1099511627777)
theorem cK{x:Int}:rQ x=true↔0<=x/\x<=1099511627777:=by simp[rQ]
theorem zG{x:Int}(h:rQ x=true):bZ x=true\/x=1099511627777:=by
 have:=cK.1 h
 by_cases hx:x<=1099511627776
 ·exact .inl (aX.2 ⟨this.1,hx⟩)
 ·exact .inr oM
theorem Ll{x:Int}(h:bZ x=true):rQ x=true:=by have:=aX.1 h;exact cK.2 oM
theorem Ef:aax 1099511627777=[49,48,57,57,53,49,49,54,50,55,55,55,55]:=kR
theorem jL{x:Int}(h:rQ x=true):(aax x).length<=13:=by
 rcases zG h with h|rfl
 ·exact mF h
 ·rw[Ef];decide
theorem jC{x:Int}(h:rQ x=true){c:UInt8}(hc:¬ (48<=c.toNat/\c.toNat<=57)):c ∉ aax x:=by
 rcases zG h with h|rfl
 ·exact lI h hc
 ·rw[Ef]
  intro hm;apply hc;simp only[ab',adn,or_false]at hm;rcases hm with rfl|rfl|rfl|rfl|rfl|rfl|rfl|rfl|rfl|rfl|rfl|rfl|rfl<;>decide
theorem Ai{x:Int}(h:rQ x=true):aa (aax x)=x/\jc (aax x)=true:=by
 rcases zG h with h|rfl
 ·exact⟨jA h,wC h⟩
 ·rw[Ef]
  have:Lib.atoiAll [49,48,57,57,53,49,49,54,50,55,55,55,55]=.ok 1099511627777:=kR;unfold aa jc;rw[this];exact⟨rfl,rfl⟩
theorem Sa{x y:Int}(hx:rQ x=true)(hy:rQ y=true)(h:aax x=aax y):x=y:=by rw[<-(Ai hx).1,h,(Ai hy).1]
def x7(s:BL):BL:=(s.reverse.takeWhile fun c=>c != 32).reverse
def rG(s:BL):Option (BL×BL):=if 32∈s then some (s.take (s.length - (x7 s).length - 1),x7 s)else none
theorem oL{p:UInt8->Bool}:∀{a:BL} {c:UInt8} {b:BL},(∀x∈a,p x=true)->p c=false->(a++c::b).takeWhile p=a
 |[],c,b,_,hc=>by simp[hc]
 |x::a,c,b,h,hc=>by
  rw[List.cons_append,aiH,if_pos (h x (ait ..)),oL (fun y hy=>h y (acU _ hy)) hc]
theorem KX{x t:BL}(ht:32 ∉ t):x7 (x++32::t)=t:=by
 unfold x7;rw[List.reverse_append,List.reverse_cons,aho,ajY,oL,List.reverse_reverse]
 ·intro y hy
  have:y≠32:=fun e=>ht (by rw[<-e];exact List.mem_reverse.1 hy)
  simpa using this
 ·simp
theorem Cm{x t:BL}(ht:32 ∉ t):rG (x++32::t)=some (x,t):=by
 unfold rG;rw[KX ht,if_pos sP]
 congr 2
 rw[ag2,agj];have:x.length+(t.length+1) - t.length - 1=x.length:=by omega
 rw[this,aiu]
def eC(s:BL):BL:=s.takeWhile fun c=>c != 32
def cQ(s:BL):BL:=(s.dropWhile fun c=>c != 32).drop 1
theorem zk{a b:BL}(h:32 ∉ a):eC (a++32::b)=a/\cQ (a++32::b)=b:=by
 have ha:∀x∈a,(x != 32)=true:=fun x hx=>by
  have:x≠32:=fun e=>h (by rw[<-e];exact hx)
  simpa using this
 have h1:eC (a++32::b)=a:=oL ha sP;refine⟨h1,?_⟩;unfold cQ;have h2:=List.takeWhile_append_dropWhile (p:=fun c:UInt8=>c != 32) (l:=a++32::b);unfold eC at h1;rw[h1]at h2;have h3:=List.append_cancel_left h2;rw[h3];rfl
structure Ah(tg:Int->BL->BL):Prop where
 len:∀k l,(tg k l).length=16
 free:∀k l,(32:UInt8) ∉ tg k l
section
variable(tg:Int->BL->BL)
def sV(x:BL):BL:=x++32::tg 0 x
def iA(s:BL):Option (BL):=match rG s with
 |some (x,t)=>if t=tg 0 x then some x else none
 |none=>none
def k_(n:Int)(e:Ev):BL:=sV tg (aax n++32::mq e)
def rW(n:Int)(s:BL):Option Ev:=match iA tg s with
 |some x=>if eC x=aax n then(if kK (cQ x)then some (jM (cQ x))else none)else none
 |none=>none
def bU(f:az):Ev:=⟨1,f,0,0⟩
def headW(n from_:Int)(s:St)(all:BL):List BL:=[aax n,aax from_,aax s.clock,aax s.next,aax (s.ax.length:Int),tg 1 all]
def ig(L:List az):BL:=L.flatMap fun f=>mq (bU f)++[10]
def lq(n from_:Int)(s:St):BL:=sV tg (glue 32 (headW tg n from_ s (ig s.ax)))
def jU(w:BL):Bool:=jc w&&rQ (aa w)
def lm(blk:Nat->BL)(at_:Nat)(s:St):Nat->Option (St×BL)
 |0=>some (s,[])
 |n+1=>match lm blk at_ s n with
  |some (st,all)=>if kK (blk (at_+1+n))&&decide ((jM (blk (at_+1+n))).kind=1)then some (av st (jM (blk (at_+1+n))),all++blk (at_+1+n)++[10])else none
  |none=>none
def aI(k:Nat):Nat:=16+k % 2*21
def jm(blk:Nat->BL)(k:Nat):Option (Int×Int×St):=match iA tg (blk (aI k))with
 |some x=>match parts 32 x with
  |[a,b,c,d,e,t]=>if jU a&&jU b&&jU c&&jU d&&jU e&&decide (aa e<=20)then
   (match lm blk (aI k) ⟨aa c,aa d,[]⟩ (aa e).toNat with
    |some (st,all)=>if tg 1 all=t/\aa a % 2=(k:Int)then some (aa a,aa b,st)else none
    |none=>none)else none
  |_=>none
 |none=>none
end
section
variable{tg:Int->BL->BL}(ht:Ah tg)
include ht
theorem vv(x:BL):iA tg (sV tg x)=some x:=by
 unfold iA sV;rw[Cm (ht.free 0 x)];simp
theorem IW{n:Int}{e:Ev}(hn:rQ n=true)(he:gG e=true):rW tg n (k_ tg n e)=some e:=by
 unfold rW k_;rw[vv ht];obtain⟨h1,h2⟩:=zk (a:=aax n) (b:=mq e) (jC hn dC);obtain⟨h3,h4⟩:=Ki he;simp only[h1,h2,h3,h4,if_true]
theorem Fb{n:Int}{e:Ev}(hn:rQ n=true)(hm:rQ m=true)(eZ:n≠m):rW tg n (k_ tg m e)=none:=by
 unfold rW k_;rw[vv ht];obtain⟨h1,_⟩:=zk (a:=aax m) (b:=mq e) (jC hm dC);simp only[h1];rw[if_neg fun h=>eZ (Sa hn hm h.symm)]
end
section
variable{tg:Int->BL->BL}
theorem LG(n:Int):rW tg n []=none:=rfl
theorem zC{blk:Nat->BL}(hh:blk (aI k)=[]):jm tg blk k=none:=by
 unfold jm;rw[hh];rfl
end
theorem GN(h:kK l=true):gG (jM l)=true:=by
 unfold jM;rw[if_pos h];exact(GM.1 h).1
structure Fit(s:St):Prop where
 U2:EF s.ax
 ax:∀f∈s.ax,pU f=true
 clock:bZ s.clock=true
 next:rQ s.next=true
 above:∀f∈s.ax,f.id<s.next
 len:s.ax.length<=20
theorem Fit.ok{s:St}(h:Fit s):ww s:=⟨h.U2,fun f hf=>(bV (h.ax f hf)).1,by have:=h.len;omega⟩
theorem Fit.start:Fit ⟨0,1,[]⟩:=⟨List.Pairwise.nil,fun f hf=>by simp at hf,by decide,by decide,fun f hf=>by simp at hf,ahW _⟩
theorem qP{f:az}(h:pU f=true):gG (bU f)=true:=by unfold bU;rw[Bl];exact h
theorem FT{n:Int}:∀L:List az,(∀g∈L,g.id<n)->ahead L n=L.length
 |[],_=>rfl
 |g::L,h=>by rw[wA,if_pos (h g (ait ..)),FT L fun x hx=>h x (acU _ hx),agj]
theorem Xt{L:List az}{f:az}(h:∀g∈L,g.id<f.id):zJ L f=L++[f]:=by
 have ha:ahead L f.id=L.length:=FT L h;unfold zJ;rw[zn ha,if_neg dC,ha,ajy,akq]
theorem Fit.apply{s:St}{e:Ev}(h:Fit s)(he:gG e=true)(hl:(av s e).ax.length<=20):Fit (av s e):=by
 rcases jj he with⟨hk,_,_,hf⟩|⟨hk,_,_,_⟩|⟨hk,_,_,hn⟩
 ·rw[JS hk]at hl ⊢
  have hid:=aX.1 (bV hf).1;have NT:=cK.1 h.next;refine⟨LC h.U2 _,fun g hg=>?_,h.clock,?_,fun g hg=>?_,hl⟩
  ·rcases C4 hg with rfl|hg
   ·exact hf
   ·exact h.ax g hg
  ·rw[cK]
   (show 0<=max s.next (e.bA.id+1)/\max s.next (e.bA.id+1)<=_);omega
  ·show g.id<max s.next (e.bA.id+1)
   rcases C4 hg with rfl|hg
   ·omega
   ·have:=h.above g hg
    omega
 ·rw[UT hk]at hl ⊢
  exact⟨F7 h.U2 _,fun g hg=>h.ax g (zE hg),h.clock,h.next,fun g hg=>h.above g (zE hg),hl⟩
 ·have e3:av s e=⟨e.time,s.next,s.ax⟩:=by unfold av;rw[if_neg oM,if_neg oM,if_pos hk]
  rw[e3];exact⟨h.U2,h.ax,hn,h.next,h.above,h.len⟩
theorem FU(L:List az)(f:az):ig (L++[f])=ig L++mq (bU f)++[10]:=by
 unfold ig;rw[List.flatMap_append];simp
theorem Aq{blk:Nat->BL}{at_:Nat}{s:St}(h:Fit s)(hb:∀i f,s.ax[i]?=some f->blk (at_+1+i)=mq (bU f)):∀n,n<=s.ax.length->lm blk at_ ⟨s.clock,s.next,[]⟩ n=some (⟨s.clock,s.next,s.ax.take n⟩,ig (s.ax.take n))
 |0,_=>by simp[lm,ig]
 |n+1,hn=>by
  have aE:n<s.ax.length:=by omega
  have hf:=ag8 aE;have hfm:=aiz aE;have hfB:=h.ax _ hfm;obtain⟨h1,h2⟩:=Ki (qP hfB);have hkd:(bU s.ax[n]).kind=1:=rfl;rw[lm,Aq h hb n oM,hb n _ hf];dsimp only;rw[h1,h2,hkd];simp only[decide_true,akx,if_true,akk,Prod.mk.injEq];have htk:s.ax.take (n+1)=s.ax.take n++[s.ax[n]]:=by rw[ai6,hf];rfl
  rw[htk];refine⟨?_,(FU _ _).symm⟩
  have aem:∀g∈s.ax.take n,g.id<s.ax[n].id:=by
   intro g hg;obtain⟨j,hj⟩:=ahX.1 hg;rw[ahm]at hj;split at hj
   ·rename_i hjn
    (have Qm:j<s.ax.length:=by omega);rw[ag8 Qm]at hj;obtain rfl:=ahK hj;exact aiq.1 h.U2 j n Qm aE hjn
   ·cases hj
  rw[JS (show(bU s.ax[n]).kind=1 from rfl)];dsimp only[bU];rw[Xt aem];have:=h.above _ hfm
  congr 1
  omega
section
variable{tg:Int->BL->BL}(ht:Ah tg)
include ht
theorem CJ{n f:Int}{s:St}(hn:rQ n=true)(hf:rQ f=true)(h:Fit s)(all:BL):∀w∈headW tg n f s all,(32:UInt8) ∉ w:=by
 intro w hw;have hl:=h.len;simp only[headW,ab',adn,or_false]at hw;rcases hw with rfl|rfl|rfl|rfl|rfl|rfl
 ·exact jC hn dC
 ·exact jC hf dC
 ·exact jC (Ll h.clock) dC
 ·exact jC h.next dC
 ·exact jC (cK.2 oM) dC
 ·exact ht.free 1 all
theorem CW{blk:Nat->BL}{n f:Int}{s:St}(h:Fit s)(hn:rQ n=true)(hf:rQ f=true)(hk:n % 2=(k:Int))(hh:blk (aI k)=lq tg n f s)(hb:∀i g,s.ax[i]?=some g->blk (aI k+1+i)=mq (bU g)):
  jm tg blk k=some (n,f,s):=by
 have hl:=h.len;have hlen:rQ (s.ax.length:Int)=true:=cK.2 oM;have hw:=CJ ht hn hf h (ig s.ax);have hp:parts 32 (glue 32 (headW tg n f s (ig s.ax)))=headW tg n f s (ig s.ax):=rR 32 _ (by simp[headW]) hw;unfold jm;rw[hh];unfold lq;rw[vv ht];dsimp only;rw[hp];unfold headW;dsimp only;obtain⟨a1,a2⟩:=Ai hn;obtain⟨b1,b2⟩:=Ai hf;obtain⟨c1,c2⟩:=Ai (Ll h.clock);obtain⟨d1,d2⟩:=Ai h.next;obtain⟨e1,e2⟩:=Ai hlen;have g1:jU (aax n)=true:=by unfold jU;rw[a1,a2,hn];rfl
 have g2:jU (aax f)=true:=by unfold jU;rw[b1,b2,hf];rfl
 have g3:jU (aax s.clock)=true:=by unfold jU;rw[c1,c2,Ll h.clock];rfl
 have g4:jU (aax s.next)=true:=by unfold jU;rw[d1,d2,h.next];rfl
 have g5:jU (aax (s.ax.length:Int))=true:=by unfold jU;rw[e1,e2,hlen];rfl
 rw[g1,g2,g3,g4,g5,a1,b1,c1,d1,e1];have hle:decide ((s.ax.length:Int)<=20)=true:=by rw[decide_eq_true_eq];omega
 rw[hle];simp only[akx,if_true,akj];rw[Aq h hb _ nR,ajy];simp[hk]
theorem Lb{blk:Nat->BL}{n f g:Int}{s st:St}(h:Fit s)(hn:rQ n=true)(hf:rQ f=true)(hh:blk (aI k)=lq tg n f s)(hl:jm tg blk k=some (m,g,st)):m=n:=by
 have hw:=CJ ht hn hf h (ig s.ax);have hp:parts 32 (glue 32 (headW tg n f s (ig s.ax)))=headW tg n f s (ig s.ax):=rR 32 _ (by simp[headW]) hw;unfold jm at hl;rw[hh]at hl;unfold lq at hl;rw[vv ht]at hl;dsimp only at hl;rw[hp]at hl;unfold headW at hl;dsimp only at hl;split at hl
 ·split at hl
  ·split at hl
   ·obtain⟨h1,_⟩:=Prod.mk.inj (ahK hl)
    rw[<-h1,(Ai hn).1]
   ·cases hl
  ·cases hl
 ·cases hl
end
def upd(blk:Nat->BL)(k:Nat)(x:BL):Nat->BL:=fun j=>if j=k then x else blk j
theorem upd_same(blk:Nat->BL)(k:Nat)(x:BL):upd blk k x k=x:=by simp[upd]
theorem ja(blk:Nat->BL)(x:BL)(h:j≠k):upd blk k x j=blk j:=by simp[upd,h]
def oI:St:=⟨0,1,[]⟩
section
variable(tg:Int->BL->BL)
def js(a:Int×Int×St):Option (Int×Int×St)->Int×Int×St
 |some b=>if b.1>a.1 then b else a
 |none=>a
theorem mo(a b:Int×Int×St):js a (some b)=if b.1>a.1 then b else a:=rfl
def GI(blk:Nat->BL):Int×Int×St:=js (js (0,0,oI) (jm tg blk 0)) (jm tg blk 1)
def wJ(blk:Nat->BL)(from_ n:Int):Option Ev:=if n - from_>=16 then none else rW tg n (blk (n % 16).toNat)
def ym(blk:Nat->BL)(from_:Int):Nat->Int->St->St×Int
 |0,n,s=>(s,n)
 |fuel+1,n,s=>match wJ tg blk from_ n with
  |some e=>ym blk from_ fuel (n+1) (av s e)
  |none=>(s,n)
structure fK(blk:Nat->BL)(n f x:Int)(s0:St)(es:List Ev):Prop where
 fit:Fit s0
 n0:0<=n
 n1:n<=1000000
 f0:0<=f
 x1:x<=1000000
 xe:x=f+es.length
 len:es.length<=16
 evs:∀e∈es,gG e=true
 log:∀(i:Nat) e,es[i]?=some e->blk ((f+i) % 16).toNat=k_ tg (f+i) e
 old:∀j:Nat,j<16->blk j=[]\/∃(m:Int) (e:Ev),0<=m/\m<x/\m % 16=(j:Int)/\blk j=k_ tg m e
 none_:n=0->s0=oI/\f=0/\blk (aI 0)=[]
 here:0<n->blk (aI (n % 2).toNat)=lq tg n f s0/\∀i g,s0.ax[i]?=some g->blk (aI (n % 2).toNat+1+i)=mq (bU g)
 other:blk (aI ((n+1) % 2).toNat)=[]\/∃(m g:Int) (s:St),Fit s/\rQ m=true/\rQ g=true/\m<n/\blk (aI ((n+1) % 2).toNat)=lq tg m g s
end
theorem ajZ:aI 0=16:=rfl
theorem RB(tg:Int->BL->BL):fK tg (fun _=>[]) 0 0 0 oI []:=
 ⟨Fit.start,aiQ _,by decide,aiQ _,by decide,rfl,ahW _,fun e he=>by simp at he,fun i e he=>by simp at he,fun _ _=>.inl rfl,fun _=>⟨rfl,rfl,rfl⟩,fun h=>absurd h dC,.inl rfl⟩
section
variable{tg:Int->BL->BL}{blk:Nat->BL}{n f x:Int}{s0:St}{es:List Ev}
theorem fK.okn(h:fK tg blk n f x s0 es):rQ n=true:=by have:=h.n0;have:=h.n1;exact cK.2 oM
theorem fK.okx(h:fK tg blk n f x s0 es)(h0:0<=m)(h1:m<=x):rQ m=true:=by have:=h.x1;exact cK.2 oM
theorem fK.okf(h:fK tg blk n f x s0 es):rQ f=true:=h.okx h.f0 (by have:=h.xe;omega)
theorem fK.pick(ht:Ah tg)(h:fK tg blk n f x s0 es):GI tg blk=(n,f,s0):=by
 have yU:=h.n0;rcases aiR yU with hn|hn
 ·obtain⟨hh,hb⟩:=h.here hn
  have hm:n % 2=0\/n % 2=1:=by omega
  have V4:∀k:Nat,k=((n+1) % 2).toNat->∀b,jm tg blk k=some b->b.1<n:=by
   rintro k rfl ⟨m,g,st⟩ hb;rcases h.other with e|⟨m',g',s',hf,Bq,hg',aE,e⟩
   ·rw[zC e]at hb
    cases hb
   ·have:=Lb ht hf Bq hg' e hb
    (show m<n);omega
  rcases hm with hm|hm
  ·rw[hm]at hh hb
   (have h1:=CW ht h.fit h.okn h.okf (k:=0) oM hh hb;unfold GI;rw[h1];have h2:js (0,0,oI) (some (n,f,s0))=(n,f,s0):=by rw[mo,if_pos (by show n>0;omega)]);rw[h2];rcases e:jm tg blk 1 with _|b
   ·rfl
   ·have:=V4 1 oM b e
    rw[mo,if_neg (by show ¬ b.1>n;omega)]
  ·rw[hm]at hh hb
   have h1:=CW ht h.fit h.okn h.okf (k:=1) oM hh hb;unfold GI;rw[h1];rcases e:jm tg blk 0 with _|b
   ·show js (0,0,oI) (some (n,f,s0))=_
    rw[mo,if_pos (by show n>0;omega)]
   ·have hbn:=V4 0 oM b e
    have h3:(js (0,0,oI) (some b)).1<n:=by
     rw[mo];split;(·exact hbn)
     ·show(0:Int)<n
      omega
    generalize js (0,0,oI) (some b)=c at*;(show js c (some (n,f,s0))=_);rw[mo,if_pos (by show n>c.1;omega)]
 ·obtain⟨hs,hf,h0⟩:=h.none_ hn.symm
  have h1:blk (aI 1)=[]:=by
   have ho:=h.other;rw[<-hn]at ho;rcases ho with e|⟨m,g,s,_,hm,_,aE,_⟩
   ·exact e
   ·have:=cK.1 hm
    omega
  unfold GI;rw[zC h0,zC h1,<-hn,hs,hf];rfl
theorem fK.acw(ht:Ah tg)(h:fK tg blk n f x s0 es){e:Ev}(he:es[i]?=some e):wJ tg blk f (f+i)=some e:=by
 have hl:=(ag6.1 he).1;have hlen:=h.len;have hf:=h.f0;have hx:=h.xe;unfold wJ;rw[if_neg oM,h.log i e he];exact IW ht (h.okx oM oM) (h.evs e (ahG he))
theorem fK.stop(ht:Ah tg)(h:fK tg blk n f x s0 es):wJ tg blk f x=none:=by
 unfold wJ;split
 ·rfl
 ·have hf:=h.f0
  have hx:=h.xe;have hj:(x % 16).toNat<16:=by omega
  rcases h.old _ hj with e|⟨m,e,h0,h1,h2,h3⟩
  ·rw[e]
   exact LG x
  ·rw[h3]
   exact Fb ht (h.okx oM (aiQ _)) (h.okx h0 oM) oM
theorem fK.replay(ht:Ah tg)(h:fK tg blk n f x s0 es):∀(k fuel i:Nat) (s:St),i+k=es.length->k<fuel->ym tg blk f fuel (f+i) s=((es.drop i).foldl av s,x)
 |0,0,_,_,_,hk=>absurd hk (ah' _)
 |0,fuel+1,i,s,hi,_=>by
  have e:f+(i:Int)=x:=by have:=h.xe;omega
  rw[e,ym,h.stop ht,ajT oM];rfl
 |k+1,0,_,_,_,hk=>absurd hk (ah' _)
 |k+1,fuel+1,i,s,hi,hk=>by
  have aE:i<es.length:=by omega
  have he:=ag8 aE;rw[ym,h.acw ht he];dsimp only;have e:f+(i:Int)+1=f+((i+1:Nat):Int):=by omega
  rw[e,h.replay ht k fuel (i+1) _ oM oM,ah3 aE,List.foldl_cons]
theorem fK.opened(ht:Ah tg)(h:fK tg blk n f x s0 es):GI tg blk=(n,f,s0)/\ym tg blk f 17 f s0=(es.foldl av s0,x):=by
 refine⟨h.pick ht,?_⟩;have:=h.replay ht es.length 17 0 s0 oM (by have:=h.len;omega);simpa using this
theorem Dp{n:Int}(_:0<=n):aI (n % 2).toNat≠aI ((n+1) % 2).toNat/\16<=aI (n % 2).toNat/\16<=aI ((n+1) % 2).toNat/\(aI (n % 2).toNat+21<=aI ((n+1) % 2).toNat\/aI ((n+1) % 2).toNat+21<=aI (n % 2).toNat):=by
 have:n % 2=0/\(n+1) % 2=1\/n % 2=1/\(n+1) % 2=0:=by omega
 rcases this with⟨a,b⟩|⟨a,b⟩
 ·rw[a,b];decide
 ·rw[a,b];decide
theorem fK.add(h:fK tg blk n f x s0 es){e:Ev}(he:gG e=true)(hl:es.length<16)(hx:x<1000000):fK tg (upd blk (x % 16).toNat (k_ tg x e)) n f (x+1) s0 (es++[e]):=by
 have hf:=h.f0;have hxe:=h.xe;have hj:(x % 16).toNat<16:=by omega
 obtain⟨h1,h2,h3,h4⟩:=Dp h.n0;refine⟨h.fit,h.n0,h.n1,hf,by omega,by rw[ag2,aij];omega,by rw[ag2,aij];omega,fun g hg=>?_,fun i g hg=>?_,fun j YY=>?_,fun h0=>?_,fun h0=>?_,?_⟩
 ·rw[adh,List.mem_singleton]at hg
  rcases hg with hg|rfl
  ·exact h.evs g hg
  ·exact he
 ·by_cases hi:i<es.length
  ·rw[air hi]at hg
   rw[ja _ _ oM];exact h.log i g hg
  ·have hil:=(ag6.1 hg).1
   (rw[ag2,aij]at hil;have hie:i=es.length:=by omega);subst hie;rw[aiZ nR,akc]at hg;simp at hg;subst hg;rw[<-hxe,upd_same]
 ·by_cases hje:j=(x % 16).toNat
  ·subst hje
   rw[upd_same];exact .inr ⟨x,e,by omega,by omega,by omega,rfl⟩
  ·rw[ja _ _ hje]
   rcases h.old j YY with e'|⟨m,g,a,b,c,d⟩
   ·exact .inl e'
   ·exact .inr ⟨m,g,a,by omega,c,d⟩
 ·rw[ja _ _ (by rw[ajZ];omega)]
  exact h.none_ h0
 ·obtain⟨a,b⟩:=h.here h0
  refine⟨by rw[ja _ _ oM];exact a,fun i g hg=>by rw[ja _ _ oM];exact b i g hg⟩
 ·rw[ja _ _ oM]
  exact h.other
theorem fK.part(h:fK tg blk n f x s0 es){Nn:Nat->BL}(hp:∀j,(j<=aI ((n+1) % 2).toNat\/aI ((n+1) % 2).toNat+21<=j)->Nn j=blk j):fK tg Nn n f x s0 es:=by
 obtain⟨h1,h2,h3,h4⟩:=Dp h.n0;have hlen:=h.fit.len;refine⟨h.fit,h.n0,h.n1,h.f0,h.x1,h.xe,h.len,h.evs,fun i g hg=>?_,fun j hj=>?_,fun h0=>?_,fun h0=>?_,?_⟩
 ·rw[hp _ oM]
  exact h.log i g hg
 ·rw[hp _ oM]
  exact h.old j hj
 ·rw[hp _ (by subst h0;exact .inl dC)]
  exact h.none_ h0
 ·obtain⟨a,b⟩:=h.here h0
  refine⟨by rw[hp _ oM];exact a,fun i g hg=>?_⟩;have:=(ag6.1 hg).1;rw[hp _ oM];exact b i g hg
 ·rw[hp _ (.inl nR)]
  exact h.other
theorem fK.GQ(h:fK tg blk n f x s0 es)(ed:Fit (es.foldl av s0))(hn:n<1000000){Nn:Nat->BL}(KP:∀j,(j<aI ((n+1) % 2).toNat\/aI ((n+1) % 2).toNat+21<=j)->Nn j=blk j)(hh:Nn (aI ((n+1) % 2).toNat)=lq tg (n+1) x (es.foldl av s0))(hb:∀i g,(es.foldl av s0).ax[i]?=some g->Nn (aI ((n+1) % 2).toNat+1+i)=mq (bU g)):
  fK tg Nn (n+1) x x (es.foldl av s0) []:=by
 obtain⟨h1,h2,h3,h4⟩:=Dp h.n0;have yU:=h.n0;have hf:=h.f0;have hxe:=h.xe;refine⟨ed,by omega,by omega,by omega,h.x1,by simp,ahW _,fun e he=>by simp at he,fun i e he=>by simp at he,fun j hj=>?_,fun h0=>by omega,fun _=>⟨hh,hb⟩,?_⟩
 ·rw[KP _ oM]
  exact h.old j hj
 ·have e2:((n+1+1) % 2).toNat=(n % 2).toNat:=by omega
  rw[e2,KP _ oM];rcases aiR yU with hp|hp
  ·exact .inr ⟨n,f,s0,h.fit,h.okn,h.okf,by omega,(h.here hp).1⟩
  ·subst hp
   exact .inl (h.none_ rfl).2.2
end
def ou(at_:Nat):Nat->List az->List (Nat×BL)
 |_,[]=>[]
 |i,f::r=>(at_+1+i,mq (bU f))::ou at_ (i+1) r
def lT(blk:Nat->BL)(ws:List (Nat×BL)):Nat->BL:=ws.foldl (fun b w=>upd b w.1 w.2) blk
theorem u6(blk:Nat->BL)(w:Nat×BL)(ws:List (Nat×BL)):lT blk (w::ws)=lT (upd blk w.1 w.2) ws:=rfl
theorem Ms(blk:Nat->BL)(ws:List (Nat×BL))(w:Nat×BL):lT blk (ws++[w])=upd (lT blk ws) w.1 w.2:=by
 unfold lT;rw[List.foldl_append];rfl
theorem sG(at_ j:Nat):∀(L:List az) (i:Nat) (blk:Nat->BL),(j<at_+1+i\/at_+1+i+L.length<=j)->lT blk (ou at_ i L) j=blk j
 |[],_,_,_=>rfl
 |f::r,i,blk,h=>by
  rw[agj]at h;rw[ou,u6,sG at_ j r (i+1) _ oM];exact ja _ _ oM
theorem Ho(at_:Nat):∀(L:List az) (i k:Nat) (f:az) (blk:Nat->BL),L[k]?=some f->lT blk (ou at_ i L) (at_+1+(i+k))=mq (bU f)
 |[],_,_,_,_,h=>by simp at h
 |g::r,i,0,f,blk,h=>by
  simp at h;subst h;rw[ou,u6,sG at_ _ r (i+1) _ oM,ake];exact upd_same _ _ _
 |g::r,i,k+1,f,blk,h=>by
  rw[ou,u6];have:=Ho at_ r (i+1) k f (upd blk (at_+1+i) (mq (bU g))) (by simpa using h);rw[show i+1+k=i+(k+1) by omega]at this;exact this
theorem zi(at_:Nat):∀(m i:Nat) (L:List az),(ou at_ i L).take m=ou at_ i (L.take m)
 |0,_,_=>by simp[ou]
 |m+1,_,[]=>by simp[ou]
 |m+1,i,f::r=>by rw[ou,ag9,zi at_ m (i+1) r,ag9,ou]
theorem Kn(at_:Nat):∀(L:List az) (i k:Nat) (f:az),L[k]?=some f->(ou at_ i L)[k]?=some (at_+1+(i+k),mq (bU f))
 |[],_,_,_,h=>by simp at h
 |g::r,i,0,f,h=>by
  simp at h;subst h;simp[ou]
 |g::r,i,k+1,f,h=>by
  have:=Kn at_ r (i+1) k f (by simpa using h);rw[ou,List.getElem?_cons_succ,this,show i+1+k=i+(k+1) by omega]
theorem RH(at_:Nat)(L:List az)(m:Nat)(f:az)(h:L[m]?=some f)(blk:Nat->BL):lT blk (ou at_ 0 (L.take (m+1)))=upd (lT blk (ou at_ 0 (L.take m))) (at_+1+m) (mq (bU f)):=by
 have h1:ou at_ 0 (L.take (m+1))=ou at_ 0 (L.take m)++[(at_+1+m,mq (bU f))]:=by
  rw[<-zi,<-zi,ai6,Kn at_ L 0 m f h,ahq];rfl
 rw[h1,Ms]
section
variable{tg:Int->BL->BL}{blk:Nat->BL}{n f x:Int}{s0:St}{es:List Ev}
theorem fK.cut(h:fK tg blk n f x s0 es)(L:List az)(hl:L.length<=20):fK tg (lT blk (ou (aI ((n+1) % 2).toNat) 0 L)) n f x s0 es:=
 h.part fun j hj=>sG _ j L 0 blk oM
theorem fK.whole(h:fK tg blk n f x s0 es)(ed:Fit (es.foldl av s0))(hn:n<1000000):
  fK tg (upd (lT blk (ou (aI ((n+1) % 2).toNat) 0 (es.foldl av s0).ax)) (aI ((n+1) % 2).toNat) (lq tg (n+1) x (es.foldl av s0))) (n+1) x x (es.foldl av s0) []:=by
 have hl:=ed.len;refine h.GQ ed hn (fun j hj=>?_) (upd_same _ _ _) (fun i g hg=>?_)
 ·rw[ja _ _ oM]
  exact sG _ j _ 0 blk oM
 ·have:=Ho (aI ((n+1) % 2).toNat) (es.foldl av s0).ax 0 i g blk hg
  rw[ahq]at this;rw[ja _ _ oM];exact this
end
open Go.Sort
theorem WK(x:ByteArray)(w:aah):ach prog 194 #[.string x] w fun e w'=>e=.returned (.bool (decide (8<x.size)))/\w=w':=by
 by_cases h:8<x.size
 ·have h1:decide (8<x.size)=true:=by simpa using h
  go_in
  go_wp2_with fail;go_ret;exact⟨by rw[h1];simp;omega,rfl⟩
 ·have h1:decide (8<x.size)=false:=by simpa using h
  go_in
  go_wp2_with fail;go_ret;exact⟨by rw[h1];simp;omega,rfl⟩
def adt(L:List BL)(w:aah)(i:aai)(wr:aah):Prop:=∃k q:Nat,k<=L.length/\i=.int .i64 k/\wr=w.drewN q/\∀j,j<k->oB (L.getD j [])=false
theorem Rb{L:List BL}(hk:k<L.length)(h:oB (L.getD k [])=true):L.any oB=true:=by
 rw[List.any_eq_true];refine⟨L[k],aiz hk,?_⟩;simpa[agv,hk]using h
theorem JR{L:List BL}(h:∀j,j<L.length->oB (L.getD j [])=false):L.any oB=false:=by
 rw[List.any_eq_false];intro x hx;obtain⟨j,hj,rfl⟩:=aj_.1 hx;have:=h j hj;simpa[agv,hj]using this
def Zc(L:List BL)(w:aah)(e:Ending)(w':aah):Prop:=∃(n:Int) (q:Nat),e=.returned (.int .i64 n)/\decide (0<=n)=L.any oB/\w'=w.drewN q
theorem index_long(B g cap:Nat)(L:List BL)(w:aah)(h:Row w B (.slice (some ⟨g,0,none⟩) L.length cap) L)(hL:L.length<=1000000):
  ach prog 218 #[.slice (some ⟨g,0,none⟩) L.length cap,.func (.func 194) #[] #[]] w (Zc L w):=by
 have HR:=zH h;clear h
 go_in
 go_wp2
 go_loopw [8] (fun i wr=>adt L w i wr) (fun i _=>L.length - (ahZ i).toNat)
 case atStart=>exact⟨0,0,ahW _,rfl,rfl,fun j hj=>absurd hj (ah' _)⟩
 case round=>
  obtain⟨k,q,hk,rfl,rfl,nJ⟩:=hrel;have HN:=zH nJ;clear nJ
  by_cases aE:k<L.length
  ·have hc:=(HR.O.drewN q).cell k aE
   (have iS:=aK (L.getD k []);generalize hx:aq (L.getD k [])=x at*;have HX:=zH hx;clear hx);by_cases Qo:8<x.size
   ·have hd:decide (8<x.size)=true:=by simpa using Qo
    have HS:=zH iS;clear iS;go_wp2_with (go_at_call 194;refine(WK _ _).mono ?_;rintro e w1 ⟨rfl,rfl⟩);go_ret;refine⟨k,q,rfl,?_,rfl⟩;rw[Rb aE (by unfold oB;rw[<-HS.O];simpa using Qo)];simp
   ·have hd:decide (8<x.size)=false:=by simpa using Qo
    have HS:=zH iS;clear iS;go_wp2_with (go_at_call 194;refine(WK _ _).mono ?_;rintro e w1 ⟨rfl,rfl⟩);go_roundw
    case rel=>
     (refine⟨k+1,q,by omega,by go_num,rfl,fun j hj=>?_⟩);by_cases e:j=k
     ·subst e
      unfold oB;rw[<-HS.O];simpa using Qo
     ·exact HN.O j oM
    case measure=>simp[ahZ];omega
  ·go_wp2
   go_ret;refine⟨-1,q,rfl,?_,rfl⟩;rw[JR fun j hj=>HN.O j oM];rfl
theorem ES(B g cap:Nat)(L:List BL)(w:aah)(h:Row w B (.slice (some ⟨g,0,none⟩) L.length cap) L)(hL:L.length<=1000000):
  ach prog 193 #[.slice (some ⟨g,0,none⟩) L.length cap,.func (.func 194) #[] #[]] w fun e w'=>e=.returned (.bool (L.any oB))/\∃q,w'=w.drewN q:=by
 have H:=zH (index_long B g cap L w h hL);clear h
 go_in
 go_wp2_with (go_at_call 218;refine H.O.mono ?_;rintro e w1 ⟨n,q,rfl,hn,rfl⟩;have HN:=zH hn;clear hn);go_ret;exact⟨by rw[<-HN.O];rfl,q,rfl⟩
theorem Ak(L:List BL):(acv L).length<=L.length:=Lib.compact_length_le L
theorem J8{B:Nat}{v:aai}{L:List BL}{w W:aah}(h:Row w B v L)(hB:Below B W w)(hL:L.length<=1000000):
  ach prog 192 #[v] w fun e w'=>∃g cap,e=.returned (.slice (some ⟨g,0,none⟩) (acv L).length cap)/\Row w' B (.slice (some ⟨g,0,none⟩) (acv L).length cap) (acv L)/\Below B W w':=by
 obtain⟨g,cap,rfl,hg,aE,hn,hm,hH⟩:=h.parts;refine(qm g 0 cap L w hH oM hn).mono ?_;rintro e w' ⟨rfl,q,rfl⟩;exact⟨g,cap,rfl,h.cut (Ak L),Lib.below_putRow hB hg⟩
def x9:ByteArray:=⟨#[97,98,99,100,101,102,103,104,105,106,107,108,109,110,111,112,113,114,115,116,117,118,119,120,121,122]⟩
theorem K0(c:UInt8):x9.data.toList.contains c=(decide (97<=c.toNat)&&decide (c.toNat<=122)):=by
 have h:∀n:Fin 256,x9.data.toList.contains (UInt8.ofFin n)=(decide (97<=(UInt8.ofFin n).toNat)&&decide ((UInt8.ofFin n).toNat<=122)):=of_decide_eq_true kR;exact h c.toFin
theorem AB(l:BL):l.all (x9.data.toList.contains ·)=Lc l:=by
 unfold Lc
 congr 1
 funext c
 exact K0 c
theorem YE(x:ByteArray)(w:aah)(hx:x.size<=1000000)(h:Lc x.data.toList=true):
  ach prog 188 #[.string x,.string ⟨#[97,98,99,100,101,102,103,104,105,106,107,108,109,110,111,112,113,114,115,116,117,118,119,120,121,122]⟩] w fun e w'=>e=.returned (.string ⟨#[]⟩)/\Below w.heap.size w w':=
 (oO x9 x w hx dC (ascii_of_all dC)).1 (by rw[AB];exact h)
theorem TV(x:ByteArray)(w:aah)(hx:x.size<=1000000)(h:Lc x.data.toList=false):
  ach prog 188 #[.string x,.string ⟨#[97,98,99,100,101,102,103,104,105,106,107,108,109,110,111,112,113,114,115,116,117,118,119,120,121,122]⟩] w fun e w'=>BV e/\Below w.heap.size w w':=
 (oO x9 x w hx dC (ascii_of_all dC)).2 (by rw[AB];exact h)
def BX(s:ByteArray)(W:aah)(e:Ending)(w':aah):Prop:=
 ∃v,e=.returned (.tuple #[v,cJ (aQ s.data.toList)])/\eG w' W.heap.size v (cR s.data.toList)/\Below W.heap.size W w'
def UL(B:Nat)(W:aah)(v:aai)(L:List BL)(i:aai)(wr:aah):Prop:=
 ∃k:Nat,k<=L.length/\i=.int .i64 k/\Row wr B v L/\Below B W wr/\∀j,j<k->okW (L.getD j [])=true
theorem JP{L:List BL}(h:∀j,j<L.length->okW (L.getD j [])=true):L.all okW=true:=by
 rw[List.all_eq_true];intro x hx;obtain⟨j,hj,rfl⟩:=aj_.1 hx;have:=h j hj;simpa[agv,hj]using this
theorem v_{L:List BL}(hk:k<L.length)(h:okW (L.getD k [])=false):L.all okW=false:=by
 rw[List.all_eq_false];refine⟨L[k],aiz hk,?_⟩;simpa[agv,hk]using h
theorem Dl(w:aah):ach prog 155 #[.string ⟨#[]⟩] w (BX ⟨#[]⟩ w):=by
 go_in
 go_wp2_with fail;go_ret2;exact⟨_,rfl,.inl ⟨rfl,rfl⟩,Below.refl _ _⟩
theorem A9(s:ByteArray)(W:aah)(hs:s.size<=5000)(hm:gp W)(h0:s.data.toList≠ []):ach prog 155 #[.string s] W (BX s W):=by
 have aim:s.toList.isEmpty=false:=by
  rw[<-gC s,toList_txt];simpa using h0
 have H0:=zH h0;have hp:=qN 43 s.data.toList;rw[size_data]at hp;have AX:=zH (qU 43 s W.heap.size W oM hm nR);clear h0 hm;have HPS:Hid (∀w∈parts 43 s.data.toList,w.length<=5000):=zH (bO 43 _ _ (by rw[size_data];exact hs));generalize hL:parts 43 s.data.toList=L at*;have HL:=zH hL;clear hL
 go_in
 go_wp2_with
  (go_at_call 86;refine AX.O.mono ?_;rintro e w1 ⟨v,rfl,hr,hb⟩
   obtain⟨g,cap,rfl,_⟩:=id hr;have HR:=zH hr;have HB:=zH hb;clear hr hb)
 go_loopw [13] (fun i wr=>UL W.heap.size W (.slice (some ⟨g,0,none⟩) L.length cap) L i wr) (fun i _=>L.length - (ahZ i).toNat)
 case atStart=>exact⟨0,ahW _,rfl,HR.O,HB.O,fun j hj=>absurd hj (ah' _)⟩
 case round=>
  obtain⟨k,hk,rfl,hr,hb,nJ⟩:=hrel;clear HR HB AX aim;have HR:=zH hr;have HB:=zH hb;have Jr:=zH nJ;clear hb nJ
  by_cases aE:k<L.length
  ·have hc:=hr.cell k aE
   have iS:(L.getD k []).length<=5000:=by
    have:=HPS.O (L[k]) (aiz aE);simpa[agv,aE]using this
   (clear hr;generalize hx:L.getD k []=x at*;have HX:=zH hx;clear hx);by_cases eZ:x=[]
   ·subst eZ
    rw[show aq []=(⟨#[]⟩:ByteArray)from rfl]at hc;go_wp2_with fail;go_ret2;have h3:aQ s.data.toList=3:=AH H0.O (by rw[HL.O];exact v_ aE (by rw[HX.O];rfl));exact⟨_,by rw[h3];rfl,.inl ⟨rfl,oE (by rw[h3];decide)⟩,HB.O⟩
   ·have aim:(aq x).toList.isEmpty=false:=by rw[toList_txt];simpa using eZ
    (have htx:(aq x).data.toList=x:=an x;have EB:(aq x).size<=1000000:=by rw[aK];omega);(have HTX:=zH htx;clear htx;generalize aq x=y at*);by_cases KP:Lc x=true
    ·have HT:=zH (fun w=>YE y w EB (by rw[HTX.O];exact KP))
     go_wp2_with
      (go_at_call 188;refine(HT.O _).mono ?_;rintro e w2 ⟨rfl,ju⟩
       have MZ:=zH (HR.O.below ju);have gS:=zH (HB.O.T (ju.mono HB.O.size));clear ju)
     go_roundw
     case rel=>
      (refine⟨k+1,by omega,by go_num,MZ.O,gS.O,fun j hj=>?_⟩);by_cases e:j=k
      ·subst e
       rw[HX.O];simp[okW,KP,eZ]
      ·exact Jr.O j oM
     case measure=>simp[ahZ];omega
    ·have acN:Lc x=false:=by simpa using KP
     have HT:=zH (fun w=>TV y w EB (by rw[HTX.O];exact acN))
     go_wp2_with
      (go_at_call 188;refine(HT.O _).mono ?_;rintro e w2 ⟨⟨z,rfl,hz⟩,ju⟩
       have gS:=zH (HB.O.T (ju.mono HB.O.size));clear ju)
     go_ret2;have h3:aQ s.data.toList=3:=AH H0.O (by rw[HL.O];exact v_ aE (by rw[HX.O];simp[okW,acN]));exact⟨_,by rw[h3];rfl,.inl ⟨rfl,oE (by rw[h3];decide)⟩,gS.O⟩
  ·have kD:(parts 43 s.data.toList).all okW=true:=by rw[HL.O];exact JP fun j hj=>Jr.O j oM
   have adg:=zH kD;clear kD hr;have HS:=zH (XU HR.O HB.O HB.O.size oM)
   go_wp2_with
    (first
    |(go_at_call 191;refine HS.O.mono ?_;rintro e w2 ⟨rfl,vo,ju⟩
      have HC:=zH (J8 vo ju (by rw[aj4];omega));clear vo ju)
    |(go_at_call 192;refine HC.O.mono ?_;rintro e w3 ⟨g3,al4,rfl,E5,lV⟩
      rw[show acv (L.mergeSort E6)=sF (parts 43 s.data.toList) by rw[HL.O];rfl]at*;have FO:=zH E5;have jb:=zH lV;have HCL:=zH (ES _ g3 al4 _ w3 E5 (by have:=Ak (L.mergeSort E6);rw[aj4]at this;rw[HL.O];exact aiC this oM));clear E5 lV)
    |(go_at_call 193;refine HCL.O.mono ?_;rintro e w4 ⟨rfl,q,rfl⟩))
   ·have V3:(5:Int)<((sF (parts 43 s.data.toList)).length:Int)\/(sF (parts 43 s.data.toList)).any oB=true:=by assumption
    have h4:aQ s.data.toList=4:=yp H0.O adg.O (V3.elim (fun h=>.inl oM) .inr);go_ret2;exact⟨_,by rw[h4];rfl,.inl ⟨rfl,oE (by rw[h4];decide)⟩,below_drewN jb.O q⟩
   ·have hand:((sF (parts 43 s.data.toList)).length:Int)<=5/\(sF (parts 43 s.data.toList)).any oB=false:=by assumption
    have h0:=LV H0.O adg.O oM hand.2;go_ret2;exact⟨_,by rw[h0.1];rfl,.inr (by rw[h0.2];exact FO.O.drewN q),below_drewN jb.O q⟩
   ·have hgt:(5:Int)<((sF (parts 43 s.data.toList)).length:Int):=by assumption
    have h4:aQ s.data.toList=4:=yp H0.O adg.O (.inl oM);go_ret2;exact⟨_,by rw[h4];rfl,.inl ⟨rfl,oE (by rw[h4];decide)⟩,jb.O⟩
theorem wS(s:ByteArray)(W:aah)(hs:s.size<=5000)(hm:gp W):ach prog 155 #[.string s] W (BX s W):=by
 by_cases h0:s.data.toList=[]
 ·obtain rfl:s=⟨#[]⟩:=by rw[<-gC s,h0];rfl
  exact Dl W
 ·exact A9 s W hs hm h0
theorem Cs{n:Int}(h:n≠0):cJ n=.iface 30 (.int .i64 n):=if_neg h
theorem N7{s:BL}(h:aQ s≠0):cr s=[]:=by unfold cr;rw[oE h];rfl
theorem jy(s:ByteArray)(W:aah)(hs:s.size<=5000)(hm:gp W):
  ach prog 108 #[.string s] W fun e w'=>e=.returned (.tuple #[.string (aq (cr s.data.toList)),cJ (aQ s.data.toList)])/\Below W.heap.size W w':=by
 have H:=zH (wS s W hs hm);clear hm
 by_cases h0:aQ s.data.toList=0
 ·have E:=zH (show cJ (aQ s.data.toList)=.nilIface by rw[h0];rfl)
  clear h0
  go_in
  go_wp2_with
   (first
   |(go_at_call 155;refine H.O.mono ?_;rintro e w1 ⟨v,rfl,hr,hb⟩
     rw[E.O];have HJ:=zH (NZ hr);have HB:=zH hb;clear hr hb)
   |(go_at_call 104;refine HJ.O.mono ?_;rintro e w2 ⟨rfl,hb⟩
     have gS:=zH (HB.O.T (hb.mono HB.O.size));clear hb))
  go_ret2;exact⟨by rw[E.O];rfl,gS.O⟩
 ·have E:=zH (Cs h0)
  have L:=zH (N7 h0);clear h0
  go_in
  go_wp2_with
   (go_at_call 155;refine H.O.mono ?_;rintro e w1 ⟨v,rfl,hr,hb⟩
    rw[E.O];have HB:=zH hb;clear hr hb)
  go_ret2;exact⟨by rw[E.O,L.O];rfl,HB.O⟩
theorem Lu(x p q:Nat)(hx:x<256)(hp:p<256)(hq:q<256):
  ∃z:Nat,ahj .or .u8 (x:Int) (ahj .xor .u8 (p:Int) (q:Int))=(z:Int)/\z<256/\(z=0↔x=0/\p=q):=by
 have h1:p ^^^ q<2 ^ 8:=Nat.xor_lt_two_pow hp hq;refine⟨x |||(p ^^^ q),?_,Nat.or_lt_two_pow (n:=8) hx h1,?_⟩
 ·rw[u8_xor_nat p q hp hq,u8_or_nat x (p ^^^ q) hx h1]
 ·rw[Nat.or_eq_zero_iff]
  refine and_congr_right fun _=>⟨fun h=>?_,fun h=>by rw[h,Nat.xor_self]⟩
  have h2:=congrArg (·^^^ q) h;simpa[Nat.xor_assoc]using h2
theorem Hh(s:ByteArray)(k:Nat)(h:k<s.size):∃p:Nat,p<256/\s.data[k]?=some (UInt8.ofNat p)/\∀w:aah,(ako 9 (.string s) (.int .i64 (k:Int))).run prog w=.ok (.int .u8 (p:Int)) w:=by
 refine⟨(s[k]'h).toNat,(s[k]'h).toNat_lt,?_,fun w=>?_⟩
 ·rw[UInt8.ofNat_toNat]
  exact aht h
 ·rw[run_index_string w 9 _ .i64 (k:Int) underlying9,dif_pos ⟨by omega,by omega⟩]
  rfl
def Zu(W:aah)(a b:ByteArray)(v i:aai)(w:aah):Prop:=
 ∃x k:Nat,v=.int .u8 x/\i=.int .i64 k/\k<=a.size/\x<256/\(x=0↔ ∀j,j<k->a.data[j]?=b.data[j]?)/\∃n,w=W.drewN n
theorem XF(a b:ByteArray)(h:a.size=b.size)(x:Nat)(hx:x=0↔ ∀j,j<a.size->a.data[j]?=b.data[j]?):decide (x=0)=decide (a=b):=by
 rw[decide_eq_decide,hx];constructor
 ·intro hj
  apply ByteArray.ext;apply Array.ext_getElem?;intro j;rcases af8 j a.size with h1|h1
  ·exact hj j h1
  ·rw[adm h1,adm (by rw[<-show b.size=b.data.size from rfl];omega)]
 ·rintro rfl j _;rfl
theorem Ld(a b:ByteArray)(W:aah)(ha:a.size<=1000000)(hb:b.size<=1000000):
  ach prog 220 #[.string a,.string b] W fun e w'=>e=.returned (.bool (decide (a=b)))/\∃n,w'=W.drewN n:=by
 by_cases iS:a.size=b.size
 ·have HS:=zH iS
  have hlen:((a.size:Int) != (b.size:Int))=false:=by rw[iS];simp
  go_in
  go_wp2_with fail
  go_loopw [5,14] (fun v i wr=>Zu W a b v i wr) (fun _ i _=>a.size - (ahZ i).toNat)
  case atStart=>exact⟨0,0,rfl,rfl,by omega,by omega,⟨fun _ j hj=>by omega,fun _=>rfl⟩,0,rfl⟩
  case round=>
   (obtain⟨x,k,rfl,rfl,hk,hx,hinv,n,rfl⟩:=hrel;have HI:=zH hinv;clear hinv);by_cases aE:k<a.size
   ·obtain⟨p,hp,ep,ato⟩:=Hh a k aE
    (obtain⟨q,hq,eq,atp⟩:=Hh b k oM;obtain⟨z,hz,ajg,hzz⟩:=Lu x p q hx hp hq;have HZ:=zH hzz;have EP:=zH ep;have EQ:=zH eq;have hkb:k<b.size:=by omega);(have anh:k+1<=a.size:=by omega);clear hzz ep eq iS;go_wp2_with fail;go_quiet (fail);go_wp2_with fail;refine⟨⟨z,k+1,rfl,by go_num,anh,ajg,?_,_,rfl⟩,by simp[ahZ];omega⟩;have hi:=HI.O;have hzo:=HZ.O;have ep:=EP.O;have eq:=EQ.O;rw[hzo];constructor
    ·rintro⟨h0,rfl⟩ j hj
     (rcases af8 j k with h1|h1);(·exact hi.1 h0 j h1)
     ·obtain rfl:j=k:=by omega
      rw[ep,eq]
    ·intro h
     refine⟨hi.2 fun j hj=>h j oM,?_⟩;have h2:=h k oM;rw[ep,eq]at h2;have h3:=congrArg UInt8.toNat (ahK h2);rw[UInt8.toNat_ofNat',UInt8.toNat_ofNat',ajD hp,ajD hq]at h3;exact h3
   ·obtain rfl:k=a.size:=by omega
    go_wp2_with fail;go_ret;refine⟨?_,_,rfl⟩;(show aiD (Value.bool ((x:Int) == 0))=_);rw[<-XF a b HS.O x HI.O]
    congr 2
    rw[ahp];simp
 ·have hlen:((a.size:Int) != (b.size:Int))=true:=by simp;omega
  have eZ:a≠b:=by rintro rfl;exact iS rfl
  go_in
  go_wp2_with fail;go_ret;refine⟨?_,0,rfl⟩
  show aiD (Value.bool false)=_
  rw[decide_eq_false eZ]
theorem PU(x:Int)(w:aah):ach prog 204 #[.int .i64 x] w fun e w'=>e=.returned (.bool (!bZ x))/\w=w':=by
 by_cases h0:0<=x
 ·go_enter func204,ntmps204
  go_wp2_with fail;go_ret;refine⟨?_,rfl⟩
  show aiD _=_
  have e:(decide (x<0) || decide (1099511627776<x))= !bZ x:=by
   rw[ahp];simp[bZ,h0];omega
  rw[<-e];rfl
 ·have h1:x<0:=by omega
  go_in
  go_wp2_with fail;go_ret;refine⟨?_,rfl⟩
  show aiD _=_
  simp[bZ]
  try omega
def adw(L:List Int)(w:aah)(i:aai)(wr:aah):Prop:=∃k q:Nat,k<=L.length/\i=.int .i64 k/\wr=w.drewN q/\∀j,j<k->bZ (L.getD j 0)=true
def adv(L:List Int)(w:aah)(e:Ending)(w':aah):Prop:=∃(n:Int) (q:Nat),e=.returned (.int .i64 n)/\(!decide (0<=n))=L.all bZ/\w'=w.drewN q
theorem R8(g cap:Nat)(L:List Int)(w:aah)(h:bD w g L)(hL:L.length<=1000000):
  ach prog 223 #[.slice (some ⟨g,0,none⟩) L.length cap,.func (.func 204) #[] #[]] w (adv L w):=by
 have HR:=zH h;clear h
 go_in
 go_wp2
 go_loopw [8] (fun i wr=>adw L w i wr) (fun i _=>L.length - (ahZ i).toNat)
 case atStart=>exact⟨0,0,ahW _,rfl,rfl,fun j hj=>absurd hj (ah' _)⟩
 case round=>
  obtain⟨k,q,hk,rfl,rfl,nJ⟩:=hrel;have HN:=zH nJ;clear nJ
  by_cases aE:k<L.length
  ·have hc:=(HR.O.drewN q) k aE
   generalize hx:L.getD k 0=x at*;have HX:=zH hx;clear hx;cases fR:bZ x
   ·have HO:=zH fR
    clear fR;have HBN:=zH (fun w=>(PU x w).mono (fun e w' (h:e=.returned (.bool (!bZ x))/\w=w')=>(show e=.returned (.bool true)/\w=w' from⟨by rw[h.1,HO.O];rfl,h.2⟩)));go_wp2_with (go_at_call 204;refine(HBN.O _).mono ?_;rintro e w1 ⟨rfl,rfl⟩);go_ret;refine⟨k,q,rfl,?_,rfl⟩;rw[ints_at aE (by rw[HX.O];exact HO.O)];simp
   ·have HO:=zH fR
    clear fR;have HBN:=zH (fun w=>(PU x w).mono (fun e w' (h:e=.returned (.bool (!bZ x))/\w=w')=>(show e=.returned (.bool false)/\w=w' from⟨by rw[h.1,HO.O];rfl,h.2⟩)));go_wp2_with (go_at_call 204;refine(HBN.O _).mono ?_;rintro e w1 ⟨rfl,rfl⟩);go_roundw
    case rel=>
     (refine⟨k+1,q,by omega,by go_num,rfl,fun j hj=>?_⟩);by_cases e:j=k
     ·subst e
      rw[HX.O];exact HO.O
     ·exact HN.O j oM
    case measure=>simp[ahZ];omega
  ·go_wp2
   go_ret;refine⟨-1,q,rfl,?_,rfl⟩;rw[Ww fun j hj=>HN.O j oM];rfl
theorem Il(g cap:Nat)(L:List Int)(w:aah)(h:bD w g L)(hL:L.length<=1000000):
  ach prog 203 #[.slice (some ⟨g,0,none⟩) L.length cap,.func (.func 204) #[] #[]] w fun e w'=>e=.returned (.bool (!L.all bZ))/\∃q,w'=w.drewN q:=by
 have H:=zH (R8 g cap L w h hL);clear h
 go_in
 go_wp2_with (go_at_call 223;refine H.O.mono ?_;rintro e w1 ⟨n,q,rfl,hn,rfl⟩;have HN:=zH hn;clear hn);go_ret;exact⟨by rw[<-HN.O,akf];rfl,q,rfl⟩
theorem Gb(g cap:Nat)(L:List Int)(w:aah)(h:bD w g L)(hL:L.length<=1000000):
  ach prog 173 #[.slice (some ⟨g,0,none⟩) L.length cap] w fun e w'=>e=.returned (.bool (L.all bZ))/\Below w.heap.size w w':=by
 have H:=zH (Il g cap L w h hL);clear h
 go_in
 go_wp2_with (go_at_call 203;refine H.O.mono ?_;rintro e w1 ⟨rfl,q,rfl⟩);go_ret;exact⟨by simp,below_drewN bR q⟩
theorem Of(s:ByteArray):dM s.data.toList=(decide (1<=(s.size:Int))&&decide ((s.size:Int)<=20)&&s.data.toList.all C7):=by
 unfold dM;rw[size_data]
 congr 2<;>simp<;>omega
theorem Sm(x:ByteArray)(w:aah)(hx:x.size<=1000000):
  (x.data.toList.all C7=true->ach prog 188 #[.string x,.string ⟨#[97,98,99,100,101,102,103,104,105,106,107,108,109,110,111,112,113,114,115,116,117,118,119,120,121,122,48,49,50,51,52,53,54,55,56,57,45]⟩] w fun e w'=>e=.returned (.string ⟨#[]⟩)/\Below w.heap.size w w')/\
  (x.data.toList.all C7=false->ach prog 188 #[.string x,.string ⟨#[97,98,99,100,101,102,103,104,105,106,107,108,109,110,111,112,113,114,115,116,117,118,119,120,121,122,48,49,50,51,52,53,54,55,56,57,45]⟩] w fun e w'=>BV e/\Below w.heap.size w w'):=
 oO acY x w hx dC (ascii_of_all dC)
theorem vh(s:ByteArray)(W:aah)(hs:s.size<=5000):ach prog 151 #[.string s] W fun e w'=>e=.returned (.bool (dM s.data.toList))/\Below W.heap.size W w':=by
 have HN:=zH (Of s);have hT:=Sm s W oM
 by_cases h0:s.size<1
 ·clear hT
  go_in
  go_wp2_with fail;go_ret;refine⟨?_,Below.refl _ _⟩;rw[HN.O,show decide (1<=(s.size:Int))=false by simp;omega];rfl
 ·by_cases h1:20<s.size
  ·clear hT
   go_in;go_wp2_with fail;go_ret;refine⟨?_,Below.refl _ _⟩;rw[HN.O,show decide ((s.size:Int)<=20)=false by simp;omega];simp
  ·have HX:=zH (show(decide (1<=(s.size:Int))&&decide ((s.size:Int)<=20))=true by simp;omega)
   cases ha:s.data.toList.all C7
   ·have HT:=zH (hT.2 ha)
    (have HA:=zH ha;clear hT ha);go_in
    go_wp2_with
     (go_at_call 188;refine HT.O.mono ?_;rintro e w2 ⟨⟨z,rfl,hz⟩,ju⟩
      have HB:=zH ju;clear ju)
    go_ret;refine⟨?_,HB.O⟩;rw[HN.O,HX.O,HA.O];rfl
   ·have HT:=zH (hT.1 ha)
    (have HA:=zH ha;clear hT ha);go_in
    go_wp2_with
     (go_at_call 188;refine HT.O.mono ?_;rintro e w2 ⟨rfl,ju⟩
      have HB:=zH ju;clear ju)
    go_ret;refine⟨?_,HB.O⟩;rw[HN.O,HX.O,HA.O];rfl
structure ER(T:aat)(W:aah)(e:Ev)(w:aah):Prop where
 below:Below W.heap.size W w
 iV:gp w
 ev:aC w W.heap.size T (aN e)
 bA:aC w (W.heap.size+1) 113 (au e.bA)
theorem ER.keep{T:aat}{W w w':aah}{e:Ev}(h:ER T W e w)(hb:Below w.heap.size w w'):ER T W e w':=
 ⟨below_2 h.below hb,h.iV.aj hb,h.ev.aj hb,h.bA.aj hb⟩
theorem ER.start{T:aat}{W:aah}(hm:gp W)(e:Ev):ER T W e ((W.alloc (.cells (aN e) T)).alloc (.cells (au e.bA) 113)):=by
 have hb:Below W.heap.size W ((W.alloc (.cells (aN e) T)).alloc (.cells (au e.bA) 113)):=(bR.alloc nR _).alloc sP _;refine⟨hb,hm.aj hb,(aC.new W _ _).alloc _,?_⟩;have:=aC.new (W.alloc (.cells (aN e) T)) 113 (au e.bA);simpa using this
theorem ER.cells{T:aat}{W w:aah}{k i:Int}(h:ER T W ⟨k,⟨i,cl,su,sc,ge,ma,us,re,de⟩,id,ti⟩ w):
  w.cell? ⟨W.heap.size,0,none⟩=some (.int .i64 k)/\w.cell? ⟨W.heap.size,10,none⟩=some (.int .i64 id)/\w.cell? ⟨W.heap.size,11,none⟩=some (.int .i64 ti)/\
  w.cell? ⟨W.heap.size+1,0,none⟩=some (.int .i64 i)/\w.cell? ⟨W.heap.size+1,1,none⟩=some (.string cl)/\w.cell? ⟨W.heap.size+1,2,none⟩=some (.string su)/\w.cell? ⟨W.heap.size+1,3,none⟩=some (.string sc)/\w.cell? ⟨W.heap.size+1,4,none⟩=some (.int .i64 ge)/\
  w.cell? ⟨W.heap.size+1,5,none⟩=some (.int .i64 ma)/\w.cell? ⟨W.heap.size+1,6,none⟩=some (.int .i64 us)/\w.cell? ⟨W.heap.size+1,7,none⟩=some (.string re)/\w.cell? ⟨W.heap.size+1,8,none⟩=some (.bool de):=
 ⟨h.ev.cell 0,h.ev.cell 10,h.ev.cell 11,h.bA.cell 0,h.bA.cell 1,h.bA.cell 2,h.bA.cell 3,h.bA.cell 4,h.bA.cell 5,h.bA.cell 6,h.bA.cell 7,h.bA.cell 8⟩
theorem SU(e:Ev)(W:aah)(hk:e.kind=1)(hs:e.bA.short 5000)(hm:gp W):
  ach prog 131 #[bH e] W fun x w'=>x=.returned (.bool (gG e))/\Below W.heap.size W w':=by
 have hr:gG e=(decide (e.id=0)&&decide (e.time=0)&&pU e.bA):=by unfold gG;rw[if_pos hk]
 have HS:=zH (ER.start (T:=115) hm e);obtain⟨k,⟨i,cl,su,sc,ge,ma,us,re,de⟩,id,ti⟩:=e;dsimp only at hk;subst hk;obtain⟨s1,s2,s3,s4⟩:=hs;dsimp only at s1 s2 s3 s4 hr;unfold pU at hr;dsimp only at hr;have h1:(id == 0)=decide (id=0):=by rw[ahp];simp
 have h2:(ti == 0)=decide (ti=0):=by rw[ahp];simp
 have HW:Hid (∀(g:Nat) (w:aah),bD w g [i,ge,ma,us]->ach prog 173 #[.slice (some ⟨g,0,none⟩) 4 4] w fun e w'=>e=.returned (.bool ([i,ge,ma,us].all bZ))/\Below w.heap.size w w'):=zH fun g w h=>Gb g 4 [i,ge,ma,us] w h (show 4<=1000000 by decide)
 rw[ZZ]at HW;have PE:=zH (fun w=>vh cl w s1);have HN2:=zH (fun w=>vh su w s2);have HN3:=zH (fun w=>vh re w s4);have HL:=zH (fun w (h:gp w)=>jy sc w s3 h);have h6:=oo (s:=re);have h8:=XH (aq (cr sc.data.toList)) sc _ rfl;have h9:uI sc.data.toList=(decide (aQ sc.data.toList=0)&&decide (cr sc.data.toList=sc.data.toList)):=rfl;have h10:Fc re.data.toList=(decide (re.data.toList=[]) || dM re.data.toList):=rfl;rw[h9,h10]at hr;clear hm h9 h10;generalize aq (cr sc.data.toList)=y at*;have hb:(bZ i&&bZ ge&&bZ ma&&bZ us&&dM cl.data.toList&&dM su.data.toList&&(decide (re.data.toList=[]) || dM re.data.toList)&&(decide (aQ sc.data.toList=0)&&decide (cr sc.data.toList=sc.data.toList)))=((bZ i&&bZ ge&&bZ ma&&bZ us)&&dM cl.data.toList&&dM su.data.toList&&(decide (re.data.toList=[]) || dM re.data.toList)&&(decide (aQ sc.data.toList=0)&&decide (cr sc.data.toList=sc.data.toList))):=rfl;rw[hb]at hr;clear hb
 have hE:(decide (aQ sc.data.toList=0)=true/\cJ (aQ sc.data.toList)=.nilIface)\/(decide (aQ sc.data.toList=0)=false/\∃n,cJ (aQ sc.data.toList)=.iface 30 (.int .i64 n)):=by
  by_cases h:aQ sc.data.toList=0
  ·exact .inl ⟨by simpa using h,if_pos h⟩
  ·exact .inr ⟨by simpa using h,_,if_neg h⟩
 generalize cJ (aQ sc.data.toList)=ev at*;generalize decide (aQ sc.data.toList=0)=b8 at*;generalize decide (cr sc.data.toList=sc.data.toList)=b9 at*;generalize dM cl.data.toList=b4 at*;generalize dM su.data.toList=b5 at*;generalize dM re.data.toList=b7 at*;generalize decide (re.data.toList=[])=b6 at*;generalize (bZ i&&bZ ge&&bZ ma&&bZ us)=b3 at*;generalize decide (id=0)=b1 at*;generalize decide (ti=0)=b2 at*;have HR:=zH hr;have H1:=zH h1;have H2:=zH h2;have H6:=zH h6;clear hr h1 h2 h6;unfold bH aN;dsimp only
 go_in
 go_wp2_with fail;have HC:=HS;refine(HL.O _ HC.O.iV).mono ?_;rintro x w' ⟨rfl,hb⟩;have HC:=zH (HC.O.keep hb);clear hb;obtain⟨c0,c1,c2,d0,d1,d2,d3,d4,d5,d6,d7,d8⟩:=HC.O.cells;have h1:=H1.O;clear H1;cases b1
 ·go_wp2_with fail
  go_ret;exact⟨by rw[HR.O];first|rfl|simp,HC.O.below⟩
 have h2:=H2.O;clear H2;cases b2
 ·go_wp2_with fail
  go_ret;exact⟨by rw[HR.O];first|rfl|simp,HC.O.below⟩
 go_wp2_with fail;refine(HW.O _ _ (mD _ 3 [i,ge,ma,us])).mono ?_;rintro x w' ⟨rfl,hb⟩;have HC:=zH ((HC.O.keep (bR.alloc nR (.cells #[.int .i64 i,.int .i64 ge,.int .i64 ma,.int .i64 us] 3))).keep hb);clear hb c0 c1 c2 d0 d1 d2 d3 d4 d5 d6 d7 d8;obtain⟨c0,c1,c2,d0,d1,d2,d3,d4,d5,d6,d7,d8⟩:=HC.O.cells;cases b3
 ·go_wp2_with fail
  go_ret;exact⟨by rw[HR.O];first|rfl|simp,HC.O.below⟩
 go_wp2_with fail;refine(PE.O _).mono ?_;rintro x w' ⟨rfl,hb⟩;have HC:=zH (HC.O.keep hb);clear hb c0 c1 c2 d0 d1 d2 d3 d4 d5 d6 d7 d8;obtain⟨c0,c1,c2,d0,d1,d2,d3,d4,d5,d6,d7,d8⟩:=HC.O.cells;cases b4
 ·go_wp2_with fail
  go_ret;exact⟨by rw[HR.O];first|rfl|simp,HC.O.below⟩
 go_wp2_with fail;refine(HN2.O _).mono ?_;rintro x w' ⟨rfl,hb⟩;have HC:=zH (HC.O.keep hb);clear hb c0 c1 c2 d0 d1 d2 d3 d4 d5 d6 d7 d8;obtain⟨c0,c1,c2,d0,d1,d2,d3,d4,d5,d6,d7,d8⟩:=HC.O.cells;cases b5
 ·go_wp2_with fail
  go_ret;exact⟨by rw[HR.O];first|rfl|simp,HC.O.below⟩
 have h6:=H6.O;clear H6;cases b6
 ·go_wp2_with fail
  refine(HN3.O _).mono ?_;rintro x w' ⟨rfl,hb⟩;have HC:=zH (HC.O.keep hb);clear hb c0 c1 c2 d0 d1 d2 d3 d4 d5 d6 d7 d8;obtain⟨c0,c1,c2,d0,d1,d2,d3,d4,d5,d6,d7,d8⟩:=HC.O.cells;cases b7
  ·go_wp2_with fail
   go_ret;exact⟨by rw[HR.O];first|rfl|simp,HC.O.below⟩
  rcases hE with⟨rfl,rfl⟩|⟨rfl,n,rfl⟩
  all_goals
   go_wp2_with fail;go_ret;exact⟨by rw[HR.O];first|rfl|simp,HC.O.below⟩
 ·rcases hE with⟨rfl,rfl⟩|⟨rfl,n,rfl⟩
  all_goals
   go_wp2_with fail;go_ret;exact⟨by rw[HR.O];first|rfl|simp,HC.O.below⟩
theorem Df(e:Ev)(W:aah)(hk:e.kind=2\/e.kind=3):
  ach prog 131 #[bH e] W fun x w'=>x=.returned (.bool (gG e))/\Below W.heap.size W w':=by
 obtain⟨a,b,Ew⟩:∃a b,((e.kind=2/\a=e.time/\b=e.id)\/(e.kind=3/\a=e.id/\b=e.time)):=by
  rcases hk with h|h
  ·exact⟨_,_,.inl ⟨h,rfl,rfl⟩⟩
  ·exact⟨_,_,.inr ⟨h,rfl,rfl⟩⟩
 have HR:=zH (SM e.kind a b e rfl Ew);have HW:Hid (∀(g:Nat) (w:aah),bD w g [b]->ach prog 173 #[.slice (some ⟨g,0,none⟩) 1 1] w fun e w'=>e=.returned (.bool ([b].all bZ))/\Below w.heap.size w w'):=zH fun g w h=>Gb g 1 [b] w h (show 1<=1000000 by decide)
 rw[afz]at HW;clear hk;obtain⟨k,f,id,ti⟩:=e;dsimp only at Ew HR;have hb:b=id\/b=ti:=by rcases Ew with⟨-, -,h⟩|⟨-, -,h⟩<;>simp[h]
 cases hz:f.isZero
 ·have HX:=zH hz
  have yT:Hid (gG ⟨k,f,id,ti⟩=false):=zH (by rw[HR.O,hz];rfl);clear HR hz;generalize hX:gG ⟨k,f,id,ti⟩=X at*;clear hX;obtain⟨i,cl,su,sc,ge,ma,us,re,de⟩:=f;unfold bH aN;dsimp only;rcases Ew with⟨rfl,rfl,rfl⟩|⟨rfl,rfl,rfl⟩
  all_goals
   go_in;go_wp2_with fail
   all_goals first
    |(go_ret
      exact⟨by rw[yT.O];rfl,gK _ _ _⟩)
    |exact(ab7 aS aS aS aS aS aS aS aS aS HX.O).elim
 ·obtain rfl:=az.lH.1 hz
  clear hz;have mY:az.zero.isZero=true:=az.lH.2 rfl;rw[mY]at HR;clear mY;generalize hX:gG ⟨k,az.zero,id,ti⟩=X at*;clear hX;unfold bH aN az.zero;dsimp only
  by_cases h0:a=0
  ·have h0':decide (a=0)=true:=by simpa using h0
   rw[h0']at HR;rcases Ew with⟨rfl,h1,rfl⟩|⟨rfl,h1,rfl⟩
   all_goals
    subst h1;subst h0;go_in;go_wp2_with (go_at_call 173;refine(HW.O _ _ (afd W _ _ 3 b)).mono ?_;rintro x w' ⟨rfl,hb⟩;have HB:=zH (adF _ _ _ hb);clear hb);go_ret;exact⟨by rw[HR.O];rfl,HB.O⟩
  ·have h0':decide (a=0)=false:=by simpa using h0
   (rw[h0']at HR;have h0b:(a == 0)=false:=by simpa using h0);rcases Ew with⟨rfl,rfl,rfl⟩|⟨rfl,rfl,rfl⟩
   all_goals
    go_in;go_wp2_with fail;go_ret;exact⟨by rw[HR.O];rfl,gK _ _ _⟩
theorem SN(e:Ev)(W:aah)(h1:e.kind≠1)(h2:e.kind≠2)(h3:e.kind≠3):
  ach prog 131 #[bH e] W fun x w'=>x=.returned (.bool (gG e))/\Below W.heap.size W w':=by
 have HR:Hid (gG e=false):=zH (by unfold gG;rw[if_neg h1,if_neg h2,if_neg h3]);obtain⟨k,⟨i,cl,su,sc,ge,ma,us,re,de⟩,id,ti⟩:=e;dsimp only at h1 h2 h3;have e1:(k == 1)=false:=by simpa using h1
 have e2:(k == 2)=false:=by simpa using h2
 have e3:(k == 3)=false:=by simpa using h3
 clear h1 h2 h3;unfold bH aN;dsimp only
 go_in
 go_wp2_with fail;go_ret;exact⟨by rw[HR.O];rfl,gK _ _ _⟩
theorem oq(e:Ev)(W:aah)(hs:e.bA.short 5000)(hm:gp W):
  ach prog 131 #[bH e] W fun x w'=>x=.returned (.bool (gG e))/\Below W.heap.size W w':=by
 by_cases h1:e.kind=1
 ·exact SU e W h1 hs hm
 ·by_cases h2:e.kind=2
  ·exact Df e W (.inl h2)
  ·by_cases h3:e.kind=3
   ·exact Df e W (.inr h3)
   ·exact SN e W h1 h2 h3
theorem T3(s:ByteArray):s.toList.isEmpty=true->aq (fF s.data.toList)=⟨#[95]⟩:=by
 intro h;rw[oo,decide_eq_true_eq]at h;rw[h];rfl
theorem Po(s:ByteArray):s.toList.isEmpty=false->aq (fF s.data.toList)=s:=by
 intro h;rw[oo,decide_eq_false_iff_not]at h;unfold fF;rw[if_neg h,gC]
theorem P_(s:ByteArray)(w:aah):ach prog 197 #[.string s] w fun e w'=>e=.returned (.string (aq (fF s.data.toList)))/\w=w':=by
 cases h:s.toList.isEmpty
 ·have H:=zH (Po s h)
  go_in
  go_wp2_with fail;go_ret;exact⟨by rw[H.O];rfl,rfl⟩
 ·have H:=zH (T3 s h)
  go_in
  go_wp2_with fail;go_ret;exact⟨by rw[H.O];rfl,rfl⟩
theorem tY(c:UInt8)(n:Nat):∀ws:List BL,(∀w∈ws,w.length<=n)->(glue c ws).length<=(n+1)*ws.length
 |[],_=>by simp[glue]
 |[w],h=>by have:=h w sP;simp[glue];omega
 |w::v::r,h=>by
  have:=h w sP;have ih:=tY c n (v::r) fun x hx=>h x (acU _ hx)
  rw[glue];simp only[ag2,agj,Nat.mul_add]at ih ⊢;omega
theorem Wx(c:UInt8)(w:aah)(L:List BL)(hL:L.length<=100)(hw:∀x∈L,x.length<=900):
  ach prog 104 #[.slice (some ⟨w.heap.size,0,none⟩) L.length L.length,.string ⟨#[c]⟩] (w.alloc (.cells (L.map encStr).toArray 9)) fun e w'=>e=.returned (.string (aq (glue c L)))/\Below (w.alloc (.cells (L.map encStr).toArray 9)).heap.size (w.alloc (.cells (L.map encStr).toArray 9)) w':=by
 have hg:=tY c 900 L hw;exact xZ c (Row.new (w:=w) (L:=L) nR mL) oM oM
theorem xL(s:ByteArray):encStr s.data.toList=.string s:=by unfold encStr;congr 1
theorem Wy(w:aah)(a b c d e f g h i j:ByteArray)(z:a.size<=900/\b.size<=900/\c.size<=900/\d.size<=900/\e.size<=900/\f.size<=900/\g.size<=900/\h.size<=900/\i.size<=900/\j.size<=900):
  ach prog 104 #[.slice (some ⟨w.heap.size,0,none⟩) 10 10,.string ⟨#[32]⟩] (w.alloc (.cells #[.string a,.string b,.string c,.string d,.string e,.string f,.string g,.string h,.string i,.string j] 9))
   fun x w'=>x=.returned (.string (aq (glue 32 [a.data.toList,b.data.toList,c.data.toList,d.data.toList,e.data.toList,f.data.toList,g.data.toList,h.data.toList,i.data.toList,j.data.toList])))/\Below (w.alloc (.cells #[.string a,.string b,.string c,.string d,.string e,.string f,.string g,.string h,.string i,.string j] 9)).heap.size (w.alloc (.cells #[.string a,.string b,.string c,.string d,.string e,.string f,.string g,.string h,.string i,.string j] 9)) w':=by
 have hj:=Wx 32 w [a.data.toList,b.data.toList,c.data.toList,d.data.toList,e.data.toList,f.data.toList,g.data.toList,h.data.toList,i.data.toList,j.data.toList] (show 10<=100 by decide) (by
  intro x hx;simp only[ab',adn,or_false]at hx;rcases hx with rfl|rfl|rfl|rfl|rfl|rfl|rfl|rfl|rfl|rfl
  all_goals rw[size_data];omega)
 simp only[aix,ajh,xL]at hj;exact hj
structure WB(W w:aah):Prop where
 below:Below W.heap.size W w
 cq:eN w
 iV:gp w
theorem WB.keep{W w w':aah}(h:WB W w)(hb:Below w.heap.size w w'):WB W w':=⟨below_2 h.below hb,h.cq.below hb h.cq.lt,h.iV.aj hb⟩
theorem WB.drew{W w:aah}(h:WB W w):WB W w.drew:=⟨⟨h.below.os,h.below.tape,h.below.output,h.below.size,h.below.block⟩,h.cq,h.iV⟩
theorem um{W w w':aah}{g:Nat}{v0 v1 v2 v3 v4 v5 v6 v7:aai}(h0:w.cell? ⟨g,0,none⟩=some v0)(h1:w.cell? ⟨g,1,none⟩=some v1)(h2:w.cell? ⟨g,2,none⟩=some v2)(h3:w.cell? ⟨g,3,none⟩=some v3)(h4:w.cell? ⟨g,4,none⟩=some v4)(h5:w.cell? ⟨g,5,none⟩=some v5)(h6:w.cell? ⟨g,6,none⟩=some v6)(h7:w.cell? ⟨g,7,none⟩=some v7)(hW:WB W w)(hb:Below w.heap.size w w'):
  w'.cell? ⟨g,0,none⟩=some v0/\w'.cell? ⟨g,1,none⟩=some v1/\w'.cell? ⟨g,2,none⟩=some v2/\w'.cell? ⟨g,3,none⟩=some v3/\w'.cell? ⟨g,4,none⟩=some v4/\w'.cell? ⟨g,5,none⟩=some v5/\w'.cell? ⟨g,6,none⟩=some v6/\w'.cell? ⟨g,7,none⟩=some v7/\WB W w':=by
 have aE:g<w.heap.size:=acC w _ h0;refine⟨?_,?_,?_,?_,?_,?_,?_,?_,hW.keep hb⟩
 ·rw[hb.cell (p:=⟨g,0,none⟩) aE];exact h0
 ·rw[hb.cell (p:=⟨g,1,none⟩) aE];exact h1
 ·rw[hb.cell (p:=⟨g,2,none⟩) aE];exact h2
 ·rw[hb.cell (p:=⟨g,3,none⟩) aE];exact h3
 ·rw[hb.cell (p:=⟨g,4,none⟩) aE];exact h4
 ·rw[hb.cell (p:=⟨g,5,none⟩) aE];exact h5
 ·rw[hb.cell (p:=⟨g,6,none⟩) aE];exact h6
 ·rw[hb.cell (p:=⟨g,7,none⟩) aE];exact h7
structure EW(T:aat)(W:aah)(e:Ev)(w:aah):Prop where
 wb:WB W w
 ev:aC w W.heap.size T (aN e)
theorem EW.keep{T:aat}{W w w':aah}{e:Ev}(h:EW T W e w)(hb:Below w.heap.size w w'):EW T W e w':=⟨h.wb.keep hb,h.ev.aj hb⟩
theorem WB.alloc{W w:aah}(h:WB W w)(o:Obj):WB W (w.alloc o):=h.keep (bR.alloc nR o)
theorem EW.start{T:aat}{W:aah}(h:WB W W)(e:Ev):EW T W e (W.alloc (.cells (aN e) T)):=⟨h.alloc _,aC.new W T _⟩
theorem WB.self{W w:aah}(h:WB W w):WB w w:=⟨Below.refl _ _,h.cq,h.iV⟩
theorem YL(e:Ev)(W:aah)(hs:e.bA.short 5000)(h:WB W W)(hn:gG e=false):
  ach prog 160 #[bH e] W fun x w'=>x=.returned (.tuple #[.string ⟨#[]⟩,.iface 30 (.int .i64 1)])/\Below W.heap.size W w':=by
 have HR:=zH (fun w (hm:gp w)=>oq e w hs hm);rw[hn]at HR;have H0:=zH (EW.start (T:=115) h e);obtain⟨k,⟨i,cl,su,sc,ge,ma,us,re,de⟩,id,ti⟩:=e;clear hs hn h;unfold bH aN at*;dsimp only at*
 go_in
 go_wp2_with fail;refine(HR.O _ H0.O.wb.iV).mono ?_;rintro x w1 ⟨rfl,hb⟩;have H1:=zH (H0.O.keep hb);clear hb;go_wp2_with fail;go_ret2;exact⟨rfl,H1.O.wb.below⟩
theorem ahu(a b:UInt8)(x:ByteArray)(hx:x.size<=900)(w:aah):(Op.stringOp .add ⟨#[a,b]⟩ x).run prog w=.ok (.string (⟨#[a,b]⟩++x)) w:=
 run_string_add_sum w _ _ (by show 2+x.size<=_;omega)
theorem afj{e:Ev}(h:e.kind=2):(⟨#[100,32]⟩:ByteArray)++bM e.id=aq (mq e):=by
 unfold mq;rw[Kk h]
 show aq [100,32]++aq (aax e.id)=_
 rw[pO];rfl
theorem afk{e:Ev}(h:e.kind=3):(⟨#[99,32]⟩:ByteArray)++bM e.time=aq (mq e):=by
 unfold mq;rw[Ga h]
 show aq [99,32]++aq (aax e.time)=_
 rw[pO];rfl
theorem qG{x:Int}(h:bZ x=true):(bM x).size<=900:=by
 have:=iT x h;omega
theorem Hz(e:Ev)(W:aah)(hs:e.bA.short 5000)(h:WB W W)(hy:gG e=true)(hk:e.kind=2\/e.kind=3):
  ach prog 160 #[bH e] W fun x w'=>x=.returned (.tuple #[.string (aq (mq e)),.nilIface])/\Below W.heap.size W w':=by
 have HR:=zH (fun w (hm:gp w)=>oq e w hs hm);rw[hy]at HR;have H0:=zH (EW.start (T:=115) h e);have hc:=jj hy;rcases hk with hk|hk
 ·have hn:bZ e.id=true:=by
   (rcases hc with⟨h1,_⟩|⟨_,_,_,h2⟩|⟨h1,_⟩);(·omega);(·exact h2);(·omega)
  have HL:=zH (afj hk);have hz:=qG hn;have HI:=zH (fun w hT=>ox e.id hn w hT);generalize aq (mq e)=line at*;obtain⟨k,⟨i,cl,su,sc,ge,ma,us,re,de⟩,id,ti⟩:=e;dsimp only at hk;subst hk;clear hs hy h hc hn;unfold bH aN at*;dsimp only at*;have ha:=ahu 100 32 _ hz;generalize bM id=y at*
  go_in
  go_wp2_with fail;refine(HR.O _ H0.O.wb.iV).mono ?_;rintro x w1 ⟨rfl,hb⟩;have H1:=zH (H0.O.keep hb);clear hb;obtain⟨c0,c1,c2,c3,c4,c5,c6,c7,c8,c9,jW,jX⟩:=bL H1.O.ev;go_wp2_with fail;refine(HI.O _ H1.O.wb.cq).mono ?_;rintro x w2 ⟨rfl,hb⟩;have H2:=zH (H1.O.keep hb);clear hb;go_wp2_with fail;go_ret2;exact⟨by rw[<-HL.O];rfl,H2.O.wb.below⟩
 ·have hn:bZ e.time=true:=by
   (rcases hc with⟨h1,_⟩|⟨h1,_⟩|⟨_,_,_,h2⟩);(·omega);(·omega);(·exact h2)
  have HL:=zH (afk hk);have hz:=qG hn;have HI:=zH (fun w hT=>ox e.time hn w hT);generalize aq (mq e)=line at*;obtain⟨k,⟨i,cl,su,sc,ge,ma,us,re,de⟩,id,ti⟩:=e;dsimp only at hk;subst hk;clear hs hy h hc hn;unfold bH aN at*;dsimp only at*;have ha:=ahu 99 32 _ hz;generalize bM ti=y at*
  go_in
  go_wp2_with fail;refine(HR.O _ H0.O.wb.iV).mono ?_;rintro x w1 ⟨rfl,hb⟩;have H1:=zH (H0.O.keep hb);clear hb;obtain⟨c0,c1,c2,c3,c4,c5,c6,c7,c8,c9,jW,jX⟩:=bL H1.O.ev;go_wp2_with fail;refine(HI.O _ H1.O.wb.cq).mono ?_;rintro x w2 ⟨rfl,hb⟩;have H2:=zH (H1.O.keep hb);clear hb;go_wp2_with fail;go_ret2;exact⟨by rw[<-HL.O];rfl,H2.O.wb.below⟩
theorem Hy{n:Nat}(h:l.length<=n)(hn:1<=n):(fF l).length<=n:=by
 unfold fF;split
 ·simpa using hn
 ·exact h
theorem LJ(h:Fc l=true):l.length<=20:=by
 unfold Fc at h;rw[aeu,decide_eq_true_eq]at h;rcases h with rfl|h
 ·simp
 ·exact ff h
theorem afi{k i:Int}(h:k=1)(d:ByteArray)(hd:d.data.toList=vQ de):
  aq (glue 32 [(⟨#[112]⟩:ByteArray).data.toList,(bM i).data.toList,cl.data.toList,su.data.toList,(aq (fF sc.data.toList)).data.toList,(bM ge).data.toList,(bM ma).data.toList,(bM us).data.toList,(aq (fF re.data.toList)).data.toList,d.data.toList])=aq (mq ⟨k,⟨i,cl,su,sc,ge,ma,us,re,de⟩,id,ti⟩):=by
 unfold mq;rw[Kj h,hd,an,an];rfl
theorem T6(e:Ev)(W:aah)(hs:e.bA.short 5000)(h:WB W W)(hy:gG e=true)(hk:e.kind=1):
  ach prog 160 #[bH e] W fun x w'=>x=.returned (.tuple #[.string (aq (mq e)),.nilIface])/\Below W.heap.size W w':=by
 have HR:=zH (fun w (hm:gp w)=>oq e w hs hm);rw[hy]at HR;have H0:=zH (EW.start (T:=115) h e)
 have hf:pU e.bA=true:=by
  rcases jj hy with⟨_,_,_,h2⟩|⟨h1,_⟩|⟨h1,_⟩
  ·exact h2
  ·omega
  ·omega
 obtain⟨k,⟨i,cl,su,sc,ge,ma,us,re,de⟩,id,ti⟩:=e;dsimp only at hk hf;obtain⟨n1,n2,n3,n4,n5,n6,n7,n8⟩:=bV hf;dsimp only at n1 n2 n3 n4 n5 n6 n7 n8;have z0:(⟨#[112]⟩:ByteArray).size<=900:=by decide
 have z1:=qG n1;have z2:cl.size<=900:=by have:=ff n5;rw[size_data]at this;omega
 have z3:su.size<=900:=by have:=ff n6;rw[size_data]at this;omega
 have z4:(aq (fF sc.data.toList)).size<=900:=by rw[aK];have:=Hy (se n8) dC;omega
 have z5:=qG n2;have z6:=qG n3;have z7:=qG n4;have z8:(aq (fF re.data.toList)).size<=900:=by rw[aK];have:=Hy (LJ n7) dC;omega
 obtain⟨d,hd,z9,hdv⟩:∃d:ByteArray,d.data.toList=vQ de/\d.size<=900/\d=if de then⟨#[49]⟩else⟨#[48]⟩:=by
  cases de
  ·exact⟨_,rfl,by decide,rfl⟩
  ·exact⟨_,rfl,by decide,rfl⟩
 have HL:=zH (afi (i:=i) (cl:=cl) (su:=su) (sc:=sc) (ge:=ge) (ma:=ma) (us:=us) (re:=re) (de:=de) (id:=id) (ti:=ti) hk d hd);have HJ:=zH (fun w=>Wy w ⟨#[112]⟩ (bM i) cl su (aq (fF sc.data.toList)) (bM ge) (bM ma) (bM us) (aq (fF re.data.toList)) d ⟨z0,z1,z2,z3,z4,z5,z6,z7,z8,z9⟩);rw[HL.O]at HJ;have UA:=zH (fun w hT=>ox i n1 w hT);have HI2:=zH (fun w hT=>ox ge n2 w hT);have HI3:=zH (fun w hT=>ox ma n3 w hT);have HI4:=zH (fun w hT=>ox us n4 w hT);have HW1:=zH (fun w=>P_ sc w);have HW2:=zH (fun w=>P_ re w);clear hs hy h hf n1 n2 n3 n4 n5 n6 n7 n8 z0 z1 z2 z3 z4 z5 z6 z7 z8 z9 hd HL;generalize aq (mq ⟨k,⟨i,cl,su,sc,ge,ma,us,re,de⟩,id,ti⟩)=line at*;subst hk;unfold bH aN at*;dsimp only at*;cases de
 all_goals
  simp only[akg,if_false,if_true]at hdv;subst hdv
  go_in
  go_wp2_with fail;refine(HR.O _ H0.O.wb.iV).mono ?_;rintro x w1 ⟨rfl,hb⟩;have H1:=zH (H0.O.keep hb);clear hb;obtain⟨c0,c1,c2,c3,c4,c5,c6,c7,c8,c9,jW,jX⟩:=bL H1.O.ev;go_wp2_with fail
 ·have MS:=H1.O.wb.alloc (.cells #[.int .i64 i,.string cl,.string su,.string sc,.int .i64 ge,.int .i64 ma,.int .i64 us,.string re,.bool false] 113)
  obtain⟨d0,d1,d2,d3,d4,d5,d6,d7,_⟩:=cj (aC.new w1 113 (au ⟨i,cl,su,sc,ge,ma,us,re,false⟩));unfold au at d0 d1 d2 d3 d4 d5 d6 d7;dsimp only at d0 d1 d2 d3 d4 d5 d6 d7;clear c0 c1 c2 c3 c4 c5 c6 c7 c8 c9 jW jX H0 HR;generalize w1.alloc (.cells #[.int .i64 i,.string cl,.string su,.string sc,.int .i64 ge,.int .i64 ma,.int .i64 us,.string re,.bool false] 113)=w2 at*;have NY:=MS.drew;generalize w1.heap.size=g at*;clear MS H1
  go_region_held3 (fun w'=>w'.cell? ⟨g,0,none⟩=some (.int .i64 i)/\w'.cell? ⟨g,1,none⟩=some (.string cl)/\w'.cell? ⟨g,2,none⟩=some (.string su)/\w'.cell? ⟨g,3,none⟩=some (.string sc)/\w'.cell? ⟨g,4,none⟩=some (.int .i64 ge)/\w'.cell? ⟨g,5,none⟩=some (.int .i64 ma)/\w'.cell? ⟨g,6,none⟩=some (.int .i64 us)/\w'.cell? ⟨g,7,none⟩=some (.string re)/\WB W w')
   (first
    |(refine⟨?_,?_,?_,?_,?_,?_,?_,?_,NY⟩<;>go_keep)
    |assumption
    |(go_split_ands
      exact um aS aS aS aS aS aS aS aS aS aS)
    |(go_split_ands
      exact um aS aS aS aS aS aS aS aS aS (bR.alloc nR _)))
   (first
    |(go_at_call 44;refine(UA.O _ (WB.cq (by(go_split_ands;assumption)))).mono ?_;rintro e w1 ⟨rfl,eu⟩)
    |(go_at_call 44;refine(HI2.O _ (WB.cq (by(go_split_ands;assumption)))).mono ?_;rintro e w1 ⟨rfl,eu⟩)
    |(go_at_call 44;refine(HI3.O _ (WB.cq (by(go_split_ands;assumption)))).mono ?_;rintro e w1 ⟨rfl,eu⟩)
    |(go_at_call 44;refine(HI4.O _ (WB.cq (by(go_split_ands;assumption)))).mono ?_;rintro e w1 ⟨rfl,eu⟩)
    |(go_at_call 197;refine(HW1.O _).mono ?_;rintro e w1 ⟨rfl,rfl⟩)
    |(go_at_call 197;refine(HW2.O _).mono ?_;rintro e w1 ⟨rfl,rfl⟩)
    |(go_at_call 104;refine(HJ.O _).mono ?_;rintro e w1 ⟨rfl,eu⟩))
  go_wp2_with fail;go_ret2;exact⟨rfl,by(go_split_ands;exact WB.below aS)⟩
 ·have MS:=H1.O.wb.alloc (.cells #[.int .i64 i,.string cl,.string su,.string sc,.int .i64 ge,.int .i64 ma,.int .i64 us,.string re,.bool true] 113)
  obtain⟨d0,d1,d2,d3,d4,d5,d6,d7,_⟩:=cj (aC.new w1 113 (au ⟨i,cl,su,sc,ge,ma,us,re,true⟩));unfold au at d0 d1 d2 d3 d4 d5 d6 d7;dsimp only at d0 d1 d2 d3 d4 d5 d6 d7;clear c0 c1 c2 c3 c4 c5 c6 c7 c8 c9 jW jX H0 HR;generalize w1.alloc (.cells #[.int .i64 i,.string cl,.string su,.string sc,.int .i64 ge,.int .i64 ma,.int .i64 us,.string re,.bool true] 113)=w2 at*;have NY:=MS.drew;generalize w1.heap.size=g at*;clear MS H1
  go_region_held3 (fun w'=>w'.cell? ⟨g,0,none⟩=some (.int .i64 i)/\w'.cell? ⟨g,1,none⟩=some (.string cl)/\w'.cell? ⟨g,2,none⟩=some (.string su)/\w'.cell? ⟨g,3,none⟩=some (.string sc)/\w'.cell? ⟨g,4,none⟩=some (.int .i64 ge)/\w'.cell? ⟨g,5,none⟩=some (.int .i64 ma)/\w'.cell? ⟨g,6,none⟩=some (.int .i64 us)/\w'.cell? ⟨g,7,none⟩=some (.string re)/\WB W w')
   (first
    |(refine⟨?_,?_,?_,?_,?_,?_,?_,?_,NY⟩<;>go_keep)
    |assumption
    |(go_split_ands
      exact um aS aS aS aS aS aS aS aS aS aS)
    |(go_split_ands
      exact um aS aS aS aS aS aS aS aS aS (bR.alloc nR _)))
   (first
    |(go_at_call 44;refine(UA.O _ (WB.cq (by(go_split_ands;assumption)))).mono ?_;rintro e w1 ⟨rfl,eu⟩)
    |(go_at_call 44;refine(HI2.O _ (WB.cq (by(go_split_ands;assumption)))).mono ?_;rintro e w1 ⟨rfl,eu⟩)
    |(go_at_call 44;refine(HI3.O _ (WB.cq (by(go_split_ands;assumption)))).mono ?_;rintro e w1 ⟨rfl,eu⟩)
    |(go_at_call 44;refine(HI4.O _ (WB.cq (by(go_split_ands;assumption)))).mono ?_;rintro e w1 ⟨rfl,eu⟩)
    |(go_at_call 197;refine(HW1.O _).mono ?_;rintro e w1 ⟨rfl,rfl⟩)
    |(go_at_call 197;refine(HW2.O _).mono ?_;rintro e w1 ⟨rfl,rfl⟩)
    |(go_at_call 104;refine(HJ.O _).mono ?_;rintro e w1 ⟨rfl,eu⟩))
  go_wp2_with fail;go_ret2;exact⟨rfl,by(go_split_ands;exact WB.below aS)⟩
theorem xM(e:Ev)(W:aah)(hs:e.bA.short 5000)(h:WB W W)(hy:gG e=true):
  ach prog 160 #[bH e] W fun x w'=>x=.returned (.tuple #[.string (aq (mq e)),.nilIface])/\Below W.heap.size W w':=by
 rcases jj hy with⟨h1,_⟩|⟨h1,_⟩|⟨h1,_⟩
 ·exact T6 e W hs h hy h1
 ·exact Hz e W hs h hy (.inl h1)
 ·exact Hz e W hs h hy (.inr h1)
theorem ux(s:ByteArray)(W:aah)(hs:s.size<=1000000)(hT:eN W)(hv:bX W):
  ach prog 219 #[.string s] W fun e w'=>e=.returned (.tuple #[.int .i64 (aa s.data.toList),.bool (ji s.data.toList)])/\Below W.heap.size W w':=by
 have hb:=nG s.data.toList;have Y5:s.toList=s.data.toList:=by rw[ByteArray.toList_eq]
 cases hE:jc s.data.toList
 ·have HA:=zH (Bj s W hs hv hE)
  have HN:=zH (show ji s.data.toList=false by unfold ji;rw[hE];rfl);clear hE hT hv Y5;generalize aa s.data.toList=n at*
  go_in
  go_wp2_with
   (go_at_call 53;refine HA.O.mono ?_;rintro e w1 ⟨⟨te,pe,rfl⟩,eu⟩
    have HB:=zH eu;clear eu)
  go_ret2;exact⟨by rw[HN.O];rfl,HB.O⟩
 ·have HA:=zH (tP s W hs hE)
  have HI:=zH (fun w=>ow (aa s.data.toList) hb.1 hb.2 w);have HT:=zH hT;have lt:=hT.lt
  have hN:ji s.data.toList=(((bM (aa s.data.toList)).toList == s.toList)&&decide (0<=aa s.data.toList)&&decide (aa s.data.toList<=1099511627776)):=by
   unfold ji bZ;rw[hE,zx,Y5,aky,<-aku]
   congr 2
   rw[ahp];simp
  have HN:=zH hN;clear hE hT hv Y5 hN;generalize aa s.data.toList=n at*;generalize bM n=y at*;cases hq:(y.toList == s.toList)
  ·have HQ:=zH hq
   go_in
   go_wp2_with
    (first
    |(go_at_call 53;refine HA.O.mono ?_;rintro e w1 ⟨rfl,eu⟩
      have HB:=zH eu;clear eu)
    |(go_at_call 44;refine(HI.O _ (HT.O.below HB.O lt)).mono ?_;rintro e w2 ⟨rfl,ju⟩
      have gS:=zH (below_2 HB.O ju);clear ju))
   go_ret2;exact⟨by rw[HN.O,HQ.O];rfl,gS.O⟩
  ·have HQ:=zH hq
   by_cases h0:0<=n
   all_goals
    go_in
    go_wp2_with
     (first
     |(go_at_call 53;refine HA.O.mono ?_;rintro e w1 ⟨rfl,eu⟩
       have HB:=zH eu;clear eu)
     |(go_at_call 44;refine(HI.O _ (HT.O.below HB.O lt)).mono ?_;rintro e w2 ⟨rfl,ju⟩
       have gS:=zH (below_2 HB.O ju);clear ju))
    go_ret2;refine⟨?_,gS.O⟩;rw[HN.O,HQ.O]
    first
     |(rw[show decide (0<=n)=true by simp;omega];rfl)
     |(rw[show decide (0<=n)=false by simp;omega];rfl)
def flat(L:List az):List aai:=L.flatMap fun f=>(au f).toList
theorem jI(f:az):(au f).toList.length=9:=rfl
theorem dQ:∀L:List az,(flat L).length=L.length*9
 |[]=>rfl
 |f::L=>by
  have:=dQ L;unfold flat at this ⊢;rw[List.flatMap_cons,ag2,this,jI,agj];omega
theorem jJ(f:az)(L:List az):flat (f::L)=(au f).toList++flat L:=rfl
theorem tX(a b:List az):flat (a++b)=flat a++flat b:=by simp[flat]
theorem Kz:∀{L:List az} {i:Nat} {f:az},L[i]?=some f->∀j,j<9->(flat L)[i*9+j]?=(au f)[j]?
 |[],i,f,h,_,_=>by simp at h
 |g::L,0,f,h,j,hj=>by
  simp at h;subst h;rw[jJ,Nat.zero_mul,ahq,air (by rw[jI];exact hj),ahb]
 |g::L,i+1,f,h,j,hj=>by
  rw[jJ,aiZ (by rw[jI];omega),jI,show(i+1)*9+j - 9=i*9+j by omega];exact Kz (by simpa using h) j hj
theorem vl(L:List az)(k:Nat):flat (L.take k)=(flat L).take (k*9):=by
 induction L generalizing k with
 |nil=>simp[flat]
 |cons f L ih=>
  cases k with
  |zero=>simp[flat]
  |succ k=>rw[ag9,jJ,jJ,ih,List.take_append,jI,ahO (l:=(au f).toList) (by rw[jI];omega),show(k+1)*9 - 9=k*9 by omega]
theorem vk(L:List az)(k:Nat):flat (L.drop k)=(flat L).drop (k*9):=by
 induction L generalizing k with
 |nil=>simp[flat]
 |cons f L ih=>
  cases k with
  |zero=>simp[flat]
  |succ k=>rw[ahd,jJ,ih,List.drop_append,jI,ajT (l:=(au f).toList) (by rw[jI];omega),show(k+1)*9 - 9=k*9 by omega,akt]
theorem jk{L:List az}{u:aai}(h:u∈flat L):u.oneCell'=true:=by
 obtain⟨f,_,hu⟩:=List.mem_flatMap.1 h;simp only[au,ab',adn,or_false]at hu;rcases hu with rfl|rfl|rfl|rfl|rfl|rfl|rfl|rfl|rfl<;>rfl
def bz(w:aah)(B:Nat)(v:aai)(L:List az):Prop:=w.ownsRow B 113 9 v L.length (flat L)
theorem bz.nil(w:aah)(B:Nat):bz w B (.slice none 0 0) []:=World.ownsRow_nil _ _ _ _
section
variable{w w':aah}{B:Nat}{v:aai}{L:List az}
theorem bz.below(h:bz w B v L)(hb:Below w.heap.size w w'):bz w' B v L:=h.kept (fV hb (some w.heap.size)) (.inr (fun he=>by have:=(h.lt _ he).2;omega))
theorem bz.mono{B':Nat}(h:bz w B v L)(hB:B'<=B):bz w B' v L:=World.ownsRow.mono h hB
theorem bz.kept(h:bz w B v L){row:Option Nat}(hg:w.grownBy w' row)(eZ:v.ownBlock≠row):bz w' B v L:=World.ownsRow.kept h hg (.inr eZ)
theorem bz.parts(h:bz w B v L):(v=.slice none 0 0/\L=[])\/∃g cap,v=.slice (some ⟨g,0,none⟩) L.length cap/\B<=g/\g<w.heap.size/\L.length<=cap/\cap<=9223372036854775807/\
  (∀j,w.frozen? ⟨g,j,none⟩=false)/\(∀j,j<cap*9->(w.cell? ⟨g,j,none⟩).isSome=true)/\(∀j,j<L.length*9->w.cell? ⟨g,j,none⟩=(flat L)[j]?):=by
 rcases h.2 with⟨rfl,h0⟩|⟨g,cap,cur,rfl,hB,hb,hn,hm,hc,ht⟩
 ·exact .inl ⟨rfl,acL h0⟩
 ·have aE:g<w.heap.size:=by
   rcases af8 g w.heap.size with h'|h'
   ·exact h'
   ·rw[adm h']at hb;cases hb
  refine .inr ⟨g,cap,rfl,hB,aE,hn,by unfold maxLen at hm;exact hm,fun j=>by simp[World.frozen?,hb],fun j hj=>?_,fun j hj=>?_⟩
  ·rw[cell_of_row w g j cur _ (0,0) hb,aht oM]
   rfl
  ·rw[cell_of_row w g j cur _ (0,0) hb,<-ht,ahm,if_pos hj,ahb]
theorem bz.at_{g:Nat}(h:bz w B (.slice (some ⟨g,0,none⟩) L.length cap) L){f:az}(hi:L[i]?=some f)(j:Nat)(hj:j<9):w.cell? ⟨g,i*9+j,none⟩=(au f)[j]?:=by
 have hil:=(ag6.1 hi).1;rcases h.parts with⟨e,_⟩|⟨g',wF,e,_,_,_,_,_,_,hc⟩
 ·simp at e
 ·simp only[Value.slice.injEq,akk,Addr.mk.injEq,and_true,true_and]at e
  obtain⟨rfl,rfl⟩:=e;rw[hc _ oM,Kz hi j hj]
end
theorem Bm:(prog.info? 113).map (fun i=>(i.zero,i.size,i.bytes))=some (some (.agg (au az.zero)),9,104):=kR
theorem lG(B:Nat)(v:aai)(L:List az)(w:aah)(h:bz w B v L)(hL:L.length<=1000000):
  ach prog 90 #[v] w fun e w'=>∃v',e=.returned v'/\bz w' w.heap.size v' L/\Below w.heap.size w w':=by
 obtain⟨i0,RV,sQ,vp,mY⟩:=aj' Bm;have q44:∀(w:aah) (a:Option Addr) (n c n' c':Nat),(binOp .eql 105 (.slice a n c) (.slice none n' c')).run prog w=.ok (.bool a.isNone) w:=fun w a n c n' c'=>Lib.run_eql_slice_nil w _ _ a n c n' c' ahY
 rcases h.parts with⟨rfl,rfl⟩|⟨g,cap,rfl,h1,h2,h3,h4,h5,h6,h7⟩
 ·go_enter func90,ntmps90
  go_wp2_with fail;go_ret;exact⟨_,rfl,bz.nil _ _,Below.refl _ _⟩
 ·have eE:(w.alloc (.cells #[] 113)).ownsRow w.heap.size 113 9 (.slice (some ⟨w.heap.size,0,none⟩) 0 0) 0 []:=
   ⟨rfl,.inr ⟨w.heap.size,0,#[],rfl,ahP _,heap_alloc_new w _,ahP _,ahW _,rfl,rfl⟩⟩
  have hl:=dQ L
  have KQ:∀j u,(flat L)[j]?=some u->(w.alloc (.cells #[] 113)).cell? ((⟨g,0,none⟩:Addr).add j)=some u:=by
   intro j u hj;have Qm:=(ag6.1 hj).1;rw[ah4,ahq,World.cell?_alloc_past (w:=w) _ g j h2,h7 j oM,hj]
  have HO:=zH eE;have HN:=zH KQ;have HL:=zH hl;clear eE KQ hl h h5 h6 h7
  go_in
  go_wp2_with
   (at_builtin;refine akl _ rfl _ _ 105 rfl w.heap.size 113 i0 (.agg (au az.zero)) 9 104 ahY RV sQ vp mY rfl dC _ 0 [] rfl HO.O ⟨g,0,none⟩ L.length cap (flat L) rfl HL.O HN.O (fun x hx=>jk hx) mL oM sP ?_;intro v' w3 eE cZ mB
    have HO3:=zH eE;have HG:=zH cZ;clear eE cZ mB)
  go_ret;refine⟨_,rfl,?_,?_⟩
  ·have:=HO3.O
   rw[ahq,akt]at this;exact this
  ·have b1:Below w.heap.size w (w.alloc (.cells #[] 113)):=bR.alloc nR _
   exact fT b1 HG.O nR b1.size
theorem Qb(f:az)(n:Int)(hf:bZ f.id=true)(hn:bZ n=true)(w:aah):
  ach prog 93 #[cM f,.int .i64 n] w fun e w'=>e=.returned (.int .i64 (f.id - n))/\Below w.heap.size w w':=by
 have h1:=aX.1 hf;have h2:=aX.1 hn;obtain⟨i,cl,su,sc,ge,ma,us,re,de⟩:=f;dsimp only at h1;unfold cM au;dsimp only
 go_in
 go_wp2_with fail;go_ret;exact⟨rfl,bR.alloc nR _⟩
theorem bz.nine{w:aah}{B g:Nat}{L:List az}(h:bz w B (.slice (some ⟨g,0,none⟩) L.length cap) L){i:Int}(hk:L[k]?=some ⟨i,cl,su,sc,ge,ma,us,re,de⟩):
  w.cell? ⟨g,k*9,none⟩=some (.int .i64 i)/\w.cell? ⟨g,k*9+1,none⟩=some (.string cl)/\w.cell? ⟨g,k*9+2,none⟩=some (.string su)/\w.cell? ⟨g,k*9+3,none⟩=some (.string sc)/\w.cell? ⟨g,k*9+4,none⟩=some (.int .i64 ge)/\
  w.cell? ⟨g,k*9+5,none⟩=some (.int .i64 ma)/\w.cell? ⟨g,k*9+6,none⟩=some (.int .i64 us)/\w.cell? ⟨g,k*9+7,none⟩=some (.string re)/\w.cell? ⟨g,k*9+8,none⟩=some (.bool de):=
 ⟨h.at_ hk 0 dC,h.at_ hk 1 dC,h.at_ hk 2 dC,h.at_ hk 3 dC,h.at_ hk 4 dC,h.at_ hk 5 dC,h.at_ hk 6 dC,h.at_ hk 7 dC,h.at_ hk 8 dC⟩
structure FD(W:aah)(B:Nat)(v:aai)(L:List az)(n:Int)(a b:Nat)(w:aah):Prop where
 below:Below W.heap.size W w
 row:bz w B v L
 le:a<=b
 aR:b<=L.length
 low:∀j f,j<a->L[j]?=some f->f.id<n
 high:∀j f,b<=j->L[j]?=some f->n<=f.id
def Zg(W:aah)(B:Nat)(v:aai)(L:List az)(n:Int)(i j:aai)(wr:aah):Prop:=∃a b:Nat,i=.int .i64 a/\j=.int .i64 b/\FD W B v L n a b wr
theorem EV(B g cap:Nat)(L:List az)(n:Int)(W:aah)(h:bz W B (.slice (some ⟨g,0,none⟩) L.length cap) L)(hL:L.length<=1000000)(hA:EF L)(NP:∀f∈L,bZ f.id=true)(hn:bZ n=true):
  ach prog 92 #[.slice (some ⟨g,0,none⟩) L.length cap,.int .i64 n,.func (.func 93) #[] #[]] W
   fun e w'=>e=.returned (.tuple #[.int .i64 (ahead L n),.bool (hasB L n)])/\Below W.heap.size W w':=by
 have H0:=zH h;have HI:=zH NP;have HA:=zH hA;clear h NP hA
 go_in
 go_wp2
 go_loopw [9,10] (fun i j wr=>Zg W B (.slice (some ⟨g,0,none⟩) L.length cap) L n i j wr) (fun i j _=>(ahZ j).toNat - (ahZ i).toNat)
 case atStart=>exact⟨0,L.length,rfl,rfl,Below.refl _ _,H0.O,ahW _,ahP _,fun j f hj=>absurd hj (ah' _),fun j f hj hf=>by rw[aj3 hj]at hf;cases hf⟩
 case round=>
  obtain⟨a,b,rfl,rfl,hd⟩:=hrel;have HD:=zH hd;have Ew:=hd.le;have IG:=hd.aR;clear hd
  by_cases aE:a<b
  ·obtain⟨k,E3,Gp,Qn,hk4⟩:∃k:Nat,((a:Int)+(b:Int)) / 2=(k:Int)/\(a+b) / 2=k/\a<=k/\k<b:=⟨(a+b) / 2,by omega,rfl,by omega,by omega⟩
   (have hkL:k<L.length:=by omega);obtain⟨f,hf⟩:∃f,L[k]?=some f:=⟨_,ag8 hkL⟩;have hfo:=HI.O f (ahG hf);have HC:=zH (fun w=>Qb f n hfo hn w);have hfr:=aX.1 hfo;have hnr:=aX.1 hn
   have mQ:∀j f',j<k+1->L[j]?=some f'->f'.id<=f.id:=by
    intro j f' hj IC;rcases af8 j k with Uo|Uo
    ·have:=aiq.1 HA.O j k oM hkL Uo
     rw[ag8 oM]at IC hf;cases IC;cases hf;omega
    ·obtain rfl:j=k:=by omega
     rw[hf]at IC;cases IC;exact aiQ _
   have Y5:∀j f',k<=j->L[j]?=some f'->f.id<=f'.id:=by
    intro j f' hj IC;rcases af8 k j with Uo|Uo
    ·have Qm:=(ag6.1 IC).1
     have:=aiq.1 HA.O k j hkL Qm Uo;rw[ag8 oM]at IC hf;cases IC;cases hf;omega
    ·obtain rfl:j=k:=by omega
     rw[hf]at IC;cases IC;exact aiQ _
   (have Jt:=zH mQ;have YR:=zH Y5;obtain⟨i,cl,su,sc,ge,ma,us,re,de⟩:=f;obtain⟨c0,c1,c2,c3,c4,c5,c6,c7,c8⟩:=HD.O.row.nine hf;have HF:=zH hf;unfold cM au at HC;dsimp only at HC hfr hfo;clear hf mQ Y5 hfo);by_cases hc:i<n
   all_goals
    go_wp2_with fail;refine(HC.O _).mono ?_;rintro e w1 ⟨rfl,hb⟩;have HB:=zH hb;clear hb c0 c1 c2 c3 c4 c5 c6 c7 c8;go_wp2_with fail
   ·go_roundw
    (case rel=>exact⟨k+1,b,by go_num,rfl,below_2 HD.O.below HB.O,HD.O.row.below HB.O,by omega,HD.O.aR,fun j f' hj IC=>by have:=Jt.O j f' hj IC;omega,HD.O.high⟩);case measure=>simp[ahZ];omega
   ·go_roundw
    (case rel=>exact⟨a,k,rfl,rfl,below_2 HD.O.below HB.O,HD.O.row.below HB.O,Qn,by omega,HD.O.low,fun j f' hj IC=>by have:=YR.O j f' hj IC;omega⟩);case measure=>simp[ahZ];omega
  ·obtain rfl:a=b:=by omega
   (have HE:=zH (UP HA.O HD.O.aR HD.O.low HD.O.high));by_cases haL:a<L.length
   ·obtain⟨f,hf⟩:∃f,L[a]?=some f:=⟨_,ag8 haL⟩
    (have hfo:=HI.O f (ahG hf);have HC:=zH (fun w=>Qb f n hfo hn w);have HHB:=zH (zo (L:=L) (n:=n) (f:=f) (by rw[HE.O];exact hf));obtain⟨i,cl,su,sc,ge,ma,us,re,de⟩:=f;obtain⟨c0,c1,c2,c3,c4,c5,c6,c7,c8⟩:=HD.O.row.nine hf;have hz:(i - n == 0)=decide (i=n):=by rw[ahp];simp;omega);unfold cM au at HC;dsimp only at HC HHB;generalize decide (i=n)=bq at*;clear hf hfo;go_wp2_with fail;refine(HC.O _).mono ?_;rintro e w1 ⟨rfl,hb⟩;have HB:=zH hb;clear hb c0 c1 c2 c3 c4 c5 c6 c7 c8;go_wp2_with fail;go_ret2;exact⟨by rw[HE.O,HHB.O];rfl,below_2 HD.O.below HB.O⟩
   ·have HHB:=zH (zn (L:=L) (n:=n) (by rw[HE.O];omega))
    go_wp2_with fail;go_ret2;exact⟨by rw[HE.O,HHB.O];rfl,HD.O.below⟩
theorem It(n:Int)(W:aah):
  ach prog 92 #[.slice none 0 0,.int .i64 n,.func (.func 93) #[] #[]] W
   fun e w'=>e=.returned (.tuple #[.int .i64 0,.bool false])/\W=w':=by
 go_in
 go_wp2
 go_loopw [9,10] (fun i j wr=>i=.int .i64 0/\j=.int .i64 0/\W=wr) (fun _ _ _=>0)
 case atStart=>exact⟨rfl,rfl,rfl⟩
 case round=>
  obtain⟨rfl,rfl,rfl⟩:=hrel;go_wp2_with fail;go_ret2;exact⟨rfl,rfl⟩
theorem VB(B:Nat)(v:aai)(L:List az)(n:Int)(W:aah)(h:bz W B v L)(hL:L.length<=1000000)(hA:EF L)(NP:∀f∈L,bZ f.id=true)(hn:bZ n=true):
  ach prog 92 #[v,.int .i64 n,.func (.func 93) #[] #[]] W
   fun e w'=>e=.returned (.tuple #[.int .i64 (ahead L n),.bool (hasB L n)])/\Below W.heap.size W w':=by
 rcases h.parts with⟨rfl,rfl⟩|⟨g,cap,rfl,_⟩
 ·exact(It n W).mono fun e w' hh=>⟨hh.1,hh.2▸Below.refl _ _⟩
 ·exact EV B g cap L n W h hL hA NP hn
theorem Is(B vb:Nat)(v:aai)(L:List az)(n:Int)(W:aah)(h:bz W B v L)(hv:W.cell? ⟨vb,0,none⟩=some v)(hL:L.length<=1000000)(hA:EF L)(NP:∀f∈L,bZ f.id=true)(hn:bZ n=true):
  ach prog 91 #[.int .i64 n,.pointer (some ⟨vb,0,none⟩)] W fun e w'=>e=.returned (.tuple #[.int .i64 (ahead L n),.bool (hasB L n)])/\Below W.heap.size W w':=by
 have H:=zH (VB B v L n W h hL hA NP hn);clear hA NP hn;rcases h.parts with⟨rfl,rfl⟩|⟨g,cap,rfl,_⟩
 all_goals
  clear h
  go_in
  go_wp2_with (go_at_call 92;refine H.O.mono ?_;rintro e w1 ⟨rfl,hb⟩;have HB:=zH hb;clear hb);go_ret2;exact⟨rfl,HB.O⟩
theorem bz.block{w:aah}{B:Nat}{v:aai}{L:List az}(h:bz w B v L):(v=.slice none 0 0/\L=[])\/∃g cap cur,v=.slice (some ⟨g,0,none⟩) L.length cap/\B<=g/\aC w g 113 cur/\L.length<=cap/\cap<=9223372036854775807/\cur.size=cap*9/\cur.toList.take (L.length*9)=flat L:=by
 rcases h.2 with⟨rfl,h0⟩|⟨g,cap,cur,rfl,hB,hb,hn,hm,hc,ht⟩
 ·exact .inl ⟨rfl,acL h0⟩
 ·exact .inr ⟨g,cap,cur,rfl,hB,hb,hn,by unfold maxLen at hm;exact hm,hc,ht⟩
theorem bz.of_block{w:aah}{B g:Nat}{L:List az}(hB:B<=g)(hb:aC w g 113 cur)(hn:L.length<=cap)(hm:cap<=9223372036854775807)(hc:cur.size=cap*9)(ht:cur.toList.take (L.length*9)=flat L):bz w B (.slice (some ⟨g,0,none⟩) L.length cap) L:=
 ⟨dQ L,.inr ⟨g,cap,cur,rfl,hB,hb,hn,by unfold maxLen;exact hm,hc,ht⟩⟩
theorem Cy(B vb:Nat)(v:aai)(L:List az)(f:az)(w:aah)(h:bz w B v L)(hL:L.length<=1000000)(hB:B<=w.heap.size)(hv:aC w vb 113 (au f)):
  ach prog 94 #[v,.int .i64 L.length,.slice (some ⟨vb,0,none⟩) 1 1] w fun e w'=>∃v',e=.returned v'/\bz w' B v' (L++[f])/\w.grownBy w' v.ownBlock:=by
 obtain⟨i0,RV,sQ,vp,mY⟩:=aj' Bm
 have KQ:∀j u,(au f).toList[j]?=some u->w.cell? ((⟨vb,0,none⟩:Addr).add j)=some u:=by
  intro j u hj;rw[ah4,ahq,hv.cell j]
  rwa[ahb]at hj
 have HN:=zH KQ;have HO:=zH h;have V2:∀u∈(au f).toList,u.oneCell'=true:=fun u hu=>jk (L:=[f]) (by simpa[flat]using hu)
 have HON:=zH V2;clear KQ hv V2;rcases h.parts with⟨rfl,rfl⟩|⟨g,cap,rfl,h1,h2,h3,h4,_⟩
 all_goals
  clear h
  go_in
  go_wp2_with
   (at_builtin;refine akl _ rfl _ _ 105 rfl B 113 i0 (.agg (au az.zero)) 9 104 ahY RV sQ vp mY rfl dC _ _ _ rfl HO.O ⟨vb,0,none⟩ 1 1 (au f).toList rfl rfl HN.O HON.O mL oM hB ?_;intro v' w3 eE cZ mB
    have HO3:=zH eE;have HG:=zH cZ;clear eE cZ mB)
 all_goals
  go_ret;refine⟨_,rfl,?_,HG.O⟩;have:=HO3.O
  first
   |(unfold bz
     rw[tX,ag2];simpa[flat]using this)
   |simpa[bz,flat]using this
theorem Qa:(prog.info? 113).map (·.size)=some 9:=kR
theorem nL(w:aah)(ty:aat)(g o ahF al8:Nat)(a:Addr)(ajV aoV m:Nat)(cur:Array aai)(cs:List aai)(hg:aC w g 113 cur)(hm:Nat.min ajV ahF=m)(hl:cs.length=m*9)(ae3:∀j v,cs[j]?=some v->w.cell? (a.add j)=some v)(ed:o+cs.length<=cur.size)(h1:∀v∈cs,v.oneCell'=true):
  (aip #[105,105] ty #[.slice (some ⟨g,o,none⟩) ahF al8,.slice (some a) ajV aoV]).run prog w=
   .ok (goInt m) (w.setRow g (cur.toList.take o++cs++cur.toList.drop (o+cs.length)).toArray):=by
 have hld:=run_loadCells_list (P:=prog) w a cs ae3;rw[hl]at hld;have gX:=ai7 prog g o _ cs 0 cur w hg (by simpa using ed) h1
 obtain⟨i,hq,hi⟩:∃i,prog.info? 113=some i/\i.size=9:=by
  have h:=Qa;cases hq:prog.info? 113 with
  |none=>rw[hq]at h;cases h
  |some i=>rw[hq]at h;exact⟨i,rfl,by simpa using h⟩
 simp[aip,run_underlying ahY,Builtin.lenOf,akh,sizeOf,typeInfo,hq,hi,hm,hld,gX]
theorem aC.row{w:aah}{g:Nat}{T:aat}{new:Array aai}(h:aC w g T cur):aC (w.setRow g new) g T new:=setRow_heap w g cur new _ _ h
theorem fP(w:aah)(g:Nat)(new:Array aai):w.grownBy (w.setRow g new) (some g):=
 ⟨rfl,rfl,rfl,by simp,fun i _ eZ=>setRow_other w g i new (by intro e;exact eZ (by rw[e]))⟩
theorem GU{w:aah}{g:Nat}{T:aat}(h:aC w g T cur):w.shape? g=some (T,cur.size):=by
 unfold aC at h;simp[World.shape?,h]
theorem XQ(w:aah):(Go.sizeOf 113).run prog w=.ok 9 w:=kR
theorem R9{L:List az}{f:az}{xs:List aai}(hx:xs.length=c*9)(ht:xs.take (L.length*9)=flat L)(hi:i<=L.length)(hc:L.length+1<=c):
  let c1:=xs.take ((i+1)*9)++flat (L.drop i)++xs.drop ((i+1)*9+(flat (L.drop i)).length)
  let c2:=c1.take (i*9)++(au f).toList++c1.drop (i*9+(au f).toList.length)
  c1.length=c*9/\c2.length=c*9/\c2.take ((L.length+1)*9)=flat (L.take i++f::L.drop i):=by
 intro c1 c2;have hd:(flat (L.drop i)).length=(L.length - i)*9:=by rw[dQ,ag_]
 have hf:(au f).toList.length=9:=rfl
 have h1:c1.length=c*9:=by
  show(xs.take ((i+1)*9)++flat (L.drop i)++xs.drop ((i+1)*9+(flat (L.drop i)).length)).length=_
  simp only[ag2,ag',ag_,hd,hx];omega
 have ht1:c1.take (i*9)=flat (L.take i):=by
  show(xs.take ((i+1)*9)++flat (L.drop i)++xs.drop ((i+1)*9+(flat (L.drop i)).length)).take (i*9)=_
  rw[aho,aia (by rw[ag',hx];omega),aiK,vl,<-ht,aiK]
  congr 1
  omega
 have hd1:c1.drop (i*9+9)=flat (L.drop i)++xs.drop ((L.length+1)*9):=by
  show(xs.take ((i+1)*9)++flat (L.drop i)++xs.drop ((i+1)*9+(flat (L.drop i)).length)).drop (i*9+9)=_
  have hl:(xs.take ((i+1)*9)).length=i*9+9:=by rw[ag',hx];omega
  rw[aho,<-hl,List.drop_left,hd]
  congr 2
  omega
 have NM:c2=flat (L.take i)++(au f).toList++(flat (L.drop i)++xs.drop ((L.length+1)*9)):=by
  show c1.take (i*9)++(au f).toList++c1.drop (i*9+(au f).toList.length)=_
  rw[ht1,hf,hd1]
 refine⟨h1,?_,?_⟩
 ·rw[NM]
  simp only[ag2,ag_,hd,hx,hf,dQ,ag'];omega
 ·have e:flat (L.take i++f::L.drop i)=flat (L.take i)++(au f).toList++flat (L.drop i):=by
   rw[tX,jJ,aho]
  rw[NM,e,<-aho,aia (by simp only[ag2,hd,hf,dQ,ag'];omega),ahO (by simp only[ag2,hd,hf,dQ,ag'];omega)]
theorem A5(B g cap vb i:Nat)(cur:Array aai)(L:List az)(f:az)(w:aah)(hi:i<L.length)(hb:aC w g 113 cur)(A6:L.length+1<=cap)(hm:cap<=9223372036854775807)(hc:cur.size=cap*9)(ht:cur.toList.take (L.length*9)=flat L)(Z2:B<=g)(hL:L.length<=1000000)(hv:aC w vb 113 (au f))(eZ:vb≠g):
  ach prog 94 #[.slice (some ⟨g,0,none⟩) L.length cap,.int .i64 i,.slice (some ⟨vb,0,none⟩) 1 1] w fun e w'=>∃v',e=.returned v'/\bz w' B v' (L.take i++f::L.drop i)/\w.grownBy w' (some g):=by
 have Un:cur.toList.length=cap*9:=by rw[ahh];exact hc
 obtain⟨k1,k2,k3⟩:=R9 (f:=f) Un ht (aki hi) A6;have hd:(flat (L.drop i)).length=(L.length - i)*9:=by rw[dQ,ag_]
 have hov:∀o lb cb,(callFunc 135 #[.slice (some ⟨vb,0,none⟩) 1 1,.slice (some ⟨g,o,none⟩) lb cb]).run prog w=.ok (.value (.bool false)) w:=fun o lb cb=>by
  rw[run_callFunc_extern func135 kR kR kR (e:=Extern.SlicesOverlaps.overlaps #[105,105] #[4]) kR,
   Lib.run_overlaps_apart w 105 4 113 ahY 9 XQ ⟨vb,0,none⟩ ⟨g,o,none⟩ 1 1 lb cb eZ _ _ _ _ (GU hv) (GU hb) (by rw[hc];omega) (hv.frozen 0) (hv.frozen _)]
  rfl
 have acR:∀j v,(flat (L.drop i))[j]?=some v->w.drew.cell? ((⟨g,i*9,none⟩:Addr).add j)=some v:=by
  intro j v hj;have Qm:=(ag6.1 hj).1;rw[ah4]
  show w.cell? ⟨g,i*9+j,none⟩=some v
  rw[hb.cell,<-hj,vk,ah_,<-ht,ahm,if_pos oM,ahb]
 obtain⟨c1,Qf⟩:∃c1:Array aai,c1=(cur.toList.take ((i+1)*9)++flat (L.drop i)++cur.toList.drop ((i+1)*9+(flat (L.drop i)).length)).toArray:=⟨_,rfl⟩;have RQ:c1.toList=cur.toList.take ((i+1)*9)++flat (L.drop i)++cur.toList.drop ((i+1)*9+(flat (L.drop i)).length):=by rw[Qf]
 have aid:∀ty,(aip #[105,105] ty #[.slice (some ⟨g,(i+1)*9,none⟩) (L.length - i) (cap - (i+1)),.slice (some ⟨g,i*9,none⟩) (L.length+1 - i) (cap - i)]).run prog w.drew=.ok (goInt (L.length - i:Nat)) (w.drew.setRow g c1):=fun ty=>by
  rw[Qf];exact nL w.drew ty g _ _ _ _ _ _ (L.length - i) cur _ hb.drew (by simp only[ajU];split<;>omega) hd acR (by rw[hd,hc];omega) (fun v hv=>jk hv)
 have Z4:aC (w.drew.setRow g c1) g 113 c1:=hb.drew.row;obtain⟨W1,Eu⟩:∃W1,W1=w.drew.setRow g c1:=⟨_,rfl⟩;rw[<-Eu]at aid Z4;have hvW:aC W1 vb 113 (au f):=by rw[Eu];exact hv.drew.grown (fP _ _ _) (by simpa using eZ)
 have acS:∀j v,(au f).toList[j]?=some v->W1.cell? ((⟨vb,0,none⟩:Addr).add j)=some v:=by
  intro j v hj;rw[ah4,ahq,hvW.cell,<-ahb,hj]
 obtain⟨c2,NM⟩:∃c2:Array aai,c2=(c1.toList.take (i*9)++(au f).toList++c1.toList.drop (i*9+(au f).toList.length)).toArray:=⟨_,rfl⟩;have ah9:c1.size=cap*9:=by rw[<-ahh,RQ];exact k1
 have amV:∀ty dc,(aip #[105,105] ty #[.slice (some ⟨g,i*9,none⟩) (L.length+1 - i) dc,.slice (some ⟨vb,0,none⟩) 1 1]).run prog W1=.ok (goInt (1:Nat)) (W1.setRow g c2):=fun ty dc=>by
  rw[NM];exact nL W1 ty g _ _ _ _ _ _ 1 c1 _ Z4 (by simp only[ajU];split<;>omega) rfl acS (by rw[ah9];show i*9+9<=_;omega) (fun v hv=>jk (L:=[f]) (by simpa[flat]using hv))
 have BP:=zH (show bz (W1.setRow g c2) B (.slice (some ⟨g,0,none⟩) (L.take i++f::L.drop i).length cap) (L.take i++f::L.drop i)/\w.grownBy (W1.setRow g c2) (some g)from by
  have hlen:(L.take i++f::L.drop i).length=L.length+1:=by simp;omega
  have RR:c2.toList=(c1.toList.take (i*9)++(au f).toList++c1.toList.drop (i*9+(au f).toList.length)):=by rw[NM]
  rw[RQ]at RR;refine⟨bz.of_block Z2 Z4.row oM hm ?_ ?_,?_⟩
  ·rw[<-ahh,RR];exact k2
  ·rw[hlen,RR];exact k3
  ·rw[Eu]
   exact jD (jD (zI (dU w (some g))) (fP w.drew g c1)) (fP _ g c2))
 have hlen:(L.take i++f::L.drop i).length=L.length+1:=by simp;omega
 rw[hlen]at BP;have MR:IntKind.i64.wrap ((i:Int)+1)=(i:Int)+1:=by rw[aks];omega
 have vp:(0:Int)<=(i:Int)+1:=by omega
 have htn:((i:Int)+1).toNat=i+1:=by omega
 have mY:¬ (cap=i+1):=by omega
 have hz3:(i:Int)<=(L.length:Int)+1:=by omega
 have hz4:¬ (cap=i):=by omega
 have NQ:i<=L.length:=by omega
 have mixed:prog.follows .mixedOrders=true:=kR;have HW1:=zH Eu;clear k1 k2 k3 hd Un ht acR acS Qf RQ ah9 NM hvW Z4 Eu hb hv hlen
 go_in
 go_wp2_with (simp only[hov])
 go_region_law_o (refine step_copy_runI rfl _ _ 105 105 rfl _ _ (by simp[agl,agu]) (by simp[agl,agu]) (aid _) ?_)
 go_wp2_with (at_builtin;refine wpList_copy_runI _ rfl _ _ 105 105 rfl _ _ rfl rfl (amV _ _) ?_);go_ret;exact⟨_,rfl,BP.O.1,BP.O.2⟩
theorem Pu(k:Nat):(ahi (aiB (au az.zero)).cells k).size=k*9:=by
 simp[ahi,akp,au]
theorem NJ{L:List az}{f:az}{zs:List aai}{G:Nat}(hz:zs.length=(G - i)*9)(hi:i<=L.length)(hG:L.length+1<=G):
  let r0:=flat (L.take i)++zs
  let r1:=r0.take (i*9)++(au f).toList++r0.drop (i*9+(au f).toList.length)
  let r2:=r1.take ((i+1)*9)++flat (L.drop i)++r1.drop ((i+1)*9+(flat (L.drop i)).length)
  r0.length=G*9/\r1.length=G*9/\r2.length=G*9/\r2.take ((L.length+1)*9)=flat (L.take i++f::L.drop i):=by
 intro r0 r1 r2;have hd:(flat (L.drop i)).length=(L.length - i)*9:=by rw[dQ,ag_]
 have ht:(flat (L.take i)).length=i*9:=by rw[dQ,ag'];congr 1;omega
 have hf:(au f).toList.length=9:=rfl
 have h0:r0.length=G*9:=by
  show(flat (L.take i)++zs).length=_
  rw[ag2,ht,hz];omega
 have e1:r1=flat (L.take i)++(au f).toList++r0.drop (i*9+9):=by
  show r0.take (i*9)++(au f).toList++r0.drop (i*9+(au f).toList.length)=_
  rw[hf]
  congr 2
  show(flat (L.take i)++zs).take (i*9)=_
  rw[<-ht,aiu]
 have h1:r1.length=G*9:=by
  rw[e1,ag2,ag2,ag_,ht,hf,h0];omega
 have e2:r1.take ((i+1)*9)=flat (L.take i)++(au f).toList:=by
  have hl:(flat (L.take i)++(au f).toList).length=(i+1)*9:=by rw[ag2,ht,hf];omega
  rw[e1,<-hl,aiu]
 have e3:r2=flat (L.take i)++(au f).toList++flat (L.drop i)++r1.drop ((i+1)*9+(flat (L.drop i)).length):=by
  show r1.take ((i+1)*9)++flat (L.drop i)++r1.drop ((i+1)*9+(flat (L.drop i)).length)=_
  rw[e2]
 refine⟨h0,h1,?_,?_⟩
 ·rw[e3]
  simp only[ag2,ag_,ht,hf,hd,h1];omega
 ·have e:flat (L.take i++f::L.drop i)=flat (L.take i)++(au f).toList++flat (L.drop i):=by
   rw[tX,jJ,aho]
  have hl:(flat (L.take i)++(au f).toList++flat (L.drop i)).length=(L.length+1)*9:=by
   simp only[ag2,ht,hf,hd];omega
  rw[e3,e,<-hl,aiu]
theorem A2(B g cap vb i:Nat)(cur:Array aai)(L:List az)(f:az)(w:aah)(hi:i<L.length)(hb:aC w g 113 cur)(A6:cap<L.length+1)(hlc:L.length<=cap)(hm:cap<=9223372036854775807)(ht:cur.toList.take (L.length*9)=flat L)(hL:L.length<=1000000)(hv:aC w vb 113 (au f))(hBw:B<=w.heap.size):
  ach prog 94 #[.slice (some ⟨g,0,none⟩) L.length cap,.int .i64 i,.slice (some ⟨vb,0,none⟩) 1 1] w fun e w'=>∃v',e=.returned v'/\bz w' B v' (L.take i++f::L.drop i)/\w.grownBy w' (some g):=by
 obtain⟨i0,hi0,sQ,hzs,hzb⟩:=aj' Bm;have hgw:=hb.lt;have hvw:=hv.lt;have hd:(flat (L.drop i)).length=(L.length - i)*9:=by rw[dQ,ag_]
 have htl:(flat (L.take i)).length=i*9:=by rw[dQ,ag'];congr 1;omega
 have hkk:(L.length:Int)+1 - (i:Int)=((L.length+1 - i:Nat):Int):=by omega
 have V1:i+(L.length+1 - i)=L.length+1:=by omega
 have qD:∀j u,(flat L)[j]?=some u->w.cell? ⟨g,j,none⟩=some u:=by
  intro j u hj;rw[hb.cell,<-hj,<-ht,ahm,if_pos (by have:=(ag6.1 hj).1;rw[dQ]at this;exact this),ahb]
 have hold:(akh i0.size i (.slice (some ⟨g,0,none⟩) i cap)).run prog w.drew=.ok (flat (L.take i)).toArray w.drew:=by
  rw[hzs]
  exact run_firstCells_some w.drew 9 i ⟨g,0,none⟩ i cap (flat (L.take i)) htl (fun j u hj=>by
   rw[ah4,ahq];(show w.cell? ⟨g,j,none⟩=some u);rw[vl,ahm]at hj;split at hj;(·exact qD j u hj)
   ·cases hj)
 obtain⟨G,hG⟩:∃G,G=grownCap w (L.length+1) cap 113:=⟨_,rfl⟩;obtain⟨Q8,aeg⟩:∃Q8:Array aai,Q8=(flat (L.take i)).toArray++ahi (aiB (au az.zero)).cells (L.length+1 - i)++ahi (aiB (au az.zero)).cells (G - (L.length+1)):=⟨_,rfl⟩
 have hrz:∀ty,(Builtin.append_ #[105,3] ty #[.slice (some ⟨g,0,none⟩) i cap,.int .i64 ((L.length:Int)+1 - (i:Int))]).run prog w=
   .ok (.slice (some ⟨w.heap.size,0,none⟩) (L.length+1) G) (w.drew.alloc (.cells Q8 113)):=fun ty=>by
  have h:=Lib.run_append_grow_zeros w 105 3 ty 113 i0 _ .i64 .i64 ahY underlying3 hi0 sQ (some ⟨g,0,none⟩) i cap (flat (L.take i)) hold (L.length+1 - i) oM oM oM oM (by rw[hzb];omega) (by rw[hzb,V1];exact growslice_fits A6 oM);rw[V1,<-hG]at h;rw[hkk,aeg];exact h
 have hGn:L.length+1<=G:=by rw[hG];exact grownCap_ge w _ _ _
 have amj:G<=9223372036854775807:=by
  have:=grownCap_le_maxLen w (L.length+1) cap 113 mL;rw[<-hG]at this;unfold maxLen at this;omega
 obtain⟨zs,aji,ajj⟩:∃zs:List aai,Q8.toList=flat (L.take i)++zs/\zs.length=(G - i)*9:=
  ⟨(ahi (aiB (au az.zero)).cells (L.length+1 - i)).toList++(ahi (aiB (au az.zero)).cells (G - (L.length+1))).toList,by rw[aeg];simp,by
    simp only[ag2,ahh,Pu];omega⟩
 obtain⟨q0,q1,q2,q3⟩:=NJ (f:=f) ajj (aki hi) hGn;rw[<-aji]at q0 q1 q2 q3;obtain⟨R1,hR1⟩:∃R1:Array aai,R1=(Q8.toList.take (i*9)++(au f).toList++Q8.toList.drop (i*9+(au f).toList.length)).toArray:=⟨_,rfl⟩;have ah0:R1.toList=Q8.toList.take (i*9)++(au f).toList++Q8.toList.drop (i*9+(au f).toList.length):=by rw[hR1]
 rw[<-ah0]at q1 q2 q3;obtain⟨R2,hR2⟩:∃R2:Array aai,R2=(R1.toList.take ((i+1)*9)++flat (L.drop i)++R1.toList.drop ((i+1)*9+(flat (L.drop i)).length)).toArray:=⟨_,rfl⟩;have ah1:R2.toList=R1.toList.take ((i+1)*9)++flat (L.drop i)++R1.toList.drop ((i+1)*9+(flat (L.drop i)).length):=by rw[hR2]
 rw[<-ah1]at q2 q3
 have aie:∀W,aC W w.heap.size 113 Q8->aC W vb 113 (au f)->∀ty dc,(aip #[105,105] ty #[.slice (some ⟨w.heap.size,i*9,none⟩) (L.length+1 - i) dc,.slice (some ⟨vb,0,none⟩) 1 1]).run prog W=.ok (goInt (1:Nat)) (W.setRow w.heap.size R1):=fun W h1 h2 ty dc=>by
  rw[hR1];exact nL W ty w.heap.size _ _ _ _ _ _ 1 Q8 _ h1 (by simp only[ajU];split<;>omega) rfl (fun j u hj=>by rw[ah4,ahq,h2.cell,<-ahb,hj]) (by rw[<-ahh,q0];show i*9+9<=_;omega) (fun v hv=>jk (L:=[f]) (by simpa[flat]using hv))
 have aif:∀W,aC W w.heap.size 113 R1->aC W g 113 cur->∀ty,(aip #[105,105] ty #[.slice (some ⟨w.heap.size,(i+1)*9,none⟩) (L.length - i) (G - (i+1)),.slice (some ⟨g,i*9,none⟩) (L.length - i) (cap - i)]).run prog W=.ok (goInt (L.length - i:Nat)) (W.setRow w.heap.size R2):=fun W h1 h2 ty=>by
  rw[hR2]
  exact nL W ty w.heap.size _ _ _ _ _ _ (L.length - i) R1 _ h1 (by simp only[ajU];split<;>omega) hd (fun j u hj=>by
   rw[ah4,h2.cell];have Qm:=(ag6.1 hj).1;rw[<-hj,vk,ah_,<-ht,ahm,if_pos oM,ahb]) (by rw[<-ahh,q1,hd];omega) (fun v hv=>jk hv)
 have hlen:(L.take i++f::L.drop i).length=L.length+1:=by simp;omega
 have ah2:R2.size=G*9:=by rw[<-ahh];exact q2
 have BP:=zH (fun(W:aah) (h1:aC W w.heap.size 113 R2)=>(bz.of_block hBw h1 oM amj ah2 (by rw[hlen];exact q3):bz W B (.slice (some ⟨w.heap.size,0,none⟩) (L.take i++f::L.drop i).length G) (L.take i++f::L.drop i)));rw[hlen]at BP;have hcA:=fun ty dc=>aie ((w.alloc (.cells Q8 113)).drew) (aC.new w _ _).drew (hv.alloc _).drew ty dc
 obtain⟨W1,Eu⟩:∃W1,W1=(w.alloc (.cells Q8 113)).drew.setRow w.heap.size R1:=⟨_,rfl⟩;rw[<-Eu]at hcA;have eu:aC W1 w.heap.size 113 R1:=by rw[Eu];exact(aC.new w _ _).drew.row
 have As:aC W1 g 113 cur:=by rw[Eu];exact(hb.alloc _).drew.grown (fP _ _ _) sO
 have hl1:Below w.heap.size w W1:=by
  rw[Eu];have b1:Below w.heap.size w (w.alloc (.cells Q8 113)).drew:=below_drewN ((Below.refl w.heap.size w).alloc nR _) 1;exact b1.grown (fP _ _ _) sP (fun j hj=>by cases hj;exact ahP _)
 have hcB:=fun ty=>aif W1.drew eu.drew As.drew ty
 have JH:=zH (show bz (W1.drew.setRow w.heap.size R2) B (.slice (some ⟨w.heap.size,0,none⟩) (L.length+1) G) (L.take i++f::L.drop i)/\w.grownBy (W1.drew.setRow w.heap.size R2) (some g)from
  ⟨BP.O _ eu.drew.row,fV ((below_drewN hl1 1).grown (fP _ _ _) (by have:=hl1.size;simp;omega) (fun j hj=>by cases hj;exact ahP _)) _⟩)
 have HW1:=zH Eu;have hGi:¬ (G=i):=by omega
 have asL:¬ (G=i+1):=by omega
 have hci:¬ (cap=i):=by omega
 have MR:IntKind.i64.wrap ((i:Int)+1)=(i:Int)+1:=by rw[aks];omega
 have vp:(0:Int)<=(i:Int)+1:=by omega
 have htn:((i:Int)+1).toNat=i+1:=by omega
 have NQ:i<=L.length:=by omega
 have hz3:(cap:Int)<(L.length:Int)+1:=by omega
 have mY:¬ ((i:Int)=(L.length:Int)):=by omega
 have mixed:prog.follows .mixedOrders=true:=kR;clear BP Eu eu As hl1 ah2 aie aif hv hb q0 q1 q2 q3 hR1 ah0 hR2 ah1 aji ajj aeg hG hold qD htl hkk V1 ht hd hlen
 go_in
 go_wp2_with
  (first
  |(at_builtin;refine Lib.wpList_append_run _ rfl _ _ _ _ rfl _ _ rfl rfl _ _ (hrz _) ?_)
  |(at_builtin;refine wpList_copy_runI _ rfl _ _ 105 105 rfl _ _ rfl rfl (hcA _ _) ?_))
 go_region_law_o (refine step_copy_runI rfl _ _ 105 105 rfl _ _ (by simp[agl,agu]) (by simp[agl,agu]) (hcB _) ?_)
 go_wp2
 go_ret;exact⟨_,rfl,JH.O.1,JH.O.2⟩
theorem ND(B vb k:Nat)(v:aai)(L:List az)(f:az)(w:aah)(h:bz w B v L)(hk:k<=L.length)(hL:L.length<=1000000)(hB:B<=w.heap.size)(hv:aC w vb 113 (au f))(eZ:v.ownBlock≠some vb):
  ach prog 94 #[v,.int .i64 k,.slice (some ⟨vb,0,none⟩) 1 1] w fun e w'=>∃v',e=.returned v'/\bz w' B v' (L.take k++f::L.drop k)/\w.grownBy w' v.ownBlock:=by
 by_cases he:k=L.length
 ·subst he
  rw[ajy,akq];exact Cy B vb v L f w h hL hB hv
 ·rcases h.block with⟨rfl,rfl⟩|⟨g,cap,cur,rfl,h1,h2,h3,h4,h5,h6⟩
  ·simp at hk he
   exact absurd hk he
  ·by_cases hc:L.length+1<=cap
   ·exact A5 B g cap vb k cur L f w oM h2 hc h4 h5 h6 h1 hL hv (by rintro rfl;exact eZ rfl)
   ·exact A2 B g cap vb k cur L f w oM h2 oM h3 h4 h6 hL hv hB
theorem yu{w:aah}{g:Nat}{cs:List aai}(hg:aC w g 113 cur)(ed:o+cs.length<=cur.size)(h1:∀v∈cs,v.oneCell'=true):
  w.setCells g o cs=w.setRow g (cur.toList.take o++cs++cur.toList.drop (o+cs.length)).toArray:=by
 have a:=ai7 prog g o _ cs 0 cur w hg (by simpa using ed) h1;have b:=run_storeCells_cells (P:=prog) g o cs 0 w (fun j hj=>by rw[hg.cell,aht oM];rfl) (fun j _=>hg.frozen _) h1;rw[a]at b;simp only[Result.ok.injEq,ake]at b;exact b.2.symm
theorem YO(w:aah):(zeroValue 113).run prog w=.ok (.agg (au az.zero)) w:=kR
theorem Pt:ahi (aiB (au az.zero)).cells 1=au az.zero:=by
 apply Array.ext
 ·simp[ahi,akp,au]
 ·intro i h1 h2
  have Um:i<9:=h2;simp only[ahi,akp,Array.getElem_map,Array.getElem_range];rw[show i % (au az.zero).size=i from ajD h2,getElem!_pos (au az.zero) i h2]
theorem Fe(W:aah)(ty:aat)(g o c:Nat)(cur:Array aai)(hg:aC W g 113 cur)(ed:o+9<=cur.size):
  (aj8 #[105] ty #[.slice (some ⟨g,o,none⟩) 1 c]).run prog W=.ok (.tuple #[]) (W.setRow g (cur.toList.take o++(au az.zero).toList++cur.toList.drop (o+9)).toArray):=by
 have gX:=ai7 prog g o _ (au az.zero).toList 0 cur W hg ed (fun v hv=>jk (L:=[az.zero]) (by simpa[flat]using hv));have hzc:ahi (aiB (au az.zero)).cells 1=au az.zero:=Pt;simp only[ake]at gX;have hz:=YO W;have hZ:(au az.zero).size=9:=rfl;generalize au az.zero=Z at gX hzc hz hZ ⊢;simp[aj8,run_underlying ahY,hz,hzc,gX,hZ]
theorem Rp{L:List az}{xs:List aai}(hx:xs.length=c*9)(ht:xs.take (L.length*9)=flat L)(hi:i<L.length)(hc:L.length<=c):
  let c1:=xs.take (i*9)++flat (L.drop (i+1))++xs.drop (i*9+(flat (L.drop (i+1))).length)
  let c2:=c1.take ((L.length - 1)*9)++(au az.zero).toList++c1.drop ((L.length - 1)*9+9)
  c1.length=c*9/\c2.length=c*9/\c2.take ((L.length - 1)*9)=flat (L.take i++L.drop (i+1)):=by
 intro c1 c2;have hd:(flat (L.drop (i+1))).length=(L.length - (i+1))*9:=by rw[dQ,ag_]
 have hf:(au az.zero).toList.length=9:=rfl;have htk:xs.take (i*9)=flat (L.take i):=by rw[vl,<-ht,aiK];congr 1;omega
 have hl:(flat (L.take i)).length=i*9:=by rw[dQ,ag'];congr 1;omega
 have h1:c1.length=c*9:=by
  show(xs.take (i*9)++flat (L.drop (i+1))++xs.drop (i*9+(flat (L.drop (i+1))).length)).length=_
  simp only[ag2,ag',ag_,hd,hx];omega
 have ht1:c1.take ((L.length - 1)*9)=flat (L.take i++L.drop (i+1)):=by
  show(xs.take (i*9)++flat (L.drop (i+1))++xs.drop (i*9+(flat (L.drop (i+1))).length)).take ((L.length - 1)*9)=_
  have MP:(flat (L.take i)++flat (L.drop (i+1))).length=(L.length - 1)*9:=by rw[ag2,hl,hd];omega
  rw[htk,tX,<-MP,aiu]
 refine⟨h1,?_,?_⟩
 ·show(c1.take ((L.length - 1)*9)++(au az.zero).toList++c1.drop ((L.length - 1)*9+9)).length=_
  simp only[ag2,ag',ag_,h1,hf];omega
 ·show(c1.take ((L.length - 1)*9)++(au az.zero).toList++c1.drop ((L.length - 1)*9+9)).take ((L.length - 1)*9)=_
  have MP:(c1.take ((L.length - 1)*9)).length=(L.length - 1)*9:=by rw[ag',h1];omega
  rw[aho,aia oM,aiK,Nat.min_self,ht1]
theorem NC(B i:Nat)(v:aai)(L:List az)(w:aah)(h:bz w B v L)(hi:i<L.length)(hL:L.length<=1000000):
  ach prog 95 #[v,.int .i64 i,.int .i64 ((i:Int)+1)] w fun e w'=>∃v',e=.returned v'/\bz w' B v' (L.take i++L.drop (i+1))/\w.grownBy w' v.ownBlock:=by
 rcases h.block with⟨rfl,rfl⟩|⟨g,cap,cur,rfl,Z2,hb,hlc,hm,hc,ht⟩
 ·simp at hi
 obtain⟨i0,hi0,sQ,hzs,hzb⟩:=aj' Bm;have Un:cur.toList.length=cap*9:=by rw[ahh];exact hc
 obtain⟨k1,k2,k3⟩:=Rp Un ht hi hlc;have hd:(flat (L.drop (i+1))).length=(L.length - (i+1))*9:=by rw[dQ,ag_]
 obtain⟨c1,Qf⟩:∃c1:Array aai,c1=(cur.toList.take (i*9)++flat (L.drop (i+1))++cur.toList.drop (i*9+(flat (L.drop (i+1))).length)).toArray:=⟨_,rfl⟩;have RQ:c1.toList=cur.toList.take (i*9)++flat (L.drop (i+1))++cur.toList.drop (i*9+(flat (L.drop (i+1))).length):=by rw[Qf]
 rw[<-RQ]at k1 k2 k3;obtain⟨W1,Eu⟩:∃W1,W1=w.drew.setCells g (0+i*9) (flat (L.drop (i+1))):=⟨_,rfl⟩
 have aeh:W1=w.drew.setRow g c1:=by
  rw[Eu,Qf,ahq];exact yu hb.drew (by rw[hd,hc];omega) (fun u hu=>jk hu)
 have eu:aC W1 g 113 c1:=by rw[aeh];exact hb.drew.row
 obtain⟨c2,NM⟩:∃c2:Array aai,c2=(c1.toList.take ((L.length - 1)*9)++(au az.zero).toList++c1.toList.drop ((L.length - 1)*9+9)).toArray:=⟨_,rfl⟩;have RR:c2.toList=c1.toList.take ((L.length - 1)*9)++(au az.zero).toList++c1.toList.drop ((L.length - 1)*9+9):=by rw[NM]
 have hcr:∀ty c,(aj8 #[105] ty #[.slice (some ⟨g,(L.length - 1)*9,none⟩) 1 c]).run prog W1=.ok (.tuple #[]) (W1.setRow g c2):=fun ty c=>by
  rw[NM];exact Fe W1 ty g _ c c1 eu (by rw[<-ahh,k1];omega)
 rw[<-RR]at k2 k3;have hlen:(L.take i++L.drop (i+1)).length=L.length - 1:=by simp;omega
 have BP:=zH (show bz (W1.setRow g c2) B (.slice (some ⟨g,0,none⟩) (L.take i++L.drop (i+1)).length cap) (L.take i++L.drop (i+1))/\w.grownBy (W1.setRow g c2) (some g)from by
  refine⟨bz.of_block Z2 eu.row oM hm (by rw[<-ahh];exact k2) (by rw[hlen];exact k3),?_⟩;rw[aeh];exact jD (jD (zI (dU w (some g))) (fP w.drew g c1)) (fP _ g c2))
 rw[hlen]at BP
 obtain⟨A,hA,ae3⟩:∃A:Addr,(if cap=i+1 then some (⟨g,0,none⟩:Addr)else some ⟨g,(i+1)*9,none⟩)=some A/\Hid (∀t u,(flat (L.drop (i+1)))[t]?=some u->w.drew.cell? (A.add t)=some u):=by
  by_cases hq:cap=i+1
  ·refine⟨⟨g,0,none⟩,by simp[hq],fun t u hu=>?_⟩
   have:=(ag6.1 hu).1;omega
  ·refine⟨⟨g,(i+1)*9,none⟩,by simp[hq],fun t u hu=>?_⟩
   (have hul:=(ag6.1 hu).1;rw[ah4]);(show w.cell? ⟨g,(i+1)*9+t,none⟩=some u);rw[hb.cell,<-hu,vk,ah_,<-ht,ahm,if_pos oM,ahb]
 have s1:Hid ((flat (L.drop (i+1))).length=(L.length - (i+1))*9):=hd;have s2:Hid (∀u∈flat (L.drop (i+1)),u.oneCell'=true):=fun u hu=>jk hu
 have s3:Hid (∀t,t<(flat (L.drop (i+1))).length->(w.drew.cell? ⟨g,0+i*9+t,none⟩).isSome=true/\w.drew.frozen? ⟨g,0+i*9+t,none⟩=false):=fun t htl=>by
  rw[hd]at htl;exact⟨by show(w.cell? _).isSome=true;rw[hb.cell,aht oM];rfl,hb.frozen _⟩
 have HW:=zH Eu;have mixed:prog.follows .mixedOrders=true:=kR;have hic:i<=cap:=by omega
 have hjc:i+1<=cap:=by omega
 have hjn:i+1<=L.length:=by omega
 have MR:((i:Int)+1).toNat=i+1:=by omega
 have vp:(0:Int)<=(i:Int)+1:=by omega
 have mY:(i:Int)<=(i:Int)+1:=by omega
 have hz3:¬ ((i:Int)=(i:Int)+1):=by omega
 have hz4:(i:Int)+1<=(L.length:Int):=by omega
 have an2:i+(L.length - (i+1))=L.length - 1:=by omega
 have V2:L.length - (L.length - 1)=1:=by omega
 have hz5:¬ (cap=L.length - 1):=by omega
 clear k1 k2 k3 hd Un ht Qf RQ NM RR eu Eu aeh hb hlen h
 go_in
 go_wp2_with fail
 go_region_law_o (refine step_append_room rfl (.tmp 22) (.tmp 25) 105 rfl 113 i0 9 ahY hi0 hzs g 0 i cap (by simp[agl,agu]) A (L.length - (i+1)) (cap - (i+1)) (flat (L.drop (i+1))) (by simp[agl,agu]) s1.O ae3.O s2.O oM s3.O ?_;rw[<-HW.O])
 go_wp2
 go_ret;exact⟨_,rfl,BP.O.1,BP.O.2⟩
theorem T4{d:BL}:fF (xp d)=d↔d≠ []:=by
 unfold xp
 by_cases h:d=[95]
 ·subst h;rw[if_pos rfl];simp[fF]
 ·rw[if_neg h]
  unfold fF
  by_cases h0:d=[]
  ·subst h0;simp
  ·rw[if_neg h0];simp[h0]
theorem Vg{i:BL}:vQ (decide (i=[49]))=i↔i=[48]\/i=[49]:=by
 unfold vQ
 by_cases h:i=[49]
 ·subst h;simp
 ·simp only[h,decide_false,akg,if_false,or_false]
  exact eq_comm
theorem YG(h:dM l=true):xp l=l:=by
 unfold xp;rw[if_neg];rintro rfl
 revert h
 decide
theorem Ir(a:Int)(b c d:ByteArray)(e f g:Int)(h:ByteArray)(i:Bool):pU ⟨a,b,c,d,e,f,g,h,i⟩=(bZ a&&bZ e&&bZ f&&bZ g&&dM b.data.toList&&dM c.data.toList&&Fc h.data.toList&&uI d.data.toList):=rfl
theorem Gd(a b c d e f g h i:BL)(r:List BL):NA (a::b::c::d::e::f::g::h::i::r,false)=⟨aa a,aq (xp b),aq (xp c),aq (xp d),aa e,aa f,aa g,aq (xp h),decide (i=[49])⟩:=rfl
theorem Gc(a b c d e f g h i:BL)(r:List BL):Km (a::b::c::d::e::f::g::h::i::r,false)=(r,((((((((false || !aZ a) || decide (b=[])) || decide (c=[])) || decide (d=[])) || !aZ e) || !aZ f) || !aZ g) || decide (h=[])) || (!decide (i=[48])&& !decide (i=[49]))):=rfl
theorem Vz(h:r.length<9):(Km (r,false)).2=true:=by
 have e0:aZ []=false:=by decide
 rcases r with _|⟨a,_|⟨b,_|⟨c,_|⟨d,_|⟨e,_|⟨f,_|⟨g,_|⟨h,_|⟨i,r⟩⟩⟩⟩⟩⟩⟩⟩⟩
 all_goals first|(simp[Km,bS,aW,dJ,bI,e0];done)|(simp at h;omega)
theorem nine(a b c d e f g h i:BL):
  (iK ([112]::[a,b,c,d,e,f,g,h,i],false)=(gG (mW ([112]::[a,b,c,d,e,f,g,h,i]))&&decide (Iq (mW ([112]::[a,b,c,d,e,f,g,h,i]))=[112]::[a,b,c,d,e,f,g,h,i])))/\
  (iK ([112]::[a,b,c,d,e,f,g,h,i],false)=true->(fE ([112]::[a,b,c,d,e,f,g,h,i],false)).1=mW ([112]::[a,b,c,d,e,f,g,h,i])):=by
 have e1:fE ([112]::[a,b,c,d,e,f,g,h,i],false)=(⟨1,NA ([a,b,c,d,e,f,g,h,i],false),0,0⟩,Km ([a,b,c,d,e,f,g,h,i],false)):=rfl;have e2:mW ([112]::[a,b,c,d,e,f,g,h,i])=⟨1,⟨aa a,aq b,aq c,aq (xp d),aa e,aa f,aa g,aq (xp h),decide (i=[49])⟩,0,0⟩:=rfl
 have e3:Iq ⟨1,⟨aa a,aq b,aq c,aq (xp d),aa e,aa f,aa g,aq (xp h),decide (i=[49])⟩,0,0⟩=[[112],aax (aa a),b,c,fF (xp d),aax (aa e),aax (aa f),aax (aa g),fF (xp h),vQ (decide (i=[49]))]:=by
  rw[Kj rfl];simp only[Ko,an]
 constructor
 ·unfold iK
  rw[e1,e2,e3,Gd,Gc];dsimp only;rw[Bl,Bl,Ir,Ir,an,an,an,an,an,an,C6,C6,ahp];simp only[aaB,Bool.not_eq_true',Bool.or_eq_false_iff,Bool.not_eq_false',decide_eq_true_eq,decide_eq_false_iff_not,aka,List.cons.injEq,true_and,and_true,T4,Vg,Bool.and_eq_false_iff];constructor
  ·rintro⟨⟨⟨⟨⟨⟨⟨⟨⟨ha,hb⟩,hc⟩,hd⟩,he⟩,hf⟩,hg⟩,hh⟩,hi⟩,hX⟩
   refine⟨hX,?_⟩;unfold aZ at ha he hf hg;simp only[aaB,decide_eq_true_eq]at ha he hf hg;refine⟨ha.2,hd,he.2,hf.2,hg.2,hh,?_⟩;exact hi
  ·rintro⟨hX,ha,hd,he,hf,hg,hh,hi⟩
   refine⟨⟨⟨⟨⟨⟨⟨⟨⟨?_,?_⟩,?_⟩,hd⟩,?_⟩,?_⟩,?_⟩,hh⟩,?_⟩,hX⟩;(·rw[yf hX.1.1.1.1.1.1.1];simpa using ha);(·exact Lf hX.1.1.1.2);(·exact Lf hX.1.1.2);(·rw[yf hX.1.1.1.1.1.1.2];simpa using he);(·rw[yf hX.1.1.1.1.1.2];simpa using hf);(·rw[yf hX.1.1.1.1.2];simpa using hg)
   ·rcases hi with hi|hi
    ·exact .inl (by simp[hi])
    ·exact .inr (by simp[hi])
 ·intro hp
  unfold iK at hp;rw[e1]at hp ⊢;rw[e2,Gd]at*;dsimp only at hp ⊢;rw[Bl,Ir]at hp;simp only[aaB,an,C6]at hp;rw[YG hp.2.1.1.1.2,YG hp.2.1.1.2]
theorem U'(h:ps.length=10):Iq (mW ps)=[112]::Ko (mW ps).bA:=by
 rcases ps with _|⟨x,_|⟨a,_|⟨b,_|⟨c,_|⟨d,_|⟨e,_|⟨f,_|⟨g,_|⟨h,_|⟨i,_|⟨j,r⟩⟩⟩⟩⟩⟩⟩⟩⟩⟩⟩
 all_goals first|(simp at h;done)|rfl
theorem U_(h1:ps.length≠10)(h2:ps.length≠2):mW ps=Ev.zero:=by
 rcases ps with _|⟨x,_|⟨a,_|⟨b,_|⟨c,_|⟨d,_|⟨e,_|⟨f,_|⟨g,_|⟨h,_|⟨i,_|⟨j,r⟩⟩⟩⟩⟩⟩⟩⟩⟩⟩⟩
 all_goals first|(simp at h1 h2;done)|rfl
theorem Bu{x:BL}(h10:x≠ [112]\/r.length≠9)(h2:(x≠ [100]/\x≠ [99])\/r.length≠1):(gG (mW (x::r))&&decide (Iq (mW (x::r))=x::r))=false:=by
 by_cases hl:r.length=9
 ·have hx:x≠ [112]:=h10.resolve_right fun h=>h hl
  rw[U' (by simp[hl])];simp[Ne.symm hx]
 ·by_cases hl1:r.length=1
  ·obtain⟨a,rfl⟩:=aiv.1 hl1
   obtain⟨R6,Wq⟩:=h2.resolve_right fun h=>h rfl
   have:mW [x,a]=⟨3,az.zero,0,aa a⟩:=by
    (show(if x=[100]then _ else _)=_);rw[if_neg R6]
   rw[this,Ga rfl];simp[Ne.symm Wq]
  ·rw[U_ sO sO,Vt]
   rfl
theorem SH(ps:List BL):iK (ps,false)=(gG (mW ps)&&decide (Iq (mW ps)=ps))/\(iK (ps,false)=true->(fE (ps,false)).1=mW ps):=by
 rcases ps with _|⟨x,r⟩
 ·exact⟨by decide,fun h=>absurd h dC⟩
 ·by_cases hp:x=[112]
  ·subst hp
   by_cases hl:r.length=9
   ·rcases r with _|⟨a,_|⟨b,_|⟨c,_|⟨d,_|⟨e,_|⟨f,_|⟨g,_|⟨h,_|⟨i,_|⟨j,r⟩⟩⟩⟩⟩⟩⟩⟩⟩⟩
    all_goals first|(simp at hl;done)|exact nine _ _ _ _ _ _ _ _ _
   ·have e0:iK ([112]::r,false)=false:=by
     (unfold iK;rw[show fE ([112]::r,false)=(⟨1,NA (r,false),0,0⟩,Km (r,false))from rfl]);by_cases h9:r.length<9;(·rw[Vz h9];rfl)
     ·rcases r with _|⟨a,_|⟨b,_|⟨c,_|⟨d,_|⟨e,_|⟨f,_|⟨g,_|⟨h,_|⟨i,_|⟨j,r⟩⟩⟩⟩⟩⟩⟩⟩⟩⟩
      all_goals first|(simp at hl h9;done)|(rw[Gc];simp)
    rw[e0,Bu (.inr hl) (.inl ⟨by decide,by decide⟩)];exact⟨rfl,fun h=>by cases h⟩
  ·by_cases hd:x=[100]
   ·subst hd
    (have e1:fE ([100]::r,false)=(⟨2,az.zero,oW (r,false),0⟩,bS (r,false)):=rfl);by_cases hl:r.length=1
    ·obtain⟨a,rfl⟩:=aiv.1 hl
     have e2:mW [[100],a]=⟨2,az.zero,aa a,0⟩:=rfl;constructor
     ·unfold iK
      rw[e1,e2,P7,Kk rfl];(show(!(false || !aZ a)&&decide (([]:List BL)=[])&&gG ⟨2,az.zero,aa a,0⟩)=_);rw[P7];have:=Lm (l:=a);simp only[aka,akf,decide_true,akb,List.cons.injEq,true_and,and_true];rw[Bool.and_comm];exact this
     ·intro _
      rw[e1,e2];rfl
    ·have e0:iK ([100]::r,false)=false:=by
      unfold iK;rw[e1];rcases r with _|⟨a,_|⟨b,r⟩⟩
      ·rfl
      (·simp at hl);(·simp[bS,dJ])
     rw[e0,Bu (.inl dC) (.inr hl)];exact⟨rfl,fun h=>by cases h⟩
   ·by_cases hc:x=[99]
    ·subst hc
     (have e1:fE ([99]::r,false)=(⟨3,az.zero,0,oW (r,false)⟩,bS (r,false)):=rfl);by_cases hl:r.length=1
     ·obtain⟨a,rfl⟩:=aiv.1 hl
      have e2:mW [[99],a]=⟨3,az.zero,0,aa a⟩:=rfl;constructor
      ·unfold iK
       rw[e1,e2,F9,Ga rfl];(show(!(false || !aZ a)&&decide (([]:List BL)=[])&&gG ⟨3,az.zero,0,aa a⟩)=_);rw[F9];have:=Lm (l:=a);simp only[aka,akf,decide_true,akb,List.cons.injEq,true_and,and_true];rw[Bool.and_comm];exact this
      ·intro _
       rw[e1,e2];rfl
     ·have e0:iK ([99]::r,false)=false:=by
       unfold iK;rw[e1];rcases r with _|⟨a,_|⟨b,r⟩⟩
       ·rfl
       (·simp at hl);(·simp[bS,dJ])
      rw[e0,Bu (.inl dC) (.inr hl)];exact⟨rfl,fun h=>by cases h⟩
    ·have e0:iK (x::r,false)=false:=by
      unfold iK fE;(show(!(if x=[112]then _ else if x=[100]then _ else if x=[99]then _ else _:Ev×Rd).2.2&&_&&_)=false);rw[if_neg hp,if_neg hd,if_neg hc];rfl
     rw[e0,Bu (.inl hp) (.inl ⟨hd,hc⟩)];exact⟨rfl,fun h=>by cases h⟩
theorem SI(l:BL):iK (parts 32 l,false)=kK l/\(kK l=true->(fE (parts 32 l,false)).1=jM l):=by
 obtain⟨h1,h2⟩:=SH (parts 32 l);refine⟨h1,fun h=>?_⟩;rw[h2 (by rw[h1];exact h)];unfold jM;rw[if_pos h]
def jZ(w:aah)(rb:Nat)(v:aai)(ws:List BL):Prop:=
 ∃g o cap,v=.slice (some ⟨g,o,none⟩) ws.length cap/\ws.length<=cap/\cap<=9223372036854775807/\g<rb/\∀j,j<ws.length->w.cell? ⟨g,o+j,none⟩=some (.string (aq (ws.getD j [])))
theorem jZ.below{w w':aah}{rb:Nat}{v:aai}(h:jZ w rb v ws)(hb:Below w.heap.size w w'):jZ w' rb v ws:=by
 obtain⟨g,o,cap,rfl,h1,h2,h3,h4⟩:=h;refine⟨g,o,cap,rfl,h1,h2,h3,fun j hj=>?_⟩;have hc:=h4 j hj;rw[hb.cell (p:=⟨g,o+j,none⟩) (acC w _ hc)];exact hc
theorem jZ.set{w:aah}{rb i:Nat}{v u:aai}{ws:List BL}(h:jZ w rb v ws):jZ (w.setCell ⟨rb,i,none⟩ u) rb v ws:=by
 obtain⟨g,o,cap,rfl,h1,h2,h3,h4⟩:=h;refine⟨g,o,cap,rfl,h1,h2,h3,fun j hj=>?_⟩;rw[World.cell?_setCell_other _ _ _ _ (by simp<;>omega)];exact h4 j hj
theorem jZ.other{w w':aah}{rb eb:Nat}{v:aai}(h:jZ w rb v ws)(hg:w.grownBy w' (some eb))(he:rb<=eb):jZ w' rb v ws:=by
 obtain⟨g,o,cap,rfl,h1,h2,h3,h4⟩:=h;refine⟨g,o,cap,rfl,h1,h2,h3,fun j hj=>?_⟩;have hc:=h4 j hj;have hb:=hg.block g (acC w _ hc) sO;rw[<-hc];simp only[World.cell?,hb]
structure tK(w:aah)(rb:Nat)(st:Rd):Prop where
 ex:∃v,aC w rb 181 #[v,.bool st.2]/\jZ w rb v st.1
 small:∀x∈st.1,x.length<=5000
theorem tK.below{w w':aah}{rb:Nat}{st:Rd}(h:tK w rb st)(hb:Below w.heap.size w w'):tK w' rb st:=by
 obtain⟨⟨v,h1,h2⟩,h3⟩:=h;exact⟨⟨v,h1.aj hb,h2.below hb⟩,h3⟩
theorem tK.other{w w':aah}{rb eb:Nat}{st:Rd}(h:tK w rb st)(hg:w.grownBy w' (some eb))(he:rb<eb):tK w' rb st:=by
 obtain⟨⟨v,h1,h2⟩,h3⟩:=h;exact⟨⟨v,h1.grown hg sO,h2.other hg oM⟩,h3⟩
theorem tK.bad{w:aah}{rb:Nat}{st:Rd}(h:tK w rb st)(b:Bool):tK (w.setCell ⟨rb,1,none⟩ (.bool b)) rb (st.1,b):=by
 obtain⟨⟨v,h1,h2⟩,h3⟩:=h;exact⟨⟨v,h1.kX 1 (.bool b),h2.set⟩,h3⟩
theorem tK.cut{W:aah}{rb g o' wF:Nat}{v:aai}{x:BL}{b:Bool}(hB:aC W rb 181 #[v,.bool b])(h3:g<rb)(h4:∀j,j<(x::r).length->W.cell? ⟨g,o+j,none⟩=some (.string (aq ((x::r).getD j []))))(hs:∀y∈x::r,y.length<=5000)(hc:r.length<=wF)(hm:wF<=9223372036854775807)(ho:r.length=0\/o'=o+1):
  tK (W.setCell ⟨rb,0,none⟩ (.slice (some ⟨g,o',none⟩) r.length wF)) rb (r,b):=by
 refine⟨⟨_,hB.kX 0 _,g,o',wF,rfl,hc,hm,h3,fun j hj=>?_⟩,fun y hy=>hs y (acU _ hy)⟩;rw[World.cell?_setCell_other _ _ _ _ (by simp<;>omega)];have e:o'=o+1:=ho.resolve_left (by have:j<r.length:=hj;omega);have:=h4 (j+1) (by simpa using hj);rw[e,show o+1+j=o+(j+1) by omega,this];rfl
theorem Gy{st:Rd}(h:∀x∈st.1,x.length<=5000):(bI st).length<=5000:=by
 obtain⟨ws,b⟩:=st;cases ws with
 |nil=>simp[bI]
 |cons x r=>exact h x sP
theorem abn(rb:Nat)(st:Rd)(W:aah)(h:tK W rb st):
  ach prog 128 #[.pointer (some ⟨rb,0,none⟩)] W fun e w'=>e=.returned (.string (aq (bI st)))/\tK w' rb (dJ st)/\W.grownBy w' (some rb):=by
 obtain⟨ws,b⟩:=st;have HH:=zH h;obtain⟨⟨v,hB,hW⟩,hs⟩:=h;dsimp only at hB hW hs;have c0:=hB.cell 0;have c1:=hB.cell 1;have f0:=hB.frozen 0;have f1:=hB.frozen 1;have aE:=hB.lt;have HB:=zH hB;clear hB;cases ws with
 |nil=>
  obtain⟨g,o,cap,rfl,h1,h2,h3,h4⟩:=hW;have HG:=zH (ak (dU W (some rb)) (p:=⟨rb,1,none⟩) (.inl rfl) (.bool true));have HR:=zH (HH.O.bad true);clear h4
  go_in
  go_wp2_with fail;go_ret;exact⟨rfl,HR.O,HG.O⟩
 |cons x r=>
  obtain⟨g,o,cap,rfl,h1,h2,h3,h4⟩:=hW;have hc:W.cell? ⟨g,o,none⟩=some (.string (aq x)):=by simpa using h4 0 sP
  have HC:=zH h4;have hl:r.length+1<=cap:=h1;clear h4 h1
  go_in
  go_wp2_with fail
  ·go_ret
   exact⟨rfl,tK.cut HB.O h3 HC.O hs oM oM (.inl oM),ak (dU W (some rb)) (.inl rfl) _⟩
  ·go_ret
   exact⟨rfl,tK.cut HB.O h3 HC.O hs oM oM (.inr rfl),ak (dU W (some rb)) (.inl rfl) _⟩
structure RS(W:aah)(rb:Nat)(st:Rd)(w:aah):Prop where
 base:WB W W
 P5:bX W
 below:Below W.heap.size W w
 le:W.heap.size<=rb
 rd:tK w rb st
section
variable{W w w':aah}{rb:Nat}{st st':Rd}
theorem RS.wb(h:RS W rb st w):WB W w:=h.base.keep h.below
theorem RS.iE(h:RS W rb st w):bX w:=h.P5.aj h.below
theorem RS.keep(h:RS W rb st w)(hb:Below w.heap.size w w'):RS W rb st w':=⟨h.base,h.P5,below_2 h.below hb,h.le,h.rd.below hb⟩
theorem RS.qp(h:RS W rb st w)(hr:tK w' rb st')(hg:w.grownBy w' (some rb)):RS W rb st' w':=⟨h.base,h.P5,fT h.below hg h.le h.below.size,h.le,hr⟩
theorem RS.lQ(h:RS W rb st w)(b:Bool):RS W rb (st.1,b) (w.setCell ⟨rb,1,none⟩ (.bool b)):=h.qp (h.rd.bad b) (ak (dU w (some rb)) (.inl rfl) _)
theorem RS.cells(h:RS W rb st w):w.cell? ⟨rb,1,none⟩=some (.bool st.2)/\w.frozen? ⟨rb,1,none⟩=false/\rb<w.heap.size:=by
 obtain⟨⟨v,h1,_⟩,_⟩:=h.rd;exact⟨h1.cell 1,h1.frozen 1,h1.lt⟩
end
theorem rZ{W w:aah}{rb:Nat}{st:Rd}(h:RS W rb st w):
  ach prog 128 #[.pointer (some ⟨rb,0,none⟩)] w fun e w'=>e=.returned (.string (aq (bI st)))/\RS W rb (dJ st) w'/\w.grownBy w' (some rb):=
 (abn rb st w h.rd).mono fun _ _ ⟨h1,h2,h3⟩=>⟨h1,h.qp h2 h3,h3⟩
theorem Sc(n:Int)(x:BL):((bM n).toList == (aq x).toList)=decide (aax n=x):=by
 rw[zx,toList_txt,ahp];simp
theorem QL(st:Rd):(st.1,st.2 || false)=st:=by
 obtain⟨a,b⟩:=st;simp
theorem rd_true(st:Rd):(st.1,st.2 || true)=(st.1,true):=by simp
theorem zL{W w:aah}{rb:Nat}{st:Rd}(h:RS W rb st w):
  ach prog 129 #[.pointer (some ⟨rb,0,none⟩)] w fun e w'=>e=.returned (.int .i64 (oW st))/\RS W rb (bS st) w'/\w.grownBy w' (some rb):=by
 have hz:(aq (bI st)).size<=1000000:=by rw[aK];have:=Gy h.rd.small;omega
 have HN:=zH (rZ h);have hS:bS st=((dJ st).1,(dJ st).2 || !aZ (bI st)):=rfl;have hV:oW st=aa (bI st):=rfl;have hE':aZ (bI st)=(jc (bI st)&&decide (aax (aa (bI st))=bI st)):=rfl;rw[hE']at hS;rw[hV];have yS:=nG (bI st);have hl:=Sc (aa (bI st)) (bI st);have aaj:(aq (bI st)).data.toList=bI st:=an _;have HAY:=fun w (h:jc (bI st)=true)=>tP (aq (bI st)) w hz (by rw[aaj];exact h)
 have HAN:=fun w hv (h:jc (bI st)=false)=>Bj (aq (bI st)) w hz hv (by rw[aaj];exact h)
 have Ep:=zH (fun w hT=>ow (aa (bI st)) yS.1 yS.2 w hT);rw[aaj]at HAY HAN;clear hE' hV aaj h yS;generalize bS st=st2 at*;generalize hx:bI st=x at*;generalize hy:aq x=y at*;generalize hn:aa x=n at*;generalize dJ st=st1 at*;generalize bM n=z at*;cases hE:jc x
 ·have HA:=zH (fun w hv=>HAN w hv hE)
  rw[hE,Bool.false_and,akv,rd_true]at hS;clear HAY HAN hl hE hx hy hn;have gJ:=zH hS;clear hS
  go_in
  go_wp2_with fail;refine HN.O.mono ?_;rintro e w1 ⟨rfl,h1,hg⟩;have H1:=zH h1;have HG:=zH hg;clear h1 hg;go_wp2_with fail;refine(HA.O _ H1.O.iE).mono ?_;rintro e w2 ⟨⟨te,pe,rfl⟩,hb⟩;have H2:=zH (H1.O.keep hb);have HG2:=zH (oC HG.O hb);clear hb;obtain⟨k1,k2,k3⟩:=H2.O.cells;go_wp2_with fail;go_ret;refine⟨rfl,?_,ak HG2.O (.inl rfl) _⟩;rw[gJ.O];exact H2.O.lQ true
 ·have HA:=zH (fun w=>HAY w hE)
  rw[hE,aky]at hS;clear HAY HAN hE hx hy hn;cases hq:decide (aax n=x)
  ·rw[hq,akv,rd_true]at hS
   (rw[hq]at hl;have gJ:=zH hS;clear hS hq);go_in;go_wp2_with fail;refine HN.O.mono ?_;rintro e w1 ⟨rfl,h1,hg⟩;have H1:=zH h1;have HG:=zH hg;clear h1 hg;go_wp2_with fail;refine(HA.O _).mono ?_;rintro e w2 ⟨rfl,hb⟩;have H2:=zH (H1.O.keep hb);have HG2:=zH (oC HG.O hb);clear hb;go_wp2_with fail;refine(Ep.O _ H2.O.wb.cq).mono ?_;rintro e w3 ⟨rfl,hb⟩;have H3:=zH (H2.O.keep hb);have EI:=zH (oC HG2.O hb);clear hb;obtain⟨k1,k2,k3⟩:=H3.O.cells;go_wp2_with fail;go_ret;refine⟨rfl,?_,ak EI.O (.inl rfl) _⟩;rw[gJ.O];exact H3.O.lQ true
  ·rw[hq,Bool.not_true,QL]at hS
   (rw[hq]at hl;have gJ:=zH hS;clear hS hq);go_in;go_wp2_with fail;refine HN.O.mono ?_;rintro e w1 ⟨rfl,h1,hg⟩;have H1:=zH h1;have HG:=zH hg;clear h1 hg;go_wp2_with fail;refine(HA.O _).mono ?_;rintro e w2 ⟨rfl,hb⟩;have H2:=zH (H1.O.keep hb);have HG2:=zH (oC HG.O hb);clear hb;go_wp2_with fail;refine(Ep.O _ H2.O.wb.cq).mono ?_;rintro e w3 ⟨rfl,hb⟩;have H3:=zH (H2.O.keep hb);have EI:=zH (oC HG2.O hb);clear hb;go_wp2_with fail;go_ret;refine⟨rfl,?_,EI.O⟩;rw[gJ.O];exact H3.O
theorem Pj(x:BL):((aq x).toList == [95])=decide (x=[95]):=by
 rw[toList_txt,ahp];simp
theorem Sy(x:BL):(aq x).toList.isEmpty=decide (x=[]):=by
 rw[toList_txt];cases x<;>simp
theorem Bz{W w:aah}{rb:Nat}{st:Rd}(h:RS W rb st w):
  ach prog 130 #[.pointer (some ⟨rb,0,none⟩)] w fun e w'=>e=.returned (.string (aq (nC st)))/\RS W rb (aW st) w'/\w.grownBy w' (some rb):=by
 have HN:=zH (rZ h);have hS:aW st=((dJ st).1,(dJ st).2 || decide (bI st=[])):=rfl;have hV:nC st=xp (bI st):=rfl;have e1:=Pj (bI st);have e2:=Sy (bI st);rw[hV];clear hV h;generalize aW st=st2 at*;generalize hx:bI st=x at*;generalize ai0:dJ st=st1 at*
 by_cases h95:x=[95]
 ·have hu:aq (xp x)=⟨#[]⟩:=by unfold xp;rw[if_pos h95];rfl
  have h0:decide (x=[])=false:=by rw[h95];rfl
  rw[h0,QL]at hS;rw[show decide (x=[95])=true by simpa using h95]at e1;have HU:=zH hu;have gJ:=zH hS;clear hu hS h0 hx ai0 h95 e2;generalize aq x=y at*
  go_in
  go_wp2_with fail;refine HN.O.mono ?_;rintro e w1 ⟨rfl,h1,hg⟩;have H1:=zH h1;have HG:=zH hg;clear h1 hg;go_wp2_with fail;go_ret;refine⟨by rw[HU.O];rfl,?_,HG.O⟩;rw[gJ.O];exact H1.O
 ·have hu:aq (xp x)=aq x:=by unfold xp;rw[if_neg h95]
  rw[show decide (x=[95])=false by simpa using h95]at e1;generalize decide (x=[])=b0 at*;have HU:=zH hu;have gJ:=zH hS;clear hu hS hx ai0 h95;generalize aq (xp x)=u at*;generalize aq x=y at*;obtain⟨ws,b1⟩:=st1;cases b1
  all_goals
   go_in;go_wp2_with fail;refine HN.O.mono ?_;rintro e w1 ⟨rfl,h1,hg⟩;have H1:=zH h1;have HG:=zH hg;clear h1 hg;obtain⟨k1,k2,k3⟩:=H1.O.cells;dsimp only at k1;go_wp2_with fail;go_ret
  ·refine⟨by rw[HU.O];rfl,?_,ak HG.O (.inl rfl) _⟩
   rw[gJ.O];exact H1.O.lQ _
  ·refine⟨by rw[HU.O];rfl,?_,ak HG.O (.inl rfl) _⟩
   rw[gJ.O];exact H1.O.lQ _
theorem jw{P:ag0}{fn:Func}{p u:Tmp}{ty:aat}(h:fn.results=#[.cell p ty,.tmp u])(tmps:Array aai)(w:aah)(g:Nat)(t:aat)(cs:Array aai)(d:TypeDesc)(x:aai)(hp:tmps.getD p undef=.pointer (some ⟨g,0,none⟩))(hx:tmps.getD u undef=x)(hg:aC w g t cs)(hu:P.underlying ty=some d)(hd:(match d with| .struct _| .array _ _=>true|_=>false)=true)(hi:(P.info? ty).map (·.size)=some cs.size):
  (results fn tmps).run P w=.ok (.tuple #[.agg cs,x]) w:=by
 rw[results_cell_tmp h,hp,hx];simp only[asAddr,Sem.run_pure,Result.andThen];rw[run_loadVar_row w g t ty cs (0,0) d hg hu hd hi]
structure RE(W:aah)(rb eb:Nat)(st:Rd)(e:Ev)(w:aah):Prop where
 rs:RS W rb st w
 fH:aC w W.heap.size 115 (aN Ev.zero)
 ev:aC w eb 115 (aN e)
 n1:W.heap.size<rb
 n2:rb<eb
section
variable{W w w':aah}{rb eb:Nat}{st st':Rd}{e e':Ev}
theorem RE.keep(h:RE W rb eb st e w)(hb:Below w.heap.size w w'):RE W rb eb st e w':=⟨h.rs.keep hb,h.fH.aj hb,h.ev.aj hb,h.n1,h.n2⟩
theorem RE.qp(h:RE W rb eb st e w)(hr:RS W rb st' w')(hg:w.grownBy w' (some rb)):RE W rb eb st' e w':=
 ⟨hr,h.fH.grown hg (by have:=h.n1;simp;omega),h.ev.grown hg (by have:=h.n2;simp;omega),h.n1,h.n2⟩
theorem RE.lQ(h:RE W rb eb st e w)(b:Bool):RE W rb eb (st.1,b) e (w.setCell ⟨rb,1,none⟩ (.bool b)):=h.qp (h.rs.lQ b) (ak (dU w (some rb)) (.inl rfl) _)
theorem RE.put(h:RE W rb eb st e w)(hb:aC w' eb 115 (aN e'))(hg:w.grownBy w' (some eb)):RE W rb eb st e' w':=
 ⟨⟨h.rs.base,h.rs.P5,fT h.rs.below hg (by have:=h.n1;have:=h.n2;omega) h.rs.below.size,h.rs.le,h.rs.rd.other hg h.n2⟩,h.fH.grown hg (by have:=h.n1;have:=h.n2;simp;omega),hb,h.n1,h.n2⟩
theorem RE.set(h:RE W rb eb st e w)(i:Nat)(u:aai)(he:(aN e).setIfInBounds i u=aN e'):RE W rb eb st e' (w.setCell ⟨eb,i,none⟩ u):=
 h.put (by have:=h.ev.kX i u;rwa[he]at this) (ak (dU w (some eb)) (.inl rfl) _)
theorem RE.bA{k:Int}{f0:az}(h:RE W rb eb st ⟨k,f0,id,ti⟩ w)(f:az):RE W rb eb st ⟨k,f,id,ti⟩
  (((((((((w.setCell ⟨eb,1,none⟩ (.int .i64 f.id)).setCell ⟨eb,2,none⟩ (.string f.aL)).setCell ⟨eb,3,none⟩ (.string f.aF)).setCell ⟨eb,4,none⟩ (.string f.scope)).setCell ⟨eb,5,none⟩ (.int .i64 f.gen)).setCell ⟨eb,6,none⟩ (.int .i64 f.made)).setCell ⟨eb,7,none⟩ (.int .i64 f.used)).setCell ⟨eb,8,none⟩ (.string f.request)).setCell ⟨eb,9,none⟩ (.bool f.dead)):=by
 have h1:=h.set 1 (.int .i64 f.id) (e':=⟨k,⟨f.id,f0.aL,f0.aF,f0.scope,f0.gen,f0.made,f0.used,f0.request,f0.dead⟩,id,ti⟩) rfl;have h2:=h1.set 2 (.string f.aL) (e':=⟨k,⟨f.id,f.aL,f0.aF,f0.scope,f0.gen,f0.made,f0.used,f0.request,f0.dead⟩,id,ti⟩) rfl;have h3:=h2.set 3 (.string f.aF) (e':=⟨k,⟨f.id,f.aL,f.aF,f0.scope,f0.gen,f0.made,f0.used,f0.request,f0.dead⟩,id,ti⟩) rfl;have h4:=h3.set 4 (.string f.scope) (e':=⟨k,⟨f.id,f.aL,f.aF,f.scope,f0.gen,f0.made,f0.used,f0.request,f0.dead⟩,id,ti⟩) rfl;have h5:=h4.set 5 (.int .i64 f.gen) (e':=⟨k,⟨f.id,f.aL,f.aF,f.scope,f.gen,f0.made,f0.used,f0.request,f0.dead⟩,id,ti⟩) rfl;have h6:=h5.set 6 (.int .i64 f.made) (e':=⟨k,⟨f.id,f.aL,f.aF,f.scope,f.gen,f.made,f0.used,f0.request,f0.dead⟩,id,ti⟩) rfl;have h7:=h6.set 7 (.int .i64 f.used) (e':=⟨k,⟨f.id,f.aL,f.aF,f.scope,f.gen,f.made,f.used,f0.request,f0.dead⟩,id,ti⟩) rfl;have h8:=h7.set 8 (.string f.request) (e':=⟨k,⟨f.id,f.aL,f.aF,f.scope,f.gen,f.made,f.used,f.request,f0.dead⟩,id,ti⟩) rfl;exact h8.set 9 (.bool f.dead) (e':=⟨k,f,id,ti⟩) rfl
theorem RE.facts(h:RE W rb eb st e w):(∀i,w.cell? ⟨eb,i,none⟩=(aN e)[i]?)/\(∀i,w.frozen? ⟨eb,i,none⟩=false)/\(∀i,w.cell? ⟨W.heap.size,i,none⟩=(aN Ev.zero)[i]?)/\(∀i,w.frozen? ⟨W.heap.size,i,none⟩=false):=
 ⟨h.ev.cell,h.ev.frozen,h.fH.cell,h.fH.frozen⟩
theorem RE.words(h:RE W rb eb st e w):∃A cap,w.cell? ⟨rb,0,none⟩=some (.slice A st.1.length cap)/\w.cell? ⟨rb,1,none⟩=some (.bool st.2)/\w.frozen? ⟨rb,1,none⟩=false:=by
 obtain⟨⟨v,h1,g,o,cap,rfl,_⟩,_⟩:=h.rs.rd;exact⟨_,_,h1.cell 0,h1.cell 1,h1.frozen 1⟩
end
theorem RE.start{W:aah}{v:aai}{L:List BL}(h0:WB W W)(he:bX W)(hs:∀x∈L,x.length<=5000)(hr:Row w1 (W.heap.size+1) v L)(hb:Below (W.heap.size+1) (W.alloc (.cells (aN Ev.zero) 115)) w1):
  RE W w1.heap.size (w1.heap.size+1) (L,false) Ev.zero ((w1.alloc (.cells #[v,.bool false] 181)).alloc (.cells (aN Ev.zero) 115)):=by
 have hz:(W.alloc (.cells (aN Ev.zero) 115)).heap.size=W.heap.size+1:=by simp
 have b0:Below W.heap.size W (W.alloc (.cells (aN Ev.zero) 115)):=bR.alloc nR _;have b1:Below W.heap.size W w1:=b0.T (hb.mono oM);have aE:W.heap.size<w1.heap.size:=by have:=hb.size;rw[hz]at this;omega
 have b2:Below w1.heap.size w1 ((w1.alloc (.cells #[v,.bool false] 181)).alloc (.cells (aN Ev.zero) 115)):=gK _ _ _;obtain⟨g,cap,rfl,h1,h2,h3,h4,_⟩:=hr.parts;have hw:jZ w1 w1.heap.size (.slice (some ⟨g,0,none⟩) L.length cap) L:=⟨g,0,cap,rfl,h3,h4,h2,fun j hj=>by rw[ahq];exact hr.cell j hj⟩;refine⟨⟨h0,he,b1.T (b2.mono b1.size),aki aE,⟨⟨_,(aC.new w1 _ _).alloc _,hw.below b2⟩,hs⟩⟩,?_,?_,aE,Nat.lt_succ_self _⟩
 ·have h5:=(aC.new W 115 (aN Ev.zero)).below hb oM
  exact h5.aj b2
 ·have h6:=aC.new (w1.alloc (.cells #[.slice (some ⟨g,0,none⟩) L.length cap,.bool false] 181)) 115 (aN Ev.zero)
  simpa using h6
theorem vG{st:Rd}(h:∀x∈st.1,x.length<=5000):(aq (nC st)).size<=5000:=by
 rw[aK];unfold nC xp;split
 ·simp
 ·exact Gy h
theorem gI{st:Rd}(h:∀x∈st.1,x.length<=5000):∀x∈(dJ st).1,x.length<=5000:=by
 obtain⟨ws,b⟩:=st;cases ws with
 |nil=>exact h
 |cons y r=>exact fun x hx=>h x (acU _ hx)
theorem NB{st:Rd}(h:∀x∈st.1,x.length<=5000):(NA st).short 5000:=by
 have a1:=gI h;have a2:=gI (st:=bS st) a1;have a3:=gI (st:=aW (bS st)) a2;have a4:=gI (st:=aW (aW (bS st))) a3;have a5:=gI (st:=aW (aW (aW (bS st)))) a4;have a6:=gI (st:=bS (aW (aW (aW (bS st))))) a5;have a7:=gI (st:=bS (bS (aW (aW (aW (bS st)))))) a6;exact⟨vG (st:=bS st) a1,vG (st:=aW (bS st)) a2,vG (st:=aW (aW (bS st))) a3,vG (st:=bS (bS (bS (aW (aW (aW (bS st))))))) a7⟩
theorem xo:az.zero.short 5000:=by unfold az.zero;exact⟨by decide,by decide,by decide,by decide⟩
theorem pH{st:Rd}(h:∀x∈st.1,x.length<=5000):(fE st).1.bA.short 5000:=by
 unfold fE;split
 ·exact NB (gI h)
 ·split
  ·exact xo
  ·split
   ·exact xo
   ·exact xo
def kI(st:Rd):Ev:=if iK st then(fE st).1 else Ev.zero
def kJ(st:Rd):Int:=if iK st then 0 else 3
theorem yh{st:Rd}(h1:(fE st).2.2=false)(h2:(fE st).2.1.length=0)(h3:gG (fE st).1=true):kI st=(fE st).1/\kJ st=0:=by
 have:iK st=true:=by
  unfold iK;rw[h1,h3,acL h2];rfl
 unfold kI kJ;rw[if_pos this,if_pos this];exact⟨rfl,rfl⟩
theorem By{st:Rd}(h:(fE st).2.2=true\/(fE st).2.1.length≠0\/gG (fE st).1=false):kI st=Ev.zero/\kJ st=3:=by
 have:¬ iK st=true:=by
  unfold iK;rcases h with h|h|h
  ·rw[h];simp
  ·have:¬ (fE st).2.1=[]:=fun e=>h (by rw[e];rfl)
   simp[this]
  ·rw[h];simp
 unfold kI kJ;rw[if_neg this,if_neg this];exact⟨rfl,rfl⟩
def o4(W:aah)(e:Ev)(n:Int)(x:Ending)(w':aah):Prop:=x=.returned (.tuple #[bH e,cJ n])/\Below W.heap.size W w'
theorem ek{W w:aah}{A:Act}{e:Ev}{n:Int}(hb:Below W.heap.size W w)(hr:aC w W.heap.size 115 (aN e))(hp:A.tmps.getD 2 undef=.pointer (some ⟨W.heap.size,0,none⟩))(hx:A.tmps.getD 3 undef=cJ n)(hd:A.defers=[]):
  bodyPost prog f87 (o4 W e n) Exit.ret A w:=
 bodyPost_ret (jw rfl A.tmps w _ _ _ _ _ hp hx hr underlying115 rfl kR) hd ⟨rfl,hb⟩
theorem aC.at_{w:aah}{g:Nat}{T:aat}{cs':Array aai}(h:aC w g T cs)(i:Nat)(u:aai)(he:cs.setIfInBounds i u=cs'):aC (w.setCell ⟨g,i,none⟩ u) g T cs':=by
 have:=h.kX i u
 rwa[he]at this
theorem dy{w:aah}{g:Nat}{T:aat}{e e':Ev}(h:aC w g T (aN e)):aC (((((((((((((w.setCell ⟨g,0,none⟩ (.int .i64 e'.kind)).setCell ⟨g,1,none⟩ (.int .i64 e'.bA.id)).setCell ⟨g,2,none⟩ (.string e'.bA.aL)).setCell ⟨g,3,none⟩ (.string e'.bA.aF)).setCell ⟨g,4,none⟩ (.string e'.bA.scope)).setCell ⟨g,5,none⟩ (.int .i64 e'.bA.gen)).setCell ⟨g,6,none⟩ (.int .i64 e'.bA.made)).setCell ⟨g,7,none⟩ (.int .i64 e'.bA.used)).setCell ⟨g,8,none⟩ (.string e'.bA.request)).setCell ⟨g,9,none⟩ (.bool e'.bA.dead)).setCell ⟨g,10,none⟩ (.int .i64 e'.id)).setCell ⟨g,11,none⟩ (.int .i64 e'.time))) g T (aN e'):=by
 have h1:=h.at_ 0 (.int .i64 e'.kind) (cs':=aN ⟨e'.kind,⟨e.bA.id,e.bA.aL,e.bA.aF,e.bA.scope,e.bA.gen,e.bA.made,e.bA.used,e.bA.request,e.bA.dead⟩,e.id,e.time⟩) rfl;have h2:=h1.at_ 1 (.int .i64 e'.bA.id) (cs':=aN ⟨e'.kind,⟨e'.bA.id,e.bA.aL,e.bA.aF,e.bA.scope,e.bA.gen,e.bA.made,e.bA.used,e.bA.request,e.bA.dead⟩,e.id,e.time⟩) rfl;have h3:=h2.at_ 2 (.string e'.bA.aL) (cs':=aN ⟨e'.kind,⟨e'.bA.id,e'.bA.aL,e.bA.aF,e.bA.scope,e.bA.gen,e.bA.made,e.bA.used,e.bA.request,e.bA.dead⟩,e.id,e.time⟩) rfl;have h4:=h3.at_ 3 (.string e'.bA.aF) (cs':=aN ⟨e'.kind,⟨e'.bA.id,e'.bA.aL,e'.bA.aF,e.bA.scope,e.bA.gen,e.bA.made,e.bA.used,e.bA.request,e.bA.dead⟩,e.id,e.time⟩) rfl;have h5:=h4.at_ 4 (.string e'.bA.scope) (cs':=aN ⟨e'.kind,⟨e'.bA.id,e'.bA.aL,e'.bA.aF,e'.bA.scope,e.bA.gen,e.bA.made,e.bA.used,e.bA.request,e.bA.dead⟩,e.id,e.time⟩) rfl;have h6:=h5.at_ 5 (.int .i64 e'.bA.gen) (cs':=aN ⟨e'.kind,⟨e'.bA.id,e'.bA.aL,e'.bA.aF,e'.bA.scope,e'.bA.gen,e.bA.made,e.bA.used,e.bA.request,e.bA.dead⟩,e.id,e.time⟩) rfl;have h7:=h6.at_ 6 (.int .i64 e'.bA.made) (cs':=aN ⟨e'.kind,⟨e'.bA.id,e'.bA.aL,e'.bA.aF,e'.bA.scope,e'.bA.gen,e'.bA.made,e.bA.used,e.bA.request,e.bA.dead⟩,e.id,e.time⟩) rfl;have h8:=h7.at_ 7 (.int .i64 e'.bA.used) (cs':=aN ⟨e'.kind,⟨e'.bA.id,e'.bA.aL,e'.bA.aF,e'.bA.scope,e'.bA.gen,e'.bA.made,e'.bA.used,e.bA.request,e.bA.dead⟩,e.id,e.time⟩) rfl;have h9:=h8.at_ 8 (.string e'.bA.request) (cs':=aN ⟨e'.kind,⟨e'.bA.id,e'.bA.aL,e'.bA.aF,e'.bA.scope,e'.bA.gen,e'.bA.made,e'.bA.used,e'.bA.request,e.bA.dead⟩,e.id,e.time⟩) rfl;have h10:=h9.at_ 9 (.bool e'.bA.dead) (cs':=aN ⟨e'.kind,⟨e'.bA.id,e'.bA.aL,e'.bA.aF,e'.bA.scope,e'.bA.gen,e'.bA.made,e'.bA.used,e'.bA.request,e'.bA.dead⟩,e.id,e.time⟩) rfl;have h11:=h10.at_ 10 (.int .i64 e'.id) (cs':=aN ⟨e'.kind,⟨e'.bA.id,e'.bA.aL,e'.bA.aF,e'.bA.scope,e'.bA.gen,e'.bA.made,e'.bA.used,e'.bA.request,e'.bA.dead⟩,e'.id,e.time⟩) rfl;have h12:=h11.at_ 11 (.int .i64 e'.time) (cs':=aN ⟨e'.kind,⟨e'.bA.id,e'.bA.aL,e'.bA.aF,e'.bA.scope,e'.bA.gen,e'.bA.made,e'.bA.used,e'.bA.request,e'.bA.dead⟩,e'.id,e'.time⟩) rfl;exact h12
theorem cH{W w:aah}{e':Ev}(h:Below W.heap.size W w):Below W.heap.size W (((((((((((((w.setCell ⟨W.heap.size,0,none⟩ (.int .i64 e'.kind)).setCell ⟨W.heap.size,1,none⟩ (.int .i64 e'.bA.id)).setCell ⟨W.heap.size,2,none⟩ (.string e'.bA.aL)).setCell ⟨W.heap.size,3,none⟩ (.string e'.bA.aF)).setCell ⟨W.heap.size,4,none⟩ (.string e'.bA.scope)).setCell ⟨W.heap.size,5,none⟩ (.int .i64 e'.bA.gen)).setCell ⟨W.heap.size,6,none⟩ (.int .i64 e'.bA.made)).setCell ⟨W.heap.size,7,none⟩ (.int .i64 e'.bA.used)).setCell ⟨W.heap.size,8,none⟩ (.string e'.bA.request)).setCell ⟨W.heap.size,9,none⟩ (.bool e'.bA.dead)).setCell ⟨W.heap.size,10,none⟩ (.int .i64 e'.id)).setCell ⟨W.heap.size,11,none⟩ (.int .i64 e'.time))):=
 (((((((((((h.setCell nR _).setCell nR _).setCell nR _).setCell nR _).setCell nR _).setCell nR _).setCell nR _).setCell nR _).setCell nR _).setCell nR _).setCell nR _).setCell nR _
theorem Cc{p:UInt8->Bool}:∀l:BL,(∀x∈l,p x=true)->l.takeWhile p=l/\l.dropWhile p=[]
 |[],_=>⟨rfl,rfl⟩
 |x::l,h=>by
  obtain⟨h1,h2⟩:=Cc l fun y hy=>h y (acU _ hy)
  rw[aiH,List.dropWhile_cons,if_pos (h x (ait ..)),if_pos (h x (ait ..)),h1,h2];exact⟨rfl,rfl⟩
theorem aaR(l:BL):agZ l [32]=(eC l,cQ l,decide (32∈l)):=by
 by_cases h:(32:UInt8)∈l
 ·obtain⟨a,b,rfl,ha⟩:=xO h
  obtain⟨h1,h2⟩:=zk (b:=b) ha
  have hi:Lib.index (a++32::b) [32]=(a.length:Int):=by
   refine Lib.index_first sP ?_ ?_
   ·rw[Lib.occAt_iff_take _ _ _ sP]
    simp
   ·intro j hj
    rcases ho:Lib.occAt (a++32::b) [32] j with _|_
    ·rfl
    ·exfalso
     have:=Lib.occAt_head rfl ho;rw[air hj]at this;exact ha (ahG this)
  unfold agZ;rw[hi,if_pos oM,h1,h2,decide_eq_true h];simp
 ·have hi:Lib.index l [32]= -1:=by
   (refine Lib.index_none fun j _=>?_);rcases ho:Lib.occAt l [32] j with _|_
   ·rfl
   ·exact absurd (ahG (Lib.occAt_head rfl ho)) h
  have kD:∀x∈l,(x != 32)=true:=fun x hx=>by
   (have:x≠32:=fun e=>h (by rw[<-e];exact hx));simpa using this
  unfold agZ eC cQ;rw[hi,if_neg dC,decide_eq_false h,(Cc l kD).1,(Cc l kD).2];rfl
theorem N6(s:ByteArray):(akm s 32= -1/\rG s.data.toList=none)\/
  ∃i:Nat,i<s.size/\akm s 32=i/\rG s.data.toList=some (s.data.toList.take i,s.data.toList.drop (i+1)):=by
 have hz:s.data.toList.length=s.size:=size_data s
 have aeA:∀j,j<s.size->s.data.toList[j]?=some (s.data[j]!):=fun j hj=>by
  have YY:j<s.data.size:=hj;rw[ahb,aht YY,getElem!_pos s.data j YY]
 rcases Lib.lastIndexByte_spec s 32 with⟨h1,h2⟩|⟨i,hi,h1,h2,h3⟩
 ·refine .inl ⟨h1,?_⟩
  unfold rG;rw[if_neg];intro hm;obtain⟨j,hj⟩:=ahX.1 hm;have aE:=(ag6.1 hj).1;rw[aeA j oM]at hj;have:=h2 j oM;rw[ahK hj]at this;exact this rfl
 ·refine .inr ⟨i,hi,h1,?_⟩
  have hb:s.data[i]! =32:=by
   (apply UInt8.toNat_inj.1;have:((s.data[i]!).toNat:Int)=32:=h2);(show(s.data[i]!).toNat=32);omega
  have he:s.data.toList=s.data.toList.take i++32::s.data.toList.drop (i+1):=by
   (have h4:=List.take_append_drop i s.data.toList;have aE:i<s.data.toList.length:=by omega);rw[ah3 aE]at h4;have h5:=aeA i hi;rw[ag8 aE]at h5;rw[ahK h5,hb]at h4;exact h4.symm
  have hf:(32:UInt8) ∉ s.data.toList.drop (i+1):=by
   intro hm;obtain⟨j,hj⟩:=ahX.1 hm;rw[ah_]at hj;have aE:=(ag6.1 hj).1;rw[aeA _ oM]at hj;have:=h3 (i+1+j) oM oM;rw[ahK hj]at this;exact this rfl
  have:=Cm (x:=s.data.toList.take i) hf;rw[<-he]at this;exact this
structure fS(a b:Nat)(w w':aah):Prop where
 os:w'.os=w.os
 tape:w'.tape=w.tape
 output:w'.output=w.output
 size:w.heap.size<=w'.heap.size
 block:∀i,i<w.heap.size->i≠a->i≠b->w'.heap[i]?=w.heap[i]?
section
variable{a b:Nat}{w w' w'':aah}
theorem fS.refl(a b:Nat)(w:aah):fS a b w w:=⟨rfl,rfl,rfl,ahP _,fun _ _ _ _=>rfl⟩
theorem fS.T(h:fS a b w w')(k:fS a b w' w''):fS a b w w'':=
 ⟨k.os.T h.os,k.tape.T h.tape,k.output.T h.output,aiC h.size k.size,fun i hi h1 h2=>(k.block i (Nat.lt_of_lt_of_le hi h.size) h1 h2).T (h.block i hi h1 h2)⟩
theorem fS.aG(h:Below w.heap.size w w'):fS a b w w':=⟨h.os,h.tape,h.output,h.size,fun i hi _ _=>h.block i hi⟩
theorem fS.rO(h:w.grownBy w' (some a)):fS a b w w':=⟨h.os,h.tape,h.output,h.size,fun i hi h1 _=>h.block i hi (by simpa using h1)⟩
theorem fS.rP(h:w.grownBy w' (some b)):fS a b w w':=⟨h.os,h.tape,h.output,h.size,fun i hi _ h2=>h.block i hi (by simpa using h2)⟩
theorem fS.below{B:Nat}{W:aah}(h:fS a b w w')(hW:Below B W w)(hB:B<=w.heap.size)(ha:B<=a)(hb:B<=b):Below B W w':=
 ⟨h.os.T hW.os,h.tape.T hW.tape,h.output.T hW.output,aiC hW.size h.size,fun i hi=>(h.block i oM oM oM).T (hW.block i hi)⟩
theorem aC.two{g:Nat}{t:aat}(h:aC w g t cs)(k:fS a b w w')(h1:g≠a)(h2:g≠b):aC w' g t cs:=(k.block g h.lt h1 h2).T h
theorem bz.two{B:Nat}{v:aai}{L:List az}(h:bz w B v L)(k:fS a b w w')(h1:v.ownBlock≠some a)(h2:v.ownBlock≠some b):bz w' B v L:=by
 refine⟨h.1,?_⟩;rcases h.2 with hn|⟨g,cap,cur,rfl,hb,hgg,rest⟩
 ·exact .inl hn
 ·refine .inr ⟨g,cap,cur,rfl,hb,?_,rest⟩
  have hg:=(Array.getElem?_eq_some_iff.1 hgg).1;rw[k.block g hg (by simpa[akw]using h1) (by simpa[akw]using h2)];exact hgg
end
theorem AO{s:St}{e:Ev}(h:ww s)(hn:s.ax.length<=60)(he:gG e=true):ww (av s e):=by
 refine⟨M9 h.U2 e,M_ h.ids ?_,?_⟩
 ·intro hk
  rcases jj he with⟨_,_,_,hf⟩|⟨h1,_⟩|⟨h1,_⟩
  ·exact(bV hf).1
  ·omega
  ·omega
 ·have:=wB s e
  omega
theorem abP(c d:Int):ww ⟨c,d,[]⟩:=⟨List.Pairwise.nil,fun f hf=>by simp at hf,ahW _⟩
section
variable{blk:Nat->BL}{at_:Nat}{s:St}
theorem CC:lm blk at_ s 0=some (s,[]):=rfl
theorem Cz{n:Nat}{st:St}{all:BL}(h:lm blk at_ s n=some (st,all)):
  lm blk at_ s (n+1)=if kK (blk (at_+1+n))&&decide ((jM (blk (at_+1+n))).kind=1)then some (av st (jM (blk (at_+1+n))),all++blk (at_+1+n)++[10])else none:=by
 rw[lm,h]
theorem CB{n m:Nat}(h:lm blk at_ s n=none)(hm:n<=m):lm blk at_ s m=none:=by
 induction m with
 |zero=>
  obtain rfl:n=0:=by omega
  exact h
 |succ m ih=>
  rcases af8 m n with aE|Qk
  ·obtain rfl:n=m+1:=by omega
   exact h
  ·rw[lm,ih Qk]
theorem Kr(hs:ww s)(h0:s.ax=[])(hb:∀k,(blk k).length<=240):∀(n:Nat),n<=20->∀(st:St) (all:BL),lm blk at_ s n=some (st,all)->ww st/\st.ax.length<=n/\all.length<=241*n
 |0,_,st,all,h=>by
  rw[CC]at h;obtain⟨rfl,rfl⟩:=Prod.mk.inj (ahK h);exact⟨hs,by rw[h0];exact ahP _,ahW _⟩
 |n+1,hn,st,all,h=>by
  rcases e:lm blk at_ s n with _|⟨st',alS⟩
  ·rw[CB e (Nat.le_succ n)]at h
   cases h
  ·obtain⟨h1,h2,h3⟩:=Kr hs h0 hb n oM st' alS e
   rw[Cz e]at h;split at h
   ·rename_i hr
    rw[aaB]at hr;obtain⟨rfl,rfl⟩:=Prod.mk.inj (ahK h);have h4:=wB st' (jM (blk (at_+1+n)));have h5:=hb (at_+1+n);refine⟨AO h1 oM (GN hr.1),by omega,?_⟩;rw[ag2,ag2,aij];omega
   ·cases h
end
section
variable(tg:Int->BL->BL)
def sU(blk:Nat->BL)(k:Nat)(L:List BL):Option (Int×Int×St):=
 if (L.take 5).all jU&&decide (aa (L.getD 4 [])<=20)then
  match lm blk (aI k) ⟨aa (L.getD 2 []),aa (L.getD 3 []),[]⟩ (aa (L.getD 4 [])).toNat with
  |some (st,all)=>if tg 1 all=L.getD 5 []/\aa (L.getD 0 []) % 2=(k:Int)then some (aa (L.getD 0 []),aa (L.getD 1 []),st)else none
  |none=>none
 else none
theorem Oc{blk:Nat->BL}(h:iA tg (blk (aI k))=none):jm tg blk k=none:=by
 unfold jm;rw[h]
theorem Sj{blk:Nat->BL}{x:BL}(h:iA tg (blk (aI k))=some x)(hl:(parts 32 x).length≠6):jm tg blk k=none:=by
 unfold jm;rw[h];dsimp only;split
 ·rename_i e
  rw[e]at hl;exact absurd rfl hl
 ·rfl
theorem K_{blk:Nat->BL}{x:BL}(h:iA tg (blk (aI k))=some x)(hl:(parts 32 x).length=6):jm tg blk k=sU tg blk k (parts 32 x):=by
 unfold jm;rw[h];dsimp only;rcases hp:parts 32 x with _|⟨a,_|⟨b,_|⟨c,_|⟨d,_|⟨e,_|⟨t,_|⟨u,r⟩⟩⟩⟩⟩⟩⟩
 all_goals (rw[hp]at hl;try (exfalso;simp at hl;done))
 unfold sU;simp only[ag9,ahk,List.all_cons,List.all_nil,akb,aku];rfl
end
open Go.ChangeShapes Go.WideShapes Go.ChangeAt Go.Deep
theorem Xq:ownKnob prog.godebug=none:=kR
theorem CS:laidOutB prog=true:=kR
section
variable{H:Type}{enc:aat×aai->H}{P:ag0}
theorem Fa{f:Func}{s:ChangeSpec}{apart fresh handsOn again:Bool}{W W':aah}{args:Array aai}{v:aai}{ds gs:List (DataW H)}{before pa pv:List MemPlace}(hW:DataW.Whole enc P f.params.toList s.vars apart W args.toList ds gs before)(aO:∀(b:Nat) (sp:Nat->Bool) (hd:Bool),akz enc P W' b sp hd f.resultTypes.toList (v.resultList f.resultTypes.size) (s.fn H (ds++gs)).results [])(VO:∀sp:Nat->Bool,(∀p∈before,sp p.block=true)->akz enc P W' 0 sp true f.params.toList args.toList (s.fn H (ds++gs)).args pa)(acT:∀sp:Nat->Bool,(∀p∈before,sp p.block=true)->DataW.TrodVars enc P W' sp s.vars (s.fn H (ds++gs)).vars pv)(Ur:before=pa++pv)(hb:Below W.heap.size W W')(fR:∀(j:Nat) (t:aat) (r:aai),f.resultTypes[j]?=some t->(v.resultList f.resultTypes.size)[j]?=some r->Value.okWide P W' .any 0 t r):
  s.post enc P f apart fresh handsOn again W args v W':=by
 have aE:∀p∈before,p.block<W.heap.size:=fun p hp=>hW.lt p hp
 have hold:∀p∈before,(fun b=>decide (b<W.heap.size)) p.block=true:=fun p hp=>by simpa using aE p hp
 refine⟨ds,gs,before,[],pa,pv,hW,aO _ _ _,VO _ hold,acT _ hold,World.keptBut_mono (fun p hp=>⟨hp,?_⟩) (hb.frame (· ∈before)),fun _=>?_⟩
 ·rw[Ur,adh]at hp
  exact Or.inr hp
 ·obtain⟨_,_,_,_,_,hz,hn⟩:=hW
  refine⟨fR,_,_,([]++pa)++pv,⟨[]++pa,pv,trodAll_append (VO _ (fun _ _=>rfl)) (aO _ _ _),acT _ (fun _ _=>rfl),rfl,?_,?_⟩,?_⟩
  ·intro b off hp
   (have NQ:MemPlace.cell b off∈before:=by rw[Ur];simpa using hp);rw[hb.frozen (aE _ NQ)];exact hz b off NQ
  ·intro ha
   have:=hn ha;rw[Ur]at this;simpa using this
  ·intro p hp _
   rw[Ur];simpa using hp
end
end Go.Proofs.YtjligkmjlenofaaGreatDoor
