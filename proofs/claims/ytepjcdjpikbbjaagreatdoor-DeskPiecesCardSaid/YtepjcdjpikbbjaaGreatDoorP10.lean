/-
  The helper bare of the statements: plain.Bare and api.Tell (with errors.As, at the target *api.Errno) at nil and at an api.Errno. After the worked example Toyas.
-/
import Derived.Test.YtepjcdjpikbbjaaGreatDoorProg
import Derived.Test.YtepjcdjpikbbjaaGreatDoorP04
import Derived.WalkKit
import Derived.WalkSpells
import Derived.WalkLawsBesides
import Derived.LaidEql
import Derived.Stop.Asserts
import Derived.RowKitTokens
import Derived.Lib.Hide
import Derived.Test.YtepjcdjpikbbjaaGreatDoorP09
import Derived.Test.YtepjcdjpikbbjaaGreatDoorP05
import Derived.Sort.Walk0
import Derived.Test.YtepjcdjpikbbjaaGreatDoorP07
import Derived.Test.YtepjcdjpikbbjaaGreatDoorP08
import Derived.Test.YtepjcdjpikbbjaaGreatDoorP03
import Derived.Lib.ItoaLen
namespace Go.Proofs.YtepjcdjpikbbjaaGreatDoor
open Go.RowKit Go.Extern.Stop Go.Stop Go.Extern

theorem as_valueOfP (t : Addr) (w : World) : (ReflectliteValue.unpack (.iface 171 (.pointer (some t)))).run Tryz.prog w
    = .ok (.agg #[.pointer (some ⟨10, 171, none⟩), .pointer (some ⟨w.heap.size, 0, none⟩), .int .u64 150]) (w.alloc (.cells #[.pointer (some t)] 171)) := by kernel_rfl
theorem as_typeP (a : Addr) (w : World) : (ReflectliteValue.methodAny (ReflectliteValue.valueError "reflectlite.Value.Type" 0) (fun t _ _ _ => ReflectliteType.toType t) #[.agg #[.pointer (some ⟨10, 171, none⟩), .pointer (some a), .int .u64 150]]).run Tryz.prog w
    = .ok (.iface 260 (.agg #[.pointer (some ⟨10, 171, none⟩)])) w := by kernel_rfl
theorem as_methodKind (h : Value) (w : World) : (Go.method 466 260 (.agg #[h]) "Kind").run Tryz.prog w = .ok (313, h) w := by kernel_rfl
theorem as_kindP (w : World) : ((ReflectliteType.abiMethod fun t => (fun a : Nat => Value.int IntKind.u8 (a : Int)) <$> Rtype.kind t) #[.pointer (some ⟨10, 171, none⟩)]).run Tryz.prog w = .ok (.int .u8 22) w := by kernel_rfl
theorem as_kindE (w : World) : ((ReflectliteType.abiMethod fun t => (fun a : Nat => Value.int IntKind.u8 (a : Int)) <$> Rtype.kind t) #[.pointer (some ⟨10, 57, none⟩)]).run Tryz.prog w = .ok (.int .u8 2) w := by kernel_rfl

theorem as_rlm (z : Sem Value) (f : TypeId → Addr → Nat → Nat → Sem Value) (v : Value) :
    ReflectliteValue.method z f #[v] = (do match ← ReflectliteValue.parts v with | none => z | some (t, a, fl) => f t a fl (fl % 32)) := rfl
theorem as_partsP (a : Addr) (w : World) : (ReflectliteValue.parts (.agg #[.pointer (some ⟨10, 171, none⟩), .pointer (some a), .int .u64 150])).run Tryz.prog w = .ok (some (171, a, 150)) w := by kernel_rfl
theorem as_isNilP (a p : Addr) (W : World) (ha : W.cell? a = some (.pointer (some p))) :
    (ReflectliteValue.method (ReflectliteValue.valueError "reflectlite.Value.IsNil" 0) ReflectliteValue.isNil #[.agg #[.pointer (some ⟨10, 171, none⟩), .pointer (some a), .int .u64 150]]).run Tryz.prog W = .ok (.bool false) W := by
  rw [as_rlm]
  simp only [Sem.run_bind, as_partsP, Result.andThen]
  simp [ReflectliteValue.isNil, loadVar, isAgg, underlying, Tryz.underlying171, ha, Result.andThen]

theorem as_methodElem (h : Value) (w : World) : (Go.method 466 260 (.agg #[h]) "Elem").run Tryz.prog w = .ok (327, .agg #[h]) w := by kernel_rfl
theorem as_methodImplements (h : Value) (w : World) : (Go.method 466 260 (.agg #[h]) "Implements").run Tryz.prog w = .ok (328, .agg #[h]) w := by kernel_rfl
theorem as_methodAssignableTo (h : Value) (w : World) : (Go.method 466 260 (.agg #[h]) "AssignableTo").run Tryz.prog w = .ok (325, .agg #[h]) w := by kernel_rfl
theorem as_elemP (w : World) : (ReflectliteType.method ReflectliteType.elem #[.agg #[.pointer (some ⟨10, 171, none⟩)]]).run Tryz.prog w = .ok (.iface 260 (.agg #[.pointer (some ⟨10, 57, none⟩)])) w := by kernel_rfl
theorem as_implementsE (w : World) : (ReflectliteType.relation "Implements" ReflectliteType.implements_ #[.agg #[.pointer (some ⟨10, 57, none⟩)], .iface 260 (.agg #[.pointer (some ⟨10, 44, none⟩)])]).run Tryz.prog w = .ok (.bool true) w := by kernel_rfl
theorem as_typeOfE (v : Value) (w : World) : (ReflectliteType.typeOf #[.iface 57 v]).run Tryz.prog w = .ok (.iface 260 (.agg #[.pointer (some ⟨10, 57, none⟩)])) w := by kernel_rfl
theorem as_assignableE (w : World) : (ReflectliteType.relation "AssignableTo" ReflectliteType.assignableTo #[.agg #[.pointer (some ⟨10, 57, none⟩)], .iface 260 (.agg #[.pointer (some ⟨10, 57, none⟩)])]).run Tryz.prog w = .ok (.bool true) w := by kernel_rfl
theorem as_valueOfE (n : Int) (w : World) : (ReflectliteValue.unpack (.iface 57 (.int .i64 n))).run Tryz.prog w
    = .ok (.agg #[.pointer (some ⟨10, 57, none⟩), .pointer (some ⟨w.heap.size, 0, none⟩), .int .u64 130]) (w.alloc (.cells #[.int .i64 n] 57)) := by kernel_rfl

theorem as_elemOfP (w : World) : (Rtype.elem? 171).run Tryz.prog w = .ok (some 57) w := by kernel_rfl
theorem as_mkE (p : Addr) (w : World) : (ReflectliteValue.mk 57 p ReflectliteValue.flagAddr).run Tryz.prog w = .ok (.agg #[.pointer (some ⟨10, 57, none⟩), .pointer (some p), .int .u64 386]) w := by kernel_rfl
theorem as_elemV (a p : Addr) (W : World) (ha : W.cell? a = some (.pointer (some p))) :
    (ReflectliteValue.method (ReflectliteValue.valueError "reflectlite.Value.Elem" 0) ReflectliteValue.elem #[.agg #[.pointer (some ⟨10, 171, none⟩), .pointer (some a), .int .u64 150]]).run Tryz.prog W
      = .ok (.agg #[.pointer (some ⟨10, 57, none⟩), .pointer (some p), .int .u64 386]) W := by
  rw [as_rlm]
  simp only [Sem.run_bind, as_partsP, Result.andThen]
  simp [ReflectliteValue.elem, loadVar, isAgg, underlying, Tryz.underlying171, ha, Result.andThen, as_elemOfP, as_mkE]
theorem as_rls (v x : Value) : ReflectliteValue.set #[v, x] = (do
    let (some (dst, a, fl), some (src, b, _)) := (← ReflectliteValue.parts v, ← ReflectliteValue.parts x)
      | unsupported (.noEntry "extern/(internal/reflectlite.Value).Set.zeroValue")
    if fl / ReflectliteValue.flagAddr % 2 == 0 then unsupported (.noEntry "extern/(internal/reflectlite.Value).Set.unaddressable")
    let val ← loadVar src b
    if ← Rtype.directlyAssignable dst src then storeVar dst a val
    else if ← Rtype.implements dst src then
      if (← Rtype.kind src) == 20 then
        match val with
        | .nilIface => unsupported (.noEntry "extern/reflectlite: a nil value of one interface type handed on as a value of another")
        | _ => storeVar dst a val
      else storeVar dst a (.iface src val)
    else panicString ("reflectlite.Set: value of type " ++ (← Rtype.spelt src) ++ " is not assignable to type " ++ (← Rtype.spelt dst))
    pure (.tuple #[])) := rfl
theorem as_partsEa (a : Addr) (w : World) : (ReflectliteValue.parts (.agg #[.pointer (some ⟨10, 57, none⟩), .pointer (some a), .int .u64 386])).run Tryz.prog w = .ok (some (57, a, 386)) w := by kernel_rfl
theorem as_partsE (a : Addr) (w : World) : (ReflectliteValue.parts (.agg #[.pointer (some ⟨10, 57, none⟩), .pointer (some a), .int .u64 130])).run Tryz.prog w = .ok (some (57, a, 130)) w := by kernel_rfl
theorem as_directE (w : World) : (Rtype.directlyAssignable 57 57).run Tryz.prog w = .ok true w := by kernel_rfl
theorem as_setE (ta b : Addr) (n : Int) (old : Value) (W : World) (hb : W.cell? b = some (.int .i64 n)) (ht : W.cell? ta = some old) (hf : W.frozen? ta = false) :
    (ReflectliteValue.set #[.agg #[.pointer (some ⟨10, 57, none⟩), .pointer (some ta), .int .u64 386], .agg #[.pointer (some ⟨10, 57, none⟩), .pointer (some b), .int .u64 130]]).run Tryz.prog W
      = .ok (.tuple #[]) (W.setCell ta (.int .i64 n)) := by
  rw [as_rls]
  simp only [Sem.run_bind, as_partsEa, as_partsE, Result.andThen]
  simp [ReflectliteValue.flagAddr, loadVar, isAgg, underlying, Tryz.underlying57, hb, Result.andThen, as_directE, storeVar, Value.cells, storeCells, Addr.add]
  rw [run_store Tryz.prog W ta _ _ (by rfl)]
  simp [ht, hf]

def asWorld (w : World) (t : Addr) (n : Int) : World :=
  ((((w.alloc (.cells #[.pointer (some t)] 171)).alloc (.cells #[.pointer (some ⟨10, 171, none⟩), .pointer (some ⟨w.heap.size, 0, none⟩), .int .u64 150] 208)).alloc (.cells #[.pointer (some ⟨10, 171, none⟩), .pointer (some ⟨w.heap.size, 0, none⟩), .int .u64 150] 208)).alloc (.cells #[.int .i64 n] 57)).setCell t (.int .i64 n)

set_option maxHeartbeats 4000000 in
theorem as_hit (n : Int) (t : Addr) (old : Value) (w : World) (hg : w.cell? ⟨1, 0, none⟩ = some (.iface 260 (.agg #[.pointer (some ⟨10, 44, none⟩)]))) (ht0 : w.cell? t = some old) (hf0 : w.frozen? t = false) :
    Calls Tryz.prog 115 #[.iface 57 (.int .i64 n), .iface 171 (.pointer (some t))] w fun ev w' => ev = .returned (.bool true) ∧ w' = asWorld w t n := by
  have h6 := @run_callFunc_extern Tryz.prog 165 _ (fun args => ReflectliteValue.unpack (args.getD 0 (.tuple #[]))) Tryz.func165 (by kernel_rfl) (by kernel_rfl) (by kernel_rfl) (by kernel_rfl)
  have h7 := @run_callFunc_extern Tryz.prog 166 _ (ReflectliteValue.methodAny (ReflectliteValue.valueError "reflectlite.Value.Type" 0) (fun t _ _ _ => ReflectliteType.toType t)) Tryz.func166 (by kernel_rfl) (by kernel_rfl) (by kernel_rfl) (by kernel_rfl)
  have h8 := @run_callFunc_extern Tryz.prog 167 _ (ReflectliteValue.method (ReflectliteValue.valueError "reflectlite.Value.IsNil" 0) ReflectliteValue.isNil) Tryz.func167 (by kernel_rfl) (by kernel_rfl) (by kernel_rfl) (by kernel_rfl)
  have h27 := @run_callFunc_extern Tryz.prog 313 _ (ReflectliteType.abiMethod fun t => do pure (.int .u8 (← Rtype.kind t))) Tryz.func313 (by kernel_rfl) (by kernel_rfl) (by kernel_rfl) (by kernel_rfl)
  have h37 := @run_callFunc_extern Tryz.prog 327 _ (ReflectliteType.method ReflectliteType.elem) Tryz.func327 (by kernel_rfl) (by kernel_rfl) (by kernel_rfl) (by kernel_rfl)
  have h38 := @run_callFunc_extern Tryz.prog 328 _ (ReflectliteType.relation "Implements" ReflectliteType.implements_) Tryz.func328 (by kernel_rfl) (by kernel_rfl) (by kernel_rfl) (by kernel_rfl)
  have h10 := @run_callFunc_extern Tryz.prog 209 _ ReflectliteType.typeOf Tryz.func209 (by kernel_rfl) (by kernel_rfl) (by kernel_rfl) (by kernel_rfl)
  have h35 := @run_callFunc_extern Tryz.prog 325 _ (ReflectliteType.relation "AssignableTo" ReflectliteType.assignableTo) Tryz.func325 (by kernel_rfl) (by kernel_rfl) (by kernel_rfl) (by kernel_rfl)
  have h11 := @run_callFunc_extern Tryz.prog 210 _ (ReflectliteValue.method (ReflectliteValue.valueError "reflectlite.Value.Elem" 0) ReflectliteValue.elem) Tryz.func210 (by kernel_rfl) (by kernel_rfl) (by kernel_rfl) (by kernel_rfl)
  have h12 := @run_callFunc_extern Tryz.prog 211 _ ReflectliteValue.set Tryz.func211 (by kernel_rfl) (by kernel_rfl) (by kernel_rfl) (by kernel_rfl)
  have tO := as_typeOfE
  have mA := as_methodAssignableTo
  have a25 := as_assignableE
  have v25 := as_valueOfE
  have f6 := as_valueOfP
  have f7 := as_typeP
  have mK := as_methodKind
  have mE := as_methodElem
  have mI := as_methodImplements
  have k27 := as_kindP
  have k25 := as_kindE
  have e27 := as_elemP
  have i25 := as_implementsE
  have n8 := as_isNilP ⟨w.heap.size, 0, none⟩ t ((w.alloc (.cells #[.pointer (some t)] 171)).alloc (.cells #[.pointer (some ⟨10, 171, none⟩), .pointer (some ⟨w.heap.size, 0, none⟩), .int .u64 150] 208)) (by simp)
  have hlt : 1 < w.heap.size := by
    rcases Nat.lt_or_ge 1 w.heap.size with h | h
    · exact h
    · simp [World.cell?, Array.getElem?_eq_none h] at hg
  have hg2 : ((w.alloc (.cells #[.pointer (some t)] 171)).alloc (.cells #[.pointer (some ⟨10, 171, none⟩), .pointer (some ⟨w.heap.size, 0, none⟩), .int .u64 150] 208)).cell? ⟨1, 0, none⟩ = some (.iface 260 (.agg #[.pointer (some ⟨10, 44, none⟩)])) := by
    rw [World.cell?_alloc_lt _ _ ⟨1, 0, none⟩ (by simp <;> omega), World.cell?_alloc_lt _ _ ⟨1, 0, none⟩ hlt]; exact hg
  have htl : t.block < w.heap.size := by
    rcases Nat.lt_or_ge t.block w.heap.size with h | h
    · exact h
    · simp [World.cell?, Array.getElem?_eq_none h] at ht0
  have el := as_elemV ⟨w.heap.size, 0, none⟩ t (((w.alloc (.cells #[.pointer (some t)] 171)).alloc (.cells #[.pointer (some ⟨10, 171, none⟩), .pointer (some ⟨w.heap.size, 0, none⟩), .int .u64 150] 208)).alloc (.cells #[.pointer (some ⟨10, 171, none⟩), .pointer (some ⟨w.heap.size, 0, none⟩), .int .u64 150] 208)) (by rw [World.cell?_alloc_lt _ _ ⟨w.heap.size, 0, none⟩ (by simp; omega)]; simp)
  have st := as_setE t ⟨w.heap.size + 1 + 1 + 1, 0, none⟩ n old ((((w.alloc (.cells #[.pointer (some t)] 171)).alloc (.cells #[.pointer (some ⟨10, 171, none⟩), .pointer (some ⟨w.heap.size, 0, none⟩), .int .u64 150] 208)).alloc (.cells #[.pointer (some ⟨10, 171, none⟩), .pointer (some ⟨w.heap.size, 0, none⟩), .int .u64 150] 208)).alloc (.cells #[.int .i64 n] 57))
    (by rw [World.cell?_alloc_at _ _ _ _ (by simp)]; rfl)
    (by rw [World.cell?_alloc_lt _ _ t (by simp; omega), World.cell?_alloc_lt _ _ t (by simp; omega), World.cell?_alloc_lt _ _ t (by simp; omega), World.cell?_alloc_lt _ _ t htl]; exact ht0)
    (by rw [World.frozen?_alloc_old _ _ t (by simp; omega), World.frozen?_alloc_old _ _ t (by simp; omega), World.frozen?_alloc_old _ _ t (by simp; omega), World.frozen?_alloc_old _ _ t (Nat.ne_of_lt htl)]; exact hf0)
  go_enter Tryz.func115, Tryz.ntmps115
  go_wp2
  refine wp_loop_rounds 1 ?_
  rw [rounds_succ]
  go_wp2
  go_ret
  exact ⟨rfl, rfl⟩

/-- the cell that errors.As reads -/
def ErrType (w : World) : Prop := w.cell? ⟨1, 0, none⟩ = some (.iface 260 (.agg #[.pointer (some ⟨10, 44, none⟩)]))

theorem ErrType.lt {w : World} (h : ErrType w) : 1 < w.heap.size := by
  unfold ErrType at h
  rcases Nat.lt_or_ge 1 w.heap.size with h' | h'
  · exact h'
  · simp [World.cell?, Array.getElem?_eq_none h'] at h
theorem ErrType.below {B : Nat} {w w' : World} (h : ErrType w) (hb : Below B w w') (hB : 1 < B) : ErrType w' := by
  unfold ErrType at *; rw [hb.cell (p := ⟨1, 0, none⟩) hB]; exact h

set_option maxHeartbeats 4000000 in
theorem tell_no (n : Int) (w : World) (hg : ErrType w) : Calls Tryz.prog 55 #[.iface 57 (.int .i64 n)] w fun e w' => e = .returned (.int .i64 n) ∧ Below w.heap.size w w' := by
  have hlt := hg.lt
  have hg1 : (w.alloc (.cells #[.int .i64 0] 57)).cell? ⟨1, 0, none⟩ = some (.iface 260 (.agg #[.pointer (some ⟨10, 44, none⟩)])) := by
    rw [World.cell?_alloc_lt _ _ ⟨1, 0, none⟩ hlt]; exact hg
  have hb : Below w.heap.size w (asWorld (w.alloc (.cells #[.int .i64 0] 57)) ⟨w.heap.size, 0, none⟩ n) := by
    unfold asWorld
    exact (((((Below.refl _ _).alloc (by simp) _).alloc (by simp) _ |>.alloc (by simp; omega) _).alloc (by simp; omega) _).alloc (by simp; omega) _).setCell (by simp) _
  have hc : (asWorld (w.alloc (.cells #[.int .i64 0] 57)) ⟨w.heap.size, 0, none⟩ n).cell? ⟨w.heap.size, 0, none⟩ = some (.int .i64 n) := by
    unfold asWorld
    refine World.cell?_setCell_same (u := .int .i64 0) _ _ _ ?_
    rw [World.cell?_alloc_lt _ _ _ (by simp <;> omega), World.cell?_alloc_lt _ _ _ (by simp <;> omega), World.cell?_alloc_lt _ _ _ (by simp <;> omega), World.cell?_alloc_lt _ _ _ (by simp <;> omega)]
    simp
  have H := as_hit n ⟨w.heap.size, 0, none⟩ (.int .i64 0) (w.alloc (.cells #[.int .i64 0] 57)) hg1 (by simp) (by simp)
  generalize asWorld (w.alloc (.cells #[.int .i64 0] 57)) ⟨w.heap.size, 0, none⟩ n = W1 at *
  have H2 := Lib.hid H
  clear H
  go_enter Tryz.func55, Tryz.ntmps55
  go_wp2_with (go_at_call 115; refine H2.out.mono ?_; rintro e w' ⟨rfl, rfl⟩)
  go_ret
  exact ⟨rfl, hb⟩

end Go.Proofs.YtepjcdjpikbbjaaGreatDoor

/-
  token.Write and rotorref.WriteToken.
-/
namespace Go.Proofs.YtepjcdjpikbbjaaGreatDoor
open Go.RowKit

def bodyS (a b c d : Int) : ByteArray := if a = 1 then ⟨#[114, 46]⟩ ++ itoS b ++ ⟨#[46]⟩ ++ itoS c else ⟨#[97, 46]⟩ ++ itoS b ++ ⟨#[46]⟩ ++ itoS c ++ ⟨#[46]⟩ ++ itoS d
theorem right_cases {a b c d : Int} (h : rightN a b c d = true) : (a = 1 ∨ (a = 2 ∧ okN d = true)) ∧ okN b = true ∧ okN c = true := by
  simp [rightN] at h
  obtain ⟨⟨h1, h2⟩, h3⟩ := h
  refine ⟨?_, h2, h3⟩
  rcases h1 with ⟨h, _⟩ | h
  · exact .inl h
  · exact .inr h
theorem token_body (a b c d : Int) (W : World) (hT : Tens W) (h : rightN a b c d = true) :
    Calls Tryz.prog 192 #[v4 a b c d] W fun e w' => e = .returned (.string (bodyS a b c d)) ∧ Below W.heap.size W w' := by
  obtain ⟨h1, hb, hc⟩ := right_cases h
  rcases h1 with rfl | ⟨rfl, hd⟩
  · exact token_body1 b c d W hT hb hc
  · exact token_body2 b c d W hT hb hc hd
theorem bodyS_size (a b c d : Int) (h : rightN a b c d = true) : (bodyS a b c d).size ≤ 70 := by
  obtain ⟨h1, hb, hc⟩ := right_cases h
  have sb := itoS_size b hb
  have sc := itoS_size c hc
  rcases h1 with rfl | ⟨rfl, hd⟩
  · rw [bodyS, if_pos rfl]
    have z1 : (⟨#[114, 46]⟩ ++ itoS b : ByteArray).size ≤ 2 + 21 := app_size _ _ 2 21 (by decide) sb
    have z2 := app_size _ (⟨#[46]⟩ : ByteArray) _ 1 z1 (by decide)
    have z3 := app_size _ (itoS c) _ _ z2 sc
    omega
  · have sd := itoS_size d hd
    rw [bodyS, if_neg (by decide)]
    have z1 : (⟨#[97, 46]⟩ ++ itoS b : ByteArray).size ≤ 2 + 21 := app_size _ _ 2 21 (by decide) sb
    have z2 := app_size _ (⟨#[46]⟩ : ByteArray) _ 1 z1 (by decide)
    have z3 := app_size _ (itoS c) _ _ z2 sc
    have z4 := app_size _ (⟨#[46]⟩ : ByteArray) _ 1 z3 (by decide)
    have z5 := app_size _ (itoS d) _ _ z4 sd
    omega
def tagS (key : Int) (s : ByteArray) : ByteArray := ⟨(tagL key s.data.toList).toArray⟩
theorem tagS_size (key : Int) (s : ByteArray) : (tagS key s).size = 16 := hex_size _ _
def tokS (key a b c d : Int) : ByteArray := bodyS a b c d ++ ⟨#[46]⟩ ++ tagS key (bodyS a b c d)

theorem token_write_no (key a b c d : Int) (W : World) (h : rightN a b c d = false) :
    Calls Tryz.prog 136 #[.int .i64 key, v4 a b c d] W fun e w' => e = .returned (.tuple #[.string ⟨#[]⟩, errV 1]) ∧ Below W.heap.size W w' := by
  have HR := fun w => token_right a b c d w
  rw [h] at HR
  have HH := Lib.hid HR
  clear HR
  unfold v4 at *
  go_enter Tryz.func136, Tryz.ntmps136
  go_wp2_with (go_at_call 191; refine (HH.out _).mono ?_; rintro e w1 ⟨rfl, hb1⟩)
  go_ret2
  exact ⟨rfl, ((Below.refl _ _).alloc (Nat.le_refl _) _).trans (hb1.mono (by simp))⟩
end Go.Proofs.YtepjcdjpikbbjaaGreatDoor

/-
  scope.Within: whether all words of a scope are in another one.
-/
namespace Go.Proofs.YtepjcdjpikbbjaaGreatDoor
open Go.RowKit Go.Sort

/-- is the t-th word below x? -/
def lessAt (L : List (List UInt8)) (x : List UInt8) (t : Nat) : Bool := Op.bytesLess (txt (L.getD t [])).toList (txt x).toList
theorem lessAt_eq (L : List (List UInt8)) (x : List UInt8) (t : Nat) : lessAt L x t = decide (L.getD t [] < x) := by
  unfold lessAt
  rw [toList_txt, toList_txt, Go.Proofs.bytesLess_eq]
theorem up_at {L : List (List UInt8)} (h : Up L) {i j : Nat} (hij : i ≤ j) (hj : j < L.length) : L.getD i [] ≤ L.getD j [] := by
  rcases Nat.eq_or_lt_of_le hij with rfl | hlt
  · exact List.le_refl _
  · have h1 := List.pairwise_iff_getElem.1 h i j (by omega) hj hlt
    have h2 : leW L[i] L[j] = true := h1.1
    simp only [leW, decide_eq_true_eq] at h2
    simpa [List.getD, hj, show i < L.length by omega] using h2
/-- what the halving finds in words that are sorted -/
theorem search_up {L : List (List UInt8)} (h : Up L) (x : List UInt8) :
    decide (Lib.bsGo (lessAt L x) L.length 0 L.length < L.length ∧ txt (L.getD (Lib.bsGo (lessAt L x) L.length 0 L.length) []) = txt x) = L.contains x := by
  obtain ⟨k, hk, h1, h2⟩ : ∃ k, k ≤ L.length ∧ (∀ t, t < k → lessAt L x t = true) ∧ (∀ t, k ≤ t → t < L.length → lessAt L x t = false) := by
    have key : ∀ n, n ≤ L.length → ∃ k, k ≤ n ∧ (∀ t, t < k → lessAt L x t = true) ∧ (∀ t, k ≤ t → t < n → lessAt L x t = false) := by
      intro n
      induction n with
      | zero => exact fun _ => ⟨0, Nat.le_refl _, fun t ht => absurd ht (Nat.not_lt_zero _), fun t _ ht => absurd ht (Nat.not_lt_zero _)⟩
      | succ n ih =>
        intro hn
        obtain ⟨k, hk, a, b⟩ := ih (by omega)
        by_cases hl : lessAt L x n = true
        · refine ⟨n + 1, Nat.le_refl _, fun t ht => ?_, fun t h3 h4 => by omega⟩
          rw [lessAt_eq, decide_eq_true_eq] at hl ⊢
          exact List.lt_of_le_of_lt (up_at h (by omega) (by omega)) hl
        · refine ⟨k, by omega, a, fun t h3 h4 => ?_⟩
          by_cases e : t = n
          · subst e; simpa using hl
          · exact b t h3 (by omega)
    exact key _ (Nat.le_refl _)
  have hs : Lib.bsGo (lessAt L x) L.length 0 L.length = k := by
    have hg : ∀ (f lo hi : Nat), hi - lo ≤ f → lo ≤ k → k ≤ hi → hi ≤ L.length → Lib.bsGo (lessAt L x) f lo hi = k := by
      intro f
      induction f with
      | zero => intro lo hi hf a b c; simp [Lib.bsGo]; omega
      | succ f ih =>
        intro lo hi hf a b c
        unfold Lib.bsGo
        by_cases hlt : lo < hi
        · rw [if_pos hlt]
          by_cases hm : (lo + hi) / 2 < k
          · rw [h1 _ hm, if_pos rfl]; exact ih _ _ (by omega) (by omega) b c
          · rw [h2 _ (by omega) (by omega)]; exact ih _ _ (by omega) a (by omega) (by omega)
        · rw [if_neg hlt]; omega
    exact hg _ _ _ (by omega) (Nat.zero_le _) hk (Nat.le_refl _)
  rw [hs, Bool.eq_iff_iff, decide_eq_true_eq, List.contains_iff_mem]
  constructor
  · rintro ⟨hlt, e⟩
    have := txt_inj e
    rw [← this]
    simp [List.getD, hlt]
  · intro hm
    obtain ⟨t, ht, rfl⟩ := List.mem_iff_getElem.1 hm
    have hkt : k ≤ t := by
      rcases Nat.lt_or_ge t k with h3 | h3
      · have := h1 t h3
        rw [lessAt_eq, decide_eq_true_eq] at this
        simp [List.getD, ht] at this
        exact absurd this (List.lt_irrefl _)
      · exact h3
    have hklt : k < L.length := by omega
    refine ⟨hklt, ?_⟩
    have a := up_at h hkt ht
    have b := h2 k (Nat.le_refl _) hklt
    rw [lessAt_eq, decide_eq_false_iff_not] at b
    have e1 : L.getD t [] = L[t] := by simp [List.getD, ht]
    rw [e1] at a
    rw [List.le_antisymm a (List.not_lt.1 b)]

theorem search_row {B : Nat} {v : Value} {L : List (List UInt8)} {w : World} (h : RowOrNil w B v L) (hu : Up L) (hL : L.length ≤ 1000000) (x : List UInt8) :
    Calls Tryz.prog 226 #[v, .string (txt x)] w fun e w' => (∃ i : Nat, e = .returned (.tuple #[.int .i64 i, .bool (L.contains x)])) ∧ ∃ q, w' = w.drewN q := by
  rcases h with ⟨rfl, rfl⟩ | h
  · refine (Any2.slices_BinarySearch_string_empty Tryz.bs26 none 0 (txt x) w).mono ?_
    rintro e w' ⟨rfl, rfl⟩
    exact ⟨⟨0, rfl⟩, 0, rfl⟩
  · obtain ⟨g, cap, rfl, hg, hlt, hn, hm, hH⟩ := h.parts
    refine (Any2.slices_BinarySearch_string Tryz.bs26 g 0 L.length cap (fun t => txt (L.getD t [])) (txt x) w (by omega) (fun j hj => by rw [Nat.zero_add]; exact h.cell j hj)).mono ?_
    rintro e w' ⟨rfl, q, rfl⟩
    refine ⟨⟨Lib.bsGo (lessAt L x) L.length 0 L.length, ?_⟩, q, rfl⟩
    rw [← search_up hu x]
    rfl

def WithRel (a b : List UInt8) (B1 B2 B : Nat) (W : World) (v u : Value) (i : Value) (wr : World) : Prop :=
  ∃ k : Nat, k ≤ (scopeL a).length ∧ i = .int .i64 k ∧ RowOrNil wr B1 v (scopeL a) ∧ RowOrNil wr B2 u (scopeL b) ∧ Below B W wr ∧ ∀ j, j < k → (scopeL b).contains ((scopeL a).getD j []) = true
theorem RowOrNil.below {w w' : World} {B : Nat} {v : Value} {L : List (List UInt8)} (h : RowOrNil w B v L) (hb : Below w.heap.size w w') : RowOrNil w' B v L := h.imp id fun h => h.below hb
theorem RowOrNil.drewN {w : World} {B : Nat} {v : Value} {L : List (List UInt8)} (h : RowOrNil w B v L) (n : Nat) : RowOrNil (w.drewN n) B v L := h
theorem RowOrNil.slice {w : World} {B : Nat} {v : Value} {L : List (List UInt8)} (h : RowOrNil w B v L) : ∃ A cap, v = .slice A L.length cap ∧ ∀ j, j < L.length → ∃ g, A = some ⟨g, 0, none⟩ ∧ w.cell? ⟨g, j, none⟩ = some (.string (txt (L.getD j []))) := by
  rcases h with ⟨rfl, rfl⟩ | h
  · exact ⟨none, 0, rfl, fun j hj => absurd hj (Nat.not_lt_zero _)⟩
  · obtain ⟨g, cap, rfl, _⟩ := id h
    exact ⟨_, cap, rfl, fun j hj => ⟨g, rfl, h.cell j hj⟩⟩
def withN (a b : List UInt8) : Int := if scopeN a = 0 then scopeN b else scopeN a
def withB (a b : List UInt8) : Bool := decide (withN a b = 0) && withinB a b
theorem withB_bad {a b : List UInt8} (h : withN a b ≠ 0) : withB a b = false := by simp [withB, h]
theorem withN_1 {a b : List UInt8} (h : scopeN a ≠ 0) : withN a b = scopeN a := by simp [withN, h]
theorem withN_2 {a b : List UInt8} (h : scopeN a = 0) : withN a b = scopeN b := by simp [withN, h]
theorem withB_no {a b : List UInt8} {k : Nat} (hk : k < (scopeL a).length) (h : (scopeL b).contains ((scopeL a).getD k []) = false) : withB a b = false := by
  have : withinB a b = false := by
    unfold withinB
    rw [List.all_eq_false]
    exact ⟨(scopeL a)[k], List.getElem_mem hk, by simpa [List.getD, hk] using h⟩
  simp [withB, this]
theorem withB_yes {a b : List UInt8} (h0 : withN a b = 0) (h : ∀ j, j < (scopeL a).length → (scopeL b).contains ((scopeL a).getD j []) = true) : withB a b = true := by
  have : withinB a b = true := by
    unfold withinB
    rw [List.all_eq_true]
    intro x hx
    obtain ⟨j, hj, rfl⟩ := List.mem_iff_getElem.1 hx
    have := h j hj
    simpa [List.getD, hj] using this
  simp [withB, this, h0]

set_option maxHeartbeats 4000000 in
theorem scope_within (a b : ByteArray) (W : World) (ha : a.size ≤ 5000) (hb : b.size ≤ 5000) (hm : MaxL W) :
    Calls Tryz.prog 185 #[.string a, .string b] W fun e w' => e = .returned (.tuple #[.bool (withB a.data.toList b.data.toList), errV (withN a.data.toList b.data.toList)]) ∧ Below W.heap.size W w' := by
  have H1 := Lib.hid (scope_read a W ha hm)
  have HM := Lib.hid hm
  have HB := Lib.hid (fun w (h : MaxL w) => scope_read b w hb h)
  clear hm
  by_cases h0 : scopeN a.data.toList = 0
  · have E := Lib.hid (show errV (scopeN a.data.toList) = .nilIface by rw [h0]; rfl)
    have W2 := Lib.hid (withN_2 (b := b.data.toList) h0)
    clear h0
    by_cases h1 : scopeN b.data.toList = 0
    · have E2 := Lib.hid (show errV (scopeN b.data.toList) = .nilIface by rw [h1]; rfl)
      have W3 := Lib.hid (show withN a.data.toList b.data.toList = 0 by rw [W2.out, h1])
      clear h1
      go_enter Tryz.func185, Tryz.ntmps185
      go_wp2_with fail
      go_at_call 182
      refine H1.out.mono ?_
      rintro e w1 ⟨v, rfl, hr1, hb1⟩
      rw [E.out]
      have HR1 := Lib.hid hr1
      have HB1 := Lib.hid hb1
      clear hr1 hb1
      go_wp2_with fail
      go_at_call 182
      refine (HB.out _ (HM.out.below' HB1.out)).mono ?_
      rintro e w2 ⟨u, rfl, hr2, hb2⟩
      rw [E2.out]
      have HR2 := Lib.hid (RowOrNil.below HR1.out hb2)
      have HR3 := Lib.hid hr2
      have HB2 := Lib.hid (HB1.out.trans (hb2.mono HB1.out.size))
      have hl1 := (scopeL_small a.data.toList).1
      have hl2 := (scopeL_small b.data.toList).1
      obtain ⟨A, cap, ev, _⟩ := HR2.out.slice
      subst ev
      clear hr2 hb2
      go_wp2_with fail
      go_loopw [31] (fun i wr => WithRel a.data.toList b.data.toList W.heap.size w1.heap.size W.heap.size W (.slice A (scopeL a.data.toList).length cap) u i wr) (fun i _ => (scopeL a.data.toList).length - (intOf i).toNat)
      case atStart => exact ⟨0, Nat.zero_le _, rfl, HR2.out, HR3.out, HB2.out, fun j hj => absurd hj (Nat.not_lt_zero _)⟩
      case round =>
        clear HR1 HB1 HR2 HR3 HB2
        obtain ⟨k, hk, rfl, hr1, hr2, hb, hno⟩ := hrel
        have HR1 := Lib.hid hr1
        have HS := Lib.hid (fun x => search_row hr2 (scopeL_up _) (by omega) x)
        have HR2 := Lib.hid hr2
        have HB := Lib.hid hb
        have HNO := Lib.hid hno
        clear hr2 hb hno
        by_cases hlt : k < (scopeL a.data.toList).length
        · obtain ⟨A', cap', ev, hcell⟩ := hr1.slice
          injection ev with ea _ ec
          subst ea; subst ec
          obtain ⟨g, rfl, hc⟩ := hcell k hlt
          clear hcell hr1
          generalize hx : (scopeL a.data.toList).getD k [] = x at *
          by_cases hin : (scopeL b.data.toList).contains x = true
          · have HX := Lib.hid hx
            have HIN := Lib.hid hin
            clear hx hin
            go_wp2_with
              (go_at_call 226; refine (HS.out x).mono ?_; rintro e w3 ⟨⟨i, rfl⟩, q, rfl⟩
               rw [HIN.out])
            go_roundw
            case rel =>
              refine ⟨k + 1, by omega, by go_num, RowOrNil.drewN HR1.out q, RowOrNil.drewN HR2.out q, below_drewN HB.out q, fun j hj => ?_⟩
              by_cases e : j = k
              · subst e
                rw [HX.out]
                exact HIN.out
              · exact HNO.out j (by omega)
            case measure => simp [intOf]; omega
          · have hin' : (scopeL b.data.toList).contains x = false := by simpa using hin
            have HW := Lib.hid (withB_no hlt (by rw [hx]; exact hin'))
            have HIN := Lib.hid hin'
            clear hx hin hin'
            go_wp2_with
              (go_at_call 226; refine (HS.out x).mono ?_; rintro e w3 ⟨⟨i, rfl⟩, q, rfl⟩
               rw [HIN.out])
            go_ret2
            exact ⟨by rw [HW.out, W3.out]; rfl, below_drewN HB.out q⟩
        · have HW := Lib.hid (withB_yes W3.out fun j hj => HNO.out j (by omega))
          clear hr1
          go_wp2_with fail
          go_ret2
          exact ⟨by rw [HW.out, W3.out]; rfl, HB.out⟩
    · have E2 := Lib.hid (errV_not h1)
      have W3 := Lib.hid (withB_bad (a := a.data.toList) (b := b.data.toList) (by rw [W2.out]; exact h1))
      clear h1
      go_enter Tryz.func185, Tryz.ntmps185
      go_wp2_with fail
      go_at_call 182
      refine H1.out.mono ?_
      rintro e w1 ⟨v, rfl, hr1, hb1⟩
      rw [E.out]
      have HB1 := Lib.hid hb1
      clear hr1 hb1
      go_wp2_with fail
      go_at_call 182
      refine (HB.out _ (HM.out.below' HB1.out)).mono ?_
      rintro e w2 ⟨u, rfl, hr2, hb2⟩
      rw [E2.out]
      have HB2 := Lib.hid (HB1.out.trans (hb2.mono HB1.out.size))
      clear hr2 hb2
      go_wp2_with fail
      go_ret2
      exact ⟨by rw [W3.out, W2.out, E2.out]; rfl, HB2.out⟩
  · have E := Lib.hid (errV_not h0)
    have W2 := Lib.hid (withN_1 (b := b.data.toList) h0)
    have W3 := Lib.hid (withB_bad (a := a.data.toList) (b := b.data.toList) (by rw [W2.out]; exact h0))
    clear h0
    go_enter Tryz.func185, Tryz.ntmps185
    go_wp2_with fail
    go_at_call 182
    refine H1.out.mono ?_
    rintro e w1 ⟨v, rfl, hr1, hb1⟩
    rw [E.out]
    have HB1 := Lib.hid hb1
    clear hr1 hb1
    go_wp2_with fail
    go_ret2
    exact ⟨by rw [W3.out, W2.out, E.out]; rfl, HB1.out⟩
end Go.Proofs.YtepjcdjpikbbjaaGreatDoor

/-
  A service in plain Lean: what it says at once, and which event it lets be.
-/
namespace Go.Proofs.YtepjcdjpikbbjaaGreatDoor
open Go.RowKit

structure Ru where
  key : Int
  idle : Int
  life : Int
  access : Int
def ruB (r : Ru) : Bool := okN r.key && okN r.idle && okN r.life && okN r.access
def capN (a b : Int) : Int := if a + b > 1099511627776 then 1099511627776 else a + b
def findF (L : List Fam) (id : Int) : Option Fam := L.find? fun f => decide (f.id = id)
def oldB (r : Ru) (now : Int) (f : Fam) : Bool := decide (capN f.used r.idle < now) || decide (capN f.made r.life < now)
/-- what is told at once, or an event that is to be and what is told then -/
inductive Plan (α : Type) where
  | say (a : α) (e : Int)
  | put (ev : Ev) (a : α) (e : Int)
def doPlan {α : Type} (dflt : α) (z : SS) : Plan α → SS × α × Int
  | .say a e => (z, a, e)
  | .put ev a e => if (addS z ev).2 = 0 then ((addS z ev).1, a, e) else ((addS z ev).1, dflt, (addS z ev).2)
def noneS : ByteArray := ⟨#[]⟩
def dropEv (id : Int) : Ev := ⟨2, Fam.zero, id, 0⟩
def tickEv (n : Int) : Ev := ⟨3, Fam.zero, 0, n⟩
def refreshS (r : Ru) (f : Fam) : ByteArray := tokS r.key 1 f.id f.gen 0
def tokOf (r : Ru) (t : ByteArray) : Int × Int × Int × Int × Int := tokR (fun B => tagL r.key B) (parts 46 t.data.toList)
/-- a token's family, if it lives: what is wrong, the token's generation and end, the family -/
structure Lv where
  e : Int
  gen : Int
  ends : Int
  f : Fam
def liveR (r : Ru) (s : St) (t : ByteArray) (kind : Int) : Lv :=
  if (tokOf r t).1 ≠ 0 then ⟨(tokOf r t).1, 0, 0, Fam.zero⟩
  else if (tokOf r t).2.1 ≠ kind then ⟨1, 0, 0, Fam.zero⟩
  else match findF s.fams (tokOf r t).2.2.1 with
    | none => ⟨7, 0, 0, Fam.zero⟩
    | some f => if f.dead then ⟨6, 0, 0, Fam.zero⟩ else if oldB r s.clock f then ⟨10, 0, 0, Fam.zero⟩ else ⟨0, (tokOf r t).2.2.2.1, (tokOf r t).2.2.2.2, f⟩
def grantF (s : St) (client subject sc : ByteArray) : Fam := ⟨s.next, client, subject, txt (leastL sc.data.toList), 0, s.clock, s.clock, noneS, false⟩
def grantP (r : Ru) (s : St) (client subject sc : ByteArray) : Plan ByteArray :=
  if (nameB client.data.toList && nameB subject.data.toList) = false then .say noneS 1
  else if scopeN sc.data.toList ≠ 0 then .say noneS (scopeN sc.data.toList)
  else if 1099511627776 < s.next then .say noneS 4
  else if 20 ≤ s.fams.length then .say noneS 12
  else .put (putEv (grantF s client subject sc)) (refreshS r (grantF s client subject sc)) 0
def deadF (f : Fam) : Fam := ⟨f.id, f.client, f.subject, f.scope, f.gen, f.made, f.used, f.request, true⟩
def turnF (s : St) (f : Fam) (request sc : ByteArray) : Fam := ⟨f.id, f.client, f.subject, txt (leastL sc.data.toList), f.gen + 1, f.made, s.clock, request, f.dead⟩
def rotateL (r : Ru) (s : St) (l : Lv) (request sc : ByteArray) : Plan ByteArray :=
  if l.e ≠ 0 then .say noneS l.e
  else if l.f.gen < l.gen then .say noneS 2
  else if l.gen = l.f.gen - 1 ∧ request.data.toList = l.f.request.data.toList then .say (refreshS r l.f) 0
  else if l.gen < l.f.gen then .put (putEv (deadF l.f)) noneS 15
  else if scopeN sc.data.toList ≠ 0 then .say noneS (scopeN sc.data.toList)
  else if withB (leastL sc.data.toList) l.f.scope.data.toList = false then .say noneS 13
  else if l.f.gen = 1099511627776 then .say noneS 4
  else .put (putEv (turnF s l.f request sc)) (refreshS r (turnF s l.f request sc)) 0
def rotateP (r : Ru) (s : St) (t request sc : ByteArray) : Plan ByteArray :=
  if nameB request.data.toList = false then .say noneS 1 else rotateL r s (liveR r s t 1) request sc
def mintL (r : Ru) (s : St) (l : Lv) : ByteArray × Int :=
  if l.e ≠ 0 then (noneS, l.e)
  else if l.f.gen < l.gen then (noneS, 2)
  else if l.gen < l.f.gen then (noneS, 8)
  else (tokS r.key 2 l.f.id l.f.gen (capN s.clock r.access), 0)
def mintP (r : Ru) (s : St) (t : ByteArray) : ByteArray × Int := mintL r s (liveR r s t 1)
def showL (s : St) (l : Lv) : Fam × Int :=
  if l.e ≠ 0 then (Fam.zero, l.e)
  else if l.f.gen < l.gen then (Fam.zero, 2)
  else if l.ends < s.clock then (Fam.zero, 10)
  else (l.f, 0)
def showP (r : Ru) (s : St) (t : ByteArray) : Fam × Int := showL s (liveR r s t 2)
def killP (s : St) (id : Int) : Plan Unit := match findF s.fams id with
  | none => .say () 7
  | some f => if f.dead then .say () 6 else .put (putEv (deadF f)) () 0
def tickP (s : St) (n : Int) : Plan Unit := if okN n = false then .say () 2 else .put (tickEv (capN s.clock n)) () 0
def sweepF (r : Ru) (s : St) : Option Fam := s.fams.find? fun f => f.dead || oldB r s.clock f
def sweepP (r : Ru) (s : St) : Plan Int := match sweepF r s with
  | none => .say 0 8
  | some f => .put (dropEv f.id) f.id 0
end Go.Proofs.YtepjcdjpikbbjaaGreatDoor

/-
  The desk in plain Lean: what each line is answered, and what a session is.
-/
namespace Go.Proofs.YtepjcdjpikbbjaaGreatDoor
open Go.RowKit

/-- a desk: its rules, its store -/
structure DS where
  r : Ru
  z : SS
def ds0 : DS := ⟨⟨1, 20, 100, 5⟩, newS⟩
def joinS (L : List Int) : ByteArray := txt (glue 32 (L.map Lib.itoa))
def wordS (b : ByteArray) : ByteArray := if b.data.toList = [] then ⟨#[95]⟩ else b
def plainS (b : ByteArray) : ByteArray := if b.data.toList = [95] then noneS else b
/-- a family as a text -/
def famT0 (f : Fam) : ByteArray := joinS [f.id] ++ ⟨#[32]⟩ ++ f.client ++ ⟨#[32]⟩ ++ f.subject ++ ⟨#[32]⟩ ++ wordS f.scope ++ ⟨#[32]⟩ ++ joinS [f.gen, f.made, f.used] ++ ⟨#[32]⟩ ++ wordS f.request
def famT (f : Fam) : ByteArray := if f.dead then famT0 f ++ ⟨#[32, 100, 101, 97, 100]⟩ else famT0 f
def famsT (s : St) : ByteArray := s.fams.foldl (fun o f => o ++ (⟨#[44, 32]⟩ ++ famT f)) (joinS [s.clock, s.next])
def cutN : List UInt8 := [99, 117, 116]
def familiesN : List UInt8 := [102, 97, 109, 105, 108, 105, 101, 115]
def grantN : List UInt8 := [103, 114, 97, 110, 116]
def helpN : List UInt8 := [104, 101, 108, 112]
def killN : List UInt8 := [107, 105, 108, 108]
def leastN : List UInt8 := [108, 101, 97, 115, 116]
def logN : List UInt8 := [108, 111, 103]
def mintN : List UInt8 := [109, 105, 110, 116]
def newN : List UInt8 := [110, 101, 119]
def openN : List UInt8 := [111, 112, 101, 110]
def rotateN : List UInt8 := [114, 111, 116, 97, 116, 101]
def saveN : List UInt8 := [115, 97, 118, 101]
def showN : List UInt8 := [115, 104, 111, 119]
def sweepN : List UInt8 := [115, 119, 101, 101, 112]
def tagCN : List UInt8 := [116, 97, 103]
def tickN : List UInt8 := [116, 105, 99, 107]
def tokenN : List UInt8 := [116, 111, 107, 101, 110]
def writesN : List UInt8 := [119, 114, 105, 116, 101, 115]
/-- the commands: cut families grant help kill least log mint new open rotate save show sweep tag tick token writes -/
def helpS : ByteArray := ⟨#[99, 117, 116, 32, 102, 97, 109, 105, 108, 105, 101, 115, 32, 103, 114, 97, 110, 116, 32, 104, 101, 108, 112, 32, 107, 105, 108, 108, 32, 108, 101, 97, 115, 116, 32, 108, 111, 103, 32, 109, 105, 110, 116, 32, 110, 101, 119, 32, 111, 112, 101, 110, 32, 114, 111, 116, 97, 116, 101, 32, 115, 97, 118, 101, 32, 115, 104, 111, 119, 32, 115, 119, 101, 101, 112, 32, 116, 97, 103, 32, 116, 105, 99, 107, 32, 116, 111, 107, 101, 110, 32, 119, 114, 105, 116, 101, 115]⟩
/-- what a line comes to: the desk behind it, the answer, what is wrong (0: nothing) -/
abbrev Ans := DS × ByteArray × Int
def bad (d : DS) (e : Int) : Ans := (d, noneS, e)
def cutD (d : DS) : List (List UInt8) → Ans
  | [a] => if numE a = true then (⟨d.r, cutS d.z (atoiN a)⟩, txt cutN, 0) else bad d 3
  | _ => bad d 3
def familiesD (d : DS) : List (List UInt8) → Ans
  | [] => (d, famsT d.z.s, 0)
  | _ => bad d 3
def grantD (d : DS) : List (List UInt8) → Ans
  | [a, b, c] => (⟨d.r, (doPlan noneS d.z (grantP d.r d.z.s (txt a) (txt b) (plainS (txt c)))).1⟩, (doPlan noneS d.z (grantP d.r d.z.s (txt a) (txt b) (plainS (txt c)))).2)
  | _ => bad d 3
def helpD (d : DS) : List (List UInt8) → Ans
  | [] => (d, helpS, 0)
  | _ => bad d 3
def killD (d : DS) : List (List UInt8) → Ans
  | [a] => if numE a = true then (⟨d.r, (doPlan () d.z (killP d.z.s (atoiN a))).1⟩, txt killN, (doPlan () d.z (killP d.z.s (atoiN a))).2.2) else bad d 3
  | _ => bad d 3
def leastD (d : DS) : List (List UInt8) → Ans
  | [a] => (d, wordS (txt (leastL (plainS (txt a)).data.toList)), scopeN (plainS (txt a)).data.toList)
  | _ => bad d 3
def downS_ (b : Bool) : ByteArray := if b then ⟨#[116, 114, 117, 101]⟩ else ⟨#[102, 97, 108, 115, 101]⟩
def logD (d : DS) : List (List UInt8) → Ans
  | [] => (d, joinS [d.z.log] ++ ⟨#[32]⟩ ++ downS_ d.z.down, 0)
  | _ => bad d 3
def mintD (d : DS) : List (List UInt8) → Ans
  | [a] => (d, mintP d.r d.z.s (txt a))
  | _ => bad d 3
def newD (d : DS) : List (List UInt8) → Ans
  | [a, b, c, e] => if (numE a && numE b && numE c && numE e) = true then (if ruB ⟨atoiN a, atoiN b, atoiN c, atoiN e⟩ = true then (⟨⟨atoiN a, atoiN b, atoiN c, atoiN e⟩, newS⟩, txt newN, 0) else bad d 2) else bad d 3
  | _ => bad d 3
def openD (d : DS) : List (List UInt8) → Ans
  | [] => (⟨d.r, openS d.z⟩, txt openN, 0)
  | _ => bad d 3
def rotateD (d : DS) : List (List UInt8) → Ans
  | [a, b, c] => (⟨d.r, (doPlan noneS d.z (rotateP d.r d.z.s (txt a) (txt b) (plainS (txt c)))).1⟩, (doPlan noneS d.z (rotateP d.r d.z.s (txt a) (txt b) (plainS (txt c)))).2)
  | _ => bad d 3
def saveD (d : DS) : List (List UInt8) → Ans
  | [] => (⟨d.r, (saveS d.z).1⟩, txt saveN, (saveS d.z).2)
  | _ => bad d 3
def showD (d : DS) : List (List UInt8) → Ans
  | [a] => (d, famT (showP d.r d.z.s (txt a)).1, (showP d.r d.z.s (txt a)).2)
  | _ => bad d 3
def sweepD (d : DS) : List (List UInt8) → Ans
  | [] => (⟨d.r, (doPlan 0 d.z (sweepP d.r d.z.s)).1⟩, itoS (doPlan 0 d.z (sweepP d.r d.z.s)).2.1, (doPlan 0 d.z (sweepP d.r d.z.s)).2.2)
  | _ => bad d 3
def tagD (d : DS) : List (List UInt8) → Ans
  | [a, b] => if numE a = true then (d, txt (tagL (atoiN a) b), 0) else bad d 3
  | _ => bad d 3
def tickD (d : DS) : List (List UInt8) → Ans
  | [a] => if numE a = true then (⟨d.r, (doPlan () d.z (tickP d.z.s (atoiN a))).1⟩, itoS (doPlan () d.z (tickP d.z.s (atoiN a))).1.s.clock, (doPlan () d.z (tickP d.z.s (atoiN a))).2.2) else bad d 3
  | _ => bad d 3
/-- a token's kind by its letter: r is 1, a is 2, else 0 -/
def kindN (l : List UInt8) : Int := if l = [114] then 1 else if l = [97] then 2 else 0
def tokenD (d : DS) : List (List UInt8) → Ans
  | [k, a, b, c] => if kindN k ≠ 0 ∧ (numE a && numE b && numE c) = true then (if rightN (kindN k) (atoiN a) (atoiN b) (atoiN c) = true then (d, tokS d.r.key (kindN k) (atoiN a) (atoiN b) (atoiN c), 0) else bad d 1) else bad d 3
  | _ => bad d 3
def writesD (d : DS) : List (List UInt8) → Ans
  | [] => (d, itoS d.z.writes, 0)
  | _ => bad d 3
/-- what a line's first word does -/
def doesD (d : DS) (n : List UInt8) (L : List (List UInt8)) : Ans :=
  if n = cutN then cutD d L else if n = familiesN then familiesD d L else if n = grantN then grantD d L else if n = helpN then helpD d L
  else if n = killN then killD d L else if n = leastN then leastD d L else if n = logN then logD d L else if n = mintN then mintD d L
  else if n = newN then newD d L else if n = openN then openD d L else if n = rotateN then rotateD d L else if n = saveN then saveD d L
  else if n = showN then showD d L else if n = sweepN then sweepD d L else if n = tagCN then tagD d L else if n = tickN then tickD d L
  else if n = tokenN then tokenD d L else if n = writesN then writesD d L else bad d 3
def errS (n : Int) : ByteArray := ⟨#[101, 114, 114, 111, 114, 32]⟩ ++ itoS n
/-- the words of a line -/
def wordsL (l : List UInt8) : List (List UInt8) := (parts 32 l).filter fun x => decide (x ≠ [])
def told (a : Ans) : DS × ByteArray := (a.1, if a.2.2 = 0 then a.2.1 else errS a.2.2)
def lineD (d : DS) (l : List UInt8) : DS × ByteArray :=
  match wordsL l with
  | [] => (d, ⟨#[111, 107]⟩)
  | n :: L => told (doesD d n L)
/-- the lines of a text -/
def linesL (l : List UInt8) : List (List UInt8) := if 1 < (parts 10 l).length ∧ (parts 10 l).getLast? = some [] then (parts 10 l).dropLast else parts 10 l
def stepD (q : DS × ByteArray) (x : List UInt8) : DS × ByteArray := ((lineD q.1 x).1, q.2 ++ ((lineD q.1 x).2 ++ ⟨#[10]⟩))
def sessD (l : List UInt8) : ByteArray := ((linesL l).foldl stepD (ds0, noneS)).2

/-- a text without the line's end at its end -/
def trimNL (l : List UInt8) : List UInt8 := if l.getLast? = some 10 then l.dropLast else l
theorem parts_last {l : List UInt8} (h : (parts 10 l).getLast? = some []) (h1 : 1 < (parts 10 l).length) : ∃ a, l = a ++ [10] := by
  have hg := glue_parts 10 l
  obtain ⟨d, hd⟩ : ∃ d, parts 10 l = d ++ [[]] := by
    obtain ⟨d, hd⟩ := List.getLast?_eq_some_iff.1 h
    exact ⟨d, hd⟩
  rw [hd] at hg h1
  have hne : d ≠ [] := by rintro rfl; simp at h1
  rw [glue_app 10 d [[]] hne (by simp)] at hg
  exact ⟨glue 10 d, by rw [← hg]; rfl⟩
theorem lines_trim (l : List UInt8) : parts 10 (trimNL l) = linesL l := by
  unfold linesL trimNL
  by_cases h : l.getLast? = some 10
  · obtain ⟨a, rfl⟩ := List.getLast?_eq_some_iff.1 h
    rw [if_pos h, parts_seam, List.dropLast_concat, if_pos ⟨by have := parts_pos 10 a; simp; omega, by simp⟩, List.dropLast_concat]
  · rw [if_neg h, if_neg]
    rintro ⟨h1, h2⟩
    obtain ⟨a, rfl⟩ := parts_last h2 h1
    exact h (by simp)
theorem lines_seam (a : List UInt8) : linesL (a ++ [10]) = parts 10 a := by
  rw [← lines_trim]
  unfold trimNL
  rw [if_pos (by simp), List.dropLast_concat]
/-- the lines of a text and of one behind it -/
theorem lines_more (a b : List UInt8) : ∃ r, linesL (a ++ [10] ++ b) = linesL (a ++ [10]) ++ r := by
  have hp : parts 10 (a ++ [10] ++ b) = parts 10 a ++ parts 10 b := by rw [List.append_assoc]; exact parts_app a b
  rw [lines_seam]
  unfold linesL
  rw [hp]
  split
  · rename_i h
    have hb := parts_ne 10 b
    rw [List.dropLast_append_of_ne_nil hb]
    exact ⟨_, rfl⟩
  · exact ⟨_, rfl⟩
theorem fold_more (L : List (List UInt8)) (q : DS × ByteArray) : ∃ x, (L.foldl stepD q).2.data.toList = q.2.data.toList ++ x := by
  induction L generalizing q with
  | nil => exact ⟨[], by simp⟩
  | cons a L ih =>
    obtain ⟨x, hx⟩ := ih (stepD q a)
    rw [List.foldl_cons, hx]
    exact ⟨_, by unfold stepD; rw [ByteArray.data_append, Array.toList_append, List.append_assoc]⟩
theorem sess_pieces (a b : List UInt8) : ∃ x, (sessD (a ++ [10] ++ b)).data.toList = (sessD (a ++ [10])).data.toList ++ x := by
  obtain ⟨r, hr⟩ := lines_more a b
  unfold sessD
  rw [hr, List.foldl_append]
  exact fold_more r _
end Go.Proofs.YtepjcdjpikbbjaaGreatDoor

/-
  Numbers with blanks between, by the desk and by the reference: at any int.
-/
namespace Go.Proofs.YtepjcdjpikbbjaaGreatDoor
open Go.RowKit Go.Sort

def okI (x : Int) : Prop := -9223372036854775808 ≤ x ∧ x ≤ 9223372036854775807
theorem okI_wrap (x : Int) : okI (wrap64 x) := by
  unfold okI wrap64
  omega
theorem okI_of {x : Int} (h : okN x = true) : okI x := by
  have h : 0 ≤ x ∧ x ≤ 1099511627776 := by simpa [okN] using h
  exact ⟨by omega, by omega⟩
theorem joinS_size {L : List Int} (h4 : L.length ≤ 4) (hn : ∀ x ∈ L, okI x) : (joinS L).size ≤ 100 := by
  have hg := glue_length 32 21 (L.map Lib.itoa) (by
    intro x hx
    obtain ⟨y, hy, rfl⟩ := List.mem_map.1 hx
    exact Lib.itoa_length_le y (hn y hy).1 (hn y hy).2)
  rw [List.length_map] at hg
  unfold joinS
  rw [txt_size]
  omega
theorem TD.join_i {W w : World} {g : Nat} {L : List Int} {out : Value} (h : TD W g L L.length out w) (hL : L ≠ []) (h4 : L.length ≤ 4) (hn : ∀ x ∈ L, okI x) :
    Calls Tryz.prog 50 #[out, .string ⟨#[32]⟩] w fun e w' => e = .returned (.string (joinS L)) ∧ Below w.heap.size w w' := by
  have hr := h.row
  rw [List.take_length] at hr
  have hr2 : w.ownsRow W.heap.size 9 1 out (L.map Lib.itoa).length ((L.map Lib.itoa).map encStr) := by
    rw [List.map_map, List.length_map]; exact hr
  have hg := joinS_size h4 hn
  unfold joinS at hg
  rw [txt_size] at hg
  exact join_row 32 (row_of_owns hr2 (by simpa using hL)) (by rw [List.length_map]; omega) (by omega)
set_option maxHeartbeats 4000000 in
set_option maxRecDepth 100000 in
theorem desk_join (g : Nat) (L : List Int) (W : World) (h : WB W W) (hi : IntsAt W g L) (hL : L ≠ []) (h4 : L.length ≤ 4) (hn : ∀ x ∈ L, okI x) :
    Calls Tryz.prog 121 #[.slice (some ⟨g, 0, none⟩) L.length L.length] W fun e w' => e = .returned (.string (joinS L)) ∧ Below W.heap.size W w' := by
  obtain ⟨i0, hii, hz0, hz1, hz2⟩ := info_parts strInfo
  have H0 := Lib.hid h
  have HI := Lib.hid hi
  have HN := Lib.hid hn
  have HL := Lib.hid hL
  clear h hi hn hL
  go_enter Tryz.func121, Tryz.ntmps121
  go_wp2
  go_loopw [3, 8] (fun out i wr => ToldRel W g L out i wr) (fun _ i _ => L.length - (intOf i).toNat)
  case atStart => exact ⟨0, Nat.zero_le _, rfl, TD.start H0.out HI.out⟩
  case round =>
    obtain ⟨k, hk, rfl, ht⟩ := hrel
    have HT := Lib.hid ht
    clear ht
    by_cases hlt : k < L.length
    · have hc := HT.out.ints k hlt
      have hok : okI (L.getD k 0) := HN.out _ (by rw [List.getD_eq_getElem?_getD, List.getElem?_eq_getElem hlt]; exact List.getElem_mem hlt)
      have HX := Lib.hid (show encStr (Lib.itoa (L.getD k 0)) = .string (itoS (L.getD k 0)) from rfl)
      generalize hx : L.getD k 0 = x at *
      have HXX := Lib.hid hx
      have HIT := Lib.hid (fun w hT => itoa_any x hok.1 hok.2 w hT)
      clear hx hok
      generalize itoS x = y at *
      go_wp2_with fail
      go_at_call 26
      refine (HIT.out _ HT.out.wb.tens).mono ?_
      rintro e w1 ⟨rfl, hb⟩
      have HT1 := Lib.hid (HT.out.call hb)
      have hrow := HT1.out.row
      have hB2 := HT1.out.wb.below.size
      clear hb hc
      go_wp2_with
        (at_builtin; refine wpList_append_own _ rfl _ _ 34 rfl W.heap.size 9 i0 (.string ByteArray.empty) 1 16 Tryz.underlying34 hii hz0 hz1 hz2 rfl (by decide) _ _ _ rfl (hrow.alloc _) ⟨w1.heap.size, 0, none⟩ 1 1 [.string y] rfl rfl (cell_one_new _ _ _) (fun x hx => by simp at hx; subst hx; rfl) (by unfold maxLen; omega) (by omega) (by simp; omega) ?_; intro v' w3 hown hgrow hnil
         have HO := Lib.hid hown
         have HG := Lib.hid hgrow
         clear hown hgrow hnil hrow)
      go_roundw
      case rel => exact ⟨k + 1, by omega, by go_num, TD.next H0.out HI.out HT1.out hlt (by rw [HXX.out]; exact HX.out.symm) HO.out HG.out⟩
      case measure => simp [intOf]; omega
    · have hke : k = L.length := by omega
      subst hke
      have HJ := Lib.hid (HT.out.join_i HL.out h4 HN.out)
      go_wp2_with fail
      go_at_call 50
      refine HJ.out.mono ?_
      rintro e w1 ⟨rfl, hb⟩
      have HB := Lib.hid (HT.out.wb.keep hb)
      clear hb
      go_wp2_with fail
      go_ret
      exact ⟨rfl, HB.out.below⟩
end Go.Proofs.YtepjcdjpikbbjaaGreatDoor

/-
  token.number: a number that is written just so.
-/
namespace Go.Proofs.YtepjcdjpikbbjaaGreatDoor
open Go.RowKit Go.Sort

set_option maxHeartbeats 1000000 in
theorem number_c (s : ByteArray) (W : World) (hs : s.size ≤ 1000000) (hT : Tens W) (hv : ErrVars W) :
    Calls Tryz.prog 249 #[.string s] W fun e w' => e = .returned (.tuple #[.int .i64 (atoiN s.data.toList), .bool (numB s.data.toList)]) ∧ Below W.heap.size W w' := by
  have hb := atoiN_bounds s.data.toList
  have hsl : s.toList = s.data.toList := by rw [ByteArray.toList_eq]
  cases hE : atoiE s.data.toList
  · have HA := Lib.hid (atoi_no s W hs hv hE)
    have HN := Lib.hid (show numB s.data.toList = false by unfold numB; rw [hE]; rfl)
    clear hE hT hv hsl
    generalize atoiN s.data.toList = n at *
    go_enter Tryz.func249, Tryz.ntmps249
    go_wp2_with
      (go_at_call 51; refine HA.out.mono ?_; rintro e w1 ⟨⟨te, pe, rfl⟩, hb1⟩
       have HB := Lib.hid hb1
       clear hb1)
    go_ret2
    exact ⟨by rw [HN.out]; rfl, HB.out⟩
  · have HA := Lib.hid (atoi_yes s W hs hE)
    have HI := Lib.hid (fun w => itoa_any (atoiN s.data.toList) hb.1 hb.2 w)
    have HT := Lib.hid hT
    have lt := hT.lt
    have hN : numB s.data.toList = (((itoS (atoiN s.data.toList)).toList == s.toList) && decide (0 ≤ atoiN s.data.toList) && decide (atoiN s.data.toList ≤ 1099511627776)) := by
      unfold numB okN
      rw [hE, itoS_list, hsl, Bool.true_and, ← Bool.and_assoc]
      congr 2
      rw [Bool.eq_iff_iff]
      simp
    have HN := Lib.hid hN
    clear hE hT hv hsl hN
    generalize atoiN s.data.toList = n at *
    generalize itoS n = y at *
    cases hq : (y.toList == s.toList)
    · have HQ := Lib.hid hq
      go_enter Tryz.func249, Tryz.ntmps249
      go_wp2_with
        (first
        | (go_at_call 51; refine HA.out.mono ?_; rintro e w1 ⟨rfl, hb1⟩
           have HB := Lib.hid hb1
           clear hb1)
        | (go_at_call 26; refine (HI.out _ (HT.out.below HB.out lt)).mono ?_; rintro e w2 ⟨rfl, hb2⟩
           have HB2 := Lib.hid (below_2 HB.out hb2)
           clear hb2))
      go_ret2
      exact ⟨by rw [HN.out, HQ.out]; rfl, HB2.out⟩
    · have HQ := Lib.hid hq
      by_cases h0 : 0 ≤ n
      all_goals
        go_enter Tryz.func249, Tryz.ntmps249
        go_wp2_with
          (first
          | (go_at_call 51; refine HA.out.mono ?_; rintro e w1 ⟨rfl, hb1⟩
             have HB := Lib.hid hb1
             clear hb1)
          | (go_at_call 26; refine (HI.out _ (HT.out.below HB.out lt)).mono ?_; rintro e w2 ⟨rfl, hb2⟩
             have HB2 := Lib.hid (below_2 HB.out hb2)
             clear hb2))
        go_ret2
        refine ⟨?_, HB2.out⟩
        rw [HN.out, HQ.out]
        first
          | (rw [show decide (0 ≤ n) = true by simp; omega]; rfl)
          | (rw [show decide (0 ≤ n) = false by simp; omega]; rfl)
end Go.Proofs.YtepjcdjpikbbjaaGreatDoor
