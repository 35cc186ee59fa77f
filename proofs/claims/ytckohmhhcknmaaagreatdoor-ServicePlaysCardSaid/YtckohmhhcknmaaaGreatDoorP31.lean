/-
  ServicePlays: the walk.
-/
import Derived.Test.YtckohmhhcknmaaaGreatDoorP30
namespace Go.Proofs.YtckohmhhcknmaaaGreatDoor
open Go.RowKit Go.Sort

/-- what is asked, one of a list -/
structure AskP where
  what : Int
  n : Int
  t : Int
  client : ByteArray
  subject : ByteArray
  scope : ByteArray
def apCs (a : AskP) : Array Value := #[.int .i64 a.what, .int .i64 a.n, .int .i64 a.t, .string a.client, .string a.subject, .string a.scope]
def ApsAt (w : World) (g off : Nat) (E : List AskP) : Prop := ∀ i d, E[i]? = some d → ∀ j, j < 6 → w.cell? ⟨g, off + i * 6 + j, none⟩ = (apCs d)[j]?
def AskP.len (a : AskP) : Nat := a.client.size + a.subject.size + a.scope.size
theorem six_cells {w : World} {g : Nat} {t : TypeId} {a b c d e f : Value} (h : Blk w g t #[a, b, c, d, e, f]) : w.cell? ⟨g, 0, none⟩ = some a ∧ w.cell? ⟨g, 1, none⟩ = some b ∧ w.cell? ⟨g, 2, none⟩ = some c ∧ w.cell? ⟨g, 3, none⟩ = some d ∧ w.cell? ⟨g, 4, none⟩ = some e ∧ w.cell? ⟨g, 5, none⟩ = some f := ⟨h.cell 0, h.cell 1, h.cell 2, h.cell 3, h.cell 4, h.cell 5⟩
theorem own_slice_ {w : World} {B : Nat} {T : TypeId} {z n : Nat} {v : Value} {xs : List Value} (h : w.ownsRow B T z v n xs) : ∃ a m c, v = .slice a m c := by
  rcases h.2 with ⟨rfl, _⟩ | ⟨g, cap, cur, rfl, _⟩
  · exact ⟨_, _, _, rfl⟩
  · exact ⟨_, _, _, rfl⟩
/-- both services, and the rules as they came in -/
structure SQ (W : World) (vb sb db rb qb k : Nat) (r : Ru) (z zr : SS) (v vr gv : Value) (T : List ByteArray) (w : World) : Prop where
  sp : SP W vb sb db rb qb k r z zr v vr gv T w
  ru : Blk w W.heap.size 28 #[.int .i64 r.key, .int .i64 r.idle, .int .i64 r.life, .int .i64 r.access]
section
variable {W w w' : World} {vb sb db rb qb k : Nat} {r : Ru} {z zr : SS} {v vr gv : Value} {T : List ByteArray}
theorem SQ.keep (h : SQ W vb sb db rb qb k r z zr v vr gv T w) (hb : Below w.heap.size w w') : SQ W vb sb db rb qb k r z zr v vr gv T w' := ⟨h.sp.keep hb, h.ru.below' hb⟩
theorem SQ.drew (h : SQ W vb sb db rb qb k r z zr v vr gv T w) : SQ W vb sb db rb qb k r z zr v vr gv T w.drew := h.keep (below_dr (Below.refl _ _))
theorem SQ.later (h : SQ W vb sb db rb qb k r z zr v vr gv T w) : SQ W vb sb db rb qb (k + 1) r z zr v vr gv T w := ⟨⟨h.sp.sw.later, h.sp.rv, h.sp.toks, h.sp.small, h.sp.below, h.sp.err, h.sp.eg⟩, h.ru⟩
theorem SQ.tail (h : SQ W vb sb db rb qb k r z zr v vr gv T w) : SQ W vb sb db rb qb k r z zr v vr gv T w ∧ w.cell? ⟨qb, 0, none⟩ = some (.pointer (some ⟨rb, 0, none⟩)) ∧ w.cell? ⟨rb, 0, none⟩ = some (.int .i64 zr.s.clock) ∧ w.cell? ⟨rb, 1, none⟩ = some (.int .i64 zr.s.next) ∧ w.cell? ⟨rb, 2, none⟩ = some vr := ⟨h, h.sp.tail.2⟩
theorem SQ.given {gv' : Value} {x : ByteArray} (h : SQ W vb sb db rb qb k r z zr v vr gv T w) (hg : w.grownBy w' gv.ownBlock) (ho : w'.ownsRow W.heap.size 9 1 gv' (T.length + 1) (T.map Value.string ++ [.string x])) (hx : x.size ≤ 100) : SQ W vb sb db rb qb k r z zr v vr gv' (T ++ [x]) w' :=
  ⟨h.sp.given hg ho hx, h.ru.grown hg (h.sp.toks.apart h.ru (by decide)).symm⟩
end
def SerRel (W : World) (n rb qb : Nat) (r : Ru) (stv sv gv i : Value) (w : World) : Prop := ∃ (j k sb vb : Nat) (z : SS) (v vr : Value) (T : List ByteArray), j ≤ n ∧ i = .int .i64 j ∧ stv = .pointer (some ⟨sb, 0, none⟩) ∧ sv = .pointer (some ⟨vb, 0, none⟩) ∧ k ≤ j ∧ T.length ≤ j ∧ SQ W vb sb (W.heap.size + 1) rb qb k r z z v vr gv T w
set_option maxHeartbeats 16000000 in
set_option maxRecDepth 100000 in
theorem serv_walk (W : World) (A : Option Addr) (g off cap : Nat) (E : List AskP) (r : Ru) (hr : ruB r = true) (hE : E.length ≤ 100) (hA : E ≠ [] → A = some ⟨g, off, none⟩) (hdos : E ≠ [] → ApsAt W g off E ∧ g < W.heap.size) (hEnv : Env W.heap.size W) (het : ErrType W) (htab : Tab15 W) (hs : ∀ d ∈ E, d.len ≤ 1000000000000000) :
    Calls Tryz.prog 5 #[.agg #[.int .i64 r.key, .int .i64 r.idle, .int .i64 r.life, .int .i64 r.access], .slice A E.length cap] W fun x w' => x = .returned (.bool true) ∧ Below W.heap.size W w' := by
  have heg := het.lt
  have htl := htab.lt
  have HA := Lib.hid hA
  have HSZ := Lib.hid hs
  have HD := Lib.hid hdos
  have HEN := Lib.hid hEnv
  have HET := Lib.hid het
  have HTB := Lib.hid htab
  have HNN := Lib.hid (fun w => svc_new_nil r w)
  have HNY := Lib.hid (fun sb db v w (h : SX W.heap.size sb db 0 newS v w) => svc_new_yes (r := r) h hr)
  have HRR := Lib.hid (fun w => ref_right r w)
  rw [hr] at HRR
  have HR := Lib.hid hr
  have HBN := Lib.hid (fun w h => bare_like 7 w h)
  rw [errV_n (by decide)] at HBN
  clear hA hdos hEnv het htab hs hr
  obtain ⟨ky, il, li, ac⟩ := r
  dsimp only at HNN HNY HRR ⊢
  have hal : Below W.heap.size W (W.alloc (.cells #[.int .i64 ky, .int .i64 il, .int .i64 li, .int .i64 ac] 28)) := (Below.refl _ _).alloc (Nat.le_refl _) _
  have h0 : DI W.heap.size (W.heap.size + 1) Dk.none_ 0 0 0 startS ((W.alloc (.cells #[.int .i64 ky, .int .i64 il, .int .i64 li, .int .i64 ac] 28)).alloc (.cells Tryz.zeroCells59 59)) := by
    have := DI.new (W := W.alloc (.cells #[.int .i64 ky, .int .i64 il, .int .i64 li, .int .i64 ac] 28)) (HEN.out.new (Nat.le_refl _) hal) hal.size
    rw [show (W.alloc (.cells #[.int .i64 ky, .int .i64 il, .int .i64 li, .int .i64 ac] 28)).heap.size = W.heap.size + 1 by simp] at this
    exact this
  have hal2 : Below W.heap.size W ((W.alloc (.cells #[.int .i64 ky, .int .i64 il, .int .i64 li, .int .i64 ac] 28)).alloc (.cells Tryz.zeroCells59 59)) := hal.alloc hal.size _
  have hr0 := (Blk.new W 28 #[.int .i64 ky, .int .i64 il, .int .i64 li, .int .i64 ac]).alloc (.cells Tryz.zeroCells59 59)
  have H0 := Lib.hid h0
  have HB0 := Lib.hid hal2
  have HR0 := Lib.hid hr0
  clear h0 hal hal2 hr0
  go_enter Tryz.func5, Tryz.ntmps5
  go_wp2_with fail
  go_at_call 17
  refine (sx_first H0.out).mono ?_
  rintro e w1 ⟨sb0, vs0, rfl, hsx, hsb, hb⟩
  have HS := Lib.hid hsx
  have HB1 := Lib.hid (below_2 HB0.out hb)
  have HR1 := Lib.hid (HR0.out.below' hb)
  clear hsx hb hsb H0 HR0
  obtain ⟨y0, y1, y2, y3⟩ := tok_cells HR1.out
  go_wp2_with fail
  go_at_call 18
  refine (HNN.out _).mono ?_
  rintro e w2 ⟨rfl, hb⟩
  have HS2 := Lib.hid (HS.out.keep hb)
  have HB2 := Lib.hid (below_2 HB1.out hb)
  have HR2 := Lib.hid (HR1.out.below' hb)
  clear hb HS HB1 HR1 y0 y1 y2 y3
  obtain ⟨y0, y1, y2, y3⟩ := tok_cells HR2.out
  rw [errV_n (show (7 : Int) ≠ 0 by decide)]
  go_wp2_with fail
  go_at_call 18
  refine (HNY.out _ _ _ _ HS2.out).mono ?_
  rintro e w3 ⟨vb0, rfl, hsw, hvb, hb⟩
  have HW3 := Lib.hid hsw
  have HB3 := Lib.hid (below_2 HB2.out hb)
  have HR3 := Lib.hid (HR2.out.below' hb)
  clear hsw hb hvb HS2 HB2 HR2 y0 y1 y2 y3
  go_wp2_with fail
  go_at_call 19
  refine (HBN.out _ (HET.out.below HB3.out heg)).mono ?_
  rintro e w4 ⟨rfl, hb⟩
  have HW4 := Lib.hid (HW3.out.keep hb)
  have HB4 := Lib.hid (below_2 HB3.out hb)
  have HR4 := Lib.hid (HR3.out.below' hb)
  clear hb HW3 HB3 HR3 HBN
  obtain ⟨y0, y1, y2, y3⟩ := tok_cells HR4.out
  go_wp2_with fail
  go_at_call 20
  refine (HRR.out _).mono ?_
  rintro e w5 ⟨rfl, hb⟩
  have HW5 := Lib.hid (HW4.out.keep hb)
  have HB5 := Lib.hid (below_2 HB4.out hb)
  have HR5 := Lib.hid (HR4.out.below' hb)
  clear hb HW4 HB4 HR4 HRR y0 y1 y2 y3
  obtain ⟨y0, y1, y2, y3⟩ := tok_cells HR5.out
  go_wp2_with fail
  have HWD := HW5.out.drew
  have HBD := below_dr HB5.out
  have HRD : Blk w5.drew W.heap.size 28 #[.int .i64 ky, .int .i64 il, .int .i64 li, .int .i64 ac] := HR5.out
  have HD0 : w5.drew.cell? ⟨W.heap.size, 0, none⟩ = some (.int .i64 ky) ∧ w5.drew.cell? ⟨W.heap.size, 1, none⟩ = some (.int .i64 il) ∧ w5.drew.cell? ⟨W.heap.size, 2, none⟩ = some (.int .i64 li) ∧ w5.drew.cell? ⟨W.heap.size, 3, none⟩ = some (.int .i64 ac) := ⟨HRD.cell 0, HRD.cell 1, HRD.cell 2, HRD.cell 3⟩
  clear y0 y1 y2 y3
  go_region_held3 (fun w' => w'.cell? ⟨W.heap.size, 0, none⟩ = some (.int .i64 ky) ∧ w'.cell? ⟨W.heap.size, 1, none⟩ = some (.int .i64 il) ∧ w'.cell? ⟨W.heap.size, 2, none⟩ = some (.int .i64 li) ∧ w'.cell? ⟨W.heap.size, 3, none⟩ = some (.int .i64 ac))
    (first
      | with_reducible assumption
      | with_reducible exact HD0)
    (first
      | (go_at_call 21; (with_reducible refine (new_store _).mono ?_); rintro x' w6 ⟨rb, rfl, hra, hrb, hb⟩
         have hw6 := HWD.keep hb
         have hb6 := below_2 HBD hb
         have hr6 := HRD.below' hb
         have hx6 : w6.cell? ⟨W.heap.size, 0, none⟩ = some (.int .i64 ky) ∧ w6.cell? ⟨W.heap.size, 1, none⟩ = some (.int .i64 il) ∧ w6.cell? ⟨W.heap.size, 2, none⟩ = some (.int .i64 li) ∧ w6.cell? ⟨W.heap.size, 3, none⟩ = some (.int .i64 ac) := ⟨hr6.cell 0, hr6.cell 1, hr6.cell 2, hr6.cell 3⟩
         have hr7 := hr6.alloc (.cells #[.pointer (some ⟨rb, 0, none⟩), .int .i64 ky, .int .i64 il, .int .i64 li, .int .i64 ac] 71)
         have hx7 : (w6.alloc (.cells #[.pointer (some ⟨rb, 0, none⟩), .int .i64 ky, .int .i64 il, .int .i64 li, .int .i64 ac] 71)).cell? ⟨W.heap.size, 0, none⟩ = some (.int .i64 ky) ∧ (w6.alloc (.cells #[.pointer (some ⟨rb, 0, none⟩), .int .i64 ky, .int .i64 il, .int .i64 li, .int .i64 ac] 71)).cell? ⟨W.heap.size, 1, none⟩ = some (.int .i64 il) ∧ (w6.alloc (.cells #[.pointer (some ⟨rb, 0, none⟩), .int .i64 ky, .int .i64 il, .int .i64 li, .int .i64 ac] 71)).cell? ⟨W.heap.size, 2, none⟩ = some (.int .i64 li) ∧ (w6.alloc (.cells #[.pointer (some ⟨rb, 0, none⟩), .int .i64 ky, .int .i64 il, .int .i64 li, .int .i64 ac] 71)).cell? ⟨W.heap.size, 3, none⟩ = some (.int .i64 ac) := ⟨hr7.cell 0, hr7.cell 1, hr7.cell 2, hr7.cell 3⟩))
  have HW6 := Lib.hid hw6
  have HB6 := Lib.hid hb6
  have HR6 := Lib.hid hr6
  have HRA := Lib.hid hra
  have hrb' : W.heap.size ≤ rb := Nat.le_trans HBD.size hrb
  clear HWD HBD HRD HD0 hb hw6 hb6 hr6 hx6 hr7 hx7 hra hrb HW5 HB5 HR5
  have hal := (Below.refl w6.heap.size w6).alloc (Nat.le_refl _) (.cells #[.pointer (some ⟨rb, 0, none⟩), .int .i64 ky, .int .i64 il, .int .i64 li, .int .i64 ac] 71)
  have HP7 := Lib.hid (show SP W vb0 sb0 (W.heap.size + 1) rb w6.heap.size 0 ⟨ky, il, li, ac⟩ newS newS vs0 (.slice none 0 0) (.slice none 0 0) [] (w6.alloc (.cells #[.pointer (some ⟨rb, 0, none⟩), .int .i64 ky, .int .i64 il, .int .i64 li, .int .i64 ac] 71)) from
    ⟨HW6.out.keep hal, ⟨Blk.new w6 _ _, HRA.out.below' hal, FRow.nil _ _, Nat.le_trans HB6.out.size hal.size, HEN.out.keep (below_2 HB6.out hal), HTB.out.below (below_2 HB6.out hal) htl, htl, hrb'⟩, TRow.nil _ _, fun t ht => by simp at ht, below_2 HB6.out hal, HET.out, heg⟩)
  have HR7 := Lib.hid (HR6.out.below' hal)
  clear hal HW6 HB6 HR6 HRA HEN HET HTB HNN
  go_wp2_with fail
  generalize w6.alloc (.cells #[.pointer (some ⟨rb, 0, none⟩), .int .i64 ky, .int .i64 il, .int .i64 li, .int .i64 ac] 71) = w7 at *
  generalize w6.heap.size = qb at *
  go_loopw [6, 10, 12, 13] (fun stv sv gv i wr => SerRel W E.length rb qb ⟨ky, il, li, ac⟩ stv sv gv i wr) (fun _ _ _ i _ => E.length - (intOf i).toNat)
  case atStart => exact ⟨0, 0, sb0, vb0, newS, vs0, _, [], Nat.zero_le _, rfl, rfl, rfl, Nat.le_refl _, Nat.le_refl _, ⟨HP7.out, HR7.out⟩⟩
  case round =>
    obtain ⟨j, k, sb, vb, z, v, vr, T, hj, rfl, rfl, rfl, hk, hT, hsp⟩ := hrel
    have HP := Lib.hid hsp
    clear hsp HP7
    by_cases hlt : j < E.length
    · have hne : E ≠ [] := by rintro rfl; simp at hlt
      obtain rfl := HA.out hne
      obtain ⟨ha, hg⟩ := HD.out hne
      obtain ⟨e, he⟩ : ∃ e, E[j]? = some e := ⟨_, List.getElem?_eq_getElem hlt⟩
      have hbig := HSZ.out e (List.mem_of_getElem? he)
      have h0 : (0 : Int) ≤ (j : Int) := by omega
      have h1 : (j : Int) < (E.length : Int) := by omega
      have hcl : ∀ q, q < 6 → wr.cell? ⟨g, off + j * 6 + q, none⟩ = (apCs e)[q]? := fun q hq => (HP.out.sp.below.cell (p := ⟨g, off + j * 6 + q, none⟩) hg).trans (ha j e he q hq)
      obtain ⟨wh, n, ti, cl, su, sc⟩ := e
      obtain ⟨d0, d1, d2, d3, d4, d5⟩ : wr.cell? ⟨g, off + j * 6, none⟩ = some (.int .i64 wh) ∧ wr.cell? ⟨g, off + j * 6 + 1, none⟩ = some (.int .i64 n) ∧ wr.cell? ⟨g, off + j * 6 + 2, none⟩ = some (.int .i64 ti) ∧ wr.cell? ⟨g, off + j * 6 + 3, none⟩ = some (.string cl) ∧ wr.cell? ⟨g, off + j * 6 + 4, none⟩ = some (.string su) ∧ wr.cell? ⟨g, off + j * 6 + 5, none⟩ = some (.string sc) := ⟨hcl 0 (by decide), hcl 1 (by decide), hcl 2 (by decide), hcl 3 (by decide), hcl 4 (by decide), hcl 5 (by decide)⟩
      obtain ⟨ga, gc, rfl⟩ := HP.out.sp.toks.slice
      have hal := (Below.refl wr.heap.size wr).alloc (Nat.le_refl _) (.cells #[.int .i64 wh, .int .i64 n, .int .i64 ti, .string cl, .string su, .string sc] 73)
      have H1 := Lib.hid (HP.out.keep hal)
      have HX1 := Lib.hid (Blk.new wr 73 #[.int .i64 wh, .int .i64 n, .int .i64 ti, .string cl, .string su, .string sc])
      unfold AskP.len at hbig
      dsimp only at hbig
      clear hcl he ha hne hal HP
      obtain ⟨-, q0, q1, q2, q3⟩ := SQ.tail H1.out
      by_cases hsz : cl.size + su.size + sc.size ≤ 300
      · have hd3 : decide (300 < (cl.size : Int) + su.size + sc.size) = false := decide_eq_false (by omega)
        iterate 109 (first | go_values | go_skip | go_guarded | go_step | go_upon | go_back)
        rename_i K1 aK1
        clear d0 d1 d2 d3 d4 d5 q0 q1 q2 q3 hd3
        generalize wr.alloc (.cells #[.int .i64 wh, .int .i64 n, .int .i64 ti, .string cl, .string su, .string sc] 73) = w1 at *
        generalize wr.heap.size = xb at *
        have J1 : ∀ (t : ByteArray), t.size ≤ 1000 → ∀ u4 u7 u16 u17 u18 u19 u20 u21 u22 u76 u77 u78 u79 u80 u81 u82 u83 u84 u85 u86 u87 u88 u89 u90 u91 u92 u93 u94 u95 u96 u97 u98 u99 u100 u101 u102 u103 u104 u105 u106 u107 u108 u109 u110 u111 u112 u113 u114 u115 u116 u117 u118 u119 u120 u121 u122 u123 u124 u125 u126 u127 u128 u129 u130 u131 u132 u133 u134 u135 u136 u137 u138 u139 u140 u141 u142 u143 u144 u145 u146 u147 u148 u149 u150 u151 u152 u153 u154 u155 u156 u157 u158 u159 u160 u161 u162 u163 u164 u165 u166 u167 u168 u169 u170 u171 u172 u173 u174 u175 u176 u177 u178 u179 u180 u181 u182 u183 u184 u185 u186 u187 u188 u189 u190 u191 u192 u193 u194 u195 u196 u197 u198 u199 u200 u201 u202 u203 u204 u205 u206 u207 u208 u209 u210 u211 u212 u213 u214 u215 u216 u217 u218 u219 u220 u221 u222 u223 u224 u225 u226 u227 u228 u229 u230 u231 u232 u233 u234 u235 u236 u237 u238 u239 u240 u241 u242 u243 u244 u245 u246 u247 u248 u249 u250 u251 u252 u253 u254 u255 u256 u257 u258 u259 u260 u261 u262 u263 u264 u265 u266 u267 u268 u269 u270 u271 u272 u273 u274 u275 u276 u277 u278 u279 u280 u281 u282 u283 u284 u285 u286 u287 u288 u289 u290 u291 u292 u293 u294 u295 u296 u297 u298 u299 u300 u301 u302 u303 u304 u305 u306 u307 u308 u309 u310 u311 : Value, K1 ⟨#[.agg #[.int .i64 ky, .int .i64 il, .int .i64 li, .int .i64 ac], .slice (some ⟨g, off, none⟩) E.length cap, .pointer (some ⟨W.heap.size, 0, none⟩), undef, u4, .pointer (some ⟨W.heap.size + 1, 0, none⟩), .pointer (some ⟨sb, 0, none⟩), u7, .pointer none, .iface 35 (.int .i64 7), .pointer (some ⟨vb, 0, none⟩), .pointer (some ⟨qb, 0, none⟩), .slice ga T.length gc, .int .i64 (j : Int), .pointer (some ⟨xb, 0, none⟩), .string t, u16, u17, u18, u19, u20, u21, u22, .slice (some ⟨g, off, none⟩) E.length cap, .int .i64 (E.length : Int), .bool (decide (100 < (E.length : Int))), .agg Tryz.zeroCells59, .pointer (some ⟨W.heap.size + 1, 0, none⟩), .tuple #[.pointer (some ⟨sb0, 0, none⟩), .nilIface], .pointer (some ⟨W.heap.size + 1, 0, none⟩), .tuple #[.pointer (some ⟨sb0, 0, none⟩), .nilIface], .pointer (some ⟨sb0, 0, none⟩), .nilIface, .nilIface, .bool false, .bool false, .pointer (some ⟨sb0, 0, none⟩), .bool false, .bool false, .tuple #[.pointer none, (.iface 35 (.int .i64 7))], .agg #[.int .i64 ky, .int .i64 il, .int .i64 li, .int .i64 ac], .tuple #[.pointer none, (.iface 35 (.int .i64 7))], .pointer none, .iface 35 (.int .i64 7), .tuple #[.pointer (some ⟨vb0, 0, none⟩), .nilIface], .pointer (some ⟨sb0, 0, none⟩), .agg #[.int .i64 ky, .int .i64 il, .int .i64 li, .int .i64 ac], .tuple #[.pointer (some ⟨vb0, 0, none⟩), .nilIface], .pointer (some ⟨vb0, 0, none⟩), .nilIface, .iface 35 (.int .i64 7), .bool true, .bool false, .bool false, .pointer none, .bool false, .bool false, .agg #[.int .i64 ky, .int .i64 il, .int .i64 li, .int .i64 ac], .bool true, .bool false, undef, undef, undef, undef, undef, undef, .nilIface, .bool false, .bool false, .pointer (some ⟨vb0, 0, none⟩), .bool false, .bool false, .pointer (some ⟨rb, 0, none⟩), .agg #[.int .i64 ky, .int .i64 il, .int .i64 li, .int .i64 ac], .agg #[.pointer (some ⟨rb, 0, none⟩), .int .i64 ky, .int .i64 il, .int .i64 li, .int .i64 ac], .pointer (some ⟨qb, 0, none⟩), u76, u77, u78, u79, u80, u81, u82, u83, u84, u85, u86, u87, u88, u89, u90, u91, u92, u93, u94, u95, u96, u97, u98, u99, u100, u101, u102, u103, u104, u105, u106, u107, u108, u109, u110, u111, u112, u113, u114, u115, u116, u117, u118, u119, u120, u121, u122, u123, u124, u125, u126, u127, u128, u129, u130, u131, u132, u133, u134, u135, u136, u137, u138, u139, u140, u141, u142, u143, u144, u145, u146, u147, u148, u149, u150, u151, u152, u153, u154, u155, u156, u157, u158, u159, u160, u161, u162, u163, u164, u165, u166, u167, u168, u169, u170, u171, u172, u173, u174, u175, u176, u177, u178, u179, u180, u181, u182, u183, u184, u185, u186, u187, u188, u189, u190, u191, u192, u193, u194, u195, u196, u197, u198, u199, u200, u201, u202, u203, u204, u205, u206, u207, u208, u209, u210, u211, u212, u213, u214, u215, u216, u217, u218, u219, u220, u221, u222, u223, u224, u225, u226, u227, u228, u229, u230, u231, u232, u233, u234, u235, u236, u237, u238, u239, u240, u241, u242, u243, u244, u245, u246, u247, u248, u249, u250, u251, u252, u253, u254, u255, u256, u257, u258, u259, u260, u261, u262, u263, u264, u265, u266, u267, u268, u269, u270, u271, u272, u273, u274, u275, u276, u277, u278, u279, u280, u281, u282, u283, u284, u285, u286, u287, u288, u289, u290, u291, u292, u293, u294, u295, u296, u297, u298, u299, u300, u301, u302, u303, u304, u305, u306, u307, u308, u309, u310, u311], []⟩ w1 := by
          intro t hT1 u4 u7 u16 u17 u18 u19 u20 u21 u22 u76 u77 u78 u79 u80 u81 u82 u83 u84 u85 u86 u87 u88 u89 u90 u91 u92 u93 u94 u95 u96 u97 u98 u99 u100 u101 u102 u103 u104 u105 u106 u107 u108 u109 u110 u111 u112 u113 u114 u115 u116 u117 u118 u119 u120 u121 u122 u123 u124 u125 u126 u127 u128 u129 u130 u131 u132 u133 u134 u135 u136 u137 u138 u139 u140 u141 u142 u143 u144 u145 u146 u147 u148 u149 u150 u151 u152 u153 u154 u155 u156 u157 u158 u159 u160 u161 u162 u163 u164 u165 u166 u167 u168 u169 u170 u171 u172 u173 u174 u175 u176 u177 u178 u179 u180 u181 u182 u183 u184 u185 u186 u187 u188 u189 u190 u191 u192 u193 u194 u195 u196 u197 u198 u199 u200 u201 u202 u203 u204 u205 u206 u207 u208 u209 u210 u211 u212 u213 u214 u215 u216 u217 u218 u219 u220 u221 u222 u223 u224 u225 u226 u227 u228 u229 u230 u231 u232 u233 u234 u235 u236 u237 u238 u239 u240 u241 u242 u243 u244 u245 u246 u247 u248 u249 u250 u251 u252 u253 u254 u255 u256 u257 u258 u259 u260 u261 u262 u263 u264 u265 u266 u267 u268 u269 u270 u271 u272 u273 u274 u275 u276 u277 u278 u279 u280 u281 u282 u283 u284 u285 u286 u287 u288 u289 u290 u291 u292 u293 u294 u295 u296 u297 u298 u299 u300 u301 u302 u303 u304 u305 u306 u307 u308 u309 u310 u311
          dsimp only
          have HTT := Lib.hid hT1
          clear hT1
          refine aK1 _ _ ?_
          clear aK1
          obtain ⟨x0, x1, x2, x3, x4, x5⟩ := six_cells HX1.out
          obtain ⟨-, q0, q1, q2, q3⟩ := SQ.tail H1.out
          iterate 20 (first | go_values | go_skip | go_guarded | go_step | go_upon | go_back)
          rename_i K2 aK2
          have J2 : ∀ (sb' vb' k' : Nat) (z' : SS) (v' vr' : Value) (G : ByteArray) (C : Int) (w9 : World), k' ≤ j + 1 → G.size ≤ 100 → SQ W vb' sb' (W.heap.size + 1) rb qb k' ⟨ky, il, li, ac⟩ z' z' v' vr' (.slice ga T.length gc) T w9 → ∀ u4 u14 u15 u19 u20 u21 u22 u76 u77 u78 u79 u80 u81 u82 u83 u84 u85 u86 u87 u88 u89 u90 u91 u92 u93 u94 u95 u96 u97 u98 u99 u100 u101 u102 u103 u104 u105 u106 u107 u108 u109 u110 u111 u112 u113 u114 u115 u116 u117 u118 u119 u120 u121 u122 u123 u124 u125 u126 u127 u128 u129 u130 u131 u132 u133 u134 u135 u136 u137 u138 u139 u140 u141 u142 u143 u144 u145 u146 u147 u148 u149 u150 u151 u152 u153 u154 u155 u156 u157 u158 u159 u160 u161 u162 u163 u164 u165 u166 u167 u168 u169 u170 u171 u172 u173 u174 u175 u176 u177 u178 u179 u180 u181 u182 u183 u184 u185 u186 u187 u188 u189 u190 u191 u192 u193 u194 u195 u196 u197 u198 u199 u200 u201 u202 u203 u204 u205 u206 u207 u208 u209 u210 u211 u212 u213 u214 u215 u216 u217 u218 u219 u220 u221 u222 u223 u224 u225 u226 u227 u228 u229 u230 u231 u232 u233 u234 u235 u236 u237 u238 u239 u240 u241 u242 u243 u244 u245 u246 u247 u248 u249 u250 u251 u252 u253 u254 u255 u256 u257 u258 u259 u260 u261 u262 u263 u264 u265 u266 u267 u268 u269 u270 u271 u272 u273 u274 u275 u276 u277 u278 u279 u280 u281 u282 u283 u284 u285 u286 u287 u288 u289 u290 u291 u292 u293 u294 u295 u296 u297 u298 u299 u300 u301 u302 u303 u304 u305 u306 u307 u308 u309 u310 u311 : Value, K2 ⟨#[.agg #[.int .i64 ky, .int .i64 il, .int .i64 li, .int .i64 ac], .slice (some ⟨g, off, none⟩) E.length cap, .pointer (some ⟨W.heap.size, 0, none⟩), undef, u4, .pointer (some ⟨W.heap.size + 1, 0, none⟩), .pointer (some ⟨sb', 0, none⟩), errV C, .pointer none, .iface 35 (.int .i64 7), .pointer (some ⟨vb', 0, none⟩), .pointer (some ⟨qb, 0, none⟩), .slice ga T.length gc, .int .i64 (j : Int), u14, u15, .string G, .string G, .int .i64 C, u19, u20, u21, u22, .slice (some ⟨g, off, none⟩) E.length cap, .int .i64 (E.length : Int), .bool (decide (100 < (E.length : Int))), .agg Tryz.zeroCells59, .pointer (some ⟨W.heap.size + 1, 0, none⟩), .tuple #[.pointer (some ⟨sb0, 0, none⟩), .nilIface], .pointer (some ⟨W.heap.size + 1, 0, none⟩), .tuple #[.pointer (some ⟨sb0, 0, none⟩), .nilIface], .pointer (some ⟨sb0, 0, none⟩), .nilIface, .nilIface, .bool false, .bool false, .pointer (some ⟨sb0, 0, none⟩), .bool false, .bool false, .tuple #[.pointer none, (.iface 35 (.int .i64 7))], .agg #[.int .i64 ky, .int .i64 il, .int .i64 li, .int .i64 ac], .tuple #[.pointer none, (.iface 35 (.int .i64 7))], .pointer none, .iface 35 (.int .i64 7), .tuple #[.pointer (some ⟨vb0, 0, none⟩), .nilIface], .pointer (some ⟨sb0, 0, none⟩), .agg #[.int .i64 ky, .int .i64 il, .int .i64 li, .int .i64 ac], .tuple #[.pointer (some ⟨vb0, 0, none⟩), .nilIface], .pointer (some ⟨vb0, 0, none⟩), .nilIface, .iface 35 (.int .i64 7), .bool true, .bool false, .bool false, .pointer none, .bool false, .bool false, .agg #[.int .i64 ky, .int .i64 il, .int .i64 li, .int .i64 ac], .bool true, .bool false, undef, undef, undef, undef, undef, undef, .nilIface, .bool false, .bool false, .pointer (some ⟨vb0, 0, none⟩), .bool false, .bool false, .pointer (some ⟨rb, 0, none⟩), .agg #[.int .i64 ky, .int .i64 il, .int .i64 li, .int .i64 ac], .agg #[.pointer (some ⟨rb, 0, none⟩), .int .i64 ky, .int .i64 il, .int .i64 li, .int .i64 ac], .pointer (some ⟨qb, 0, none⟩), u76, u77, u78, u79, u80, u81, u82, u83, u84, u85, u86, u87, u88, u89, u90, u91, u92, u93, u94, u95, u96, u97, u98, u99, u100, u101, u102, u103, u104, u105, u106, u107, u108, u109, u110, u111, u112, u113, u114, u115, u116, u117, u118, u119, u120, u121, u122, u123, u124, u125, u126, u127, u128, u129, u130, u131, u132, u133, u134, u135, u136, u137, u138, u139, u140, u141, u142, u143, u144, u145, u146, u147, u148, u149, u150, u151, u152, u153, u154, u155, u156, u157, u158, u159, u160, u161, u162, u163, u164, u165, u166, u167, u168, u169, u170, u171, u172, u173, u174, u175, u176, u177, u178, u179, u180, u181, u182, u183, u184, u185, u186, u187, u188, u189, u190, u191, u192, u193, u194, u195, u196, u197, u198, u199, u200, u201, u202, u203, u204, u205, u206, u207, u208, u209, u210, u211, u212, u213, u214, u215, u216, u217, u218, u219, u220, u221, u222, u223, u224, u225, u226, u227, u228, u229, u230, u231, u232, u233, u234, u235, u236, u237, u238, u239, u240, u241, u242, u243, u244, u245, u246, u247, u248, u249, u250, u251, u252, u253, u254, u255, u256, u257, u258, u259, u260, u261, u262, u263, u264, u265, u266, u267, u268, u269, u270, u271, u272, u273, u274, u275, u276, u277, u278, u279, u280, u281, u282, u283, u284, u285, u286, u287, u288, u289, u290, u291, u292, u293, u294, u295, u296, u297, u298, u299, u300, u301, u302, u303, u304, u305, u306, u307, u308, u309, u310, u311], []⟩ w9 := by as_aux_lemma =>
            intro sb' vb' k' z' v' vr' G C w9 hk9 hG h9 u4 u14 u15 u19 u20 u21 u22 u76 u77 u78 u79 u80 u81 u82 u83 u84 u85 u86 u87 u88 u89 u90 u91 u92 u93 u94 u95 u96 u97 u98 u99 u100 u101 u102 u103 u104 u105 u106 u107 u108 u109 u110 u111 u112 u113 u114 u115 u116 u117 u118 u119 u120 u121 u122 u123 u124 u125 u126 u127 u128 u129 u130 u131 u132 u133 u134 u135 u136 u137 u138 u139 u140 u141 u142 u143 u144 u145 u146 u147 u148 u149 u150 u151 u152 u153 u154 u155 u156 u157 u158 u159 u160 u161 u162 u163 u164 u165 u166 u167 u168 u169 u170 u171 u172 u173 u174 u175 u176 u177 u178 u179 u180 u181 u182 u183 u184 u185 u186 u187 u188 u189 u190 u191 u192 u193 u194 u195 u196 u197 u198 u199 u200 u201 u202 u203 u204 u205 u206 u207 u208 u209 u210 u211 u212 u213 u214 u215 u216 u217 u218 u219 u220 u221 u222 u223 u224 u225 u226 u227 u228 u229 u230 u231 u232 u233 u234 u235 u236 u237 u238 u239 u240 u241 u242 u243 u244 u245 u246 u247 u248 u249 u250 u251 u252 u253 u254 u255 u256 u257 u258 u259 u260 u261 u262 u263 u264 u265 u266 u267 u268 u269 u270 u271 u272 u273 u274 u275 u276 u277 u278 u279 u280 u281 u282 u283 u284 u285 u286 u287 u288 u289 u290 u291 u292 u293 u294 u295 u296 u297 u298 u299 u300 u301 u302 u303 u304 u305 u306 u307 u308 u309 u310 u311
            dsimp only
            have H9 := Lib.hid h9
            have HGS := Lib.hid hG
            clear h9 hG
            refine aK2 _ _ ?_
            clear aK2

            obtain ⟨ra, rc, hrv⟩ := H9.out.sp.rv.rr.slice
            subst hrv
            have HD9 := SQ.tail H9.out.drew
            have HT1 := Lib.hid (fun w (h : SQ W vb' sb' (W.heap.size + 1) rb qb k' ⟨ky, il, li, ac⟩ z' z' v' (.slice ra z'.s.fams.length rc) (.slice ga T.length gc) T w) => h.sp.state)
            have HSA := Lib.hid (fun w a1 c1 B' (h : SQ W vb' sb' (W.heap.size + 1) rb qb k' ⟨ky, il, li, ac⟩ z' z' v' (.slice ra z'.s.fams.length rc) (.slice ga T.length gc) T w) hr => h.sp.same (a1 := a1) (c1 := c1) (B' := B') hr)
            have HBR := Lib.hid (fun w (h : SQ W vb' sb' (W.heap.size + 1) rb qb k' ⟨ky, il, li, ac⟩ z' z' v' (.slice ra z'.s.fams.length rc) (.slice ga T.length gc) T w) => bare_like C w h.sp.et)
            have hlen9 := H9.out.sp.sw.sx.fit.len

            unfold GotAs at HT1
            have hgg : (G.toList == G.toList) = true := by simp
            clear H9
            go_wp2_with fail
            go_region_held3 (fun w' => SQ W vb' sb' (W.heap.size + 1) rb qb k' ⟨ky, il, li, ac⟩ z' z' v' (.slice ra z'.s.fams.length rc) (.slice ga T.length gc) T w' ∧ w'.cell? ⟨qb, 0, none⟩ = some (.pointer (some ⟨rb, 0, none⟩)) ∧ w'.cell? ⟨rb, 0, none⟩ = some (.int .i64 z'.s.clock) ∧ w'.cell? ⟨rb, 1, none⟩ = some (.int .i64 z'.s.next) ∧ w'.cell? ⟨rb, 2, none⟩ = some (.slice ra z'.s.fams.length rc))
              (first
                | with_reducible assumption
                | with_reducible exact HD9
                | with_reducible exact SQ.tail (SQ.keep (And.left (by assumption)) (by assumption)))
              (first
                | (go_at_call 19; (with_reducible refine (HBR.out _ (And.left (by assumption))).mono ?_); rintro x' w11 ⟨rfl, hb11⟩)
                | (go_at_call 14; (with_reducible refine (HT1.out _ (And.left (by assumption))).mono ?_); rintro x' w12 ⟨a1, c1, rfl, hr1, hb12⟩)
                | (go_at_call 15; (with_reducible refine (HSA.out _ _ _ _ (And.left (by assumption)) hr1).mono ?_); rintro x' w13 ⟨q9, rfl, hq9, hb13⟩; obtain rfl := hq9 trivial
                   have hfin := SQ.keep (show SQ W vb' sb' (W.heap.size + 1) rb qb k' ⟨ky, il, li, ac⟩ z' z' v' (.slice ra z'.s.fams.length rc) (.slice ga T.length gc) T w12 from And.left (by assumption)) hb13))
            have HF := Lib.hid hfin
            clear hfin hb11 hb12 hb13 hr1 HD9

            rcases hge : G.toList.isEmpty with _ | _
            · obtain ⟨i0, hii, hz0, hz1, hz2⟩ := info_parts strInfo
              have hrow : w13.ownsRow W.heap.size 9 1 (.slice ga T.length gc) T.length (T.map Value.string) := HF.out.sp.toks
              have hWu := HF.out.sp.below.size
              have HA1 := Lib.hid (HF.out.keep ((Below.refl w13.heap.size w13).alloc (Nat.le_refl _) (.cells #[.string G] 9)))
              go_wp2_with
                (at_builtin; refine wpList_append_own _ rfl _ _ 48 rfl W.heap.size 9 i0 (.string ByteArray.empty) 1 16 Tryz.underlying48 hii hz0 hz1 hz2 rfl (by decide) _ _ _ rfl (hrow.alloc _) ⟨w13.heap.size, 0, none⟩ 1 1 [.string G] rfl rfl (cell_one_new _ _ _) (fun x hx => by simp at hx; subst hx; rfl) (by unfold maxLen; omega) (by omega) (by simp; omega) ?_; intro v' wn hown hgrow hnil
                 have HO := Lib.hid hown
                 have HG := Lib.hid hgrow
                 obtain ⟨xa, xn, xc, rfl⟩ := own_slice_ hown
                 clear hown hgrow hnil hrow)
              have HE := Lib.hid (HA1.out.given HG.out HO.out HGS.out)
              go_roundw
              case rel => exact ⟨j + 1, k', sb', vb', z', v', _, T ++ [G], by omega, by go_num, rfl, rfl, by omega, by rw [List.length_append]; show T.length + 1 ≤ _; omega, HE.out⟩
              case measure => simp [intOf]; omega
            · go_wp2_with fail
              go_roundw
              case rel => exact ⟨j + 1, k', sb', vb', z', v', _, T, by omega, by go_num, rfl, rfl, by omega, by omega, HF.out⟩
              case measure => simp [intOf]; omega
          have HJ2 := Lib.hid J2
          clear J2 aK2
          go_wp2_with fail
          · as_aux_lemma =>
              have HGSX := Lib.hid (show (doPlan noneS z (grantP ⟨ky, il, li, ac⟩ z.s cl su sc)).2.1.size ≤ 100 from (grant_law H1.out.sp.sw.sx.fit cl su sc).2)
              have HRC := Lib.hid (fun w (h : SQ W vb sb (W.heap.size + 1) rb qb k ⟨ky, il, li, ac⟩ z z v vr (.slice ga T.length gc) T w) => h.sp.rgrant (h.sp.rz (by omega)) (cl := cl) (su := su) (sc := sc) (by omega) (by omega) (by omega))
              have HSC := Lib.hid (fun zr vr w (h : SQ W vb sb (W.heap.size + 1) rb qb k ⟨ky, il, li, ac⟩ z zr v vr (.slice ga T.length gc) T w) => h.sp.sgrant (by omega) (cl := cl) (su := su) (sc := sc) (by omega) (by omega) (by omega))
              generalize doPlan noneS z (grantP ⟨ky, il, li, ac⟩ z.s cl su sc) = R at *
              obtain ⟨z9, got, code⟩ := R
              dsimp only at HRC HSC HGSX
              have HGS := HGSX
              unfold RTold at HRC
              unfold STold at HSC
              dsimp only at HRC HSC
              go_at_call 22
              refine (HRC.out _ H1.out).mono ?_
              rintro e w2 ⟨rfl, ⟨vr2, h2⟩, hst⟩
              dsimp only
              have H2 := Lib.hid (show SQ W vb sb (W.heap.size + 1) rb qb k ⟨ky, il, li, ac⟩ z z9 v vr2 (.slice ga T.length gc) T w2 from ⟨h2, hst _ _ _ H1.out.ru (by decide) (by decide) (by decide)⟩)
              have HX2 := Lib.hid (hst _ _ _ HX1.out (by decide) (by decide) (by decide))
              clear h2 hst H1 HX1 x0 x1 x2 x3 x4 x5 q0 q1 q2 q3 HRC
              obtain ⟨x0, x1, x2, x3, x4, x5⟩ := six_cells HX2.out
              go_wp2_with fail
              go_at_call 9
              refine (HSC.out _ _ _ H2.out).mono ?_
              rintro e w9 ⟨rfl, ⟨v9, h9⟩, hst⟩
              dsimp only
              have H9 := Lib.hid (show SQ W vb sb (W.heap.size + 1) rb qb (k + 1) ⟨ky, il, li, ac⟩ z9 z9 v9 vr2 (.slice ga T.length gc) T w9 from ⟨h9, hst _ _ _ H2.out.ru (by decide) (by decide) (by decide)⟩)
              clear h9 hst H2 HX2 x0 x1 x2 x3 x4 x5 HSC
              go_wp2_with fail

              apply (HJ2.out sb vb (k + 1) z9 v9 vr2 got code _ (by omega) HGS.out H9.out)
          · as_aux_lemma =>
              have HGSX := Lib.hid (show (doPlan noneS z (rotateP ⟨ky, il, li, ac⟩ z.s t su sc)).2.1.size ≤ 100 from (rotate_law (KnOk.none_ ⟨ky, il, li, ac⟩ z.s) H1.out.sp.sw.sx.fit t su sc).size)
              have HRC := Lib.hid (fun w (h : SQ W vb sb (W.heap.size + 1) rb qb k ⟨ky, il, li, ac⟩ z z v vr (.slice ga T.length gc) T w) => h.sp.rrotate (h.sp.rz (by omega)) (t := t) (q := su) (sc := sc) HTT.out (by omega) (by omega))
              have HSC := Lib.hid (fun zr vr w (h : SQ W vb sb (W.heap.size + 1) rb qb k ⟨ky, il, li, ac⟩ z zr v vr (.slice ga T.length gc) T w) => h.sp.srotate (by omega) (t := t) (q := su) (sc := sc) HTT.out (by omega) (by omega))
              generalize doPlan noneS z (rotateP ⟨ky, il, li, ac⟩ z.s t su sc) = R at *
              obtain ⟨z9, got, code⟩ := R
              dsimp only at HRC HSC HGSX
              have HGS := HGSX
              unfold RTold at HRC
              unfold STold at HSC
              dsimp only at HRC HSC
              go_at_call 23
              refine (HRC.out _ H1.out).mono ?_
              rintro e w2 ⟨rfl, ⟨vr2, h2⟩, hst⟩
              dsimp only
              have H2 := Lib.hid (show SQ W vb sb (W.heap.size + 1) rb qb k ⟨ky, il, li, ac⟩ z z9 v vr2 (.slice ga T.length gc) T w2 from ⟨h2, hst _ _ _ H1.out.ru (by decide) (by decide) (by decide)⟩)
              have HX2 := Lib.hid (hst _ _ _ HX1.out (by decide) (by decide) (by decide))
              clear h2 hst H1 HX1 x0 x1 x2 x3 x4 x5 q0 q1 q2 q3 HRC
              obtain ⟨x0, x1, x2, x3, x4, x5⟩ := six_cells HX2.out
              go_wp2_with fail
              go_at_call 11
              refine (HSC.out _ _ _ H2.out).mono ?_
              rintro e w9 ⟨rfl, ⟨v9, h9⟩, hst⟩
              dsimp only
              have H9 := Lib.hid (show SQ W vb sb (W.heap.size + 1) rb qb (k + 1) ⟨ky, il, li, ac⟩ z9 z9 v9 vr2 (.slice ga T.length gc) T w9 from ⟨h9, hst _ _ _ H2.out.ru (by decide) (by decide) (by decide)⟩)
              clear h9 hst H2 HX2 x0 x1 x2 x3 x4 x5 HSC
              go_wp2_with fail

              apply (HJ2.out sb vb (k + 1) z9 v9 vr2 got code _ (by omega) HGS.out H9.out)
          · as_aux_lemma =>
              have HGSX := Lib.hid (mint_law (KnOk.none_ ⟨ky, il, li, ac⟩ z.s) H1.out.sp.sw.sx.fit H1.out.sp.sw.right t).1
              have HRC := Lib.hid (fun w (h : SQ W vb sb (W.heap.size + 1) rb qb k ⟨ky, il, li, ac⟩ z z v vr (.slice ga T.length gc) T w) => h.sp.rmint (h.sp.rz (by omega)) (t := t) HTT.out)
              have HSC := Lib.hid (fun w (h : SQ W vb sb (W.heap.size + 1) rb qb k ⟨ky, il, li, ac⟩ z z v vr (.slice ga T.length gc) T w) => h.sp.smint (t := t) HTT.out)
              generalize mintP ⟨ky, il, li, ac⟩ z.s t = R at *
              obtain ⟨got, code⟩ := R
              dsimp only at HRC HSC HGSX
              have HGS := HGSX
              go_at_call 24
              refine (HRC.out _ H1.out).mono ?_
              rintro e w2 ⟨rfl, hb⟩
              dsimp only
              have H2 := Lib.hid (H1.out.keep hb)
              clear hb H1 HX1 x0 x1 x2 x3 x4 x5 q0 q1 q2 q3 HRC
              go_wp2_with fail
              go_at_call 25
              refine (HSC.out _ H2.out).mono ?_
              rintro e w9 ⟨rfl, hb⟩
              dsimp only
              have H9 := Lib.hid (H2.out.keep hb).later
              clear hb H2 HSC
              go_wp2_with fail

              apply (HJ2.out sb vb (k + 1) z v vr got code _ (by omega) HGS.out H9.out)
          · as_aux_lemma =>
              have HRC := Lib.hid (fun w (h : SQ W vb sb (W.heap.size + 1) rb qb k ⟨ky, il, li, ac⟩ z z v vr (.slice ga T.length gc) T w) => h.sp.rshow (h.sp.rz (by omega)) (t := t) HTT.out)
              have HSC := Lib.hid (fun w (h : SQ W vb sb (W.heap.size + 1) rb qb k ⟨ky, il, li, ac⟩ z z v vr (.slice ga T.length gc) T w) => h.sp.sshow (t := t) HTT.out)
              generalize showP ⟨ky, il, li, ac⟩ z.s t = R at *
              obtain ⟨fm, code⟩ := R
              dsimp only at HRC HSC
              obtain ⟨pq, hpq, hpe⟩ := fam_neq fm fm
              obtain rfl := hpe rfl
              clear hpe
              obtain ⟨fi, fcl, fsu, fsc, fge, fma, fus, fre, fde⟩ := fm
              unfold famVal famCs at HRC HSC hpq
              dsimp only at HRC HSC hpq
              have hal : Below w1.heap.size w1 ((w1.alloc (.cells #[.int .i64 0, .string ⟨#[]⟩, .string ⟨#[]⟩, .string ⟨#[]⟩, .int .i64 0, .int .i64 0, .int .i64 0, .string ⟨#[]⟩, .bool false] 79)).alloc (.cells #[.int .i64 0, .string ⟨#[]⟩, .string ⟨#[]⟩, .string ⟨#[]⟩, .int .i64 0, .int .i64 0, .int .i64 0, .string ⟨#[]⟩, .bool false] 79)) := alloc2 w1 (.cells #[.int .i64 0, .string ⟨#[]⟩, .string ⟨#[]⟩, .string ⟨#[]⟩, .int .i64 0, .int .i64 0, .int .i64 0, .string ⟨#[]⟩, .bool false] 79) (.cells #[.int .i64 0, .string ⟨#[]⟩, .string ⟨#[]⟩, .string ⟨#[]⟩, .int .i64 0, .int .i64 0, .int .i64 0, .string ⟨#[]⟩, .bool false] 79)
              have hf : Blk ((w1.alloc (.cells #[.int .i64 0, .string ⟨#[]⟩, .string ⟨#[]⟩, .string ⟨#[]⟩, .int .i64 0, .int .i64 0, .int .i64 0, .string ⟨#[]⟩, .bool false] 79)).alloc (.cells #[.int .i64 0, .string ⟨#[]⟩, .string ⟨#[]⟩, .string ⟨#[]⟩, .int .i64 0, .int .i64 0, .int .i64 0, .string ⟨#[]⟩, .bool false] 79)) w1.heap.size 79 (famCs Fam.zero) := (Blk.new w1 79 (famCs Fam.zero)).alloc (.cells #[.int .i64 0, .string ⟨#[]⟩, .string ⟨#[]⟩, .string ⟨#[]⟩, .int .i64 0, .int .i64 0, .int .i64 0, .string ⟨#[]⟩, .bool false] 79)
              have hg : Blk ((w1.alloc (.cells #[.int .i64 0, .string ⟨#[]⟩, .string ⟨#[]⟩, .string ⟨#[]⟩, .int .i64 0, .int .i64 0, .int .i64 0, .string ⟨#[]⟩, .bool false] 79)).alloc (.cells #[.int .i64 0, .string ⟨#[]⟩, .string ⟨#[]⟩, .string ⟨#[]⟩, .int .i64 0, .int .i64 0, .int .i64 0, .string ⟨#[]⟩, .bool false] 79)) (w1.heap.size + 1) 79 (famCs Fam.zero) := by
                have := Blk.new (w1.alloc (.cells #[.int .i64 0, .string ⟨#[]⟩, .string ⟨#[]⟩, .string ⟨#[]⟩, .int .i64 0, .int .i64 0, .int .i64 0, .string ⟨#[]⟩, .bool false] 79)) 79 (famCs Fam.zero)
                rw [show (w1.alloc (.cells #[.int .i64 0, .string ⟨#[]⟩, .string ⟨#[]⟩, .string ⟨#[]⟩, .int .i64 0, .int .i64 0, .int .i64 0, .string ⟨#[]⟩, .bool false] 79)).heap.size = w1.heap.size + 1 by simp] at this
                exact this
              have HA := Lib.hid hal
              have HF := Lib.hid hf
              have HG := Lib.hid hg
              clear hal hf hg HX1 x0 x1 x2 x3 x4 x5 q0 q1 q2 q3
              generalize (w1.alloc (.cells #[.int .i64 0, .string ⟨#[]⟩, .string ⟨#[]⟩, .string ⟨#[]⟩, .int .i64 0, .int .i64 0, .int .i64 0, .string ⟨#[]⟩, .bool false] 79)).alloc (.cells #[.int .i64 0, .string ⟨#[]⟩, .string ⟨#[]⟩, .string ⟨#[]⟩, .int .i64 0, .int .i64 0, .int .i64 0, .string ⟨#[]⟩, .bool false] 79) = wa at *
              go_at_call 26
              refine (HRC.out _ (H1.out.keep HA.out)).mono ?_
              rintro e w2 ⟨rfl, hb⟩
              dsimp only
              have HA2 := Lib.hid (below_2 HA.out hb)
              have HF2 := Lib.hid (HF.out.below' hb)
              have HG2 := Lib.hid (HG.out.below' hb)
              obtain ⟨w3, -, e3, n1, n2⟩ := row_stored (P := Tryz.prog) (ty := 79) (cells := #[.int .i64 fi, .string fcl, .string fsu, .string fsc, .int .i64 fge, .int .i64 fma, .int .i64 fus, .string fre, .bool fde]) HF2.out (by kernel_rfl) rfl (by simp [Value.oneCell'])
              have H109 := Lib.hid n1
              have HA3 := Lib.hid (HA2.out.grown n2 HA2.out.size (fun i hi => by cases hi; exact Nat.le_refl _))
              have HG3 := Lib.hid (HG2.out.grown n2 (by simp))
              have HE3 := Lib.hid e3
              clear n1 n2 hb e3 HA HF HG HRC HA2 HG2
              iterate 10 (first | go_values | go_skip | go_guarded | go_step | go_upon | go_back)
              refine wpList_plain rfl fun _ hK => wp_store_row 79 _ _ rfl w1.heap.size #[.int .i64 fi, .string fcl, .string fsu, .string fsc, .int .i64 fge, .int .i64 fma, .int .i64 fus, .string fre, .bool fde] rfl rfl 79 _ HF2.out (by kernel_rfl) rfl (by simp [Value.oneCell']) (hK _ _ ?_)
              rw [← HE3.out]
              clear HE3 HF2
              go_wp2_with fail
              go_at_call 27
              refine (HSC.out _ (H1.out.keep HA3.out)).mono ?_
              rintro e w4 ⟨rfl, hb⟩
              dsimp only
              have HA4 := Lib.hid (below_2 HA3.out hb)
              have HF4 := Lib.hid (H109.out.below' hb)
              have HG4 := Lib.hid (HG3.out.below' hb)
              obtain ⟨w5, -, e5, n1, n2⟩ := row_stored (P := Tryz.prog) (ty := 79) (cells := #[.int .i64 fi, .string fcl, .string fsu, .string fsc, .int .i64 fge, .int .i64 fma, .int .i64 fus, .string fre, .bool fde]) HG4.out (by kernel_rfl) rfl (by simp [Value.oneCell'])
              have H9 := Lib.hid (H1.out.keep (HA4.out.grown n2 HA4.out.size (fun i hi => by cases hi; exact Nat.le_succ _))).later
              have HF5 := Lib.hid (HF4.out.grown n2 (by simp))
              have HG5 := Lib.hid n1
              have HE5 := Lib.hid e5
              clear n1 n2 hb e5 HA3 H109 HG3 HSC HA4 HF4 H1
              iterate 10 (first | go_values | go_skip | go_guarded | go_step | go_upon | go_back)
              refine wpList_plain rfl fun _ hK => wp_store_row 79 _ _ rfl (w1.heap.size + 1) #[.int .i64 fi, .string fcl, .string fsu, .string fsc, .int .i64 fge, .int .i64 fma, .int .i64 fus, .string fre, .bool fde] rfl rfl 79 _ HG4.out (by kernel_rfl) rfl (by simp [Value.oneCell']) (hK _ _ ?_)
              rw [← HE5.out]
              clear HE5 HG4
              obtain ⟨y0, y1, y2, y3, y4, y5, y6, y7, y8⟩ := fam_cells HF5.out
              obtain ⟨z0, z1, z2, z3, z4, z5, z6, z7, z8⟩ := fam_cells HG5.out
              go_wp2_with fail

              apply (HJ2.out sb vb (k + 1) z v vr ⟨#[]⟩ code _ (by omega) (by decide) H9.out)
          · as_aux_lemma =>
              have HRC := Lib.hid (fun w (h : SQ W vb sb (W.heap.size + 1) rb qb k ⟨ky, il, li, ac⟩ z z v vr (.slice ga T.length gc) T w) => h.sp.rkill (h.sp.rz (by omega)) n)
              have HSC := Lib.hid (fun zr vr w (h : SQ W vb sb (W.heap.size + 1) rb qb k ⟨ky, il, li, ac⟩ z zr v vr (.slice ga T.length gc) T w) => h.sp.skill (by omega) n)
              generalize doPlan () z (killP z.s n) = R at *
              obtain ⟨z9, got, code⟩ := R
              unfold RToldU at HRC
              unfold SToldU at HSC
              dsimp only at HRC HSC
              go_at_call 28
              refine (HRC.out _ H1.out).mono ?_
              rintro e w2 ⟨rfl, ⟨vr2, h2⟩, hst⟩
              dsimp only
              have H2 := Lib.hid (show SQ W vb sb (W.heap.size + 1) rb qb k ⟨ky, il, li, ac⟩ z z9 v vr2 (.slice ga T.length gc) T w2 from ⟨h2, hst _ _ _ H1.out.ru (by decide) (by decide) (by decide)⟩)
              have HX2 := Lib.hid (hst _ _ _ HX1.out (by decide) (by decide) (by decide))
              clear h2 hst H1 HX1 x0 x1 x2 x3 x4 x5 q0 q1 q2 q3 HRC
              obtain ⟨x0, x1, x2, x3, x4, x5⟩ := six_cells HX2.out
              go_wp2_with fail
              go_at_call 29
              refine (HSC.out _ _ _ H2.out).mono ?_
              rintro e w9 ⟨rfl, ⟨v9, h9⟩, hst⟩
              dsimp only
              have H9 := Lib.hid (show SQ W vb sb (W.heap.size + 1) rb qb (k + 1) ⟨ky, il, li, ac⟩ z9 z9 v9 vr2 (.slice ga T.length gc) T w9 from ⟨h9, hst _ _ _ H2.out.ru (by decide) (by decide) (by decide)⟩)
              clear h9 hst H2 HX2 x0 x1 x2 x3 x4 x5 HSC
              go_wp2_with fail

              apply (HJ2.out sb vb (k + 1) z9 v9 vr2 ⟨#[]⟩ code _ (by omega) (by decide) H9.out)
          · as_aux_lemma =>
              have HRC := Lib.hid (fun w (h : SQ W vb sb (W.heap.size + 1) rb qb k ⟨ky, il, li, ac⟩ z z v vr (.slice ga T.length gc) T w) => h.sp.rtick (h.sp.rz (by omega)) n)
              have HSC := Lib.hid (fun zr vr w (h : SQ W vb sb (W.heap.size + 1) rb qb k ⟨ky, il, li, ac⟩ z zr v vr (.slice ga T.length gc) T w) => h.sp.stick (by omega) n)
              generalize doPlan () z (tickP z.s n) = R at *
              obtain ⟨z9, got, code⟩ := R
              unfold RToldU at HRC
              unfold SToldU at HSC
              dsimp only at HRC HSC
              go_at_call 30
              refine (HRC.out _ H1.out).mono ?_
              rintro e w2 ⟨rfl, ⟨vr2, h2⟩, hst⟩
              dsimp only
              have H2 := Lib.hid (show SQ W vb sb (W.heap.size + 1) rb qb k ⟨ky, il, li, ac⟩ z z9 v vr2 (.slice ga T.length gc) T w2 from ⟨h2, hst _ _ _ H1.out.ru (by decide) (by decide) (by decide)⟩)
              have HX2 := Lib.hid (hst _ _ _ HX1.out (by decide) (by decide) (by decide))
              clear h2 hst H1 HX1 x0 x1 x2 x3 x4 x5 q0 q1 q2 q3 HRC
              obtain ⟨x0, x1, x2, x3, x4, x5⟩ := six_cells HX2.out
              go_wp2_with fail
              go_at_call 10
              refine (HSC.out _ _ _ H2.out).mono ?_
              rintro e w9 ⟨rfl, ⟨v9, h9⟩, hst⟩
              dsimp only
              have H9 := Lib.hid (show SQ W vb sb (W.heap.size + 1) rb qb (k + 1) ⟨ky, il, li, ac⟩ z9 z9 v9 vr2 (.slice ga T.length gc) T w9 from ⟨h9, hst _ _ _ H2.out.ru (by decide) (by decide) (by decide)⟩)
              clear h9 hst H2 HX2 x0 x1 x2 x3 x4 x5 HSC
              go_wp2_with fail

              apply (HJ2.out sb vb (k + 1) z9 v9 vr2 ⟨#[]⟩ code _ (by omega) (by decide) H9.out)
          · as_aux_lemma =>
              have HRC := Lib.hid (fun w (h : SQ W vb sb (W.heap.size + 1) rb qb k ⟨ky, il, li, ac⟩ z z v vr (.slice ga T.length gc) T w) => h.sp.rsweep (h.sp.rz (by omega)))
              have HSC := Lib.hid (fun zr vr w (h : SQ W vb sb (W.heap.size + 1) rb qb k ⟨ky, il, li, ac⟩ z zr v vr (.slice ga T.length gc) T w) => h.sp.ssweep (by omega))
              generalize doPlan 0 z (sweepP ⟨ky, il, li, ac⟩ z.s) = R at *
              obtain ⟨z9, got, code⟩ := R
              unfold RToldI at HRC
              unfold SToldI at HSC
              dsimp only at HRC HSC
              have hne : (got != got) = false := by simp
              go_at_call 31
              refine (HRC.out _ H1.out).mono ?_
              rintro e w2 ⟨rfl, ⟨vr2, h2⟩, hst⟩
              dsimp only
              have H2 := Lib.hid (show SQ W vb sb (W.heap.size + 1) rb qb k ⟨ky, il, li, ac⟩ z z9 v vr2 (.slice ga T.length gc) T w2 from ⟨h2, hst _ _ _ H1.out.ru (by decide) (by decide) (by decide)⟩)
              have HX2 := Lib.hid (hst _ _ _ HX1.out (by decide) (by decide) (by decide))
              clear h2 hst H1 HX1 x0 x1 x2 x3 x4 x5 q0 q1 q2 q3 HRC
              obtain ⟨x0, x1, x2, x3, x4, x5⟩ := six_cells HX2.out
              go_wp2_with fail
              go_at_call 32
              refine (HSC.out _ _ _ H2.out).mono ?_
              rintro e w9 ⟨rfl, ⟨v9, h9⟩, hst⟩
              dsimp only
              have H9 := Lib.hid (show SQ W vb sb (W.heap.size + 1) rb qb (k + 1) ⟨ky, il, li, ac⟩ z9 z9 v9 vr2 (.slice ga T.length gc) T w9 from ⟨h9, hst _ _ _ H2.out.ru (by decide) (by decide) (by decide)⟩)
              clear h9 hst H2 HX2 x0 x1 x2 x3 x4 x5 HSC
              go_wp2_with fail

              apply (HJ2.out sb vb (k + 1) z9 v9 vr2 ⟨#[]⟩ code _ (by omega) (by decide) H9.out)
          · as_aux_lemma =>
              have HRC := Lib.hid (fun w (h : SQ W vb sb (W.heap.size + 1) rb qb k ⟨ky, il, li, ac⟩ z z v vr (.slice ga T.length gc) T w) => h.sp.rsave h.sp.fit_)
              have HSC := Lib.hid (fun zr vr w (h : SQ W vb sb (W.heap.size + 1) rb qb k ⟨ky, il, li, ac⟩ z zr v vr (.slice ga T.length gc) T w) => h.sp.ssave (by omega))
              generalize saveS z = R at *
              obtain ⟨z9, code⟩ := R
              unfold RToldU at HRC
              unfold SToldU at HSC
              dsimp only at HRC HSC
              go_at_call 33
              refine (HRC.out _ H1.out).mono ?_
              rintro e w2 ⟨rfl, ⟨vr2, h2⟩, hst⟩
              dsimp only
              have H2 := Lib.hid (show SQ W vb sb (W.heap.size + 1) rb qb k ⟨ky, il, li, ac⟩ z z9 v vr2 (.slice ga T.length gc) T w2 from ⟨h2, hst _ _ _ H1.out.ru (by decide) (by decide) (by decide)⟩)
              have HX2 := Lib.hid (hst _ _ _ HX1.out (by decide) (by decide) (by decide))
              clear h2 hst H1 HX1 x0 x1 x2 x3 x4 x5 q0 q1 q2 q3 HRC
              obtain ⟨x0, x1, x2, x3, x4, x5⟩ := six_cells HX2.out
              go_wp2_with fail
              go_at_call 34
              refine (HSC.out _ _ _ H2.out).mono ?_
              rintro e w9 ⟨rfl, ⟨v9, h9⟩, hst⟩
              dsimp only
              have H9 := Lib.hid (show SQ W vb sb (W.heap.size + 1) rb qb (k + 1) ⟨ky, il, li, ac⟩ z9 z9 v9 vr2 (.slice ga T.length gc) T w9 from ⟨h9, hst _ _ _ H2.out.ru (by decide) (by decide) (by decide)⟩)
              clear h9 hst H2 HX2 x0 x1 x2 x3 x4 x5 HSC
              go_wp2_with fail

              apply (HJ2.out sb vb (k + 1) z9 v9 vr2 ⟨#[]⟩ code _ (by omega) (by decide) H9.out)
          · as_aux_lemma =>
              have HSC := Lib.hid (fun w (h : SQ W vb sb (W.heap.size + 1) rb qb k ⟨ky, il, li, ac⟩ z z v vr (.slice ga T.length gc) T w) => h.sp.scut n)
              have HRC := Lib.hid (fun w (h : SQ W vb sb (W.heap.size + 1) rb qb k ⟨ky, il, li, ac⟩ (cutS z n) z v vr (.slice ga T.length gc) T w) => h.sp.rcut n)
              generalize cutS z n = z9 at *
              go_at_call 35
              refine (HSC.out _ H1.out).mono ?_
              rintro e w2 ⟨rfl, h2, hst⟩
              dsimp only
              have H2 := Lib.hid (show SQ W vb sb (W.heap.size + 1) rb qb k ⟨ky, il, li, ac⟩ z9 z v vr (.slice ga T.length gc) T w2 from ⟨h2, hst _ _ _ H1.out.ru (by decide) (by decide) (by decide)⟩)
              have HX2 := Lib.hid (hst _ _ _ HX1.out (by decide) (by decide) (by decide))
              clear h2 hst H1 HX1 x0 x1 x2 x3 x4 x5 q0 q1 q2 q3 HSC
              have HSD := H2.out.drew
              have HXD : Blk w2.drew xb 73 #[.int .i64 wh, .int .i64 n, .int .i64 ti, .string cl, .string su, .string sc] := HX2.out
              have HD : w2.drew.cell? ⟨qb, 0, none⟩ = some (.pointer (some ⟨rb, 0, none⟩)) ∧ w2.drew.cell? ⟨xb, 1, none⟩ = some (.int .i64 n) := ⟨HSD.tail.2.1, HXD.cell 1⟩
              go_wp2_with fail
              go_region_held3 (fun w' => w'.cell? ⟨qb, 0, none⟩ = some (.pointer (some ⟨rb, 0, none⟩)) ∧ w'.cell? ⟨xb, 1, none⟩ = some (.int .i64 n))
                (first
                  | with_reducible assumption
                  | with_reducible exact HD)
                (first
                  | (go_at_call 36; (with_reducible refine (HRC.out _ HSD).mono ?_); rintro x' w9 ⟨rfl, h9, hst⟩
                     have hx9 := hst _ _ _ HXD (by decide) (by decide) (by decide)
                     have hs9 : SQ W vb sb (W.heap.size + 1) rb qb k ⟨ky, il, li, ac⟩ z9 z9 v vr (.slice ga T.length gc) T w9 := ⟨h9, hst _ _ _ HSD.ru (by decide) (by decide) (by decide)⟩
                     have hc9 : w9.cell? ⟨qb, 0, none⟩ = some (.pointer (some ⟨rb, 0, none⟩)) ∧ w9.cell? ⟨xb, 1, none⟩ = some (.int .i64 n) := ⟨h9.tail.2.1, hx9.cell 1⟩))
              have H9 := Lib.hid hs9
              clear h9 hst hx9 hc9 hs9 HSD HXD HD H2 HX2 HRC
              go_wp2_with fail

              have hj2 := HJ2.out sb vb k z9 v vr ⟨#[]⟩ 0 _ (by omega) (by decide) H9.out
              rw [errV_0] at hj2
              apply hj2
          · as_aux_lemma =>
              have HSC := Lib.hid (fun w (h : SQ W vb sb (W.heap.size + 1) rb qb k ⟨ky, il, li, ac⟩ z z v vr (.slice ga T.length gc) T w) => h.sp.scut (-1))
              have HOP := Lib.hid (fun w (h : SQ W vb sb (W.heap.size + 1) rb qb k ⟨ky, il, li, ac⟩ (cutS z (-1)) z v vr (.slice ga T.length gc) T w) => h.sp.sopen)
              have HNW := Lib.hid (fun sb' v' w (h : SQ W vb sb (W.heap.size + 1) rb qb k ⟨ky, il, li, ac⟩ (cutS z (-1)) z v vr (.slice ga T.length gc) T w) (hs : SX W.heap.size sb' (W.heap.size + 1) k (openS z) v' w) => h.sp.snew hs)
              have HRC := Lib.hid (fun vb' sb' v' w (h : SQ W vb' sb' (W.heap.size + 1) rb qb k ⟨ky, il, li, ac⟩ (openS z) z v' vr (.slice ga T.length gc) T w) => h.sp.ropen)
              unfold AnewS at HOP
              unfold AnewV at HNW
              generalize cutS z (-1) = zc at *
              generalize openS z = z9 at *
              go_at_call 35
              refine (HSC.out _ H1.out).mono ?_
              rintro e w2 ⟨rfl, h2, hst⟩
              dsimp only
              have H2 := Lib.hid (show SQ W vb sb (W.heap.size + 1) rb qb k ⟨ky, il, li, ac⟩ zc z v vr (.slice ga T.length gc) T w2 from ⟨h2, hst _ _ _ H1.out.ru (by decide) (by decide) (by decide)⟩)
              clear h2 hst H1 HX1 x0 x1 x2 x3 x4 x5 q0 q1 q2 q3 HSC
              go_wp2_with fail
              go_at_call 17
              refine (HOP.out _ H2.out).mono ?_
              rintro e w3 ⟨sb', v', rfl, hx, h3, hb⟩
              dsimp only
              have HX3 := Lib.hid hx
              have H3 := Lib.hid (show SQ W vb sb (W.heap.size + 1) rb qb k ⟨ky, il, li, ac⟩ zc z v vr (.slice ga T.length gc) T w3 from ⟨h3, H2.out.ru.below' hb⟩)
              clear hx h3 hb H2 HOP
              obtain ⟨y0, y1, y2, y3⟩ := tok_cells H3.out.ru
              dsimp only at y0 y1 y2 y3 HNW
              go_wp2_with fail
              go_at_call 18
              refine (HNW.out _ _ _ H3.out HX3.out).mono ?_
              rintro e w4 ⟨vb', rfl, h4, hb⟩
              dsimp only
              have H4 := Lib.hid (show SQ W vb' sb' (W.heap.size + 1) rb qb k ⟨ky, il, li, ac⟩ z9 z v' vr (.slice ga T.length gc) T w4 from ⟨h4, H3.out.ru.below' hb⟩)
              clear h4 hb H3 HX3 HNW y0 y1 y2 y3
              obtain ⟨-, q0, q1, q2, q3⟩ := SQ.tail H4.out
              go_wp2_with fail
              go_at_call 37
              refine (HRC.out _ _ _ _ H4.out).mono ?_
              rintro e w9 ⟨rfl, h9, hst⟩
              dsimp only
              have H9 := Lib.hid (show SQ W vb' sb' (W.heap.size + 1) rb qb k ⟨ky, il, li, ac⟩ z9 z9 v' vr (.slice ga T.length gc) T w9 from ⟨h9, hst _ _ _ H4.out.ru (by decide) (by decide) (by decide)⟩)
              clear h9 hst H4 q0 q1 q2 q3 HRC
              go_wp2_with fail

              have hj2 := HJ2.out sb' vb' k z9 v' vr ⟨#[]⟩ 0 _ (by omega) (by decide) H9.out
              rw [errV_0] at hj2
              apply hj2
          · as_aux_lemma =>
              have H9 := Lib.hid H1.out.later
              have hj2 := HJ2.out sb vb (k + 1) z v vr ⟨#[]⟩ 0 w1 (by omega) (by decide) H9.out
              rw [errV_0] at hj2
              apply hj2
        have HJ1 := Lib.hid J1
        clear J1 aK1
        obtain ⟨x0, x1, x2, x3, x4, x5⟩ := six_cells HX1.out
        rcases Int.lt_or_le ti 0 with ht0 | ht0
        · go_wp2_with fail
          apply (HJ1.out cl (by omega))
        · rcases Nat.eq_zero_or_pos T.length with hl0 | hl0
          · have hd0 : decide (0 < T.length) = false := decide_eq_false (by omega)
            clear hl0
            go_wp2_with fail
            apply (HJ1.out cl (by omega))
          · have hd0 : decide (0 < T.length) = true := decide_eq_true hl0
            obtain ⟨p, hpp⟩ : ∃ p : Nat, ti.tmod (T.length : Int) = p := ⟨_, (Int.toNat_of_nonneg (Int.tmod_nonneg _ ht0)).symm⟩
            have hp1 : (p : Int) < (T.length : Int) := by rw [← hpp]; exact Int.tmod_lt_of_pos _ (by omega)
            have hp0 : (0 : Int) ≤ (p : Int) := by omega
            obtain ⟨tt, htt⟩ : ∃ t, T[p]? = some t := ⟨_, List.getElem?_eq_getElem (by omega)⟩
            have htz : tt.size ≤ 1000 := by have := H1.out.sp.small tt (List.mem_of_getElem? htt); omega
            have HJT := Lib.hid (HJ1.out tt htz)
            obtain ⟨tg, rfl, hcell⟩ := H1.out.sp.toks.lit htt
            have hn0 : (T.length : Int) ≠ 0 := by omega
            clear htt htz HJ1
            go_wp2_with fail
            apply HJT.out
      · go_wp2_with fail
        go_ret
        exact ⟨rfl, H1.out.sp.below⟩
    · go_wp2_with fail
      go_ret
      exact ⟨rfl, HP.out.sp.below⟩
end Go.Proofs.YtckohmhhcknmaaaGreatDoor
