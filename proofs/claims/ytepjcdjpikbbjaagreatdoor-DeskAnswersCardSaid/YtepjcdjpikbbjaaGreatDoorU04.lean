/-
  DERIVED: THE SHELF's CONTRACTS AT THIS DUMP, IN PLAIN WORDS (tools/lay-plain.mjs out of 'TryzShelf.lean', which tools/lay-shelf.mjs wrote): THE SAME DECLARATIONS UNDER THE SAME NAMES: 'import', 'namespace', 'open', 'def', 'theorem' AND NOTHING ELSE: no command of the shelf's: FOR A HAND-IN. Each laying: the table of numbers ('.._ren') and one theorem, a field a fact of the dump's own or the kernel's comparison; each contract: ONE APPLICATION.
-/
import Derived.Test.YtepjcdjpikbbjaaGreatDoorU00
import Derived.Shelf.Strings.Builder1
import Derived.Shelf.Strings.Builder2
import Derived.Shelf.Strings.OnBuilder
import Derived.Shelf.Strings.Trim
import Derived.Shelf.Small.Utf8
import Derived.Shelf.Small.Bits
import Derived.Shelf.Small.Strs
import Derived.Shelf.Small.Wraps
import Derived.Shelf.Strings.BuilderF
import Derived.Shelf.Strings.BuilderK
import Derived.Shelf.Strings.Builder2Cap
import Derived.Shelf.Strconv.Atoi
import Derived.Shelf.Strconv.Itoa0
import Derived.Shelf.Strconv.Itoa1
import Derived.Shelf.LaysM
import Derived.Shelf.Strconv.Itoa2
import Derived.Shelf.Strconv.Itoa3
import Derived.Shelf.Strconv.Itoa4
import Derived.Shelf.Strconv.AtoiErrFast
import Derived.Shelf.Strconv.ParseIntEmpty
import Derived.Shelf.Strconv.AtoiFail
import Derived.Shelf.Strconv.Clone
import Derived.Shelf.Strconv.SyntaxError
import Derived.Shelf.LaysC
import Derived.Shelf.Strconv.ToError
import Derived.Shelf.Strconv.AtoiErr
import Derived.Shelf.Strconv.ErrVar
import Derived.Shelf.Strconv.Lower
import Derived.Shelf.Strconv.ParseUint10
import Derived.Shelf.Strconv.ParseUint10Empty
import Derived.Shelf.Strconv.ParseUint10Any
import Derived.Shelf.Strconv.ParseInt10
import Derived.Shelf.Strconv.AtoiLong
import Derived.Shelf.Strconv.AtoiInnerAll
import Derived.Shelf.Strconv.RangeError
import Derived.Shelf.Strconv.ToErrorRange
import Derived.Shelf.Strconv.AtoiAll
import Derived.Shelf.Strconv.ErrVarAll
import Derived.Shelf.Strconv.ParseUintEmpty
import Derived.Shelf.Strconv.ParseUint10b64
import Derived.Shelf.Strconv.ParseUint10b32
import Derived.Shelf.Strconv.ParseUint10b16
import Derived.Shelf.Strconv.ParseUint10b8
import Derived.Shelf.Strconv.ParseUint10At
import Derived.Shelf.Strconv.ParseInt10At64
import Derived.Shelf.Strconv.ParseInt10At32
import Derived.Shelf.Strconv.ParseInt10At16
import Derived.Shelf.Strconv.ParseInt10At8
import Derived.Shelf.Strconv.ParseInt10All
import Derived.Shelf.Strconv.ParseIntPublic10
import Derived.Shelf.Strconv.ErrVarParseInt
import Derived.Shelf.Strings.Search1
import Derived.Shelf.Strings.Search2
import Derived.Shelf.Strings.Search3
import Derived.Shelf.Strings.Cut
import Derived.Shelf.Strings.Count
import Derived.Shelf.Strings.Shaped
import Derived.Shelf.Sort.Plain
import Derived.Shelf.Strings.LastIndex
import Derived.Ground.GgsProg
import Derived.Shelf.GgSortFunc.Insertion
import Derived.Shelf.GgSortFunc.Small
import Derived.Shelf.GgSortFunc.InsertionK
import Derived.Shelf.GgSortFunc.SmallK
import Derived.Shelf.GgSortFunc.Tiny
import Derived.Shelf.GgSortFunc.Compose
import Derived.Shelf.GgSortFunc.LotD
import Derived.Shelf.Strings.Prefix
import Derived.Shelf.Strings.Split
import Derived.Shelf.Strings.Runes
import Derived.Shelf.Strings.AsciiSet
import Derived.Shelf.Bits.Mul64
import Derived.Shelf.Strings.Repeat
import Derived.Shelf.Unicode.DecodeSlow
import Derived.Shelf.Unicode.DecodeAny
import Derived.Shelf.Unicode.DecodeLast
import Derived.Shelf.Strings.FieldsFuncAny
import Derived.Shelf.Strings.FieldsFuncGrows
import Derived.Shelf.Strings.BuilderCap
import Derived.Shelf.Slices.CompactS
import Derived.Shelf.Slices.Cells
import Derived.Shelf.Slices.In.SortNone
import Derived.Shelf.Slices.In.SortNone2
import Derived.Shelf.SlSortFunc.Xorshift
import Derived.Shelf.SlSortFuncK.ComposeK
import Derived.Shelf.SlSortFuncK.SiftDownK
import Derived.Shelf.SlSortFuncK.HeapSortK
import Derived.Shelf.SlSortFuncK.PartialInsertionK
import Derived.Shelf.SlSortFuncK.LotDK
import Derived.Shelf.SlSortFuncK.PivotK
import Derived.Shelf.SlSortFuncK.PartitionK
import Derived.Shelf.SlSortFuncK.PdqK
import Derived.Shelf.SlSortFuncK.WholeK
import Derived.Shelf.Strings.SlTrimAscii
import Derived.Shelf.Spec.SearchS
import Derived.Test.YtepjcdjpikbbjaaGreatDoorProg
namespace Go.Proofs
open Go.Proofs.Tryz
open Go.Proofs.YtepjcdjpikbbjaaGreatDoor(kR oM dC aS kS zH)
open Go.Shelf
def Tryz.lays169_ren:Go.Shelf.Ren:=⟨fun|169=>12|n=>n,fun|70=>35|9=>9|0=>0|72=>38|37=>36|127=>79|3=>3|5=>5|n=>n,fun|n=>n⟩
theorem Tryz.lays169:Go.Proofs.Lays.n169 prog Tryz.lays169_ren:={
 mixed:=kR
 f169:=Tryz.func12.trans kS
 t0:=underlying0
 a0:=Tryz.isAgg0
 z0:=Tryz.sizeOf0
 v0:=Tryz.zeroValue0
 t3:=underlying3
 a3:=Tryz.isAgg3
 z3:=Tryz.sizeOf3
 v3:=Tryz.zeroValue3
 t9:=underlying9
 a9:=Tryz.isAgg9
 z9:=Tryz.sizeOf9
 v9:=Tryz.zeroValue9
 t37:=underlying36
 a37:=Tryz.isAgg36
 z37:=Tryz.sizeOf36
 v37:=Tryz.zeroValue36
 t70:=underlying35
 a70:=Tryz.isAgg35
 z70:=Tryz.sizeOf35
 v70:=Tryz.zeroValue35
 t72:=underlying38
 a72:=Tryz.isAgg38
 z72:=Tryz.sizeOf38
 v72:=Tryz.zeroValue38
 t127:=underlying79
 a127:=Tryz.isAgg79
 z127:=Tryz.sizeOf79
 v127:=Tryz.zeroValue79}
theorem Tryz.Builder_Extra_169:Builder.Extra prog Tryz.lays169_ren:={
 sizeBuilder:=kR
 liesBuilder:=kR
 t5:=underlying5
 a5:=Tryz.isAgg5
 z5:=Tryz.sizeOf5
 v5:=Tryz.zeroValue5
 infoByte:=kR
 cellsByte:=kR
 sizeByte:=kR
 neB5:=by decide}
def Tryz.lays156_ren:Go.Shelf.Ren:=⟨fun|156=>50|165=>100|166=>10|169=>12|240=>24|241=>150|276=>60|277=>201|n=>n,fun|31=>34|9=>9|3=>3|4=>4|0=>0|20=>20|72=>38|76=>45|70=>35|37=>36|75=>44|127=>79|164=>126|5=>5|80=>47|n=>n,fun|n=>n⟩
theorem Tryz.lays156:Go.Proofs.Lays.n156 prog Tryz.lays156_ren:={
 mixed:=kR
 f156:=Tryz.func50.trans kS
 f165:=Tryz.func100.trans kS
 f166:=Tryz.func10.trans kS
 f169:=Tryz.func12.trans kS
 f240:=Tryz.func24.trans kS
 f241:=Tryz.func150.trans kS
 f276:=Tryz.func60.trans kS
 f277:=Tryz.func201.trans kS
 t0:=underlying0
 a0:=Tryz.isAgg0
 z0:=Tryz.sizeOf0
 v0:=Tryz.zeroValue0
 t3:=underlying3
 a3:=Tryz.isAgg3
 z3:=Tryz.sizeOf3
 v3:=Tryz.zeroValue3
 t4:=underlying4
 a4:=Tryz.isAgg4
 z4:=Tryz.sizeOf4
 v4:=Tryz.zeroValue4
 t9:=underlying9
 a9:=Tryz.isAgg9
 z9:=Tryz.sizeOf9
 v9:=Tryz.zeroValue9
 t20:=underlying20
 a20:=Tryz.isAgg20
 z20:=Tryz.sizeOf20
 v20:=Tryz.zeroValue20
 t31:=underlying34
 a31:=Tryz.isAgg34
 z31:=Tryz.sizeOf34
 v31:=Tryz.zeroValue34
 t37:=underlying36
 a37:=Tryz.isAgg36
 z37:=Tryz.sizeOf36
 v37:=Tryz.zeroValue36
 t70:=underlying35
 a70:=Tryz.isAgg35
 z70:=Tryz.sizeOf35
 v70:=Tryz.zeroValue35
 t72:=underlying38
 a72:=Tryz.isAgg38
 z72:=Tryz.sizeOf38
 v72:=Tryz.zeroValue38
 t75:=underlying44
 a75:=Tryz.isAgg44
 z75:=Tryz.sizeOf44
 v75:=Tryz.zeroValue44
 t76:=underlying45
 a76:=Tryz.isAgg45
 z76:=Tryz.sizeOf45
 v76:=Tryz.zeroValue45
 t127:=underlying79
 a127:=Tryz.isAgg79
 z127:=Tryz.sizeOf79
 v127:=Tryz.zeroValue79
 t164:=underlying126
 a164:=Tryz.isAgg126
 z164:=Tryz.sizeOf126
 v164:=Tryz.zeroValue126}
theorem Tryz.Builder_Extra_156:Builder.Extra prog Tryz.lays156_ren:={
 sizeBuilder:=kR
 liesBuilder:=kR
 t5:=underlying5
 a5:=Tryz.isAgg5
 z5:=Tryz.sizeOf5
 v5:=Tryz.zeroValue5
 infoByte:=kR
 cellsByte:=kR
 sizeByte:=kR
 neB5:=by decide}
open Go.RowKit in
theorem Tryz.strings_Join_none (a:Option Addr) (c:Nat) (sep:ByteArray) (w:World):
 Calls prog 50 #[.slice a 0 c,.string sep] w fun e w'=>e=.returned (.string ⟨#[]⟩)∧w'=w:=Any.strings_Join_none Tryz.lays156 Tryz.Builder_Extra_156 a c sep w
open Go.RowKit in
theorem Tryz.strings_Join (bk o c:Nat) (xs:List ByteArray) (sep:ByteArray) (w:World) (hcells: ∀ (j:Nat) x,xs[j]?=some x→w.cell? ⟨bk,o+j,none⟩=some (.string x)) (hbk:bk<w.heap.size) (hN:xs.length≤140737488355328) (hcap:xs.length≤c) (hlen:(Lib.join (xs.map (·.data.toList)) sep.data.toList).length≤140737488355328):
 Calls prog 50 #[.slice (some ⟨bk,o,none⟩) xs.length c,.string sep] w fun e w'=>e=.returned (.string ⟨(Lib.join (xs.map (·.data.toList)) sep.data.toList).toArray⟩)∧Below w.heap.size w w':=Any.strings_Join Tryz.lays156 Tryz.Builder_Extra_156 bk o c xs sep w hcells hbk hN hcap hlen
def Tryz.lays137_ren:Go.Shelf.Ren:=⟨fun|137=>194|217=>169|266=>212|n=>n,fun|9=>9|5=>5|3=>3|n=>n,fun|n=>n⟩
theorem Tryz.lays137:Go.Proofs.Lays.n137 prog Tryz.lays137_ren:={
 mixed:=kR
 f137:=Tryz.func194.trans kS
 f217:=Tryz.func169.trans kS
 f266:=Tryz.func212.trans kS
 t3:=underlying3
 a3:=Tryz.isAgg3
 z3:=Tryz.sizeOf3
 v3:=Tryz.zeroValue3
 t5:=underlying5
 a5:=Tryz.isAgg5
 z5:=Tryz.sizeOf5
 v5:=Tryz.zeroValue5
 t9:=underlying9
 a9:=Tryz.isAgg9
 z9:=Tryz.sizeOf9
 v9:=Tryz.zeroValue9}
open Go.RowKit in
theorem Tryz.strings_IndexByte (s:ByteArray) (c:Int) (w:World):
 Calls prog 194 #[.string s,.int .u8 c] w fun e w'=>e=.returned (.int .i64 (Lib.indexByte s.data.toList c.toNat.toUInt8))∧w'=w:=Any.strings_IndexByte Tryz.lays137 s c w
def Tryz.lays121_ren:Go.Shelf.Ren:=⟨fun|121=>45|214=>93|n=>n,fun|4=>4|9=>9|n=>n,fun|n=>n⟩
theorem Tryz.lays121:Go.Proofs.Lays.n121 prog Tryz.lays121_ren:={
 mixed:=kR
 f121:=Tryz.func45.trans kS
 f214:=Tryz.func93.trans kS
 t4:=underlying4
 a4:=Tryz.isAgg4
 z4:=Tryz.sizeOf4
 v4:=Tryz.zeroValue4
 t9:=underlying9
 a9:=Tryz.isAgg9
 z9:=Tryz.sizeOf9
 v9:=Tryz.zeroValue9}
open Go.RowKit in
theorem Tryz.strconv_FormatBool (b:Bool) (w:World):
 Calls prog 45 #[.bool b] w fun e w'=>e=.returned (.string ⟨(Lib.formatBool b).toArray⟩)∧w'=w:=Any.strconv_FormatBool Tryz.lays121 b w
open Go.RowKit in
theorem Tryz.Builder_String_any_k (B b:Nat) (l:List UInt8) (w:World) (h:Lib.IsBuilderF 38 5 B b (Lib.byteCells l) w) (hBw:B≤w.heap.size):
 Calls prog 12 #[.pointer (some ⟨b,0,none⟩)] w fun e w'=>e=.returned (.string ⟨l.toArray⟩)∧(Lib.IsBuilderF 38 5 B b (Lib.byteCells l) w'∧Below B w w'∧Lib.OthersKept 5 (some b) w w'):=Any.Builder_String_any_k Tryz.lays169 Tryz.Builder_Extra_169 B b l w h hBw
def Tryz.laysM171_ren:Go.Shelf.Ren:=⟨fun|171=>26|243=>61|246=>118|283=>173|284=>174|285=>175|286=>176|129=>215|317=>214|318=>216|319=>217|320=>218|337=>239|338=>240|n=>n,fun|3=>3|9=>9|2=>2|4=>4|171=>221|0=>0|53=>149|37=>36|5=>5|173=>224|212=>274|51=>247|20=>20|213=>275|46=>192|232=>321|233=>322|n=>n,fun|17=>7|18=>8|19=>9|n=>n⟩
theorem Tryz.laysM171:Go.Proofs.LaysM.n171 prog Tryz.laysM171_ren:={
 mixed:=kR
 f129:=Tryz.func215.trans kS
 f171:=Tryz.func26.trans kS
 f243:=Tryz.func61.trans kS
 f246:=Tryz.func118.trans kS
 f283:=Tryz.func173.trans kS
 f284:=Tryz.func174.trans kS
 f285:=Tryz.func175.trans kS
 f286:=Tryz.func176.trans kS
 f317:=Tryz.func214.trans kS
 f318:=Tryz.func216.trans kS
 f319:=Tryz.func217.trans kS
 f320:=Tryz.func218.trans kS
 f337:=Tryz.func239.trans kS
 f338:=Tryz.func240.trans kS
 t0:=underlying0
 a0:=Tryz.isAgg0
 z0:=Tryz.sizeOf0
 v0:=Tryz.zeroValue0
 t2:=underlying2
 a2:=Tryz.isAgg2
 z2:=Tryz.sizeOf2
 v2:=Tryz.zeroValue2
 t3:=underlying3
 a3:=Tryz.isAgg3
 z3:=Tryz.sizeOf3
 v3:=Tryz.zeroValue3
 t4:=underlying4
 a4:=Tryz.isAgg4
 z4:=Tryz.sizeOf4
 v4:=Tryz.zeroValue4
 t5:=underlying5
 a5:=Tryz.isAgg5
 z5:=Tryz.sizeOf5
 v5:=Tryz.zeroValue5
 t9:=underlying9
 a9:=Tryz.isAgg9
 z9:=Tryz.sizeOf9
 v9:=Tryz.zeroValue9
 t20:=underlying20
 a20:=Tryz.isAgg20
 z20:=Tryz.sizeOf20
 v20:=Tryz.zeroValue20
 t37:=underlying36
 a37:=Tryz.isAgg36
 z37:=Tryz.sizeOf36
 v37:=Tryz.zeroValue36
 t46:=underlying192
 a46:=Tryz.isAgg192
 z46:=Tryz.sizeOf192
 v46:=Tryz.zeroValue192
 t51:=underlying247
 a51:=Tryz.isAgg247
 z51:=Tryz.sizeOf247
 v51:=Tryz.zeroValue247
 t53:=underlying149
 a53:=Tryz.isAgg149
 z53:=Tryz.sizeOf149
 v53:=Tryz.zeroValue149
 t171:=underlying221
 a171:=Tryz.isAgg221
 z171:=Tryz.sizeOf221
 v171:=Tryz.zeroValue221
 t173:=underlying224
 a173:=Tryz.isAgg224
 z173:=Tryz.sizeOf224
 v173:=Tryz.zeroValue224
 t212:=underlying274
 a212:=Tryz.isAgg274
 z212:=Tryz.sizeOf274
 v212:=Tryz.zeroValue274
 t213:=underlying275
 a213:=Tryz.isAgg275
 z213:=Tryz.sizeOf275
 t232:=underlying321
 a232:=Tryz.isAgg321
 z232:=Tryz.sizeOf321
 v232:=Tryz.zeroValue321
 t233:=underlying322
 a233:=Tryz.isAgg322
 z233:=Tryz.sizeOf322
 v233:=Tryz.zeroValue322
 g17:=kR
 g18:=kR
 g19:=kR
 i0:=kR
 i2:=kR
 i3:=kR
 i4:=kR
 i5:=kR
 i9:=kR
 i20:=kR
 i37:=kR
 i46:=kR
 i51:=kR
 i53:=kR
 i171:=kR
 i173:=kR
 i212:=kR
 i232:=kR
 i233:=kR
 m17:=kR
 m18:=kR
 m19:=by kernel_rfl}
open Go.RowKit Go.Sort Go.Lib in
theorem Tryz.strconv_Itoa (n:Int) (h0: -9223372036854775808≤n) (h1:n≤9223372036854775807) (w:World) (htab:Lib.TabIs prog w "internal/strconv.uint64pow10" .u64 Lib.pow10Tab):
 Calls prog 26 #[.int .i64 n] w fun e w'=>e=.returned (.string ⟨(Lib.itoa n).toArray⟩)∧ ∃ k os,w'=grow (w.drewN k) os:=Any.strconv_Itoa Tryz.laysM171 n h0 h1 w htab
def Tryz.laysM173_ren:Go.Shelf.Ren:=⟨fun|173=>82|246=>118|283=>173|284=>174|285=>175|286=>176|129=>215|317=>214|318=>216|319=>217|320=>218|337=>239|338=>240|n=>n,fun|2=>2|3=>3|9=>9|4=>4|171=>221|0=>0|53=>149|37=>36|5=>5|173=>224|212=>274|51=>247|20=>20|213=>275|46=>192|232=>321|233=>322|n=>n,fun|17=>7|18=>8|19=>9|n=>n⟩
theorem Tryz.laysM173:Go.Proofs.LaysM.n173 prog Tryz.laysM173_ren:={
 mixed:=kR
 f129:=Tryz.func215.trans kS
 f173:=Tryz.func82.trans kS
 f246:=Tryz.func118.trans kS
 f283:=Tryz.func173.trans kS
 f284:=Tryz.func174.trans kS
 f285:=Tryz.func175.trans kS
 f286:=Tryz.func176.trans kS
 f317:=Tryz.func214.trans kS
 f318:=Tryz.func216.trans kS
 f319:=Tryz.func217.trans kS
 f320:=Tryz.func218.trans kS
 f337:=Tryz.func239.trans kS
 f338:=Tryz.func240.trans kS
 t0:=underlying0
 a0:=Tryz.isAgg0
 z0:=Tryz.sizeOf0
 v0:=Tryz.zeroValue0
 t2:=underlying2
 a2:=Tryz.isAgg2
 z2:=Tryz.sizeOf2
 v2:=Tryz.zeroValue2
 t3:=underlying3
 a3:=Tryz.isAgg3
 z3:=Tryz.sizeOf3
 v3:=Tryz.zeroValue3
 t4:=underlying4
 a4:=Tryz.isAgg4
 z4:=Tryz.sizeOf4
 v4:=Tryz.zeroValue4
 t5:=underlying5
 a5:=Tryz.isAgg5
 z5:=Tryz.sizeOf5
 v5:=Tryz.zeroValue5
 t9:=underlying9
 a9:=Tryz.isAgg9
 z9:=Tryz.sizeOf9
 v9:=Tryz.zeroValue9
 t20:=underlying20
 a20:=Tryz.isAgg20
 z20:=Tryz.sizeOf20
 v20:=Tryz.zeroValue20
 t37:=underlying36
 a37:=Tryz.isAgg36
 z37:=Tryz.sizeOf36
 v37:=Tryz.zeroValue36
 t46:=underlying192
 a46:=Tryz.isAgg192
 z46:=Tryz.sizeOf192
 v46:=Tryz.zeroValue192
 t51:=underlying247
 a51:=Tryz.isAgg247
 z51:=Tryz.sizeOf247
 v51:=Tryz.zeroValue247
 t53:=underlying149
 a53:=Tryz.isAgg149
 z53:=Tryz.sizeOf149
 v53:=Tryz.zeroValue149
 t171:=underlying221
 a171:=Tryz.isAgg221
 z171:=Tryz.sizeOf221
 v171:=Tryz.zeroValue221
 t173:=underlying224
 a173:=Tryz.isAgg224
 z173:=Tryz.sizeOf224
 v173:=Tryz.zeroValue224
 t212:=underlying274
 a212:=Tryz.isAgg274
 z212:=Tryz.sizeOf274
 v212:=Tryz.zeroValue274
 t213:=underlying275
 a213:=Tryz.isAgg275
 z213:=Tryz.sizeOf275
 t232:=underlying321
 a232:=Tryz.isAgg321
 z232:=Tryz.sizeOf321
 v232:=Tryz.zeroValue321
 t233:=underlying322
 a233:=Tryz.isAgg322
 z233:=Tryz.sizeOf322
 v233:=Tryz.zeroValue322
 g17:=kR
 g18:=kR
 g19:=kR
 i0:=kR
 i2:=kR
 i3:=kR
 i4:=kR
 i5:=kR
 i9:=kR
 i20:=kR
 i37:=kR
 i46:=kR
 i51:=kR
 i53:=kR
 i171:=kR
 i173:=kR
 i212:=kR
 i232:=kR
 i233:=kR
 m17:=kR
 m18:=kR
 m19:=by kernel_rfl}
open Go.RowKit Go.Sort Go.Lib in
theorem Tryz.strconv_FormatInt_10 (n:Int) (h0: -9223372036854775808≤n) (h1:n≤9223372036854775807) (w:World) (htab:Lib.TabIs prog w "internal/strconv.uint64pow10" .u64 Lib.pow10Tab):
 Calls prog 82 #[.int .i64 n,.int .i64 10] w fun e w'=>e=.returned (.string ⟨(Lib.itoa n).toArray⟩)∧ ∃ k os,w'=grow (w.drewN k) os:=Any.strconv_FormatInt_10 Tryz.laysM173 n h0 h1 w htab
def Tryz.laysC172_ren:Go.Shelf.Ren:=⟨fun|172=>51|244=>101|245=>102|247=>140|279=>151|280=>152|281=>153|282=>154|287=>193|316=>202|171=>26|205=>203|321=>229|322=>230|243=>61|246=>118|283=>173|284=>174|285=>175|286=>176|129=>215|317=>214|318=>216|319=>217|320=>218|337=>239|338=>240|n=>n,fun|9=>9|3=>3|75=>44|76=>45|4=>4|5=>5|167=>195|37=>36|0=>0|85=>133|2=>2|168=>196|53=>149|175=>242|46=>192|210=>254|127=>79|145=>293|143=>291|21=>21|171=>221|173=>224|212=>274|51=>247|20=>20|213=>275|232=>321|233=>322|80=>47|n=>n,fun|15=>5|16=>6|17=>7|18=>8|19=>9|n=>n⟩
theorem Tryz.laysC172:Go.Proofs.LaysC.n172 prog Tryz.laysC172_ren:={
 mixed:=kR
 f129:=Tryz.func215.trans kS
 f171:=Tryz.func26.trans kS
 f172:=Tryz.func51.trans kS
 f205:=Tryz.func203.trans kS
 f243:=Tryz.func61.trans kS
 f244:=Tryz.func101.trans kS
 f245:=Tryz.func102.trans kS
 f246:=Tryz.func118.trans kS
 f247:=Tryz.func140.trans kS
 f279:=Tryz.func151.trans kS
 f280:=Tryz.func152.trans kS
 f281:=Tryz.func153.trans kS
 f282:=Tryz.func154.trans kS
 f283:=Tryz.func173.trans kS
 f284:=Tryz.func174.trans kS
 f285:=Tryz.func175.trans kS
 f286:=Tryz.func176.trans kS
 f287:=Tryz.func193.trans kS
 f316:=Tryz.func202.trans kS
 f317:=Tryz.func214.trans kS
 f318:=Tryz.func216.trans kS
 f319:=Tryz.func217.trans kS
 f320:=Tryz.func218.trans kS
 f321:=Tryz.func229.trans kS
 f322:=Tryz.func230.trans kS
 f337:=Tryz.func239.trans kS
 f338:=Tryz.func240.trans kS
 t0:=underlying0
 a0:=Tryz.isAgg0
 z0:=Tryz.sizeOf0
 v0:=Tryz.zeroValue0
 t2:=underlying2
 a2:=Tryz.isAgg2
 z2:=Tryz.sizeOf2
 v2:=Tryz.zeroValue2
 t3:=underlying3
 a3:=Tryz.isAgg3
 z3:=Tryz.sizeOf3
 v3:=Tryz.zeroValue3
 t4:=underlying4
 a4:=Tryz.isAgg4
 z4:=Tryz.sizeOf4
 v4:=Tryz.zeroValue4
 t5:=underlying5
 a5:=Tryz.isAgg5
 z5:=Tryz.sizeOf5
 v5:=Tryz.zeroValue5
 t9:=underlying9
 a9:=Tryz.isAgg9
 z9:=Tryz.sizeOf9
 v9:=Tryz.zeroValue9
 t20:=underlying20
 a20:=Tryz.isAgg20
 z20:=Tryz.sizeOf20
 v20:=Tryz.zeroValue20
 t21:=underlying21
 a21:=Tryz.isAgg21
 z21:=Tryz.sizeOf21
 v21:=Tryz.zeroValue21
 t37:=underlying36
 a37:=Tryz.isAgg36
 z37:=Tryz.sizeOf36
 v37:=Tryz.zeroValue36
 t46:=underlying192
 a46:=Tryz.isAgg192
 z46:=Tryz.sizeOf192
 v46:=Tryz.zeroValue192
 t51:=underlying247
 a51:=Tryz.isAgg247
 z51:=Tryz.sizeOf247
 v51:=Tryz.zeroValue247
 t53:=underlying149
 a53:=Tryz.isAgg149
 z53:=Tryz.sizeOf149
 v53:=Tryz.zeroValue149
 t75:=underlying44
 a75:=Tryz.isAgg44
 z75:=Tryz.sizeOf44
 v75:=Tryz.zeroValue44
 t76:=underlying45
 a76:=Tryz.isAgg45
 z76:=Tryz.sizeOf45
 v76:=Tryz.zeroValue45
 t85:=underlying133
 a85:=Tryz.isAgg133
 z85:=Tryz.sizeOf133
 v85:=Tryz.zeroValue133
 t127:=underlying79
 a127:=Tryz.isAgg79
 z127:=Tryz.sizeOf79
 v127:=Tryz.zeroValue79
 t143:=underlying291
 a143:=Tryz.isAgg291
 z143:=Tryz.sizeOf291
 v143:=Tryz.zeroValue291
 t145:=underlying293
 a145:=Tryz.isAgg293
 z145:=Tryz.sizeOf293
 v145:=Tryz.zeroValue293
 t167:=underlying195
 a167:=Tryz.isAgg195
 z167:=Tryz.sizeOf195
 v167:=Tryz.zeroValue195
 t168:=underlying196
 a168:=Tryz.isAgg196
 z168:=Tryz.sizeOf196
 v168:=Tryz.zeroValue196
 t171:=underlying221
 a171:=Tryz.isAgg221
 z171:=Tryz.sizeOf221
 v171:=Tryz.zeroValue221
 t173:=underlying224
 a173:=Tryz.isAgg224
 z173:=Tryz.sizeOf224
 v173:=Tryz.zeroValue224
 t175:=underlying242
 a175:=Tryz.isAgg242
 z175:=Tryz.sizeOf242
 v175:=Tryz.zeroValue242
 t210:=underlying254
 a210:=Tryz.isAgg254
 z210:=Tryz.sizeOf254
 v210:=Tryz.zeroValue254
 t212:=underlying274
 a212:=Tryz.isAgg274
 z212:=Tryz.sizeOf274
 v212:=Tryz.zeroValue274
 t213:=underlying275
 a213:=Tryz.isAgg275
 z213:=Tryz.sizeOf275
 t232:=underlying321
 a232:=Tryz.isAgg321
 z232:=Tryz.sizeOf321
 v232:=Tryz.zeroValue321
 t233:=underlying322
 a233:=Tryz.isAgg322
 z233:=Tryz.sizeOf322
 v233:=Tryz.zeroValue322
 g15:=kR
 g16:=kR
 g17:=kR
 g18:=kR
 g19:=kR
 t80:=underlying47
 a80:=Tryz.isAgg47
 z80:=Tryz.sizeOf47
 v80:=Tryz.zeroValue47
 i0:=kR
 i2:=kR
 i3:=kR
 i4:=kR
 i5:=kR
 i9:=kR
 i20:=kR
 i21:=kR
 i37:=kR
 i46:=kR
 i51:=kR
 i53:=kR
 i75:=kR
 i76:=kR
 i80:=kR
 i85:=kR
 i127:=kR
 i143:=kR
 i145:=kR
 i167:=kR
 i168:=kR
 i171:=kR
 i173:=kR
 i175:=kR
 i210:=kR
 i212:=kR
 i232:=kR
 i233:=kR
 m15:=kR
 m16:=kR
 m17:=kR
 m18:=kR
 m19:=kR
 c0:=kR
 c2:=kR
 c3:=kR
 c4:=kR
 c5:=kR
 c9:=kR
 c20:=kR
 c21:=kR
 c37:=kR
 c46:=kR
 c51:=kR
 c53:=kR
 c75:=kR
 c76:=kR
 c80:=kR
 c85:=kR
 c127:=kR
 c143:=kR
 c145:=kR
 c167:=kR
 c168:=kR
 c171:=kR
 c173:=kR
 c175:=kR
 c210:=kR
 c212:=kR
 c213:=kR
 c232:=kR
 c233:=by kernel_rfl}
open Go.RowKit in
theorem Tryz.strconv_Atoi_ok (s:ByteArray) (hmax:s.size≤9223372036854775806) (v:Int) (h:Lib.atoiAll s.data.toList=.ok v) (w:World):
 Calls prog 51 #[.string s] w fun e w'=>e=.returned (.tuple #[.int .i64 v,.nilIface])∧(w'=w∨ ∃ t,w'=Lib.bytesWorld w 5 t):=Any.strconv_Atoi_ok Tryz.laysC172 s hmax v h w
open Go.RowKit in
theorem Tryz.strconv_Atoi_syntax (s:ByteArray) (hlim:s.size≤281474976710656) (h:Lib.atoiAll s.data.toList=Lib.NumEnd.syntax) (ev:Value) (w:World) (hv:w.cell? ⟨5,0,none⟩=some ev) (hev:ev=.nilIface∨ ∃ te pe,ev=.iface te pe):
 Calls prog 51 #[.string s] w fun e w'=> ∃ N,e=.returned (.tuple #[.int .i64 (0),.iface 196 (.pointer (some ⟨N,0,none⟩))])∧w.heap.size≤N∧w'.heap[N]?=some (.cells #[.string ⟨#[65,116,111,105]⟩,.string s,ev] 254 (0,0))∧Below w.heap.size w w':=Any.strconv_Atoi_syntax Tryz.laysC172 s hlim h ev w hv hev
open Go.RowKit in
theorem Tryz.strconv_Atoi_range (s:ByteArray) (hlim:s.size≤281474976710656) (h:Lib.atoiAll s.data.toList=.range) (ev:Value) (w:World) (hv:w.cell? ⟨6,0,none⟩=some ev) (hev:ev=.nilIface∨ ∃ te pe,ev=.iface te pe):
 Calls prog 51 #[.string s] w fun e w'=> ∃ N,e=.returned (.tuple #[.int .i64 (Lib.atoiSat s.data.toList),.iface 196 (.pointer (some ⟨N,0,none⟩))])∧w.heap.size≤N∧w'.heap[N]?=some (.cells #[.string ⟨#[65,116,111,105]⟩,.string s,ev] 254 (0,0))∧Below w.heap.size w w':=Any.strconv_Atoi_range Tryz.laysC172 s hlim h ev w hv hev
def Tryz.laysC174_ren:Go.Shelf.Ren:=⟨fun|174=>81|247=>140|245=>102|287=>193|279=>151|280=>152|281=>153|282=>154|321=>229|322=>230|316=>202|171=>26|205=>203|243=>61|246=>118|283=>173|284=>174|285=>175|286=>176|129=>215|317=>214|318=>216|319=>217|320=>218|337=>239|338=>240|n=>n,fun|9=>9|3=>3|2=>2|75=>44|85=>133|4=>4|167=>195|5=>5|53=>149|175=>242|46=>192|168=>196|37=>36|0=>0|210=>254|21=>21|127=>79|145=>293|143=>291|171=>221|173=>224|212=>274|51=>247|20=>20|213=>275|232=>321|233=>322|80=>47|n=>n,fun|15=>5|16=>6|17=>7|18=>8|19=>9|n=>n⟩
theorem Tryz.laysC174:Go.Proofs.LaysC.n174 prog Tryz.laysC174_ren:={
 mixed:=kR
 f129:=Tryz.func215.trans kS
 f171:=Tryz.func26.trans kS
 f174:=Tryz.func81.trans kS
 f205:=Tryz.func203.trans kS
 f243:=Tryz.func61.trans kS
 f245:=Tryz.func102.trans kS
 f246:=Tryz.func118.trans kS
 f247:=Tryz.func140.trans kS
 f279:=Tryz.func151.trans kS
 f280:=Tryz.func152.trans kS
 f281:=Tryz.func153.trans kS
 f282:=Tryz.func154.trans kS
 f283:=Tryz.func173.trans kS
 f284:=Tryz.func174.trans kS
 f285:=Tryz.func175.trans kS
 f286:=Tryz.func176.trans kS
 f287:=Tryz.func193.trans kS
 f316:=Tryz.func202.trans kS
 f317:=Tryz.func214.trans kS
 f318:=Tryz.func216.trans kS
 f319:=Tryz.func217.trans kS
 f320:=Tryz.func218.trans kS
 f321:=Tryz.func229.trans kS
 f322:=Tryz.func230.trans kS
 f337:=Tryz.func239.trans kS
 f338:=Tryz.func240.trans kS
 t0:=underlying0
 a0:=Tryz.isAgg0
 z0:=Tryz.sizeOf0
 v0:=Tryz.zeroValue0
 t2:=underlying2
 a2:=Tryz.isAgg2
 z2:=Tryz.sizeOf2
 v2:=Tryz.zeroValue2
 t3:=underlying3
 a3:=Tryz.isAgg3
 z3:=Tryz.sizeOf3
 v3:=Tryz.zeroValue3
 t4:=underlying4
 a4:=Tryz.isAgg4
 z4:=Tryz.sizeOf4
 v4:=Tryz.zeroValue4
 t5:=underlying5
 a5:=Tryz.isAgg5
 z5:=Tryz.sizeOf5
 v5:=Tryz.zeroValue5
 t9:=underlying9
 a9:=Tryz.isAgg9
 z9:=Tryz.sizeOf9
 v9:=Tryz.zeroValue9
 t20:=underlying20
 a20:=Tryz.isAgg20
 z20:=Tryz.sizeOf20
 v20:=Tryz.zeroValue20
 t21:=underlying21
 a21:=Tryz.isAgg21
 z21:=Tryz.sizeOf21
 v21:=Tryz.zeroValue21
 t37:=underlying36
 a37:=Tryz.isAgg36
 z37:=Tryz.sizeOf36
 v37:=Tryz.zeroValue36
 t46:=underlying192
 a46:=Tryz.isAgg192
 z46:=Tryz.sizeOf192
 v46:=Tryz.zeroValue192
 t51:=underlying247
 a51:=Tryz.isAgg247
 z51:=Tryz.sizeOf247
 v51:=Tryz.zeroValue247
 t53:=underlying149
 a53:=Tryz.isAgg149
 z53:=Tryz.sizeOf149
 v53:=Tryz.zeroValue149
 t75:=underlying44
 a75:=Tryz.isAgg44
 z75:=Tryz.sizeOf44
 v75:=Tryz.zeroValue44
 t85:=underlying133
 a85:=Tryz.isAgg133
 z85:=Tryz.sizeOf133
 v85:=Tryz.zeroValue133
 t127:=underlying79
 a127:=Tryz.isAgg79
 z127:=Tryz.sizeOf79
 v127:=Tryz.zeroValue79
 t143:=underlying291
 a143:=Tryz.isAgg291
 z143:=Tryz.sizeOf291
 v143:=Tryz.zeroValue291
 t145:=underlying293
 a145:=Tryz.isAgg293
 z145:=Tryz.sizeOf293
 v145:=Tryz.zeroValue293
 t167:=underlying195
 a167:=Tryz.isAgg195
 z167:=Tryz.sizeOf195
 v167:=Tryz.zeroValue195
 t168:=underlying196
 a168:=Tryz.isAgg196
 z168:=Tryz.sizeOf196
 v168:=Tryz.zeroValue196
 t171:=underlying221
 a171:=Tryz.isAgg221
 z171:=Tryz.sizeOf221
 v171:=Tryz.zeroValue221
 t173:=underlying224
 a173:=Tryz.isAgg224
 z173:=Tryz.sizeOf224
 v173:=Tryz.zeroValue224
 t175:=underlying242
 a175:=Tryz.isAgg242
 z175:=Tryz.sizeOf242
 v175:=Tryz.zeroValue242
 t210:=underlying254
 a210:=Tryz.isAgg254
 z210:=Tryz.sizeOf254
 v210:=Tryz.zeroValue254
 t212:=underlying274
 a212:=Tryz.isAgg274
 z212:=Tryz.sizeOf274
 v212:=Tryz.zeroValue274
 t213:=underlying275
 a213:=Tryz.isAgg275
 z213:=Tryz.sizeOf275
 t232:=underlying321
 a232:=Tryz.isAgg321
 z232:=Tryz.sizeOf321
 v232:=Tryz.zeroValue321
 t233:=underlying322
 a233:=Tryz.isAgg322
 z233:=Tryz.sizeOf322
 v233:=Tryz.zeroValue322
 g15:=kR
 g16:=kR
 g17:=kR
 g18:=kR
 g19:=kR
 t80:=underlying47
 a80:=Tryz.isAgg47
 z80:=Tryz.sizeOf47
 v80:=Tryz.zeroValue47
 i0:=kR
 i2:=kR
 i3:=kR
 i4:=kR
 i5:=kR
 i9:=kR
 i20:=kR
 i21:=kR
 i37:=kR
 i46:=kR
 i51:=kR
 i53:=kR
 i75:=kR
 i80:=kR
 i85:=kR
 i127:=kR
 i143:=kR
 i145:=kR
 i167:=kR
 i168:=kR
 i171:=kR
 i173:=kR
 i175:=kR
 i210:=kR
 i212:=kR
 i232:=kR
 i233:=kR
 m15:=kR
 m16:=kR
 m17:=kR
 m18:=kR
 m19:=kR
 c0:=kR
 c2:=kR
 c3:=kR
 c4:=kR
 c5:=kR
 c9:=kR
 c20:=kR
 c21:=kR
 c37:=kR
 c46:=kR
 c51:=kR
 c53:=kR
 c75:=kR
 c80:=kR
 c85:=kR
 c127:=kR
 c143:=kR
 c145:=kR
 c167:=kR
 c168:=kR
 c171:=kR
 c173:=kR
 c175:=kR
 c210:=kR
 c212:=kR
 c213:=kR
 c232:=kR
 c233:=by kernel_rfl}
open Go.RowKit in
theorem Tryz.strconv_ParseInt_10_at64_ok (s:ByteArray) (hmax:s.size≤9223372036854775806) (v:Int) (h:Lib.parseIntB 64 s.data.toList=.ok v) (w:World):
 Calls prog 81 #[.string s,.int .i64 10,.int .i64 64] w fun e w'=>e=.returned (.tuple #[.int .i64 v,.nilIface])∧(w'=w∨ ∃ t,w'=Lib.bytesWorld w 5 t):=Any.strconv_ParseInt_10_at64_ok Tryz.laysC174 s hmax v h w
open Go.RowKit in
theorem Tryz.strconv_ParseInt_10_at64_syntax (s:ByteArray) (hlim:s.size≤281474976710656) (h:Lib.parseIntB 64 s.data.toList=Lib.NumEnd.syntax) (ev:Value) (w:World) (hv:w.cell? ⟨5,0,none⟩=some ev) (hev:ev=.nilIface∨ ∃ te pe,ev=.iface te pe):
 Calls prog 81 #[.string s,.int .i64 10,.int .i64 64] w fun e w'=> ∃ N,e=.returned (.tuple #[.int .i64 (0),.iface 196 (.pointer (some ⟨N,0,none⟩))])∧w.heap.size≤N∧w'.heap[N]?=some (.cells #[.string ⟨#[80,97,114,115,101,73,110,116]⟩,.string s,ev] 254 (0,0))∧Below w.heap.size w w':=Any.strconv_ParseInt_10_at64_syntax Tryz.laysC174 s hlim h ev w hv hev
open Go.RowKit in
theorem Tryz.strconv_ParseInt_10_at64_range (s:ByteArray) (hlim:s.size≤281474976710656) (h:Lib.parseIntB 64 s.data.toList=.range) (ev:Value) (w:World) (hv:w.cell? ⟨6,0,none⟩=some ev) (hev:ev=.nilIface∨ ∃ te pe,ev=.iface te pe):
 Calls prog 81 #[.string s,.int .i64 10,.int .i64 64] w fun e w'=> ∃ N,e=.returned (.tuple #[.int .i64 (Lib.intSat 64 s.data.toList),.iface 196 (.pointer (some ⟨N,0,none⟩))])∧w.heap.size≤N∧w'.heap[N]?=some (.cells #[.string ⟨#[80,97,114,115,101,73,110,116]⟩,.string s,ev] 254 (0,0))∧Below w.heap.size w w':=Any.strconv_ParseInt_10_at64_range Tryz.laysC174 s hlim h ev w hv hev
def Tryz.lays143_ren:Go.Shelf.Ren:=⟨fun|143=>58|219=>117|217=>169|225=>170|224=>171|267=>172|266=>212|314=>213|n=>n,fun|9=>9|3=>3|4=>4|5=>5|46=>192|146=>248|51=>247|n=>n,fun|1=>4|n=>n⟩
theorem Tryz.lays143:Go.Proofs.Lays.n143 prog Tryz.lays143_ren:={
 mixed:=kR
 f143:=Tryz.func58.trans kS
 f217:=Tryz.func169.trans kS
 f219:=Tryz.func117.trans kS
 f224:=Tryz.func171.trans kS
 f225:=Tryz.func170.trans kS
 f266:=Tryz.func212.trans kS
 f267:=Tryz.func172.trans kS
 f314:=Tryz.func213.trans kS
 t3:=underlying3
 a3:=Tryz.isAgg3
 z3:=Tryz.sizeOf3
 v3:=Tryz.zeroValue3
 t4:=underlying4
 a4:=Tryz.isAgg4
 z4:=Tryz.sizeOf4
 v4:=Tryz.zeroValue4
 t5:=underlying5
 a5:=Tryz.isAgg5
 z5:=Tryz.sizeOf5
 v5:=Tryz.zeroValue5
 t9:=underlying9
 a9:=Tryz.isAgg9
 z9:=Tryz.sizeOf9
 v9:=Tryz.zeroValue9
 t46:=underlying192
 a46:=Tryz.isAgg192
 z46:=Tryz.sizeOf192
 v46:=Tryz.zeroValue192
 t51:=underlying247
 a51:=Tryz.isAgg247
 z51:=Tryz.sizeOf247
 v51:=Tryz.zeroValue247
 t146:=underlying248
 a146:=Tryz.isAgg248
 z146:=Tryz.sizeOf248
 v146:=Tryz.zeroValue248
 g1:=by kernel_rfl}
open Go.RowKit Go.Lib in
theorem Tryz.strings_Index (s sub:ByteArray) (m:Int) (w:World) (hs:s.size<4294967281) (hm:w.cell? ⟨4,0,none⟩=some (.int .i64 m)):
 Calls prog 58 #[.string s,.string sub] w fun e w'=>e=.returned (.int .i64 (Lib.index s.data.toList sub.data.toList))∧w'=w:=Any.strings_Index Tryz.lays143 s sub m w hs hm
def Tryz.lays145_ren:Go.Shelf.Ren:=⟨fun|145=>108|220=>162|219=>117|217=>169|225=>170|224=>171|267=>172|266=>212|314=>213|n=>n,fun|9=>9|4=>4|59=>162|3=>3|5=>5|46=>192|146=>248|51=>247|n=>n,fun|1=>4|n=>n⟩
theorem Tryz.lays145:Go.Proofs.Lays.n145 prog Tryz.lays145_ren:={
 mixed:=kR
 f145:=Tryz.func108.trans kS
 f217:=Tryz.func169.trans kS
 f219:=Tryz.func117.trans kS
 f220:=Tryz.func162.trans kS
 f224:=Tryz.func171.trans kS
 f225:=Tryz.func170.trans kS
 f266:=Tryz.func212.trans kS
 f267:=Tryz.func172.trans kS
 f314:=Tryz.func213.trans kS
 t3:=underlying3
 a3:=Tryz.isAgg3
 z3:=Tryz.sizeOf3
 v3:=Tryz.zeroValue3
 t4:=underlying4
 a4:=Tryz.isAgg4
 z4:=Tryz.sizeOf4
 v4:=Tryz.zeroValue4
 t5:=underlying5
 a5:=Tryz.isAgg5
 z5:=Tryz.sizeOf5
 v5:=Tryz.zeroValue5
 t9:=underlying9
 a9:=Tryz.isAgg9
 z9:=Tryz.sizeOf9
 v9:=Tryz.zeroValue9
 t46:=underlying192
 a46:=Tryz.isAgg192
 z46:=Tryz.sizeOf192
 v46:=Tryz.zeroValue192
 t51:=underlying247
 a51:=Tryz.isAgg247
 z51:=Tryz.sizeOf247
 v51:=Tryz.zeroValue247
 t59:=underlying162
 a59:=Tryz.isAgg162
 z59:=Tryz.sizeOf162
 v59:=Tryz.zeroValue162
 t146:=underlying248
 a146:=Tryz.isAgg248
 z146:=Tryz.sizeOf248
 v146:=Tryz.zeroValue248
 g1:=by kernel_rfl}
open Go.RowKit Go.Lib in
theorem Tryz.strings_Cut (s sep:ByteArray) (m:Int) (w:World) (hs:s.size<4294967281) (hm:w.cell? ⟨4,0,none⟩=some (.int .i64 m)):
 Calls prog 108 #[.string s,.string sep] w fun e w'=>e=.returned (.tuple #[.string ⟨(Lib.cut s.data.toList sep.data.toList).1.toArray⟩,.string ⟨(Lib.cut s.data.toList sep.data.toList).2.1.toArray⟩,.bool (Lib.cut s.data.toList sep.data.toList).2.2])∧ ∃ n,w'=w.drewN n:=Any.strings_Cut Tryz.lays145 s sep m w hs hm
def Tryz.lays190_ren:Go.Shelf.Ren:=⟨fun|190=>197|125=>233|258=>235|128=>262|129=>215|302=>271|303=>272|304=>273|305=>274|306=>275|307=>276|308=>251|309=>277|310=>278|333=>289|329=>290|330=>291|334=>292|335=>293|336=>283|344=>297|n=>n,fun|31=>34|9=>9|3=>3|46=>192|0=>0|51=>247|53=>149|4=>4|183=>315|182=>314|131=>89|5=>5|218=>331|222=>329|228=>338|229=>336|n=>n,fun|n=>n⟩
theorem Tryz.lays190:Go.Proofs.Lays.n190 prog Tryz.lays190_ren:={
 mixed:=kR
 f125:=Tryz.func233.trans kS
 f128:=Tryz.func262.trans kS
 f129:=Tryz.func215.trans kS
 f190:=Tryz.func197.trans kS
 f258:=Tryz.func235.trans kS
 f302:=Tryz.func271.trans kS
 f303:=Tryz.func272.trans kS
 f304:=Tryz.func273.trans kS
 f305:=Tryz.func274.trans kS
 f306:=Tryz.func275.trans kS
 f307:=Tryz.func276.trans kS
 f308:=Tryz.func251.trans kS
 f309:=Tryz.func277.trans kS
 f310:=Tryz.func278.trans kS
 f329:=Tryz.func290.trans kS
 f330:=Tryz.func291.trans kS
 f333:=Tryz.func289.trans kS
 f334:=Tryz.func292.trans kS
 f335:=Tryz.func293.trans kS
 f336:=Tryz.func283.trans kS
 f344:=Tryz.func297.trans kS
 t0:=underlying0
 a0:=Tryz.isAgg0
 z0:=Tryz.sizeOf0
 v0:=Tryz.zeroValue0
 t3:=underlying3
 a3:=Tryz.isAgg3
 z3:=Tryz.sizeOf3
 v3:=Tryz.zeroValue3
 t4:=underlying4
 a4:=Tryz.isAgg4
 z4:=Tryz.sizeOf4
 v4:=Tryz.zeroValue4
 t5:=underlying5
 a5:=Tryz.isAgg5
 z5:=Tryz.sizeOf5
 v5:=Tryz.zeroValue5
 t9:=underlying9
 a9:=Tryz.isAgg9
 z9:=Tryz.sizeOf9
 v9:=Tryz.zeroValue9
 t31:=underlying34
 a31:=Tryz.isAgg34
 z31:=Tryz.sizeOf34
 v31:=Tryz.zeroValue34
 t46:=underlying192
 a46:=Tryz.isAgg192
 z46:=Tryz.sizeOf192
 v46:=Tryz.zeroValue192
 t51:=underlying247
 a51:=Tryz.isAgg247
 z51:=Tryz.sizeOf247
 v51:=Tryz.zeroValue247
 t53:=underlying149
 a53:=Tryz.isAgg149
 z53:=Tryz.sizeOf149
 v53:=Tryz.zeroValue149
 t131:=underlying89
 a131:=Tryz.isAgg89
 z131:=Tryz.sizeOf89
 v131:=Tryz.zeroValue89
 t182:=underlying314
 a182:=Tryz.isAgg314
 z182:=Tryz.sizeOf314
 v182:=Tryz.zeroValue314
 t183:=underlying315
 a183:=Tryz.isAgg315
 z183:=Tryz.sizeOf315
 v183:=Tryz.zeroValue315
 t218:=underlying331
 a218:=Tryz.isAgg331
 z218:=Tryz.sizeOf331
 v218:=Tryz.zeroValue331
 t222:=underlying329
 a222:=Tryz.isAgg329
 z222:=Tryz.sizeOf329
 v222:=Tryz.zeroValue329
 t228:=underlying338
 a228:=Tryz.isAgg338
 z228:=Tryz.sizeOf338
 v228:=Tryz.zeroValue338
 t229:=underlying336
 a229:=Tryz.isAgg336
 z229:=Tryz.sizeOf336
 v229:=Tryz.zeroValue336}
open Go.Sort Go.RowKit in
theorem Tryz.slices_Sort_string (blk off cap:Nat) (ss:List (List UInt8)) (w:World) (hH:Holds encStr w blk off ss.toArray) (hblk:blk<w.heap.size) (hsz:ss.length<4611686018427387904):
 Calls prog 197 #[.slice (some ⟨blk,off,none⟩) ss.length cap] w fun e w'=>
  e=.returned (.tuple #[])∧ ∃ n os,w'=grow (putRow encStr (Sort.ahead w n) blk off (ss.mergeSort fun x y=>decide (x≤y)).toArray) os:=Any.slices_Sort_string Tryz.lays190 blk off cap ss w hH hblk hsz
def Tryz.lays192_ren:Go.Shelf.Ren:=⟨fun|192=>144|190=>197|125=>233|258=>235|128=>262|129=>215|302=>271|303=>272|304=>273|305=>274|306=>275|307=>276|308=>251|309=>277|310=>278|333=>289|329=>290|330=>291|334=>292|335=>293|336=>283|344=>297|n=>n,fun|31=>34|0=>0|9=>9|3=>3|46=>192|51=>247|53=>149|4=>4|183=>315|182=>314|131=>89|5=>5|218=>331|222=>329|228=>338|229=>336|n=>n,fun|n=>n⟩
theorem Tryz.lays192:Go.Proofs.Lays.n192 prog Tryz.lays192_ren:={
 mixed:=kR
 f125:=Tryz.func233.trans kS
 f128:=Tryz.func262.trans kS
 f129:=Tryz.func215.trans kS
 f190:=Tryz.func197.trans kS
 f192:=Tryz.func144.trans kS
 f258:=Tryz.func235.trans kS
 f302:=Tryz.func271.trans kS
 f303:=Tryz.func272.trans kS
 f304:=Tryz.func273.trans kS
 f305:=Tryz.func274.trans kS
 f306:=Tryz.func275.trans kS
 f307:=Tryz.func276.trans kS
 f308:=Tryz.func251.trans kS
 f309:=Tryz.func277.trans kS
 f310:=Tryz.func278.trans kS
 f329:=Tryz.func290.trans kS
 f330:=Tryz.func291.trans kS
 f333:=Tryz.func289.trans kS
 f334:=Tryz.func292.trans kS
 f335:=Tryz.func293.trans kS
 f336:=Tryz.func283.trans kS
 f344:=Tryz.func297.trans kS
 t0:=underlying0
 a0:=Tryz.isAgg0
 z0:=Tryz.sizeOf0
 v0:=Tryz.zeroValue0
 t3:=underlying3
 a3:=Tryz.isAgg3
 z3:=Tryz.sizeOf3
 v3:=Tryz.zeroValue3
 t4:=underlying4
 a4:=Tryz.isAgg4
 z4:=Tryz.sizeOf4
 v4:=Tryz.zeroValue4
 t5:=underlying5
 a5:=Tryz.isAgg5
 z5:=Tryz.sizeOf5
 v5:=Tryz.zeroValue5
 t9:=underlying9
 a9:=Tryz.isAgg9
 z9:=Tryz.sizeOf9
 v9:=Tryz.zeroValue9
 t31:=underlying34
 a31:=Tryz.isAgg34
 z31:=Tryz.sizeOf34
 v31:=Tryz.zeroValue34
 t46:=underlying192
 a46:=Tryz.isAgg192
 z46:=Tryz.sizeOf192
 v46:=Tryz.zeroValue192
 t51:=underlying247
 a51:=Tryz.isAgg247
 z51:=Tryz.sizeOf247
 v51:=Tryz.zeroValue247
 t53:=underlying149
 a53:=Tryz.isAgg149
 z53:=Tryz.sizeOf149
 v53:=Tryz.zeroValue149
 t131:=underlying89
 a131:=Tryz.isAgg89
 z131:=Tryz.sizeOf89
 v131:=Tryz.zeroValue89
 t182:=underlying314
 a182:=Tryz.isAgg314
 z182:=Tryz.sizeOf314
 v182:=Tryz.zeroValue314
 t183:=underlying315
 a183:=Tryz.isAgg315
 z183:=Tryz.sizeOf315
 v183:=Tryz.zeroValue315
 t218:=underlying331
 a218:=Tryz.isAgg331
 z218:=Tryz.sizeOf331
 v218:=Tryz.zeroValue331
 t222:=underlying329
 a222:=Tryz.isAgg329
 z222:=Tryz.sizeOf329
 v222:=Tryz.zeroValue329
 t228:=underlying338
 a228:=Tryz.isAgg338
 z228:=Tryz.sizeOf338
 v228:=Tryz.zeroValue338
 t229:=underlying336
 a229:=Tryz.isAgg336
 z229:=Tryz.sizeOf336
 v229:=Tryz.zeroValue336}
open Go.Sort Go.RowKit in
theorem Tryz.sort_Strings (blk off cap:Nat) (ss:List (List UInt8)) (w:World) (hH:Holds encStr w blk off ss.toArray) (hblk:blk<w.heap.size) (hsz:ss.length<4611686018427387904):
 Calls prog 144 #[.slice (some ⟨blk,off,none⟩) ss.length cap] w fun e w'=>
  e=.returned (.tuple #[])∧ ∃ n os,w'=grow (putRow encStr (Sort.ahead w n) blk off (ss.mergeSort fun x y=>decide (x≤y)).toArray) os:=Any.sort_Strings Tryz.lays192 blk off cap ss w hH hblk hsz
def Tryz.lays149_ren:Go.Shelf.Ren:=⟨fun|149=>155|222=>204|n=>n,fun|9=>9|5=>5|3=>3|4=>4|n=>n,fun|n=>n⟩
theorem Tryz.lays149:Go.Proofs.Lays.n149 prog Tryz.lays149_ren:={
 mixed:=kR
 f149:=Tryz.func155.trans kS
 f222:=Tryz.func204.trans kS
 t3:=underlying3
 a3:=Tryz.isAgg3
 z3:=Tryz.sizeOf3
 v3:=Tryz.zeroValue3
 t4:=underlying4
 a4:=Tryz.isAgg4
 z4:=Tryz.sizeOf4
 v4:=Tryz.zeroValue4
 t5:=underlying5
 a5:=Tryz.isAgg5
 z5:=Tryz.sizeOf5
 v5:=Tryz.zeroValue5
 t9:=underlying9
 a9:=Tryz.isAgg9
 z9:=Tryz.sizeOf9
 v9:=Tryz.zeroValue9}
open Go.RowKit Go.Lib in
theorem Tryz.strings_LastIndexByte (s:ByteArray) (c:Int) (hs:s.size<4611686018427387904) (w:World):
 Calls prog 155 #[.string s,.int .u8 c] w fun e w'=>e=.returned (.int .i64 (Lib.lastIndexByte s c))∧w'=w:=Any.strings_LastIndexByte Tryz.lays149 s c hs w
def Tryz.lays102_ren:Go.Shelf.Ren:=⟨fun|102=>9|209=>23|207=>59|n=>n,fun|9=>9|4=>4|3=>3|n=>n,fun|n=>n⟩
theorem Tryz.lays102:Go.Proofs.Lays.n102 prog Tryz.lays102_ren:={
 mixed:=kR
 f102:=Tryz.func9.trans kS
 f207:=Tryz.func59.trans kS
 f209:=Tryz.func23.trans kS
 t3:=underlying3
 a3:=Tryz.isAgg3
 z3:=Tryz.sizeOf3
 v3:=Tryz.zeroValue3
 t4:=underlying4
 a4:=Tryz.isAgg4
 z4:=Tryz.sizeOf4
 v4:=Tryz.zeroValue4
 t9:=underlying9
 a9:=Tryz.isAgg9
 z9:=Tryz.sizeOf9
 v9:=Tryz.zeroValue9}
open Go.RowKit Go.Lib in
theorem Tryz.strings_TrimSuffix (s p:ByteArray) (w:World) (hs:s.size≤9223372036854775807):
 Calls prog 9 #[.string s,.string p] w fun e w'=>e=.returned (.string ⟨(Lib.trimSuffix s.data.toList p.data.toList).toArray⟩)∧w'=w:=Any.strings_TrimSuffix Tryz.lays102 s p w hs
def Tryz.lays146_ren:Go.Shelf.Ren:=⟨fun|146=>13|221=>30|268=>79|138=>80|143=>58|195=>138|197=>57|218=>139|219=>117|260=>116|217=>169|225=>170|224=>171|267=>172|266=>212|314=>213|n=>n,fun|9=>9|31=>34|3=>3|4=>4|0=>0|105=>123|21=>21|5=>5|46=>192|119=>217|139=>220|138=>219|146=>248|51=>247|n=>n,fun|1=>4|3=>2|4=>3|n=>n⟩
theorem Tryz.lays146:Go.Proofs.Lays.n146 prog Tryz.lays146_ren:={
 mixed:=kR
 f138:=Tryz.func80.trans kS
 f143:=Tryz.func58.trans kS
 f146:=Tryz.func13.trans kS
 f195:=Tryz.func138.trans kS
 f197:=Tryz.func57.trans kS
 f217:=Tryz.func169.trans kS
 f218:=Tryz.func139.trans kS
 f219:=Tryz.func117.trans kS
 f221:=Tryz.func30.trans kS
 f224:=Tryz.func171.trans kS
 f225:=Tryz.func170.trans kS
 f260:=Tryz.func116.trans kS
 f266:=Tryz.func212.trans kS
 f267:=Tryz.func172.trans kS
 f268:=Tryz.func79.trans kS
 f314:=Tryz.func213.trans kS
 t0:=underlying0
 a0:=Tryz.isAgg0
 z0:=Tryz.sizeOf0
 v0:=Tryz.zeroValue0
 t3:=underlying3
 a3:=Tryz.isAgg3
 z3:=Tryz.sizeOf3
 v3:=Tryz.zeroValue3
 t4:=underlying4
 a4:=Tryz.isAgg4
 z4:=Tryz.sizeOf4
 v4:=Tryz.zeroValue4
 t5:=underlying5
 a5:=Tryz.isAgg5
 z5:=Tryz.sizeOf5
 v5:=Tryz.zeroValue5
 t9:=underlying9
 a9:=Tryz.isAgg9
 z9:=Tryz.sizeOf9
 v9:=Tryz.zeroValue9
 t21:=underlying21
 a21:=Tryz.isAgg21
 z21:=Tryz.sizeOf21
 v21:=Tryz.zeroValue21
 t31:=underlying34
 a31:=Tryz.isAgg34
 z31:=Tryz.sizeOf34
 v31:=Tryz.zeroValue34
 t46:=underlying192
 a46:=Tryz.isAgg192
 z46:=Tryz.sizeOf192
 v46:=Tryz.zeroValue192
 t51:=underlying247
 a51:=Tryz.isAgg247
 z51:=Tryz.sizeOf247
 v51:=Tryz.zeroValue247
 t105:=underlying123
 a105:=Tryz.isAgg123
 z105:=Tryz.sizeOf123
 v105:=Tryz.zeroValue123
 t119:=underlying217
 a119:=Tryz.isAgg217
 z119:=Tryz.sizeOf217
 t138:=underlying219
 a138:=Tryz.isAgg219
 z138:=Tryz.sizeOf219
 v138:=Tryz.zeroValue219
 t139:=underlying220
 a139:=Tryz.isAgg220
 z139:=Tryz.sizeOf220
 v139:=Tryz.zeroValue220
 t146:=underlying248
 a146:=Tryz.isAgg248
 z146:=Tryz.sizeOf248
 v146:=Tryz.zeroValue248
 g1:=kR
 g3:=kR
 g4:=by kernel_rfl}
open Go.RowKit Go.Lib in
theorem Tryz.strings_Split (s sep:ByteArray) (m:Int) (w:World) (hs:s.size<4294967281) (hm:w.cell? ⟨4,0,none⟩=some (.int .i64 m)) (h1:1≤sep.size):
 Calls prog 13 #[.string s,.string sep] w fun e w'=>
  e=.returned (.slice (some ⟨w.heap.size,0,none⟩) (Lib.countB s sep+1) (Lib.countB s sep+1))∧w'=w.alloc (.cells ((Lib.splitB sep 0 (Lib.countB s sep) s).map Value.string).toArray 9):=Any.strings_Split Tryz.lays146 kR s sep m w hs hm h1
def Tryz.lays105_ren:Go.Shelf.Ren:=⟨fun|105=>98|212=>147|99=>148|165=>100|166=>10|170=>149|169=>12|263=>198|264=>199|206=>200|240=>24|241=>150|276=>60|277=>201|n=>n,fun|9=>9|3=>3|4=>4|20=>20|0=>0|46=>192|109=>193|5=>5|72=>38|76=>45|51=>247|146=>248|53=>149|148=>250|70=>35|37=>36|75=>44|127=>79|164=>126|80=>47|n=>n,fun|n=>n⟩
theorem Tryz.lays105:Go.Proofs.Lays.n105 prog Tryz.lays105_ren:={
 mixed:=kR
 f99:=Tryz.func148.trans kS
 f105:=Tryz.func98.trans kS
 f165:=Tryz.func100.trans kS
 f166:=Tryz.func10.trans kS
 f169:=Tryz.func12.trans kS
 f170:=Tryz.func149.trans kS
 f206:=Tryz.func200.trans kS
 f212:=Tryz.func147.trans kS
 f240:=Tryz.func24.trans kS
 f241:=Tryz.func150.trans kS
 f263:=Tryz.func198.trans kS
 f264:=Tryz.func199.trans kS
 f276:=Tryz.func60.trans kS
 f277:=Tryz.func201.trans kS
 t0:=underlying0
 a0:=Tryz.isAgg0
 z0:=Tryz.sizeOf0
 v0:=Tryz.zeroValue0
 t3:=underlying3
 a3:=Tryz.isAgg3
 z3:=Tryz.sizeOf3
 v3:=Tryz.zeroValue3
 t4:=underlying4
 a4:=Tryz.isAgg4
 z4:=Tryz.sizeOf4
 v4:=Tryz.zeroValue4
 t5:=underlying5
 a5:=Tryz.isAgg5
 z5:=Tryz.sizeOf5
 v5:=Tryz.zeroValue5
 t9:=underlying9
 a9:=Tryz.isAgg9
 z9:=Tryz.sizeOf9
 v9:=Tryz.zeroValue9
 t20:=underlying20
 a20:=Tryz.isAgg20
 z20:=Tryz.sizeOf20
 v20:=Tryz.zeroValue20
 t37:=underlying36
 a37:=Tryz.isAgg36
 z37:=Tryz.sizeOf36
 v37:=Tryz.zeroValue36
 t46:=underlying192
 a46:=Tryz.isAgg192
 z46:=Tryz.sizeOf192
 v46:=Tryz.zeroValue192
 t51:=underlying247
 a51:=Tryz.isAgg247
 z51:=Tryz.sizeOf247
 v51:=Tryz.zeroValue247
 t53:=underlying149
 a53:=Tryz.isAgg149
 z53:=Tryz.sizeOf149
 v53:=Tryz.zeroValue149
 t70:=underlying35
 a70:=Tryz.isAgg35
 z70:=Tryz.sizeOf35
 v70:=Tryz.zeroValue35
 t72:=underlying38
 a72:=Tryz.isAgg38
 z72:=Tryz.sizeOf38
 v72:=Tryz.zeroValue38
 t75:=underlying44
 a75:=Tryz.isAgg44
 z75:=Tryz.sizeOf44
 v75:=Tryz.zeroValue44
 t76:=underlying45
 a76:=Tryz.isAgg45
 z76:=Tryz.sizeOf45
 v76:=Tryz.zeroValue45
 t109:=underlying193
 a109:=Tryz.isAgg193
 z109:=Tryz.sizeOf193
 v109:=Tryz.zeroValue193
 t127:=underlying79
 a127:=Tryz.isAgg79
 z127:=Tryz.sizeOf79
 v127:=Tryz.zeroValue79
 t146:=underlying248
 a146:=Tryz.isAgg248
 z146:=Tryz.sizeOf248
 v146:=Tryz.zeroValue248
 t148:=underlying250
 a148:=Tryz.isAgg250
 z148:=Tryz.sizeOf250
 v148:=Tryz.zeroValue250
 t164:=underlying126
 a164:=Tryz.isAgg126
 z164:=Tryz.sizeOf126
 v164:=Tryz.zeroValue126}
theorem Tryz.Builder_Extra_105:Builder.Extra prog Tryz.lays105_ren:={
 sizeBuilder:=kR
 liesBuilder:=kR
 t5:=underlying5
 a5:=Tryz.isAgg5
 z5:=Tryz.sizeOf5
 v5:=Tryz.zeroValue5
 infoByte:=kR
 cellsByte:=kR
 sizeByte:=kR
 neB5:=by decide}
open Go.RowKit Go.Lib in
theorem Tryz.strings_Repeat (s:ByteArray) (c:Nat) (w:World) (hc:c≤9223372036854775807) (hlen:s.size*c≤140737488355328):
 Calls prog 98 #[.string s,.int .i64 c] w fun e w'=>e=.returned (.string ⟨(Lib.repeatL s.data.toList c).toArray⟩)∧Below w.heap.size w w':=Any.strings_Repeat Tryz.lays105 Tryz.Builder_Extra_105 s c w hc hlen
def Tryz.lays229_ren:Go.Shelf.Ren:=⟨fun|229=>27|n=>n,fun|9=>9|40=>77|31=>34|152=>128|3=>3|0=>0|4=>4|21=>21|154=>130|n=>n,fun|n=>n⟩
theorem Tryz.lays229:Go.Proofs.Lays.n229 prog Tryz.lays229_ren:={
 mixed:=kR
 f229:=Tryz.func27.trans kS
 t0:=underlying0
 a0:=Tryz.isAgg0
 z0:=Tryz.sizeOf0
 v0:=Tryz.zeroValue0
 t3:=underlying3
 a3:=Tryz.isAgg3
 z3:=Tryz.sizeOf3
 v3:=Tryz.zeroValue3
 t4:=underlying4
 a4:=Tryz.isAgg4
 z4:=Tryz.sizeOf4
 v4:=Tryz.zeroValue4
 t9:=underlying9
 a9:=Tryz.isAgg9
 z9:=Tryz.sizeOf9
 v9:=Tryz.zeroValue9
 t21:=underlying21
 a21:=Tryz.isAgg21
 z21:=Tryz.sizeOf21
 v21:=Tryz.zeroValue21
 t31:=underlying34
 a31:=Tryz.isAgg34
 z31:=Tryz.sizeOf34
 v31:=Tryz.zeroValue34
 t40:=underlying77
 a40:=Tryz.isAgg77
 z40:=Tryz.sizeOf77
 v40:=Tryz.zeroValue77
 t152:=underlying128
 a152:=Tryz.isAgg128
 z152:=Tryz.sizeOf128
 v152:=Tryz.zeroValue128
 t154:=underlying130
 a154:=Tryz.isAgg130
 z154:=Tryz.sizeOf130
 v154:=Tryz.zeroValue130}
open Go.RowKit Go.Lib in
theorem Tryz.strings_FieldsFunc (g:Nat) (lb:Array Value) (eg: ∀ args w,(callFunc g args).run prog w=.ok (.enter g args) w) (p:Nat→Bool) (s:ByteArray) (w:World) (hs:s.size≤4294967296) (hp:PredAt prog g lb encR p w):
 Calls prog 27 #[.string s,.func (.func g) #[] lb] w fun e w'=> ∃ A,e=.returned (.slice (some ⟨A,0,none⟩) (Lib.goFieldsP p s).length (Lib.goFieldsP p s).length)∧w.heap.size≤A∧
  w'.ownsRow w.heap.size 9 1 (.slice (some ⟨A,0,none⟩) (Lib.goFieldsP p s).length (Lib.goFieldsP p s).length) (Lib.goFieldsP p s).length ((Lib.goFieldsP p s).map Value.string)∧Below w.heap.size w w':=Any.strings_FieldsFunc Tryz.lays229 g lb eg p s w hs hp kR kR
def Tryz.lays194_ren:Go.Shelf.Ren:=⟨fun|194=>222|n=>n,fun|31=>34|9=>9|3=>3|4=>4|0=>0|n=>n,fun|n=>n⟩
theorem Tryz.lays194:Go.Proofs.Lays.n194 prog Tryz.lays194_ren:={
 mixed:=kR
 f194:=Tryz.func222.trans kS
 t0:=underlying0
 a0:=Tryz.isAgg0
 z0:=Tryz.sizeOf0
 v0:=Tryz.zeroValue0
 t3:=underlying3
 a3:=Tryz.isAgg3
 z3:=Tryz.sizeOf3
 v3:=Tryz.zeroValue3
 t4:=underlying4
 a4:=Tryz.isAgg4
 z4:=Tryz.sizeOf4
 v4:=Tryz.zeroValue4
 t9:=underlying9
 a9:=Tryz.isAgg9
 z9:=Tryz.sizeOf9
 v9:=Tryz.zeroValue9
 t31:=underlying34
 a31:=Tryz.isAgg34
 z31:=Tryz.sizeOf34
 v31:=Tryz.zeroValue34}
open Go.RowKit Go.Lib Go.Sort in
theorem Tryz.slices_Compact_string (blk off cap:Nat) (zs:List (List UInt8)) (w:World) (hH:Holds encStr w blk off zs.toArray) (hsz:zs.length≤9223372036854775807) (hcap:zs.length≤cap):
 Calls prog 222 #[.slice (some ⟨blk,off,none⟩) zs.length cap] w fun e w'=>e=.returned (.slice (some ⟨blk,off,none⟩) (Lib.compact zs).length cap)∧ ∃ q,w'=putRow encStr (Sort.ahead w q) blk off (Lib.compact zs++List.replicate (zs.length - (Lib.compact zs).length) []).toArray:=Any.slices_Compact_string Tryz.lays194 blk off cap zs w hH hsz hcap
def Tryz.tri160_ren:Go.Shelf.Ren:=⟨fun|160=>219|232=>242|231=>241|227=>243|234=>245|233=>244|236=>247|235=>246|228=>280|271=>282|151=>281|197=>57|120=>295|152=>294|260=>116|137=>194|119=>298|224=>171|225=>170|217=>169|266=>212|n=>n,fun|9=>9|4=>4|3=>3|5=>5|117=>301|116=>300|0=>0|124=>304|21=>21|105=>123|46=>192|119=>217|139=>220|138=>219|n=>n,fun|3=>2|4=>3|n=>n⟩
theorem Tryz.tri160:Go.Proofs.Lays.n160 prog Tryz.tri160_ren:={
 mixed:=kR
 f119:=Tryz.func298.trans kS
 f120:=Tryz.func295.trans kS
 f137:=Tryz.func194.trans kS
 f151:=Tryz.func281.trans kS
 f152:=Tryz.func294.trans kS
 f160:=Tryz.func219.trans kS
 f197:=Tryz.func57.trans kS
 f217:=Tryz.func169.trans kS
 f224:=Tryz.func171.trans kS
 f225:=Tryz.func170.trans kS
 f227:=Tryz.func243.trans kS
 f228:=Tryz.func280.trans kS
 f231:=Tryz.func241.trans kS
 f232:=Tryz.func242.trans kS
 f233:=Tryz.func244.trans kS
 f234:=Tryz.func245.trans kS
 f235:=Tryz.func246.trans kS
 f236:=Tryz.func247.trans kS
 f260:=Tryz.func116.trans kS
 f266:=Tryz.func212.trans kS
 f271:=Tryz.func282.trans kS
 t0:=underlying0
 a0:=Tryz.isAgg0
 z0:=Tryz.sizeOf0
 v0:=Tryz.zeroValue0
 t3:=underlying3
 a3:=Tryz.isAgg3
 z3:=Tryz.sizeOf3
 v3:=Tryz.zeroValue3
 t4:=underlying4
 a4:=Tryz.isAgg4
 z4:=Tryz.sizeOf4
 v4:=Tryz.zeroValue4
 t5:=underlying5
 a5:=Tryz.isAgg5
 z5:=Tryz.sizeOf5
 v5:=Tryz.zeroValue5
 t9:=underlying9
 a9:=Tryz.isAgg9
 z9:=Tryz.sizeOf9
 v9:=Tryz.zeroValue9
 t21:=underlying21
 a21:=Tryz.isAgg21
 z21:=Tryz.sizeOf21
 v21:=Tryz.zeroValue21
 t46:=underlying192
 a46:=Tryz.isAgg192
 z46:=Tryz.sizeOf192
 v46:=Tryz.zeroValue192
 t105:=underlying123
 a105:=Tryz.isAgg123
 z105:=Tryz.sizeOf123
 v105:=Tryz.zeroValue123
 t116:=underlying300
 a116:=Tryz.isAgg300
 z116:=Tryz.sizeOf300
 t117:=underlying301
 a117:=Tryz.isAgg301
 z117:=Tryz.sizeOf301
 v117:=Tryz.zeroValue301
 t119:=underlying217
 a119:=Tryz.isAgg217
 z119:=Tryz.sizeOf217
 t124:=underlying304
 a124:=Tryz.isAgg304
 z124:=Tryz.sizeOf304
 v124:=Tryz.zeroValue304
 t138:=underlying219
 a138:=Tryz.isAgg219
 z138:=Tryz.sizeOf219
 v138:=Tryz.zeroValue219
 t139:=underlying220
 a139:=Tryz.isAgg220
 z139:=Tryz.sizeOf220
 v139:=Tryz.zeroValue220
 g3:=kR
 g4:=by kernel_rfl}
def Tryz.bs26_ren:Go.Shelf.Ren:=⟨fun|26=>226|33=>251|34=>252|38=>283|n=>n,fun|24=>34|9=>9|3=>3|4=>4|40=>192|0=>0|n=>n,fun|n=>n⟩
theorem Tryz.bs26:Go.Proofs.Lays2.n26 prog Tryz.bs26_ren:={
 mixed:=kR
 f26:=Tryz.func226.trans kS
 f33:=Tryz.func251.trans kS
 f34:=Tryz.func252.trans kS
 f38:=Tryz.func283.trans kS
 t0:=underlying0
 a0:=Tryz.isAgg0
 z0:=Tryz.sizeOf0
 v0:=Tryz.zeroValue0
 t3:=underlying3
 a3:=Tryz.isAgg3
 z3:=Tryz.sizeOf3
 v3:=Tryz.zeroValue3
 t4:=underlying4
 a4:=Tryz.isAgg4
 z4:=Tryz.sizeOf4
 v4:=Tryz.zeroValue4
 t9:=underlying9
 a9:=Tryz.isAgg9
 z9:=Tryz.sizeOf9
 v9:=Tryz.zeroValue9
 t24:=underlying34
 a24:=Tryz.isAgg34
 z24:=Tryz.sizeOf34
 v24:=Tryz.zeroValue34
 t40:=underlying192
 a40:=Tryz.isAgg192
 z40:=Tryz.sizeOf192
 v40:=Tryz.zeroValue192}
def Tryz.spl146_ren:Go.Shelf.Ren:=⟨fun|146=>13|221=>30|268=>79|138=>80|143=>58|195=>138|197=>57|218=>139|219=>117|260=>116|217=>169|225=>170|224=>171|267=>172|266=>212|314=>213|n=>n,fun|9=>9|31=>34|3=>3|4=>4|0=>0|105=>123|21=>21|5=>5|46=>192|119=>217|139=>220|138=>219|146=>248|51=>247|n=>n,fun|1=>4|3=>2|4=>3|n=>n⟩
theorem Tryz.spl146:Go.Proofs.LaysM.n146 prog Tryz.spl146_ren:={
 mixed:=kR
 f138:=Tryz.func80.trans kS
 f143:=Tryz.func58.trans kS
 f146:=Tryz.func13.trans kS
 f195:=Tryz.func138.trans kS
 f197:=Tryz.func57.trans kS
 f217:=Tryz.func169.trans kS
 f218:=Tryz.func139.trans kS
 f219:=Tryz.func117.trans kS
 f221:=Tryz.func30.trans kS
 f224:=Tryz.func171.trans kS
 f225:=Tryz.func170.trans kS
 f260:=Tryz.func116.trans kS
 f266:=Tryz.func212.trans kS
 f267:=Tryz.func172.trans kS
 f268:=Tryz.func79.trans kS
 f314:=Tryz.func213.trans kS
 t0:=underlying0
 a0:=Tryz.isAgg0
 z0:=Tryz.sizeOf0
 v0:=Tryz.zeroValue0
 t3:=underlying3
 a3:=Tryz.isAgg3
 z3:=Tryz.sizeOf3
 v3:=Tryz.zeroValue3
 t4:=underlying4
 a4:=Tryz.isAgg4
 z4:=Tryz.sizeOf4
 v4:=Tryz.zeroValue4
 t5:=underlying5
 a5:=Tryz.isAgg5
 z5:=Tryz.sizeOf5
 v5:=Tryz.zeroValue5
 t9:=underlying9
 a9:=Tryz.isAgg9
 z9:=Tryz.sizeOf9
 v9:=Tryz.zeroValue9
 t21:=underlying21
 a21:=Tryz.isAgg21
 z21:=Tryz.sizeOf21
 v21:=Tryz.zeroValue21
 t31:=underlying34
 a31:=Tryz.isAgg34
 z31:=Tryz.sizeOf34
 v31:=Tryz.zeroValue34
 t46:=underlying192
 a46:=Tryz.isAgg192
 z46:=Tryz.sizeOf192
 v46:=Tryz.zeroValue192
 t51:=underlying247
 a51:=Tryz.isAgg247
 z51:=Tryz.sizeOf247
 v51:=Tryz.zeroValue247
 t105:=underlying123
 a105:=Tryz.isAgg123
 z105:=Tryz.sizeOf123
 v105:=Tryz.zeroValue123
 t119:=underlying217
 a119:=Tryz.isAgg217
 z119:=Tryz.sizeOf217
 t138:=underlying219
 a138:=Tryz.isAgg219
 z138:=Tryz.sizeOf219
 v138:=Tryz.zeroValue219
 t139:=underlying220
 a139:=Tryz.isAgg220
 z139:=Tryz.sizeOf220
 v139:=Tryz.zeroValue220
 t146:=underlying248
 a146:=Tryz.isAgg248
 z146:=Tryz.sizeOf248
 v146:=Tryz.zeroValue248
 g1:=kR
 g3:=kR
 g4:=kR
 i0:=kR
 i3:=kR
 i4:=kR
 i5:=kR
 i9:=kR
 i21:=kR
 i31:=kR
 i46:=kR
 i51:=kR
 i105:=kR
 i138:=kR
 i139:=kR
 i146:=kR
 m1:=kR
 s1_3:=fun w h=>Go.Proofs.cell_of_shapedOpen_int (zero:=#[.int .i64 0]) (t:=3) h (of_decide_eq_true kR) kR rfl kR kR underlying3
 m3:=kR
 m4:=by kernel_rfl}
def Tryz.sl6_ren:Go.Shelf.Ren:=⟨fun|6=>195|10=>165|11=>231|12=>232|13=>233|14=>234|24=>262|25=>215|26=>263|27=>264|28=>265|29=>266|30=>267|31=>268|32=>269|33=>270|34=>284|35=>285|36=>286|37=>287|38=>288|39=>296|n=>n,fun|20=>20|26=>246|35=>208|0=>0|37=>285|3=>3|41=>192|44=>289|49=>247|51=>149|4=>4|54=>308|53=>307|58=>89|5=>5|9=>9|60=>325|64=>329|66=>335|67=>336|17=>17|32=>126|33=>206|82=>351|12=>12|75=>346|76=>213|77=>347|78=>79|79=>348|80=>349|n=>n,fun|n=>n⟩
theorem Tryz.sl6:Go.Proofs.LaysGg.n6 prog Tryz.sl6_ren:={
 mixed:=kR
 f6:=Tryz.func195.trans kS
 f10:=Tryz.func165.trans kS
 f11:=Tryz.func231.trans kS
 f12:=Tryz.func232.trans kS
 f13:=Tryz.func233.trans kS
 f14:=Tryz.func234.trans kS
 f24:=Tryz.func262.trans kS
 f25:=Tryz.func215.trans kS
 f26:=Tryz.func263.trans kS
 f27:=Tryz.func264.trans kS
 f28:=Tryz.func265.trans kS
 f29:=Tryz.func266.trans kS
 f30:=Tryz.func267.trans kS
 f31:=Tryz.func268.trans kS
 f32:=Tryz.func269.trans kS
 f33:=Tryz.func270.trans kS
 f34:=Tryz.func284.trans kS
 f35:=Tryz.func285.trans kS
 f36:=Tryz.func286.trans kS
 f37:=Tryz.func287.trans kS
 f38:=Tryz.func288.trans kS
 f39:=Tryz.func296.trans kS
 t0:=underlying0
 a0:=Tryz.isAgg0
 z0:=Tryz.sizeOf0
 v0:=Tryz.zeroValue0
 i0:=kR
 t3:=underlying3
 a3:=Tryz.isAgg3
 z3:=Tryz.sizeOf3
 v3:=Tryz.zeroValue3
 i3:=kR
 t4:=underlying4
 a4:=Tryz.isAgg4
 z4:=Tryz.sizeOf4
 v4:=Tryz.zeroValue4
 i4:=kR
 t5:=underlying5
 a5:=Tryz.isAgg5
 z5:=Tryz.sizeOf5
 v5:=Tryz.zeroValue5
 i5:=kR
 t9:=underlying9
 a9:=Tryz.isAgg9
 z9:=Tryz.sizeOf9
 v9:=Tryz.zeroValue9
 i9:=kR
 t12:=underlying12
 a12:=Tryz.isAgg12
 z12:=Tryz.sizeOf12
 v12:=Tryz.zeroValue12
 i12:=kR
 t17:=underlying17
 a17:=Tryz.isAgg17
 z17:=Tryz.sizeOf17
 v17:=Tryz.zeroValue17
 i17:=kR
 t20:=underlying20
 a20:=Tryz.isAgg20
 z20:=Tryz.sizeOf20
 v20:=Tryz.zeroValue20
 i20:=kR
 t26:=underlying246
 a26:=Tryz.isAgg246
 z26:=Tryz.sizeOf246
 v26:=Tryz.zeroValue246
 i26:=kR
 t32:=underlying126
 a32:=Tryz.isAgg126
 z32:=Tryz.sizeOf126
 v32:=Tryz.zeroValue126
 i32:=kR
 t33:=underlying206
 a33:=Tryz.isAgg206
 z33:=Tryz.sizeOf206
 v33:=Tryz.zeroValue206
 i33:=kR
 t35:=underlying208
 a35:=Tryz.isAgg208
 z35:=Tryz.sizeOf208
 v35:=Tryz.zeroValue208
 i35:=kR
 t37:=underlying285
 a37:=Tryz.isAgg285
 z37:=Tryz.sizeOf285
 v37:=Tryz.zeroValue285
 i37:=kR
 t41:=underlying192
 a41:=Tryz.isAgg192
 z41:=Tryz.sizeOf192
 v41:=Tryz.zeroValue192
 i41:=kR
 t44:=underlying289
 a44:=Tryz.isAgg289
 z44:=Tryz.sizeOf289
 v44:=Tryz.zeroValue289
 i44:=kR
 t49:=underlying247
 a49:=Tryz.isAgg247
 z49:=Tryz.sizeOf247
 v49:=Tryz.zeroValue247
 i49:=kR
 t51:=underlying149
 a51:=Tryz.isAgg149
 z51:=Tryz.sizeOf149
 v51:=Tryz.zeroValue149
 i51:=kR
 t53:=underlying307
 a53:=Tryz.isAgg307
 z53:=Tryz.sizeOf307
 v53:=Tryz.zeroValue307
 i53:=kR
 t54:=underlying308
 a54:=Tryz.isAgg308
 z54:=Tryz.sizeOf308
 v54:=Tryz.zeroValue308
 i54:=kR
 t58:=underlying89
 a58:=Tryz.isAgg89
 z58:=Tryz.sizeOf89
 v58:=Tryz.zeroValue89
 i58:=kR
 t60:=underlying325
 a60:=Tryz.isAgg325
 z60:=Tryz.sizeOf325
 v60:=Tryz.zeroValue325
 i60:=kR
 t64:=underlying329
 a64:=Tryz.isAgg329
 z64:=Tryz.sizeOf329
 v64:=Tryz.zeroValue329
 i64:=kR
 t66:=underlying335
 a66:=Tryz.isAgg335
 z66:=Tryz.sizeOf335
 v66:=Tryz.zeroValue335
 i66:=kR
 t67:=underlying336
 a67:=Tryz.isAgg336
 z67:=Tryz.sizeOf336
 v67:=Tryz.zeroValue336
 i67:=kR
 t75:=underlying346
 a75:=Tryz.isAgg346
 z75:=Tryz.sizeOf346
 v75:=Tryz.zeroValue346
 i75:=kR
 t76:=underlying213
 a76:=Tryz.isAgg213
 z76:=Tryz.sizeOf213
 v76:=Tryz.zeroValue213
 i76:=kR
 t77:=underlying347
 a77:=Tryz.isAgg347
 z77:=Tryz.sizeOf347
 v77:=Tryz.zeroValue347
 i77:=kR
 t78:=underlying79
 a78:=Tryz.isAgg79
 z78:=Tryz.sizeOf79
 v78:=Tryz.zeroValue79
 i78:=kR
 t79:=underlying348
 a79:=Tryz.isAgg348
 z79:=Tryz.sizeOf348
 v79:=Tryz.zeroValue348
 i79:=kR
 t80:=underlying349
 a80:=Tryz.isAgg349
 z80:=Tryz.sizeOf349
 v80:=Tryz.zeroValue349
 i80:=kR
 t82:=underlying351
 a82:=Tryz.isAgg351
 z82:=Tryz.sizeOf351
 v82:=Tryz.zeroValue351
 i82:=by kernel_rfl}
end Go.Proofs
