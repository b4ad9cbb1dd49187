/- DERIVED: THE SHELF's CONTRACTS AT THIS DUMP, IN PLAIN WORDS (tools/lay-plain.mjs out of 'TryzShelf.lean', which tools/lay-shelf.mjs wrote): THE SAME DECLARATIONS UNDER THE SAME NAMES: 'import', 'namespace', 'open', 'def', 'theorem' AND NOTHING ELSE: no command of the shelf's: FOR A HAND-IN. Each laying: the table of numbers ('.._ren') and one theorem, a field a fact of the dump's own or the kernel's comparison; each contract: ONE APPLICATION. -/
import Derived.Shelf.Strings.Builder1
import Derived.Shelf.Strings.Builder2
import Derived.Shelf.Strings.OnBuilder
import Derived.Shelf.Strings.Trim
import Derived.Shelf.Small.Utf8
import Derived.Shelf.Small.Bits
import Derived.Shelf.Small.Strs
import Derived.Shelf.Small.Wraps
import Derived.Shelf.Strings.BuilderF
import Derived.Shelf.Strings.BuilderK
import Derived.Shelf.Utf8.RuneCount
import Derived.Shelf.Strings.Builder2Cap
import Derived.Shelf.Strconv.Atoi
import Derived.Shelf.Strconv.Itoa0
import Derived.Shelf.Strconv.Itoa1
import Derived.Shelf.LaysM
import Derived.Shelf.Strconv.Itoa2
import Derived.Shelf.Strconv.Itoa3
import Derived.Shelf.Strconv.AtoiErrFast
import Derived.Shelf.Strconv.ParseIntEmpty
import Derived.Shelf.Strconv.AtoiFail
import Derived.Shelf.Strconv.Clone
import Derived.Shelf.Strconv.SyntaxError
import Derived.Shelf.LaysC
import Derived.Shelf.Strconv.ToError
import Derived.Shelf.Strconv.AtoiErr
import Derived.Shelf.Strconv.ErrVar
import Derived.Shelf.Strconv.Lower
import Derived.Shelf.Strconv.ParseUint10
import Derived.Shelf.Strconv.ParseUint10Empty
import Derived.Shelf.Strconv.ParseUint10Any
import Derived.Shelf.Strconv.ParseInt10
import Derived.Shelf.Strconv.AtoiLong
import Derived.Shelf.Strconv.AtoiInnerAll
import Derived.Shelf.Strconv.RangeError
import Derived.Shelf.Strconv.ToErrorRange
import Derived.Shelf.Strconv.AtoiAll
import Derived.Shelf.Strconv.ErrVarAll
import Derived.Shelf.Strconv.ParseUintEmpty
import Derived.Shelf.Strconv.ParseUint10b64
import Derived.Shelf.Strconv.ParseUint10b32
import Derived.Shelf.Strconv.ParseUint10b16
import Derived.Shelf.Strconv.ParseUint10b8
import Derived.Shelf.Strconv.ParseUint10At
import Derived.Shelf.Strconv.ParseInt10At32
import Derived.Shelf.Strconv.ParseInt10At16
import Derived.Shelf.Strconv.ParseInt10At8
import Derived.Shelf.Strings.Search1
import Derived.Shelf.Strings.Search2
import Derived.Shelf.Strings.Search3
import Derived.Shelf.Strings.Cut
import Derived.Shelf.Strings.Count
import Derived.Shelf.Strings.Shaped
import Derived.Shelf.Sort.Plain
import Derived.Shelf.Strings.LastIndex
import Derived.Shelf.Strings.Prefix
import Derived.Shelf.Strings.Split
import Derived.Shelf.Strings.SplitShaped
import Derived.Shelf.Unicode.Decode
import Derived.Shelf.Strings.Runes
import Derived.Shelf.Strings.RuneCount
import Derived.Shelf.Strings.IndexAny
import Derived.Shelf.Strings.AsciiSet
import Derived.Shelf.Strings.IndexAnyAll
import Derived.Shelf.Strings.Explode
import Derived.Shelf.Bits.Mul64
import Derived.Shelf.Strings.Repeat
import Derived.Shelf.Unicode.DecodeSlow
import Derived.Shelf.Unicode.DecodeAny
import Derived.Shelf.Unicode.DecodeLast
import Derived.Shelf.Strings.FieldsFuncAny
import Derived.Shelf.Strings.FieldsFuncGrows
import Derived.Shelf.Strings.BuilderCap
import Derived.Shelf.Slices.Turned
import Derived.Shelf.Slices.Equal
import Derived.Ground.Names2Prog
import Derived.Shelf.Slices.ReverseS
import Derived.Shelf.Slices.SearchI
import Derived.Shelf.Slices.Cells
import Derived.Shelf.Slices.Empties2
import Derived.Ground.SlgmProg
import Derived.Shelf.SortM.SortNone
import Derived.Ground.PaProg
import Derived.Shelf.Path.Small
import Derived.Test.YtdjfgcjlnfnfhaaGreatDoorProg
import Derived.Test.YtdjfgcjlnfnfhaaGreatDoorAb
set_option linter.unusedSimpArgs false
set_option linter.unusedVariables false
namespace Go.Proofs
open Go.Shelf
def Tryz.xO:Go.Shelf.Ren:=⟨fun|156=>142|165=>216|166=>217|169=>218|240=>295|241=>296|276=>333|277=>334|n=>n,fun|31=>30|9=>9|3=>3|4=>4|0=>0|20=>20|72=>319|76=>265|70=>317|37=>35|75=>264|127=>382|164=>414|5=>5|80=>321|n=>n,fun|n=>n⟩
theorem Tryz.JC:Go.Proofs.Lays.n156 Tryz.prog Tryz.xO:={
 mixed:=by kernel_rfl
 f156:=Tryz.func142.trans (congrArg some qC)
 f165:=Tryz.func216.trans (congrArg some qC)
 f166:=Tryz.func217.trans (congrArg some qC)
 f169:=Tryz.func218.trans (congrArg some qC)
 f240:=Tryz.func295.trans (congrArg some qC)
 f241:=Tryz.func296.trans (congrArg some qC)
 f276:=Tryz.func333.trans (congrArg some qC)
 f277:=Tryz.func334.trans (congrArg some qC)
 t0:=Tryz.underlying0
 a0:=Tryz.isAgg0
 z0:=Tryz.sizeOf0
 v0:=Tryz.zeroValue0
 t3:=Tryz.underlying3
 a3:=Tryz.isAgg3
 z3:=Tryz.sizeOf3
 v3:=Tryz.zeroValue3
 t4:=Tryz.underlying4
 a4:=Tryz.isAgg4
 z4:=Tryz.sizeOf4
 v4:=Tryz.zeroValue4
 t9:=Tryz.underlying9
 a9:=Tryz.isAgg9
 z9:=Tryz.sizeOf9
 v9:=Tryz.zeroValue9
 t20:=Tryz.underlying20
 a20:=Tryz.isAgg20
 z20:=Tryz.sizeOf20
 v20:=Tryz.zeroValue20
 t31:=Tryz.underlying30
 a31:=Tryz.isAgg30
 z31:=Tryz.sizeOf30
 v31:=Tryz.zeroValue30
 t37:=Tryz.underlying35
 a37:=Tryz.isAgg35
 z37:=Tryz.sizeOf35
 v37:=Tryz.zeroValue35
 t70:=Tryz.underlying317
 a70:=Tryz.isAgg317
 z70:=Tryz.sizeOf317
 v70:=Tryz.zeroValue317
 t72:=Tryz.underlying319
 a72:=Tryz.isAgg319
 z72:=Tryz.sizeOf319
 v72:=Tryz.zeroValue319
 t75:=Tryz.underlying264
 a75:=Tryz.isAgg264
 z75:=Tryz.sizeOf264
 v75:=Tryz.zeroValue264
 t76:=Tryz.underlying265
 a76:=Tryz.isAgg265
 z76:=Tryz.sizeOf265
 v76:=Tryz.zeroValue265
 t127:=Tryz.underlying382
 a127:=Tryz.isAgg382
 z127:=Tryz.sizeOf382
 v127:=Tryz.zeroValue382
 t164:=Tryz.underlying414
 a164:=Tryz.isAgg414
 z164:=Tryz.sizeOf414
 v164:=Tryz.zeroValue414}
theorem Tryz.lP:Builder.Extra Tryz.prog Tryz.xO:={
 sizeBuilder:=by kernel_rfl
 liesBuilder:=by kernel_rfl
 t5:=Tryz.underlying5
 a5:=Tryz.isAgg5
 z5:=Tryz.sizeOf5
 v5:=Tryz.zeroValue5
 infoByte:=by kernel_rfl
 cellsByte:=by kernel_rfl
 sizeByte:=by kernel_rfl
 neB5:=by decide}
open Go.RowKit in
theorem Tryz.strings_Join_none (a:Option Addr) (c:Nat) (sep:ByteArray) (w:World):
 Calls Tryz.prog 142 #[.slice a 0 c,.string sep] w fun e w'=>e= .returned (.string ⟨#[]⟩)∧w'=w:=Any.strings_Join_none Tryz.JC Tryz.lP a c sep w
open Go.RowKit in
theorem Tryz.strings_Join (bk o c:Nat) (xs:List ByteArray) (sep:ByteArray) (w:World) (hcells: ∀(j:Nat) x,xs[j]?=some x→w.cell? ⟨bk,o+j,none⟩=some (.string x)) (hbk:bk<w.heap.size) (hN:xs.length≤140737488355328) (hcap:xs.length≤c) (hlen:(Lib.join (xs.map (·.data.toList)) sep.data.toList).length≤140737488355328):
 Calls Tryz.prog 142 #[.slice (some ⟨bk,o,none⟩) xs.length c,.string sep] w fun e w'=>e= .returned (.string ⟨(Lib.join (xs.map (·.data.toList)) sep.data.toList).toArray⟩)∧Below w.heap.size w w':=Any.strings_Join Tryz.JC Tryz.lP bk o c xs sep w hcells hbk hN hcap hlen
def Tryz.FJ:Go.Shelf.Ren:=⟨fun|161=>121|231=>189|227=>190|233=>191|235=>192|228=>211|197=>279|151=>280|260=>328|152=>209|137=>34|119=>292|224=>293|225=>294|217=>80|266=>145|n=>n,fun|9=>9|4=>4|3=>3|5=>5|117=>299|116=>298|0=>0|124=>302|105=>370|21=>21|119=>436|46=>285|139=>439|138=>438|n=>n,fun|3=>3|4=>4|n=>n⟩
theorem Tryz.JD:Go.Proofs.Lays.n161 Tryz.prog Tryz.FJ:={
 mixed:=by kernel_rfl
 f119:=Tryz.func292.trans (congrArg some qC)
 f137:=Tryz.func34.trans (congrArg some qC)
 f151:=Tryz.func280.trans (congrArg some qC)
 f152:=Tryz.func209.trans (congrArg some qC)
 f161:=Tryz.func121.trans (congrArg some qC)
 f197:=Tryz.func279.trans (congrArg some qC)
 f217:=Tryz.func80.trans (congrArg some qC)
 f224:=Tryz.func293.trans (congrArg some qC)
 f225:=Tryz.func294.trans (congrArg some qC)
 f227:=Tryz.func190.trans (congrArg some qC)
 f228:=Tryz.func211.trans (congrArg some qC)
 f231:=Tryz.func189.trans (congrArg some qC)
 f233:=Tryz.func191.trans (congrArg some qC)
 f235:=Tryz.func192.trans (congrArg some qC)
 f260:=Tryz.func328.trans (congrArg some qC)
 f266:=Tryz.func145.trans (congrArg some qC)
 t0:=Tryz.underlying0
 a0:=Tryz.isAgg0
 z0:=Tryz.sizeOf0
 v0:=Tryz.zeroValue0
 t3:=Tryz.underlying3
 a3:=Tryz.isAgg3
 z3:=Tryz.sizeOf3
 v3:=Tryz.zeroValue3
 t4:=Tryz.underlying4
 a4:=Tryz.isAgg4
 z4:=Tryz.sizeOf4
 v4:=Tryz.zeroValue4
 t5:=Tryz.underlying5
 a5:=Tryz.isAgg5
 z5:=Tryz.sizeOf5
 v5:=Tryz.zeroValue5
 t9:=Tryz.underlying9
 a9:=Tryz.isAgg9
 z9:=Tryz.sizeOf9
 v9:=Tryz.zeroValue9
 t21:=Tryz.underlying21
 a21:=Tryz.isAgg21
 z21:=Tryz.sizeOf21
 v21:=Tryz.zeroValue21
 t46:=Tryz.underlying285
 a46:=Tryz.isAgg285
 z46:=Tryz.sizeOf285
 v46:=Tryz.zeroValue285
 t105:=Tryz.underlying370
 a105:=Tryz.isAgg370
 z105:=Tryz.sizeOf370
 v105:=Tryz.zeroValue370
 t116:=Tryz.underlying298
 a116:=Tryz.isAgg298
 z116:=Tryz.sizeOf298
 t117:=Tryz.underlying299
 a117:=Tryz.isAgg299
 z117:=Tryz.sizeOf299
 v117:=Tryz.zeroValue299
 t119:=Tryz.underlying436
 a119:=Tryz.isAgg436
 z119:=Tryz.sizeOf436
 t124:=Tryz.underlying302
 a124:=Tryz.isAgg302
 z124:=Tryz.sizeOf302
 v124:=Tryz.zeroValue302
 t138:=Tryz.underlying438
 a138:=Tryz.isAgg438
 z138:=Tryz.sizeOf438
 v138:=Tryz.zeroValue438
 t139:=Tryz.underlying439
 a139:=Tryz.isAgg439
 z139:=Tryz.sizeOf439
 v139:=Tryz.zeroValue439
 g3:=by kernel_rfl
 g4:=by kernel_rfl}
open Go.RowKit in
theorem Tryz.strings_TrimLeft_one (s:ByteArray) (c:UInt8) (hc:c.toNat<128) (w:World):
 Calls Tryz.prog 121 #[.string s,.string ⟨#[c]⟩] w fun e w'=>e= .returned (.string ⟨(Lib.trimLeftB s.data.toList c).toArray⟩)∧w'=w:=Any.strings_TrimLeft_one Tryz.JD s c hc w
def Tryz.FK:Go.Shelf.Ren:=⟨fun|160=>131|232=>205|231=>189|227=>190|234=>206|233=>191|236=>207|235=>192|228=>211|271=>291|151=>280|197=>279|120=>332|152=>209|260=>328|137=>34|119=>292|224=>293|225=>294|217=>80|266=>145|n=>n,fun|9=>9|4=>4|3=>3|5=>5|117=>299|116=>298|0=>0|124=>302|21=>21|105=>370|46=>285|119=>436|139=>439|138=>438|n=>n,fun|3=>3|4=>4|n=>n⟩
theorem Tryz.Pb:Go.Proofs.Lays.n160 Tryz.prog Tryz.FK:={
 mixed:=by kernel_rfl
 f119:=Tryz.func292.trans (congrArg some qC)
 f120:=Tryz.func332.trans (congrArg some qC)
 f137:=Tryz.func34.trans (congrArg some qC)
 f151:=Tryz.func280.trans (congrArg some qC)
 f152:=Tryz.func209.trans (congrArg some qC)
 f160:=Tryz.func131.trans (congrArg some qC)
 f197:=Tryz.func279.trans (congrArg some qC)
 f217:=Tryz.func80.trans (congrArg some qC)
 f224:=Tryz.func293.trans (congrArg some qC)
 f225:=Tryz.func294.trans (congrArg some qC)
 f227:=Tryz.func190.trans (congrArg some qC)
 f228:=Tryz.func211.trans (congrArg some qC)
 f231:=Tryz.func189.trans (congrArg some qC)
 f232:=Tryz.func205.trans (congrArg some qC)
 f233:=Tryz.func191.trans (congrArg some qC)
 f234:=Tryz.func206.trans (congrArg some qC)
 f235:=Tryz.func192.trans (congrArg some qC)
 f236:=Tryz.func207.trans (congrArg some qC)
 f260:=Tryz.func328.trans (congrArg some qC)
 f266:=Tryz.func145.trans (congrArg some qC)
 f271:=Tryz.func291.trans (congrArg some qC)
 t0:=Tryz.underlying0
 a0:=Tryz.isAgg0
 z0:=Tryz.sizeOf0
 v0:=Tryz.zeroValue0
 t3:=Tryz.underlying3
 a3:=Tryz.isAgg3
 z3:=Tryz.sizeOf3
 v3:=Tryz.zeroValue3
 t4:=Tryz.underlying4
 a4:=Tryz.isAgg4
 z4:=Tryz.sizeOf4
 v4:=Tryz.zeroValue4
 t5:=Tryz.underlying5
 a5:=Tryz.isAgg5
 z5:=Tryz.sizeOf5
 v5:=Tryz.zeroValue5
 t9:=Tryz.underlying9
 a9:=Tryz.isAgg9
 z9:=Tryz.sizeOf9
 v9:=Tryz.zeroValue9
 t21:=Tryz.underlying21
 a21:=Tryz.isAgg21
 z21:=Tryz.sizeOf21
 v21:=Tryz.zeroValue21
 t46:=Tryz.underlying285
 a46:=Tryz.isAgg285
 z46:=Tryz.sizeOf285
 v46:=Tryz.zeroValue285
 t105:=Tryz.underlying370
 a105:=Tryz.isAgg370
 z105:=Tryz.sizeOf370
 v105:=Tryz.zeroValue370
 t116:=Tryz.underlying298
 a116:=Tryz.isAgg298
 z116:=Tryz.sizeOf298
 t117:=Tryz.underlying299
 a117:=Tryz.isAgg299
 z117:=Tryz.sizeOf299
 v117:=Tryz.zeroValue299
 t119:=Tryz.underlying436
 a119:=Tryz.isAgg436
 z119:=Tryz.sizeOf436
 t124:=Tryz.underlying302
 a124:=Tryz.isAgg302
 z124:=Tryz.sizeOf302
 v124:=Tryz.zeroValue302
 t138:=Tryz.underlying438
 a138:=Tryz.isAgg438
 z138:=Tryz.sizeOf438
 v138:=Tryz.zeroValue438
 t139:=Tryz.underlying439
 a139:=Tryz.isAgg439
 z139:=Tryz.sizeOf439
 v139:=Tryz.zeroValue439
 g3:=by kernel_rfl
 g4:=by kernel_rfl}
def Tryz.FL:Go.Shelf.Ren:=⟨fun|119=>292|n=>n,fun|21=>21|4=>4|n=>n,fun|n=>n⟩
theorem Tryz.Pe:Go.Proofs.Lays.n119 Tryz.prog Tryz.FL:={
 mixed:=by kernel_rfl
 f119:=Tryz.func292.trans (congrArg some qC)
 t4:=Tryz.underlying4
 a4:=Tryz.isAgg4
 z4:=Tryz.sizeOf4
 v4:=Tryz.zeroValue4
 t21:=Tryz.underlying21
 a21:=Tryz.isAgg21
 z21:=Tryz.sizeOf21
 v21:=Tryz.zeroValue21}
theorem Tryz.utf8_ValidRune (r:Int) (w:World):
 Calls Tryz.prog 292 #[.int .i32 r] w fun e w'=>e= .returned (.bool (Lib.validRune r))∧w'=w:=Any.utf8_ValidRune Tryz.Pe r w
def Tryz.FM:Go.Shelf.Ren:=⟨fun|106=>73|213=>136|265=>212|n=>n,fun|9=>9|3=>3|n=>n,fun|n=>n⟩
theorem Tryz.Pf:Go.Proofs.Lays.n106 Tryz.prog Tryz.FM:={
 mixed:=by kernel_rfl
 f106:=Tryz.func73.trans (congrArg some qC)
 f213:=Tryz.func136.trans (congrArg some qC)
 f265:=Tryz.func212.trans (congrArg some qC)
 t3:=Tryz.underlying3
 a3:=Tryz.isAgg3
 z3:=Tryz.sizeOf3
 v3:=Tryz.zeroValue3
 t9:=Tryz.underlying9
 a9:=Tryz.isAgg9
 z9:=Tryz.sizeOf9
 v9:=Tryz.zeroValue9}
open Go.RowKit in
theorem Tryz.strings_Compare (a b:ByteArray) (w:World):
 Calls Tryz.prog 73 #[.string a,.string b] w fun e w'=>e= .returned (.int .i64 (Lib.compareBytes a.data.toList b.data.toList))∧w'=w:=Any.strings_Compare Tryz.Pf a b w
def Tryz.FN:Go.Shelf.Ren:=⟨fun|137=>34|217=>80|266=>145|n=>n,fun|9=>9|5=>5|3=>3|n=>n,fun|n=>n⟩
theorem Tryz.Pg:Go.Proofs.Lays.n137 Tryz.prog Tryz.FN:={
 mixed:=by kernel_rfl
 f137:=Tryz.func34.trans (congrArg some qC)
 f217:=Tryz.func80.trans (congrArg some qC)
 f266:=Tryz.func145.trans (congrArg some qC)
 t3:=Tryz.underlying3
 a3:=Tryz.isAgg3
 z3:=Tryz.sizeOf3
 v3:=Tryz.zeroValue3
 t5:=Tryz.underlying5
 a5:=Tryz.isAgg5
 z5:=Tryz.sizeOf5
 v5:=Tryz.zeroValue5
 t9:=Tryz.underlying9
 a9:=Tryz.isAgg9
 z9:=Tryz.sizeOf9
 v9:=Tryz.zeroValue9}
open Go.RowKit in
theorem Tryz.strings_IndexByte (s:ByteArray) (c:Int) (w:World):
 Calls Tryz.prog 34 #[.string s,.int .u8 c] w fun e w'=>e= .returned (.int .i64 (Lib.indexByte s.data.toList c.toNat.toUInt8))∧w'=w:=Any.strings_IndexByte Tryz.Pg s c w
def Tryz.FO:Go.Shelf.Ren:=⟨fun|172=>162|244=>235|245=>236|247=>305|279=>306|280=>307|281=>308|282=>309|287=>349|316=>350|171=>231|205=>351|321=>364|322=>365|243=>302|246=>348|283=>360|284=>361|285=>362|286=>363|129=>262|317=>370|318=>371|319=>372|320=>373|337=>375|338=>376|n=>n,fun|9=>9|3=>3|75=>264|76=>265|4=>4|5=>5|167=>391|37=>35|0=>0|85=>392|2=>2|168=>394|53=>353|175=>421|46=>285|210=>424|127=>382|145=>446|143=>444|21=>21|171=>440|173=>442|212=>448|51=>351|20=>20|213=>449|232=>451|233=>452|80=>321|n=>n,fun|15=>1|16=>2|17=>5|18=>6|19=>7|n=>n⟩
theorem Tryz.Ph:Go.Proofs.Lays.n172 Tryz.prog Tryz.FO:={
 mixed:=by kernel_rfl
 f129:=Tryz.func262.trans (congrArg some qC)
 f171:=Tryz.func231.trans (congrArg some qC)
 f172:=Tryz.func162.trans (congrArg some qC)
 f205:=Tryz.func351.trans (congrArg some qC)
 f243:=Tryz.func302.trans (congrArg some qC)
 f244:=Tryz.func235.trans (congrArg some qC)
 f245:=Tryz.func236.trans (congrArg some qC)
 f246:=Tryz.func348.trans (congrArg some qC)
 f247:=Tryz.func305.trans (congrArg some qC)
 f279:=Tryz.func306.trans (congrArg some qC)
 f280:=Tryz.func307.trans (congrArg some qC)
 f281:=Tryz.func308.trans (congrArg some qC)
 f282:=Tryz.func309.trans (congrArg some qC)
 f283:=Tryz.func360.trans (congrArg some qC)
 f284:=Tryz.func361.trans (congrArg some qC)
 f285:=Tryz.func362.trans (congrArg some qC)
 f286:=Tryz.func363.trans (congrArg some qC)
 f287:=Tryz.func349.trans (congrArg some qC)
 f316:=Tryz.func350.trans (congrArg some qC)
 f317:=Tryz.func370.trans (congrArg some qC)
 f318:=Tryz.func371.trans (congrArg some qC)
 f319:=Tryz.func372.trans (congrArg some qC)
 f320:=Tryz.func373.trans (congrArg some qC)
 f321:=Tryz.func364.trans (congrArg some qC)
 f322:=Tryz.func365.trans (congrArg some qC)
 f337:=Tryz.func375.trans (congrArg some qC)
 f338:=Tryz.func376.trans (congrArg some qC)
 t0:=Tryz.underlying0
 a0:=Tryz.isAgg0
 z0:=Tryz.sizeOf0
 v0:=Tryz.zeroValue0
 t2:=Tryz.underlying2
 a2:=Tryz.isAgg2
 z2:=Tryz.sizeOf2
 v2:=Tryz.zeroValue2
 t3:=Tryz.underlying3
 a3:=Tryz.isAgg3
 z3:=Tryz.sizeOf3
 v3:=Tryz.zeroValue3
 t4:=Tryz.underlying4
 a4:=Tryz.isAgg4
 z4:=Tryz.sizeOf4
 v4:=Tryz.zeroValue4
 t5:=Tryz.underlying5
 a5:=Tryz.isAgg5
 z5:=Tryz.sizeOf5
 v5:=Tryz.zeroValue5
 t9:=Tryz.underlying9
 a9:=Tryz.isAgg9
 z9:=Tryz.sizeOf9
 v9:=Tryz.zeroValue9
 t20:=Tryz.underlying20
 a20:=Tryz.isAgg20
 z20:=Tryz.sizeOf20
 v20:=Tryz.zeroValue20
 t21:=Tryz.underlying21
 a21:=Tryz.isAgg21
 z21:=Tryz.sizeOf21
 v21:=Tryz.zeroValue21
 t37:=Tryz.underlying35
 a37:=Tryz.isAgg35
 z37:=Tryz.sizeOf35
 v37:=Tryz.zeroValue35
 t46:=Tryz.underlying285
 a46:=Tryz.isAgg285
 z46:=Tryz.sizeOf285
 v46:=Tryz.zeroValue285
 t51:=Tryz.underlying351
 a51:=Tryz.isAgg351
 z51:=Tryz.sizeOf351
 v51:=Tryz.zeroValue351
 t53:=Tryz.underlying353
 a53:=Tryz.isAgg353
 z53:=Tryz.sizeOf353
 v53:=Tryz.zeroValue353
 t75:=Tryz.underlying264
 a75:=Tryz.isAgg264
 z75:=Tryz.sizeOf264
 v75:=Tryz.zeroValue264
 t76:=Tryz.underlying265
 a76:=Tryz.isAgg265
 z76:=Tryz.sizeOf265
 v76:=Tryz.zeroValue265
 t85:=Tryz.underlying392
 a85:=Tryz.isAgg392
 z85:=Tryz.sizeOf392
 v85:=Tryz.zeroValue392
 t127:=Tryz.underlying382
 a127:=Tryz.isAgg382
 z127:=Tryz.sizeOf382
 v127:=Tryz.zeroValue382
 t143:=Tryz.underlying444
 a143:=Tryz.isAgg444
 z143:=Tryz.sizeOf444
 v143:=Tryz.zeroValue444
 t145:=Tryz.underlying446
 a145:=Tryz.isAgg446
 z145:=Tryz.sizeOf446
 v145:=Tryz.zeroValue446
 t167:=Tryz.underlying391
 a167:=Tryz.isAgg391
 z167:=Tryz.sizeOf391
 v167:=Tryz.zeroValue391
 t168:=Tryz.underlying394
 a168:=Tryz.isAgg394
 z168:=Tryz.sizeOf394
 v168:=Tryz.zeroValue394
 t171:=Tryz.underlying440
 a171:=Tryz.isAgg440
 z171:=Tryz.sizeOf440
 v171:=Tryz.zeroValue440
 t173:=Tryz.underlying442
 a173:=Tryz.isAgg442
 z173:=Tryz.sizeOf442
 v173:=Tryz.zeroValue442
 t175:=Tryz.underlying421
 a175:=Tryz.isAgg421
 z175:=Tryz.sizeOf421
 v175:=Tryz.zeroValue421
 t210:=Tryz.underlying424
 a210:=Tryz.isAgg424
 z210:=Tryz.sizeOf424
 v210:=Tryz.zeroValue424
 t212:=Tryz.underlying448
 a212:=Tryz.isAgg448
 z212:=Tryz.sizeOf448
 v212:=Tryz.zeroValue448
 t213:=Tryz.underlying449
 a213:=Tryz.isAgg449
 z213:=Tryz.sizeOf449
 t232:=Tryz.underlying451
 a232:=Tryz.isAgg451
 z232:=Tryz.sizeOf451
 v232:=Tryz.zeroValue451
 t233:=Tryz.underlying452
 a233:=Tryz.isAgg452
 z233:=Tryz.sizeOf452
 v233:=Tryz.zeroValue452
 g15:=by kernel_rfl
 g16:=by kernel_rfl
 g17:=by kernel_rfl
 g18:=by kernel_rfl
 g19:=by kernel_rfl}
open Go.RowKit in
theorem Tryz.strconv_Atoi (s:ByteArray) (n:Int) (hl:s.size≤18) (h:Lib.atoi s.data.toList=some n) (w:World):
 Calls Tryz.prog 162 #[.string s] w fun e w'=>e= .returned (.tuple #[.int .i64 n,.nilIface])∧ ∃t,w'=Lib.bytesWorld w 5 t:=Any.strconv_Atoi Tryz.Ph s n hl h w
def Tryz.Dn:Go.Shelf.Ren:=⟨fun|171=>231|243=>302|246=>348|283=>360|284=>361|285=>362|286=>363|129=>262|317=>370|318=>371|319=>372|320=>373|337=>375|338=>376|n=>n,fun|3=>3|9=>9|2=>2|4=>4|171=>440|0=>0|53=>353|37=>35|5=>5|173=>442|212=>448|51=>351|20=>20|213=>449|46=>285|232=>451|233=>452|n=>n,fun|17=>5|18=>6|19=>7|n=>n⟩
theorem Tryz.MH:Go.Proofs.LaysM.n171 Tryz.prog Tryz.Dn:={
 mixed:=by kernel_rfl
 f129:=Tryz.func262.trans (congrArg some qC)
 f171:=Tryz.func231.trans (congrArg some qC)
 f243:=Tryz.func302.trans (congrArg some qC)
 f246:=Tryz.func348.trans (congrArg some qC)
 f283:=Tryz.func360.trans (congrArg some qC)
 f284:=Tryz.func361.trans (congrArg some qC)
 f285:=Tryz.func362.trans (congrArg some qC)
 f286:=Tryz.func363.trans (congrArg some qC)
 f317:=Tryz.func370.trans (congrArg some qC)
 f318:=Tryz.func371.trans (congrArg some qC)
 f319:=Tryz.func372.trans (congrArg some qC)
 f320:=Tryz.func373.trans (congrArg some qC)
 f337:=Tryz.func375.trans (congrArg some qC)
 f338:=Tryz.func376.trans (congrArg some qC)
 t0:=Tryz.underlying0
 a0:=Tryz.isAgg0
 z0:=Tryz.sizeOf0
 v0:=Tryz.zeroValue0
 t2:=Tryz.underlying2
 a2:=Tryz.isAgg2
 z2:=Tryz.sizeOf2
 v2:=Tryz.zeroValue2
 t3:=Tryz.underlying3
 a3:=Tryz.isAgg3
 z3:=Tryz.sizeOf3
 v3:=Tryz.zeroValue3
 t4:=Tryz.underlying4
 a4:=Tryz.isAgg4
 z4:=Tryz.sizeOf4
 v4:=Tryz.zeroValue4
 t5:=Tryz.underlying5
 a5:=Tryz.isAgg5
 z5:=Tryz.sizeOf5
 v5:=Tryz.zeroValue5
 t9:=Tryz.underlying9
 a9:=Tryz.isAgg9
 z9:=Tryz.sizeOf9
 v9:=Tryz.zeroValue9
 t20:=Tryz.underlying20
 a20:=Tryz.isAgg20
 z20:=Tryz.sizeOf20
 v20:=Tryz.zeroValue20
 t37:=Tryz.underlying35
 a37:=Tryz.isAgg35
 z37:=Tryz.sizeOf35
 v37:=Tryz.zeroValue35
 t46:=Tryz.underlying285
 a46:=Tryz.isAgg285
 z46:=Tryz.sizeOf285
 v46:=Tryz.zeroValue285
 t51:=Tryz.underlying351
 a51:=Tryz.isAgg351
 z51:=Tryz.sizeOf351
 v51:=Tryz.zeroValue351
 t53:=Tryz.underlying353
 a53:=Tryz.isAgg353
 z53:=Tryz.sizeOf353
 v53:=Tryz.zeroValue353
 t171:=Tryz.underlying440
 a171:=Tryz.isAgg440
 z171:=Tryz.sizeOf440
 v171:=Tryz.zeroValue440
 t173:=Tryz.underlying442
 a173:=Tryz.isAgg442
 z173:=Tryz.sizeOf442
 v173:=Tryz.zeroValue442
 t212:=Tryz.underlying448
 a212:=Tryz.isAgg448
 z212:=Tryz.sizeOf448
 v212:=Tryz.zeroValue448
 t213:=Tryz.underlying449
 a213:=Tryz.isAgg449
 z213:=Tryz.sizeOf449
 t232:=Tryz.underlying451
 a232:=Tryz.isAgg451
 z232:=Tryz.sizeOf451
 v232:=Tryz.zeroValue451
 t233:=Tryz.underlying452
 a233:=Tryz.isAgg452
 z233:=Tryz.sizeOf452
 v233:=Tryz.zeroValue452
 g17:=by kernel_rfl
 g18:=by kernel_rfl
 g19:=by kernel_rfl
 i0:=by kernel_rfl
 i2:=by kernel_rfl
 i3:=by kernel_rfl
 i4:=by kernel_rfl
 i5:=by kernel_rfl
 i9:=by kernel_rfl
 i20:=by kernel_rfl
 i37:=by kernel_rfl
 i46:=by kernel_rfl
 i51:=by kernel_rfl
 i53:=by kernel_rfl
 i171:=by kernel_rfl
 i173:=by kernel_rfl
 i212:=by kernel_rfl
 i232:=by kernel_rfl
 i233:=by kernel_rfl
 m17:=by kernel_rfl
 m18:=by kernel_rfl
 m19:=by kernel_rfl}
open Go.RowKit Go.Sort Go.Lib in
theorem Tryz.strconv_Itoa (n:Int) (h0: -9223372036854775808≤n) (h1:n≤9223372036854775807) (w:World) (htab:Lib.TabIs Tryz.prog w "internal/strconv.uint64pow10" .u64 Lib.pow10Tab):
 Calls Tryz.prog 231 #[.int .i64 n] w fun e w'=>e= .returned (.string ⟨(Lib.itoa n).toArray⟩)∧ ∃k os,w'=grow (w.drewN k) os:=Any.strconv_Itoa Tryz.MH n h0 h1 w htab
def Tryz.FP:Go.Shelf.Ren:=⟨fun|143=>188|219=>263|217=>80|225=>294|224=>293|267=>320|266=>145|314=>355|n=>n,fun|9=>9|3=>3|4=>4|5=>5|46=>285|146=>426|51=>351|n=>n,fun|1=>0|n=>n⟩
theorem Tryz.Pj:Go.Proofs.Lays.n143 Tryz.prog Tryz.FP:={
 mixed:=by kernel_rfl
 f143:=Tryz.func188.trans (congrArg some qC)
 f217:=Tryz.func80.trans (congrArg some qC)
 f219:=Tryz.func263.trans (congrArg some qC)
 f224:=Tryz.func293.trans (congrArg some qC)
 f225:=Tryz.func294.trans (congrArg some qC)
 f266:=Tryz.func145.trans (congrArg some qC)
 f267:=Tryz.func320.trans (congrArg some qC)
 f314:=Tryz.func355.trans (congrArg some qC)
 t3:=Tryz.underlying3
 a3:=Tryz.isAgg3
 z3:=Tryz.sizeOf3
 v3:=Tryz.zeroValue3
 t4:=Tryz.underlying4
 a4:=Tryz.isAgg4
 z4:=Tryz.sizeOf4
 v4:=Tryz.zeroValue4
 t5:=Tryz.underlying5
 a5:=Tryz.isAgg5
 z5:=Tryz.sizeOf5
 v5:=Tryz.zeroValue5
 t9:=Tryz.underlying9
 a9:=Tryz.isAgg9
 z9:=Tryz.sizeOf9
 v9:=Tryz.zeroValue9
 t46:=Tryz.underlying285
 a46:=Tryz.isAgg285
 z46:=Tryz.sizeOf285
 v46:=Tryz.zeroValue285
 t51:=Tryz.underlying351
 a51:=Tryz.isAgg351
 z51:=Tryz.sizeOf351
 v51:=Tryz.zeroValue351
 t146:=Tryz.underlying426
 a146:=Tryz.isAgg426
 z146:=Tryz.sizeOf426
 v146:=Tryz.zeroValue426
 g1:=by kernel_rfl}
open Go.RowKit Go.Lib in
theorem Tryz.strings_Index (s sub:ByteArray) (m:Int) (w:World) (hs:s.size<4294967281) (hm:w.cell? ⟨0,0,none⟩=some (.int .i64 m)):
 Calls Tryz.prog 188 #[.string s,.string sub] w fun e w'=>e= .returned (.int .i64 (Lib.index s.data.toList sub.data.toList))∧w'=w:=Any.strings_Index Tryz.Pj s sub m w hs hm
def Tryz.FQ:Go.Shelf.Ren:=⟨fun|144=>120|143=>188|219=>263|217=>80|225=>294|224=>293|267=>320|266=>145|314=>355|n=>n,fun|9=>9|4=>4|3=>3|5=>5|46=>285|146=>426|51=>351|n=>n,fun|1=>0|n=>n⟩
theorem Tryz.Pk:Go.Proofs.Lays.n144 Tryz.prog Tryz.FQ:={
 mixed:=by kernel_rfl
 f143:=Tryz.func188.trans (congrArg some qC)
 f144:=Tryz.func120.trans (congrArg some qC)
 f217:=Tryz.func80.trans (congrArg some qC)
 f219:=Tryz.func263.trans (congrArg some qC)
 f224:=Tryz.func293.trans (congrArg some qC)
 f225:=Tryz.func294.trans (congrArg some qC)
 f266:=Tryz.func145.trans (congrArg some qC)
 f267:=Tryz.func320.trans (congrArg some qC)
 f314:=Tryz.func355.trans (congrArg some qC)
 t3:=Tryz.underlying3
 a3:=Tryz.isAgg3
 z3:=Tryz.sizeOf3
 v3:=Tryz.zeroValue3
 t4:=Tryz.underlying4
 a4:=Tryz.isAgg4
 z4:=Tryz.sizeOf4
 v4:=Tryz.zeroValue4
 t5:=Tryz.underlying5
 a5:=Tryz.isAgg5
 z5:=Tryz.sizeOf5
 v5:=Tryz.zeroValue5
 t9:=Tryz.underlying9
 a9:=Tryz.isAgg9
 z9:=Tryz.sizeOf9
 v9:=Tryz.zeroValue9
 t46:=Tryz.underlying285
 a46:=Tryz.isAgg285
 z46:=Tryz.sizeOf285
 v46:=Tryz.zeroValue285
 t51:=Tryz.underlying351
 a51:=Tryz.isAgg351
 z51:=Tryz.sizeOf351
 v51:=Tryz.zeroValue351
 t146:=Tryz.underlying426
 a146:=Tryz.isAgg426
 z146:=Tryz.sizeOf426
 v146:=Tryz.zeroValue426
 g1:=by kernel_rfl}
open Go.RowKit Go.Lib in
theorem Tryz.strings_Contains (s sub:ByteArray) (m:Int) (w:World) (hs:s.size<4294967281) (hm:w.cell? ⟨0,0,none⟩=some (.int .i64 m)):
 Calls Tryz.prog 120 #[.string s,.string sub] w fun e w'=>e= .returned (.bool (Lib.contains s.data.toList sub.data.toList))∧w'=w:=Any.strings_Contains Tryz.Pk s sub m w hs hm
def Tryz.FR:Go.Shelf.Ren:=⟨fun|145=>106|220=>175|219=>263|217=>80|225=>294|224=>293|267=>320|266=>145|314=>355|n=>n,fun|9=>9|4=>4|59=>210|3=>3|5=>5|46=>285|146=>426|51=>351|n=>n,fun|1=>0|n=>n⟩
theorem Tryz.Pm:Go.Proofs.Lays.n145 Tryz.prog Tryz.FR:={
 mixed:=by kernel_rfl
 f145:=Tryz.func106.trans (congrArg some qC)
 f217:=Tryz.func80.trans (congrArg some qC)
 f219:=Tryz.func263.trans (congrArg some qC)
 f220:=Tryz.func175.trans (congrArg some qC)
 f224:=Tryz.func293.trans (congrArg some qC)
 f225:=Tryz.func294.trans (congrArg some qC)
 f266:=Tryz.func145.trans (congrArg some qC)
 f267:=Tryz.func320.trans (congrArg some qC)
 f314:=Tryz.func355.trans (congrArg some qC)
 t3:=Tryz.underlying3
 a3:=Tryz.isAgg3
 z3:=Tryz.sizeOf3
 v3:=Tryz.zeroValue3
 t4:=Tryz.underlying4
 a4:=Tryz.isAgg4
 z4:=Tryz.sizeOf4
 v4:=Tryz.zeroValue4
 t5:=Tryz.underlying5
 a5:=Tryz.isAgg5
 z5:=Tryz.sizeOf5
 v5:=Tryz.zeroValue5
 t9:=Tryz.underlying9
 a9:=Tryz.isAgg9
 z9:=Tryz.sizeOf9
 v9:=Tryz.zeroValue9
 t46:=Tryz.underlying285
 a46:=Tryz.isAgg285
 z46:=Tryz.sizeOf285
 v46:=Tryz.zeroValue285
 t51:=Tryz.underlying351
 a51:=Tryz.isAgg351
 z51:=Tryz.sizeOf351
 v51:=Tryz.zeroValue351
 t59:=Tryz.underlying210
 a59:=Tryz.isAgg210
 z59:=Tryz.sizeOf210
 v59:=Tryz.zeroValue210
 t146:=Tryz.underlying426
 a146:=Tryz.isAgg426
 z146:=Tryz.sizeOf426
 v146:=Tryz.zeroValue426
 g1:=by kernel_rfl}
open Go.RowKit Go.Lib in
theorem Tryz.strings_Cut (s sep:ByteArray) (m:Int) (w:World) (hs:s.size<4294967281) (hm:w.cell? ⟨0,0,none⟩=some (.int .i64 m)):
 Calls Tryz.prog 106 #[.string s,.string sep] w fun e w'=>e= .returned (.tuple #[.string ⟨(Lib.cut s.data.toList sep.data.toList).1.toArray⟩,.string ⟨(Lib.cut s.data.toList sep.data.toList).2.1.toArray⟩,.bool (Lib.cut s.data.toList sep.data.toList).2.2])∧ ∃n,w'=w.drewN n:=Any.strings_Cut Tryz.Pm s sep m w hs hm
def Tryz.FT:Go.Shelf.Ren:=⟨fun|190=>104|125=>174|258=>173|128=>261|129=>262|302=>252|303=>253|304=>254|305=>255|306=>256|307=>257|308=>258|309=>259|310=>260|333=>314|329=>315|330=>316|334=>317|335=>318|336=>319|344=>354|n=>n,fun|31=>30|9=>9|3=>3|46=>285|0=>0|51=>351|53=>353|4=>4|183=>345|182=>344|131=>196|5=>5|218=>400|222=>404|228=>430|229=>431|n=>n,fun|n=>n⟩
theorem Tryz.Pn:Go.Proofs.Lays.n190 Tryz.prog Tryz.FT:={
 mixed:=by kernel_rfl
 f125:=Tryz.func174.trans (congrArg some qC)
 f128:=Tryz.func261.trans (congrArg some qC)
 f129:=Tryz.func262.trans (congrArg some qC)
 f190:=Tryz.func104.trans (congrArg some qC)
 f258:=Tryz.func173.trans (congrArg some qC)
 f302:=Tryz.func252.trans (congrArg some qC)
 f303:=Tryz.func253.trans (congrArg some qC)
 f304:=Tryz.func254.trans (congrArg some qC)
 f305:=Tryz.func255.trans (congrArg some qC)
 f306:=Tryz.func256.trans (congrArg some qC)
 f307:=Tryz.func257.trans (congrArg some qC)
 f308:=Tryz.func258.trans (congrArg some qC)
 f309:=Tryz.func259.trans (congrArg some qC)
 f310:=Tryz.func260.trans (congrArg some qC)
 f329:=Tryz.func315.trans (congrArg some qC)
 f330:=Tryz.func316.trans (congrArg some qC)
 f333:=Tryz.func314.trans (congrArg some qC)
 f334:=Tryz.func317.trans (congrArg some qC)
 f335:=Tryz.func318.trans (congrArg some qC)
 f336:=Tryz.func319.trans (congrArg some qC)
 f344:=Tryz.func354.trans (congrArg some qC)
 t0:=Tryz.underlying0
 a0:=Tryz.isAgg0
 z0:=Tryz.sizeOf0
 v0:=Tryz.zeroValue0
 t3:=Tryz.underlying3
 a3:=Tryz.isAgg3
 z3:=Tryz.sizeOf3
 v3:=Tryz.zeroValue3
 t4:=Tryz.underlying4
 a4:=Tryz.isAgg4
 z4:=Tryz.sizeOf4
 v4:=Tryz.zeroValue4
 t5:=Tryz.underlying5
 a5:=Tryz.isAgg5
 z5:=Tryz.sizeOf5
 v5:=Tryz.zeroValue5
 t9:=Tryz.underlying9
 a9:=Tryz.isAgg9
 z9:=Tryz.sizeOf9
 v9:=Tryz.zeroValue9
 t31:=Tryz.underlying30
 a31:=Tryz.isAgg30
 z31:=Tryz.sizeOf30
 v31:=Tryz.zeroValue30
 t46:=Tryz.underlying285
 a46:=Tryz.isAgg285
 z46:=Tryz.sizeOf285
 v46:=Tryz.zeroValue285
 t51:=Tryz.underlying351
 a51:=Tryz.isAgg351
 z51:=Tryz.sizeOf351
 v51:=Tryz.zeroValue351
 t53:=Tryz.underlying353
 a53:=Tryz.isAgg353
 z53:=Tryz.sizeOf353
 v53:=Tryz.zeroValue353
 t131:=Tryz.underlying196
 a131:=Tryz.isAgg196
 z131:=Tryz.sizeOf196
 v131:=Tryz.zeroValue196
 t182:=Tryz.underlying344
 a182:=Tryz.isAgg344
 z182:=Tryz.sizeOf344
 v182:=Tryz.zeroValue344
 t183:=Tryz.underlying345
 a183:=Tryz.isAgg345
 z183:=Tryz.sizeOf345
 v183:=Tryz.zeroValue345
 t218:=Tryz.underlying400
 a218:=Tryz.isAgg400
 z218:=Tryz.sizeOf400
 v218:=Tryz.zeroValue400
 t222:=Tryz.underlying404
 a222:=Tryz.isAgg404
 z222:=Tryz.sizeOf404
 v222:=Tryz.zeroValue404
 t228:=Tryz.underlying430
 a228:=Tryz.isAgg430
 z228:=Tryz.sizeOf430
 v228:=Tryz.zeroValue430
 t229:=Tryz.underlying431
 a229:=Tryz.isAgg431
 z229:=Tryz.sizeOf431
 v229:=Tryz.zeroValue431}
open Go.Sort Go.RowKit in
theorem Tryz.slices_Sort_string (blk off cap:Nat) (ss:List (List UInt8)) (w:World) (hH:Holds encStr w blk off ss.toArray) (hblk:blk<w.heap.size) (hsz:ss.length<4611686018427387904):
 Calls Tryz.prog 104 #[.slice (some ⟨blk,off,none⟩) ss.length cap] w fun e w'=>
  e= .returned (.tuple #[])∧ ∃n os,w'=grow (putRow encStr (Sort.ahead w n) blk off (ss.mergeSort fun x y=>decide (x≤y)).toArray) os:=Any.slices_Sort_string Tryz.Pn blk off cap ss w hH hblk hsz
def Tryz.FU:Go.Shelf.Ren:=⟨fun|149=>144|222=>219|n=>n,fun|9=>9|5=>5|3=>3|4=>4|n=>n,fun|n=>n⟩
theorem Tryz.Po:Go.Proofs.Lays.n149 Tryz.prog Tryz.FU:={
 mixed:=by kernel_rfl
 f149:=Tryz.func144.trans (congrArg some qC)
 f222:=Tryz.func219.trans (congrArg some qC)
 t3:=Tryz.underlying3
 a3:=Tryz.isAgg3
 z3:=Tryz.sizeOf3
 v3:=Tryz.zeroValue3
 t4:=Tryz.underlying4
 a4:=Tryz.isAgg4
 z4:=Tryz.sizeOf4
 v4:=Tryz.zeroValue4
 t5:=Tryz.underlying5
 a5:=Tryz.isAgg5
 z5:=Tryz.sizeOf5
 v5:=Tryz.zeroValue5
 t9:=Tryz.underlying9
 a9:=Tryz.isAgg9
 z9:=Tryz.sizeOf9
 v9:=Tryz.zeroValue9}
open Go.RowKit Go.Lib in
theorem Tryz.strings_LastIndexByte (s:ByteArray) (c:Int) (hs:s.size<4611686018427387904) (w:World):
 Calls Tryz.prog 144 #[.string s,.int .u8 c] w fun e w'=>e= .returned (.int .i64 (Lib.lastIndexByte s c))∧w'=w:=Any.strings_LastIndexByte Tryz.Po s c hs w
def Tryz.FV:Go.Shelf.Ren:=⟨fun|206=>214|n=>n,fun|9=>9|4=>4|3=>3|n=>n,fun|n=>n⟩
theorem Tryz.Pp:Go.Proofs.Lays.n206 Tryz.prog Tryz.FV:={
 mixed:=by kernel_rfl
 f206:=Tryz.func214.trans (congrArg some qC)
 t3:=Tryz.underlying3
 a3:=Tryz.isAgg3
 z3:=Tryz.sizeOf3
 v3:=Tryz.zeroValue3
 t4:=Tryz.underlying4
 a4:=Tryz.isAgg4
 z4:=Tryz.sizeOf4
 v4:=Tryz.zeroValue4
 t9:=Tryz.underlying9
 a9:=Tryz.isAgg9
 z9:=Tryz.sizeOf9
 v9:=Tryz.zeroValue9}
open Go.RowKit Go.Lib in
theorem Tryz.stringslite_HasPrefix (s p:ByteArray) (w:World):
 Calls Tryz.prog 214 #[.string s,.string p] w fun e w'=>e= .returned (.bool (Lib.hasPrefix s.data.toList p.data.toList))∧w'=w:=Any.stringslite_HasPrefix Tryz.Pp s p w
def Tryz.Ik:Go.Shelf.Ren:=⟨fun|99=>248|206=>214|n=>n,fun|9=>9|4=>4|3=>3|n=>n,fun|n=>n⟩
theorem Tryz.SL:Go.Proofs.Lays.n99 Tryz.prog Tryz.Ik:={
 mixed:=by kernel_rfl
 f99:=Tryz.func248.trans (congrArg some qC)
 f206:=Tryz.func214.trans (congrArg some qC)
 t3:=Tryz.underlying3
 a3:=Tryz.isAgg3
 z3:=Tryz.sizeOf3
 v3:=Tryz.zeroValue3
 t4:=Tryz.underlying4
 a4:=Tryz.isAgg4
 z4:=Tryz.sizeOf4
 v4:=Tryz.zeroValue4
 t9:=Tryz.underlying9
 a9:=Tryz.isAgg9
 z9:=Tryz.sizeOf9
 v9:=Tryz.zeroValue9}
open Go.RowKit Go.Lib in
theorem Tryz.strings_HasPrefix (s p:ByteArray) (w:World):
 Calls Tryz.prog 248 #[.string s,.string p] w fun e w'=>e= .returned (.bool (Lib.hasPrefix s.data.toList p.data.toList))∧w'=w:=Any.strings_HasPrefix Tryz.SL s p w
def Tryz.FW:Go.Shelf.Ren:=⟨fun|100=>185|207=>276|n=>n,fun|9=>9|4=>4|3=>3|n=>n,fun|n=>n⟩
theorem Tryz.Pq:Go.Proofs.Lays.n100 Tryz.prog Tryz.FW:={
 mixed:=by kernel_rfl
 f100:=Tryz.func185.trans (congrArg some qC)
 f207:=Tryz.func276.trans (congrArg some qC)
 t3:=Tryz.underlying3
 a3:=Tryz.isAgg3
 z3:=Tryz.sizeOf3
 v3:=Tryz.zeroValue3
 t4:=Tryz.underlying4
 a4:=Tryz.isAgg4
 z4:=Tryz.sizeOf4
 v4:=Tryz.zeroValue4
 t9:=Tryz.underlying9
 a9:=Tryz.isAgg9
 z9:=Tryz.sizeOf9
 v9:=Tryz.zeroValue9}
open Go.RowKit Go.Lib in
theorem Tryz.strings_HasSuffix (s p:ByteArray) (w:World) (hs:s.size≤9223372036854775807):
 Calls Tryz.prog 185 #[.string s,.string p] w fun e w'=>e= .returned (.bool (Lib.hasSuffix s.data.toList p.data.toList))∧w'=w:=Any.strings_HasSuffix Tryz.Pq s p w hs
def Tryz.FX:Go.Shelf.Ren:=⟨fun|146=>118|221=>187|268=>277|138=>278|143=>188|195=>326|197=>279|218=>327|219=>263|260=>328|217=>80|225=>294|224=>293|267=>320|266=>145|314=>355|n=>n,fun|9=>9|31=>30|3=>3|4=>4|0=>0|105=>370|21=>21|5=>5|46=>285|119=>436|139=>439|138=>438|146=>426|51=>351|n=>n,fun|1=>0|3=>3|4=>4|n=>n⟩
theorem Tryz.Ps:Go.Proofs.Lays.n146 Tryz.prog Tryz.FX:={
 mixed:=by kernel_rfl
 f138:=Tryz.func278.trans (congrArg some qC)
 f143:=Tryz.func188.trans (congrArg some qC)
 f146:=Tryz.func118.trans (congrArg some qC)
 f195:=Tryz.func326.trans (congrArg some qC)
 f197:=Tryz.func279.trans (congrArg some qC)
 f217:=Tryz.func80.trans (congrArg some qC)
 f218:=Tryz.func327.trans (congrArg some qC)
 f219:=Tryz.func263.trans (congrArg some qC)
 f221:=Tryz.func187.trans (congrArg some qC)
 f224:=Tryz.func293.trans (congrArg some qC)
 f225:=Tryz.func294.trans (congrArg some qC)
 f260:=Tryz.func328.trans (congrArg some qC)
 f266:=Tryz.func145.trans (congrArg some qC)
 f267:=Tryz.func320.trans (congrArg some qC)
 f268:=Tryz.func277.trans (congrArg some qC)
 f314:=Tryz.func355.trans (congrArg some qC)
 t0:=Tryz.underlying0
 a0:=Tryz.isAgg0
 z0:=Tryz.sizeOf0
 v0:=Tryz.zeroValue0
 t3:=Tryz.underlying3
 a3:=Tryz.isAgg3
 z3:=Tryz.sizeOf3
 v3:=Tryz.zeroValue3
 t4:=Tryz.underlying4
 a4:=Tryz.isAgg4
 z4:=Tryz.sizeOf4
 v4:=Tryz.zeroValue4
 t5:=Tryz.underlying5
 a5:=Tryz.isAgg5
 z5:=Tryz.sizeOf5
 v5:=Tryz.zeroValue5
 t9:=Tryz.underlying9
 a9:=Tryz.isAgg9
 z9:=Tryz.sizeOf9
 v9:=Tryz.zeroValue9
 t21:=Tryz.underlying21
 a21:=Tryz.isAgg21
 z21:=Tryz.sizeOf21
 v21:=Tryz.zeroValue21
 t31:=Tryz.underlying30
 a31:=Tryz.isAgg30
 z31:=Tryz.sizeOf30
 v31:=Tryz.zeroValue30
 t46:=Tryz.underlying285
 a46:=Tryz.isAgg285
 z46:=Tryz.sizeOf285
 v46:=Tryz.zeroValue285
 t51:=Tryz.underlying351
 a51:=Tryz.isAgg351
 z51:=Tryz.sizeOf351
 v51:=Tryz.zeroValue351
 t105:=Tryz.underlying370
 a105:=Tryz.isAgg370
 z105:=Tryz.sizeOf370
 v105:=Tryz.zeroValue370
 t119:=Tryz.underlying436
 a119:=Tryz.isAgg436
 z119:=Tryz.sizeOf436
 t138:=Tryz.underlying438
 a138:=Tryz.isAgg438
 z138:=Tryz.sizeOf438
 v138:=Tryz.zeroValue438
 t139:=Tryz.underlying439
 a139:=Tryz.isAgg439
 z139:=Tryz.sizeOf439
 v139:=Tryz.zeroValue439
 t146:=Tryz.underlying426
 a146:=Tryz.isAgg426
 z146:=Tryz.sizeOf426
 v146:=Tryz.zeroValue426
 g1:=by kernel_rfl
 g3:=by kernel_rfl
 g4:=by kernel_rfl}
open Go.RowKit Go.Lib in
theorem Tryz.strings_Split (s sep:ByteArray) (m:Int) (w:World) (hs:s.size<4294967281) (hm:w.cell? ⟨0,0,none⟩=some (.int .i64 m)) (h1:1≤sep.size):
 Calls Tryz.prog 118 #[.string s,.string sep] w fun e w'=>
  e= .returned (.slice (some ⟨w.heap.size,0,none⟩) (Lib.countB s sep+1) (Lib.countB s sep+1))∧w'=w.alloc (.cells ((Lib.splitB sep 0 (Lib.countB s sep) s).map Value.string).toArray 9):=Any.strings_Split Tryz.Ps qC s sep m w hs hm h1
def Tryz.FY:Go.Shelf.Ren:=⟨fun|152=>209|137=>34|119=>292|224=>293|225=>294|217=>80|266=>145|n=>n,fun|9=>9|21=>21|3=>3|4=>4|5=>5|0=>0|46=>285|n=>n,fun|n=>n⟩
theorem Tryz.Pt:Go.Proofs.Lays.n152 Tryz.prog Tryz.FY:={
 mixed:=by kernel_rfl
 f119:=Tryz.func292.trans (congrArg some qC)
 f137:=Tryz.func34.trans (congrArg some qC)
 f152:=Tryz.func209.trans (congrArg some qC)
 f217:=Tryz.func80.trans (congrArg some qC)
 f224:=Tryz.func293.trans (congrArg some qC)
 f225:=Tryz.func294.trans (congrArg some qC)
 f266:=Tryz.func145.trans (congrArg some qC)
 t0:=Tryz.underlying0
 a0:=Tryz.isAgg0
 z0:=Tryz.sizeOf0
 v0:=Tryz.zeroValue0
 t3:=Tryz.underlying3
 a3:=Tryz.isAgg3
 z3:=Tryz.sizeOf3
 v3:=Tryz.zeroValue3
 t4:=Tryz.underlying4
 a4:=Tryz.isAgg4
 z4:=Tryz.sizeOf4
 v4:=Tryz.zeroValue4
 t5:=Tryz.underlying5
 a5:=Tryz.isAgg5
 z5:=Tryz.sizeOf5
 v5:=Tryz.zeroValue5
 t9:=Tryz.underlying9
 a9:=Tryz.isAgg9
 z9:=Tryz.sizeOf9
 v9:=Tryz.zeroValue9
 t21:=Tryz.underlying21
 a21:=Tryz.isAgg21
 z21:=Tryz.sizeOf21
 v21:=Tryz.zeroValue21
 t46:=Tryz.underlying285
 a46:=Tryz.isAgg285
 z46:=Tryz.sizeOf285
 v46:=Tryz.zeroValue285}
open Go.RowKit Go.Lib in
theorem Tryz.strings_IndexRune_ascii (s:ByteArray) (r:Int) (w:World) (h0:0≤r) (h1:r<128):
 Calls Tryz.prog 209 #[.string s,.int .i32 r] w fun e w'=>e= .returned (.int .i64 (Lib.indexByte s.data.toList r.toNat.toUInt8))∧w'=w:=Any.strings_IndexRune_ascii Tryz.Pt s r w h0 h1
def Tryz.FZ:Go.Shelf.Ren:=⟨fun|226=>210|n=>n,fun|3=>3|4=>4|n=>n,fun|n=>n⟩
theorem Tryz.Pu:Go.Proofs.Lays.n226 Tryz.prog Tryz.FZ:={
 mixed:=by kernel_rfl
 f226:=Tryz.func210.trans (congrArg some qC)
 t3:=Tryz.underlying3
 a3:=Tryz.isAgg3
 z3:=Tryz.sizeOf3
 v3:=Tryz.zeroValue3
 t4:=Tryz.underlying4
 a4:=Tryz.isAgg4
 z4:=Tryz.sizeOf4
 v4:=Tryz.zeroValue4}
open Go.RowKit Go.Lib in
theorem Tryz.strings_shouldUseASCIISet (n:Int) (w:World):
 Calls Tryz.prog 210 #[.int .i64 n] w fun e w'=>e= .returned (.bool (decide (8<n)))∧w'=w:=Any.strings_shouldUseASCIISet Tryz.Pu n w
def Tryz.F3:Go.Shelf.Ren:=⟨fun|153=>134|152=>209|226=>210|227=>190|228=>211|137=>34|119=>292|224=>293|225=>294|217=>80|266=>145|n=>n,fun|9=>9|3=>3|4=>4|5=>5|21=>21|117=>299|116=>298|0=>0|46=>285|124=>302|n=>n,fun|n=>n⟩
theorem Tryz.Dp:Go.Proofs.Lays.n153 Tryz.prog Tryz.F3:={
 mixed:=by kernel_rfl
 f119:=Tryz.func292.trans (congrArg some qC)
 f137:=Tryz.func34.trans (congrArg some qC)
 f152:=Tryz.func209.trans (congrArg some qC)
 f153:=Tryz.func134.trans (congrArg some qC)
 f217:=Tryz.func80.trans (congrArg some qC)
 f224:=Tryz.func293.trans (congrArg some qC)
 f225:=Tryz.func294.trans (congrArg some qC)
 f226:=Tryz.func210.trans (congrArg some qC)
 f227:=Tryz.func190.trans (congrArg some qC)
 f228:=Tryz.func211.trans (congrArg some qC)
 f266:=Tryz.func145.trans (congrArg some qC)
 t0:=Tryz.underlying0
 a0:=Tryz.isAgg0
 z0:=Tryz.sizeOf0
 v0:=Tryz.zeroValue0
 t3:=Tryz.underlying3
 a3:=Tryz.isAgg3
 z3:=Tryz.sizeOf3
 v3:=Tryz.zeroValue3
 t4:=Tryz.underlying4
 a4:=Tryz.isAgg4
 z4:=Tryz.sizeOf4
 v4:=Tryz.zeroValue4
 t5:=Tryz.underlying5
 a5:=Tryz.isAgg5
 z5:=Tryz.sizeOf5
 v5:=Tryz.zeroValue5
 t9:=Tryz.underlying9
 a9:=Tryz.isAgg9
 z9:=Tryz.sizeOf9
 v9:=Tryz.zeroValue9
 t21:=Tryz.underlying21
 a21:=Tryz.isAgg21
 z21:=Tryz.sizeOf21
 v21:=Tryz.zeroValue21
 t46:=Tryz.underlying285
 a46:=Tryz.isAgg285
 z46:=Tryz.sizeOf285
 v46:=Tryz.zeroValue285
 t116:=Tryz.underlying298
 a116:=Tryz.isAgg298
 z116:=Tryz.sizeOf298
 t117:=Tryz.underlying299
 a117:=Tryz.isAgg299
 z117:=Tryz.sizeOf299
 v117:=Tryz.zeroValue299
 t124:=Tryz.underlying302
 a124:=Tryz.isAgg302
 z124:=Tryz.sizeOf302
 v124:=Tryz.zeroValue302}
def Tryz.F9:Go.Shelf.Ren:=⟨fun|227=>190|n=>n,fun|9=>9|116=>298|4=>4|0=>0|3=>3|5=>5|n=>n,fun|n=>n⟩
theorem Tryz.Pv:Go.Proofs.Lays.n227 Tryz.prog Tryz.F9:={
 mixed:=by kernel_rfl
 f227:=Tryz.func190.trans (congrArg some qC)
 t0:=Tryz.underlying0
 a0:=Tryz.isAgg0
 z0:=Tryz.sizeOf0
 v0:=Tryz.zeroValue0
 t3:=Tryz.underlying3
 a3:=Tryz.isAgg3
 z3:=Tryz.sizeOf3
 v3:=Tryz.zeroValue3
 t4:=Tryz.underlying4
 a4:=Tryz.isAgg4
 z4:=Tryz.sizeOf4
 v4:=Tryz.zeroValue4
 t5:=Tryz.underlying5
 a5:=Tryz.isAgg5
 z5:=Tryz.sizeOf5
 v5:=Tryz.zeroValue5
 t9:=Tryz.underlying9
 a9:=Tryz.isAgg9
 z9:=Tryz.sizeOf9
 v9:=Tryz.zeroValue9
 t116:=Tryz.underlying298
 a116:=Tryz.isAgg298
 z116:=Tryz.sizeOf298}
open Go.RowKit Go.Lib in
theorem Tryz.strings_makeASCIISet (hv116: ∀w,(zeroValue 298).run Tryz.prog w= .ok (.agg (Array.replicate 256 (.bool false))) w) (chars:ByteArray) (w:World) (hs:chars.size<4294967281) (hascii: ∀(j:Nat) b,chars.data.toList[j]?=some b→b.toNat<128):
 Calls Tryz.prog 190 #[.string chars] w fun e w'=>e= .returned (.tuple #[.agg (Lib.setCells chars.data.toList),.bool true])∧w'=w.alloc (.cells (Lib.setCells chars.data.toList) 298):=Any.strings_makeASCIISet Tryz.Pv hv116 qC chars w hs hascii
def Tryz.Ga:Go.Shelf.Ren:=⟨fun|228=>211|n=>n,fun|124=>302|5=>5|4=>4|0=>0|116=>298|n=>n,fun|n=>n⟩
theorem Tryz.Pw:Go.Proofs.Lays.n228 Tryz.prog Tryz.Ga:={
 mixed:=by kernel_rfl
 f228:=Tryz.func211.trans (congrArg some qC)
 t0:=Tryz.underlying0
 a0:=Tryz.isAgg0
 z0:=Tryz.sizeOf0
 v0:=Tryz.zeroValue0
 t4:=Tryz.underlying4
 a4:=Tryz.isAgg4
 z4:=Tryz.sizeOf4
 v4:=Tryz.zeroValue4
 t5:=Tryz.underlying5
 a5:=Tryz.isAgg5
 z5:=Tryz.sizeOf5
 v5:=Tryz.zeroValue5
 t116:=Tryz.underlying298
 a116:=Tryz.isAgg298
 z116:=Tryz.sizeOf298
 t124:=Tryz.underlying302
 a124:=Tryz.isAgg302
 z124:=Tryz.sizeOf302
 v124:=Tryz.zeroValue302}
open Go.RowKit Go.Lib in
theorem Tryz.asciiSet_contains (b:Nat) (x:UInt8) (v:Bool) (w:World) (hc:w.cell? ⟨b,x.toNat,none⟩=some (.bool v)):
 Calls Tryz.prog 211 #[.pointer (some ⟨b,0,none⟩),.int .u8 x.toNat] w fun e w'=>e= .returned (.bool v)∧w'=w:=Any.asciiSet_contains Tryz.Pw b x v w hc
open Go.RowKit Go.Lib in
theorem Tryz.strings_IndexAny_long (hv116: ∀w,(zeroValue 298).run Tryz.prog w= .ok (.agg (Array.replicate 256 (.bool false))) w) (s chars:ByteArray) (w:World) (h2:2≤chars.size) (h8:8<s.size) (hs:s.size<4294967281) (hcs:chars.size<4294967281) (hascii: ∀(j:Nat) b,chars.data.toList[j]?=some b→b.toNat<128):
 Calls Tryz.prog 134 #[.string s,.string chars] w fun e w'=>e= .returned (.int .i64 (Lib.indexAny s.data.toList chars.data.toList))∧w'=((w.alloc (.cells (Lib.setCells chars.data.toList) 298)).alloc (.cells (Lib.setCells chars.data.toList) 298)):=Any.strings_IndexAny_long Tryz.Dp hv116 qC s chars w h2 h8 hs hcs hascii
open Go.RowKit Go.Lib in
theorem Tryz.strings_IndexAny (hv116: ∀w,(zeroValue 298).run Tryz.prog w= .ok (.agg (Array.replicate 256 (.bool false))) w) (s chars:ByteArray) (w:World) (hs:s.size<4294967281) (hcs:chars.size<4294967281) (has: ∀(j:Nat) b,s.data.toList[j]?=some b→b.toNat<128) (hac: ∀(j:Nat) b,chars.data.toList[j]?=some b→b.toNat<128):
 Calls Tryz.prog 134 #[.string s,.string chars] w fun e w'=>e= .returned (.int .i64 (Lib.indexAny s.data.toList chars.data.toList))∧Below w.heap.size w w':=Any.strings_IndexAny Tryz.Dp hv116 qC s chars w hs hcs has hac
def Tryz.xP:Go.Shelf.Ren:=⟨fun|105=>251|212=>312|99=>248|165=>216|166=>217|170=>313|169=>218|263=>352|264=>353|206=>214|240=>295|241=>296|276=>333|277=>334|n=>n,fun|9=>9|3=>3|4=>4|20=>20|0=>0|46=>285|109=>397|5=>5|72=>319|76=>265|51=>351|146=>426|53=>353|148=>428|70=>317|37=>35|75=>264|127=>382|164=>414|80=>321|n=>n,fun|n=>n⟩
theorem Tryz.Px:Go.Proofs.Lays.n105 Tryz.prog Tryz.xP:={
 mixed:=by kernel_rfl
 f99:=Tryz.func248.trans (congrArg some qC)
 f105:=Tryz.func251.trans (congrArg some qC)
 f165:=Tryz.func216.trans (congrArg some qC)
 f166:=Tryz.func217.trans (congrArg some qC)
 f169:=Tryz.func218.trans (congrArg some qC)
 f170:=Tryz.func313.trans (congrArg some qC)
 f206:=Tryz.func214.trans (congrArg some qC)
 f212:=Tryz.func312.trans (congrArg some qC)
 f240:=Tryz.func295.trans (congrArg some qC)
 f241:=Tryz.func296.trans (congrArg some qC)
 f263:=Tryz.func352.trans (congrArg some qC)
 f264:=Tryz.func353.trans (congrArg some qC)
 f276:=Tryz.func333.trans (congrArg some qC)
 f277:=Tryz.func334.trans (congrArg some qC)
 t0:=Tryz.underlying0
 a0:=Tryz.isAgg0
 z0:=Tryz.sizeOf0
 v0:=Tryz.zeroValue0
 t3:=Tryz.underlying3
 a3:=Tryz.isAgg3
 z3:=Tryz.sizeOf3
 v3:=Tryz.zeroValue3
 t4:=Tryz.underlying4
 a4:=Tryz.isAgg4
 z4:=Tryz.sizeOf4
 v4:=Tryz.zeroValue4
 t5:=Tryz.underlying5
 a5:=Tryz.isAgg5
 z5:=Tryz.sizeOf5
 v5:=Tryz.zeroValue5
 t9:=Tryz.underlying9
 a9:=Tryz.isAgg9
 z9:=Tryz.sizeOf9
 v9:=Tryz.zeroValue9
 t20:=Tryz.underlying20
 a20:=Tryz.isAgg20
 z20:=Tryz.sizeOf20
 v20:=Tryz.zeroValue20
 t37:=Tryz.underlying35
 a37:=Tryz.isAgg35
 z37:=Tryz.sizeOf35
 v37:=Tryz.zeroValue35
 t46:=Tryz.underlying285
 a46:=Tryz.isAgg285
 z46:=Tryz.sizeOf285
 v46:=Tryz.zeroValue285
 t51:=Tryz.underlying351
 a51:=Tryz.isAgg351
 z51:=Tryz.sizeOf351
 v51:=Tryz.zeroValue351
 t53:=Tryz.underlying353
 a53:=Tryz.isAgg353
 z53:=Tryz.sizeOf353
 v53:=Tryz.zeroValue353
 t70:=Tryz.underlying317
 a70:=Tryz.isAgg317
 z70:=Tryz.sizeOf317
 v70:=Tryz.zeroValue317
 t72:=Tryz.underlying319
 a72:=Tryz.isAgg319
 z72:=Tryz.sizeOf319
 v72:=Tryz.zeroValue319
 t75:=Tryz.underlying264
 a75:=Tryz.isAgg264
 z75:=Tryz.sizeOf264
 v75:=Tryz.zeroValue264
 t76:=Tryz.underlying265
 a76:=Tryz.isAgg265
 z76:=Tryz.sizeOf265
 v76:=Tryz.zeroValue265
 t109:=Tryz.underlying397
 a109:=Tryz.isAgg397
 z109:=Tryz.sizeOf397
 v109:=Tryz.zeroValue397
 t127:=Tryz.underlying382
 a127:=Tryz.isAgg382
 z127:=Tryz.sizeOf382
 v127:=Tryz.zeroValue382
 t146:=Tryz.underlying426
 a146:=Tryz.isAgg426
 z146:=Tryz.sizeOf426
 v146:=Tryz.zeroValue426
 t148:=Tryz.underlying428
 a148:=Tryz.isAgg428
 z148:=Tryz.sizeOf428
 v148:=Tryz.zeroValue428
 t164:=Tryz.underlying414
 a164:=Tryz.isAgg414
 z164:=Tryz.sizeOf414
 v164:=Tryz.zeroValue414}
theorem Tryz.tR:Builder.Extra Tryz.prog Tryz.xP:={
 sizeBuilder:=by kernel_rfl
 liesBuilder:=by kernel_rfl
 t5:=Tryz.underlying5
 a5:=Tryz.isAgg5
 z5:=Tryz.sizeOf5
 v5:=Tryz.zeroValue5
 infoByte:=by kernel_rfl
 cellsByte:=by kernel_rfl
 sizeByte:=by kernel_rfl
 neB5:=by decide}
open Go.RowKit Go.Lib in
theorem Tryz.strings_Repeat (s:ByteArray) (c:Nat) (w:World) (hc:c≤9223372036854775807) (hlen:s.size*c≤140737488355328):
 Calls Tryz.prog 251 #[.string s,.int .i64 c] w fun e w'=>e= .returned (.string ⟨(Lib.repeatL s.data.toList c).toArray⟩)∧Below w.heap.size w w':=Any.strings_Repeat Tryz.Px Tryz.tR s c w hc hlen
def Tryz.Gb:Go.Shelf.Ren:=⟨fun|229=>272|n=>n,fun|9=>9|40=>364|31=>30|152=>410|3=>3|0=>0|4=>4|21=>21|154=>412|n=>n,fun|n=>n⟩
theorem Tryz.Py:Go.Proofs.Lays.n229 Tryz.prog Tryz.Gb:={
 mixed:=by kernel_rfl
 f229:=Tryz.func272.trans (congrArg some qC)
 t0:=Tryz.underlying0
 a0:=Tryz.isAgg0
 z0:=Tryz.sizeOf0
 v0:=Tryz.zeroValue0
 t3:=Tryz.underlying3
 a3:=Tryz.isAgg3
 z3:=Tryz.sizeOf3
 v3:=Tryz.zeroValue3
 t4:=Tryz.underlying4
 a4:=Tryz.isAgg4
 z4:=Tryz.sizeOf4
 v4:=Tryz.zeroValue4
 t9:=Tryz.underlying9
 a9:=Tryz.isAgg9
 z9:=Tryz.sizeOf9
 v9:=Tryz.zeroValue9
 t21:=Tryz.underlying21
 a21:=Tryz.isAgg21
 z21:=Tryz.sizeOf21
 v21:=Tryz.zeroValue21
 t31:=Tryz.underlying30
 a31:=Tryz.isAgg30
 z31:=Tryz.sizeOf30
 v31:=Tryz.zeroValue30
 t40:=Tryz.underlying364
 a40:=Tryz.isAgg364
 z40:=Tryz.sizeOf364
 v40:=Tryz.zeroValue364
 t152:=Tryz.underlying410
 a152:=Tryz.isAgg410
 z152:=Tryz.sizeOf410
 v152:=Tryz.zeroValue410
 t154:=Tryz.underlying412
 a154:=Tryz.isAgg412
 z154:=Tryz.sizeOf412
 v154:=Tryz.zeroValue412}
open Go.RowKit Go.Lib in
theorem Tryz.strings_FieldsFunc_grows (g:Nat) (lb:Array Value) (eg: ∀args w,(callFunc g args).run Tryz.prog w= .ok (.enter g args) w) (p:Nat→Bool) (s:ByteArray) (w:World) (hs:s.size≤4294967296) (hp:PredGrows Tryz.prog g lb p w):
 Calls Tryz.prog 272 #[.string s,.func (.func g) #[] lb] w fun e w'=> ∃A,e= .returned (.slice (some ⟨A,0,none⟩) (Lib.goFieldsP p s).length (Lib.goFieldsP p s).length)∧w.heap.size≤A∧
  w'.ownsRow w.heap.size 9 1 (.slice (some ⟨A,0,none⟩) (Lib.goFieldsP p s).length (Lib.goFieldsP p s).length) (Lib.goFieldsP p s).length ((Lib.goFieldsP p s).map Value.string)∧Below w.heap.size w w':=Any.strings_FieldsFunc_grows Tryz.Py g lb eg p s w hs hp qC qC
def Tryz.BH:Go.Shelf.Ren:=⟨fun|17=>141|n=>n,fun|24=>30|9=>9|3=>3|4=>4|0=>0|n=>n,fun|n=>n⟩
theorem Tryz.KT:Go.Proofs.Lays2.n17 Tryz.prog Tryz.BH:={
 mixed:=by kernel_rfl
 f17:=Tryz.func141.trans (congrArg some qC)
 t0:=Tryz.underlying0
 a0:=Tryz.isAgg0
 z0:=Tryz.sizeOf0
 v0:=Tryz.zeroValue0
 t3:=Tryz.underlying3
 a3:=Tryz.isAgg3
 z3:=Tryz.sizeOf3
 v3:=Tryz.zeroValue3
 t4:=Tryz.underlying4
 a4:=Tryz.isAgg4
 z4:=Tryz.sizeOf4
 v4:=Tryz.zeroValue4
 t9:=Tryz.underlying9
 a9:=Tryz.isAgg9
 z9:=Tryz.sizeOf9
 v9:=Tryz.zeroValue9
 t24:=Tryz.underlying30
 a24:=Tryz.isAgg30
 z24:=Tryz.sizeOf30
 v24:=Tryz.zeroValue30}
open Go.RowKit Go.Lib Go.Sort in
theorem Tryz.slices_Reverse_string (blk off cap:Nat) (zs:List (List UInt8)) (w:World) (hH:Holds encStr w blk off zs.toArray) (hsz:zs.length≤9223372036854775807):
 Calls Tryz.prog 141 #[.slice (some ⟨blk,off,none⟩) zs.length cap] w fun e w'=>e= .returned (.tuple #[])∧ ∃n,w'=putRow encStr (Sort.ahead w n) blk off zs.reverse.toArray:=Any.slices_Reverse_string Tryz.KT blk off cap zs w hH hsz
def Tryz.tS:Go.Shelf.Ren:=⟨fun|6=>104|8=>174|9=>173|19=>261|20=>262|21=>252|22=>253|23=>254|24=>255|25=>256|26=>257|27=>258|28=>259|29=>260|36=>314|31=>315|32=>316|37=>317|38=>318|39=>319|41=>354|n=>n,fun|27=>30|29=>9|3=>3|32=>285|26=>30|0=>0|44=>351|46=>353|4=>4|36=>345|35=>344|41=>196|5=>5|9=>9|53=>400|57=>404|63=>430|64=>431|n=>n,fun|n=>n⟩
theorem Tryz.BI:Go.Proofs.SlLaysM.n6 Tryz.prog Tryz.tS:={
 mixed:=by kernel_rfl
 f6:=⟨Tryz.f104.name,qK,Tryz.func104.trans (congrArg some qC)⟩
 f8:=Tryz.func174.trans (congrArg some qC)
 f9:=⟨Tryz.f173.name,qK,Tryz.func173.trans (congrArg some qC)⟩
 f19:=Tryz.func261.trans (congrArg some qC)
 f20:=Tryz.func262.trans (congrArg some qC)
 f21:=⟨Tryz.f252.name,qK,Tryz.func252.trans (congrArg some qC)⟩
 f22:=⟨Tryz.f253.name,qK,Tryz.func253.trans (congrArg some qC)⟩
 f23:=⟨Tryz.f254.name,qK,Tryz.func254.trans (congrArg some qC)⟩
 f24:=⟨Tryz.f255.name,qK,Tryz.func255.trans (congrArg some qC)⟩
 f25:=⟨Tryz.f256.name,qK,Tryz.func256.trans (congrArg some qC)⟩
 f26:=⟨Tryz.f257.name,qK,Tryz.func257.trans (congrArg some qC)⟩
 f27:=⟨Tryz.f258.name,qK,Tryz.func258.trans (congrArg some qC)⟩
 f28:=⟨Tryz.f259.name,qK,Tryz.func259.trans (congrArg some qC)⟩
 f29:=⟨Tryz.f260.name,qK,Tryz.func260.trans (congrArg some qC)⟩
 f31:=Tryz.func315.trans (congrArg some qC)
 f32:=Tryz.func316.trans (congrArg some qC)
 f36:=⟨Tryz.f314.name,qK,Tryz.func314.trans (congrArg some qC)⟩
 f37:=⟨Tryz.f317.name,qK,Tryz.func317.trans (congrArg some qC)⟩
 f38:=⟨Tryz.f318.name,qK,Tryz.func318.trans (congrArg some qC)⟩
 f39:=⟨Tryz.f319.name,qK,Tryz.func319.trans (congrArg some qC)⟩
 f41:=⟨Tryz.f354.name,qK,Tryz.func354.trans (congrArg some qC)⟩
 t0:=Tryz.underlying0
 a0:=Tryz.isAgg0
 z0:=Tryz.sizeOf0
 v0:=Tryz.zeroValue0
 t3:=Tryz.underlying3
 a3:=Tryz.isAgg3
 z3:=Tryz.sizeOf3
 v3:=Tryz.zeroValue3
 t4:=Tryz.underlying4
 a4:=Tryz.isAgg4
 z4:=Tryz.sizeOf4
 v4:=Tryz.zeroValue4
 t5:=Tryz.underlying5
 a5:=Tryz.isAgg5
 z5:=Tryz.sizeOf5
 v5:=Tryz.zeroValue5
 t9:=Tryz.underlying9
 a9:=Tryz.isAgg9
 z9:=Tryz.sizeOf9
 v9:=Tryz.zeroValue9
 t26:=Tryz.underlying30
 a26:=Tryz.isAgg30
 z26:=Tryz.sizeOf30
 v26:=Tryz.zeroValue30
 t27:=Tryz.underlying30
 a27:=Tryz.isAgg30
 z27:=Tryz.sizeOf30
 v27:=Tryz.zeroValue30
 t29:=Tryz.underlying9
 a29:=Tryz.isAgg9
 z29:=Tryz.sizeOf9
 v29:=Tryz.zeroValue9
 t32:=Tryz.underlying285
 a32:=Tryz.isAgg285
 z32:=Tryz.sizeOf285
 v32:=Tryz.zeroValue285
 t35:=Tryz.underlying344
 a35:=Tryz.isAgg344
 z35:=Tryz.sizeOf344
 v35:=Tryz.zeroValue344
 t36:=Tryz.underlying345
 a36:=Tryz.isAgg345
 z36:=Tryz.sizeOf345
 v36:=Tryz.zeroValue345
 t41:=Tryz.underlying196
 a41:=Tryz.isAgg196
 z41:=Tryz.sizeOf196
 v41:=Tryz.zeroValue196
 t44:=Tryz.underlying351
 a44:=Tryz.isAgg351
 z44:=Tryz.sizeOf351
 v44:=Tryz.zeroValue351
 t46:=Tryz.underlying353
 a46:=Tryz.isAgg353
 z46:=Tryz.sizeOf353
 v46:=Tryz.zeroValue353
 t53:=Tryz.underlying400
 a53:=Tryz.isAgg400
 z53:=Tryz.sizeOf400
 v53:=Tryz.zeroValue400
 t57:=Tryz.underlying404
 a57:=Tryz.isAgg404
 z57:=Tryz.sizeOf404
 v57:=Tryz.zeroValue404
 t63:=Tryz.underlying430
 a63:=Tryz.isAgg430
 z63:=Tryz.sizeOf430
 v63:=Tryz.zeroValue430
 t64:=Tryz.underlying431
 a64:=Tryz.isAgg431
 z64:=Tryz.sizeOf431
 v64:=Tryz.zeroValue431}
open Go.RowKit Go.Sort in
theorem Tryz.slices_Sort_string_none (p:Option Addr) (cap:Nat) (w:World):
 Calls Tryz.prog 104 #[.slice p 0 cap] w fun e w'=>e= .returned (.tuple #[])∧w'=w:=AnyM.slices_Sort_string_none Tryz.BI p cap w
end Go.Proofs
