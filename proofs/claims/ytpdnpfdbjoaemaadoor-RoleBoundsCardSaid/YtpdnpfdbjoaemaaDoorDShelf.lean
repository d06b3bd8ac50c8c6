/-
  DERIVED: THE SHELF's CONTRACTS AT THIS DUMP, IN PLAIN WORDS (tools/lay-plain.mjs out of 'TrydShelf.lean', which tools/lay-shelf.mjs wrote): THE SAME DECLARATIONS UNDER THE SAME NAMES: 'import', 'namespace', 'open', 'def', 'theorem' AND NOTHING ELSE: no command of the shelf's: FOR A HAND-IN. Each laying: the table of numbers ('.._ren') and one theorem, a field a fact of the dump's own or the kernel's comparison; each contract: ONE APPLICATION.
-/
import Derived.Shelf.Strings.Builder1
import Derived.Shelf.Strings.Builder2
import Derived.Shelf.Strings.OnBuilder
import Derived.Shelf.Strings.Trim
import Derived.Shelf.Small.Utf8
import Derived.Shelf.Small.Strs
import Derived.Shelf.Strconv.Atoi
import Derived.Shelf.Strconv.Itoa0
import Derived.Shelf.Strconv.Itoa1
import Derived.Shelf.LaysM
import Derived.Shelf.Strconv.Itoa2
import Derived.Shelf.Strconv.Itoa3
import Derived.Shelf.Strconv.AtoiErrFast
import Derived.Shelf.Strconv.ParseIntEmpty
import Derived.Shelf.Strconv.AtoiFail
import Derived.Shelf.Strconv.Clone
import Derived.Shelf.Strconv.SyntaxError
import Derived.Shelf.LaysC
import Derived.Shelf.Strconv.ToError
import Derived.Shelf.Strconv.Lower
import Derived.Shelf.Strconv.ParseUint10
import Derived.Shelf.Strconv.ParseUint10Empty
import Derived.Shelf.Strconv.ParseUint10Any
import Derived.Shelf.Strconv.ParseInt10
import Derived.Shelf.Strconv.AtoiLong
import Derived.Shelf.Strconv.AtoiInnerAll
import Derived.Shelf.Strconv.RangeError
import Derived.Shelf.Strconv.ToErrorRange
import Derived.Shelf.Strconv.AtoiAll
import Derived.Shelf.Strings.Search1
import Derived.Shelf.Strings.Search2
import Derived.Shelf.Strings.Search3
import Derived.Shelf.Strings.Count
import Derived.Shelf.Strings.Shaped
import Derived.Shelf.Strings.Prefix
import Derived.Shelf.Strings.Runes
import Derived.Shelf.Strings.AsciiSet
import Derived.Shelf.Unicode.DecodeSlow
import Derived.Test.YtpdnpfdbjoaemaaDoorProg
namespace Go.Proofs
open Go.Shelf
def Tryd.lays169_ren : Go.Shelf.Ren:=⟨fun | 169=>19 | n=>n,fun | 70=>57 | 9=>9 | 0=>0 | 72=>60 | 37=>58 | 127=>79 | 3=>3 | 5=>5 | n=>n,fun | n=>n⟩
theorem Tryd.lays169 : Go.Proofs.Lays.n169 Tryd.prog Tryd.lays169_ren:={
 mixed:=by kernel_rfl
 f169:=Tryd.func19.trans (congrArg some (by kernel_rfl))
 t0:=Tryd.underlying0
 a0:=Tryd.isAgg0
 z0:=Tryd.sizeOf0
 v0:=Tryd.zeroValue0
 t3:=Tryd.underlying3
 a3:=Tryd.isAgg3
 z3:=Tryd.sizeOf3
 v3:=Tryd.zeroValue3
 t9:=Tryd.underlying9
 a9:=Tryd.isAgg9
 z9:=Tryd.sizeOf9
 v9:=Tryd.zeroValue9
 t37:=Tryd.underlying58
 a37:=Tryd.isAgg58
 z37:=Tryd.sizeOf58
 v37:=Tryd.zeroValue58
 t70:=Tryd.underlying57
 a70:=Tryd.isAgg57
 z70:=Tryd.sizeOf57
 v70:=Tryd.zeroValue57
 t72:=Tryd.underlying60
 a72:=Tryd.isAgg60
 z72:=Tryd.sizeOf60
 v72:=Tryd.zeroValue60
 t127:=Tryd.underlying79
 a127:=Tryd.isAgg79
 z127:=Tryd.sizeOf79
 v127:=Tryd.zeroValue79 }
theorem Tryd.Builder_Extra_169 : Builder.Extra Tryd.prog Tryd.lays169_ren:={
 sizeBuilder:=by kernel_rfl
 liesBuilder:=by kernel_rfl
 t5:=Tryd.underlying5
 a5:=Tryd.isAgg5
 z5:=Tryd.sizeOf5
 v5:=Tryd.zeroValue5
 infoByte:=by kernel_rfl
 cellsByte:=by kernel_rfl
 sizeByte:=by kernel_rfl
 neB5:=by decide }
def Tryd.lays156_ren : Go.Shelf.Ren:=⟨fun | 156=>47 | 165=>64 | 166=>16 | 169=>19 | 240=>31 | 241=>78 | 276=>45 | 277=>89 | n=>n,fun | 31=>34 | 9=>9 | 3=>3 | 4=>4 | 0=>0 | 20=>20 | 72=>60 | 76=>63 | 70=>57 | 37=>58 | 75=>62 | 127=>79 | 164=>84 | 5=>5 | 80=>67 | n=>n,fun | n=>n⟩
theorem Tryd.lays156 : Go.Proofs.Lays.n156 Tryd.prog Tryd.lays156_ren:={
 mixed:=by kernel_rfl
 f156:=Tryd.func47.trans (congrArg some (by kernel_rfl))
 f165:=Tryd.func64.trans (congrArg some (by kernel_rfl))
 f166:=Tryd.func16.trans (congrArg some (by kernel_rfl))
 f169:=Tryd.func19.trans (congrArg some (by kernel_rfl))
 f240:=Tryd.func31.trans (congrArg some (by kernel_rfl))
 f241:=Tryd.func78.trans (congrArg some (by kernel_rfl))
 f276:=Tryd.func45.trans (congrArg some (by kernel_rfl))
 f277:=Tryd.func89.trans (congrArg some (by kernel_rfl))
 t0:=Tryd.underlying0
 a0:=Tryd.isAgg0
 z0:=Tryd.sizeOf0
 v0:=Tryd.zeroValue0
 t3:=Tryd.underlying3
 a3:=Tryd.isAgg3
 z3:=Tryd.sizeOf3
 v3:=Tryd.zeroValue3
 t4:=Tryd.underlying4
 a4:=Tryd.isAgg4
 z4:=Tryd.sizeOf4
 v4:=Tryd.zeroValue4
 t9:=Tryd.underlying9
 a9:=Tryd.isAgg9
 z9:=Tryd.sizeOf9
 v9:=Tryd.zeroValue9
 t20:=Tryd.underlying20
 a20:=Tryd.isAgg20
 z20:=Tryd.sizeOf20
 v20:=Tryd.zeroValue20
 t31:=Tryd.underlying34
 a31:=Tryd.isAgg34
 z31:=Tryd.sizeOf34
 v31:=Tryd.zeroValue34
 t37:=Tryd.underlying58
 a37:=Tryd.isAgg58
 z37:=Tryd.sizeOf58
 v37:=Tryd.zeroValue58
 t70:=Tryd.underlying57
 a70:=Tryd.isAgg57
 z70:=Tryd.sizeOf57
 v70:=Tryd.zeroValue57
 t72:=Tryd.underlying60
 a72:=Tryd.isAgg60
 z72:=Tryd.sizeOf60
 v72:=Tryd.zeroValue60
 t75:=Tryd.underlying62
 a75:=Tryd.isAgg62
 z75:=Tryd.sizeOf62
 v75:=Tryd.zeroValue62
 t76:=Tryd.underlying63
 a76:=Tryd.isAgg63
 z76:=Tryd.sizeOf63
 v76:=Tryd.zeroValue63
 t127:=Tryd.underlying79
 a127:=Tryd.isAgg79
 z127:=Tryd.sizeOf79
 v127:=Tryd.zeroValue79
 t164:=Tryd.underlying84
 a164:=Tryd.isAgg84
 z164:=Tryd.sizeOf84
 v164:=Tryd.zeroValue84 }
theorem Tryd.Builder_Extra_156 : Builder.Extra Tryd.prog Tryd.lays156_ren:={
 sizeBuilder:=by kernel_rfl
 liesBuilder:=by kernel_rfl
 t5:=Tryd.underlying5
 a5:=Tryd.isAgg5
 z5:=Tryd.sizeOf5
 v5:=Tryd.zeroValue5
 infoByte:=by kernel_rfl
 cellsByte:=by kernel_rfl
 sizeByte:=by kernel_rfl
 neB5:=by decide }
def Tryd.lays160_ren : Go.Shelf.Ren:=⟨fun | 160=>41 | 232=>55 | 231=>54 | 227=>56 | 234=>58 | 233=>57 | 236=>60 | 235=>59 | 228=>66 | 271=>68 | 151=>67 | 197=>38 | 120=>80 | 152=>79 | 260=>51 | 137=>28 | 119=>90 | 224=>49 | 225=>48 | 217=>40 | 266=>53 | n=>n,fun | 9=>9 | 4=>4 | 3=>3 | 5=>5 | 117=>93 | 116=>92 | 0=>0 | 124=>96 | 21=>21 | 105=>81 | 46=>89 | 119=>103 | 139=>106 | 138=>105 | n=>n,fun | 3=>1 | 4=>2 | n=>n⟩
theorem Tryd.lays160 : Go.Proofs.Lays.n160 Tryd.prog Tryd.lays160_ren:={
 mixed:=by kernel_rfl
 f119:=Tryd.func90.trans (congrArg some (by kernel_rfl))
 f120:=Tryd.func80.trans (congrArg some (by kernel_rfl))
 f137:=Tryd.func28.trans (congrArg some (by kernel_rfl))
 f151:=Tryd.func67.trans (congrArg some (by kernel_rfl))
 f152:=Tryd.func79.trans (congrArg some (by kernel_rfl))
 f160:=Tryd.func41.trans (congrArg some (by kernel_rfl))
 f197:=Tryd.func38.trans (congrArg some (by kernel_rfl))
 f217:=Tryd.func40.trans (congrArg some (by kernel_rfl))
 f224:=Tryd.func49.trans (congrArg some (by kernel_rfl))
 f225:=Tryd.func48.trans (congrArg some (by kernel_rfl))
 f227:=Tryd.func56.trans (congrArg some (by kernel_rfl))
 f228:=Tryd.func66.trans (congrArg some (by kernel_rfl))
 f231:=Tryd.func54.trans (congrArg some (by kernel_rfl))
 f232:=Tryd.func55.trans (congrArg some (by kernel_rfl))
 f233:=Tryd.func57.trans (congrArg some (by kernel_rfl))
 f234:=Tryd.func58.trans (congrArg some (by kernel_rfl))
 f235:=Tryd.func59.trans (congrArg some (by kernel_rfl))
 f236:=Tryd.func60.trans (congrArg some (by kernel_rfl))
 f260:=Tryd.func51.trans (congrArg some (by kernel_rfl))
 f266:=Tryd.func53.trans (congrArg some (by kernel_rfl))
 f271:=Tryd.func68.trans (congrArg some (by kernel_rfl))
 t0:=Tryd.underlying0
 a0:=Tryd.isAgg0
 z0:=Tryd.sizeOf0
 v0:=Tryd.zeroValue0
 t3:=Tryd.underlying3
 a3:=Tryd.isAgg3
 z3:=Tryd.sizeOf3
 v3:=Tryd.zeroValue3
 t4:=Tryd.underlying4
 a4:=Tryd.isAgg4
 z4:=Tryd.sizeOf4
 v4:=Tryd.zeroValue4
 t5:=Tryd.underlying5
 a5:=Tryd.isAgg5
 z5:=Tryd.sizeOf5
 v5:=Tryd.zeroValue5
 t9:=Tryd.underlying9
 a9:=Tryd.isAgg9
 z9:=Tryd.sizeOf9
 v9:=Tryd.zeroValue9
 t21:=Tryd.underlying21
 a21:=Tryd.isAgg21
 z21:=Tryd.sizeOf21
 v21:=Tryd.zeroValue21
 t46:=Tryd.underlying89
 a46:=Tryd.isAgg89
 z46:=Tryd.sizeOf89
 v46:=Tryd.zeroValue89
 t105:=Tryd.underlying81
 a105:=Tryd.isAgg81
 z105:=Tryd.sizeOf81
 v105:=Tryd.zeroValue81
 t116:=Tryd.underlying92
 a116:=Tryd.isAgg92
 z116:=Tryd.sizeOf92
 t117:=Tryd.underlying93
 a117:=Tryd.isAgg93
 z117:=Tryd.sizeOf93
 v117:=Tryd.zeroValue93
 t119:=Tryd.underlying103
 a119:=Tryd.isAgg103
 z119:=Tryd.sizeOf103
 t124:=Tryd.underlying96
 a124:=Tryd.isAgg96
 z124:=Tryd.sizeOf96
 v124:=Tryd.zeroValue96
 t138:=Tryd.underlying105
 a138:=Tryd.isAgg105
 z138:=Tryd.sizeOf105
 v138:=Tryd.zeroValue105
 t139:=Tryd.underlying106
 a139:=Tryd.isAgg106
 z139:=Tryd.sizeOf106
 v139:=Tryd.zeroValue106
 g3:=by kernel_rfl
 g4:=by kernel_rfl }
def Tryd.lays137_ren : Go.Shelf.Ren:=⟨fun | 137=>28 | 217=>40 | 266=>53 | n=>n,fun | 9=>9 | 5=>5 | 3=>3 | n=>n,fun | n=>n⟩
theorem Tryd.lays137 : Go.Proofs.Lays.n137 Tryd.prog Tryd.lays137_ren:={
 mixed:=by kernel_rfl
 f137:=Tryd.func28.trans (congrArg some (by kernel_rfl))
 f217:=Tryd.func40.trans (congrArg some (by kernel_rfl))
 f266:=Tryd.func53.trans (congrArg some (by kernel_rfl))
 t3:=Tryd.underlying3
 a3:=Tryd.isAgg3
 z3:=Tryd.sizeOf3
 v3:=Tryd.zeroValue3
 t5:=Tryd.underlying5
 a5:=Tryd.isAgg5
 z5:=Tryd.sizeOf5
 v5:=Tryd.zeroValue5
 t9:=Tryd.underlying9
 a9:=Tryd.isAgg9
 z9:=Tryd.sizeOf9
 v9:=Tryd.zeroValue9 }
open Go.RowKit in
theorem Tryd.strings_IndexByte (s : ByteArray) (c : Int) (w : World) :
  Calls Tryd.prog 28 #[.string s,.int .u8 c] w fun e w'=>e = .returned (.int .i64 (Lib.indexByte s.data.toList c.toNat.toUInt8)) ∧ w' = w:=Any.strings_IndexByte Tryd.lays137 s c w
def Tryd.lays172_ren : Go.Shelf.Ren:=⟨fun | 172=>42 | 244=>61 | 245=>62 | 247=>69 | 279=>70 | 280=>71 | 281=>72 | 282=>73 | 287=>81 | 316=>82 | 171=>33 | 205=>83 | 321=>91 | 322=>92 | 243=>46 | 246=>63 | 283=>74 | 284=>75 | 285=>76 | 286=>77 | 129=>85 | 317=>84 | 318=>86 | 319=>87 | 320=>88 | 337=>93 | 338=>94 | n=>n,fun | 9=>9 | 3=>3 | 75=>62 | 76=>63 | 4=>4 | 5=>5 | 167=>108 | 37=>58 | 0=>0 | 85=>109 | 2=>2 | 168=>111 | 53=>115 | 175=>121 | 46=>89 | 210=>124 | 127=>79 | 145=>136 | 143=>134 | 21=>21 | 171=>114 | 173=>118 | 212=>127 | 51=>100 | 20=>20 | 213=>128 | 232=>138 | 233=>139 | 80=>67 | n=>n,fun | 15=>3 | 16=>4 | 17=>5 | 18=>6 | 19=>7 | n=>n⟩
theorem Tryd.lays172 : Go.Proofs.Lays.n172 Tryd.prog Tryd.lays172_ren:={
 mixed:=by kernel_rfl
 f129:=Tryd.func85.trans (congrArg some (by kernel_rfl))
 f171:=Tryd.func33.trans (congrArg some (by kernel_rfl))
 f172:=Tryd.func42.trans (congrArg some (by kernel_rfl))
 f205:=Tryd.func83.trans (congrArg some (by kernel_rfl))
 f243:=Tryd.func46.trans (congrArg some (by kernel_rfl))
 f244:=Tryd.func61.trans (congrArg some (by kernel_rfl))
 f245:=Tryd.func62.trans (congrArg some (by kernel_rfl))
 f246:=Tryd.func63.trans (congrArg some (by kernel_rfl))
 f247:=Tryd.func69.trans (congrArg some (by kernel_rfl))
 f279:=Tryd.func70.trans (congrArg some (by kernel_rfl))
 f280:=Tryd.func71.trans (congrArg some (by kernel_rfl))
 f281:=Tryd.func72.trans (congrArg some (by kernel_rfl))
 f282:=Tryd.func73.trans (congrArg some (by kernel_rfl))
 f283:=Tryd.func74.trans (congrArg some (by kernel_rfl))
 f284:=Tryd.func75.trans (congrArg some (by kernel_rfl))
 f285:=Tryd.func76.trans (congrArg some (by kernel_rfl))
 f286:=Tryd.func77.trans (congrArg some (by kernel_rfl))
 f287:=Tryd.func81.trans (congrArg some (by kernel_rfl))
 f316:=Tryd.func82.trans (congrArg some (by kernel_rfl))
 f317:=Tryd.func84.trans (congrArg some (by kernel_rfl))
 f318:=Tryd.func86.trans (congrArg some (by kernel_rfl))
 f319:=Tryd.func87.trans (congrArg some (by kernel_rfl))
 f320:=Tryd.func88.trans (congrArg some (by kernel_rfl))
 f321:=Tryd.func91.trans (congrArg some (by kernel_rfl))
 f322:=Tryd.func92.trans (congrArg some (by kernel_rfl))
 f337:=Tryd.func93.trans (congrArg some (by kernel_rfl))
 f338:=Tryd.func94.trans (congrArg some (by kernel_rfl))
 t0:=Tryd.underlying0
 a0:=Tryd.isAgg0
 z0:=Tryd.sizeOf0
 v0:=Tryd.zeroValue0
 t2:=Tryd.underlying2
 a2:=Tryd.isAgg2
 z2:=Tryd.sizeOf2
 v2:=Tryd.zeroValue2
 t3:=Tryd.underlying3
 a3:=Tryd.isAgg3
 z3:=Tryd.sizeOf3
 v3:=Tryd.zeroValue3
 t4:=Tryd.underlying4
 a4:=Tryd.isAgg4
 z4:=Tryd.sizeOf4
 v4:=Tryd.zeroValue4
 t5:=Tryd.underlying5
 a5:=Tryd.isAgg5
 z5:=Tryd.sizeOf5
 v5:=Tryd.zeroValue5
 t9:=Tryd.underlying9
 a9:=Tryd.isAgg9
 z9:=Tryd.sizeOf9
 v9:=Tryd.zeroValue9
 t20:=Tryd.underlying20
 a20:=Tryd.isAgg20
 z20:=Tryd.sizeOf20
 v20:=Tryd.zeroValue20
 t21:=Tryd.underlying21
 a21:=Tryd.isAgg21
 z21:=Tryd.sizeOf21
 v21:=Tryd.zeroValue21
 t37:=Tryd.underlying58
 a37:=Tryd.isAgg58
 z37:=Tryd.sizeOf58
 v37:=Tryd.zeroValue58
 t46:=Tryd.underlying89
 a46:=Tryd.isAgg89
 z46:=Tryd.sizeOf89
 v46:=Tryd.zeroValue89
 t51:=Tryd.underlying100
 a51:=Tryd.isAgg100
 z51:=Tryd.sizeOf100
 v51:=Tryd.zeroValue100
 t53:=Tryd.underlying115
 a53:=Tryd.isAgg115
 z53:=Tryd.sizeOf115
 v53:=Tryd.zeroValue115
 t75:=Tryd.underlying62
 a75:=Tryd.isAgg62
 z75:=Tryd.sizeOf62
 v75:=Tryd.zeroValue62
 t76:=Tryd.underlying63
 a76:=Tryd.isAgg63
 z76:=Tryd.sizeOf63
 v76:=Tryd.zeroValue63
 t85:=Tryd.underlying109
 a85:=Tryd.isAgg109
 z85:=Tryd.sizeOf109
 v85:=Tryd.zeroValue109
 t127:=Tryd.underlying79
 a127:=Tryd.isAgg79
 z127:=Tryd.sizeOf79
 v127:=Tryd.zeroValue79
 t143:=Tryd.underlying134
 a143:=Tryd.isAgg134
 z143:=Tryd.sizeOf134
 v143:=Tryd.zeroValue134
 t145:=Tryd.underlying136
 a145:=Tryd.isAgg136
 z145:=Tryd.sizeOf136
 v145:=Tryd.zeroValue136
 t167:=Tryd.underlying108
 a167:=Tryd.isAgg108
 z167:=Tryd.sizeOf108
 v167:=Tryd.zeroValue108
 t168:=Tryd.underlying111
 a168:=Tryd.isAgg111
 z168:=Tryd.sizeOf111
 v168:=Tryd.zeroValue111
 t171:=Tryd.underlying114
 a171:=Tryd.isAgg114
 z171:=Tryd.sizeOf114
 v171:=Tryd.zeroValue114
 t173:=Tryd.underlying118
 a173:=Tryd.isAgg118
 z173:=Tryd.sizeOf118
 v173:=Tryd.zeroValue118
 t175:=Tryd.underlying121
 a175:=Tryd.isAgg121
 z175:=Tryd.sizeOf121
 v175:=Tryd.zeroValue121
 t210:=Tryd.underlying124
 a210:=Tryd.isAgg124
 z210:=Tryd.sizeOf124
 v210:=Tryd.zeroValue124
 t212:=Tryd.underlying127
 a212:=Tryd.isAgg127
 z212:=Tryd.sizeOf127
 v212:=Tryd.zeroValue127
 t213:=Tryd.underlying128
 a213:=Tryd.isAgg128
 z213:=Tryd.sizeOf128
 t232:=Tryd.underlying138
 a232:=Tryd.isAgg138
 z232:=Tryd.sizeOf138
 v232:=Tryd.zeroValue138
 t233:=Tryd.underlying139
 a233:=Tryd.isAgg139
 z233:=Tryd.sizeOf139
 v233:=Tryd.zeroValue139
 g15:=by kernel_rfl
 g16:=by kernel_rfl
 g17:=by kernel_rfl
 g18:=by kernel_rfl
 g19:=by kernel_rfl }
open Go.RowKit in
theorem Tryd.strconv_Atoi (s : ByteArray) (n : Int) (hl : s.size ≤ 18) (h : Lib.atoi s.data.toList = some n) (w : World) :
  Calls Tryd.prog 42 #[.string s] w fun e w'=>e = .returned (.tuple #[.int .i64 n,.nilIface]) ∧ ∃ t,w' = Lib.bytesWorld w 5 t:=Any.strconv_Atoi Tryd.lays172 s n hl h w
def Tryd.laysM246_ren : Go.Shelf.Ren:=⟨fun | 246=>63 | 283=>74 | 284=>75 | 285=>76 | 286=>77 | 129=>85 | 317=>84 | 318=>86 | 319=>87 | 320=>88 | 337=>93 | 338=>94 | n=>n,fun | 2=>2 | 3=>3 | 9=>9 | 4=>4 | 171=>114 | 0=>0 | 53=>115 | 37=>58 | 5=>5 | 173=>118 | 212=>127 | 51=>100 | 20=>20 | 213=>128 | 46=>89 | 232=>138 | 233=>139 | n=>n,fun | 17=>5 | 18=>6 | 19=>7 | n=>n⟩
def Tryd.laysM243_ren : Go.Shelf.Ren:=⟨fun | 243=>46 | 246=>63 | 283=>74 | 284=>75 | 285=>76 | 286=>77 | 129=>85 | 317=>84 | 318=>86 | 319=>87 | 320=>88 | 337=>93 | 338=>94 | n=>n,fun | 3=>3 | 9=>9 | 2=>2 | 4=>4 | 171=>114 | 0=>0 | 53=>115 | 37=>58 | 5=>5 | 173=>118 | 212=>127 | 51=>100 | 20=>20 | 213=>128 | 46=>89 | 232=>138 | 233=>139 | n=>n,fun | 17=>5 | 18=>6 | 19=>7 | n=>n⟩
def Tryd.laysM171_ren : Go.Shelf.Ren:=⟨fun | 171=>33 | 243=>46 | 246=>63 | 283=>74 | 284=>75 | 285=>76 | 286=>77 | 129=>85 | 317=>84 | 318=>86 | 319=>87 | 320=>88 | 337=>93 | 338=>94 | n=>n,fun | 3=>3 | 9=>9 | 2=>2 | 4=>4 | 171=>114 | 0=>0 | 53=>115 | 37=>58 | 5=>5 | 173=>118 | 212=>127 | 51=>100 | 20=>20 | 213=>128 | 46=>89 | 232=>138 | 233=>139 | n=>n,fun | 17=>5 | 18=>6 | 19=>7 | n=>n⟩
def Tryd.lays171_ren : Go.Shelf.Ren:=⟨fun | 171=>33 | 243=>46 | 246=>63 | 283=>74 | 284=>75 | 285=>76 | 286=>77 | 129=>85 | 317=>84 | 318=>86 | 319=>87 | 320=>88 | 337=>93 | 338=>94 | n=>n,fun | 3=>3 | 9=>9 | 2=>2 | 4=>4 | 171=>114 | 0=>0 | 53=>115 | 37=>58 | 5=>5 | 173=>118 | 212=>127 | 51=>100 | 20=>20 | 213=>128 | 46=>89 | 232=>138 | 233=>139 | n=>n,fun | 17=>5 | 18=>6 | 19=>7 | n=>n⟩
theorem Tryd.lays171 : Go.Proofs.Lays.n171 Tryd.prog Tryd.lays171_ren:={
 mixed:=by kernel_rfl
 f129:=Tryd.func85.trans (congrArg some (by kernel_rfl))
 f171:=Tryd.func33.trans (congrArg some (by kernel_rfl))
 f243:=Tryd.func46.trans (congrArg some (by kernel_rfl))
 f246:=Tryd.func63.trans (congrArg some (by kernel_rfl))
 f283:=Tryd.func74.trans (congrArg some (by kernel_rfl))
 f284:=Tryd.func75.trans (congrArg some (by kernel_rfl))
 f285:=Tryd.func76.trans (congrArg some (by kernel_rfl))
 f286:=Tryd.func77.trans (congrArg some (by kernel_rfl))
 f317:=Tryd.func84.trans (congrArg some (by kernel_rfl))
 f318:=Tryd.func86.trans (congrArg some (by kernel_rfl))
 f319:=Tryd.func87.trans (congrArg some (by kernel_rfl))
 f320:=Tryd.func88.trans (congrArg some (by kernel_rfl))
 f337:=Tryd.func93.trans (congrArg some (by kernel_rfl))
 f338:=Tryd.func94.trans (congrArg some (by kernel_rfl))
 t0:=Tryd.underlying0
 a0:=Tryd.isAgg0
 z0:=Tryd.sizeOf0
 v0:=Tryd.zeroValue0
 t2:=Tryd.underlying2
 a2:=Tryd.isAgg2
 z2:=Tryd.sizeOf2
 v2:=Tryd.zeroValue2
 t3:=Tryd.underlying3
 a3:=Tryd.isAgg3
 z3:=Tryd.sizeOf3
 v3:=Tryd.zeroValue3
 t4:=Tryd.underlying4
 a4:=Tryd.isAgg4
 z4:=Tryd.sizeOf4
 v4:=Tryd.zeroValue4
 t5:=Tryd.underlying5
 a5:=Tryd.isAgg5
 z5:=Tryd.sizeOf5
 v5:=Tryd.zeroValue5
 t9:=Tryd.underlying9
 a9:=Tryd.isAgg9
 z9:=Tryd.sizeOf9
 v9:=Tryd.zeroValue9
 t20:=Tryd.underlying20
 a20:=Tryd.isAgg20
 z20:=Tryd.sizeOf20
 v20:=Tryd.zeroValue20
 t37:=Tryd.underlying58
 a37:=Tryd.isAgg58
 z37:=Tryd.sizeOf58
 v37:=Tryd.zeroValue58
 t46:=Tryd.underlying89
 a46:=Tryd.isAgg89
 z46:=Tryd.sizeOf89
 v46:=Tryd.zeroValue89
 t51:=Tryd.underlying100
 a51:=Tryd.isAgg100
 z51:=Tryd.sizeOf100
 v51:=Tryd.zeroValue100
 t53:=Tryd.underlying115
 a53:=Tryd.isAgg115
 z53:=Tryd.sizeOf115
 v53:=Tryd.zeroValue115
 t171:=Tryd.underlying114
 a171:=Tryd.isAgg114
 z171:=Tryd.sizeOf114
 v171:=Tryd.zeroValue114
 t173:=Tryd.underlying118
 a173:=Tryd.isAgg118
 z173:=Tryd.sizeOf118
 v173:=Tryd.zeroValue118
 t212:=Tryd.underlying127
 a212:=Tryd.isAgg127
 z212:=Tryd.sizeOf127
 v212:=Tryd.zeroValue127
 t213:=Tryd.underlying128
 a213:=Tryd.isAgg128
 z213:=Tryd.sizeOf128
 t232:=Tryd.underlying138
 a232:=Tryd.isAgg138
 z232:=Tryd.sizeOf138
 v232:=Tryd.zeroValue138
 t233:=Tryd.underlying139
 a233:=Tryd.isAgg139
 z233:=Tryd.sizeOf139
 v233:=Tryd.zeroValue139
 g17:=by kernel_rfl
 g18:=by kernel_rfl
 g19:=by kernel_rfl }
open Go.RowKit Go.Sort Go.Lib in
theorem Tryd.strconv_Itoa_small (i : Nat) (hi : i < 100) (w : World) :
  Calls Tryd.prog 33 #[.int .i64 i] w fun e w'=>e = .returned (.string ⟨(Lib.decDigits i).toArray⟩) ∧ w' = w:=Any.strconv_Itoa_small Tryd.lays171 i hi w
def Tryd.lays219_ren : Go.Shelf.Ren:=⟨fun | 219=>36 | 217=>40 | 225=>48 | 224=>49 | 267=>50 | 266=>53 | 314=>65 | n=>n,fun | 9=>9 | 3=>3 | 4=>4 | 5=>5 | 46=>89 | 146=>101 | 51=>100 | n=>n,fun | 1=>0 | n=>n⟩
def Tryd.lays143_ren : Go.Shelf.Ren:=⟨fun | 143=>24 | 219=>36 | 217=>40 | 225=>48 | 224=>49 | 267=>50 | 266=>53 | 314=>65 | n=>n,fun | 9=>9 | 3=>3 | 4=>4 | 5=>5 | 46=>89 | 146=>101 | 51=>100 | n=>n,fun | 1=>0 | n=>n⟩
theorem Tryd.lays143 : Go.Proofs.Lays.n143 Tryd.prog Tryd.lays143_ren:={
 mixed:=by kernel_rfl
 f143:=Tryd.func24.trans (congrArg some (by kernel_rfl))
 f217:=Tryd.func40.trans (congrArg some (by kernel_rfl))
 f219:=Tryd.func36.trans (congrArg some (by kernel_rfl))
 f224:=Tryd.func49.trans (congrArg some (by kernel_rfl))
 f225:=Tryd.func48.trans (congrArg some (by kernel_rfl))
 f266:=Tryd.func53.trans (congrArg some (by kernel_rfl))
 f267:=Tryd.func50.trans (congrArg some (by kernel_rfl))
 f314:=Tryd.func65.trans (congrArg some (by kernel_rfl))
 t3:=Tryd.underlying3
 a3:=Tryd.isAgg3
 z3:=Tryd.sizeOf3
 v3:=Tryd.zeroValue3
 t4:=Tryd.underlying4
 a4:=Tryd.isAgg4
 z4:=Tryd.sizeOf4
 v4:=Tryd.zeroValue4
 t5:=Tryd.underlying5
 a5:=Tryd.isAgg5
 z5:=Tryd.sizeOf5
 v5:=Tryd.zeroValue5
 t9:=Tryd.underlying9
 a9:=Tryd.isAgg9
 z9:=Tryd.sizeOf9
 v9:=Tryd.zeroValue9
 t46:=Tryd.underlying89
 a46:=Tryd.isAgg89
 z46:=Tryd.sizeOf89
 v46:=Tryd.zeroValue89
 t51:=Tryd.underlying100
 a51:=Tryd.isAgg100
 z51:=Tryd.sizeOf100
 v51:=Tryd.zeroValue100
 t146:=Tryd.underlying101
 a146:=Tryd.isAgg101
 z146:=Tryd.sizeOf101
 v146:=Tryd.zeroValue101
 g1:=by kernel_rfl }
open Go.RowKit Go.Lib in
theorem Tryd.strings_Index_one (s : ByteArray) (c : UInt8) (w : World) :
  Calls Tryd.prog 24 #[.string s,.string ⟨#[c]⟩] w fun e w'=>e = .returned (.int .i64 (Lib.indexByte s.data.toList c)) ∧ w' = w:=Any.strings_Index_one Tryd.lays143 s c w
def Tryd.lays144_ren : Go.Shelf.Ren:=⟨fun | 144=>27 | 143=>24 | 219=>36 | 217=>40 | 225=>48 | 224=>49 | 267=>50 | 266=>53 | 314=>65 | n=>n,fun | 9=>9 | 4=>4 | 3=>3 | 5=>5 | 46=>89 | 146=>101 | 51=>100 | n=>n,fun | 1=>0 | n=>n⟩
theorem Tryd.lays144 : Go.Proofs.Lays.n144 Tryd.prog Tryd.lays144_ren:={
 mixed:=by kernel_rfl
 f143:=Tryd.func24.trans (congrArg some (by kernel_rfl))
 f144:=Tryd.func27.trans (congrArg some (by kernel_rfl))
 f217:=Tryd.func40.trans (congrArg some (by kernel_rfl))
 f219:=Tryd.func36.trans (congrArg some (by kernel_rfl))
 f224:=Tryd.func49.trans (congrArg some (by kernel_rfl))
 f225:=Tryd.func48.trans (congrArg some (by kernel_rfl))
 f266:=Tryd.func53.trans (congrArg some (by kernel_rfl))
 f267:=Tryd.func50.trans (congrArg some (by kernel_rfl))
 f314:=Tryd.func65.trans (congrArg some (by kernel_rfl))
 t3:=Tryd.underlying3
 a3:=Tryd.isAgg3
 z3:=Tryd.sizeOf3
 v3:=Tryd.zeroValue3
 t4:=Tryd.underlying4
 a4:=Tryd.isAgg4
 z4:=Tryd.sizeOf4
 v4:=Tryd.zeroValue4
 t5:=Tryd.underlying5
 a5:=Tryd.isAgg5
 z5:=Tryd.sizeOf5
 v5:=Tryd.zeroValue5
 t9:=Tryd.underlying9
 a9:=Tryd.isAgg9
 z9:=Tryd.sizeOf9
 v9:=Tryd.zeroValue9
 t46:=Tryd.underlying89
 a46:=Tryd.isAgg89
 z46:=Tryd.sizeOf89
 v46:=Tryd.zeroValue89
 t51:=Tryd.underlying100
 a51:=Tryd.isAgg100
 z51:=Tryd.sizeOf100
 v51:=Tryd.zeroValue100
 t146:=Tryd.underlying101
 a146:=Tryd.isAgg101
 z146:=Tryd.sizeOf101
 v146:=Tryd.zeroValue101
 g1:=by kernel_rfl }
open Go.RowKit Go.Lib in
theorem Tryd.strings_Contains_one (s : ByteArray) (c : UInt8) (w : World) :
  Calls Tryd.prog 27 #[.string s,.string ⟨#[c]⟩] w fun e w'=>e = .returned (.bool (decide (0 ≤ Lib.indexByte s.data.toList c))) ∧ w' = w:=Any.strings_Contains_one Tryd.lays144 s c w
def Tryd.lays138_ren : Go.Shelf.Ren:=⟨fun | 138=>9 | 195=>22 | 218=>23 | 143=>24 | 219=>36 | 217=>40 | 225=>48 | 224=>49 | 267=>50 | 266=>53 | 314=>65 | n=>n,fun | 9=>9 | 3=>3 | 4=>4 | 5=>5 | 0=>0 | 46=>89 | 146=>101 | 51=>100 | n=>n,fun | 1=>0 | n=>n⟩
theorem Tryd.lays138 : Go.Proofs.Lays.n138 Tryd.prog Tryd.lays138_ren:={
 mixed:=by kernel_rfl
 f138:=Tryd.func9.trans (congrArg some (by kernel_rfl))
 f143:=Tryd.func24.trans (congrArg some (by kernel_rfl))
 f195:=Tryd.func22.trans (congrArg some (by kernel_rfl))
 f217:=Tryd.func40.trans (congrArg some (by kernel_rfl))
 f218:=Tryd.func23.trans (congrArg some (by kernel_rfl))
 f219:=Tryd.func36.trans (congrArg some (by kernel_rfl))
 f224:=Tryd.func49.trans (congrArg some (by kernel_rfl))
 f225:=Tryd.func48.trans (congrArg some (by kernel_rfl))
 f266:=Tryd.func53.trans (congrArg some (by kernel_rfl))
 f267:=Tryd.func50.trans (congrArg some (by kernel_rfl))
 f314:=Tryd.func65.trans (congrArg some (by kernel_rfl))
 t0:=Tryd.underlying0
 a0:=Tryd.isAgg0
 z0:=Tryd.sizeOf0
 v0:=Tryd.zeroValue0
 t3:=Tryd.underlying3
 a3:=Tryd.isAgg3
 z3:=Tryd.sizeOf3
 v3:=Tryd.zeroValue3
 t4:=Tryd.underlying4
 a4:=Tryd.isAgg4
 z4:=Tryd.sizeOf4
 v4:=Tryd.zeroValue4
 t5:=Tryd.underlying5
 a5:=Tryd.isAgg5
 z5:=Tryd.sizeOf5
 v5:=Tryd.zeroValue5
 t9:=Tryd.underlying9
 a9:=Tryd.isAgg9
 z9:=Tryd.sizeOf9
 v9:=Tryd.zeroValue9
 t46:=Tryd.underlying89
 a46:=Tryd.isAgg89
 z46:=Tryd.sizeOf89
 v46:=Tryd.zeroValue89
 t51:=Tryd.underlying100
 a51:=Tryd.isAgg100
 z51:=Tryd.sizeOf100
 v51:=Tryd.zeroValue100
 t146:=Tryd.underlying101
 a146:=Tryd.isAgg101
 z146:=Tryd.sizeOf101
 v146:=Tryd.zeroValue101
 g1:=by kernel_rfl }
open Go.RowKit Go.Lib in
theorem Tryd.strings_Count_one (s : ByteArray) (c : UInt8) (w : World) :
  Calls Tryd.prog 9 #[.string s,.string ⟨#[c]⟩] w fun e w'=>e = .returned (.int .i64 (Lib.countByte s.data.toList c)) ∧ w' = w:=Any.strings_Count_one Tryd.lays138 s c w
def Tryd.lays207_ren : Go.Shelf.Ren:=⟨fun | 207=>52 | n=>n,fun | 9=>9 | 4=>4 | 3=>3 | n=>n,fun | n=>n⟩
def Tryd.lays102_ren : Go.Shelf.Ren:=⟨fun | 102=>26 | 209=>39 | 207=>52 | n=>n,fun | 9=>9 | 4=>4 | 3=>3 | n=>n,fun | n=>n⟩
theorem Tryd.lays102 : Go.Proofs.Lays.n102 Tryd.prog Tryd.lays102_ren:={
 mixed:=by kernel_rfl
 f102:=Tryd.func26.trans (congrArg some (by kernel_rfl))
 f207:=Tryd.func52.trans (congrArg some (by kernel_rfl))
 f209:=Tryd.func39.trans (congrArg some (by kernel_rfl))
 t3:=Tryd.underlying3
 a3:=Tryd.isAgg3
 z3:=Tryd.sizeOf3
 v3:=Tryd.zeroValue3
 t4:=Tryd.underlying4
 a4:=Tryd.isAgg4
 z4:=Tryd.sizeOf4
 v4:=Tryd.zeroValue4
 t9:=Tryd.underlying9
 a9:=Tryd.isAgg9
 z9:=Tryd.sizeOf9
 v9:=Tryd.zeroValue9 }
open Go.RowKit Go.Lib in
theorem Tryd.strings_TrimSuffix (s p : ByteArray) (w : World) (hs : s.size ≤ 9223372036854775807) :
  Calls Tryd.prog 26 #[.string s,.string p] w fun e w'=>e = .returned (.string ⟨(Lib.trimSuffix s.data.toList p.data.toList).toArray⟩) ∧ w' = w:=Any.strings_TrimSuffix Tryd.lays102 s p w hs
end Go.Proofs
