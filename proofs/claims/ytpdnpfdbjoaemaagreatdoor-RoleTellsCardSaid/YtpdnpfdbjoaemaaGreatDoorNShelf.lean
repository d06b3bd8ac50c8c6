/-
  DERIVED: THE SHELF's CONTRACTS AT THIS DUMP, IN PLAIN WORDS (tools/lay-plain.mjs out of 'TryzShelf.lean', which tools/lay-shelf.mjs wrote): THE SAME DECLARATIONS UNDER THE SAME NAMES: 'import', 'namespace', 'open', 'def', 'theorem' AND NOTHING ELSE: no command of the shelf's: FOR A HAND-IN. Each laying: the table of numbers ('.._ren') and one theorem, a field a fact of the dump's own or the kernel's comparison; each contract: ONE APPLICATION.
-/
import Derived.Shelf.Strings.Builder1
import Derived.Shelf.Strings.Builder2
import Derived.Shelf.Strings.OnBuilder
import Derived.Shelf.Strings.Trim
import Derived.Shelf.Small.Utf8
import Derived.Shelf.Small.Strs
import Derived.Shelf.Strconv.Atoi
import Derived.Shelf.Strconv.Itoa0
import Derived.Shelf.Strconv.Itoa1
import Derived.Shelf.LaysM
import Derived.Shelf.Strconv.Itoa2
import Derived.Shelf.Strconv.Itoa3
import Derived.Shelf.Strconv.AtoiErrFast
import Derived.Shelf.Strconv.ParseIntEmpty
import Derived.Shelf.Strconv.AtoiFail
import Derived.Shelf.Strconv.Clone
import Derived.Shelf.Strconv.SyntaxError
import Derived.Shelf.LaysC
import Derived.Shelf.Strconv.ToError
import Derived.Shelf.Strconv.Lower
import Derived.Shelf.Strconv.ParseUint10
import Derived.Shelf.Strconv.ParseUint10Empty
import Derived.Shelf.Strconv.ParseUint10Any
import Derived.Shelf.Strconv.ParseInt10
import Derived.Shelf.Strconv.AtoiLong
import Derived.Shelf.Strconv.AtoiInnerAll
import Derived.Shelf.Strconv.RangeError
import Derived.Shelf.Strconv.ToErrorRange
import Derived.Shelf.Strconv.AtoiAll
import Derived.Shelf.Strings.Search1
import Derived.Shelf.Strings.Search2
import Derived.Shelf.Strings.Search3
import Derived.Shelf.Strings.Count
import Derived.Shelf.Strings.Shaped
import Derived.Shelf.Strings.Prefix
import Derived.Shelf.Strings.Runes
import Derived.Shelf.Strings.AsciiSet
import Derived.Shelf.Unicode.DecodeSlow
import Derived.Test.YtpdnpfdbjoaemaaGreatDoorProg
set_option linter.unusedSimpArgs false
set_option linter.unusedVariables false
set_option linter.unusedSectionVars false
namespace Go.Proofs
open Go.Shelf
def Tryz.lays169_ren : Go.Shelf.Ren:=⟨fun | 169=>26 | n=>n,fun | 70=>67 | 9=>9 | 0=>0 | 72=>69 | 37=>45 | 127=>90 | 3=>3 | 5=>5 | n=>n,fun | n=>n⟩
theorem Tryz.lays169 : Go.Proofs.Lays.n169 Tryz.prog Tryz.lays169_ren:={
 mixed:=by kernel_rfl
 f169:=Tryz.func26.trans (congrArg some (by kernel_rfl))
 t0:=Tryz.underlying0
 a0:=Tryz.isAgg0
 z0:=Tryz.sizeOf0
 v0:=Tryz.zeroValue0
 t3:=Tryz.underlying3
 a3:=Tryz.isAgg3
 z3:=Tryz.sizeOf3
 v3:=Tryz.zeroValue3
 t9:=Tryz.underlying9
 a9:=Tryz.isAgg9
 z9:=Tryz.sizeOf9
 v9:=Tryz.zeroValue9
 t37:=Tryz.underlying45
 a37:=Tryz.isAgg45
 z37:=Tryz.sizeOf45
 v37:=Tryz.zeroValue45
 t70:=Tryz.underlying67
 a70:=Tryz.isAgg67
 z70:=Tryz.sizeOf67
 v70:=Tryz.zeroValue67
 t72:=Tryz.underlying69
 a72:=Tryz.isAgg69
 z72:=Tryz.sizeOf69
 v72:=Tryz.zeroValue69
 t127:=Tryz.underlying90
 a127:=Tryz.isAgg90
 z127:=Tryz.sizeOf90
 v127:=Tryz.zeroValue90 }
theorem Tryz.Builder_Extra_169 : Builder.Extra Tryz.prog Tryz.lays169_ren:={
 sizeBuilder:=by kernel_rfl
 liesBuilder:=by kernel_rfl
 t5:=Tryz.underlying5
 a5:=Tryz.isAgg5
 z5:=Tryz.sizeOf5
 v5:=Tryz.zeroValue5
 infoByte:=by kernel_rfl
 cellsByte:=by kernel_rfl
 sizeByte:=by kernel_rfl
 neB5:=by decide }
def Tryz.lays156_ren : Go.Shelf.Ren:=⟨fun | 156=>58 | 165=>74 | 166=>23 | 169=>26 | 240=>40 | 241=>93 | 276=>56 | 277=>105 | n=>n,fun | 31=>29 | 9=>9 | 3=>3 | 4=>4 | 0=>0 | 20=>20 | 72=>69 | 76=>72 | 70=>67 | 37=>45 | 75=>71 | 127=>90 | 164=>95 | 5=>5 | 80=>76 | n=>n,fun | n=>n⟩
theorem Tryz.lays156 : Go.Proofs.Lays.n156 Tryz.prog Tryz.lays156_ren:={
 mixed:=by kernel_rfl
 f156:=Tryz.func58.trans (congrArg some (by kernel_rfl))
 f165:=Tryz.func74.trans (congrArg some (by kernel_rfl))
 f166:=Tryz.func23.trans (congrArg some (by kernel_rfl))
 f169:=Tryz.func26.trans (congrArg some (by kernel_rfl))
 f240:=Tryz.func40.trans (congrArg some (by kernel_rfl))
 f241:=Tryz.func93.trans (congrArg some (by kernel_rfl))
 f276:=Tryz.func56.trans (congrArg some (by kernel_rfl))
 f277:=Tryz.func105.trans (congrArg some (by kernel_rfl))
 t0:=Tryz.underlying0
 a0:=Tryz.isAgg0
 z0:=Tryz.sizeOf0
 v0:=Tryz.zeroValue0
 t3:=Tryz.underlying3
 a3:=Tryz.isAgg3
 z3:=Tryz.sizeOf3
 v3:=Tryz.zeroValue3
 t4:=Tryz.underlying4
 a4:=Tryz.isAgg4
 z4:=Tryz.sizeOf4
 v4:=Tryz.zeroValue4
 t9:=Tryz.underlying9
 a9:=Tryz.isAgg9
 z9:=Tryz.sizeOf9
 v9:=Tryz.zeroValue9
 t20:=Tryz.underlying20
 a20:=Tryz.isAgg20
 z20:=Tryz.sizeOf20
 v20:=Tryz.zeroValue20
 t31:=Tryz.underlying29
 a31:=Tryz.isAgg29
 z31:=Tryz.sizeOf29
 v31:=Tryz.zeroValue29
 t37:=Tryz.underlying45
 a37:=Tryz.isAgg45
 z37:=Tryz.sizeOf45
 v37:=Tryz.zeroValue45
 t70:=Tryz.underlying67
 a70:=Tryz.isAgg67
 z70:=Tryz.sizeOf67
 v70:=Tryz.zeroValue67
 t72:=Tryz.underlying69
 a72:=Tryz.isAgg69
 z72:=Tryz.sizeOf69
 v72:=Tryz.zeroValue69
 t75:=Tryz.underlying71
 a75:=Tryz.isAgg71
 z75:=Tryz.sizeOf71
 v75:=Tryz.zeroValue71
 t76:=Tryz.underlying72
 a76:=Tryz.isAgg72
 z76:=Tryz.sizeOf72
 v76:=Tryz.zeroValue72
 t127:=Tryz.underlying90
 a127:=Tryz.isAgg90
 z127:=Tryz.sizeOf90
 v127:=Tryz.zeroValue90
 t164:=Tryz.underlying95
 a164:=Tryz.isAgg95
 z164:=Tryz.sizeOf95
 v164:=Tryz.zeroValue95 }
theorem Tryz.Builder_Extra_156 : Builder.Extra Tryz.prog Tryz.lays156_ren:={
 sizeBuilder:=by kernel_rfl
 liesBuilder:=by kernel_rfl
 t5:=Tryz.underlying5
 a5:=Tryz.isAgg5
 z5:=Tryz.sizeOf5
 v5:=Tryz.zeroValue5
 infoByte:=by kernel_rfl
 cellsByte:=by kernel_rfl
 sizeByte:=by kernel_rfl
 neB5:=by decide }
def Tryz.lays160_ren : Go.Shelf.Ren:=⟨fun | 160=>45 | 232=>60 | 231=>59 | 227=>61 | 234=>63 | 233=>62 | 236=>65 | 235=>64 | 228=>75 | 271=>77 | 151=>76 | 197=>70 | 120=>95 | 152=>94 | 260=>86 | 137=>55 | 119=>106 | 224=>84 | 225=>83 | 217=>72 | 266=>88 | n=>n,fun | 9=>9 | 4=>4 | 3=>3 | 5=>5 | 117=>102 | 116=>101 | 0=>0 | 124=>105 | 21=>21 | 105=>107 | 46=>49 | 119=>134 | 139=>137 | 138=>136 | n=>n,fun | 3=>3 | 4=>4 | n=>n⟩
theorem Tryz.lays160 : Go.Proofs.Lays.n160 Tryz.prog Tryz.lays160_ren:={
 mixed:=by kernel_rfl
 f119:=Tryz.func106.trans (congrArg some (by kernel_rfl))
 f120:=Tryz.func95.trans (congrArg some (by kernel_rfl))
 f137:=Tryz.func55.trans (congrArg some (by kernel_rfl))
 f151:=Tryz.func76.trans (congrArg some (by kernel_rfl))
 f152:=Tryz.func94.trans (congrArg some (by kernel_rfl))
 f160:=Tryz.func45.trans (congrArg some (by kernel_rfl))
 f197:=Tryz.func70.trans (congrArg some (by kernel_rfl))
 f217:=Tryz.func72.trans (congrArg some (by kernel_rfl))
 f224:=Tryz.func84.trans (congrArg some (by kernel_rfl))
 f225:=Tryz.func83.trans (congrArg some (by kernel_rfl))
 f227:=Tryz.func61.trans (congrArg some (by kernel_rfl))
 f228:=Tryz.func75.trans (congrArg some (by kernel_rfl))
 f231:=Tryz.func59.trans (congrArg some (by kernel_rfl))
 f232:=Tryz.func60.trans (congrArg some (by kernel_rfl))
 f233:=Tryz.func62.trans (congrArg some (by kernel_rfl))
 f234:=Tryz.func63.trans (congrArg some (by kernel_rfl))
 f235:=Tryz.func64.trans (congrArg some (by kernel_rfl))
 f236:=Tryz.func65.trans (congrArg some (by kernel_rfl))
 f260:=Tryz.func86.trans (congrArg some (by kernel_rfl))
 f266:=Tryz.func88.trans (congrArg some (by kernel_rfl))
 f271:=Tryz.func77.trans (congrArg some (by kernel_rfl))
 t0:=Tryz.underlying0
 a0:=Tryz.isAgg0
 z0:=Tryz.sizeOf0
 v0:=Tryz.zeroValue0
 t3:=Tryz.underlying3
 a3:=Tryz.isAgg3
 z3:=Tryz.sizeOf3
 v3:=Tryz.zeroValue3
 t4:=Tryz.underlying4
 a4:=Tryz.isAgg4
 z4:=Tryz.sizeOf4
 v4:=Tryz.zeroValue4
 t5:=Tryz.underlying5
 a5:=Tryz.isAgg5
 z5:=Tryz.sizeOf5
 v5:=Tryz.zeroValue5
 t9:=Tryz.underlying9
 a9:=Tryz.isAgg9
 z9:=Tryz.sizeOf9
 v9:=Tryz.zeroValue9
 t21:=Tryz.underlying21
 a21:=Tryz.isAgg21
 z21:=Tryz.sizeOf21
 v21:=Tryz.zeroValue21
 t46:=Tryz.underlying49
 a46:=Tryz.isAgg49
 z46:=Tryz.sizeOf49
 v46:=Tryz.zeroValue49
 t105:=Tryz.underlying107
 a105:=Tryz.isAgg107
 z105:=Tryz.sizeOf107
 v105:=Tryz.zeroValue107
 t116:=Tryz.underlying101
 a116:=Tryz.isAgg101
 z116:=Tryz.sizeOf101
 t117:=Tryz.underlying102
 a117:=Tryz.isAgg102
 z117:=Tryz.sizeOf102
 v117:=Tryz.zeroValue102
 t119:=Tryz.underlying134
 a119:=Tryz.isAgg134
 z119:=Tryz.sizeOf134
 t124:=Tryz.underlying105
 a124:=Tryz.isAgg105
 z124:=Tryz.sizeOf105
 v124:=Tryz.zeroValue105
 t138:=Tryz.underlying136
 a138:=Tryz.isAgg136
 z138:=Tryz.sizeOf136
 v138:=Tryz.zeroValue136
 t139:=Tryz.underlying137
 a139:=Tryz.isAgg137
 z139:=Tryz.sizeOf137
 v139:=Tryz.zeroValue137
 g3:=by kernel_rfl
 g4:=by kernel_rfl }
def Tryz.lays137_ren : Go.Shelf.Ren:=⟨fun | 137=>55 | 217=>72 | 266=>88 | n=>n,fun | 9=>9 | 5=>5 | 3=>3 | n=>n,fun | n=>n⟩
theorem Tryz.lays137 : Go.Proofs.Lays.n137 Tryz.prog Tryz.lays137_ren:={
 mixed:=by kernel_rfl
 f137:=Tryz.func55.trans (congrArg some (by kernel_rfl))
 f217:=Tryz.func72.trans (congrArg some (by kernel_rfl))
 f266:=Tryz.func88.trans (congrArg some (by kernel_rfl))
 t3:=Tryz.underlying3
 a3:=Tryz.isAgg3
 z3:=Tryz.sizeOf3
 v3:=Tryz.zeroValue3
 t5:=Tryz.underlying5
 a5:=Tryz.isAgg5
 z5:=Tryz.sizeOf5
 v5:=Tryz.zeroValue5
 t9:=Tryz.underlying9
 a9:=Tryz.isAgg9
 z9:=Tryz.sizeOf9
 v9:=Tryz.zeroValue9 }
open Go.RowKit in
theorem Tryz.strings_IndexByte (s : ByteArray) (c : Int) (w : World) :
  Calls Tryz.prog 55 #[.string s,.int .u8 c] w fun e w'=>e = .returned (.int .i64 (Lib.indexByte s.data.toList c.toNat.toUInt8)) ∧ w' = w:=Any.strings_IndexByte Tryz.lays137 s c w
def Tryz.lays172_ren : Go.Shelf.Ren:=⟨fun | 172=>46 | 244=>66 | 245=>67 | 247=>78 | 279=>79 | 280=>80 | 281=>81 | 282=>82 | 287=>96 | 316=>97 | 171=>42 | 205=>98 | 321=>107 | 322=>108 | 243=>57 | 246=>73 | 283=>89 | 284=>90 | 285=>91 | 286=>92 | 129=>101 | 317=>100 | 318=>102 | 319=>103 | 320=>104 | 337=>109 | 338=>110 | n=>n,fun | 9=>9 | 3=>3 | 75=>71 | 76=>72 | 4=>4 | 5=>5 | 167=>112 | 37=>45 | 0=>0 | 85=>113 | 2=>2 | 168=>115 | 53=>120 | 175=>126 | 46=>49 | 210=>129 | 127=>90 | 145=>148 | 143=>146 | 21=>21 | 171=>119 | 173=>123 | 212=>139 | 51=>131 | 20=>20 | 213=>140 | 232=>150 | 233=>151 | 80=>76 | n=>n,fun | 15=>1 | 16=>2 | 17=>5 | 18=>6 | 19=>7 | n=>n⟩
theorem Tryz.lays172 : Go.Proofs.Lays.n172 Tryz.prog Tryz.lays172_ren:={
 mixed:=by kernel_rfl
 f129:=Tryz.func101.trans (congrArg some (by kernel_rfl))
 f171:=Tryz.func42.trans (congrArg some (by kernel_rfl))
 f172:=Tryz.func46.trans (congrArg some (by kernel_rfl))
 f205:=Tryz.func98.trans (congrArg some (by kernel_rfl))
 f243:=Tryz.func57.trans (congrArg some (by kernel_rfl))
 f244:=Tryz.func66.trans (congrArg some (by kernel_rfl))
 f245:=Tryz.func67.trans (congrArg some (by kernel_rfl))
 f246:=Tryz.func73.trans (congrArg some (by kernel_rfl))
 f247:=Tryz.func78.trans (congrArg some (by kernel_rfl))
 f279:=Tryz.func79.trans (congrArg some (by kernel_rfl))
 f280:=Tryz.func80.trans (congrArg some (by kernel_rfl))
 f281:=Tryz.func81.trans (congrArg some (by kernel_rfl))
 f282:=Tryz.func82.trans (congrArg some (by kernel_rfl))
 f283:=Tryz.func89.trans (congrArg some (by kernel_rfl))
 f284:=Tryz.func90.trans (congrArg some (by kernel_rfl))
 f285:=Tryz.func91.trans (congrArg some (by kernel_rfl))
 f286:=Tryz.func92.trans (congrArg some (by kernel_rfl))
 f287:=Tryz.func96.trans (congrArg some (by kernel_rfl))
 f316:=Tryz.func97.trans (congrArg some (by kernel_rfl))
 f317:=Tryz.func100.trans (congrArg some (by kernel_rfl))
 f318:=Tryz.func102.trans (congrArg some (by kernel_rfl))
 f319:=Tryz.func103.trans (congrArg some (by kernel_rfl))
 f320:=Tryz.func104.trans (congrArg some (by kernel_rfl))
 f321:=Tryz.func107.trans (congrArg some (by kernel_rfl))
 f322:=Tryz.func108.trans (congrArg some (by kernel_rfl))
 f337:=Tryz.func109.trans (congrArg some (by kernel_rfl))
 f338:=Tryz.func110.trans (congrArg some (by kernel_rfl))
 t0:=Tryz.underlying0
 a0:=Tryz.isAgg0
 z0:=Tryz.sizeOf0
 v0:=Tryz.zeroValue0
 t2:=Tryz.underlying2
 a2:=Tryz.isAgg2
 z2:=Tryz.sizeOf2
 v2:=Tryz.zeroValue2
 t3:=Tryz.underlying3
 a3:=Tryz.isAgg3
 z3:=Tryz.sizeOf3
 v3:=Tryz.zeroValue3
 t4:=Tryz.underlying4
 a4:=Tryz.isAgg4
 z4:=Tryz.sizeOf4
 v4:=Tryz.zeroValue4
 t5:=Tryz.underlying5
 a5:=Tryz.isAgg5
 z5:=Tryz.sizeOf5
 v5:=Tryz.zeroValue5
 t9:=Tryz.underlying9
 a9:=Tryz.isAgg9
 z9:=Tryz.sizeOf9
 v9:=Tryz.zeroValue9
 t20:=Tryz.underlying20
 a20:=Tryz.isAgg20
 z20:=Tryz.sizeOf20
 v20:=Tryz.zeroValue20
 t21:=Tryz.underlying21
 a21:=Tryz.isAgg21
 z21:=Tryz.sizeOf21
 v21:=Tryz.zeroValue21
 t37:=Tryz.underlying45
 a37:=Tryz.isAgg45
 z37:=Tryz.sizeOf45
 v37:=Tryz.zeroValue45
 t46:=Tryz.underlying49
 a46:=Tryz.isAgg49
 z46:=Tryz.sizeOf49
 v46:=Tryz.zeroValue49
 t51:=Tryz.underlying131
 a51:=Tryz.isAgg131
 z51:=Tryz.sizeOf131
 v51:=Tryz.zeroValue131
 t53:=Tryz.underlying120
 a53:=Tryz.isAgg120
 z53:=Tryz.sizeOf120
 v53:=Tryz.zeroValue120
 t75:=Tryz.underlying71
 a75:=Tryz.isAgg71
 z75:=Tryz.sizeOf71
 v75:=Tryz.zeroValue71
 t76:=Tryz.underlying72
 a76:=Tryz.isAgg72
 z76:=Tryz.sizeOf72
 v76:=Tryz.zeroValue72
 t85:=Tryz.underlying113
 a85:=Tryz.isAgg113
 z85:=Tryz.sizeOf113
 v85:=Tryz.zeroValue113
 t127:=Tryz.underlying90
 a127:=Tryz.isAgg90
 z127:=Tryz.sizeOf90
 v127:=Tryz.zeroValue90
 t143:=Tryz.underlying146
 a143:=Tryz.isAgg146
 z143:=Tryz.sizeOf146
 v143:=Tryz.zeroValue146
 t145:=Tryz.underlying148
 a145:=Tryz.isAgg148
 z145:=Tryz.sizeOf148
 v145:=Tryz.zeroValue148
 t167:=Tryz.underlying112
 a167:=Tryz.isAgg112
 z167:=Tryz.sizeOf112
 v167:=Tryz.zeroValue112
 t168:=Tryz.underlying115
 a168:=Tryz.isAgg115
 z168:=Tryz.sizeOf115
 v168:=Tryz.zeroValue115
 t171:=Tryz.underlying119
 a171:=Tryz.isAgg119
 z171:=Tryz.sizeOf119
 v171:=Tryz.zeroValue119
 t173:=Tryz.underlying123
 a173:=Tryz.isAgg123
 z173:=Tryz.sizeOf123
 v173:=Tryz.zeroValue123
 t175:=Tryz.underlying126
 a175:=Tryz.isAgg126
 z175:=Tryz.sizeOf126
 v175:=Tryz.zeroValue126
 t210:=Tryz.underlying129
 a210:=Tryz.isAgg129
 z210:=Tryz.sizeOf129
 v210:=Tryz.zeroValue129
 t212:=Tryz.underlying139
 a212:=Tryz.isAgg139
 z212:=Tryz.sizeOf139
 v212:=Tryz.zeroValue139
 t213:=Tryz.underlying140
 a213:=Tryz.isAgg140
 z213:=Tryz.sizeOf140
 t232:=Tryz.underlying150
 a232:=Tryz.isAgg150
 z232:=Tryz.sizeOf150
 v232:=Tryz.zeroValue150
 t233:=Tryz.underlying151
 a233:=Tryz.isAgg151
 z233:=Tryz.sizeOf151
 v233:=Tryz.zeroValue151
 g15:=by kernel_rfl
 g16:=by kernel_rfl
 g17:=by kernel_rfl
 g18:=by kernel_rfl
 g19:=by kernel_rfl }
open Go.RowKit in
theorem Tryz.strconv_Atoi (s : ByteArray) (n : Int) (hl : s.size ≤ 18) (h : Lib.atoi s.data.toList = some n) (w : World) :
  Calls Tryz.prog 46 #[.string s] w fun e w'=>e = .returned (.tuple #[.int .i64 n,.nilIface]) ∧ ∃ t,w' = Lib.bytesWorld w 5 t:=Any.strconv_Atoi Tryz.lays172 s n hl h w
def Tryz.laysM246_ren : Go.Shelf.Ren:=⟨fun | 246=>73 | 283=>89 | 284=>90 | 285=>91 | 286=>92 | 129=>101 | 317=>100 | 318=>102 | 319=>103 | 320=>104 | 337=>109 | 338=>110 | n=>n,fun | 2=>2 | 3=>3 | 9=>9 | 4=>4 | 171=>119 | 0=>0 | 53=>120 | 37=>45 | 5=>5 | 173=>123 | 212=>139 | 51=>131 | 20=>20 | 213=>140 | 46=>49 | 232=>150 | 233=>151 | n=>n,fun | 17=>5 | 18=>6 | 19=>7 | n=>n⟩
def Tryz.laysM243_ren : Go.Shelf.Ren:=⟨fun | 243=>57 | 246=>73 | 283=>89 | 284=>90 | 285=>91 | 286=>92 | 129=>101 | 317=>100 | 318=>102 | 319=>103 | 320=>104 | 337=>109 | 338=>110 | n=>n,fun | 3=>3 | 9=>9 | 2=>2 | 4=>4 | 171=>119 | 0=>0 | 53=>120 | 37=>45 | 5=>5 | 173=>123 | 212=>139 | 51=>131 | 20=>20 | 213=>140 | 46=>49 | 232=>150 | 233=>151 | n=>n,fun | 17=>5 | 18=>6 | 19=>7 | n=>n⟩
def Tryz.laysM171_ren : Go.Shelf.Ren:=⟨fun | 171=>42 | 243=>57 | 246=>73 | 283=>89 | 284=>90 | 285=>91 | 286=>92 | 129=>101 | 317=>100 | 318=>102 | 319=>103 | 320=>104 | 337=>109 | 338=>110 | n=>n,fun | 3=>3 | 9=>9 | 2=>2 | 4=>4 | 171=>119 | 0=>0 | 53=>120 | 37=>45 | 5=>5 | 173=>123 | 212=>139 | 51=>131 | 20=>20 | 213=>140 | 46=>49 | 232=>150 | 233=>151 | n=>n,fun | 17=>5 | 18=>6 | 19=>7 | n=>n⟩
theorem Tryz.laysM171 : Go.Proofs.LaysM.n171 Tryz.prog Tryz.laysM171_ren:={
 mixed:=by kernel_rfl
 f129:=Tryz.func101.trans (congrArg some (by kernel_rfl))
 f171:=Tryz.func42.trans (congrArg some (by kernel_rfl))
 f243:=Tryz.func57.trans (congrArg some (by kernel_rfl))
 f246:=Tryz.func73.trans (congrArg some (by kernel_rfl))
 f283:=Tryz.func89.trans (congrArg some (by kernel_rfl))
 f284:=Tryz.func90.trans (congrArg some (by kernel_rfl))
 f285:=Tryz.func91.trans (congrArg some (by kernel_rfl))
 f286:=Tryz.func92.trans (congrArg some (by kernel_rfl))
 f317:=Tryz.func100.trans (congrArg some (by kernel_rfl))
 f318:=Tryz.func102.trans (congrArg some (by kernel_rfl))
 f319:=Tryz.func103.trans (congrArg some (by kernel_rfl))
 f320:=Tryz.func104.trans (congrArg some (by kernel_rfl))
 f337:=Tryz.func109.trans (congrArg some (by kernel_rfl))
 f338:=Tryz.func110.trans (congrArg some (by kernel_rfl))
 t0:=Tryz.underlying0
 a0:=Tryz.isAgg0
 z0:=Tryz.sizeOf0
 v0:=Tryz.zeroValue0
 t2:=Tryz.underlying2
 a2:=Tryz.isAgg2
 z2:=Tryz.sizeOf2
 v2:=Tryz.zeroValue2
 t3:=Tryz.underlying3
 a3:=Tryz.isAgg3
 z3:=Tryz.sizeOf3
 v3:=Tryz.zeroValue3
 t4:=Tryz.underlying4
 a4:=Tryz.isAgg4
 z4:=Tryz.sizeOf4
 v4:=Tryz.zeroValue4
 t5:=Tryz.underlying5
 a5:=Tryz.isAgg5
 z5:=Tryz.sizeOf5
 v5:=Tryz.zeroValue5
 t9:=Tryz.underlying9
 a9:=Tryz.isAgg9
 z9:=Tryz.sizeOf9
 v9:=Tryz.zeroValue9
 t20:=Tryz.underlying20
 a20:=Tryz.isAgg20
 z20:=Tryz.sizeOf20
 v20:=Tryz.zeroValue20
 t37:=Tryz.underlying45
 a37:=Tryz.isAgg45
 z37:=Tryz.sizeOf45
 v37:=Tryz.zeroValue45
 t46:=Tryz.underlying49
 a46:=Tryz.isAgg49
 z46:=Tryz.sizeOf49
 v46:=Tryz.zeroValue49
 t51:=Tryz.underlying131
 a51:=Tryz.isAgg131
 z51:=Tryz.sizeOf131
 v51:=Tryz.zeroValue131
 t53:=Tryz.underlying120
 a53:=Tryz.isAgg120
 z53:=Tryz.sizeOf120
 v53:=Tryz.zeroValue120
 t171:=Tryz.underlying119
 a171:=Tryz.isAgg119
 z171:=Tryz.sizeOf119
 v171:=Tryz.zeroValue119
 t173:=Tryz.underlying123
 a173:=Tryz.isAgg123
 z173:=Tryz.sizeOf123
 v173:=Tryz.zeroValue123
 t212:=Tryz.underlying139
 a212:=Tryz.isAgg139
 z212:=Tryz.sizeOf139
 v212:=Tryz.zeroValue139
 t213:=Tryz.underlying140
 a213:=Tryz.isAgg140
 z213:=Tryz.sizeOf140
 t232:=Tryz.underlying150
 a232:=Tryz.isAgg150
 z232:=Tryz.sizeOf150
 v232:=Tryz.zeroValue150
 t233:=Tryz.underlying151
 a233:=Tryz.isAgg151
 z233:=Tryz.sizeOf151
 v233:=Tryz.zeroValue151
 g17:=by kernel_rfl
 g18:=by kernel_rfl
 g19:=by kernel_rfl
 i0:=by kernel_rfl
 i2:=by kernel_rfl
 i3:=by kernel_rfl
 i4:=by kernel_rfl
 i5:=by kernel_rfl
 i9:=by kernel_rfl
 i20:=by kernel_rfl
 i37:=by kernel_rfl
 i46:=by kernel_rfl
 i51:=by kernel_rfl
 i53:=by kernel_rfl
 i171:=by kernel_rfl
 i173:=by kernel_rfl
 i212:=by kernel_rfl
 i232:=by kernel_rfl
 i233:=by kernel_rfl
 m17:=by kernel_rfl
 m18:=by kernel_rfl
 m19:=by kernel_rfl }
open Go.RowKit Go.Sort Go.Lib in
theorem Tryz.strconv_Itoa (n : Int) (h0 : -9223372036854775808 ≤ n) (h1 : n ≤ 9223372036854775807) (w : World) (htab : Lib.TabIs Tryz.prog w "internal/strconv.uint64pow10" .u64 Lib.pow10Tab) :
  Calls Tryz.prog 42 #[.int .i64 n] w fun e w'=>e = .returned (.string ⟨(Lib.itoa n).toArray⟩) ∧ ∃ k os,w' = grow (w.drewN k) os:=Any.strconv_Itoa Tryz.laysM171 n h0 h1 w htab
def Tryz.lays219_ren : Go.Shelf.Ren:=⟨fun | 219=>68 | 217=>72 | 225=>83 | 224=>84 | 267=>85 | 266=>88 | 314=>99 | n=>n,fun | 9=>9 | 3=>3 | 4=>4 | 5=>5 | 46=>49 | 146=>132 | 51=>131 | n=>n,fun | 1=>0 | n=>n⟩
def Tryz.lays143_ren : Go.Shelf.Ren:=⟨fun | 143=>51 | 219=>68 | 217=>72 | 225=>83 | 224=>84 | 267=>85 | 266=>88 | 314=>99 | n=>n,fun | 9=>9 | 3=>3 | 4=>4 | 5=>5 | 46=>49 | 146=>132 | 51=>131 | n=>n,fun | 1=>0 | n=>n⟩
theorem Tryz.lays143 : Go.Proofs.Lays.n143 Tryz.prog Tryz.lays143_ren:={
 mixed:=by kernel_rfl
 f143:=Tryz.func51.trans (congrArg some (by kernel_rfl))
 f217:=Tryz.func72.trans (congrArg some (by kernel_rfl))
 f219:=Tryz.func68.trans (congrArg some (by kernel_rfl))
 f224:=Tryz.func84.trans (congrArg some (by kernel_rfl))
 f225:=Tryz.func83.trans (congrArg some (by kernel_rfl))
 f266:=Tryz.func88.trans (congrArg some (by kernel_rfl))
 f267:=Tryz.func85.trans (congrArg some (by kernel_rfl))
 f314:=Tryz.func99.trans (congrArg some (by kernel_rfl))
 t3:=Tryz.underlying3
 a3:=Tryz.isAgg3
 z3:=Tryz.sizeOf3
 v3:=Tryz.zeroValue3
 t4:=Tryz.underlying4
 a4:=Tryz.isAgg4
 z4:=Tryz.sizeOf4
 v4:=Tryz.zeroValue4
 t5:=Tryz.underlying5
 a5:=Tryz.isAgg5
 z5:=Tryz.sizeOf5
 v5:=Tryz.zeroValue5
 t9:=Tryz.underlying9
 a9:=Tryz.isAgg9
 z9:=Tryz.sizeOf9
 v9:=Tryz.zeroValue9
 t46:=Tryz.underlying49
 a46:=Tryz.isAgg49
 z46:=Tryz.sizeOf49
 v46:=Tryz.zeroValue49
 t51:=Tryz.underlying131
 a51:=Tryz.isAgg131
 z51:=Tryz.sizeOf131
 v51:=Tryz.zeroValue131
 t146:=Tryz.underlying132
 a146:=Tryz.isAgg132
 z146:=Tryz.sizeOf132
 v146:=Tryz.zeroValue132
 g1:=by kernel_rfl }
open Go.RowKit Go.Lib in
theorem Tryz.strings_Index_one (s : ByteArray) (c : UInt8) (w : World) :
  Calls Tryz.prog 51 #[.string s,.string ⟨#[c]⟩] w fun e w'=>e = .returned (.int .i64 (Lib.indexByte s.data.toList c)) ∧ w' = w:=Any.strings_Index_one Tryz.lays143 s c w
def Tryz.lays144_ren : Go.Shelf.Ren:=⟨fun | 144=>54 | 143=>51 | 219=>68 | 217=>72 | 225=>83 | 224=>84 | 267=>85 | 266=>88 | 314=>99 | n=>n,fun | 9=>9 | 4=>4 | 3=>3 | 5=>5 | 46=>49 | 146=>132 | 51=>131 | n=>n,fun | 1=>0 | n=>n⟩
theorem Tryz.lays144 : Go.Proofs.Lays.n144 Tryz.prog Tryz.lays144_ren:={
 mixed:=by kernel_rfl
 f143:=Tryz.func51.trans (congrArg some (by kernel_rfl))
 f144:=Tryz.func54.trans (congrArg some (by kernel_rfl))
 f217:=Tryz.func72.trans (congrArg some (by kernel_rfl))
 f219:=Tryz.func68.trans (congrArg some (by kernel_rfl))
 f224:=Tryz.func84.trans (congrArg some (by kernel_rfl))
 f225:=Tryz.func83.trans (congrArg some (by kernel_rfl))
 f266:=Tryz.func88.trans (congrArg some (by kernel_rfl))
 f267:=Tryz.func85.trans (congrArg some (by kernel_rfl))
 f314:=Tryz.func99.trans (congrArg some (by kernel_rfl))
 t3:=Tryz.underlying3
 a3:=Tryz.isAgg3
 z3:=Tryz.sizeOf3
 v3:=Tryz.zeroValue3
 t4:=Tryz.underlying4
 a4:=Tryz.isAgg4
 z4:=Tryz.sizeOf4
 v4:=Tryz.zeroValue4
 t5:=Tryz.underlying5
 a5:=Tryz.isAgg5
 z5:=Tryz.sizeOf5
 v5:=Tryz.zeroValue5
 t9:=Tryz.underlying9
 a9:=Tryz.isAgg9
 z9:=Tryz.sizeOf9
 v9:=Tryz.zeroValue9
 t46:=Tryz.underlying49
 a46:=Tryz.isAgg49
 z46:=Tryz.sizeOf49
 v46:=Tryz.zeroValue49
 t51:=Tryz.underlying131
 a51:=Tryz.isAgg131
 z51:=Tryz.sizeOf131
 v51:=Tryz.zeroValue131
 t146:=Tryz.underlying132
 a146:=Tryz.isAgg132
 z146:=Tryz.sizeOf132
 v146:=Tryz.zeroValue132
 g1:=by kernel_rfl }
open Go.RowKit Go.Lib in
theorem Tryz.strings_Contains_one (s : ByteArray) (c : UInt8) (w : World) :
  Calls Tryz.prog 54 #[.string s,.string ⟨#[c]⟩] w fun e w'=>e = .returned (.bool (decide (0 ≤ Lib.indexByte s.data.toList c))) ∧ w' = w:=Any.strings_Contains_one Tryz.lays144 s c w
def Tryz.lays138_ren : Go.Shelf.Ren:=⟨fun | 138=>33 | 195=>49 | 218=>50 | 143=>51 | 219=>68 | 217=>72 | 225=>83 | 224=>84 | 267=>85 | 266=>88 | 314=>99 | n=>n,fun | 9=>9 | 3=>3 | 4=>4 | 5=>5 | 0=>0 | 46=>49 | 146=>132 | 51=>131 | n=>n,fun | 1=>0 | n=>n⟩
theorem Tryz.lays138 : Go.Proofs.Lays.n138 Tryz.prog Tryz.lays138_ren:={
 mixed:=by kernel_rfl
 f138:=Tryz.func33.trans (congrArg some (by kernel_rfl))
 f143:=Tryz.func51.trans (congrArg some (by kernel_rfl))
 f195:=Tryz.func49.trans (congrArg some (by kernel_rfl))
 f217:=Tryz.func72.trans (congrArg some (by kernel_rfl))
 f218:=Tryz.func50.trans (congrArg some (by kernel_rfl))
 f219:=Tryz.func68.trans (congrArg some (by kernel_rfl))
 f224:=Tryz.func84.trans (congrArg some (by kernel_rfl))
 f225:=Tryz.func83.trans (congrArg some (by kernel_rfl))
 f266:=Tryz.func88.trans (congrArg some (by kernel_rfl))
 f267:=Tryz.func85.trans (congrArg some (by kernel_rfl))
 f314:=Tryz.func99.trans (congrArg some (by kernel_rfl))
 t0:=Tryz.underlying0
 a0:=Tryz.isAgg0
 z0:=Tryz.sizeOf0
 v0:=Tryz.zeroValue0
 t3:=Tryz.underlying3
 a3:=Tryz.isAgg3
 z3:=Tryz.sizeOf3
 v3:=Tryz.zeroValue3
 t4:=Tryz.underlying4
 a4:=Tryz.isAgg4
 z4:=Tryz.sizeOf4
 v4:=Tryz.zeroValue4
 t5:=Tryz.underlying5
 a5:=Tryz.isAgg5
 z5:=Tryz.sizeOf5
 v5:=Tryz.zeroValue5
 t9:=Tryz.underlying9
 a9:=Tryz.isAgg9
 z9:=Tryz.sizeOf9
 v9:=Tryz.zeroValue9
 t46:=Tryz.underlying49
 a46:=Tryz.isAgg49
 z46:=Tryz.sizeOf49
 v46:=Tryz.zeroValue49
 t51:=Tryz.underlying131
 a51:=Tryz.isAgg131
 z51:=Tryz.sizeOf131
 v51:=Tryz.zeroValue131
 t146:=Tryz.underlying132
 a146:=Tryz.isAgg132
 z146:=Tryz.sizeOf132
 v146:=Tryz.zeroValue132
 g1:=by kernel_rfl }
open Go.RowKit Go.Lib in
theorem Tryz.strings_Count_one (s : ByteArray) (c : UInt8) (w : World) :
  Calls Tryz.prog 33 #[.string s,.string ⟨#[c]⟩] w fun e w'=>e = .returned (.int .i64 (Lib.countByte s.data.toList c)) ∧ w' = w:=Any.strings_Count_one Tryz.lays138 s c w
def Tryz.lays207_ren : Go.Shelf.Ren:=⟨fun | 207=>87 | n=>n,fun | 9=>9 | 4=>4 | 3=>3 | n=>n,fun | n=>n⟩
def Tryz.lays102_ren : Go.Shelf.Ren:=⟨fun | 102=>53 | 209=>71 | 207=>87 | n=>n,fun | 9=>9 | 4=>4 | 3=>3 | n=>n,fun | n=>n⟩
theorem Tryz.lays102 : Go.Proofs.Lays.n102 Tryz.prog Tryz.lays102_ren:={
 mixed:=by kernel_rfl
 f102:=Tryz.func53.trans (congrArg some (by kernel_rfl))
 f207:=Tryz.func87.trans (congrArg some (by kernel_rfl))
 f209:=Tryz.func71.trans (congrArg some (by kernel_rfl))
 t3:=Tryz.underlying3
 a3:=Tryz.isAgg3
 z3:=Tryz.sizeOf3
 v3:=Tryz.zeroValue3
 t4:=Tryz.underlying4
 a4:=Tryz.isAgg4
 z4:=Tryz.sizeOf4
 v4:=Tryz.zeroValue4
 t9:=Tryz.underlying9
 a9:=Tryz.isAgg9
 z9:=Tryz.sizeOf9
 v9:=Tryz.zeroValue9 }
open Go.RowKit Go.Lib in
theorem Tryz.strings_TrimSuffix (s p : ByteArray) (w : World) (hs : s.size ≤ 9223372036854775807) :
  Calls Tryz.prog 53 #[.string s,.string p] w fun e w'=>e = .returned (.string ⟨(Lib.trimSuffix s.data.toList p.data.toList).toArray⟩) ∧ w' = w:=Any.strings_TrimSuffix Tryz.lays102 s p w hs
end Go.Proofs
