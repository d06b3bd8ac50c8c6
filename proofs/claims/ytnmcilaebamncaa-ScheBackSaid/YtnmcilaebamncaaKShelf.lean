/-
  DERIVED: THE SHELF's CONTRACTS AT THIS DUMP, IN PLAIN WORDS (tools/lay-plain.mjs out of 'TryShelf.lean', which tools/lay-shelf.mjs wrote): THE SAME DECLARATIONS UNDER THE SAME NAMES: 'import', 'namespace', 'open', 'def', 'theorem' AND NOTHING ELSE: no command of the shelf's: FOR A HAND-IN. Each laying: the table of numbers ('.._ren') and one theorem, a field a fact of the dump's own or the kernel's comparison; each contract: ONE APPLICATION.
-/
import Derived.Shelf.Strings.Builder1
import Derived.Shelf.Strings.Builder2
import Derived.Shelf.Strings.OnBuilder
import Derived.Shelf.Strings.Search1
import Derived.Shelf.Strings.Search2
import Derived.Shelf.Strings.Search3
import Derived.Shelf.LaysM
import Derived.Shelf.Strings.Shaped
import Derived.Test.YtnmcilaebamncaaProg
namespace Go.Proofs
open Go.Shelf
def Try.lays169_ren : Go.Shelf.Ren:=⟨fun | 169=>37 | n=>n,fun | 70=>77 | 9=>9 | 0=>0 | 72=>80 | 37=>78 | 127=>123 | 3=>3 | 5=>5 | n=>n,fun | n=>n⟩
theorem Try.lays169 : Go.Proofs.Lays.n169 Try.prog Try.lays169_ren:={
 mixed:=by kernel_rfl
 f169:=Try.func37.trans (congrArg some (by kernel_rfl))
 t0:=Try.underlying0
 a0:=Try.isAgg0
 z0:=Try.sizeOf0
 v0:=Try.zeroValue0
 t3:=Try.underlying3
 a3:=Try.isAgg3
 z3:=Try.sizeOf3
 v3:=Try.zeroValue3
 t9:=Try.underlying9
 a9:=Try.isAgg9
 z9:=Try.sizeOf9
 v9:=Try.zeroValue9
 t37:=Try.underlying78
 a37:=Try.isAgg78
 z37:=Try.sizeOf78
 v37:=Try.zeroValue78
 t70:=Try.underlying77
 a70:=Try.isAgg77
 z70:=Try.sizeOf77
 v70:=Try.zeroValue77
 t72:=Try.underlying80
 a72:=Try.isAgg80
 z72:=Try.sizeOf80
 v72:=Try.zeroValue80
 t127:=Try.underlying123
 a127:=Try.isAgg123
 z127:=Try.sizeOf123
 v127:=Try.zeroValue123 }
theorem Try.Builder_Extra_169 : Builder.Extra Try.prog Try.lays169_ren:={
 sizeBuilder:=by kernel_rfl
 liesBuilder:=by kernel_rfl
 t5:=Try.underlying5
 a5:=Try.isAgg5
 z5:=Try.sizeOf5
 v5:=Try.zeroValue5
 infoByte:=by kernel_rfl
 cellsByte:=by kernel_rfl
 sizeByte:=by kernel_rfl
 neB5:=by decide }
def Try.lays156_ren : Go.Shelf.Ren:=⟨fun | 156=>67 | 165=>93 | 166=>34 | 169=>37 | 240=>65 | 241=>104 | 276=>91 | 277=>112 | n=>n,fun | 31=>57 | 9=>9 | 3=>3 | 4=>4 | 0=>0 | 20=>20 | 72=>80 | 76=>83 | 70=>77 | 37=>78 | 75=>82 | 127=>123 | 164=>143 | 5=>5 | 80=>87 | n=>n,fun | n=>n⟩
theorem Try.lays156 : Go.Proofs.Lays.n156 Try.prog Try.lays156_ren:={
 mixed:=by kernel_rfl
 f156:=Try.func67.trans (congrArg some (by kernel_rfl))
 f165:=Try.func93.trans (congrArg some (by kernel_rfl))
 f166:=Try.func34.trans (congrArg some (by kernel_rfl))
 f169:=Try.func37.trans (congrArg some (by kernel_rfl))
 f240:=Try.func65.trans (congrArg some (by kernel_rfl))
 f241:=Try.func104.trans (congrArg some (by kernel_rfl))
 f276:=Try.func91.trans (congrArg some (by kernel_rfl))
 f277:=Try.func112.trans (congrArg some (by kernel_rfl))
 t0:=Try.underlying0
 a0:=Try.isAgg0
 z0:=Try.sizeOf0
 v0:=Try.zeroValue0
 t3:=Try.underlying3
 a3:=Try.isAgg3
 z3:=Try.sizeOf3
 v3:=Try.zeroValue3
 t4:=Try.underlying4
 a4:=Try.isAgg4
 z4:=Try.sizeOf4
 v4:=Try.zeroValue4
 t9:=Try.underlying9
 a9:=Try.isAgg9
 z9:=Try.sizeOf9
 v9:=Try.zeroValue9
 t20:=Try.underlying20
 a20:=Try.isAgg20
 z20:=Try.sizeOf20
 v20:=Try.zeroValue20
 t31:=Try.underlying57
 a31:=Try.isAgg57
 z31:=Try.sizeOf57
 v31:=Try.zeroValue57
 t37:=Try.underlying78
 a37:=Try.isAgg78
 z37:=Try.sizeOf78
 v37:=Try.zeroValue78
 t70:=Try.underlying77
 a70:=Try.isAgg77
 z70:=Try.sizeOf77
 v70:=Try.zeroValue77
 t72:=Try.underlying80
 a72:=Try.isAgg80
 z72:=Try.sizeOf80
 v72:=Try.zeroValue80
 t75:=Try.underlying82
 a75:=Try.isAgg82
 z75:=Try.sizeOf82
 v75:=Try.zeroValue82
 t76:=Try.underlying83
 a76:=Try.isAgg83
 z76:=Try.sizeOf83
 v76:=Try.zeroValue83
 t127:=Try.underlying123
 a127:=Try.isAgg123
 z127:=Try.sizeOf123
 v127:=Try.zeroValue123
 t164:=Try.underlying143
 a164:=Try.isAgg143
 z164:=Try.sizeOf143
 v164:=Try.zeroValue143 }
theorem Try.Builder_Extra_156 : Builder.Extra Try.prog Try.lays156_ren:={
 sizeBuilder:=by kernel_rfl
 liesBuilder:=by kernel_rfl
 t5:=Try.underlying5
 a5:=Try.isAgg5
 z5:=Try.sizeOf5
 v5:=Try.zeroValue5
 infoByte:=by kernel_rfl
 cellsByte:=by kernel_rfl
 sizeByte:=by kernel_rfl
 neB5:=by decide }
def Try.lays219_ren : Go.Shelf.Ren:=⟨fun | 219=>99 | 217=>107 | 225=>108 | 224=>109 | 267=>110 | 266=>116 | 314=>117 | n=>n,fun | 9=>9 | 3=>3 | 4=>4 | 5=>5 | 46=>59 | 146=>167 | 51=>166 | n=>n,fun | 1=>0 | n=>n⟩
theorem Try.lays219 : Go.Proofs.Lays.n219 Try.prog Try.lays219_ren:={
 mixed:=by kernel_rfl
 f217:=Try.func107.trans (congrArg some (by kernel_rfl))
 f219:=Try.func99.trans (congrArg some (by kernel_rfl))
 f224:=Try.func109.trans (congrArg some (by kernel_rfl))
 f225:=Try.func108.trans (congrArg some (by kernel_rfl))
 f266:=Try.func116.trans (congrArg some (by kernel_rfl))
 f267:=Try.func110.trans (congrArg some (by kernel_rfl))
 f314:=Try.func117.trans (congrArg some (by kernel_rfl))
 t3:=Try.underlying3
 a3:=Try.isAgg3
 z3:=Try.sizeOf3
 v3:=Try.zeroValue3
 t4:=Try.underlying4
 a4:=Try.isAgg4
 z4:=Try.sizeOf4
 v4:=Try.zeroValue4
 t5:=Try.underlying5
 a5:=Try.isAgg5
 z5:=Try.sizeOf5
 v5:=Try.zeroValue5
 t9:=Try.underlying9
 a9:=Try.isAgg9
 z9:=Try.sizeOf9
 v9:=Try.zeroValue9
 t46:=Try.underlying59
 a46:=Try.isAgg59
 z46:=Try.sizeOf59
 v46:=Try.zeroValue59
 t51:=Try.underlying166
 a51:=Try.isAgg166
 z51:=Try.sizeOf166
 v51:=Try.zeroValue166
 t146:=Try.underlying167
 a146:=Try.isAgg167
 z146:=Try.sizeOf167
 v146:=Try.zeroValue167
 g1:=by kernel_rfl }
open Go.RowKit Go.Lib in
theorem Try.stringslite_Index_one (s : ByteArray) (c : UInt8) (w : World) :
  Calls Try.prog 99 #[.string s,.string ⟨#[c]⟩] w fun e w'=>e = .returned (.int .i64 (Lib.indexByte s.data.toList c)) ∧ w' = w:=Any.stringslite_Index_one Try.lays219 s c w
end Go.Proofs
