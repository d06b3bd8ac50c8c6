/-
  DERIVED: THE SHELF's CONTRACTS AT THIS DUMP, IN PLAIN WORDS (tools/lay-plain.mjs out of 'TryShelf.lean', which tools/lay-shelf.mjs wrote): THE SAME DECLARATIONS UNDER THE SAME NAMES: 'import', 'namespace', 'open', 'def', 'theorem' AND NOTHING ELSE: no command of the shelf's: FOR A HAND-IN. Each laying: the table of numbers ('.._ren') and one theorem, a field a fact of the dump's own or the kernel's comparison; each contract: ONE APPLICATION.
-/
import Derived.Shelf.Strings.Builder1
import Derived.Shelf.Strings.Builder2
import Derived.Shelf.Strings.OnBuilder
import Derived.Shelf.Strings.Search1
import Derived.Shelf.Strings.Search2
import Derived.Shelf.Strings.Search3
import Derived.Shelf.LaysM
import Derived.Shelf.Strings.Shaped
import Derived.Test.YtnmcilaebamncaaProg
set_option linter.unusedVariables false
set_option linter.unusedSimpArgs false
set_option linter.unusedSectionVars false
namespace Go.Proofs
open Go.Shelf
def Try.aRq:Go.Shelf.Ren:=⟨fun | 219=>99 | 217=>107 | 225=>108 | 224=>109 | 267=>110 | 266=>116 | 314=>117 | n=>n,fun | 9=>9 | 3=>3 | 4=>4 | 5=>5 | 46=>59 | 146=>167 | 51=>166 | n=>n,fun | 1=>0 | n=>n⟩
theorem Try.b5i:Go.Proofs.Lays.n219 Try.prog Try.aRq:={
 mixed:=by kernel_rfl
 f217:=Try.func107.trans (congrArg some (by kernel_rfl))
 f219:=Try.func99.trans (congrArg some (by kernel_rfl))
 f224:=Try.func109.trans (congrArg some (by kernel_rfl))
 f225:=Try.func108.trans (congrArg some (by kernel_rfl))
 f266:=Try.func116.trans (congrArg some (by kernel_rfl))
 f267:=Try.func110.trans (congrArg some (by kernel_rfl))
 f314:=Try.func117.trans (congrArg some (by kernel_rfl))
 t3:=Try.underlying3
 a3:=Try.isAgg3
 z3:=Try.sizeOf3
 v3:=Try.zeroValue3
 t4:=Try.underlying4
 a4:=Try.isAgg4
 z4:=Try.sizeOf4
 v4:=Try.zeroValue4
 t5:=Try.underlying5
 a5:=Try.isAgg5
 z5:=Try.sizeOf5
 v5:=Try.zeroValue5
 t9:=Try.underlying9
 a9:=Try.isAgg9
 z9:=Try.sizeOf9
 v9:=Try.zeroValue9
 t46:=Try.underlying59
 a46:=Try.isAgg59
 z46:=Try.sizeOf59
 v46:=Try.zeroValue59
 t51:=Try.underlying166
 a51:=Try.isAgg166
 z51:=Try.sizeOf166
 v51:=Try.zeroValue166
 t146:=Try.underlying167
 a146:=Try.isAgg167
 z146:=Try.sizeOf167
 v146:=Try.zeroValue167
 g1:=by kernel_rfl }
open Go.RowKit Go.Lib in
theorem Try.stringslite_Index_one (s:ByteArray) (c:UInt8) (w:World) :
  Calls Try.prog 99 #[.string s,.string ⟨#[c]⟩] w fun e w'=>e = .returned (.int .i64 (Lib.indexByte s.data.toList c))∧w'=w:=Any.stringslite_Index_one Try.b5i s c w
end Go.Proofs
