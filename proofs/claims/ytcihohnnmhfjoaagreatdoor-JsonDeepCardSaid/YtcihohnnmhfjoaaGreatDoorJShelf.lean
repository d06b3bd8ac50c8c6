/-
  DERIVED: THE SHELF's CONTRACTS AT THIS DUMP, IN PLAIN WORDS (tools/lay-plain.mjs out of 'TryzShelf.lean', which tools/lay-shelf.mjs wrote): THE SAME DECLARATIONS UNDER THE SAME NAMES: 'import', 'namespace', 'open', 'def', 'theorem' AND NOTHING ELSE: no command of the shelf's: FOR A HAND-IN. Each laying: the table of numbers ('.._ren') and one theorem, a field a fact of the dump's own or the kernel's comparison; each contract: ONE APPLICATION.
-/
import Derived.Shelf.Strings.Builder1
import Derived.Shelf.Strings.Builder2
import Derived.Shelf.Strings.OnBuilder
import Derived.Shelf.Strings.Trim
import Derived.Shelf.Small.Utf8
import Derived.Shelf.Small.Strs
import Derived.Shelf.Strings.Search1
import Derived.Shelf.Unicode.Latin
import Derived.Shelf.Strings.Runes
import Derived.Shelf.Strings.AsciiSet
import Derived.Shelf.Unicode.DecodeSlow
import Derived.Shelf.Unicode.CaseLookup
import Derived.Shelf.Unicode.CaseConvert
import Derived.Shelf.Unicode.CaseTo
import Derived.Shelf.Unicode.CaseLaid
import Derived.Test.YtcihohnnmhfjoaaGreatDoorProg
set_option linter.unusedVariables false
set_option linter.unusedSimpArgs false
set_option linter.unusedSectionVars false
namespace Go.Proofs
open Go.Shelf
def Tryz.lays161_ren : Go.Shelf.Ren:=⟨fun | 161=>16 | 231=>30 | 227=>31 | 233=>32 | 235=>33 | 228=>41 | 197=>42 | 151=>43 | 260=>50 | 152=>51 | 137=>52 | 119=>61 | 224=>62 | 225=>63 | 217=>64 | 266=>76 | n=>n,fun | 9=>9 | 4=>4 | 3=>3 | 5=>5 | 117=>66 | 116=>65 | 0=>0 | 124=>69 | 105=>75 | 21=>21 | 119=>90 | 46=>24 | 139=>93 | 138=>92 | n=>n,fun | 3=>0 | 4=>1 | n=>n⟩
theorem Tryz.lays161 : Go.Proofs.Lays.n161 Tryz.prog Tryz.lays161_ren:={
 mixed:=by kernel_rfl
 f119:=Tryz.func61.trans (congrArg some (by kernel_rfl))
 f137:=Tryz.func52.trans (congrArg some (by kernel_rfl))
 f151:=Tryz.func43.trans (congrArg some (by kernel_rfl))
 f152:=Tryz.func51.trans (congrArg some (by kernel_rfl))
 f161:=Tryz.func16.trans (congrArg some (by kernel_rfl))
 f197:=Tryz.func42.trans (congrArg some (by kernel_rfl))
 f217:=Tryz.func64.trans (congrArg some (by kernel_rfl))
 f224:=Tryz.func62.trans (congrArg some (by kernel_rfl))
 f225:=Tryz.func63.trans (congrArg some (by kernel_rfl))
 f227:=Tryz.func31.trans (congrArg some (by kernel_rfl))
 f228:=Tryz.func41.trans (congrArg some (by kernel_rfl))
 f231:=Tryz.func30.trans (congrArg some (by kernel_rfl))
 f233:=Tryz.func32.trans (congrArg some (by kernel_rfl))
 f235:=Tryz.func33.trans (congrArg some (by kernel_rfl))
 f260:=Tryz.func50.trans (congrArg some (by kernel_rfl))
 f266:=Tryz.func76.trans (congrArg some (by kernel_rfl))
 t0:=Tryz.underlying0
 a0:=Tryz.isAgg0
 z0:=Tryz.sizeOf0
 v0:=Tryz.zeroValue0
 t3:=Tryz.underlying3
 a3:=Tryz.isAgg3
 z3:=Tryz.sizeOf3
 v3:=Tryz.zeroValue3
 t4:=Tryz.underlying4
 a4:=Tryz.isAgg4
 z4:=Tryz.sizeOf4
 v4:=Tryz.zeroValue4
 t5:=Tryz.underlying5
 a5:=Tryz.isAgg5
 z5:=Tryz.sizeOf5
 v5:=Tryz.zeroValue5
 t9:=Tryz.underlying9
 a9:=Tryz.isAgg9
 z9:=Tryz.sizeOf9
 v9:=Tryz.zeroValue9
 t21:=Tryz.underlying21
 a21:=Tryz.isAgg21
 z21:=Tryz.sizeOf21
 v21:=Tryz.zeroValue21
 t46:=Tryz.underlying24
 a46:=Tryz.isAgg24
 z46:=Tryz.sizeOf24
 v46:=Tryz.zeroValue24
 t105:=Tryz.underlying75
 a105:=Tryz.isAgg75
 z105:=Tryz.sizeOf75
 v105:=Tryz.zeroValue75
 t116:=Tryz.underlying65
 a116:=Tryz.isAgg65
 z116:=Tryz.sizeOf65
 t117:=Tryz.underlying66
 a117:=Tryz.isAgg66
 z117:=Tryz.sizeOf66
 v117:=Tryz.zeroValue66
 t119:=Tryz.underlying90
 a119:=Tryz.isAgg90
 z119:=Tryz.sizeOf90
 t124:=Tryz.underlying69
 a124:=Tryz.isAgg69
 z124:=Tryz.sizeOf69
 v124:=Tryz.zeroValue69
 t138:=Tryz.underlying92
 a138:=Tryz.isAgg92
 z138:=Tryz.sizeOf92
 v138:=Tryz.zeroValue92
 t139:=Tryz.underlying93
 a139:=Tryz.isAgg93
 z139:=Tryz.sizeOf93
 v139:=Tryz.zeroValue93
 g3:=by kernel_rfl
 g4:=by kernel_rfl }
end Go.Proofs
