/- Closed runs of ScheDeep: some depths. -/
import Derived.Test.YtaiiifcjcmjdlaaScheT
set_option linter.unusedVariables false
set_option linter.unusedSimpArgs false
set_option linter.unusedSectionVars false
set_option maxRecDepth 100000
namespace Go.Rx
open Go.Proofs
theorem ScheDeepRun3n0 : (funX tyT ftW 100000 100 5 [.sym (.node [(.and, 31, .val (.ofNat 3))]), .sym (.node [(.and, 3, .val (.ofNat 0))])] ⟨0, .e⟩).isTrue = true := by kernel_rfl
theorem ScheDeepRun3n1 : (funX tyT ftW 100000 100 5 [.sym (.node [(.and, 31, .val (.ofNat 3))]), .sym (.node [(.and, 3, .val (.ofNat 1))])] ⟨0, .e⟩).isTrue = true := by kernel_rfl
theorem ScheDeepRun3n2 : (funX tyT ftW 100000 100 5 [.sym (.node [(.and, 31, .val (.ofNat 3))]), .sym (.node [(.and, 3, .val (.ofNat 2))])] ⟨0, .e⟩).isTrue = true := by kernel_rfl
theorem ScheDeepRun3n3 : (funX tyT ftW 100000 100 5 [.sym (.node [(.and, 31, .val (.ofNat 3))]), .sym (.node [(.and, 3, .val (.ofNat 3))])] ⟨0, .e⟩).isTrue = true := by kernel_rfl
theorem ScheDeepRun11n0 : (funX tyT ftW 100000 100 5 [.sym (.node [(.and, 31, .val (.ofNat 11))]), .sym (.node [(.and, 3, .val (.ofNat 0))])] ⟨0, .e⟩).isTrue = true := by kernel_rfl
theorem ScheDeepRun11n1 : (funX tyT ftW 100000 100 5 [.sym (.node [(.and, 31, .val (.ofNat 11))]), .sym (.node [(.and, 3, .val (.ofNat 1))])] ⟨0, .e⟩).isTrue = true := by kernel_rfl
theorem ScheDeepRun11n2 : (funX tyT ftW 100000 100 5 [.sym (.node [(.and, 31, .val (.ofNat 11))]), .sym (.node [(.and, 3, .val (.ofNat 2))])] ⟨0, .e⟩).isTrue = true := by kernel_rfl
theorem ScheDeepRun11n3 : (funX tyT ftW 100000 100 5 [.sym (.node [(.and, 31, .val (.ofNat 11))]), .sym (.node [(.and, 3, .val (.ofNat 3))])] ⟨0, .e⟩).isTrue = true := by kernel_rfl
theorem ScheDeepRun19n0 : (funX tyT ftW 100000 100 5 [.sym (.node [(.and, 31, .val (.ofNat 19))]), .sym (.node [(.and, 3, .val (.ofNat 0))])] ⟨0, .e⟩).isTrue = true := by kernel_rfl
theorem ScheDeepRun19n1 : (funX tyT ftW 100000 100 5 [.sym (.node [(.and, 31, .val (.ofNat 19))]), .sym (.node [(.and, 3, .val (.ofNat 1))])] ⟨0, .e⟩).isTrue = true := by kernel_rfl
theorem ScheDeepRun19n2 : (funX tyT ftW 100000 100 5 [.sym (.node [(.and, 31, .val (.ofNat 19))]), .sym (.node [(.and, 3, .val (.ofNat 2))])] ⟨0, .e⟩).isTrue = true := by kernel_rfl
theorem ScheDeepRun19n3 : (funX tyT ftW 100000 100 5 [.sym (.node [(.and, 31, .val (.ofNat 19))]), .sym (.node [(.and, 3, .val (.ofNat 3))])] ⟨0, .e⟩).isTrue = true := by kernel_rfl
theorem ScheDeepRun27n0 : (funX tyT ftW 100000 100 5 [.sym (.node [(.and, 31, .val (.ofNat 27))]), .sym (.node [(.and, 3, .val (.ofNat 0))])] ⟨0, .e⟩).isTrue = true := by kernel_rfl
theorem ScheDeepRun27n1 : (funX tyT ftW 100000 100 5 [.sym (.node [(.and, 31, .val (.ofNat 27))]), .sym (.node [(.and, 3, .val (.ofNat 1))])] ⟨0, .e⟩).isTrue = true := by kernel_rfl
theorem ScheDeepRun27n2 : (funX tyT ftW 100000 100 5 [.sym (.node [(.and, 31, .val (.ofNat 27))]), .sym (.node [(.and, 3, .val (.ofNat 2))])] ⟨0, .e⟩).isTrue = true := by kernel_rfl
theorem ScheDeepRun27n3 : (funX tyT ftW 100000 100 5 [.sym (.node [(.and, 31, .val (.ofNat 27))]), .sym (.node [(.and, 3, .val (.ofNat 3))])] ⟨0, .e⟩).isTrue = true := by kernel_rfl
end Go.Rx
