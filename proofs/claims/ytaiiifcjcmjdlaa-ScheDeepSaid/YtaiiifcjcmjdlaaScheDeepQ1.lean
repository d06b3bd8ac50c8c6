/- Closed runs of ScheDeep: some depths. -/
import Derived.Test.YtaiiifcjcmjdlaaScheT
set_option linter.unusedVariables false
set_option linter.unusedSimpArgs false
set_option linter.unusedSectionVars false
set_option maxRecDepth 100000
namespace Go.Rx
open Go.Proofs
theorem ScheDeepRun1n0 : (funX tyT ftW 100000 100 5 [.sym (.node [(.and, 31, .val (.ofNat 1))]), .sym (.node [(.and, 3, .val (.ofNat 0))])] ⟨0, .e⟩).isTrue = true := by kernel_rfl
theorem ScheDeepRun1n1 : (funX tyT ftW 100000 100 5 [.sym (.node [(.and, 31, .val (.ofNat 1))]), .sym (.node [(.and, 3, .val (.ofNat 1))])] ⟨0, .e⟩).isTrue = true := by kernel_rfl
theorem ScheDeepRun1n2 : (funX tyT ftW 100000 100 5 [.sym (.node [(.and, 31, .val (.ofNat 1))]), .sym (.node [(.and, 3, .val (.ofNat 2))])] ⟨0, .e⟩).isTrue = true := by kernel_rfl
theorem ScheDeepRun1n3 : (funX tyT ftW 100000 100 5 [.sym (.node [(.and, 31, .val (.ofNat 1))]), .sym (.node [(.and, 3, .val (.ofNat 3))])] ⟨0, .e⟩).isTrue = true := by kernel_rfl
theorem ScheDeepRun9n0 : (funX tyT ftW 100000 100 5 [.sym (.node [(.and, 31, .val (.ofNat 9))]), .sym (.node [(.and, 3, .val (.ofNat 0))])] ⟨0, .e⟩).isTrue = true := by kernel_rfl
theorem ScheDeepRun9n1 : (funX tyT ftW 100000 100 5 [.sym (.node [(.and, 31, .val (.ofNat 9))]), .sym (.node [(.and, 3, .val (.ofNat 1))])] ⟨0, .e⟩).isTrue = true := by kernel_rfl
theorem ScheDeepRun9n2 : (funX tyT ftW 100000 100 5 [.sym (.node [(.and, 31, .val (.ofNat 9))]), .sym (.node [(.and, 3, .val (.ofNat 2))])] ⟨0, .e⟩).isTrue = true := by kernel_rfl
theorem ScheDeepRun9n3 : (funX tyT ftW 100000 100 5 [.sym (.node [(.and, 31, .val (.ofNat 9))]), .sym (.node [(.and, 3, .val (.ofNat 3))])] ⟨0, .e⟩).isTrue = true := by kernel_rfl
theorem ScheDeepRun17n0 : (funX tyT ftW 100000 100 5 [.sym (.node [(.and, 31, .val (.ofNat 17))]), .sym (.node [(.and, 3, .val (.ofNat 0))])] ⟨0, .e⟩).isTrue = true := by kernel_rfl
theorem ScheDeepRun17n1 : (funX tyT ftW 100000 100 5 [.sym (.node [(.and, 31, .val (.ofNat 17))]), .sym (.node [(.and, 3, .val (.ofNat 1))])] ⟨0, .e⟩).isTrue = true := by kernel_rfl
theorem ScheDeepRun17n2 : (funX tyT ftW 100000 100 5 [.sym (.node [(.and, 31, .val (.ofNat 17))]), .sym (.node [(.and, 3, .val (.ofNat 2))])] ⟨0, .e⟩).isTrue = true := by kernel_rfl
theorem ScheDeepRun17n3 : (funX tyT ftW 100000 100 5 [.sym (.node [(.and, 31, .val (.ofNat 17))]), .sym (.node [(.and, 3, .val (.ofNat 3))])] ⟨0, .e⟩).isTrue = true := by kernel_rfl
theorem ScheDeepRun25n0 : (funX tyT ftW 100000 100 5 [.sym (.node [(.and, 31, .val (.ofNat 25))]), .sym (.node [(.and, 3, .val (.ofNat 0))])] ⟨0, .e⟩).isTrue = true := by kernel_rfl
theorem ScheDeepRun25n1 : (funX tyT ftW 100000 100 5 [.sym (.node [(.and, 31, .val (.ofNat 25))]), .sym (.node [(.and, 3, .val (.ofNat 1))])] ⟨0, .e⟩).isTrue = true := by kernel_rfl
theorem ScheDeepRun25n2 : (funX tyT ftW 100000 100 5 [.sym (.node [(.and, 31, .val (.ofNat 25))]), .sym (.node [(.and, 3, .val (.ofNat 2))])] ⟨0, .e⟩).isTrue = true := by kernel_rfl
theorem ScheDeepRun25n3 : (funX tyT ftW 100000 100 5 [.sym (.node [(.and, 31, .val (.ofNat 25))]), .sym (.node [(.and, 3, .val (.ofNat 3))])] ⟨0, .e⟩).isTrue = true := by kernel_rfl
end Go.Rx
