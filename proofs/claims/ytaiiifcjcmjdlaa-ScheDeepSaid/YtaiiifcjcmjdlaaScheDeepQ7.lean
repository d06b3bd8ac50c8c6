/- Closed runs of ScheDeep: some depths. -/
import Derived.Test.YtaiiifcjcmjdlaaScheT
set_option linter.unusedVariables false
set_option linter.unusedSimpArgs false
set_option linter.unusedSectionVars false
set_option maxRecDepth 100000
namespace Go.Rx
open Go.Proofs
theorem ScheDeepRun7n0 : (funX tyT ftW 100000 100 5 [.sym (.node [(.and, 31, .val (.ofNat 7))]), .sym (.node [(.and, 3, .val (.ofNat 0))])] ⟨0, .e⟩).isTrue = true := by kernel_rfl
theorem ScheDeepRun7n1 : (funX tyT ftW 100000 100 5 [.sym (.node [(.and, 31, .val (.ofNat 7))]), .sym (.node [(.and, 3, .val (.ofNat 1))])] ⟨0, .e⟩).isTrue = true := by kernel_rfl
theorem ScheDeepRun7n2 : (funX tyT ftW 100000 100 5 [.sym (.node [(.and, 31, .val (.ofNat 7))]), .sym (.node [(.and, 3, .val (.ofNat 2))])] ⟨0, .e⟩).isTrue = true := by kernel_rfl
theorem ScheDeepRun7n3 : (funX tyT ftW 100000 100 5 [.sym (.node [(.and, 31, .val (.ofNat 7))]), .sym (.node [(.and, 3, .val (.ofNat 3))])] ⟨0, .e⟩).isTrue = true := by kernel_rfl
theorem ScheDeepRun15n0 : (funX tyT ftW 100000 100 5 [.sym (.node [(.and, 31, .val (.ofNat 15))]), .sym (.node [(.and, 3, .val (.ofNat 0))])] ⟨0, .e⟩).isTrue = true := by kernel_rfl
theorem ScheDeepRun15n1 : (funX tyT ftW 100000 100 5 [.sym (.node [(.and, 31, .val (.ofNat 15))]), .sym (.node [(.and, 3, .val (.ofNat 1))])] ⟨0, .e⟩).isTrue = true := by kernel_rfl
theorem ScheDeepRun15n2 : (funX tyT ftW 100000 100 5 [.sym (.node [(.and, 31, .val (.ofNat 15))]), .sym (.node [(.and, 3, .val (.ofNat 2))])] ⟨0, .e⟩).isTrue = true := by kernel_rfl
theorem ScheDeepRun15n3 : (funX tyT ftW 100000 100 5 [.sym (.node [(.and, 31, .val (.ofNat 15))]), .sym (.node [(.and, 3, .val (.ofNat 3))])] ⟨0, .e⟩).isTrue = true := by kernel_rfl
theorem ScheDeepRun23n0 : (funX tyT ftW 100000 100 5 [.sym (.node [(.and, 31, .val (.ofNat 23))]), .sym (.node [(.and, 3, .val (.ofNat 0))])] ⟨0, .e⟩).isTrue = true := by kernel_rfl
theorem ScheDeepRun23n1 : (funX tyT ftW 100000 100 5 [.sym (.node [(.and, 31, .val (.ofNat 23))]), .sym (.node [(.and, 3, .val (.ofNat 1))])] ⟨0, .e⟩).isTrue = true := by kernel_rfl
theorem ScheDeepRun23n2 : (funX tyT ftW 100000 100 5 [.sym (.node [(.and, 31, .val (.ofNat 23))]), .sym (.node [(.and, 3, .val (.ofNat 2))])] ⟨0, .e⟩).isTrue = true := by kernel_rfl
theorem ScheDeepRun23n3 : (funX tyT ftW 100000 100 5 [.sym (.node [(.and, 31, .val (.ofNat 23))]), .sym (.node [(.and, 3, .val (.ofNat 3))])] ⟨0, .e⟩).isTrue = true := by kernel_rfl
theorem ScheDeepRun31n0 : (funX tyT ftW 100000 100 5 [.sym (.node [(.and, 31, .val (.ofNat 31))]), .sym (.node [(.and, 3, .val (.ofNat 0))])] ⟨0, .e⟩).isTrue = true := by kernel_rfl
theorem ScheDeepRun31n1 : (funX tyT ftW 100000 100 5 [.sym (.node [(.and, 31, .val (.ofNat 31))]), .sym (.node [(.and, 3, .val (.ofNat 1))])] ⟨0, .e⟩).isTrue = true := by kernel_rfl
theorem ScheDeepRun31n2 : (funX tyT ftW 100000 100 5 [.sym (.node [(.and, 31, .val (.ofNat 31))]), .sym (.node [(.and, 3, .val (.ofNat 2))])] ⟨0, .e⟩).isTrue = true := by kernel_rfl
theorem ScheDeepRun31n3 : (funX tyT ftW 100000 100 5 [.sym (.node [(.and, 31, .val (.ofNat 31))]), .sym (.node [(.and, 3, .val (.ofNat 3))])] ⟨0, .e⟩).isTrue = true := by kernel_rfl
end Go.Rx
