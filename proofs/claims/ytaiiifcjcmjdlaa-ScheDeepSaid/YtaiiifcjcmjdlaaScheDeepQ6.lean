/- Closed runs of ScheDeep: some depths. -/
import Derived.Test.YtaiiifcjcmjdlaaScheT
set_option linter.unusedVariables false
set_option linter.unusedSimpArgs false
set_option linter.unusedSectionVars false
set_option maxRecDepth 100000
namespace Go.Rx
open Go.Proofs
theorem ScheDeepRun6n0 : (funX tyT ftW 100000 100 5 [.sym (.node [(.and, 31, .val (.ofNat 6))]), .sym (.node [(.and, 3, .val (.ofNat 0))])] ⟨0, .e⟩).isTrue = true := by kernel_rfl
theorem ScheDeepRun6n1 : (funX tyT ftW 100000 100 5 [.sym (.node [(.and, 31, .val (.ofNat 6))]), .sym (.node [(.and, 3, .val (.ofNat 1))])] ⟨0, .e⟩).isTrue = true := by kernel_rfl
theorem ScheDeepRun6n2 : (funX tyT ftW 100000 100 5 [.sym (.node [(.and, 31, .val (.ofNat 6))]), .sym (.node [(.and, 3, .val (.ofNat 2))])] ⟨0, .e⟩).isTrue = true := by kernel_rfl
theorem ScheDeepRun6n3 : (funX tyT ftW 100000 100 5 [.sym (.node [(.and, 31, .val (.ofNat 6))]), .sym (.node [(.and, 3, .val (.ofNat 3))])] ⟨0, .e⟩).isTrue = true := by kernel_rfl
theorem ScheDeepRun14n0 : (funX tyT ftW 100000 100 5 [.sym (.node [(.and, 31, .val (.ofNat 14))]), .sym (.node [(.and, 3, .val (.ofNat 0))])] ⟨0, .e⟩).isTrue = true := by kernel_rfl
theorem ScheDeepRun14n1 : (funX tyT ftW 100000 100 5 [.sym (.node [(.and, 31, .val (.ofNat 14))]), .sym (.node [(.and, 3, .val (.ofNat 1))])] ⟨0, .e⟩).isTrue = true := by kernel_rfl
theorem ScheDeepRun14n2 : (funX tyT ftW 100000 100 5 [.sym (.node [(.and, 31, .val (.ofNat 14))]), .sym (.node [(.and, 3, .val (.ofNat 2))])] ⟨0, .e⟩).isTrue = true := by kernel_rfl
theorem ScheDeepRun14n3 : (funX tyT ftW 100000 100 5 [.sym (.node [(.and, 31, .val (.ofNat 14))]), .sym (.node [(.and, 3, .val (.ofNat 3))])] ⟨0, .e⟩).isTrue = true := by kernel_rfl
theorem ScheDeepRun22n0 : (funX tyT ftW 100000 100 5 [.sym (.node [(.and, 31, .val (.ofNat 22))]), .sym (.node [(.and, 3, .val (.ofNat 0))])] ⟨0, .e⟩).isTrue = true := by kernel_rfl
theorem ScheDeepRun22n1 : (funX tyT ftW 100000 100 5 [.sym (.node [(.and, 31, .val (.ofNat 22))]), .sym (.node [(.and, 3, .val (.ofNat 1))])] ⟨0, .e⟩).isTrue = true := by kernel_rfl
theorem ScheDeepRun22n2 : (funX tyT ftW 100000 100 5 [.sym (.node [(.and, 31, .val (.ofNat 22))]), .sym (.node [(.and, 3, .val (.ofNat 2))])] ⟨0, .e⟩).isTrue = true := by kernel_rfl
theorem ScheDeepRun22n3 : (funX tyT ftW 100000 100 5 [.sym (.node [(.and, 31, .val (.ofNat 22))]), .sym (.node [(.and, 3, .val (.ofNat 3))])] ⟨0, .e⟩).isTrue = true := by kernel_rfl
theorem ScheDeepRun30n0 : (funX tyT ftW 100000 100 5 [.sym (.node [(.and, 31, .val (.ofNat 30))]), .sym (.node [(.and, 3, .val (.ofNat 0))])] ⟨0, .e⟩).isTrue = true := by kernel_rfl
theorem ScheDeepRun30n1 : (funX tyT ftW 100000 100 5 [.sym (.node [(.and, 31, .val (.ofNat 30))]), .sym (.node [(.and, 3, .val (.ofNat 1))])] ⟨0, .e⟩).isTrue = true := by kernel_rfl
theorem ScheDeepRun30n2 : (funX tyT ftW 100000 100 5 [.sym (.node [(.and, 31, .val (.ofNat 30))]), .sym (.node [(.and, 3, .val (.ofNat 2))])] ⟨0, .e⟩).isTrue = true := by kernel_rfl
theorem ScheDeepRun30n3 : (funX tyT ftW 100000 100 5 [.sym (.node [(.and, 31, .val (.ofNat 30))]), .sym (.node [(.and, 3, .val (.ofNat 3))])] ⟨0, .e⟩).isTrue = true := by kernel_rfl
end Go.Rx
