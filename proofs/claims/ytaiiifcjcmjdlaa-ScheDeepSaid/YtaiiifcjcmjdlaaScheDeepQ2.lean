/- Closed runs of ScheDeep: some depths. -/
import Derived.Test.YtaiiifcjcmjdlaaScheT
set_option linter.unusedVariables false
set_option linter.unusedSimpArgs false
set_option linter.unusedSectionVars false
set_option maxRecDepth 100000
namespace Go.Rx
open Go.Proofs
theorem ScheDeepRun2n0 : (funX tyT ftW 100000 100 5 [.sym (.node [(.and, 31, .val (.ofNat 2))]), .sym (.node [(.and, 3, .val (.ofNat 0))])] ⟨0, .e⟩).isTrue = true := by kernel_rfl
theorem ScheDeepRun2n1 : (funX tyT ftW 100000 100 5 [.sym (.node [(.and, 31, .val (.ofNat 2))]), .sym (.node [(.and, 3, .val (.ofNat 1))])] ⟨0, .e⟩).isTrue = true := by kernel_rfl
theorem ScheDeepRun2n2 : (funX tyT ftW 100000 100 5 [.sym (.node [(.and, 31, .val (.ofNat 2))]), .sym (.node [(.and, 3, .val (.ofNat 2))])] ⟨0, .e⟩).isTrue = true := by kernel_rfl
theorem ScheDeepRun2n3 : (funX tyT ftW 100000 100 5 [.sym (.node [(.and, 31, .val (.ofNat 2))]), .sym (.node [(.and, 3, .val (.ofNat 3))])] ⟨0, .e⟩).isTrue = true := by kernel_rfl
theorem ScheDeepRun10n0 : (funX tyT ftW 100000 100 5 [.sym (.node [(.and, 31, .val (.ofNat 10))]), .sym (.node [(.and, 3, .val (.ofNat 0))])] ⟨0, .e⟩).isTrue = true := by kernel_rfl
theorem ScheDeepRun10n1 : (funX tyT ftW 100000 100 5 [.sym (.node [(.and, 31, .val (.ofNat 10))]), .sym (.node [(.and, 3, .val (.ofNat 1))])] ⟨0, .e⟩).isTrue = true := by kernel_rfl
theorem ScheDeepRun10n2 : (funX tyT ftW 100000 100 5 [.sym (.node [(.and, 31, .val (.ofNat 10))]), .sym (.node [(.and, 3, .val (.ofNat 2))])] ⟨0, .e⟩).isTrue = true := by kernel_rfl
theorem ScheDeepRun10n3 : (funX tyT ftW 100000 100 5 [.sym (.node [(.and, 31, .val (.ofNat 10))]), .sym (.node [(.and, 3, .val (.ofNat 3))])] ⟨0, .e⟩).isTrue = true := by kernel_rfl
theorem ScheDeepRun18n0 : (funX tyT ftW 100000 100 5 [.sym (.node [(.and, 31, .val (.ofNat 18))]), .sym (.node [(.and, 3, .val (.ofNat 0))])] ⟨0, .e⟩).isTrue = true := by kernel_rfl
theorem ScheDeepRun18n1 : (funX tyT ftW 100000 100 5 [.sym (.node [(.and, 31, .val (.ofNat 18))]), .sym (.node [(.and, 3, .val (.ofNat 1))])] ⟨0, .e⟩).isTrue = true := by kernel_rfl
theorem ScheDeepRun18n2 : (funX tyT ftW 100000 100 5 [.sym (.node [(.and, 31, .val (.ofNat 18))]), .sym (.node [(.and, 3, .val (.ofNat 2))])] ⟨0, .e⟩).isTrue = true := by kernel_rfl
theorem ScheDeepRun18n3 : (funX tyT ftW 100000 100 5 [.sym (.node [(.and, 31, .val (.ofNat 18))]), .sym (.node [(.and, 3, .val (.ofNat 3))])] ⟨0, .e⟩).isTrue = true := by kernel_rfl
theorem ScheDeepRun26n0 : (funX tyT ftW 100000 100 5 [.sym (.node [(.and, 31, .val (.ofNat 26))]), .sym (.node [(.and, 3, .val (.ofNat 0))])] ⟨0, .e⟩).isTrue = true := by kernel_rfl
theorem ScheDeepRun26n1 : (funX tyT ftW 100000 100 5 [.sym (.node [(.and, 31, .val (.ofNat 26))]), .sym (.node [(.and, 3, .val (.ofNat 1))])] ⟨0, .e⟩).isTrue = true := by kernel_rfl
theorem ScheDeepRun26n2 : (funX tyT ftW 100000 100 5 [.sym (.node [(.and, 31, .val (.ofNat 26))]), .sym (.node [(.and, 3, .val (.ofNat 2))])] ⟨0, .e⟩).isTrue = true := by kernel_rfl
theorem ScheDeepRun26n3 : (funX tyT ftW 100000 100 5 [.sym (.node [(.and, 31, .val (.ofNat 26))]), .sym (.node [(.and, 3, .val (.ofNat 3))])] ⟨0, .e⟩).isTrue = true := by kernel_rfl
end Go.Rx
