import Derived.Test.YtpnflpbamlbpeaaGreatDoorVZJ
set_option linter.unusedSimpArgs false
set_option linter.unusedVariables false
set_option linter.unusedSectionVars false
set_option maxRecDepth 100000
namespace Go.Fbs
open Go.Proofs
theorem ok_entaillaw18_MaskMask : SpecL Tryz.prog n_entaillaw18_MaskMask F_entaillaw18_MaskMask:=law_MaskMask ok_mask_Acl ok_entaillaw18_awake
theorem tab0_none {α : Prop} (_ : α) {h : Heap} : Tab0 h:=fun p hp=>by simp [tabs] at hp
end Go.Fbs
