import Derived.Test.YtpnflpbamlbpeaaGreatDoorVZI
set_option linter.unusedSimpArgs false
set_option linter.unusedVariables false
set_option linter.unusedSectionVars false
set_option maxRecDepth 100000
namespace Go.Fbs
open Go.Proofs Go.RowKit Go.Shelf Go.Sort Go.Maps
theorem awake_run : FunRun tyT (tab awT) 84 q_entaillaw18_awake [.tmp 0] (cB Tryz.f9) 100000 0 [] = some (.bool true):=by kernel_rfl
attribute [local irreducible] FunWp FunRun tab
theorem awake_wp : FunWp tyT (tab awT) 84 q_entaillaw18_awake [.tmp 0] (cB Tryz.f9) [] (fun r=>r = .bool true):=fun_run (tt:=tyT) (p:=tab awT) (N:=84) (orc:=q_entaillaw18_awake) (rs:=[.tmp 0]) (c:=cB Tryz.f9) (fu:=100000) (na:=0) (args:=[]) (v:=.bool true) awake_run
theorem ok_entaillaw18_awake : SpecL Tryz.prog n_entaillaw18_awake F_entaillaw18_awake:=by
 refine go_entaillaw18_awake (T:=awT) awT_ok fun args v hv=>?_
 unfold F_entaillaw18_awake at hv
 split at hv <;> simp only [Option.some.injEq,reduceCtorEq] at hv
 subst hv
 exact ⟨rfl,rfl,rfl,awake_wp⟩
end Go.Fbs
