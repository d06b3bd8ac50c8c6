import Derived.Test.YtnmcilaebamncaaHF
set_option linter.unusedVariables false
set_option linter.unusedSimpArgs false
set_option linter.unusedSectionVars false
namespace Go.Fbs
open Go.Proofs
def vW:List (OK×Vars):=[]
theorem aCl (p:PT) (Q:V→Prop) (a0 a1:V):iL cG p 8 vW [.tmp 4] (cB Try.f81) [a0,a1] Q=(opt (p gL [a0,a1]) fun y2=>Q y2):=by kernel_rfl
theorem a92 {T:List (FuncId×Spec)} (h:aK Try.prog cG T) {F:Spec} (hF:∀ args v,F args=some v→args.length=2∧aN args=true∧v.aV=true∧iL cG (bO T) 8 vW [.tmp 4] (cB Try.f81) args (fun r=>r=v)):iJ Try.prog dT F :=
 mA kJ mixed Try.func81 (by kernel_rfl) (by kernel_rfl) Try.ntmps81 (by rw [Try.results81]) 2 rfl vW h hF
def a0x:List (OK×Vars):=[]
theorem aH0 (p:PT) (Q:V→Prop) (a0 a1:V):iL cG p 8 a0x [.tmp 4] (cB Try.f82) [a0,a1] Q=(opt (p jG [a0,a1]) fun y2=>Q y2):=by kernel_rfl
theorem aGp {T:List (FuncId×Spec)} (h:aK Try.prog cG T) {F:Spec} (hF:∀ args v,F args=some v→args.length=2∧aN args=true∧v.aV=true∧iL cG (bO T) 8 a0x [.tmp 4] (cB Try.f82) args (fun r=>r=v)):iJ Try.prog iU F :=
 mA kJ mixed Try.func82 (by kernel_rfl) (by kernel_rfl) Try.ntmps82 (by rw [Try.results82]) 2 rfl a0x h hF
def wU:List (OK×Vars):=[]
theorem aCv (p:PT) (Q:V→Prop) (a0 a1:V):iL cG p 9 wU [.tmp 4] (cB Try.f83) [a0,a1] Q=(opt (p iU [a0,a1]) fun y2=>opt (aS .geq y2 (.int .i64 0)) fun y3=>Q y3):=by kernel_rfl
theorem aCk {T:List (FuncId×Spec)} (h:aK Try.prog cG T) {F:Spec} (hF:∀ args v,F args=some v→args.length=2∧aN args=true∧v.aV=true∧iL cG (bO T) 9 wU [.tmp 4] (cB Try.f83) args (fun r=>r=v)):iJ Try.prog eP F :=
 mA kJ mixed Try.func83 (by kernel_rfl) (by kernel_rfl) Try.ntmps83 (by rw [Try.results83]) 2 rfl wU h hF
def mB:List (OK×Vars):=[]
theorem zK (p:PT) (Q:V→Prop) (a0 a1:V):iL cG p 18 mB [.tmp 4] (cB Try.f98) [a0,a1] Q=(opt (pE a0) fun y2=>opt (pE a1) fun y3=>opt (aS .geq y2 y3) fun y4=>opt (pE a1) fun y5=>opt (fD y4 true (lF a0 none (some y5))) fun y6=>opt (fD y4 true (aS .eql y6 a1)) fun y7=>opt (kV y4 y7 (.bool false)) fun y8=>Q y8):=by kernel_rfl
theorem yJ {T:List (FuncId×Spec)} (h:aK Try.prog cG T) {F:Spec} (hF:∀ args v,F args=some v→args.length=2∧aN args=true∧v.aV=true∧iL cG (bO T) 18 mB [.tmp 4] (cB Try.f98) args (fun r=>r=v)):iJ Try.prog gL F :=
 mA kJ mixed Try.func98 (by kernel_rfl) (by kernel_rfl) Try.ntmps98 (by rw [Try.results98]) 2 rfl mB h hF
end Go.Fbs
