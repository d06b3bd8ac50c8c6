import Derived.Test.YtngdbicnabbplaaHF
set_option linter.unusedSimpArgs false
set_option linter.unusedVariables false
namespace Go.Fbs
open Go.Proofs
def aKk:List (OK×Vars):=[]
theorem b8o (p:PT) (Q:V→Prop) (a0:V):bV aZ p 42 aKk [.tmp 2] (cB Try.f37) [a0] Q=(opt (aJ 6 a0) fun y1=>opt (p pW [(aA y1 0)]) fun y2=>opt (oN y2) fun y3=>opt (aU y2 true (p yM [(aA y1 1)])) fun y4=>opt (cE y2 y4 (.bool false)) fun y5=>opt (oN y5) fun y6=>opt (aU y5 true (p pW [(aA y1 2)])) fun y7=>opt (cE y5 y7 (.bool false)) fun y8=>opt (oN y8) fun y9=>opt (aU y8 true (p pW [(aA y1 3)])) fun y10=>opt (cE y8 y10 (.bool false)) fun y11=>opt (oN y11) fun y12=>opt (aU y11 true (p yM [(aA y1 4)])) fun y13=>opt (cE y11 y13 (.bool false)) fun y14=>opt (oN y14) fun y15=>opt (aF .eql (aA y1 5) (.str [])) fun y16=>opt (aU y14 true (some y16)) fun y17=>opt (oN y17) fun y18=>opt (aU y17 false (p pW [(aA y1 5)])) fun y19=>opt (aU y14 true (cE y17 (.bool true) y19)) fun y20=>opt (cE y14 y20 (.bool false)) fun y21=>Q y21):=by kernel_rfl
theorem b5j {T:List (FuncId×Spec)} (h:aE Try.prog aZ T) {F:Spec} (hF:∀ args v,F args=some v→args.length=1∧aG args=true∧v.aN=true∧bV aZ (aM T) 42 aKk [.tmp 2] (cB Try.f37) args (fun r=>r=v)):cU Try.prog a77 F :=
 gO gK mixed Try.func37 (by kernel_rfl) (by kernel_rfl) Try.ntmps37 (by rw [Try.results37]) 1 rfl aKk h hF
def aDx:List (OK×Vars):=[(.loop 4,[(.s 19,.val (some 0))])]
theorem b07 (p:PT) (Q:V→Prop) (a0:V):bV aZ p 28 aDx [.tmp 2] (cB Try.f56) [a0] Q=(opt (aF .eql a0 (.str [])) fun y1=>opt (lS a0) fun y2=>opt (aF .gtr y2 (.int .i64 30)) fun y3=>opt (cE y1 (.bool true) y3) fun y4=>opt (aU y4 false (l7 a0 (.int .i64 0))) fun y5=>opt (aU y4 false (p nB [y5])) fun y6=>opt (aU y4 false (kL .not y6)) fun y7=>opt (cE y4 (.bool true) y7) fun y8=>aV y8 (Q (.bool false)) (opt (lS a0) fun y9=>lT (fun r0 w10=>w10.length=1∧(opt (aF .lss (gv w10 0) y9) fun y11=>aV y11 (opt (l7 a0 (gv w10 0)) fun y12=>opt (p nC [y12]) fun y13=>opt (kL .not y13) fun y14=>aV y14 (Q (.bool false)) (opt (aF .add (gv w10 0) (.int .i64 1)) fun y15=>r0 [y15])) (Q (.bool true)))) [(.int .i64 0)])):=by kernel_rfl
theorem aX0 {T:List (FuncId×Spec)} (h:aE Try.prog aZ T) {F:Spec} (hF:∀ args v,F args=some v→args.length=1∧aG args=true∧v.aN=true∧bV aZ (aM T) 28 aDx [.tmp 2] (cB Try.f56) args (fun r=>r=v)):cU Try.prog pW F :=
 gO gK mixed Try.func56 (by kernel_rfl) (by kernel_rfl) Try.ntmps56 (by rw [Try.results56]) 1 rfl aDx h hF
def aKl:List (OK×Vars):=[(.loop 2,[(.s 7,.val (some 0))])]
theorem b8p (p:PT) (Q:V→Prop) (a0:V):bV aZ p 36 aKl [.tmp 2] (cB Try.f57) [a0] Q=(opt (lS a0) fun y1=>lT (fun r0 w2=>w2.length=1∧(opt (aF .lss (gv w2 0) y1) fun y3=>aV y3 (opt (l7 a0 (gv w2 0)) fun y4=>opt (p nC [y4]) fun y5=>opt (kL .not y5) fun y6=>opt (aF .neq y4 (.int .u8 47)) fun y7=>opt (cE y6 y7 (.bool false)) fun y8=>opt (aF .neq y4 (.int .u8 124)) fun y9=>opt (cE y8 y9 (.bool false)) fun y10=>opt (aF .neq y4 (.int .u8 42)) fun y11=>opt (cE y10 y11 (.bool false)) fun y12=>aV y12 (Q (.bool false)) (opt (aF .add (gv w2 0) (.int .i64 1)) fun y13=>r0 [y13])) (opt (aF .neq a0 (.str [])) fun y4=>opt (lS a0) fun y5=>opt (aF .leq y5 (.int .i64 250)) fun y6=>opt (cE y4 y6 (.bool false)) fun y7=>Q y7))) [(.int .i64 0)]):=by kernel_rfl
theorem b5k {T:List (FuncId×Spec)} (h:aE Try.prog aZ T) {F:Spec} (hF:∀ args v,F args=some v→args.length=1∧aG args=true∧v.aN=true∧bV aZ (aM T) 36 aKl [.tmp 2] (cB Try.f57) args (fun r=>r=v)):cU Try.prog yM F :=
 gO gK mixed Try.func57 (by kernel_rfl) (by kernel_rfl) Try.ntmps57 (by rw [Try.results57]) 1 rfl aKl h hF
def aBf:List (OK×Vars):=[]
theorem aX1 (p:PT) (Q:V→Prop) (a0:V):bV aZ p 17 aBf [.tmp 2] (cB Try.f72) [a0] Q=(opt (aF .geq a0 (.int .u8 97)) fun y1=>opt (aF .leq a0 (.int .u8 122)) fun y2=>opt (cE y1 y2 (.bool false)) fun y3=>opt (aF .geq a0 (.int .u8 48)) fun y4=>opt (aU y3 false (some y4)) fun y5=>opt (oN y5) fun y6=>opt (aF .leq a0 (.int .u8 57)) fun y7=>opt (aU y3 false (cE y5 y7 (.bool false))) fun y8=>opt (cE y3 (.bool true) y8) fun y9=>Q y9):=by kernel_rfl
theorem aU7 {T:List (FuncId×Spec)} (h:aE Try.prog aZ T) {F:Spec} (hF:∀ args v,F args=some v→args.length=1∧aG args=true∧v.aN=true∧bV aZ (aM T) 17 aBf [.tmp 2] (cB Try.f72) args (fun r=>r=v)):cU Try.prog nB F :=
 gO gK mixed Try.func72 (by kernel_rfl) (by kernel_rfl) Try.ntmps72 (by rw [Try.results72]) 1 rfl aBf h hF
def aBg:List (OK×Vars):=[]
theorem aX2 (p:PT) (Q:V→Prop) (a0:V):bV aZ p 17 aBg [.tmp 2] (cB Try.f73) [a0] Q=(opt (p nB [a0]) fun y1=>opt (oN y1) fun y2=>opt (aF .eql a0 (.int .u8 95)) fun y3=>opt (cE y1 (.bool true) y3) fun y4=>opt (aF .eql a0 (.int .u8 45)) fun y5=>opt (cE y4 (.bool true) y5) fun y6=>opt (aF .eql a0 (.int .u8 46)) fun y7=>opt (cE y6 (.bool true) y7) fun y8=>Q y8):=by kernel_rfl
theorem aU8 {T:List (FuncId×Spec)} (h:aE Try.prog aZ T) {F:Spec} (hF:∀ args v,F args=some v→args.length=1∧aG args=true∧v.aN=true∧bV aZ (aM T) 17 aBg [.tmp 2] (cB Try.f73) args (fun r=>r=v)):cU Try.prog nC F :=
 gO gK mixed Try.func73 (by kernel_rfl) (by kernel_rfl) Try.ntmps73 (by rw [Try.results73]) 1 rfl aBg h hF
end Go.Fbs
