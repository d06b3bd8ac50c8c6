import Derived.Test.YtngdbicnabbplaaHF
set_option linter.unusedSimpArgs false
set_option linter.unusedVariables false
set_option linter.unusedSectionVars false
namespace Go.Fbs
open Go.Proofs
def aHn:List (OK×Vars):=[]
theorem b6k (p:PT) (Q:V→Prop) (a0:V):cC cM p 42 aHn [.tmp 2] (cB Try.f37) [a0] Q=(opt (bF 6 a0) fun y1=>opt (p nL [(aA y1 0)]) fun y2=>opt (qG y2) fun y3=>opt (aQ y2 true (p uU [(aA y1 1)])) fun y4=>opt (cH y2 y4 (.bool false)) fun y5=>opt (qG y5) fun y6=>opt (aQ y5 true (p nL [(aA y1 2)])) fun y7=>opt (cH y5 y7 (.bool false)) fun y8=>opt (qG y8) fun y9=>opt (aQ y8 true (p nL [(aA y1 3)])) fun y10=>opt (cH y8 y10 (.bool false)) fun y11=>opt (qG y11) fun y12=>opt (aQ y11 true (p uU [(aA y1 4)])) fun y13=>opt (cH y11 y13 (.bool false)) fun y14=>opt (qG y14) fun y15=>opt (aD .eql (aA y1 5) (.str [])) fun y16=>opt (aQ y14 true (some y16)) fun y17=>opt (qG y17) fun y18=>opt (aQ y17 false (p nL [(aA y1 5)])) fun y19=>opt (aQ y14 true (cH y17 (.bool true) y19)) fun y20=>opt (cH y14 y20 (.bool false)) fun y21=>Q y21):=by kernel_rfl
theorem b2u {T:List (FuncId×Spec)} (h:aM Try.prog cM T) {F:Spec} (hF:∀ args v,F args=some v→args.length=1∧aL args=true∧v.bU=true∧cC cM (bT T) 42 aHn [.tmp 2] (cB Try.f37) args (fun r=>r=v)):fS Try.prog a48 F :=
 jW mN mixed Try.func37 (by kernel_rfl) (by kernel_rfl) Try.ntmps37 (by rw [Try.results37]) 1 rfl aHn h hF
def aAq:List (OK×Vars):=[(.loop 4,[(.s 19,.val (some 0))])]
theorem aXl (p:PT) (Q:V→Prop) (a0:V):cC cM p 28 aAq [.tmp 2] (cB Try.f56) [a0] Q=(opt (aD .eql a0 (.str [])) fun y1=>opt (nQ a0) fun y2=>opt (aD .gtr y2 (.int .i64 30)) fun y3=>opt (cH y1 (.bool true) y3) fun y4=>opt (aQ y4 false (kA a0 (.int .i64 0))) fun y5=>opt (aQ y4 false (p l9 [y5])) fun y6=>opt (aQ y4 false (unV .not y6)) fun y7=>opt (cH y4 (.bool true) y7) fun y8=>bP y8 (Q (.bool false)) (opt (nQ a0) fun y9=>qH (fun r0 w10=>w10.length=1∧(opt (aD .lss (gv w10 0) y9) fun y11=>bP y11 (opt (kA a0 (gv w10 0)) fun y12=>opt (p lC [y12]) fun y13=>opt (unV .not y13) fun y14=>bP y14 (Q (.bool false)) (opt (aD .add (gv w10 0) (.int .i64 1)) fun y15=>r0 [y15])) (Q (.bool true)))) [(.int .i64 0)])):=by kernel_rfl
theorem aV6 {T:List (FuncId×Spec)} (h:aM Try.prog cM T) {F:Spec} (hF:∀ args v,F args=some v→args.length=1∧aL args=true∧v.bU=true∧cC cM (bT T) 28 aAq [.tmp 2] (cB Try.f56) args (fun r=>r=v)):fS Try.prog nL F :=
 jW mN mixed Try.func56 (by kernel_rfl) (by kernel_rfl) Try.ntmps56 (by rw [Try.results56]) 1 rfl aAq h hF
def aHo:List (OK×Vars):=[(.loop 2,[(.s 7,.val (some 0))])]
theorem b6l (p:PT) (Q:V→Prop) (a0:V):cC cM p 36 aHo [.tmp 2] (cB Try.f57) [a0] Q=(opt (nQ a0) fun y1=>qH (fun r0 w2=>w2.length=1∧(opt (aD .lss (gv w2 0) y1) fun y3=>bP y3 (opt (kA a0 (gv w2 0)) fun y4=>opt (p lC [y4]) fun y5=>opt (unV .not y5) fun y6=>opt (aD .neq y4 (.int .u8 47)) fun y7=>opt (cH y6 y7 (.bool false)) fun y8=>opt (aD .neq y4 (.int .u8 124)) fun y9=>opt (cH y8 y9 (.bool false)) fun y10=>opt (aD .neq y4 (.int .u8 42)) fun y11=>opt (cH y10 y11 (.bool false)) fun y12=>bP y12 (Q (.bool false)) (opt (aD .add (gv w2 0) (.int .i64 1)) fun y13=>r0 [y13])) (opt (aD .neq a0 (.str [])) fun y4=>opt (nQ a0) fun y5=>opt (aD .leq y5 (.int .i64 250)) fun y6=>opt (cH y4 y6 (.bool false)) fun y7=>Q y7))) [(.int .i64 0)]):=by kernel_rfl
theorem b2v {T:List (FuncId×Spec)} (h:aM Try.prog cM T) {F:Spec} (hF:∀ args v,F args=some v→args.length=1∧aL args=true∧v.bU=true∧cC cM (bT T) 36 aHo [.tmp 2] (cB Try.f57) args (fun r=>r=v)):fS Try.prog uU F :=
 jW mN mixed Try.func57 (by kernel_rfl) (by kernel_rfl) Try.ntmps57 (by rw [Try.results57]) 1 rfl aHo h hF
def a8j:List (OK×Vars):=[]
theorem aV7 (p:PT) (Q:V→Prop) (a0:V):cC cM p 17 a8j [.tmp 2] (cB Try.f72) [a0] Q=(opt (aD .geq a0 (.int .u8 97)) fun y1=>opt (aD .leq a0 (.int .u8 122)) fun y2=>opt (cH y1 y2 (.bool false)) fun y3=>opt (aD .geq a0 (.int .u8 48)) fun y4=>opt (aQ y3 false (some y4)) fun y5=>opt (qG y5) fun y6=>opt (aD .leq a0 (.int .u8 57)) fun y7=>opt (aQ y3 false (cH y5 y7 (.bool false))) fun y8=>opt (cH y3 (.bool true) y8) fun y9=>Q y9):=by kernel_rfl
theorem aRs {T:List (FuncId×Spec)} (h:aM Try.prog cM T) {F:Spec} (hF:∀ args v,F args=some v→args.length=1∧aL args=true∧v.bU=true∧cC cM (bT T) 17 a8j [.tmp 2] (cB Try.f72) args (fun r=>r=v)):fS Try.prog l9 F :=
 jW mN mixed Try.func72 (by kernel_rfl) (by kernel_rfl) Try.ntmps72 (by rw [Try.results72]) 1 rfl a8j h hF
def a8k:List (OK×Vars):=[]
theorem aV8 (p:PT) (Q:V→Prop) (a0:V):cC cM p 17 a8k [.tmp 2] (cB Try.f73) [a0] Q=(opt (p l9 [a0]) fun y1=>opt (qG y1) fun y2=>opt (aD .eql a0 (.int .u8 95)) fun y3=>opt (cH y1 (.bool true) y3) fun y4=>opt (aD .eql a0 (.int .u8 45)) fun y5=>opt (cH y4 (.bool true) y5) fun y6=>opt (aD .eql a0 (.int .u8 46)) fun y7=>opt (cH y6 (.bool true) y7) fun y8=>Q y8):=by kernel_rfl
theorem aRt {T:List (FuncId×Spec)} (h:aM Try.prog cM T) {F:Spec} (hF:∀ args v,F args=some v→args.length=1∧aL args=true∧v.bU=true∧cC cM (bT T) 17 a8k [.tmp 2] (cB Try.f73) args (fun r=>r=v)):fS Try.prog lC F :=
 jW mN mixed Try.func73 (by kernel_rfl) (by kernel_rfl) Try.ntmps73 (by rw [Try.results73]) 1 rfl a8k h hF
end Go.Fbs
