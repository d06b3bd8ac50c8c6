import Derived.Test.YtpdnpfdbjoaemaaGreatDoorQS
set_option linter.unusedSimpArgs false
set_option linter.unusedVariables false
set_option linter.unusedSectionVars false
set_option maxRecDepth 100000
namespace Go.Fbs
open Go.Proofs
def awS : List UInt8:=[117,115,101,114,32,97,10,115,115,100,32,120,32,50,32,114,32,115,10,115,101,115,115,105,111,110,32,115,32,97,10,103,114,97,110,116,32,114,32,100,111,32,105,116]
def awT : List UInt8:=awS ++ [10]
def awL : List Fct:=[⟨1,[97],[],[],0,[],0⟩,⟨6,[120],[],[],2,[[114],[115]],7⟩,⟨8,[115],[97],[],0,[],19⟩,⟨5,[114],[100,111],[105,116],0,[],31⟩]
theorem awP : roleM awS = (awL,0,0):=by kernel_rfl
theorem awP2 : roleM [117,115,101,114,32,97,32,98] = ([],0,9):=by kernel_rfl
theorem awP3 : roleM [114,111,108,101,32,65] = ([],5,15):=by kernel_rfl
theorem awX : textM awL = (awT,true):=by kernel_rfl
theorem awG : okTx awL:=by
 refine ⟨by decide,by decide,fun o ho=>?_⟩
 simp only [awL,List.mem_cons,List.not_mem_nil,or_false] at ho
 rcases ho with rfl | rfl | rfl | rfl <;> exact ⟨by decide,by decide,by decide⟩
def F_true0 : Spec
 | []=>some (.bool true)
 | _=>none
section
attribute [local irreducible] FunWpE FunWp opt
noncomputable abbrev TAw : List (FuncId × Spec):=[(n_role_Parse,F_role_Parse),(n_role_Text,F_role_TextN)]
theorem awake_wp : FunWp tyT (tab TAw) 98 q_entaillaw13_awake [.tmp 0] (cB Tryz.f5) [] (fun v=>v = .bool true):=by
 have c1 : ∀ args,tab TAw n_role_Parse args = F_role_Parse args:=fun _=>rfl
 have c2 : ∀ args,tab TAw n_role_Text args = F_role_TextN args:=fun _=>rfl
 refine Eq.mpr (e_entaillaw13_awake (tab _) _) ?_
 have ex0 : ∀ (a : V) (l : List V),extractV (.tup (a :: l)) 0 = some a:=fun _ _=>rfl
 have ex1 : ∀ (a b : V) (l : List V),extractV (.tup (a :: b :: l)) 1 = some b:=fun _ _ _=>rfl
 have ex2 : ∀ (a b c : V) (l : List V),extractV (.tup (a :: b :: c :: l)) 2 = some c:=fun _ _ _ _=>rfl
 have p1 : F_role_Parse [.str awS] = some (.tup [factsV awL,vI (0 : Nat),vI 0]):=by
  show some (roleV awS) = _
  unfold roleV; rw [awP]
 have p2 : F_role_Parse [.str [117,115,101,114,32,97,32,98]] = some (.tup [factsV [],vI (0 : Nat),vI 9]):=by
  show some (roleV _) = _
  unfold roleV; rw [awP2]
 have p3 : F_role_Parse [.str [114,111,108,101,32,65]] = some (.tup [factsV [],vI (5 : Nat),vI 15]):=by
  show some (roleV _) = _
  unfold roleV; rw [awP3]
 have p4 : F_role_TextN [factsV awL] = some (.tup [.str awT,.bool true]):=by
  rw [Ftext awG]; unfold textV; rw [awX]
 rw [c1,show (V.str [117,115,101,114,32,97,10,115,115,100,32,120,32,50,32,114,32,115,10,115,101,115,115,105,111,110,32,115,32,97,10,103,114,97,110,116,32,114,32,100,111,32,105,116]) = .str awS from rfl,p1,opt_s,ex0,opt_s,ex1,opt_s,ex2,opt_s,c2,p4,opt_s,ex0,opt_s,ex1,opt_s,c1,p2,opt_s,ex0,opt_s,ex1,opt_s,ex2,opt_s,c1,p3,opt_s,ex0,opt_s,ex1,opt_s,ex2,opt_s]
 refine Eq.mpr (?_ : _ = (V.bool true = V.bool true)) rfl
 kernel_rfl
end
theorem ok_entaillaw13_awake : SpecL Tryz.prog n_entaillaw13_awake F_true0:=by
 refine go_entaillaw13_awake (T:=TAw) (TabOk.cons ok_role_Parse (TabOk.cons ok_role_TextN TabOk.nil)) fun args v hv=>?_
 unfold F_true0 at hv
 split at hv <;> simp only [Option.some.injEq,reduceCtorEq] at hv
 subst hv
 exact ⟨rfl,rfl,rfl,awake_wp⟩
end Go.Fbs
