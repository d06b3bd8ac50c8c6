import Derived.Test.YthakklikgmcgdaaGreatDoorXK
import Derived.Test.YthakklikgmcgdaaGreatDoorHJL
set_option linter.unusedSimpArgs false
set_option linter.unusedVariables false
set_option linter.unusedSectionVars false
set_option maxRecDepth 100000
namespace Go.Fbs
open Go.Proofs Go.RowKit
def awA : List UInt8:=[32,123,32,34,97,34,32,58,32,91,32,49,46,53,101,51,32,44,32,110,117,108,108,32,44,32,116,114,117,101,32,93,32,44,32,34,98,92,110,34,32,58,32,34,92,117,48,48,52,49,34,32,125,32]
def awB : List UInt8:=[123,34,97,34,58,91,49,46,53,101,51,44,110,117,108,108,44,116,114,117,101,93,44,34,98,92,117,48,48,48,97,34,58,34,65,34,125]
def awV : V:=jn 7 [] ([[97],[98,10]].map V.str) [jn 6 [] [] [jn 4 [49,46,53,101,51] [] [],jn 1 [] [] [],jn 3 [] [] []],jn 5 [65] [] []]
theorem awP1 : F_Parse objM 25 [.str awA] = some (.tup [awV,.int .i64 0,.int .i64 0]):=by kernel_rfl
theorem awP2 : F_Parse objM 25 [.str awB] = some (.tup [awV,.int .i64 0,.int .i64 0]):=by kernel_rfl
theorem awP3 : F_Parse objM 25 [.str [91,48,49,93]] = some (.tup [jn 0 [] [] [],.int .i64 2,.int .i64 9]):=by kernel_rfl
theorem awP4 : F_Parse objM 25 [.str [123,34,97,34,58,49,44,34,97,34,58,50,125]] = some (.tup [jn 0 [] [] [],.int .i64 7,.int .i64 11]):=by kernel_rfl
theorem awT : toldM 21 [] awV = some awB:=by kernel_rfl
theorem deep_leaf (k : Int) (t : List UInt8) (n : Nat) : Deep (n + 1) (jn k t [] []):=⟨k,t,[],[],rfl,by decide,by decide,fun e h=>by cases h⟩
theorem awD : Deep 25 awV:=by
 refine ⟨7,[],[[97],[98,10]],_,rfl,by decide,by decide,fun e he=>?_⟩
 simp only [List.mem_cons,List.not_mem_nil,or_false] at he
 rcases he with rfl | rfl
 ·refine ⟨6,[],[],_,rfl,by decide,by decide,fun e he=>?_⟩
  simp only [List.mem_cons,List.not_mem_nil,or_false] at he
  rcases he with rfl | rfl | rfl <;> exact deep_leaf _ _ _
 ·exact deep_leaf _ _ _
theorem awX : F_json_Text 25 25 [awV] = some (.tup [.str awB,.bool true]):=F_Text_at awT awP2 awD
theorem awG : F_json_Get [awV,.str [98,10]] = some (.tup [jn 5 [65] [] [],.bool true]):=by kernel_rfl
noncomputable abbrev TLaw : List (FuncId × Spec):=[(n_json_Parse,F_Parse objM 25),(n_json_Text,F_json_Text 25 25),(n_json_Get,F_json_Get)]
noncomputable def F_awake : Spec
 | []=>some (.bool true)
 | _=>none
attribute [local irreducible] FunWp FunWpE in
theorem ok_awake : SpecL Tryz.prog n_entaillaw22_awake F_awake:=by
 refine go_entaillaw22_awake (T:=TLaw) (TabOk.cons (ok_Parse2 25) (TabOk.cons (ok_json_Text 25 25) (TabOk.cons ok_json_Get TabOk.nil))) fun args v hv=>?_
 unfold F_awake at hv
 split at hv
 case h_2=>cases hv
 cases hv
 refine ⟨rfl,rfl,rfl,?_⟩
 have c1 : ∀ args,tab TLaw n_json_Parse args = F_Parse objM 25 args:=fun _=>rfl
 have c2 : ∀ args,tab TLaw n_json_Text args = F_json_Text 25 25 args:=fun _=>rfl
 have c3 : ∀ args,tab TLaw n_json_Get args = F_json_Get args:=fun _=>rfl
 refine Eq.mpr (e_entaillaw22_awake _ _) ?_
 have hA : [32,123,32,34,97,34,32,58,32,91,32,49,46,53,101,51,32,44,32,110,117,108,108,32,44,32,116,114,117,101,32,93,32,44,32,34,98,92,110,34,32,58,32,34,92,117,48,48,52,49,34,32,125,32] = awA:=rfl
 have hB : [123,34,97,34,58,91,49,46,53,101,51,44,110,117,108,108,44,116,114,117,101,93,44,34,98,92,117,48,48,48,97,34,58,34,65,34,125] = awB:=rfl
 have hck : chkK 4 awV = some awV:=rfl
 have hk0 : cellD awV 0 = .int .i64 7:=rfl
 have t0 : ∀ x y z : V,extractV (.tup [x,y,z]) 0 = some x:=fun _ _ _=>rfl
 have t1 : ∀ x y z : V,extractV (.tup [x,y,z]) 1 = some y:=fun _ _ _=>rfl
 have t2 : ∀ x y z : V,extractV (.tup [x,y,z]) 2 = some z:=fun _ _ _=>rfl
 rw [hA,hB,c1,awP1,opt_s,t0,opt_s,t1,opt_s,t2,opt_s,hck,opt_s,c2,awX,opt_s,ex0,opt_s,ex1,opt_s,c3,awG,opt_s,ex0,opt_s,ex1,opt_s,ckJ,opt_s,c1,awP3,opt_s,t0,opt_s,t1,opt_s,t2,opt_s,ckJ,opt_s,c1,awP4,opt_s,t0,opt_s,t1,opt_s,t2,opt_s,ckJ,opt_s,hk0,cJ1]
 simp only [sS,if_true,if_false,reduceCtorEq]
 simp
end Go.Fbs
