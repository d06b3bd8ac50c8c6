import Derived.Test.YthakklikgmcgdaaGreatDoorXK
import Derived.Test.YthakklikgmcgdaaGreatDoorHJL
set_option linter.unusedSimpArgs false
set_option linter.unusedVariables false
set_option linter.unusedSectionVars false
set_option maxRecDepth 100000
namespace Go.Fbs
open Go.Proofs Go.RowKit
def awA:List UInt8:=[32,123,32,34,97,34,32,58,32,91,32,49,46,53,101,51,32,44,32,110,117,108,108,32,44,32,116,114,117,101,32,93,32,44,32,34,98,92,110,34,32,58,32,34,92,117,48,48,52,49,34,32,125,32]
def awB:List UInt8:=[123,34,97,34,58,91,49,46,53,101,51,44,110,117,108,108,44,116,114,117,101,93,44,34,98,92,117,48,48,48,97,34,58,34,65,34,125]
def awV:V:=jn 7 [] ([[97],[98,10]].map V.str) [jn 6 [] [] [jn 4 [49,46,53,101,51] [] [],jn 1 [] [] [],jn 3 [] [] []],jn 5 [65] [] []]
theorem b35:jL bH 25 [.str awA]=some (.tup [awV,.int .i64 0,.int .i64 0]):=by kernel_rfl
theorem b36:jL bH 25 [.str awB]=some (.tup [awV,.int .i64 0,.int .i64 0]):=by kernel_rfl
theorem b37:jL bH 25 [.str [91,48,49,93]]=some (.tup [jn 0 [] [] [],.int .i64 2,.int .i64 9]):=by kernel_rfl
theorem b38:jL bH 25 [.str [123,34,97,34,58,49,44,34,97,34,58,50,125]]=some (.tup [jn 0 [] [] [],.int .i64 7,.int .i64 11]):=by kernel_rfl
theorem awT:mY 21 [] awV=some awB:=by kernel_rfl
theorem aA8 (k:Int) (t:List UInt8) (n:Nat):Deep (n+1) (jn k t [] []):=⟨k,t,[],[],rfl,by decide,by decide,fun e h=>by cases h⟩
theorem awD:Deep 25 awV:=by
 refine ⟨7,[],[[97],[98,10]],_,rfl,by decide,by decide,fun e he=>?_⟩
 simp only [List.mem_cons,List.not_mem_nil,or_false] at he
 rcases he with rfl | rfl
 ·refine ⟨6,[],[],_,rfl,by decide,by decide,fun e he=>?_⟩
  simp only [List.mem_cons,List.not_mem_nil,or_false] at he
  rcases he with rfl | rfl | rfl <;> exact aA8 _ _ _
 ·exact aA8 _ _ _
theorem awX:pN 25 25 [awV]=some (.tup [.str awB,.bool true]):=aTm awT b36 awD
theorem awG:yX [awV,.str [98,10]]=some (.tup [jn 5 [65] [] [],.bool true]):=by kernel_rfl
noncomputable abbrev aQ0:List (FuncId×Spec):=[(iW,jL bH 25),(a0y,pN 25 25),(yH,yX)]
noncomputable def aGz:Spec
 | []=>some (.bool true)
 | _=>none
attribute [local irreducible] bK aX in
theorem aWp:cZ Tryz.prog jJ aGz:=by
 refine a8c (T:=aQ0) (aH.cons (aA4 25) (aH.cons (aLt 25 25) (aH.cons aNg aH.nil))) fun args v hv=>?_
 unfold aGz at hv
 split at hv
 case h_2=>cases hv
 cases hv
 refine ⟨rfl,rfl,rfl,?_⟩
 have c1:∀ args,bD aQ0 iW args=jL bH 25 args:=fun _=>rfl
 have c2:∀ args,bD aQ0 a0y args=pN 25 25 args:=fun _=>rfl
 have c3:∀ args,bD aQ0 yH args=yX args:=fun _=>rfl
 refine Eq.mpr (a9h _ _) ?_
 have hA:[32,123,32,34,97,34,32,58,32,91,32,49,46,53,101,51,32,44,32,110,117,108,108,32,44,32,116,114,117,101,32,93,32,44,32,34,98,92,110,34,32,58,32,34,92,117,48,48,52,49,34,32,125,32]=awA:=rfl
 have hB:[123,34,97,34,58,91,49,46,53,101,51,44,110,117,108,108,44,116,114,117,101,93,44,34,98,92,117,48,48,48,97,34,58,34,65,34,125]=awB:=rfl
 have hck:aP 4 awV=some awV:=rfl
 have hk0:aA awV 0 = .int .i64 7:=rfl
 have t0:∀ x y z:V,extractV (.tup [x,y,z]) 0=some x:=fun _ _ _=>rfl
 have t1:∀ x y z:V,extractV (.tup [x,y,z]) 1=some y:=fun _ _ _=>rfl
 have t2:∀ x y z:V,extractV (.tup [x,y,z]) 2=some z:=fun _ _ _=>rfl
 rw [hA,hB,c1,b35,aB,t0,aB,t1,aB,t2,aB,hck,aB,c2,awX,aB,nN,aB,nO,aB,c3,awG,aB,nN,aB,nO,aB,ckJ,aB,c1,b37,aB,t0,aB,t1,aB,t2,aB,ckJ,aB,c1,b38,aB,t0,aB,t1,aB,t2,aB,ckJ,aB,hk0,zO]
 simp only [sS,if_true,if_false,reduceCtorEq]
 simp
end Go.Fbs
