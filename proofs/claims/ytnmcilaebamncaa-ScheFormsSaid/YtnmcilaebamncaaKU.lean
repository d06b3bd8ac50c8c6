/- What can be no schema, behind any schema made of numbers. -/
import Derived.Test.YtnmcilaebamncaaKT
set_option linter.unusedVariables false
set_option linter.unusedSimpArgs false
set_option linter.unusedSectionVars false
set_option maxRecDepth 100000
namespace Go.Fbs
open Go.Proofs
def aVe:List (List UInt8×Nat×Int):=[([97],0,9),([116,121,112,101],4,9),([116,121,112,101,32,116,121,112,101],5,9),([116,121,112,101,32,95,97],5,9),([116,121,112,101,32,97,32,123],8,9),([116,121,112,101,32,97,32,125],7,9),([116,121,112,101,32,97,32,123,32,114,58,32,59,32,125],12,9),([116,121,112,101,32,97,32,123,32,114,58,32,117,32,125],14,9),([116,121,112,101,32,97,32,123,32,114,58,32,117,32,124,32,59,32,125],16,9),([116,121,112,101,32,97,32,123,32,114,58,32,117,35,59,32,125],14,9),([116,121,112,101,32,97,32,123,32,114,32,61,32,59,32,125],13,9),([116,121,112,101,32,97,32,123,32,114,32,61,32,115,32,43,32,59,32,125],17,9),([116,121,112,101,32,97,32,123,32,114,32,61,32,115,32,115,59,32,125],15,9),([116,121,112,101,32,97,32,123,32,114,32,61,32,40,115,59,32,125],15,9),([116,121,112,101,32,97,32,123,32,114,32,61,32,115,41,59,32,125],14,9),([116,121,112,101,32,97,32,123,32,114,32,61,32,115,45,62,59,32,125],16,9),([116,121,112,101,32,97,32,123,32,114,32,61,32,115,45,62,40,116,41,59,32,125],16,9),([116,121,112,101,32,97,32,123,32,58,32,117,59,32,125],9,9),([116,121,112,101,32,97,32,123,32,116,121,112,101,58,32,117,59,32,125],9,9),([116,121,112,101,32,97,32,123,32,114,58,32,117,59,32,125,32,120],17,9)]
def aOe:List UInt8×Nat×Int:=([116,121,112,101,32,97,32,126],7,7)
def sV:List (List UInt8×Nat×Int):=aVe++[aOe]
def nU (r:List UInt8×Nat×Int):Prop:=∀ (M:Nat) (X:List yM) (a b c:sR) (w:∀ t ∈ (kA M r.1).1,a4k t),(kA M r.1).2=none∧aU6 (kG ((kA M r.1).1.length+1) ⟨(kA M r.1).1,w,M+r.1.length,0,0,0,X⟩ [a,b,c])=([],M+r.2.1,r.2.2)
theorem bEm:nU ([97],0,9):=fun M X a b c w=>⟨by kernel_rfl,by kernel_rfl⟩
theorem bEn:nU ([116,121,112,101],4,9):=fun M X a b c w=>⟨by kernel_rfl,by kernel_rfl⟩
theorem bEo:nU ([116,121,112,101,32,116,121,112,101],5,9):=fun M X a b c w=>⟨by kernel_rfl,by kernel_rfl⟩
theorem bEp:nU ([116,121,112,101,32,95,97],5,9):=fun M X a b c w=>⟨by kernel_rfl,by kernel_rfl⟩
theorem bEq:nU ([116,121,112,101,32,97,32,123],8,9):=fun M X a b c w=>⟨by kernel_rfl,by kernel_rfl⟩
theorem bEr:nU ([116,121,112,101,32,97,32,125],7,9):=fun M X a b c w=>⟨by kernel_rfl,by kernel_rfl⟩
theorem bEs:nU ([116,121,112,101,32,97,32,123,32,114,58,32,59,32,125],12,9):=fun M X a b c w=>⟨by kernel_rfl,by kernel_rfl⟩
theorem bEt:nU ([116,121,112,101,32,97,32,123,32,114,58,32,117,32,125],14,9):=fun M X a b c w=>⟨by kernel_rfl,by kernel_rfl⟩
theorem bEu:nU ([116,121,112,101,32,97,32,123,32,114,58,32,117,32,124,32,59,32,125],16,9):=fun M X a b c w=>⟨by kernel_rfl,by kernel_rfl⟩
theorem bEv:nU ([116,121,112,101,32,97,32,123,32,114,58,32,117,35,59,32,125],14,9):=fun M X a b c w=>⟨by kernel_rfl,by kernel_rfl⟩
theorem bC4:nU ([116,121,112,101,32,97,32,123,32,114,32,61,32,59,32,125],13,9):=fun M X a b c w=>⟨by kernel_rfl,by kernel_rfl⟩
theorem bC5:nU ([116,121,112,101,32,97,32,123,32,114,32,61,32,115,32,43,32,59,32,125],17,9):=fun M X a b c w=>⟨by kernel_rfl,by kernel_rfl⟩
theorem bC6:nU ([116,121,112,101,32,97,32,123,32,114,32,61,32,115,32,115,59,32,125],15,9):=fun M X a b c w=>⟨by kernel_rfl,by kernel_rfl⟩
theorem bC7:nU ([116,121,112,101,32,97,32,123,32,114,32,61,32,40,115,59,32,125],15,9):=fun M X a b c w=>⟨by kernel_rfl,by kernel_rfl⟩
theorem bC8:nU ([116,121,112,101,32,97,32,123,32,114,32,61,32,115,41,59,32,125],14,9):=fun M X a b c w=>⟨by kernel_rfl,by kernel_rfl⟩
theorem bC9:nU ([116,121,112,101,32,97,32,123,32,114,32,61,32,115,45,62,59,32,125],16,9):=fun M X a b c w=>⟨by kernel_rfl,by kernel_rfl⟩
theorem bDa:nU ([116,121,112,101,32,97,32,123,32,114,32,61,32,115,45,62,40,116,41,59,32,125],16,9):=fun M X a b c w=>⟨by kernel_rfl,by kernel_rfl⟩
theorem bDb:nU ([116,121,112,101,32,97,32,123,32,58,32,117,59,32,125],9,9):=fun M X a b c w=>⟨by kernel_rfl,by kernel_rfl⟩
theorem bDc:nU ([116,121,112,101,32,97,32,123,32,116,121,112,101,58,32,117,59,32,125],9,9):=fun M X a b c w=>⟨by kernel_rfl,by kernel_rfl⟩
theorem bDd:nU ([116,121,112,101,32,97,32,123,32,114,58,32,117,59,32,125,32,120],17,9):=fun M X a b c w=>⟨by kernel_rfl,by kernel_rfl⟩
theorem b5k:∀ r ∈ aVe,nU r:=by
 intro r h
 simp only [aVe,List.mem_cons,List.not_mem_nil,or_false] at h
 rcases h with rfl | rfl | rfl | rfl | rfl | rfl | rfl | rfl | rfl | rfl | rfl | rfl | rfl | rfl | rfl | rfl | rfl | rfl | rfl | rfl
 ·exact bEm
 ·exact bEn
 ·exact bEo
 ·exact bEp
 ·exact bEq
 ·exact bEr
 ·exact bEs
 ·exact bEt
 ·exact bEu
 ·exact bEv
 ·exact bC4
 ·exact bC5
 ·exact bC6
 ·exact bC7
 ·exact bC8
 ·exact bC9
 ·exact bDa
 ·exact bDb
 ·exact bDc
 ·exact bDd
theorem bEw (M:Nat):(kA M aOe.1).2=some (M+7):=by kernel_rfl
end Go.Fbs
