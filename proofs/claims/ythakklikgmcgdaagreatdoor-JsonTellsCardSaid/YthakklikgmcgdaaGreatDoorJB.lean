import Derived.Test.YthakklikgmcgdaaGreatDoorJA
set_option linter.unusedSimpArgs false
set_option linter.unusedVariables false
set_option linter.unusedSectionVars false
namespace Go.Fbs
open Go.Proofs Go.RowKit
theorem aHy (s c:List UInt8):(p8 s c).length≤s.length:=(List.dropWhile_suffix _).length_le
def lE (s:List UInt8) (a:Int) (c:List UInt8):Int:=s.length - (p8 (s.drop a.toNat) c).length
def cE:Spec
 | [.agg [.str s,.int .i64 a,.int .i64 d,.int .i64 e,.int .i64 b]]=>if s.length≤jS∧0≤a∧a≤s.length then some (.tup [vP s (lE s a kJ) d e b]) else none
 | _=>none
theorem yQ:dX Tryz.prog a07 eO cE:=by
 refine a6l (T:=[(iA,gI)]) (aH.cons zM aH.nil) fun words v hv=>?_
 have c1:∀ args,bD [(iA,gI)] iA args=gI args:=fun _=>rfl
 unfold cE at hv
 split at hv <;> simp only [Option.ite_none_right_eq_some,Option.some.injEq,reduceCtorEq] at hv
 rename_i s a d e b
 obtain ⟨⟨hl,ha,has⟩,rfl⟩:=hv
 unfold jS at hl
 obtain ⟨a,rfl⟩:∃ n:Nat,a=n:=⟨a.toNat,by omega⟩
 refine ⟨_,rfl,rfl,rfl,rfl,rfl,rfl,?_⟩
 rw [a7z]
 have hk:a≤s.length:=by omega
 have ht:=aHy (s.drop a) kJ
 simp only [List.length_drop] at ht
 have hF:∀ l,gI [.str l,.str [32,9,13,10]]=some (.str (p8 l kJ)):=fun l=>rfl
 have hw:∀ (x:Int),0≤x→x≤s.length→IntKind.i64.wrap x=x:=fun x h1 h2=>dN (by omega) (by omega)
 simp only [sS,if_true,if_false,reduceCtorEq,a5g hk,c1,hF]
 rw [hw _ (by omega) (by omega)]
 rfl
end Go.Fbs
