import Derived.Test.YthakklikgmcgdaaGreatDoorHJT
import Derived.Test.YthakklikgmcgdaaGreatDoorS2
import Derived.Below
import Derived.Shelf.Strings.SlTrimAscii
import Derived.Test.YthakklikgmcgdaaGreatDoorPS
import Derived.Test.YthakklikgmcgdaaGreatDoorS3
set_option linter.unusedSimpArgs false
set_option linter.unusedVariables false
set_option linter.unusedSectionVars false
namespace Go.Fbs
open Go.Proofs Go.RowKit
def kJ:List UInt8:=[32,9,13,10]
def eY:List UInt8:=[48,49,50,51,52,53,54,55,56,57]
def p8 (s c:List UInt8):List UInt8:=s.dropWhile (c.contains ·)
def gI:Spec
 | [.str s,.str c]=>if c=kJ∨c=eY then some (.str (p8 s c)) else none
 | _=>none
theorem zM:cZ Tryz.prog iA gI:=by
 refine ⟨⟨_,_,Tryz.func29,rfl,by kernel_rfl⟩,fun args v hv=>?_⟩
 unfold gI at hv
 split at hv <;> simp only [Option.ite_none_right_eq_some,Option.some.injEq,reduceCtorEq] at hv
 rename_i s c
 obtain ⟨hc,rfl⟩:=hv
 have hlen:(ByteArray.mk ⟨c⟩).size < 4294967281:=by rcases hc with rfl | rfl <;> decide
 have hasc : ∀ (j : Nat) b,(ByteArray.mk ⟨c⟩).data.toList[j]? = some b → b.toNat < 128:=by
  intro j b hb
  have hm:=List.mem_of_getElem? hb
  rcases hc with rfl | rfl
  ·revert hm; simp only [kJ]; revert b; intro b _ hm; simp at hm; rcases hm with rfl | rfl | rfl | rfl <;> decide
  ·revert hm; simp only [eY]; revert b; intro b _ hm; simp at hm; rcases hm with rfl | rfl | rfl | rfl | rfl | rfl | rfl | rfl | rfl | rfl <;> decide
 exact ⟨fun m=>aK9 fun κ w xs r=>⟨_,by rw [aHg r]; exact Any.strings_TrimLeft_laid Tryz.aZq (by kernel_rfl) ⟨⟨s⟩⟩ ⟨⟨c⟩⟩ w hlen hasc,fun _=>.str _⟩,rfl⟩
def vP (s:List UInt8) (a d e b:Int):V:=.agg [.str s,vI a,vI d,vI e,vI b]
def bU:Spec
 | [.agg [.str s,.int .i64 a,.int .i64 d,.int .i64 e,.int .i64 b]]=>if s.length≤jS∧0≤a then some (.tup [.int .u8 (s.getD a.toNat 0).toNat,vP s a d e b]) else none
 | _=>none
theorem kK:dX Tryz.prog a09 eP bU:=by
 refine a6o (T:=[]) aH.nil fun words v hv=>?_
 unfold bU at hv
 split at hv <;> simp only [Option.ite_none_right_eq_some,Option.some.injEq,reduceCtorEq] at hv
 rename_i s a d e b
 obtain ⟨⟨hl,ha⟩,rfl⟩:=hv
 unfold jS at hl
 obtain ⟨a,rfl⟩:∃ n:Nat,a=n:=⟨a.toNat,by omega⟩
 refine ⟨_,rfl,rfl,rfl,rfl,rfl,rfl,?_⟩
 rw [a71]
 simp only [sS,if_true,if_false,reduceCtorEq,Int.toNat_natCast]
 by_cases hlt:a < s.length
 ·have hlt':(a:Int) < (s.length:Int):=by omega
  have hg : s[a]? = some s[a]:=List.getElem?_eq_getElem hlt
  simp only [hlt',decide_true,sS,if_true,if_false,reduceCtorEq,qK hg,List.getD_eq_getElem?_getD,hg,Option.getD_some]
  rfl
 ·have hlt':¬ (a:Int) < (s.length:Int):=by omega
  simp only [hlt',decide_false,sS,if_true,if_false,reduceCtorEq,List.getD_eq_getElem?_getD,List.getElem?_eq_none (by omega:s.length≤a),Option.getD_none]
  rfl
def aL:Spec
 | [.agg [.str s,.int .i64 a,.int .i64 d,.int .i64 e,.int .i64 b],.int .i64 x,.int .i64 y]=>some (.tup [if e=0 then vP s a d y x else vP s a d e b])
 | _=>none
theorem kL:dX Tryz.prog a08 eQ aL:=by
 refine a6n (T:=[]) aH.nil fun words v hv=>?_
 unfold aL at hv
 split at hv <;> simp only [Option.some.injEq,reduceCtorEq] at hv
 rename_i s a d e b x y
 subst hv
 by_cases he:e=0
 ·subst he
  refine ⟨_,rfl,rfl,rfl,rfl,rfl,rfl,?_⟩
  rw [yJ]
  simp [sS,if_true,if_false,reduceCtorEq,iI,sc,aD,vP]
 ·rw [if_neg he]
  refine ⟨_,rfl,rfl,rfl,rfl,rfl,rfl,?_⟩
  rw [yJ]
  simp [sS,if_true,if_false,reduceCtorEq,iI,sc,aD,vP,he]
end Go.Fbs
