import Derived.Test.YtcihohnnmhfjoaaGreatDoorJC
set_option linter.unusedVariables false
set_option linter.unusedSimpArgs false
set_option linter.unusedSectionVars false
namespace Go.Fbs
open Go.Proofs Go.RowKit
def vOnes (s : List UInt8) : V:=.agg [vI 4,.str s,.sl .ro [],.sl .ro []]
abbrev TV : List (FuncId × Spec):=[(x_json_parser_here,F_x_json_parser_here),(x_json_parser_number,F_x_json_parser_number)]
def F_x_json_parser_value : Spec:=F_x_json_parser_number
theorem okx_json_parser_value : SpecE Tryz.prog n_json_parser_value s_x_json_parser_value F_x_json_parser_value:=by
 refine go_x_json_parser_value (T:=TV) (TabOk.consE okx_json_parser_here (TabOk.consE okx_json_parser_number TabOk.nil)) fun words v hv=>?_
 have c1 : ∀ args,tab TV x_json_parser_here args = F_x_json_parser_here args:=fun _=>rfl
 have c2 : ∀ args,tab TV x_json_parser_number args = F_x_json_parser_number args:=fun _=>rfl
 have hv':=hv
 unfold F_x_json_parser_value F_x_json_parser_number at hv'
 split at hv' <;> simp only [Option.ite_none_right_eq_some,Option.some.injEq,reduceCtorEq] at hv'
 rename_i s a d e b
 obtain ⟨⟨hl,ho,rfl,rfl,hp⟩,rfl⟩:=hv'
 refine ⟨_,rfl,rfl,rfl,rfl,rfl,rfl,?_⟩
 rw [e_x_json_parser_value]
 have g0 : s.getD 0 0 = 49:=ones_get ho hp
 have h0 : F_x_json_parser_here [vP s 0 d 0 b] = some (.tup [.int .u8 49,vP s 0 d 0 b]):=by
  simp only [F_x_json_parser_here,vP,vI]
  rw [if_pos ⟨hl,Int.le_refl _⟩]
  simp only [Int.toNat_zero,g0]
  rfl
 have hn : F_x_json_parser_number [vP s 0 d 0 b] = some (.tup [vOnes s,vP s s.length d 0 b]):=hv
 have ag : ∀ x,aggK [.str s,.int .i64 x,.int .i64 d,.int .i64 0,.int .i64 b] = some (vP s x d 0 b):=fun _=>rfl
 have cz : ∀ x,cellD (vP s x d 0 b) 0 = .str s ∧ cellD (vP s x d 0 b) 1 = .int .i64 x ∧ cellD (vP s x d 0 b) 2 = .int .i64 d ∧ cellD (vP s x d 0 b) 3 = .int .i64 0 ∧ cellD (vP s x d 0 b) 4 = .int .i64 b:=fun _=>⟨rfl,rfl,rfl,rfl,rfl⟩
 have ck : ∀ x,chkK 5 (vP s x d 0 b) = some (vP s x d 0 b):=fun _=>rfl
 have ck4 : chkK 4 (vOnes s) = some (vOnes s):=rfl
 have e2 : ∀ x y : V,extractV (.tup [x,y]) 0 = some x ∧ extractV (.tup [x,y]) 1 = some y:=fun _ _=>⟨rfl,rfl⟩
 have q1 : decide ((49 : Int) = 123) = false:=by decide
 have q2 : decide ((49 : Int) = 91) = false:=by decide
 have q3 : decide ((49 : Int) = 34) = false:=by decide
 have q4 : decide ((49 : Int) = 110) = false:=by decide
 have q5 : decide ((49 : Int) = 102) = false:=by decide
 have q6 : decide ((49 : Int) = 116) = false:=by decide
 simp only [ag,if_true,if_false,Bool.false_eq_true,Bool.true_eq_false,reduceCtorEq,opt_s,gBool,gTT,gFF,gTF,gFT,gU,pBool,orN,andN,orI,andI,V.bool.injEq,Bool.true_and,Bool.and_true,Bool.false_and,Bool.and_false,Bool.true_or,Bool.or_true,Bool.false_or,Bool.or_false,Bool.not_true,Bool.not_false,iteB_bool,iteB_true,iteB_false,not_bool,chkB_bool,chkB_undef,bGeq,bLeq,bLss,bGtr,bEql,bNeq,bAdd,bSub,bMul,bSeq,bSne,bSlt,eqB_eq,mmMin,mmMax,ext_tup,cellD_agg,convI_int,lenS_s,lenL_s,gv_0,gv_s,c1,c2,h0,hn,(e2 _ _).1,(e2 _ _).2,ck,ck4,(cz _).1,(cz _).2.1,(cz _).2.2.1,(cz _).2.2.2.1,(cz _).2.2.2.2,q1,q2,q3,q4,q5,q6]
 rfl
abbrev TP : List (FuncId × Spec):=[(x_json_parser_skip,F_x_json_parser_skip),(x_json_parser_value,F_x_json_parser_value)]
def F_json_Parse1 : Spec
 | [.str s]=>if s.length ≤ big ∧ isOnes s = true ∧ 0 < s.length then some (if 200000 < s.length then .tup [.agg [vI 0,.str [],.sl .ro [],.sl .ro []],vI 0,vI 8] else .tup [vOnes s,vI 0,vI 0]) else none
 | _=>none
theorem ok_json_Parse1 : SpecL Tryz.prog n_json_Parse F_json_Parse1:=by
 refine go_json_Parse (T:=TP) (TabOk.consE okx_json_parser_skip (TabOk.consE okx_json_parser_value TabOk.nil)) fun args v hv=>?_
 have c1 : ∀ args,tab TP x_json_parser_skip args = F_x_json_parser_skip args:=fun _=>rfl
 have c2 : ∀ args,tab TP x_json_parser_value args = F_x_json_parser_value args:=fun _=>rfl
 unfold F_json_Parse1 at hv
 split at hv <;> simp only [Option.ite_none_right_eq_some,Option.some.injEq,reduceCtorEq] at hv
 rename_i s
 obtain ⟨⟨hl,ho,hp⟩,rfl⟩:=hv
 refine ⟨rfl,rfl,by split <;> rfl,?_⟩
 rw [e_json_Parse]
 by_cases hbig : 200000 < s.length
 ·have q1 : decide ((s.length : Int) > 200000) = true:=by simpa using (by omega : (200000 : Int) < s.length)
  simp only [if_true,if_false,Bool.false_eq_true,Bool.true_eq_false,reduceCtorEq,opt_s,gBool,gTT,gFF,gTF,gFT,gU,pBool,orN,andN,orI,andI,V.bool.injEq,Bool.true_and,Bool.and_true,Bool.false_and,Bool.and_false,Bool.true_or,Bool.or_true,Bool.false_or,Bool.or_false,Bool.not_true,Bool.not_false,iteB_bool,iteB_true,iteB_false,not_bool,chkB_bool,chkB_undef,bGeq,bLeq,bLss,bGtr,bEql,bNeq,bAdd,bSub,bMul,bSeq,bSne,bSlt,eqB_eq,mmMin,mmMax,ext_tup,cellD_agg,convI_int,lenS_s,lenL_s,gv_0,gv_s,if_pos hbig,q1]
  rfl
 ·have q1 : decide ((s.length : Int) > 200000) = false:=by simpa using (by omega : (s.length : Int) ≤ 200000)
  have hs0 : F_x_json_parser_skip [vP s 0 0 0 0] = some (.tup [vP s 0 0 0 0]):=by
   simp only [F_x_json_parser_skip,vP,vI]
   rw [if_pos ⟨hl,Int.le_refl _,by omega⟩]
   unfold endT
   rw [ones_blank (ones_drop ho _)]
   simp [vP,vI]
  have hs1 : F_x_json_parser_skip [vP s s.length 0 0 0] = some (.tup [vP s s.length 0 0 0]):=by
   simp only [F_x_json_parser_skip,vP,vI]
   rw [if_pos ⟨hl,by omega,Int.le_refl _⟩]
   unfold endT
   rw [ones_blank (ones_drop ho _)]
   simp [vP,vI]
  have hn : F_x_json_parser_value [vP s 0 0 0 0] = some (.tup [vOnes s,vP s s.length 0 0 0]):=by
   simp only [F_x_json_parser_value,F_x_json_parser_number,vP,vI]
   rw [if_pos ⟨hl,ho,trivial,trivial,hp⟩]
   rfl
  have ag : ∀ x,aggK [.str s,.int .i64 x,.int .i64 0,.int .i64 0,.int .i64 0] = some (vP s x 0 0 0):=fun _=>rfl
  have cz : ∀ x,cellD (vP s x 0 0 0) 0 = .str s ∧ cellD (vP s x 0 0 0) 1 = .int .i64 x ∧ cellD (vP s x 0 0 0) 2 = .int .i64 0 ∧ cellD (vP s x 0 0 0) 3 = .int .i64 0 ∧ cellD (vP s x 0 0 0) 4 = .int .i64 0:=fun _=>⟨rfl,rfl,rfl,rfl,rfl⟩
  have ck : ∀ x,chkK 5 (vP s x 0 0 0) = some (vP s x 0 0 0):=fun _=>rfl
  have ck4 : chkK 4 (vOnes s) = some (vOnes s):=rfl
  have ck1 : chk1K (.str s) = some (.str s):=rfl
  have e1 : ∀ x : V,extractV (.tup [x]) 0 = some x:=fun _=>rfl
  have e2 : ∀ x y : V,extractV (.tup [x,y]) 0 = some x ∧ extractV (.tup [x,y]) 1 = some y:=fun _ _=>⟨rfl,rfl⟩
  have pk : ∀ x : V,preK 0 (.tup [x]) = some (.tup []):=fun _=>rfl
  have l5 : ∀ (x y z u w : V),([x,y,z,u,w].length = 5) = True:=fun _ _ _ _ _=>by simp
  have q2 : decide ((s.length : Int) < s.length) = false:=by simp
  have q3 : decide ((0 : Int) = 0) = true:=by decide
  have q4 : (!decide ((0 : Int) = 0)) = false:=by decide
  simp only [ag,ck1,decide_true,decide_false,if_true,if_false,Bool.false_eq_true,Bool.true_eq_false,reduceCtorEq,opt_s,gBool,gTT,gFF,gTF,gFT,gU,pBool,orN,andN,orI,andI,V.bool.injEq,Bool.true_and,Bool.and_true,Bool.false_and,Bool.and_false,Bool.true_or,Bool.or_true,Bool.false_or,Bool.or_false,Bool.not_true,Bool.not_false,iteB_bool,iteB_true,iteB_false,not_bool,chkB_bool,chkB_undef,bGeq,bLeq,bLss,bGtr,bEql,bNeq,bAdd,bSub,bMul,bSeq,bSne,bSlt,eqB_eq,mmMin,mmMax,ext_tup,cellD_agg,convI_int,lenS_s,lenL_s,gv_0,gv_s,if_neg hbig,q1,q2,q3,q4,c1,c2,hs0,hs1,hn,e1,pk,(e2 _ _).1,(e2 _ _).2,ck,ck4,(cz _).1,(cz _).2.1,(cz _).2.2.1,(cz _).2.2.2.1,(cz _).2.2.2.2,joinP,l5,true_and]
end Go.Fbs
