import Derived.Test.YtcihohnnmhfjoaaGreatDoorJA
set_option linter.unusedVariables false
set_option linter.unusedSimpArgs false
set_option linter.unusedSectionVars false
namespace Go.Fbs
open Go.Proofs Go.RowKit
theorem trimT_len (s c : List UInt8) : (trimT s c).length ≤ s.length:=(List.dropWhile_suffix _).length_le
def endT (s : List UInt8) (a : Int) (c : List UInt8) : Int:=s.length - (trimT (s.drop a.toNat) c).length
def F_x_json_parser_skip : Spec
 | [.agg [.str s,.int .i64 a,.int .i64 d,.int .i64 e,.int .i64 b]]=>if s.length ≤ big ∧ 0 ≤ a ∧ a ≤ s.length then some (.tup [vP s (endT s a blankL) d e b]) else none
 | _=>none
theorem okx_json_parser_skip : SpecE Tryz.prog n_json_parser_skip s_x_json_parser_skip F_x_json_parser_skip:=by
 refine go_x_json_parser_skip (T:=[(n_strings_TrimLeft,F_strings_TrimLeft)]) (TabOk.cons ok_strings_TrimLeft TabOk.nil) fun words v hv=>?_
 have c1 : ∀ args,tab [(n_strings_TrimLeft,F_strings_TrimLeft)] n_strings_TrimLeft args = F_strings_TrimLeft args:=fun _=>rfl
 unfold F_x_json_parser_skip at hv
 split at hv <;> simp only [Option.ite_none_right_eq_some,Option.some.injEq,reduceCtorEq] at hv
 rename_i s a d e b
 obtain ⟨⟨hl,ha,has⟩,rfl⟩:=hv
 unfold big at hl
 obtain ⟨a,rfl⟩ : ∃ n : Nat,a = n:=⟨a.toNat,by omega⟩
 refine ⟨_,rfl,rfl,rfl,rfl,rfl,rfl,?_⟩
 rw [e_x_json_parser_skip]
 have hk : a ≤ s.length:=by omega
 have ht:=trimT_len (s.drop a) blankL
 simp only [List.length_drop] at ht
 have hF : ∀ l,F_strings_TrimLeft [.str l,.str [32,9,13,10]] = some (.str (trimT l blankL)):=fun l=>rfl
 have hw : ∀ (x : Int),0 ≤ x → x ≤ s.length → IntKind.i64.wrap x = x:=fun x h1 h2=>wrap_in (by omega) (by omega)
 simp only [if_true,if_false,Bool.false_eq_true,Bool.true_eq_false,reduceCtorEq,opt_s,gBool,gTT,gFF,gTF,gFT,gU,pBool,orN,andN,orI,andI,V.bool.injEq,Bool.true_and,Bool.and_true,Bool.false_and,Bool.and_false,Bool.true_or,Bool.or_true,Bool.false_or,Bool.or_false,Bool.not_true,Bool.not_false,iteB_bool,iteB_true,iteB_false,not_bool,chkB_bool,chkB_undef,bGeq,bLeq,bLss,bGtr,bEql,bNeq,bAdd,bSub,bMul,bSeq,bSne,bSlt,eqB_eq,mmMin,mmMax,ext_tup,cellD_agg,convI_int,lenS_s,lenL_s,gv_0,gv_s,sliceS_from hk,c1,hF]
 rw [hw _ (by omega) (by omega)]
 rfl
def F_x_json_parser_run : Spec
 | [.agg [.str s,.int .i64 a,.int .i64 d,.int .i64 e,.int .i64 b]]=>if s.length ≤ big ∧ 0 ≤ a ∧ a < endT s a digitL ∧ a ≤ s.length then some (.tup [vP s (endT s a digitL) d e b]) else none
 | _=>none
theorem okx_json_parser_run : SpecE Tryz.prog n_json_parser_run s_x_json_parser_run F_x_json_parser_run:=by
 refine go_x_json_parser_run (T:=[(n_strings_TrimLeft,F_strings_TrimLeft)]) (TabOk.cons ok_strings_TrimLeft TabOk.nil) fun words v hv=>?_
 have c1 : ∀ args,tab [(n_strings_TrimLeft,F_strings_TrimLeft)] n_strings_TrimLeft args = F_strings_TrimLeft args:=fun _=>rfl
 unfold F_x_json_parser_run at hv
 split at hv <;> simp only [Option.ite_none_right_eq_some,Option.some.injEq,reduceCtorEq] at hv
 rename_i s a d e b
 obtain ⟨⟨hl,ha,hlt,has⟩,rfl⟩:=hv
 unfold big at hl
 obtain ⟨a,rfl⟩ : ∃ n : Nat,a = n:=⟨a.toNat,by omega⟩
 refine ⟨_,rfl,rfl,rfl,rfl,rfl,rfl,?_⟩
 rw [e_x_json_parser_run]
 have hk : a ≤ s.length:=by omega
 have ht:=trimT_len (s.drop a) digitL
 simp only [List.length_drop] at ht
 have hF : ∀ l,F_strings_TrimLeft [.str l,.str [48,49,50,51,52,53,54,55,56,57]] = some (.str (trimT l digitL)):=fun l=>rfl
 have hw : ∀ (x : Int),0 ≤ x → x ≤ s.length → IntKind.i64.wrap x = x:=fun x h1 h2=>wrap_in (by omega) (by omega)
 unfold endT at hlt ⊢
 simp only [Int.toNat_natCast] at hlt ⊢
 simp only [if_true,if_false,Bool.false_eq_true,Bool.true_eq_false,reduceCtorEq,opt_s,gBool,gTT,gFF,gTF,gFT,gU,pBool,orN,andN,orI,andI,V.bool.injEq,Bool.true_and,Bool.and_true,Bool.false_and,Bool.and_false,Bool.true_or,Bool.or_true,Bool.false_or,Bool.or_false,Bool.not_true,Bool.not_false,iteB_bool,iteB_true,iteB_false,not_bool,chkB_bool,chkB_undef,bGeq,bLeq,bLss,bGtr,bEql,bNeq,bAdd,bSub,bMul,bSeq,bSne,bSlt,eqB_eq,mmMin,mmMax,ext_tup,cellD_agg,convI_int,lenS_s,lenL_s,gv_0,gv_s,sliceS_from hk,c1,hF]
 rw [hw ((s.length : Int) - (a : Int)) (by omega) (by omega),hw _ (by omega) (by omega),hw _ (by omega) (by omega)]
 rw [decide_eq_false (by omega)]
 simp only [if_true,if_false,Bool.false_eq_true,Bool.true_eq_false,reduceCtorEq,opt_s,gBool,gTT,gFF,gTF,gFT,gU,pBool,orN,andN,orI,andI,V.bool.injEq,Bool.true_and,Bool.and_true,Bool.false_and,Bool.and_false,Bool.true_or,Bool.or_true,Bool.false_or,Bool.or_false,Bool.not_true,Bool.not_false,iteB_bool,iteB_true,iteB_false,not_bool,chkB_bool,chkB_undef,bGeq,bLeq,bLss,bGtr,bEql,bNeq,bAdd,bSub,bMul,bSeq,bSne,bSlt,eqB_eq,mmMin,mmMax,ext_tup,cellD_agg,convI_int,lenS_s,lenL_s,gv_0,gv_s]
 have hx : (a : Int) + ((s.length : Int) - (a : Int) - ((trimT (s.drop a) digitL).length : Int)) = (s.length : Int) - ((trimT (s.drop a) digitL).length : Int):=by omega
 rw [hx]
 rfl
end Go.Fbs
