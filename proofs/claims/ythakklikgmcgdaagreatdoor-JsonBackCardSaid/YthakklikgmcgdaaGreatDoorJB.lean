import Derived.Test.YthakklikgmcgdaaGreatDoorJA
set_option linter.unusedSimpArgs false
set_option linter.unusedVariables false
set_option linter.unusedSectionVars false
namespace Go.Fbs
open Go.Proofs Go.RowKit
theorem trimT_len (s c : List UInt8) : (trimT s c).length ≤ s.length:=(List.dropWhile_suffix _).length_le
def endT (s : List UInt8) (a : Int) (c : List UInt8) : Int:=s.length - (trimT (s.drop a.toNat) c).length
def F_x_json_parser_skip : Spec
 | [.agg [.str s,.int .i64 a,.int .i64 d,.int .i64 e,.int .i64 b]]=>if s.length ≤ big ∧ 0 ≤ a ∧ a ≤ s.length then some (.tup [vP s (endT s a blankL) d e b]) else none
 | _=>none
theorem okx_json_parser_skip : SpecE Tryz.prog n_json_parser_skip s_x_json_parser_skip F_x_json_parser_skip:=by
 refine go_x_json_parser_skip (T:=[(n_strings_TrimLeft,F_strings_TrimLeft)]) (TabOk.cons ok_strings_TrimLeft TabOk.nil) fun words v hv=>?_
 have c1 : ∀ args,tab [(n_strings_TrimLeft,F_strings_TrimLeft)] n_strings_TrimLeft args = F_strings_TrimLeft args:=fun _=>rfl
 unfold F_x_json_parser_skip at hv
 split at hv <;> simp only [Option.ite_none_right_eq_some,Option.some.injEq,reduceCtorEq] at hv
 rename_i s a d e b
 obtain ⟨⟨hl,ha,has⟩,rfl⟩:=hv
 unfold big at hl
 obtain ⟨a,rfl⟩ : ∃ n : Nat,a = n:=⟨a.toNat,by omega⟩
 refine ⟨_,rfl,rfl,rfl,rfl,rfl,rfl,?_⟩
 rw [e_x_json_parser_skip]
 have hk : a ≤ s.length:=by omega
 have ht:=trimT_len (s.drop a) blankL
 simp only [List.length_drop] at ht
 have hF : ∀ l,F_strings_TrimLeft [.str l,.str [32,9,13,10]] = some (.str (trimT l blankL)):=fun l=>rfl
 have hw : ∀ (x : Int),0 ≤ x → x ≤ s.length → IntKind.i64.wrap x = x:=fun x h1 h2=>wrap_in (by omega) (by omega)
 simp only [sS,if_true,if_false,reduceCtorEq,sliceS_from hk,c1,hF]
 rw [hw _ (by omega) (by omega)]
 rfl
end Go.Fbs
