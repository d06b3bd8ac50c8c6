import Derived.Test.YtcihohnnmhfjoaaGreatDoorHJT
import Derived.Test.YtcihohnnmhfjoaaGreatDoorS2
import Derived.Below
import Derived.Shelf.Strings.SlTrimAscii
import Derived.Test.YtcihohnnmhfjoaaGreatDoorJShelf
set_option linter.unusedVariables false
set_option linter.unusedSimpArgs false
set_option linter.unusedSectionVars false
namespace Go.Fbs
open Go.Proofs Go.RowKit
theorem le_below {κ : Ctx} {h h' : Heap} (hs : h.size ≤ h'.size) (hb : ∀ k,k < h.size → h'[k]? = h[k]?) : Le κ h κ h' where
 size:=hs
 same b hb' _:=hb b hb'
 hwsame _ _ _:=rfl
 sealed b i x _ hc:=by
  have hlt : b < h.size:=hcell_lt hc
  unfold hcell at hc ⊢
  rw [hb b hlt]; exact hc
 hw _:=Nat.le_refl _
 box _ _ h:=h
 newbox _ h:=.inl h
 lease _ L h:=⟨L,h,.inl rfl⟩
 newlease L h hk:=.inl ⟨L,h,hk,rfl⟩
theorem mem_below {κ : Ctx} {h h' : Heap} {m : Hp} (k : Mem κ h m) (hs : h.size ≤ h'.size) (hb : ∀ k,k < h.size → h'[k]? = h[k]?) : Mem κ h' m:=by
 obtain ⟨ok,hp,ht⟩:=k
 refine ⟨⟨fun b h=>Nat.lt_of_lt_of_le (ok.boxlt b h) hs,ok.boxhw,ok.boxnd,fun L h hk=>Nat.lt_of_lt_of_le (ok.lblt L h hk) hs,ok.lhw,ok.lnd,ok.lbox,fun L h hv=>?_,fun b h=>ok.fresh b (Nat.le_trans hs h)⟩,?_,ht⟩
 ·obtain ⟨c,E,h1,h2⟩:=ok.lcells L h hv
  exact ⟨c,E,by rw [hb _ (ok.lblt L h (nf hv))]; exact h1,h2⟩
 ·exact hp.mono (le_below hs hb) rfl fun b h=>hb b (ok.boxlt b h)
theorem callOk_below {P : Program} {f : FuncId} {args : List V} {m : Hp} {v : V} (h : ∀ (κ : Ctx) (w : World) (xs : List Value),Reps κ w.heap args xs → ∃ x,Calls P f ⟨xs⟩ w (fun e w'=>e = .returned x ∧ Below w.heap.size w w') ∧ ∀ h',Rep κ h' v x) : CallOk P f args m v m:=by
 intro κ w xs k r
 obtain ⟨x,c,rx⟩:=h κ w xs r
 refine c.mono fun e w' ⟨he,hw⟩=>?_
 exact ⟨x,κ,he,⟨le_below hw.size hw.block,mem_below k hw.size hw.block,Nat.le_refl _,fun _ _ h=>h,hw.os,hw.output,hw.size⟩,rx _⟩
def blankL : List UInt8:=[32,9,13,10]
def digitL : List UInt8:=[48,49,50,51,52,53,54,55,56,57]
def trimT (s c : List UInt8) : List UInt8:=s.dropWhile (c.contains ·)
def F_strings_TrimLeft : Spec
 | [.str s,.str c]=>if c = blankL ∨ c = digitL then some (.str (trimT s c)) else none
 | _=>none
theorem ok_strings_TrimLeft : SpecL Tryz.prog n_strings_TrimLeft F_strings_TrimLeft:=by
 refine ⟨⟨_,_,Tryz.func16,rfl,by kernel_rfl⟩,fun args v hv=>?_⟩
 unfold F_strings_TrimLeft at hv
 split at hv <;> simp only [Option.ite_none_right_eq_some,Option.some.injEq,reduceCtorEq] at hv
 rename_i s c
 obtain ⟨hc,rfl⟩:=hv
 have hlen : (ByteArray.mk ⟨c⟩).size < 4294967281:=by rcases hc with rfl | rfl <;> decide
 have hasc : ∀ (j : Nat) b,(ByteArray.mk ⟨c⟩).data.toList[j]? = some b → b.toNat < 128:=by
  intro j b hb
  have hm:=List.mem_of_getElem? hb
  rcases hc with rfl | rfl
  ·revert hm; simp only [blankL]; revert b; intro b _ hm; simp at hm; rcases hm with rfl | rfl | rfl | rfl <;> decide
  ·revert hm; simp only [digitL]; revert b; intro b _ hm; simp at hm; rcases hm with rfl | rfl | rfl | rfl | rfl | rfl | rfl | rfl | rfl | rfl <;> decide
 exact ⟨fun m=>callOk_below fun κ w xs r=>⟨_,by rw [reps_str2 r]; exact Any.strings_TrimLeft_laid Tryz.lays161 (by kernel_rfl) ⟨⟨s⟩⟩ ⟨⟨c⟩⟩ w hlen hasc,fun _=>.str _⟩,rfl⟩
def vP (s : List UInt8) (a d e b : Int) : V:=.agg [.str s,vI a,vI d,vI e,vI b]
def F_x_json_parser_here : Spec
 | [.agg [.str s,.int .i64 a,.int .i64 d,.int .i64 e,.int .i64 b]]=>if s.length ≤ big ∧ 0 ≤ a then some (.tup [.int .u8 (s.getD a.toNat 0).toNat,vP s a d e b]) else none
 | _=>none
theorem okx_json_parser_here : SpecE Tryz.prog n_json_parser_here s_x_json_parser_here F_x_json_parser_here:=by
 refine go_x_json_parser_here (T:=[]) TabOk.nil fun words v hv=>?_
 unfold F_x_json_parser_here at hv
 split at hv <;> simp only [Option.ite_none_right_eq_some,Option.some.injEq,reduceCtorEq] at hv
 rename_i s a d e b
 obtain ⟨⟨hl,ha⟩,rfl⟩:=hv
 unfold big at hl
 obtain ⟨a,rfl⟩ : ∃ n : Nat,a = n:=⟨a.toNat,by omega⟩
 refine ⟨_,rfl,rfl,rfl,rfl,rfl,rfl,?_⟩
 rw [e_x_json_parser_here]
 simp only [if_true,if_false,Bool.false_eq_true,Bool.true_eq_false,reduceCtorEq,opt_s,gBool,gTT,gFF,gTF,gFT,gU,pBool,orN,andN,orI,andI,V.bool.injEq,Bool.true_and,Bool.and_true,Bool.false_and,Bool.and_false,Bool.true_or,Bool.or_true,Bool.false_or,Bool.or_false,Bool.not_true,Bool.not_false,iteB_bool,iteB_true,iteB_false,not_bool,chkB_bool,chkB_undef,bGeq,bLeq,bLss,bGtr,bEql,bNeq,bAdd,bSub,bMul,bSeq,bSne,bSlt,eqB_eq,mmMin,mmMax,ext_tup,cellD_agg,convI_int,lenS_s,lenL_s,gv_0,gv_s,Int.toNat_natCast]
 by_cases hlt : a < s.length
 ·have hlt' : (a : Int) < (s.length : Int):=by omega
  have hg : s[a]? = some s[a]:=List.getElem?_eq_getElem hlt
  simp only [hlt',decide_true,if_true,if_false,Bool.false_eq_true,Bool.true_eq_false,reduceCtorEq,opt_s,gBool,gTT,gFF,gTF,gFT,gU,pBool,orN,andN,orI,andI,V.bool.injEq,Bool.true_and,Bool.and_true,Bool.false_and,Bool.and_false,Bool.true_or,Bool.or_true,Bool.false_or,Bool.or_false,Bool.not_true,Bool.not_false,iteB_bool,iteB_true,iteB_false,not_bool,chkB_bool,chkB_undef,bGeq,bLeq,bLss,bGtr,bEql,bNeq,bAdd,bSub,bMul,bSeq,bSne,bSlt,eqB_eq,mmMin,mmMax,ext_tup,cellD_agg,convI_int,lenS_s,lenL_s,gv_0,gv_s,idxS_at hg,List.getD_eq_getElem?_getD,hg,Option.getD_some]
  rfl
 ·have hlt' : ¬ (a : Int) < (s.length : Int):=by omega
  simp only [hlt',decide_false,if_true,if_false,Bool.false_eq_true,Bool.true_eq_false,reduceCtorEq,opt_s,gBool,gTT,gFF,gTF,gFT,gU,pBool,orN,andN,orI,andI,V.bool.injEq,Bool.true_and,Bool.and_true,Bool.false_and,Bool.and_false,Bool.true_or,Bool.or_true,Bool.false_or,Bool.or_false,Bool.not_true,Bool.not_false,iteB_bool,iteB_true,iteB_false,not_bool,chkB_bool,chkB_undef,bGeq,bLeq,bLss,bGtr,bEql,bNeq,bAdd,bSub,bMul,bSeq,bSne,bSlt,eqB_eq,mmMin,mmMax,ext_tup,cellD_agg,convI_int,lenS_s,lenL_s,gv_0,gv_s,List.getD_eq_getElem?_getD,List.getElem?_eq_none (by omega : s.length ≤ a),Option.getD_none]
  rfl
end Go.Fbs
