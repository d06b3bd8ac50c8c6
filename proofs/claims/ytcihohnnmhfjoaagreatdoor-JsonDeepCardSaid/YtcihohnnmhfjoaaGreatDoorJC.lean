import Derived.Test.YtcihohnnmhfjoaaGreatDoorJB
set_option linter.unusedVariables false
set_option linter.unusedSimpArgs false
set_option linter.unusedSectionVars false
namespace Go.Fbs
open Go.Proofs Go.RowKit
def isOnes (s : List UInt8) : Bool:=s.all (· == 49)
theorem ones_get {s : List UInt8} (h : isOnes s = true) {a : Nat} (ha : a < s.length) : s.getD a 0 = 49:=by
 have:=List.all_eq_true.mp h (s[a]) (List.getElem_mem ha)
 rw [List.getD_eq_getElem?_getD,List.getElem?_eq_getElem ha]
 simpa using this
theorem ones_trim {s c : List UInt8} (h : isOnes s = true) (hc : c.contains 49 = true) : trimT s c = []:=by
 unfold trimT
 induction s with
 | nil=>rfl
 | cons x t ih =>
  simp only [isOnes,List.all_cons,Bool.and_eq_true,beq_iff_eq] at h
  obtain ⟨rfl,h⟩:=h
  rw [List.dropWhile_cons_of_pos hc]
  exact ih h
theorem ones_blank {s : List UInt8} (h : isOnes s = true) : trimT s blankL = s:=by
 unfold trimT
 cases s with
 | nil=>rfl
 | cons x t =>
  simp only [isOnes,List.all_cons,Bool.and_eq_true,beq_iff_eq] at h
  obtain ⟨rfl,h⟩:=h
  rw [List.dropWhile_cons_of_neg (by decide)]
theorem ones_drop {s : List UInt8} (h : isOnes s = true) (k : Nat) : isOnes (s.drop k) = true:=by
 unfold isOnes at h ⊢
 rw [List.all_eq_true] at h ⊢
 exact fun x hx=>h x (List.mem_of_mem_drop hx)
def F_x_json_parser_number : Spec
 | [.agg [.str s,.int .i64 a,.int .i64 d,.int .i64 e,.int .i64 b]]=>if s.length ≤ big ∧ isOnes s = true ∧ a = 0 ∧ e = 0 ∧ 0 < s.length then some (.tup [.agg [vI 4,.str s,.sl .ro [],.sl .ro []],vP s s.length d 0 b]) else none
 | _=>none
theorem okx_json_parser_number : SpecE Tryz.prog n_json_parser_number s_x_json_parser_number F_x_json_parser_number:=by
 refine go_x_json_parser_number (T:=[(x_json_parser_here,F_x_json_parser_here),(x_json_parser_run,F_x_json_parser_run)]) (TabOk.consE okx_json_parser_here (TabOk.consE okx_json_parser_run TabOk.nil)) fun words v hv=>?_
 have c1 : ∀ args,tab [(x_json_parser_here,F_x_json_parser_here),(x_json_parser_run,F_x_json_parser_run)] x_json_parser_here args = F_x_json_parser_here args:=fun _=>rfl
 have c2 : ∀ args,tab [(x_json_parser_here,F_x_json_parser_here),(x_json_parser_run,F_x_json_parser_run)] x_json_parser_run args = F_x_json_parser_run args:=fun _=>rfl
 unfold F_x_json_parser_number at hv
 split at hv <;> simp only [Option.ite_none_right_eq_some,Option.some.injEq,reduceCtorEq] at hv
 rename_i s a d e b
 obtain ⟨⟨hl,ho,rfl,rfl,hp⟩,rfl⟩:=hv
 refine ⟨_,rfl,rfl,rfl,rfl,rfl,rfl,?_⟩
 rw [e_x_json_parser_number]
 have g0 : s.getD 0 0 = 49:=ones_get ho hp
 have gn : s.getD s.length 0 = 0:=by rw [List.getD_eq_getElem?_getD,List.getElem?_eq_none (Nat.le_refl _)]; rfl
 have h0 : F_x_json_parser_here [vP s 0 d 0 b] = some (.tup [.int .u8 49,vP s 0 d 0 b]):=by
  simp only [F_x_json_parser_here,vP,vI]
  rw [if_pos ⟨hl,Int.le_refl _⟩]
  simp only [Int.toNat_zero,g0]
  rfl
 have hn : F_x_json_parser_here [vP s s.length d 0 b] = some (.tup [.int .u8 0,vP s s.length d 0 b]):=by
  simp only [F_x_json_parser_here,vP,vI]
  rw [if_pos ⟨hl,by omega⟩]
  simp only [Int.toNat_natCast,gn]
  rfl
 have hend : endT s 0 digitL = s.length:=by
  unfold endT
  rw [ones_trim (ones_drop ho _) (by decide)]
  simp
 have hr : F_x_json_parser_run [vP s 0 d 0 b] = some (.tup [vP s s.length d 0 b]):=by
  simp only [F_x_json_parser_run,vP,vI]
  rw [if_pos ⟨hl,Int.le_refl _,by rw [hend]; omega,by omega⟩,hend]
 have hsl : sliceS (.str s) (some (.int .i64 0)) (some (.int .i64 (s.length : Int))) = some (.str s):=by
  have:=sliceS_both (l:=s) (j:=0) (k:=s.length) (Nat.le_refl _) (Nat.zero_le _) .i64 .i64
  simpa using this
 have ag : ∀ x,aggK [.str s,.int .i64 x,.int .i64 d,.int .i64 0,.int .i64 b] = some (vP s x d 0 b):=fun _=>rfl
 have cz : ∀ x,cellD (vP s x d 0 b) 0 = .str s ∧ cellD (vP s x d 0 b) 1 = .int .i64 x ∧ cellD (vP s x d 0 b) 2 = .int .i64 d ∧ cellD (vP s x d 0 b) 3 = .int .i64 0 ∧ cellD (vP s x d 0 b) 4 = .int .i64 b:=fun _=>⟨rfl,rfl,rfl,rfl,rfl⟩
 have ck : ∀ x,chkK 5 (vP s x d 0 b) = some (vP s x d 0 b):=fun _=>rfl
 have e2 : ∀ x y : V,extractV (.tup [x,y]) 0 = some x ∧ extractV (.tup [x,y]) 1 = some y:=fun _ _=>⟨rfl,rfl⟩
 have e1 : ∀ x : V,extractV (.tup [x]) 0 = some x:=fun _=>rfl
 have pk : ∀ x : V,preK 0 (.tup [x]) = some (.tup []):=fun _=>rfl
 have q1 : decide ((49 : Int) = 45) = false:=by decide
 have q2 : decide ((49 : Int) = 48) = false:=by decide
 have q3 : decide ((0 : Int) = 46) = false:=by decide
 have q4 : decide ((0 : Int) = 101) = false:=by decide
 have q5 : decide ((0 : Int) = 69) = false:=by decide
 have q6 : decide ((0 : Int) = 0) = true:=by decide
 have l1 : ∀ (x : V),([x].length = 1) = True:=fun _=>by simp
 have l5 : ∀ (x y z u w : V),([x,y,z,u,w].length = 5) = True:=fun _ _ _ _ _=>by simp
 have l7 : ∀ (x y z u w x' y' : V),([x,y,z,u,w,x',y'].length = 7) = True:=fun _ _ _ _ _ _ _=>by simp
 have af : aggK [V.int .i64 4,.str s,.sl .ro [],.sl .ro []] = some (.agg [vI 4,.str s,.sl .ro [],.sl .ro []]):=rfl
 simp only [ag,af,decide_true,decide_false,if_true,if_false,Bool.false_eq_true,Bool.true_eq_false,reduceCtorEq,opt_s,gBool,gTT,gFF,gTF,gFT,gU,pBool,orN,andN,orI,andI,V.bool.injEq,Bool.true_and,Bool.and_true,Bool.false_and,Bool.and_false,Bool.true_or,Bool.or_true,Bool.false_or,Bool.or_false,Bool.not_true,Bool.not_false,iteB_bool,iteB_true,iteB_false,not_bool,chkB_bool,chkB_undef,bGeq,bLeq,bLss,bGtr,bEql,bNeq,bAdd,bSub,bMul,bSeq,bSne,bSlt,eqB_eq,mmMin,mmMax,ext_tup,cellD_agg,convI_int,lenS_s,lenL_s,gv_0,gv_s,c1,c2,h0,hn,hr,hsl,e1,pk,(e2 _ _).1,(e2 _ _).2,ck,(cz _).1,(cz _).2.1,(cz _).2.2.1,(cz _).2.2.2.1,(cz _).2.2.2.2,joinP,q1,q2,q3,q4,q5,q6,l1,l5,l7,true_and]
end Go.Fbs
