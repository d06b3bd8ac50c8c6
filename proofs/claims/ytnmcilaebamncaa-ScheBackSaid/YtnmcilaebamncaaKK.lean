/- Schemas read: Parse: told. -/
import Derived.Test.YtnmcilaebamncaaKJ
set_option maxRecDepth 100000
namespace Go.Fbs
open Go.Proofs
attribute [local irreducible] FunWpE FunWp opt sumM factorM F_sum F_sum21 relationM subsM oneM
theorem toks_ok : ∀ (f k : Nat) (l : List UInt8),∀ t ∈ (toks f k l).1,okTok t
 | 0,_,_,t,h=>by simp [toks] at h
 | f + 1,_,[],t,h=>by simp [toks] at h
 | f + 1,k,c :: l,t,h=>by
  unfold toks at h
  split at h
  ·simp at h
  ·rcases List.mem_cons.1 h with rfl | h
   ·intro _ e
    have:=(nextT_len (l:=c :: l) (by simp)).1
    simp only at e
    rw [e] at this
    simp at this
   ·exact toks_ok f _ _ t h
theorem tokensT_ok (l : List UInt8) : ∀ t ∈ (tokensT l).1,okTok t:=by
 unfold tokensT
 split
 ·simp
 ·simp only
  split
  ·simp
  ·exact toks_ok _ _ _
def startM (l : List UInt8) : PSt:=⟨(tokensT l).1,tokensT_ok l,l.length,0,0,0,[]⟩
def finM (r : Bool × PSt × List Typ) : List Typ × Nat × Int:=if r.1 then (r.2.2,0,0) else ([],r.2.1.at_,r.2.1.e)
def parseM (l : List UInt8) : List Typ × Nat × Int :=
 if (tokensT l).2.2 ≠ 0 then ([],(tokensT l).2.1,(tokensT l).2.2)
 else finM (parseLoop ((tokensT l).1.length + 1) (startM l) [])
def F_sche_Parse : Spec
 | [.str l]=>if l.length ≤ big then some (.tup [typsV (parseM l).1,vI (parseM l).2.1,vI (parseM l).2.2]) else none
 | _=>none
theorem ck1T (l : List Tok) : chk1K (tokensV l) = some (tokensV l):=nr rfl
theorem agStart (l : List UInt8) : aggK [tokensV (tokensT l).1,.int .i64 l.length,.int .i64 0,.int .i64 0,.int .i64 0,.sl .ro []] = some (vSt (startM l)):=nr rfl
theorem pre2 (a b c : V) : preK 2 (.tup [a,b,c]) = some (.tup [a,b]):=nr rfl
theorem Ftokens {l : List UInt8} (h : l.length ≤ big) : F_toke_Tokens [.str l] = some (.tup [tokensV (tokensT l).1,vI (tokensT l).2.1,vI (tokensT l).2.2]):=by
 simp only [F_toke_Tokens,if_pos h]
noncomputable abbrev TP1 : List (FuncId × Spec):=[(n_toke_Tokens,F_toke_Tokens),(x_sche_parser_one,F_one)]
theorem parse_wp (l : List UInt8) (hl : l.length ≤ big) : FunWp tyT (tab TP1) 55 q_sche_Parse [.tmp 2,.tmp 3,.tmp 4] (cB Try.f13) [.str l] (fun r=>r = .tup [typsV (parseM l).1,vI (parseM l).2.1,vI (parseM l).2.2]):=by
 have c1 : ∀ args,tab TP1 n_toke_Tokens args = F_toke_Tokens args:=fun _=>rfl
 have c2 : ∀ args,tab TP1 x_sche_parser_one args = F_one args:=fun _=>rfl
 refine Eq.mpr (e_sche_Parse (tab _) _ (.str l)) ?_
 unfold parseM
 simp only [c1,Ftokens hl,opt_s,ext_tup,List.getElem?_cons_zero,List.getElem?_cons_succ,bNeq,iteB_bool]
 by_cases he : (tokensT l).2.2 = 0
 ·have e1 : decide ((tokensT l).2.2 ≠ 0) = false:=by simp [he]
  simp only [he,ne_eq,not_true_eq_false,decide_false,Bool.false_eq_true,if_false,lenS_s,opt_s,ck1T,agStart]
  rw [(cells_S (startM l)).1,(cells_S (startM l)).2.1,(cells_S (startM l)).2.2.1,(cells_S (startM l)).2.2.2.1,(cells_S (startM l)).2.2.2.2.1]
  refine loopP_inv (fun vs=>∃ (t : PSt) (ts : List Typ),vs = [typsV ts,tokensV t.l,vI t.n,vI t.at_,vI t.e,vI t.d,stpsV t.x] ∧ t.d = 0 ∧ parseLoop (t.l.length + 1) t ts = parseLoop ((tokensT l).1.length + 1) (startM l) [])
   (fun vs=>match gv vs 1 with | .sl _ es=>es.length | _=>0) ⟨startM l,[],rfl,rfl,rfl⟩ ?_
  rintro r _ ⟨t,ts,rfl,htd,ht⟩ hr
  refine ⟨rfl,?_⟩
  rw [← ht]
  have hstep : parseLoop (t.l.length + 1) t ts = parseLoop (t.l.length + 1) t ts:=rfl
  conv at hstep=>rhs; unfold parseLoop
  have eL : lenL (tokensV t.l) = some (vI t.l.length):=by simp [lenL,tokensV]
  simp only [gv_0,gv_s,eL,opt_s,bGtr,iteB_bool]
  by_cases hn : t.l = []
  ·have e2 : decide ((t.l.length : Int) > 0) = false:=by simp [hn]
   rw [if_pos hn] at hstep
   rw [hstep]
   simp only [e2,Bool.false_eq_true,if_false,finM,if_true]
   rfl
  ·have h0 : 0 < t.l.length:=List.length_pos_iff.2 hn
   have e2 : decide ((t.l.length : Int) > 0) = true:=by simp; omega
   rw [if_neg hn] at hstep
   have g1:=one_d ts.length t
   simp only [e2,if_true,lenTyp,agSL,opt_s,c2,Fone htd,pre2,ext_tup,List.getElem?_cons_zero,List.getElem?_cons_succ,chS,chTyp,not_bool,iteB_bool]
   generalize oneM ts.length t = q at *
   obtain ⟨b,t1,x⟩:=q
   simp only at g1 hstep ⊢
   cases b with
   | false =>
    simp only [Bool.false_eq_true,if_false] at hstep
    rw [hstep]
    simp only [Bool.not_false,if_true,finM,Bool.false_eq_true,if_false]
    rfl
   | true =>
    have g2:=g1.2.2 rfl
    simp only [if_true] at hstep
    simp only [Bool.not_true,Bool.false_eq_true,if_false,litTyp,appTyp (show ts.length < 1000 by omega),opt_s]
    rw [(cells_S t1).1,(cells_S t1).2.1,(cells_S t1).2.2.1,(cells_S t1).2.2.2.1,(cells_S t1).2.2.2.2.1,(cells_S t1).2.2.2.2.2]
    refine hr _ ⟨t1,ts ++ [x],rfl,by rw [g1.1,htd],?_⟩ (by simp only [gv_0,gv_s,tokensV,List.length_map]; omega)
    rw [← ht,hstep]
    exact parseLoop_fuel t1.l.length _ _ _ _ (Nat.le_refl _) (Nat.lt_succ_self _) (by omega)
 ·have e1 : decide ((tokensT l).2.2 ≠ 0) = true:=by simp [he]
  simp only [he,ne_eq,not_false_eq_true,decide_true,if_true]
  rfl
theorem ok_sche_Parse : SpecL Try.prog n_sche_Parse F_sche_Parse:=by
 refine go_sche_Parse (T:=TP1) (TabOk.cons ok_toke_Tokens (TabOk.consE one_ok TabOk.nil)) fun args v hv=>?_
 unfold F_sche_Parse at hv
 split at hv <;> (try simp only [Option.ite_none_right_eq_some,Option.some.injEq,reduceCtorEq] at hv)
 rename_i l
 obtain ⟨hl,rfl⟩:=hv
 exact ⟨rfl,rfl,by simp only [V.cano,canos,typsV_cano,Bool.and_true],parse_wp l hl⟩
end Go.Fbs
