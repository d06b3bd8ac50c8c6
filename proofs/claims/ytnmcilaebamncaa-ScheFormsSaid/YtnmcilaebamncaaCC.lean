import Derived.Test.YtnmcilaebamncaaCB
set_option linter.unusedVariables false
set_option linter.unusedSimpArgs false
set_option linter.unusedSectionVars false
namespace Go.Fbs
open Go.Proofs
def nH:Nat→Nat→List UInt8→List (Int×Nat×List UInt8)×Option Nat
 | 0,_,_=>([],none)
 | _+1,_,[]=>([],none)
 | f+1,k,c::l =>
  if (fM (c::l)).2.2=false then ([],some k)
  else
   let r:=(c::l).drop (fM (c::l)).2.1.length
   let q:=nH f (k+(fM (c::l)).2.1.length+eS false r) (r.drop (eS false r))
   (((fM (c::l)).1,k,(fM (c::l)).2.1)::q.1,q.2)
def iI (l:List UInt8):List (Int×Nat×List UInt8)×Nat×Int :=
 if 100000 < l.length then ([],0,8)
 else
  let q:=nH l.length (eS false l) (l.drop (eS false l))
  match q.2 with
  | some k=>([],k,7)
  | none=>(q.1,0,0)
def qC (x:Int×Nat×List UInt8):V:=a90 x.1 x.2.1 x.2.2
def bM (ts:List (Int×Nat×List UInt8)):V:=.sl .ro (ts.map qC)
def qW:Spec
 | [.str l]=>if l.length≤big then some (.aG [bM (iI l).1,vI (iI l).2.1,vI (iI l).2.2]) else none
 | _=>none
theorem a3d {l:List UInt8} (hl:l≠[]):1≤(fM l).2.1.length∧(fM l).2.1.length≤l.length:=by
 have h1:1≤l.length:=by cases l with
  | nil=>exact absurd rfl hl
  | cons=>simp
 unfold fM
 split
 ·have:=(List.takeWhile_sublist (fun c:UInt8=>qT c.toNat) (l:=l)).length_le
  unfold wQ at *
  simp only [List.length_take]; omega
 ·split
  ·rename_i h
   rw [List.isPrefixOf_iff_prefix] at h
   have:=h.length_le
   exact ⟨by simp,this⟩
  ·simp only [List.length_take]; omega
theorem aRi (ts:List (Int×Nat×List UInt8)):(bM ts).aV=true:=by
 simp only [bM,V.aV]; exact tQ fun a=>rfl
theorem aJ5:iJ Try.prog uW qW:=by
 refine aJ6 (T:=[(pO,pN),(rX,rW)]) (aK.cons aNc (aK.cons aNe aK.nil)) fun args v hv=>?_
 have c_toke_skip:∀ args,bO [(pO,pN),(rX,rW)] pO args=pN args:=fun _=>rfl
 have c_toke_next:∀ args,bO [(pO,pN),(rX,rW)] rX args=rW args:=fun _=>rfl
 unfold qW at hv
 split at hv <;> (try simp only [Option.ite_none_right_eq_some,Option.some.injEq,reduceCtorEq] at hv)
 rename_i l
 obtain ⟨hl,rfl⟩:=hv
 have hl0:=hl
 unfold big at hl
 refine ⟨rfl,rfl,by simp [V.aV,aN,aRi],?_⟩
 rw [aMc]
 simp only [if_true,if_false,Bool.false_eq_true,Bool.true_eq_false,reduceCtorEq,aC,eG,jN,jO,jP,jQ,gU,dW,jR,gN,jB,fU,V.bool.injEq,Bool.true_and,Bool.and_true,Bool.false_and,Bool.and_false,Bool.true_or,Bool.or_true,Bool.false_or,Bool.or_false,Bool.not_true,Bool.not_false,aH,bF,aX,aR,bI,aY,gO,gP,fX,gH,fL,gI,fY,gJ,gQ,gR,gS,gT,cM,eH,eI,aO,bJ,bK,cK,cN,cX,dF]
 by_cases hbig:100000 < l.length
 ·have hb':(100000:Int) < (l.length:Int):=by omega
  simp [hb',iI,hbig,bM]
 ·have hb':¬ (100000:Int) < (l.length:Int):=by omega
  simp only [hb',decide_false,if_true,if_false,Bool.false_eq_true,Bool.true_eq_false,reduceCtorEq,aC,eG,jN,jO,jP,jQ,gU,dW,jR,gN,jB,fU,V.bool.injEq,Bool.true_and,Bool.and_true,Bool.false_and,Bool.and_false,Bool.true_or,Bool.or_true,Bool.false_or,Bool.or_false,Bool.not_true,Bool.not_false,aH,bF,aX,aR,bI,aY,gO,gP,fX,gH,fL,gI,fY,gJ,gQ,gR,gS,gT,cM,eH,eI,aO,bJ,bK,cK,cN,cX,dF,c_toke_skip,pN,hl0]
  have hs0:=a1y false l
  refine pM (fun vs=>∃ (k:Nat) (dn:List (Int×Nat×List UInt8)) (f:Nat),vs=[.sl .ro (dn.map qC),vI k]∧k≤l.length∧dn.length≤k∧l.length - k≤f ∧
   nH l.length (eS false l) (l.drop (eS false l))=(dn++(nH f k (l.drop k)).1,(nH f k (l.drop k)).2)) (fun vs=>l.length - a0v (gv vs 1))
   ⟨eS false l,[],l.length,rfl,hs0,Nat.zero_le _,Nat.sub_le _ _,by simp⟩ ?_
  rintro r _ ⟨k,dn,f,rfl,hk,hdn,hf,htk⟩ hr
  refine ⟨rfl,?_⟩
  simp only [if_true,if_false,Bool.false_eq_true,Bool.true_eq_false,reduceCtorEq,aC,eG,jN,jO,jP,jQ,gU,dW,jR,gN,jB,fU,V.bool.injEq,Bool.true_and,Bool.and_true,Bool.false_and,Bool.and_false,Bool.true_or,Bool.or_true,Bool.false_or,Bool.or_false,Bool.not_true,Bool.not_false,aH,bF,aX,aR,bI,aY,gO,gP,fX,gH,fL,gI,fY,gJ,gQ,gR,gS,gT,cM,eH,eI,aO,bJ,bK,cK,cN,cX,dF]
  by_cases hlt:k < l.length
  ·have hlt':(k:Int) < (l.length:Int):=by omega
   have hdne:l.drop k≠[]:=by
    intro e; have:=congrArg List.length e; simp only [List.length_drop,List.length_nil] at this; omega
   have hdl:(l.drop k).length≤big:=by simp only [List.length_drop]; unfold big; omega
   obtain ⟨n1,n2⟩:=a3d hdne
   simp only [List.length_drop] at n2
   simp only [hlt',decide_true,if_true,if_false,Bool.false_eq_true,Bool.true_eq_false,reduceCtorEq,aC,eG,jN,jO,jP,jQ,gU,dW,jR,gN,jB,fU,V.bool.injEq,Bool.true_and,Bool.and_true,Bool.false_and,Bool.and_false,Bool.true_or,Bool.or_true,Bool.false_or,Bool.or_false,Bool.not_true,Bool.not_false,aH,bF,aX,aR,bI,aY,gO,gP,fX,gH,fL,gI,fY,gJ,gQ,gR,gS,gT,cM,eH,eI,aO,bJ,bK,cK,cN,cX,dF,a7w hk,c_toke_next,rW,if_pos (And.intro hdne hdl),List.getElem?_cons_zero,List.getElem?_cons_succ,a90]
   obtain ⟨f,rfl⟩:∃ f',f=f'+1:=⟨f - 1,by omega⟩
   cases hok:(fM (l.drop k)).2.2
   ·have hst:nH (f+1) k (l.drop k)=([],some k):=by
     cases hd:l.drop k with
     | nil=>exact absurd hd hdne
     | cons c t=>rw [hd] at hok; simp [nH,hok]
    rw [hst] at htk
    simp [if_true,if_false,Bool.false_eq_true,Bool.true_eq_false,reduceCtorEq,aC,eG,jN,jO,jP,jQ,gU,dW,jR,gN,jB,fU,V.bool.injEq,Bool.true_and,Bool.and_true,Bool.false_and,Bool.and_false,Bool.true_or,Bool.or_true,Bool.false_or,Bool.or_false,Bool.not_true,Bool.not_false,aH,bF,aX,aR,bI,aY,gO,gP,fX,gH,fL,gI,fY,gJ,gQ,gR,gS,gT,cM,eH,eI,aO,bJ,bK,cK,cN,cX,dF,bP,sc,iI,hbig,htk,bM]
   ·have hst:nH (f+1) k (l.drop k)=(((fM (l.drop k)).1,k,(fM (l.drop k)).2.1)::(nH f (k+(fM (l.drop k)).2.1.length+eS false (l.drop (k+(fM (l.drop k)).2.1.length))) (l.drop (k+(fM (l.drop k)).2.1.length+eS false (l.drop (k+(fM (l.drop k)).2.1.length))))).1,
      (nH f (k+(fM (l.drop k)).2.1.length+eS false (l.drop (k+(fM (l.drop k)).2.1.length))) (l.drop (k+(fM (l.drop k)).2.1.length+eS false (l.drop (k+(fM (l.drop k)).2.1.length))))).2):=by
     cases hd:l.drop k with
     | nil=>exact absurd hd hdne
     | cons c t =>
      rw [hd] at hok
      have e:∀ j,l.drop (k+j)=(c::t).drop j:=fun j=>by rw [← hd,List.drop_drop]
      simp [nH,hok,Nat.add_assoc,e]
    rw [hst] at htk
    generalize hn:(fM (l.drop k)).2.1.length=n at *
    have hkn:k+n≤l.length:=by omega
    have hcast:((k:Int)+(n:Int))=((k+n:Nat):Int):=by omega
    have hsl:=a1y false (l.drop (k+n))
    simp only [List.length_drop] at hsl
    have hkl:l.length - (k+n)≤big:=by unfold big; omega
    simp only [bP,sc,if_true,if_false,Bool.false_eq_true,Bool.true_eq_false,reduceCtorEq,aC,eG,jN,jO,jP,jQ,gU,dW,jR,gN,jB,fU,V.bool.injEq,Bool.true_and,Bool.and_true,Bool.false_and,Bool.and_false,Bool.true_or,Bool.or_true,Bool.false_or,Bool.or_false,Bool.not_true,Bool.not_false,aH,bF,aX,aR,bI,aY,gO,gP,fX,gH,fL,gI,fY,gJ,gQ,gR,gS,gT,cM,eH,eI,aO,bJ,bK,cK,cN,cX,dF,List.all_cons,List.all_nil,List.length_cons,List.length_nil,Bool.and_true,Nat.zero_add,Nat.reduceAdd,and_self,Bool.not_true,rB,aE,List.getD_cons_zero,List.getD_cons_succ]
    rw [bA4 (by simp) (by simp [V.cells,V.iW])]
    simp only [if_true,if_false,Bool.false_eq_true,Bool.true_eq_false,reduceCtorEq,aC,eG,jN,jO,jP,jQ,gU,dW,jR,gN,jB,fU,V.bool.injEq,Bool.true_and,Bool.and_true,Bool.false_and,Bool.and_false,Bool.true_or,Bool.or_true,Bool.false_or,Bool.or_false,Bool.not_true,Bool.not_false,aH,bF,aX,aR,bI,aY,gO,gP,fX,gH,fL,gI,fY,gJ,gQ,gR,gS,gT,cM,eH,eI,aO,bJ,bK,cK,cN,cX,dF]
    rw [aHz (n:=3) (b:=32) (by simp; omega) (aRj (f:=qC) fun a=>rfl) (by simp [V.cells])]
    simp only [if_true,if_false,Bool.false_eq_true,Bool.true_eq_false,reduceCtorEq,aC,eG,jN,jO,jP,jQ,gU,dW,jR,gN,jB,fU,V.bool.injEq,Bool.true_and,Bool.and_true,Bool.false_and,Bool.and_false,Bool.true_or,Bool.or_true,Bool.false_or,Bool.or_false,Bool.not_true,Bool.not_false,aH,bF,aX,aR,bI,aY,gO,gP,fX,gH,fL,gI,fY,gJ,gQ,gR,gS,gT,cM,eH,eI,aO,bJ,bK,cK,cN,cX,dF,hn]
    rw [vQ (by omega) (by omega),hcast]
    simp only [if_true,if_false,Bool.false_eq_true,Bool.true_eq_false,reduceCtorEq,aC,eG,jN,jO,jP,jQ,gU,dW,jR,gN,jB,fU,V.bool.injEq,Bool.true_and,Bool.and_true,Bool.false_and,Bool.and_false,Bool.true_or,Bool.or_true,Bool.false_or,Bool.or_false,Bool.not_true,Bool.not_false,aH,bF,aX,aR,bI,aY,gO,gP,fX,gH,fL,gI,fY,gJ,gQ,gR,gS,gT,cM,eH,eI,aO,bJ,bK,cK,cN,cX,dF,a7w hkn,c_toke_skip,pN,List.length_drop,hkl]
    rw [vQ (by omega) (by omega)]
    refine hr _ ⟨k+n+eS false (l.drop (k+n)),dn++[((fM (l.drop k)).1,k,(fM (l.drop k)).2.1)],f,by simp [qC,a90],by omega,by simp; omega,by omega,?_⟩ (by simp [gv,a0v]; omega)
    rw [htk]; simp
  ·have hlt':¬ (k:Int) < (l.length:Int):=by omega
   have hnil:l.drop k=[]:=List.drop_eq_nil_of_le (by omega)
   have hst:nH f k []=([],none):=by cases f <;> rfl
   rw [hnil,hst] at htk
   simp [hlt',iI,hbig,htk,bM]
end Go.Fbs
