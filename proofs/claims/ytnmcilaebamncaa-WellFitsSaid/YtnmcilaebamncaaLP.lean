/- Tuples that fit: told. -/
import Derived.Test.YtnmcilaebamncaaLO
set_option linter.unusedVariables false
set_option linter.unusedSimpArgs false
set_option linter.unusedSectionVars false
set_option maxRecDepth 100000
namespace Go.Fbs
open Go.Proofs
attribute [local irreducible] cN bX opt
theorem b7j (x y:Sub) (neg:Bool):aAk [2,2,2] neg (kL x) (kL y)=some (.bool (decide (x=y) != neg)):=by
 obtain ⟨a,b,c⟩:=x
 obtain ⟨a',b',c'⟩:=y
 have:(a == a' && (b == b' && c == c'))=decide ((a,b,c)=(a',b',c')):=by
  by_cases h1:a=a' <;> by_cases h2:b=b' <;> by_cases h3:c=c' <;> simp [h1,h2,h3]
 simp only [aAk,kL,eY,eqS,Option.map_some,Bool.and_true,this]
theorem b7k {l : List Sub} {i : Nat} {x : Sub} (h : l[i]? = some x) : eJ true 3 (l6 l) (vI (i : Nat)) = some (kL x):=by
 refine aAu (cs:=[.str x.1,.str x.2.1,.str x.2.2]) ?_ rfl rfl .i64
 rw [zvz,h]; rfl
theorem aZ1 {l : List Rel} {i : Nat} {x : Rel} (h : l[i]? = some x) : eJ true 3 (lJ l) (vI (i : Nat)) = some (kF x):=by
 refine aAu (cs:=[.str x.1,l6 x.2.1,fY x.2.2]) ?_ rfl rfl .i64
 rw [zvz,h]; rfl
theorem aZ2 {l : List j0} {i : Nat} {x : j0} (h : l[i]? = some x) : eJ true 2 (iU l) (vI (i : Nat)) = some (mB x):=by
 refine aAu (cs:=[.str x.1,lJ x.2]) ?_ rfl rfl .i64
 rw [zvz,h]; rfl
theorem aTp (a b:List UInt8):aB .eql (.str a) (.str b)=some (.bool (decide (a=b))):=by
 rw [bBx]
 congr 2
 by_cases h:a=b <;> simp [h]
def mO {α : Type} (p : α → Bool) (l : List α) (k : Nat) : Int:=match (l.drop k).findIdx? p with | some j=>(k + j : Nat) | none=>-1
theorem aFe {α:Type} {p:α→Bool} {l:List α} {k:Nat} (h:l.length≤k):mO p l k = -1:=by
 unfold mO; rw [List.drop_eq_nil_of_le h]; rfl
theorem aI5 {α : Type} {p : α → Bool} {l : List α} {k : Nat} {b : α} (h : l[k]? = some b) : mO p l k = if p b = true then ((k : Nat) : Int) else mO p l (k + 1):=by
 have hk:k < l.length:=(zzy.1 h).1
 have hb:l[k]=b:=(zzy.1 h).2
 unfold mO
 rw [List.drop_eq_getElem_cons hk,hb,List.findIdx?_cons]
 by_cases hc:p b=true
 ·simp [hc]
 ·rw [if_neg hc,if_neg hc]
  cases (l.drop (k + 1)).findIdx? p with
  | none=>rfl
  | some j=>simp only [Option.map_some]; omega
noncomputable def jF:Spec:=iA (fun q:List Sub×Sub=>[l6 q.1,kL q.2]) (fun q=>q.1.length≤big) (fun q=>vI (mO (fun y=>decide (y=q.2)) q.1 0))
theorem b7l:∀ a b:List Sub×Sub,[l6 a.1,kL a.2]=[l6 b.1,kL b.2]→a=b:=fun a b h=>by
 simp only [List.cons.injEq,and_true,l6,V.sl.injEq,true_and] at h
 exact Prod.ext (rR (fun _ _=>aIu) h.1) (aIu h.2)
theorem bAa {l:List Sub} (h:l.length≤big) (x:Sub):jF [l6 l,kL x]=some (vI (mO (fun y=>decide (y=x)) l 0)):=gV (a:=(l,x)) b7l h
theorem a0a:dD Try.prog gT jF:=by
 refine zZ (T:=[]) aL.nil fun args v hv=>?_
 obtain ⟨⟨l,x⟩,rfl,hl,rfl⟩:=eR hv
 refine ⟨rfl,by simp [aO,aA8,V.bP,kL],rfl,?_⟩
 refine Eq.mpr (a03 (bL _) _ (l6 l) (kL x)) ?_
 simp only at hl
 unfold big at hl
 rw [b66,aA,aSz,aA]
 refine fK (fun vs=>∃ k:Nat,vs=[vI k]∧k≤l.length∧mO (fun y=>decide (y=x)) l k=mO (fun y=>decide (y=x)) l 0) (fun vs=>l.length - fN (gv vs 0)) ⟨0,rfl,Nat.zero_le _,rfl⟩ ?_
 rintro r _ ⟨k,rfl,hk,he⟩ hr
 refine ⟨rfl,?_⟩
 simp only [lY]
 rw [a5z,aA,bY]
 by_cases hlt:k < l.length
 ·rw [if_pos (by simp only [decide_eq_true_eq]; omega)]
  have hx : l[k]? = some l[k]:=zyz hlt
  rw [aI5 hx] at he
  rw [b7k hx,aA,b7j,aA,Bool.bne_false,bY]
  by_cases hq:l[k]=x
  ·rw [if_pos (by simpa using hq)] at he
   rw [if_pos (by simpa using hq.symm),← he]
  ·rw [if_neg (by simpa using hq)] at he
   rw [if_neg (by simpa using fun e=>hq e.symm),aEc,iR (by omega) (by omega),aA]
   exact hr _ ⟨k+1,rfl,hlt,he⟩ (by simp [gv,fN]; omega)
 ·rw [if_neg (by simp only [decide_eq_true_eq]; omega)]
  rw [aFe (by omega)] at he
  rw [← he]
theorem b2w {l:List Sub} {x:Sub} : decide (0≤mO (fun y=>decide (y=x)) l 0)=decide (x ∈ l):=by
 unfold mO
 simp only [List.drop_zero]
 cases h : l.findIdx? (fun y=>decide (y = x)) with
 | none =>
  rw [List.findIdx?_eq_none_iff] at h
  have:x ∉ l:=fun hc=>by have:=h x hc; simp at this
  simp [this]
 | some j =>
  have:x ∈ l:=by
   obtain ⟨hj,h1,_⟩:=List.findIdx?_eq_some_iff_getElem.1 h
   simp only [decide_eq_true_eq] at h1
   rw [← h1]; exact List.getElem_mem hj
  simp [this]
noncomputable def iM:Spec:=iA (fun q:List Sub×Sub=>[l6 q.1,kL q.2]) (fun q=>q.1.length≤big) (fun q=>.bool (decide (q.2 ∈ q.1)))
theorem bFi {l:List Sub} (h:l.length≤big) (x:Sub):iM [l6 l,kL x]=some (.bool (decide (x ∈ l))):=gV (a:=(l,x)) b7l h
noncomputable abbrev TLc:List (FuncId×Spec):=[(gT,jF)]
theorem xY:dD Try.prog fT iM:=by
 refine xU (T:=TLc) (aL.cons a0a aL.nil) fun args v hv=>?_
 have c1:∀ args,bL TLc gT args=jF args:=fun _=>rfl
 obtain ⟨⟨l,x⟩,rfl,hl,rfl⟩:=eR hv
 refine ⟨rfl,by simp [aO,aA8,V.bP,kL],rfl,?_⟩
 refine Eq.mpr (yJ (bL _) _ (l6 l) (kL x)) ?_
 simp only at hl
 rw [b66,aA,c1,bAa hl,aA,aY5,aA,b2w]
theorem aLm {α:Type} {w:α→V} (hw:∀ a b,w a=w b→a=b):∀ a b:α×kA,[w a.1,a.2.v]=[w b.1,b.2.v]→a=b:=fun a b h=>by
 simp only [List.cons.injEq,and_true] at h
 refine Prod.ext (hw _ _ h.1) ?_
 obtain ⟨_,x⟩:=a
 obtain ⟨_,y⟩:=b
 obtain ⟨a,b,c,d,e,f⟩:=x
 obtain ⟨a',b',c',d',e',f'⟩:=y
 simpa [kA.v] using h.2
theorem aGn (x:kA):aI [.str x.a,.str x.b,.str x.c,.str x.d,.str x.e,.str x.f]=some x.v:=nr rfl
theorem aFf (x:kA):aI [a7 x.v 0,a7 x.v 1,a7 x.v 2,a7 x.v 3,a7 x.v 4,a7 x.v 5]=some x.v:=nr rfl
theorem aGo (x:kA):bD 6 x.v=some x.v:=nr rfl
theorem aZ3 (x:kA):a7 x.v 0 = .str x.a∧a7 x.v 1 = .str x.b∧a7 x.v 2 = .str x.c∧a7 x.v 3 = .str x.d∧a7 x.v 4 = .str x.e∧a7 x.v 5 = .str x.f:=⟨rfl,rfl,rfl,rfl,rfl,rfl⟩
theorem tX (x:kA):x.v.bP=true:=rfl
noncomputable def aGp:Spec:=iA (fun q:j0×kA=>[mB q.1,q.2.v]) (fun _=>True) (fun q=>.aM [.bool (decide (q.1.1=q.2.a)),q.2.v])
theorem bDb (t:j0) (x:kA):aGp [mB t,x.v]=some (.aM [.bool (decide (t.1=x.a)),x.v]):=gV (a:=(t,x)) (aLm fun _ _=>aS2) trivial
theorem aLn:fX Try.prog aCc iK aGp:=by
 refine aIq (T:=[]) aL.nil fun words v hv=>?_
 obtain ⟨⟨t,x⟩,rfl,_,rfl⟩:=eR hv
 refine ⟨_,rfl,rfl,by simp [aO,aNy,tX],by simp [aO,tX,V.bP],rfl,rfl,?_⟩
 refine Eq.mpr (aK2 (bL _) _ (mB t) (.str x.a) (.str x.b) (.str x.c) (.str x.d) (.str x.e) (.str x.f)) ?_
 rw [bEz,aA,show a7 (mB t) 0 = .str t.1 from rfl,aTp,aA,aGn,aA]
noncomputable def aGq:Spec:=iA (fun q:Rel×kA=>[kF q.1,q.2.v]) (fun _=>True) (fun q=>.aM [.bool (decide (q.1.1=q.2.c)),q.2.v])
theorem bDc (t:Rel) (x:kA):aGq [kF t,x.v]=some (.aM [.bool (decide (t.1=x.c)),x.v]):=gV (a:=(t,x)) (aLm fun _ _=>aIv) trivial
theorem aLo:fX Try.prog aCd iL aGq:=by
 refine aIr (T:=[]) aL.nil fun words v hv=>?_
 obtain ⟨⟨t,x⟩,rfl,_,rfl⟩:=eR hv
 refine ⟨_,rfl,rfl,by simp [aO,aEs,tX],by simp [aO,tX,V.bP],rfl,rfl,?_⟩
 refine Eq.mpr (aK3 (bL _) _ (kF t) (.str x.a) (.str x.b) (.str x.c) (.str x.d) (.str x.e) (.str x.f)) ?_
 rw [bE0,aA,show a7 (kF t) 0 = .str t.1 from rfl,aTp,aA,aGn,aA]
noncomputable def aPe:Spec:=iA (fun q:List j0×kA=>[iU q.1,q.2.v]) (fun q=>q.1.length≤big) (fun q=>.aM [vI (mO (fun t=>decide (t.1=q.2.a)) q.1 0),q.2.v])
theorem aOc {a b:List j0} (h:iU a=iU b):a=b:=by
 simp only [iU,V.sl.injEq,true_and] at h
 exact rR (fun _ _=>aS2) h
theorem b2x {a b:List Rel} (h:lJ a=lJ b):a=b:=by
 simp only [lJ,V.sl.injEq,true_and] at h
 exact rR (fun _ _=>aIv) h
theorem bHy {l:List j0} (h:l.length≤big) (x:kA):aPe [iU l,x.v]=some (.aM [vI (mO (fun t=>decide (t.1=x.a)) l 0),x.v]):=gV (a:=(l,x)) (aLm fun _ _=>aOc) h
noncomputable abbrev TLi:List (FuncId×Spec):=[(a3y,aGp)]
theorem bAb:fX Try.prog nQ bI aPe:=by
 refine uH (T:=TLi) (aL.jM aLn aL.nil) fun words v hv=>?_
 have c1:∀ args,bL TLi a3y args=aGp args:=fun _=>rfl
 obtain ⟨⟨l,x⟩,rfl,hl,rfl⟩:=eR hv
 refine ⟨_,rfl,rfl,by simp [aO,a4z,tX],by simp [aO,tX,V.bP],rfl,rfl,?_⟩
 refine Eq.mpr (uU (bL _) _ (iU l) (.str x.a) (.str x.b) (.str x.c) (.str x.d) (.str x.e) (.str x.f)) ?_
 simp only at hl
 unfold big at hl
 rw [aS1,aA]
 refine fK (fun vs=>∃ k:Nat,vs=[vI k,.str x.a,.str x.b,.str x.c,.str x.d,.str x.e,.str x.f]∧k≤l.length∧mO (fun t=>decide (t.1=x.a)) l k=mO (fun t=>decide (t.1=x.a)) l 0) (fun vs=>l.length - fN (gv vs 0)) ⟨0,rfl,Nat.zero_le _,rfl⟩ ?_
 rintro r _ ⟨k,rfl,hk,he⟩ hr
 refine ⟨rfl,?_⟩
 simp only [lY,n9]
 rw [a5z,aA,bY]
 by_cases hlt:k < l.length
 ·rw [if_pos (by simp only [decide_eq_true_eq]; omega)]
  have hx : l[k]? = some l[k]:=zyz hlt
  rw [aI5 hx] at he
  rw [aZ2 hx,aA,aGn,aA,c1,bDb,aA,x0,aA,x1,aA,aGo,aA,bY]
  by_cases hq:decide (l[k].1=x.a)=true
  ·rw [if_pos hq] at he
   rw [if_pos hq,aFf,aA,← he]
  ·rw [if_neg hq] at he
   rw [if_neg hq,aEc,iR (by omega) (by omega),aA]
   exact hr _ ⟨k+1,rfl,hlt,he⟩ (by simp [gv,fN]; omega)
 ·rw [if_neg (by simp only [decide_eq_true_eq]; omega)]
  rw [aFe (by omega)] at he
  rw [aGn,aA,← he]
noncomputable def aPf:Spec:=iA (fun q:List Rel×kA=>[lJ q.1,q.2.v]) (fun q=>q.1.length≤big) (fun q=>.aM [vI (mO (fun t=>decide (t.1=q.2.c)) q.1 0),q.2.v])
theorem bHz {l:List Rel} (h:l.length≤big) (x:kA):aPf [lJ l,x.v]=some (.aM [vI (mO (fun t=>decide (t.1=x.c)) l 0),x.v]):=gV (a:=(l,x)) (aLm fun _ _=>b2x) h
noncomputable abbrev TLj:List (FuncId×Spec):=[(a3z,aGq)]
theorem bAc:fX Try.prog p7 bM aPf:=by
 refine vQ (T:=TLj) (aL.jM aLo aL.nil) fun words v hv=>?_
 have c1:∀ args,bL TLj a3z args=aGq args:=fun _=>rfl
 obtain ⟨⟨l,x⟩,rfl,hl,rfl⟩:=eR hv
 refine ⟨_,rfl,rfl,by simp [aO,aK7,tX],by simp [aO,tX,V.bP],rfl,rfl,?_⟩
 refine Eq.mpr (wT (bL _) _ (lJ l) (.str x.a) (.str x.b) (.str x.c) (.str x.d) (.str x.e) (.str x.f)) ?_
 simp only at hl
 unfold big at hl
 rw [aS0,aA]
 refine fK (fun vs=>∃ k:Nat,vs=[vI k,.str x.a,.str x.b,.str x.c,.str x.d,.str x.e,.str x.f]∧k≤l.length∧mO (fun t=>decide (t.1=x.c)) l k=mO (fun t=>decide (t.1=x.c)) l 0) (fun vs=>l.length - fN (gv vs 0)) ⟨0,rfl,Nat.zero_le _,rfl⟩ ?_
 rintro r _ ⟨k,rfl,hk,he⟩ hr
 refine ⟨rfl,?_⟩
 simp only [lY,n9]
 rw [a5z,aA,bY]
 by_cases hlt:k < l.length
 ·rw [if_pos (by simp only [decide_eq_true_eq]; omega)]
  have hx : l[k]? = some l[k]:=zyz hlt
  rw [aI5 hx] at he
  rw [aZ1 hx,aA,aGn,aA,c1,bDc,aA,x0,aA,x1,aA,aGo,aA,bY]
  by_cases hq:decide (l[k].1=x.c)=true
  ·rw [if_pos hq] at he
   rw [if_pos hq,aFf,aA,← he]
  ·rw [if_neg hq] at he
   rw [if_neg hq,aEc,iR (by omega) (by omega),aA]
   exact hr _ ⟨k+1,rfl,hlt,he⟩ (by simp [gv,fN]; omega)
 ·rw [if_neg (by simp only [decide_eq_true_eq]; omega)]
  rw [aFe (by omega)] at he
  rw [aGn,aA,← he]
end Go.Fbs
