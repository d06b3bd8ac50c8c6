import Derived.Test.YtngdbicnabbplaaPJ
import Derived.Test.YtngdbicnabbplaaPK
import Derived.Test.YtngdbicnabbplaaPH
set_option linter.unusedSimpArgs false
set_option linter.unusedVariables false
set_option linter.unusedSectionVars false
set_option maxRecDepth 100000
namespace Go.Fbs
open Go.Proofs
attribute [local irreducible] sP gR
end Go.Fbs

namespace Go.Fbs
open Go.Proofs
attribute [local irreducible] sP gR gS
end Go.Fbs

namespace Go.Fbs
open Go.Proofs
variable {l:List TM} {typ:B8}
def wT (l:List TM) (typ:B8):Tr→List Wy
 | .nm a=>jR l typ (1,a,[])
 | .ar a b=>jR l typ (2,a,b)
 | .op k x y=>wT l typ x++mG (decide (k=4)) (wT l typ y)
theorem aD1:∀ {t:Tr} {st:List (List Wy)},t.ok→t.steps.foldl (pA l typ) st=wT l typ t::st
 | .nm a,st,_=>by
  show pA l typ st (1,a,[])=_
  unfold pA
  rw [if_pos (.inl rfl)]
  rfl
 | .ar a b,st,_=>by
  show pA l typ st (2,a,b)=_
  unfold pA
  rw [if_pos (.inr rfl)]
  rfl
 | .op k x y,st,⟨hk,hx,hy⟩=>by
  show (x.steps++(y.steps++[(k,[],[])])).foldl (pA l typ) st=_
  rw [List.foldl_append,aD1 hx,List.foldl_append,aD1 hy]
  show pA l typ (wT l typ y::wT l typ x::st) (k,[],[])=_
  unfold pA
  rw [if_neg (by show ¬ (k=1∨k=2); omega)]
  rfl
theorem b2p {t:Tr} (h:t.ok):lS l typ t.steps=wT l typ t:=by
 unfold lS qD
 rw [aD1 h]
 rfl
def lvs:Tr→Bool→List (cV×Bool)
 | .nm a,b=>[((1,a,[]),b)]
 | .ar a c,b=>[((2,a,c),b)]
 | .op k x y,b=>lvs x b++lvs y (b || decide (k=4))
theorem b9g (b:Bool) (x y:List Wy):mG b (x++y)=mG b x++mG b y:=by unfold mG; split <;> simp
theorem b6d (b c:Bool) (x:List Wy):mG b (mG c x)=mG (b || c) x:=by cases b <;> cases c <;> simp [mG]
theorem aV2:∀ (t:Tr) (b:Bool),mG b (wT l typ t)=(lvs t b).flatMap fun p=>mG p.2 (jR l typ p.1)
 | .nm a,b=>by simp [wT,lvs]
 | .ar a c,b=>by simp [wT,lvs]
 | .op k x y,b=>by
  show mG b (wT l typ x++mG _ (wT l typ y))=(lvs x b++lvs y _).flatMap _
  rw [b9g,b6d,List.flatMap_append,aV2 x,aV2 y]
theorem b6e {t:Tr} (h:t.ok):lS l typ t.steps=(lvs t false).flatMap fun p=>mG p.2 (jR l typ p.1):=by
 rw [b2p h,← aV2]
 rfl
def Told (f:Nat→Bool):Tr→Bool→Nat→Prop
 | .nm _,b,o=>f o=b
 | .ar _ _,b,o=>f o=b
 | .op k x y,b,o=>Told f x b o∧Told f y (b || decide (k=4)) (o+x.steps.length)
theorem aZd (xs ys:List cV) (o:Nat):(xs++ys).zipIdx o=xs.zipIdx o++ys.zipIdx (o+xs.length):=List.zipIdx_append ..
theorem aD2 {f:Nat→Bool} : ∀ {t:Tr} {b:Bool} {o:Nat},t.ok→Told f t b o→(t.steps.zipIdx o).flatMap (fun p=>aDz l typ p.1 (f p.2))=(lvs t b).flatMap fun p=>aDz l typ p.1 p.2
 | .nm a,b,o,_,h=>by
  have h:f o=b:=h
  simp [Tr.steps,lvs,h]
 | .ar a c,b,o,_,h=>by
  have h:f o=b:=h
  simp [Tr.steps,lvs,h]
 | .op k x y,b,o,⟨hk,hx,hy⟩,⟨h1,h2⟩=>by
  show ((x.steps++(y.steps++[(k,[],[])])).zipIdx o).flatMap _=(lvs x b++lvs y _).flatMap _
  rw [aZd,aZd,List.flatMap_append,List.flatMap_append,List.flatMap_append,aD2 hx h1,aD2 hy h2]
  have e:aDz l typ (k,[],[]) (f (o+x.steps.length+y.steps.length))=[]:=by
   unfold aDz
   rw [if_neg (by show ¬ k=1; omega),if_neg (by show ¬ k=2; omega)]
  simp [e]
def bgT:Tr→Nat→Nat
 | .nm _,_=>0
 | .ar _ _,_=>0
 | .op _ x y,i=>if i < x.steps.length then bgT x i else if i < x.steps.length+y.steps.length then x.steps.length+bgT y (i - x.steps.length) else x.steps.length
theorem aEr (a b:Nat) (p:Nat→Bool):(List.range (a+b)).any p=((List.range a).any p || (List.range b).any fun i=>p (a+i)):=by
 rw [List.range_add,List.any_append,List.any_map]
 rfl
def aD3 (t:Tr) (j:Nat):Bool:=aDy t.steps (bgT t) t.steps.length j
theorem any_congr {n:Nat} {p q:Nat→Bool} (h:∀ i,i < n→p i=q i):(List.range n).any p=(List.range n).any q:=by
 induction n with
 | zero=>rfl
 | succ n ih =>
  rw [List.range_succ,List.any_append,List.any_append,ih fun i hi=>h i (by omega)]
  simp [h n (by omega)]
theorem any_none {n:Nat} {p:Nat→Bool} (h:∀ i,i < n→p i=false):(List.range n).any p=false:=by
 rw [any_congr h]
 induction n with
 | zero=>rfl
 | succ n ih=>rw [List.range_succ,List.any_append,ih fun i hi=>h i (by omega)]; rfl
theorem aV3 {k:Int} {x y:Tr} {j:Nat} (hj:j < x.steps.length+y.steps.length):aD3 (.op k x y) j=if j < x.steps.length then aD3 x j else (decide (k=4) || aD3 y (j - x.steps.length)):=by
 have hl:(Tr.op k x y).steps.length=x.steps.length+(y.steps.length+1):=by simp [Tr.steps]
 have g1 : ∀ i,i < x.steps.length → (Tr.op k x y).steps[i]? = x.steps[i]?:=fun i hi=>by
  show (x.steps ++ (y.steps ++ [(k,[],[])]))[i]? = _
  exact ztz hi
 have g2 : ∀ i,i < y.steps.length → (Tr.op k x y).steps[x.steps.length + i]? = y.steps[i]?:=fun i hi=>by
  show (x.steps ++ (y.steps ++ [(k,[],[])]))[_]? = _
  rw [ztx (by omega),Nat.add_sub_cancel_left,ztz hi]
 have g3 : (Tr.op k x y).steps[x.steps.length + y.steps.length]? = some (k,[],[]):=by
  show (x.steps ++ (y.steps ++ [(k,[],[])]))[_]? = _
  rw [ztx (by omega),Nat.add_sub_cancel_left,ztx (by omega),Nat.sub_self]
  rfl
 have b1:∀ i,i < x.steps.length→bgT (.op k x y) i=bgT x i:=fun i hi=>by show (if _ then _ else _)=_; rw [if_pos hi]
 have b2:∀ i,i < y.steps.length→bgT (.op k x y) (x.steps.length+i)=x.steps.length+bgT y i:=fun i hi=>by
  show (if _ then _ else _)=_
  rw [if_neg (by omega),if_pos (by omega),Nat.add_sub_cancel_left]
 have b3:bgT (.op k x y) (x.steps.length+y.steps.length)=x.steps.length:=by
  show (if _ then _ else _)=_
  rw [if_neg (by omega),if_neg (by omega)]
 unfold aD3 aDy
 rw [hl,aEr,aEr]
 have e3 : ((List.range 1).any fun i=>a1t (Tr.op k x y).steps[x.steps.length + (y.steps.length + i)]? && decide (bgT (.op k x y) (x.steps.length + (y.steps.length + i)) ≤ j) && decide (j < x.steps.length + (y.steps.length + i))) = (decide (k = 4) && decide (x.steps.length ≤ j) && decide (j < x.steps.length + y.steps.length)):=by
  show (_ || false)=_
  rw [Bool.or_false]
  show (a1t (Tr.op k x y).steps[x.steps.length + y.steps.length]? && decide (bgT (.op k x y) (x.steps.length + y.steps.length) ≤ j) && decide (j < x.steps.length + y.steps.length)) = _
  rw [g3,b3]
  rfl
 rw [e3]
 by_cases hx:j < x.steps.length
 ·rw [if_pos hx]
  have e1 : ((List.range x.steps.length).any fun p=>a1t (Tr.op k x y).steps[p]? && decide (bgT (.op k x y) p ≤ j) && decide (j < p)) = ((List.range x.steps.length).any fun p=>a1t x.steps[p]? && decide (bgT x p ≤ j) && decide (j < p)) :=
   any_congr fun i hi=>by rw [g1 i hi,b1 i hi]
  rw [e1,any_none (n:=y.steps.length) fun i hi=>by rw [g2 i hi,b2 i hi]; simp; intros; omega]
  have:decide (x.steps.length≤j)=false:=by simp; omega
  simp [this]
 ·rw [if_neg hx]
  have e1 : ((List.range x.steps.length).any fun p=>a1t (Tr.op k x y).steps[p]? && decide (bgT (.op k x y) p ≤ j) && decide (j < p)) = false :=
   any_none fun i hi=>by
    have:decide (j < i)=false:=by simp; omega
    rw [this,Bool.and_false]
  have e2 : ((List.range y.steps.length).any fun i=>a1t (Tr.op k x y).steps[x.steps.length + i]? && decide (bgT (.op k x y) (x.steps.length + i) ≤ j) && decide (j < x.steps.length + i)) = ((List.range y.steps.length).any fun p=>a1t y.steps[p]? && decide (bgT y p ≤ j - x.steps.length) && decide (j - x.steps.length < p)) :=
   any_congr fun i hi=>by
    rw [g2 i hi,b2 i hi]
    have a1:decide (x.steps.length+bgT y i≤j)=decide (bgT y i≤j - x.steps.length):=by rw [decide_eq_decide]; omega
    have a2:decide (j < x.steps.length+i)=decide (j - x.steps.length < i):=by rw [decide_eq_decide]; omega
    rw [a1,a2]
  rw [e1,e2]
  have a1:decide (x.steps.length≤j)=true:=by simp; omega
  have a2:decide (j < x.steps.length+y.steps.length)=true:=by simpa using hj
  rw [a1,a2]
  simp [Bool.or_comm]
theorem aPi:∀ {t:Tr} {b:Bool} {o:Nat} {f:Nat→Bool},(∀ j,j < t.steps.length→f (o+j)=(b || aD3 t j))→Told f t b o
 | .nm a,b,o,f,h=>by
  have:=h 0 (by simp [Tr.steps])
  show f o=b
  rw [Nat.add_zero] at this
  rw [this]
  simp [aD3,aDy,Tr.steps]
 | .ar a c,b,o,f,h=>by
  have:=h 0 (by simp [Tr.steps])
  show f o=b
  rw [Nat.add_zero] at this
  rw [this]
  simp [aD3,aDy,Tr.steps]
 | .op k x y,b,o,f,h=>by
  have hl:(Tr.op k x y).steps.length=x.steps.length+(y.steps.length+1):=by simp [Tr.steps]
  refine ⟨aPi fun j hj=>?_,aPi fun j hj=>?_⟩
  ·rw [h j (by omega),aV3 (by omega),if_pos hj]
  ·rw [Nat.add_assoc,h (x.steps.length+j) (by omega),aV3 (by omega),if_neg (by omega),Nat.add_sub_cancel_left,Bool.or_assoc]
theorem b6f {t:Tr} (h:t.ok):aVs l typ t.steps (aDy t.steps (bgT t) t.steps.length)=(lvs t false).flatMap fun p=>aDz l typ p.1 p.2 :=
 aD2 h (aPi fun j hj=>by rw [Nat.zero_add,Bool.false_or]; rfl)
end Go.Fbs
