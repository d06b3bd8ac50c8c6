import Derived.Test.YtngdbicnabbplaaHF
import Derived.Shelf.Strings.Search1
import Derived.Shelf.Strings.Search2
import Derived.Shelf.Strings.Search3
import Derived.Shelf.LaysM
import Derived.Shelf.Strings.Shaped
import Derived.Shelf.Strings.Prefix
import Derived.Test.YtngdbicnabbplaaProg
import Derived.Test.YtngdbicnabbplaaS2
import Derived.Test.YtngdbicnabbplaaHT
set_option linter.unusedSimpArgs false
set_option linter.unusedVariables false
set_option linter.unusedSectionVars false
set_option maxRecDepth 100000

namespace Go.Fbs
open Go.Proofs
end Go.Fbs

namespace Go.Proofs
open Go.Shelf
end Go.Proofs

namespace Go.Fbs
open Go.Proofs
end Go.Fbs

namespace Go.Fbs
open Go.Proofs
def jG (c:Int):Bool:=(decide (97≤c) && decide (c≤122)) || (decide (48≤c) && decide (c≤57)) || decide (c=95)
def pX (l:List UInt8):Nat:=(l.takeWhile fun c=>jG c.toNat).length
end Go.Fbs

namespace Go.Fbs
open Go.Proofs
def yQ (c:UInt8):Bool:=c == 32 || c == 9 || c == 13 || c == 10
def dV:Bool→List UInt8→Nat
 | _,[]=>0
 | true,c::r=>if c=10 then 1+dV false r else 1+dV true r
 | false,c :: r=>if c = 47 ∧ r.head? = some 47 then 1 + dV true r else if yQ c then 1 + dV false r else 0
theorem aBf:∀ (l:List UInt8),(10:UInt8) ∉ l→dV true l=l.length
 | [],_=>rfl
 | c::r,h=>by
  simp only [List.mem_cons,not_or] at h
  simp only [dV,zwx]
  rw [if_neg (fun e=>h.1 e.symm),aBf r h.2,Nat.add_comm]
theorem aEk : ∀ (l : List UInt8) (k : Nat),l[k]? = some 10 → (10 : UInt8) ∉ l.take k → dV true l = k + dV false (l.drop k)
 | [],k,h,_=>by simp at h
 | c::r,0,h,_=>by
  simp at h; subst h
  simp [dV,yQ]
 | c::r,k+1,h,hn=>by
  simp only [List.take_succ_cons,List.mem_cons,not_or] at hn
  simp only [dV,List.drop_succ_cons]
  rw [if_neg (fun e=>hn.1 e.symm),aEk r k (by simpa using h) hn.2,Nat.add_comm k 1,Nat.add_assoc]
theorem aQa (r:List UInt8):dV false (47::47::r)=dV true (47::47::r):=by
 simp [dV]
def aUf:List UInt8:=[123,125,58,59,124,35,61,43,45,38,40,41]
def eU (l:List UInt8):Int×List UInt8×Bool :=
 if 0 < pX l then (1,l.take (pX l),true)
 else if [45,62].isPrefixOf l then (2,[45,62],true)
 else (2,l.take 1,decide (l.getD 0 0 ∈ aUf))
def b8d (k:Int) (at_:Int) (x:List UInt8):V:=.agg [vI k,vI at_,.str x]
end Go.Fbs

namespace Go.Fbs
open Go.Proofs
def iE:Nat→Nat→List UInt8→List (Int×Nat×List UInt8)×Option Nat
 | 0,_,_=>([],none)
 | _+1,_,[]=>([],none)
 | f+1,k,c::l =>
  if (eU (c::l)).2.2=false then ([],some k)
  else
   let r:=(c::l).drop (eU (c::l)).2.1.length
   let q:=iE f (k+(eU (c::l)).2.1.length+dV false r) (r.drop (dV false r))
   (((eU (c::l)).1,k,(eU (c::l)).2.1)::q.1,q.2)
def cP (l:List UInt8):List (Int×Nat×List UInt8)×Nat×Int :=
 if 100000 < l.length then ([],0,8)
 else
  let q:=iE l.length (dV false l) (l.drop (dV false l))
  match q.2 with
  | some k=>([],k,7)
  | none=>(q.1,0,0)
def wB (x:Int×Nat×List UInt8):V:=b8d x.1 x.2.1 x.2.2
def bJ (ts:List (Int×Nat×List UInt8)):V:=.sl .ro (ts.map wB)
theorem a1p {l:List UInt8} (hl:l≠[]):1≤(eU l).2.1.length∧(eU l).2.1.length≤l.length:=by
 have h1:1≤l.length:=by cases l with
  | nil=>exact absurd rfl hl
  | cons=>simp
 unfold eU
 split
 ·have:=(List.takeWhile_sublist (fun c:UInt8=>jG c.toNat) (l:=l)).length_le
  unfold pX at *
  simp only [List.length_take]; omega
 ·split
  ·rename_i h
   rw [List.isPrefixOf_iff_prefix] at h
   have:=h.length_le
   exact ⟨by simp,this⟩
  ·simp only [List.length_take]; omega
theorem aJf (ts:List (Int×Nat×List UInt8)):(bJ ts).bU=true:=by
 simp only [bJ,V.bU]; exact a1o fun a=>rfl
end Go.Fbs

namespace Go.Fbs
open Go.Proofs
open Classical in
noncomputable def gV {α:Type} (c:α→List V) (ok:α→Prop) (r:α→V):Spec:=fun words=>if h:∃ a,words=c a∧ok a then some (r (Classical.choose h)) else none
theorem gD {α:Type} {c:α→List V} {ok:α→Prop} {r:α→V} (inj:∀ a b,c a=c b→a=b) {a:α} (h:ok a):gV c ok r (c a)=some (r a):=by
 have hex:∃ b,c a=c b∧ok b:=⟨a,rfl,h⟩
 unfold gV
 rw [dif_pos hex,← inj _ _ (Classical.choose_spec hex).1]
theorem eO {α:Type} {c:α→List V} {ok:α→Prop} {r:α→V} {words:List V} {v:V} (h:gV c ok r words=some v):∃ a,words=c a∧ok a∧v=r a:=by
 unfold gV at h
 split at h
 ·rename_i hex
  simp only [zzz] at h
  exact ⟨_,(Classical.choose_spec hex).1,(Classical.choose_spec hex).2,h.symm⟩
 ·simp at h
abbrev eP:=Int×Nat×List UInt8
abbrev cV:=Int×List UInt8×List UInt8
def b1j (t:eP):Prop:=t.1=1→t.2.2≠[]
structure bQ where
 l:List eP
 w:∀ t ∈ l,b1j t
 n:Nat
 at_:Nat
 e:Int
 d:Nat
 x:List cV
def p6 (s:cV):V:=.agg [vI s.1,.str s.2.1,.str s.2.2]
def fE (l:List cV):V:=.sl .ro (l.map p6)
def vSt (s:bQ):V:=.agg [bJ s.l,vI s.n,vI s.at_,vI s.e,vI s.d,fE s.x]
theorem b8e {a b:eP} (h:wB a=wB b):a=b:=by
 obtain ⟨k,n,x⟩:=a
 obtain ⟨k',n',x'⟩:=b
 simp only [wB,b8d,V.agg.injEq,List.cons.injEq,V.int.injEq,V.str.injEq,and_true,true_and] at h
 obtain ⟨h1,h2,h3⟩:=h
 rw [h1,h3,Int.ofNat_inj.1 h2]
theorem aKo {a b:cV} (h:p6 a=p6 b):a=b:=by
 obtain ⟨k,n,x⟩:=a
 obtain ⟨k',n',x'⟩:=b
 simp only [p6,V.agg.injEq,List.cons.injEq,V.int.injEq,V.str.injEq,and_true,true_and] at h
 obtain ⟨h1,h2,h3⟩:=h
 rw [h1,h2,h3]
theorem sO {α:Type} {f:α→V} (hf:∀ a b,f a=f b→a=b):∀ {l m:List α},l.map f=m.map f→l=m
 | [],[],_=>rfl
 | [],_::_,h=>by simp at h
 | _::_,[],h=>by simp at h
 | a::l,b::m,h=>by
  simp only [zsx,List.cons.injEq] at h
  rw [hf a b h.1,sO hf h.2]
def fF (s:bQ):eP:=s.l.headD (0,s.n,[])
def aP (s:bQ):bQ:={ s with l:=s.l.tail,w:=fun t h=>s.w t (List.mem_of_mem_tail h) }
def xV (e:Int) (s:bQ):bQ:=if s.e=0 then { s with e:=e,at_:=(fF s).2.1 } else s
def uA (g:List UInt8) (s:bQ):Bool:=decide ((fF s).1=2) && ((fF s).2.2 == g)
def aR5 (s:bQ):Bool:=decide ((fF s).1=1) && ((fF s).2.2 == [116,121,112,101])
def wY (t : eP) : Bool:=decide (t.1 = 1) && (decide (t.2.2.length ≤ 30) && ((t.2.2.head? != some 95) && (t.2.2 != [116,121,112,101])))
def eR (n most:Int) (s:bQ):Bool×bQ:=if n < most then (true,s) else (false,xV 8 s)
def aX (s:bQ):Bool×bQ×Option (List UInt8):=if wY (fF s) then (true,aP s,some (fF s).2.2) else (false,xV 9 s,none)
def mE (g:List UInt8) (s:bQ):Bool×bQ:=if uA g s then (true,aP s) else (false,xV 9 s)
def bX (g:List UInt8) (s:bQ):Bool×bQ:=if uA g s then (true,aP s) else (false,s)
def jZ (p:cV) (a:Nat) (s:bQ):Bool×bQ:=if 200≤s.x.length then (false,{ s with e:=8,at_:=a }) else (true,{ s with x:=s.x++[p] })
theorem b1k {g:List UInt8} {s:bQ} (h:uA g s=true):s.l≠[]:=by
 intro e
 simp [uA,fF,e] at h
theorem aKp {s:bQ} (h:wY (fF s)=true):s.l≠[]:=by
 intro e
 simp [wY,fF,e] at h
theorem b8f {s:bQ} (h:s.l≠[]):fF s ∈ s.l:=by
 unfold fF
 cases hl:s.l with
 | nil=>exact absurd hl h
 | cons a r=>exact List.mem_cons_self
theorem pT2 (t:eP):uC false 1 2 (wB t)=some (.str t.2.2):=nr rfl
theorem x0 (a:V) (r:List V):aC (.aO (a::r)) 0=some a:=nr rfl
theorem x1 (a b:V) (r:List V):aC (.aO (a::b::r)) 1=some b:=nr rfl
theorem x2 (a b c:V) (r:List V):aC (.aO (a::b::c::r)) 2=some c:=nr rfl
theorem x3 (a b c d:V) (r:List V):aC (.aO (a::b::c::d::r)) 3=some d:=nr rfl
theorem ckB (b:Bool):qG (.bool b)=some (.bool b):=nr rfl
noncomputable def aCx:Spec:=gV (fun s:bQ=>[vSt s]) (fun _=>True) (fun s=>.aO [wB (fF s),vSt s])
noncomputable def aCy:Spec:=gV (fun q:bQ×Int=>[vSt q.1,vI q.2]) (fun _=>True) (fun q=>.aO [.bool false,vSt (xV q.2 q.1)])
end Go.Fbs

namespace Go.Fbs
open Go.Proofs
noncomputable def a5f:Spec:=gV (fun q:bQ×List UInt8=>[vSt q.1,.str q.2]) (fun _=>True) (fun q=>.aO [.bool (uA q.2 q.1),vSt q.1])
noncomputable abbrev T1:List (FuncId×Spec):=[(aGb,aCx)]
noncomputable def aCz:Spec:=gV (fun q:bQ×List UInt8=>[vSt q.1,.str q.2]) (fun _=>True) (fun q=>.aO [.bool (mE q.2 q.1).1,vSt (mE q.2 q.1).2])
noncomputable abbrev T2:List (FuncId×Spec):=[(a7z,a5f),(aGc,aCy)]
noncomputable abbrev T3:List (FuncId×Spec):=[(a7z,a5f),(aGe,aCz)]
end Go.Fbs

namespace Go.Fbs
open Go.Proofs
theorem b8g {s:bQ} (h:wY (fF s)=true):aX s=(true,aP s,some (fF s).2.2):=by simp [aX,h]
theorem aYd (l:List cV):(l.map p6).all (fun e=>e.cells.length == 3)=true:=by simp [p6,V.cells]
end Go.Fbs
