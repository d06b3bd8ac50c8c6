/- The document's reader of schemas, where it reads: its state, its small parts. -/
import Derived.Test.YtnmcilaebamncaaKO
set_option maxRecDepth 100000
namespace Go.Fbs
open Go.Proofs
attribute [local irreducible] cN bX opt
structure cA where
 l:List iH
 i:Nat
 n:Nat
 d:Nat
 o:List zV
def vR (s:cA):V:=.agg [cQ s.l,vI s.i,vI s.n,.int .i64 0,.int .i64 0,vI s.d,fY s.o,.int .i64 0]
theorem aEz {s t:cA} (h:vR s=vR t):s=t:=by
 obtain ⟨l,i,n,d,o⟩:=s
 obtain ⟨l',i',n',d',o'⟩:=t
 simp only [vR,cQ,fY,V.agg.injEq,List.cons.injEq,V.sl.injEq,V.int.injEq,true_and,and_true,Int.ofNat_inj] at h
 obtain ⟨h1,h2,h3,h4,h5⟩:=h
 rw [rR (fun _ _=>b5u) h1,h2,h3,h4,rR (fun _ _=>aIt) h5]
theorem kV (s:cA):(vR s).bP=true:=by
 simp only [vR,V.bP,aO,aK6,aHi,Bool.and_true]
def gY (g : List UInt8) (s : cA) : Bool:=match s.l[s.i]? with | some t=>decide (t.1 = 2) && (t.2.2 == g) | none=>false
def aS (s:cA):cA:={ s with i:=s.i+1 }
def aE0 (x:zV) (s:cA):Option cA:=if s.o.length < 200 then some { s with o:=s.o++[x] } else none
theorem agR (s:cA):aI [cQ s.l,vI s.i,vI s.n,.int .i64 0,.int .i64 0,vI s.d,fY s.o,.int .i64 0]=some (vR s):=nr rfl
theorem mK (s:cA):aI [a7 (vR s) 0,a7 (vR s) 1,a7 (vR s) 2,a7 (vR s) 3,a7 (vR s) 4,a7 (vR s) 5,a7 (vR s) 6,a7 (vR s) 7]=some (vR s):=nr rfl
theorem lF (s:cA):bD 8 (vR s)=some (vR s):=nr rfl
theorem pT0 (t:iH):qL false 1 0 (uP t)=some (vI t.1):=nr rfl
theorem aPb (l:List iH):dU (cQ l)=some (vI l.length):=by simp [dU,cQ]
theorem aLd {l : List iH} {i : Nat} {t : iH} (h : l[i]? = some t) : eJ true 3 (cQ l) (vI (i : Nat)) = some (uP t):=by
 refine aAu (cs:=[vI t.1,vI t.2.1,.str t.2.2]) ?_ rfl rfl .i64
 rw [zvz,h]; rfl
noncomputable def bZ:Spec:=iA (fun q:cA×List UInt8=>[vR q.1,.str q.2]) (fun _=>True) (fun q=>.aM [.bool (gY q.2 q.1),vR q.1])
theorem a16 (s:cA) (g:List UInt8):bZ [vR s,.str g]=some (.aM [.bool (gY g s),vR s]):=gV (a:=(s,g)) (fun a b h=>by
 simp only [List.cons.injEq,and_true,V.str.injEq] at h
 exact Prod.ext (aEz h.1) h.2) trivial
theorem iI:fX Try.prog yI dP bZ:=by
 refine a4v (T:=[]) aL.nil fun words v hv=>?_
 obtain ⟨⟨s,g⟩,rfl,_,rfl⟩:=eR hv
 refine ⟨_,rfl,rfl,by simp [aO,kV,V.bP],by simp [aO,kV,V.bP],rfl,rfl,?_⟩
 refine Eq.mpr (a55 (bL _) _ (cQ s.l) (vI s.i) (vI s.n) (.int .i64 0) (.int .i64 0) (vI s.d) (fY s.o) (.int .i64 0) (.str g)) ?_
 simp only [aPb,aA,a5z,agR]
 unfold gY
 cases e : s.l[s.i]? with
 | none =>
  have h:¬ ((s.i:Int) < (s.l.length:Int)):=by have:=List.getElem?_eq_none_iff.1 e; omega
  simp [h,aK,aZ,aA]
 | some t =>
  have h:((s.i:Int) < (s.l.length:Int)):=by have:=(zzy.1 e).1; omega
  simp only [aLd e,h,decide_true]
  by_cases h2:t.1=2
  ·simp only [sS,if_true,if_false,reduceCtorEq,pT0,pT2,h2,decide_true,Bool.true_and]
  ·simp only [sS,if_true,if_false,reduceCtorEq,pT0,pT2,h2,decide_false,Bool.false_and]
end Go.Fbs
