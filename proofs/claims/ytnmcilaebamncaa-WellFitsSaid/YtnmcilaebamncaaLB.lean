/- The document's reader of schemas, where it reads: signs, names, steps. -/
import Derived.Test.YtnmcilaebamncaaLA
set_option maxRecDepth 100000
namespace Go.Fbs
open Go.Proofs
attribute [local irreducible] cN bX opt
theorem aZr {s:cA} (h:s.i < 1000000):aB .add (vI s.i) (.int .i64 1)=some (vI ((s.i+1:Nat):Int)):=by
 rw [aEc,iR (by omega) (by omega)]; rfl
theorem bHv:∀ a b:cA×List UInt8,[vR a.1,V.str a.2]=[vR b.1,V.str b.2]→a=b:=fun a b h=>by
 simp only [List.cons.injEq,and_true,V.str.injEq] at h
 exact Prod.ext (aEz h.1) h.2
theorem a5c (s:cA):aI [a7 (vR s) 0,vI ((s.i+1:Nat):Int),a7 (vR s) 2,a7 (vR s) 3,a7 (vR s) 4,a7 (vR s) 5,a7 (vR s) 6,a7 (vR s) 7]=some (vR (aS s)):=nr rfl
noncomputable def eN:Spec:=iA (fun q:cA×List UInt8=>[vR q.1,.str q.2]) (fun q=>gY q.2 q.1=true∧q.1.i < 1000000) (fun q=>.aM [vR (aS q.1)])
theorem aE1 {s:cA} {g:List UInt8} (h:gY g s=true) (hi:s.i < 1000000):eN [vR s,.str g]=some (.aM [vR (aS s)]):=gV (a:=(s,g)) bHv ⟨h,hi⟩
noncomputable abbrev TLW:List (FuncId×Spec):=[(aN,bZ)]
theorem oT:fX Try.prog wQ cY eN:=by
 refine a3h (T:=TLW) (aL.jM iI aL.nil) fun words v hv=>?_
 have c1:∀ args,bL TLW aN args=bZ args:=fun _=>rfl
 obtain ⟨⟨s,g⟩,rfl,⟨h,hi⟩,rfl⟩:=eR hv
 simp only at h hi
 refine ⟨_,rfl,rfl,by simp [aO,kV,V.bP],by simp [aO,kV,V.bP],rfl,rfl,?_⟩
 refine Eq.mpr (a33 (bL _) _ (cQ s.l) (vI s.i) (vI s.n) (.int .i64 0) (.int .i64 0) (vI s.d) (fY s.o) (.int .i64 0) (.str g)) ?_
 simp only [sS,if_true,if_false,reduceCtorEq,agR,c1,a16,h,List.getElem?_cons_zero,zvx,lF]
 rw [show a7 (vR s) 1=vI s.i from rfl,aZr hi,aA,a5c,aA]
 simp only [decide_true,Bool.not_true,Bool.false_eq_true,if_false]
noncomputable def eT:Spec:=iA (fun q:cA×zV×Nat=>[vR q.1,tW q.2.1,vI (q.2.2:Nat)]) (fun q=>q.1.o.length < 200) (fun q=>.aM [vR { q.1 with o:=q.1.o++[q.2.1] }])
theorem aLe {s:cA} (x:zV) (a:Nat) (h:s.o.length < 200):eT [vR s,tW x,vI (a:Nat)]=some (.aM [vR { s with o:=s.o++[x] }]):=gV (a:=(s,x,a)) (fun a b h=>by
 simp only [List.cons.injEq,and_true,V.int.injEq,true_and,Int.ofNat_inj] at h
 exact Prod.ext (aEz h.1) (Prod.ext (aIt h.2.1) h.2.2)) h
theorem bCt (x:zV):hG 3 [tW x]=some (.sl .ro [tW x]):=nr rfl
theorem bFc (x:zV):bD 3 (tW x)=some (tW x):=nr rfl
theorem bCu {l:List zV} (h:l.length < 1000) (x:zV):iB 3 40 (fY l) (.sl .ro [tW x])=some (fY (l++[x])):=by
 show iB 3 40 (.sl .ro (l.map tW)) (.sl .ro ([x].map tW))=some (.sl .ro ((l++[x]).map tW))
 rw [aKz (by simp only [List.length_map,List.length_singleton]; omega) (aV2 _) (aV2 [x]),List.map_append]
theorem pG:fX Try.prog xP dI eT:=by
 refine a38 (T:=[]) aL.nil fun words v hv=>?_
 obtain ⟨⟨s,x,a⟩,rfl,h,rfl⟩:=eR hv
 simp only at h
 refine ⟨_,rfl,rfl,by simp [aO,kV,V.bP,tW],by simp [aO,kV,V.bP],rfl,rfl,?_⟩
 refine Eq.mpr (a4x (bL _) _ (cQ s.l) (vI s.i) (vI s.n) (.int .i64 0) (.int .i64 0) (vI s.d) (fY s.o) (.int .i64 0) (tW x) (vI a)) ?_
 have eL:dU (fY s.o)=some (vI s.o.length):=by simp [dU,fY]
 have h2:¬ ((s.o.length:Int)=200):=by omega
 rw [bFc,aA]
 simp only [sS,if_true,if_false,reduceCtorEq,eL,h2,decide_true,decide_false,b5n,zwx,List.length_nil,true_and,bCt,bCu (show s.o.length < 1000 by omega)]
 rw [show aI [cQ s.l,vI s.i,vI s.n,.int .i64 0,.int .i64 0,vI s.d,fY (s.o++[x]),.int .i64 0]=some (vR { s with o:=s.o++[x] }) from agR { s with o:=s.o++[x] },aA]
def a5d (w : List UInt8) : Bool:=(w.all fun c=>jK c.toNat) && (decide (1 ≤ w.length) && (decide (w.length ≤ 30) && ((w.head? != some 95) && (w != [116,121,112,101]))))
end Go.Fbs
