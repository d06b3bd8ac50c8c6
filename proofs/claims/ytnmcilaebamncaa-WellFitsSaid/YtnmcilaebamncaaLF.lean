/- The document's reader of schemas, where it reads: terms. -/
import Derived.Test.YtnmcilaebamncaaLE
set_option maxRecDepth 100000
namespace Go.Fbs
open Go.Proofs
attribute [local irreducible] cN bX opt
theorem aMt (s:cA):aI [cQ s.l,vI s.i,vI s.n,.int .i64 0,.int .i64 0,vI s.d,fY s.o,.int .i64 0]=some (vR s):=nr rfl
theorem gH (s:cA):a7 (vR s) 0=cQ s.l∧a7 (vR s) 1=vI s.i∧a7 (vR s) 2=vI s.n∧a7 (vR s) 3 = .int .i64 0∧a7 (vR s) 4 = .int .i64 0∧a7 (vR s) 5=vI s.d∧a7 (vR s) 6=fY s.o∧a7 (vR s) 7 = .int .i64 0:=⟨rfl,rfl,rfl,rfl,rfl,rfl,rfl,rfl⟩
noncomputable abbrev TLT (f:RO):List (FuncId×Spec):=[(l5,sZ f),(aN,bZ),(dO,eP),(bV,eT)]
theorem aTe {f:RO} (gf:xK f) (hf:fX Try.prog gR bH (sZ f)):fX Try.prog qE cL (sZ (wW f)):=by
 refine a3k (T:=TLT f) (aL.jM hf (aL.jM iI (aL.jM oV (aL.jM pG aL.nil)))) fun words v hv=>?_
 have c1:∀ args,bL (TLT f) l5 args=sZ f args:=fun _=>rfl
 have c2:∀ args,bL (TLT f) aN args=bZ args:=fun _=>rfl
 have c3:∀ args,bL (TLT f) dO args=eP args:=fun _=>rfl
 have c4:∀ args,bL (TLT f) bV args=eT args:=fun _=>rfl
 obtain ⟨s,rfl,⟨hs,hd,hsome⟩,rfl⟩:=eR hv
 obtain ⟨r,hr⟩:=Option.isSome_iff_exists.1 hsome
 rw [hr,Option.getD_some]
 refine ⟨_,rfl,rfl,by simp [aO,kV],by simp [aO,kV,V.bP],rfl,rfl,?_⟩
 refine Eq.mpr (a36 (bL _) _ (cQ s.l) (vI s.i) (vI s.n) (.int .i64 0) (.int .i64 0) (vI s.d) (fY s.o) (.int .i64 0)) ?_
 obtain ⟨s1,h1,h2⟩:=zwz.1 (show (f s).bind (fun r=>kR f (r.l.length+1) r)=some r from hr)
 have g1:=gf.g s s1 hs h1
 rw [agR,aA,c1,Fro h1 hs hd,aA,wX,aA,x0,aA,lF,aA]
 rw [(gH s1).1,(gH s1).2.1,(gH s1).2.2.1,(gH s1).2.2.2.1,(gH s1).2.2.2.2.1,(gH s1).2.2.2.2.2.1,(gH s1).2.2.2.2.2.2.1,(gH s1).2.2.2.2.2.2.2]
 refine fK (fun vs=>∃ (t:cA) (k:Nat),vs=[fY t.o,cQ t.l,vI t.i,vI t.n,.int .i64 0,.int .i64 0,vI t.d,.int .i64 0]∧gW t∧t.d≤20∧kR f k t=some r) (fun vs=>1000000 - fN (gv vs 2)) ⟨s1,_,rfl,g1.1,by omega,h2⟩ ?_
 rintro rr _ ⟨t,k,rfl,hw,htd,ht⟩ hk
 refine ⟨rfl,?_⟩
 simp only [lY,n9]
 cases k with
 | zero=>simp [kR] at ht
 | succ k =>
  unfold kR at ht
  rw [wN,aA,bY,if_pos (by simp),aMt,aA,c2,a16,aA,x0,aA,x1,aA,lF,aA,bY]
  by_cases h38:gY [38] t=true
  ·rw [if_pos h38] at ht
   rw [if_pos h38]
   have hlt:=iQ h38
   have hw2:=hw.2
   obtain ⟨q,hq,h3⟩:=zwz.1 ht
   obtain ⟨u,hu,h4⟩:=zwz.1 h3
   have g2:=gf.g (aS t) q ⟨hlt,hw.2⟩ hq
   obtain ⟨ho,rfl⟩:=rJ hu
   rw [mK,aA,c3,aLf,aA,x0,aA,x1,aA,lF,aA,a43 (by omega),aA,a5c,aA,c1,Fro hq ⟨hlt,hw.2⟩ htd,aA,wX,aA,x0,aA,lF,aA,aE2,aA,mK,aA,c4,aLe _ _ ho,aA,wX,aA,x0,aA,lF,aA]
   have g3:t.i+1 < q.i:=g2.2.2.2
   have g4:q.d=t.d:=g2.2.1
   refine hk _ ⟨_,k,rfl,⟨g2.1.1,g2.1.2⟩,by show q.d≤20; omega,h4⟩ ?_
   show 1000000 - q.i < 1000000 - t.i
   have:=g2.1.1
   have:=g2.1.2
   omega
  ·rw [if_neg h38] at ht
   rw [if_neg h38]
   simp only [zzz] at ht
   subst ht
   rw [mK,aA]
end Go.Fbs
