import Derived.Test.YtngdbicnabbplaaPO
set_option linter.unusedSimpArgs false
set_option linter.unusedVariables false
set_option maxRecDepth 100000
namespace Go.Fbs
open Go.Proofs
attribute [local irreducible] bD bV opt
theorem aTf (s:fH):aD [aP s.l,vI s.i,vI s.n,.int .i64 0,.int .i64 0,vI s.d,bT s.o,.int .i64 0]=some (vR s):=nr rfl
theorem jO (s:fH):aA (vR s) 0=aP s.l∧aA (vR s) 1=vI s.i∧aA (vR s) 2=vI s.n∧aA (vR s) 3 = .int .i64 0∧aA (vR s) 4 = .int .i64 0∧aA (vR s) 5=vI s.d∧aA (vR s) 6=bT s.o∧aA (vR s) 7 = .int .i64 0:=⟨rfl,rfl,rfl,rfl,rfl,rfl,rfl,rfl⟩
noncomputable abbrev TLT (f:RO):List (FuncId×Spec):=[(p8,yI f),(aT,cQ),(fU,gV),(cM,hU)]
theorem aZ7 {f:RO} (gf:a2l f) (hf:bX Try.prog kA bZ (yI f)):bX Try.prog uH dW (yI (aL6 f)):=by
 refine a8h (T:=TLT f) (aE.cC hf (aE.cC lI (aE.cC sY (aE.cC tQ aE.nil)))) fun words v hv=>?_
 have c1:∀ args,aM (TLT f) p8 args=yI f args:=fun _=>rfl
 have c2:∀ args,aM (TLT f) aT args=cQ args:=fun _=>rfl
 have c3:∀ args,aM (TLT f) fU args=gV args:=fun _=>rfl
 have c4:∀ args,aM (TLT f) cM args=hU args:=fun _=>rfl
 obtain ⟨s,rfl,⟨hs,hd,hsome⟩,rfl⟩:=bO hv
 obtain ⟨r,hr⟩:=Option.isSome_iff_exists.1 hsome
 rw [hr,Option.getD_some]
 refine ⟨_,rfl,rfl,by simp [aG,oT],by simp [aG,oT,V.aN],rfl,rfl,?_⟩
 refine Eq.mpr (a89 (aM _) _ (aP s.l) (vI s.i) (vI s.n) (.int .i64 0) (.int .i64 0) (vI s.d) (bT s.o) (.int .i64 0)) ?_
 obtain ⟨s1,h1,h2⟩:=zwz.1 (show (f s).bind (fun r=>tY f (r.l.length+1) r)=some r from hr)
 have g1:=gf.g s s1 hs h1
 rw [agR,aB,c1,Fro h1 hs hd,aB,a1y,aB,x0,aB,pN,aB]
 rw [(jO s1).1,(jO s1).2.1,(jO s1).2.2.1,(jO s1).2.2.2.1,(jO s1).2.2.2.2.1,(jO s1).2.2.2.2.2.1,(jO s1).2.2.2.2.2.2.1,(jO s1).2.2.2.2.2.2.2]
 refine fX (fun vs=>∃ (t:fH) (k:Nat),vs=[bT t.o,aP t.l,vI t.i,vI t.n,.int .i64 0,.int .i64 0,vI t.d,.int .i64 0]∧kK t∧t.d≤20∧tY f k t=some r) (fun vs=>1000000 - iG (gv vs 2)) ⟨s1,_,rfl,g1.1,by omega,h2⟩ ?_
 rintro rr _ ⟨t,k,rfl,hw,htd,ht⟩ hk
 refine ⟨rfl,?_⟩
 simp only [jM,jW]
 cases k with
 | zero=>simp [tY] at ht
 | succ k =>
  unfold tY at ht
  rw [uV,aB,aQ,if_pos (by simp),aTf,aB,c2,a7b,aB,x0,aB,x1,aB,pN,aB,aQ]
  by_cases h38:pC [38] t=true
  ·rw [if_pos h38] at ht
   rw [if_pos h38]
   have hlt:=lQ h38
   have hw2:=hw.2
   obtain ⟨q,hq,h3⟩:=zwz.1 ht
   obtain ⟨u,hu,h4⟩:=zwz.1 h3
   have g2:=gf.g (cJ t) q ⟨hlt,hw.2⟩ hq
   obtain ⟨ho,rfl⟩:=wW hu
   rw [qP,aB,c3,aRy,aB,x0,aB,x1,aB,pN,aB,aAm (by omega),aB,aAw,aB,c1,Fro hq ⟨hlt,hw.2⟩ htd,aB,a1y,aB,x0,aB,pN,aB,aL8,aB,qP,aB,c4,aRx _ _ ho,aB,a1y,aB,x0,aB,pN,aB]
   have g3:t.i+1 < q.i:=g2.2.2.2
   have g4:q.d=t.d:=g2.2.1
   refine hk _ ⟨_,k,rfl,⟨g2.1.1,g2.1.2⟩,by show q.d≤20; omega,h4⟩ ?_
   show 1000000 - q.i < 1000000 - t.i
   have:=g2.1.1
   have:=g2.1.2
   omega
  ·rw [if_neg h38] at ht
   rw [if_neg h38]
   simp only [zzz] at ht
   subst ht
   rw [qP,aB]
end Go.Fbs
namespace Go.Fbs
open Go.Proofs
attribute [local irreducible] bD bV opt
noncomputable abbrev TLS (f:RO):List (FuncId×Spec):=[(nD,yI f),(aT,cQ),(fU,gV),(cM,hU)]
theorem aZ8 {f:RO} (gf:a2l f) (hf:bX Try.prog uH dW (yI f)):bX Try.prog nA cN (yI (aL7 f)):=by
 refine a8g (T:=TLS f) (aE.cC hf (aE.cC lI (aE.cC sY (aE.cC tQ aE.nil)))) fun words v hv=>?_
 have c1:∀ args,aM (TLS f) nD args=yI f args:=fun _=>rfl
 have c2:∀ args,aM (TLS f) aT args=cQ args:=fun _=>rfl
 have c3:∀ args,aM (TLS f) fU args=gV args:=fun _=>rfl
 have c4:∀ args,aM (TLS f) cM args=hU args:=fun _=>rfl
 obtain ⟨s,rfl,⟨hs,hd,hsome⟩,rfl⟩:=bO hv
 obtain ⟨r,hr⟩:=Option.isSome_iff_exists.1 hsome
 rw [hr,Option.getD_some]
 refine ⟨_,rfl,rfl,by simp [aG,oT],by simp [aG,oT,V.aN],rfl,rfl,?_⟩
 refine Eq.mpr (a88 (aM _) _ (aP s.l) (vI s.i) (vI s.n) (.int .i64 0) (.int .i64 0) (vI s.d) (bT s.o) (.int .i64 0)) ?_
 obtain ⟨s1,h1,h2⟩:=zwz.1 (show (f s).bind (fun r=>xK f (r.l.length+1) r)=some r from hr)
 have g1:=gf.g s s1 hs h1
 rw [agR,aB,c1,Fro h1 hs hd,aB,a1y,aB,x0,aB,pN,aB]
 rw [(jO s1).1,(jO s1).2.1,(jO s1).2.2.1,(jO s1).2.2.2.1,(jO s1).2.2.2.2.1,(jO s1).2.2.2.2.2.1,(jO s1).2.2.2.2.2.2.1,(jO s1).2.2.2.2.2.2.2]
 refine fX (fun vs=>∃ (t:fH) (k:Nat),vs=[bT t.o,aP t.l,vI t.i,vI t.n,.int .i64 0,.int .i64 0,vI t.d,.int .i64 0]∧kK t∧t.d≤20∧xK f k t=some r) (fun vs=>1000000 - iG (gv vs 2)) ⟨s1,_,rfl,g1.1,by omega,h2⟩ ?_
 rintro rr _ ⟨t,k,rfl,hw,htd,ht⟩ hk
 refine ⟨rfl,?_⟩
 simp only [jM,jW]
 cases k with
 | zero=>simp [xK] at ht
 | succ k =>
  unfold xK at ht
  rw [uV,aB,aQ,if_pos (by simp),aTf,aB,c2,a7b,aB,x0,aB,x1,aB,pN,aB,aQ]
  by_cases h43:pC [43] t=true
  ·have hlt:=lQ h43
   rw [if_pos (by rw [h43]; rfl)] at ht
   have hw2:=hw.2
   obtain ⟨q,hq,h3⟩:=zwz.1 ht
   obtain ⟨u,hu,h4⟩:=zwz.1 h3
   have g2:=gf.g (cJ t) q ⟨hlt,hw.2⟩ hq
   obtain ⟨ho,rfl⟩:=wW hu
   have g3:t.i+1 < q.i:=g2.2.2.2
   have g4:q.d=t.d:=g2.2.1
   rw [h43,ckB,aB,if_pos rfl,qP,aB,c3,aRy,aB,x0,aB,x1,aB,pN,aB,qP,aB,c2,a7b,aB,x0,aB,x1,aB,pN,aB]
   refine jn (X:=[.int .i64 (if pC [45] t=true then 4 else 3),aA (vR t) 6,.undef]) ?_ ?_
   ·intro r1 h1
    rw [aQ]
    by_cases h:pC [45] t=true
    ·rw [if_pos h]; rw [if_pos h] at h1; exact h1
    ·rw [if_neg h]; rw [if_neg h] at h1; exact h1
   ·simp only [jM,jW]
    refine ⟨rfl,?_⟩
    rw [aAm (by omega),aB,aAw,aB,c1,Fro hq ⟨hlt,hw.2⟩ htd,aB,a1y,aB,x0,aB,pN,aB,aL8,aB,qP,aB,c4,aRx _ _ ho,aB,a1y,aB,x0,aB,pN,aB]
    refine hk _ ⟨_,k,rfl,⟨g2.1.1,g2.1.2⟩,by show q.d≤20; omega,h4⟩ ?_
    show 1000000 - q.i < 1000000 - t.i
    have:=g2.1.1
    have:=g2.1.2
    omega
  ·have h43':pC [43] t=false:=by simpa using h43
   rw [h43',ckB,aB,if_neg (by simp),qP,aB,c2,a7b,aB,x0,aB,x1,aB,pN,aB,aQ]
   by_cases h45:pC [45] t=true
   ·have hlt:=lQ h45
    rw [if_pos (by rw [h45]; simp)] at ht
    rw [if_pos h45]
    have hw2:=hw.2
    obtain ⟨q,hq,h3⟩:=zwz.1 ht
    obtain ⟨u,hu,h4⟩:=zwz.1 h3
    have g2:=gf.g (cJ t) q ⟨hlt,hw.2⟩ hq
    obtain ⟨ho,rfl⟩:=wW hu
    have g3:t.i+1 < q.i:=g2.2.2.2
    have g4:q.d=t.d:=g2.2.1
    rw [qP,aB,c3,aRy,aB,x0,aB,x1,aB,pN,aB,qP,aB,c2,a7b,aB,x0,aB,x1,aB,pN,aB]
    refine jn (X:=[.int .i64 (if pC [45] t=true then 4 else 3),aA (vR t) 6,.bool (pC [45] t)]) ?_ ?_
    ·intro r1 h1
     rw [aQ]
     by_cases h:pC [45] t=true
     ·rw [if_pos h]; rw [if_pos h] at h1; exact h1
     ·rw [if_neg h]; rw [if_neg h] at h1; exact h1
    ·simp only [jM,jW]
     refine ⟨rfl,?_⟩
     rw [aAm (by omega),aB,aAw,aB,c1,Fro hq ⟨hlt,hw.2⟩ htd,aB,a1y,aB,x0,aB,pN,aB,aL8,aB,qP,aB,c4,aRx _ _ ho,aB,a1y,aB,x0,aB,pN,aB]
     refine hk _ ⟨_,k,rfl,⟨g2.1.1,g2.1.2⟩,by show q.d≤20; omega,h4⟩ ?_
     show 1000000 - q.i < 1000000 - t.i
     have:=g2.1.1
     have:=g2.1.2
     omega
   ·have h45':pC [45] t=false:=by simpa using h45
    rw [if_neg (by rw [h43',h45']; simp)] at ht
    rw [if_neg h45]
    simp only [zzz] at ht
    subst ht
    rw [qP,aB]
end Go.Fbs
namespace Go.Fbs
open Go.Proofs
attribute [local irreducible] bD bV opt
theorem aFn {f:RO} (h:a2l f):∀ (k:Nat) (s r:fH),kK s→tY f k s=some r→kK r∧r.d=s.d∧r.l=s.l∧s.i≤r.i
 | 0,s,r,_,e=>by simp [tY] at e
 | k+1,s,r,hs,e=>by
  unfold tY at e
  split at e
  ·rename_i hi
   have hlt:=lQ hi
   obtain ⟨q,hq,h3⟩:=zwz.1 e
   obtain ⟨u,hu,h4⟩:=zwz.1 h3
   have g:=h.g (cJ s) q ⟨hlt,hs.2⟩ hq
   obtain ⟨_,rfl⟩:=wW hu
   have g2:=aFn h k _ r (show kK { q with o:=q.o++[(5,[],[])] } from ⟨g.1.1,g.1.2⟩) h4
   have a1:q.d=s.d:=g.2.1
   have a2:q.l=s.l:=g.2.2.1
   have a3:s.i+1 < q.i:=g.2.2.2
   have b3:q.i≤r.i:=g2.2.2.2
   exact ⟨g2.1,g2.2.1.trans a1,g2.2.2.1.trans a2,by omega⟩
  ·simp only [zzz] at e
   subst e
   exact ⟨hs,rfl,rfl,zxy _⟩
theorem a57 {f:RO} (h:a2l f):a2l (aL6 f):=by
 refine ⟨fun s r hs hr=>?_⟩
 obtain ⟨q,hq,h2⟩:=zwz.1 (show (f s).bind (fun r=>tY f (r.l.length+1) r)=some r from hr)
 have g:=h.g s q hs hq
 have g2:=aFn h _ _ _ g.1 h2
 exact ⟨g2.1,g2.2.1.trans g.2.1,g2.2.2.1.trans g.2.2.1,by have:=g.2.2.2; have:=g2.2.2.2; omega⟩
theorem aIw {f:RO} (h:a2l f):∀ (k:Nat) (s r:fH),kK s→xK f k s=some r→kK r∧r.d=s.d∧r.l=s.l∧s.i≤r.i
 | 0,s,r,_,e=>by simp [xK] at e
 | k+1,s,r,hs,e=>by
  unfold xK at e
  split at e
  ·rename_i hi
   have hlt:s.i < s.l.length:=by
    rw [Bool.or_eq_true] at hi
    rcases hi with hi | hi <;> exact lQ hi
   obtain ⟨q,hq,h3⟩:=zwz.1 e
   obtain ⟨u,hu,h4⟩:=zwz.1 h3
   have g:=h.g (cJ s) q ⟨hlt,hs.2⟩ hq
   obtain ⟨_,rfl⟩:=wW hu
   have g2:=aIw h k _ r (show kK { q with o:=q.o++[(if pC [45] s=true then 4 else 3,[],[])] } from ⟨g.1.1,g.1.2⟩) h4
   have a1:q.d=s.d:=g.2.1
   have a2:q.l=s.l:=g.2.2.1
   have a3:s.i+1 < q.i:=g.2.2.2
   have b3:q.i≤r.i:=g2.2.2.2
   exact ⟨g2.1,g2.2.1.trans a1,g2.2.2.1.trans a2,by omega⟩
  ·simp only [zzz] at e
   subst e
   exact ⟨hs,rfl,rfl,zxy _⟩
theorem aH0 {f:RO} (h:a2l f):a2l (aL7 f):=by
 refine ⟨fun s r hs hr=>?_⟩
 obtain ⟨q,hq,h2⟩:=zwz.1 (show (f s).bind (fun r=>xK f (r.l.length+1) r)=some r from hr)
 have g:=h.g s q hs hq
 have g2:=aIw h _ _ _ g.1 h2
 exact ⟨g2.1,g2.2.1.trans g.2.1,g2.2.2.1.trans g.2.2.1,by have:=g.2.2.2; have:=g2.2.2.2; omega⟩
theorem a7c:∀ f,a2l (zU f)
 | 0=>⟨fun s r _ h=>by simp [zU] at h⟩
 | f+1=>aZ4 (aH0 (a57 (a7c f)))
theorem aZ9:∀ f,bX Try.prog kA bZ (yI (zU f))∧bX Try.prog nA cN (yI (aL7 (aL6 (zU f))))
 | 0=>by
  have h:bX Try.prog kA bZ (yI (zU 0)):=by
   refine xN (T:=[]) aE.nil fun words v hv=>?_
   obtain ⟨s,rfl,⟨_,_,h⟩,rfl⟩:=bO hv
   simp [zU] at h
  exact ⟨h,aZ8 (a57 (a7c 0)) (aZ7 (a7c 0) h)⟩
 | f+1=>by
  have h:bX Try.prog kA bZ (yI (zU (f+1))):=b60 (aH0 (a57 (a7c f))) (aZ9 f).2
  exact ⟨h,aZ8 (a57 (a7c (f+1))) (aZ7 (a7c (f+1)) h)⟩
end Go.Fbs
namespace Go.Fbs
open Go.Proofs
attribute [local irreducible] bD bV opt
def a7d:RO:=aL7 (aL6 (zU 21))
def bE7 (s:fH):Option (fH×Sub) :=
 (uS s).bind fun a =>
  if pC [35] (cJ s) then (uS (cJ (cJ s))).bind fun b=>some (cJ (cJ (cJ s)),(a,[],b))
  else some (cJ s,(a,[],[]))
def a8t:Nat→fH→List Sub→Option (fH×List Sub)
 | 0,_,_=>none
 | k+1,s,l =>
  if l.length=50 then none
  else (bE7 s).bind fun q =>
   if pC [124] q.1 then a8t k (cJ q.1) (l++[q.2])
   else if pC [59] q.1 then some (cJ q.1,l++[q.2]) else none
def a7t (s:fH):Option (fH×Rel) :=
 (uS s).bind fun a =>
  if pC [61] (cJ s) then
   (a7d { cJ (cJ s) with o:=[] }).bind fun r=>if pC [59] r then some (cJ r,(a,[],r.o)) else none
  else if pC [58] (cJ s) then (a8t (s.l.length+1) (cJ (cJ s)) []).bind fun q=>some (q.1,(a,q.2,[]))
  else none
theorem aUy:a2l a7d:=aH0 (a57 (a7c 21))
theorem b61:bX Try.prog nA cN (yI a7d):=(aZ9 21).2
theorem aRz {s:fH} {q:fH×Sub} (hs:kK s) (h:bE7 s=some q):kK q.1∧q.1.d=s.d∧q.1.l=s.l∧s.i < q.1.i∧q.1.o=s.o:=by
 obtain ⟨a,ha,h2⟩:=zwz.1 (show (uS s).bind _=some q from h)
 have hlt:=uL ha
 split at h2
 ·rename_i hi
  obtain ⟨b,hb,h3⟩:=zwz.1 h2
  have hl3:s.i+1+1 < s.l.length:=uL hb
  simp only [zzz] at h3
  subst h3
  exact ⟨⟨hl3,hs.2⟩,rfl,rfl,by show s.i < s.i+1+1+1; omega,rfl⟩
 ·simp only [zzz] at h2
  subst h2
  exact ⟨⟨hlt,hs.2⟩,rfl,rfl,by show s.i < s.i+1; omega,rfl⟩
end Go.Fbs
