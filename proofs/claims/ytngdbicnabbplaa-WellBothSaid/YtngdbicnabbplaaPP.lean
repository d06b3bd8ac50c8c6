import Derived.Test.YtngdbicnabbplaaPO
set_option linter.unusedSimpArgs false
set_option linter.unusedVariables false
set_option linter.unusedSectionVars false
set_option maxRecDepth 100000
namespace Go.Fbs
open Go.Proofs
attribute [local irreducible] bW cC opt
theorem aO0 (s:aY):aG [bJ s.l,vI s.i,vI s.n,.int .i64 0,.int .i64 0,vI s.d,fE s.o,.int .i64 0]=some (vR s):=nr rfl
theorem gK (s:aY):aA (vR s) 0=bJ s.l∧aA (vR s) 1=vI s.i∧aA (vR s) 2=vI s.n∧aA (vR s) 3 = .int .i64 0∧aA (vR s) 4 = .int .i64 0∧aA (vR s) 5=vI s.d∧aA (vR s) 6=fE s.o∧aA (vR s) 7 = .int .i64 0:=⟨rfl,rfl,rfl,rfl,rfl,rfl,rfl,rfl⟩
noncomputable abbrev TLT (f:RO):List (FuncId×Spec):=[(mR,uQ f),(aI,bY),(dS,eY),(bR,fG)]
theorem aUp {f:RO} (gf:zJ f) (hf:fU Try.prog hY bG (uQ f)):fU Try.prog sM cO (uQ (wZ f)):=by
 refine a5e (T:=TLT f) (aM.kU hf (aM.kU gJ (aM.kU qV (aM.kU rM aM.nil)))) fun words v hv=>?_
 have c1:∀ args,bT (TLT f) mR args=uQ f args:=fun _=>rfl
 have c2:∀ args,bT (TLT f) aI args=bY args:=fun _=>rfl
 have c3:∀ args,bT (TLT f) dS args=eY args:=fun _=>rfl
 have c4:∀ args,bT (TLT f) bR args=fG args:=fun _=>rfl
 obtain ⟨s,rfl,⟨hs,hd,hsome⟩,rfl⟩:=eO hv
 obtain ⟨r,hr⟩:=Option.isSome_iff_exists.1 hsome
 rw [hr,Option.getD_some]
 refine ⟨_,rfl,rfl,by simp [aL,kP],by simp [aL,kP,V.bU],rfl,rfl,?_⟩
 refine Eq.mpr (a5y (bT _) _ (bJ s.l) (vI s.i) (vI s.n) (.int .i64 0) (.int .i64 0) (vI s.d) (fE s.o) (.int .i64 0)) ?_
 obtain ⟨s1,h1,h2⟩:=zwz.1 (show (f s).bind (fun r=>jU f (r.l.length+1) r)=some r from hr)
 have g1:=gf.g s s1 hs h1
 rw [agR,aB,c1,Fro h1 hs hd,aB,yS,aB,x0,aB,nC,aB]
 rw [(gK s1).1,(gK s1).2.1,(gK s1).2.2.1,(gK s1).2.2.2.1,(gK s1).2.2.2.2.1,(gK s1).2.2.2.2.2.1,(gK s1).2.2.2.2.2.2.1,(gK s1).2.2.2.2.2.2.2]
 refine jC (fun vs=>∃ (t:aY) (k:Nat),vs=[fE t.o,bJ t.l,vI t.i,vI t.n,.int .i64 0,.int .i64 0,vI t.d,.int .i64 0]∧fK t∧t.d≤20∧jU f k t=some r) (fun vs=>1000000 - jP (gv vs 2)) ⟨s1,_,rfl,g1.1,by omega,h2⟩ ?_
 rintro rr _ ⟨t,k,rfl,hw,htd,ht⟩ hk
 refine ⟨rfl,?_⟩
 simp only [sL,tV]
 cases k with
 | zero=>simp [jU] at ht
 | succ k =>
  unfold jU at ht
  rw [uO,aB,cK,if_pos (by simp),aO0,aB,c2,a29,aB,x0,aB,x1,aB,nC,aB,cK]
  by_cases h38:fC [38] t=true
  ·rw [if_pos h38] at ht
   rw [if_pos h38]
   have hlt:=fR h38
   have hw2:=hw.2
   obtain ⟨q,hq,h3⟩:=zwz.1 ht
   obtain ⟨u,hu,h4⟩:=zwz.1 h3
   have g2:=gf.g (aE t) q ⟨hlt,hw.2⟩ hq
   obtain ⟨ho,rfl⟩:=oN hu
   rw [oQ,aB,c3,aM4,aB,x0,aB,x1,aB,nC,aB,a61 (by omega),aB,a7e,aB,c1,Fro hq ⟨hlt,hw.2⟩ htd,aB,yS,aB,x0,aB,nC,aB,aGw,aB,oQ,aB,c4,aM3 _ _ ho,aB,yS,aB,x0,aB,nC,aB]
   have g3:t.i+1 < q.i:=g2.2.2.2
   have g4:q.d=t.d:=g2.2.1
   refine hk _ ⟨_,k,rfl,⟨g2.1.1,g2.1.2⟩,by show q.d≤20; omega,h4⟩ ?_
   show 1000000 - q.i < 1000000 - t.i
   have:=g2.1.1
   have:=g2.1.2
   omega
  ·rw [if_neg h38] at ht
   rw [if_neg h38]
   simp only [zzz] at ht
   subst ht
   rw [oQ,aB]
end Go.Fbs

namespace Go.Fbs
open Go.Proofs
attribute [local irreducible] bW cC opt
noncomputable abbrev TLS (f:RO):List (FuncId×Spec):=[(lD,uQ f),(aI,bY),(dS,eY),(bR,fG)]
theorem aUq {f:RO} (gf:zJ f) (hf:fU Try.prog sM cO (uQ f)):fU Try.prog kZ bV (uQ (a5i f)):=by
 refine a5d (T:=TLS f) (aM.kU hf (aM.kU gJ (aM.kU qV (aM.kU rM aM.nil)))) fun words v hv=>?_
 have c1:∀ args,bT (TLS f) lD args=uQ f args:=fun _=>rfl
 have c2:∀ args,bT (TLS f) aI args=bY args:=fun _=>rfl
 have c3:∀ args,bT (TLS f) dS args=eY args:=fun _=>rfl
 have c4:∀ args,bT (TLS f) bR args=fG args:=fun _=>rfl
 obtain ⟨s,rfl,⟨hs,hd,hsome⟩,rfl⟩:=eO hv
 obtain ⟨r,hr⟩:=Option.isSome_iff_exists.1 hsome
 rw [hr,Option.getD_some]
 refine ⟨_,rfl,rfl,by simp [aL,kP],by simp [aL,kP,V.bU],rfl,rfl,?_⟩
 refine Eq.mpr (a5x (bT _) _ (bJ s.l) (vI s.i) (vI s.n) (.int .i64 0) (.int .i64 0) (vI s.d) (fE s.o) (.int .i64 0)) ?_
 obtain ⟨s1,h1,h2⟩:=zwz.1 (show (f s).bind (fun r=>lZ f (r.l.length+1) r)=some r from hr)
 have g1:=gf.g s s1 hs h1
 rw [agR,aB,c1,Fro h1 hs hd,aB,yS,aB,x0,aB,nC,aB]
 rw [(gK s1).1,(gK s1).2.1,(gK s1).2.2.1,(gK s1).2.2.2.1,(gK s1).2.2.2.2.1,(gK s1).2.2.2.2.2.1,(gK s1).2.2.2.2.2.2.1,(gK s1).2.2.2.2.2.2.2]
 refine jC (fun vs=>∃ (t:aY) (k:Nat),vs=[fE t.o,bJ t.l,vI t.i,vI t.n,.int .i64 0,.int .i64 0,vI t.d,.int .i64 0]∧fK t∧t.d≤20∧lZ f k t=some r) (fun vs=>1000000 - jP (gv vs 2)) ⟨s1,_,rfl,g1.1,by omega,h2⟩ ?_
 rintro rr _ ⟨t,k,rfl,hw,htd,ht⟩ hk
 refine ⟨rfl,?_⟩
 simp only [sL,tV]
 cases k with
 | zero=>simp [lZ] at ht
 | succ k =>
  unfold lZ at ht
  rw [uO,aB,cK,if_pos (by simp),aO0,aB,c2,a29,aB,x0,aB,x1,aB,nC,aB,cK]
  by_cases h43:fC [43] t=true
  ·have hlt:=fR h43
   rw [if_pos (by rw [h43]; rfl)] at ht
   have hw2:=hw.2
   obtain ⟨q,hq,h3⟩:=zwz.1 ht
   obtain ⟨u,hu,h4⟩:=zwz.1 h3
   have g2:=gf.g (aE t) q ⟨hlt,hw.2⟩ hq
   obtain ⟨ho,rfl⟩:=oN hu
   have g3:t.i+1 < q.i:=g2.2.2.2
   have g4:q.d=t.d:=g2.2.1
   rw [h43,ckB,aB,if_pos rfl,oQ,aB,c3,aM4,aB,x0,aB,x1,aB,nC,aB,oQ,aB,c2,a29,aB,x0,aB,x1,aB,nC,aB]
   refine jn (X:=[.int .i64 (if fC [45] t=true then 4 else 3),aA (vR t) 6,.undef]) ?_ ?_
   ·intro r1 h1
    rw [cK]
    by_cases h:fC [45] t=true
    ·rw [if_pos h]; rw [if_pos h] at h1; exact h1
    ·rw [if_neg h]; rw [if_neg h] at h1; exact h1
   ·simp only [sL,tV]
    refine ⟨rfl,?_⟩
    rw [a61 (by omega),aB,a7e,aB,c1,Fro hq ⟨hlt,hw.2⟩ htd,aB,yS,aB,x0,aB,nC,aB,aGw,aB,oQ,aB,c4,aM3 _ _ ho,aB,yS,aB,x0,aB,nC,aB]
    refine hk _ ⟨_,k,rfl,⟨g2.1.1,g2.1.2⟩,by show q.d≤20; omega,h4⟩ ?_
    show 1000000 - q.i < 1000000 - t.i
    have:=g2.1.1
    have:=g2.1.2
    omega
  ·have h43':fC [43] t=false:=by simpa using h43
   rw [h43',ckB,aB,if_neg (by simp),oQ,aB,c2,a29,aB,x0,aB,x1,aB,nC,aB,cK]
   by_cases h45:fC [45] t=true
   ·have hlt:=fR h45
    rw [if_pos (by rw [h45]; simp)] at ht
    rw [if_pos h45]
    have hw2:=hw.2
    obtain ⟨q,hq,h3⟩:=zwz.1 ht
    obtain ⟨u,hu,h4⟩:=zwz.1 h3
    have g2:=gf.g (aE t) q ⟨hlt,hw.2⟩ hq
    obtain ⟨ho,rfl⟩:=oN hu
    have g3:t.i+1 < q.i:=g2.2.2.2
    have g4:q.d=t.d:=g2.2.1
    rw [oQ,aB,c3,aM4,aB,x0,aB,x1,aB,nC,aB,oQ,aB,c2,a29,aB,x0,aB,x1,aB,nC,aB]
    refine jn (X:=[.int .i64 (if fC [45] t=true then 4 else 3),aA (vR t) 6,.bool (fC [45] t)]) ?_ ?_
    ·intro r1 h1
     rw [cK]
     by_cases h:fC [45] t=true
     ·rw [if_pos h]; rw [if_pos h] at h1; exact h1
     ·rw [if_neg h]; rw [if_neg h] at h1; exact h1
    ·simp only [sL,tV]
     refine ⟨rfl,?_⟩
     rw [a61 (by omega),aB,a7e,aB,c1,Fro hq ⟨hlt,hw.2⟩ htd,aB,yS,aB,x0,aB,nC,aB,aGw,aB,oQ,aB,c4,aM3 _ _ ho,aB,yS,aB,x0,aB,nC,aB]
     refine hk _ ⟨_,k,rfl,⟨g2.1.1,g2.1.2⟩,by show q.d≤20; omega,h4⟩ ?_
     show 1000000 - q.i < 1000000 - t.i
     have:=g2.1.1
     have:=g2.1.2
     omega
   ·have h45':fC [45] t=false:=by simpa using h45
    rw [if_neg (by rw [h43',h45']; simp)] at ht
    rw [if_neg h45]
    simp only [zzz] at ht
    subst ht
    rw [oQ,aB]
end Go.Fbs

namespace Go.Fbs
open Go.Proofs
attribute [local irreducible] bW cC opt
theorem aBk {f:RO} (h:zJ f):∀ (k:Nat) (s r:aY),fK s→jU f k s=some r→fK r∧r.d=s.d∧r.l=s.l∧s.i≤r.i
 | 0,s,r,_,e=>by simp [jU] at e
 | k+1,s,r,hs,e=>by
  unfold jU at e
  split at e
  ·rename_i hi
   have hlt:=fR hi
   obtain ⟨q,hq,h3⟩:=zwz.1 e
   obtain ⟨u,hu,h4⟩:=zwz.1 h3
   have g:=h.g (aE s) q ⟨hlt,hs.2⟩ hq
   obtain ⟨_,rfl⟩:=oN hu
   have g2:=aBk h k _ r (show fK { q with o:=q.o++[(5,[],[])] } from ⟨g.1.1,g.1.2⟩) h4
   have a1:q.d=s.d:=g.2.1
   have a2:q.l=s.l:=g.2.2.1
   have a3:s.i+1 < q.i:=g.2.2.2
   have b3:q.i≤r.i:=g2.2.2.2
   exact ⟨g2.1,g2.2.1.trans a1,g2.2.2.1.trans a2,by omega⟩
  ·simp only [zzz] at e
   subst e
   exact ⟨hs,rfl,rfl,zxy _⟩
theorem a3a {f:RO} (h:zJ f):zJ (wZ f):=by
 refine ⟨fun s r hs hr=>?_⟩
 obtain ⟨q,hq,h2⟩:=zwz.1 (show (f s).bind (fun r=>jU f (r.l.length+1) r)=some r from hr)
 have g:=h.g s q hs hq
 have g2:=aBk h _ _ _ g.1 h2
 exact ⟨g2.1,g2.2.1.trans g.2.1,g2.2.2.1.trans g.2.2.1,by have:=g.2.2.2; have:=g2.2.2.2; omega⟩
theorem aEn {f:RO} (h:zJ f):∀ (k:Nat) (s r:aY),fK s→lZ f k s=some r→fK r∧r.d=s.d∧r.l=s.l∧s.i≤r.i
 | 0,s,r,_,e=>by simp [lZ] at e
 | k+1,s,r,hs,e=>by
  unfold lZ at e
  split at e
  ·rename_i hi
   have hlt:s.i < s.l.length:=by
    rw [Bool.or_eq_true] at hi
    rcases hi with hi | hi <;> exact fR hi
   obtain ⟨q,hq,h3⟩:=zwz.1 e
   obtain ⟨u,hu,h4⟩:=zwz.1 h3
   have g:=h.g (aE s) q ⟨hlt,hs.2⟩ hq
   obtain ⟨_,rfl⟩:=oN hu
   have g2:=aEn h k _ r (show fK { q with o:=q.o++[(if fC [45] s=true then 4 else 3,[],[])] } from ⟨g.1.1,g.1.2⟩) h4
   have a1:q.d=s.d:=g.2.1
   have a2:q.l=s.l:=g.2.2.1
   have a3:s.i+1 < q.i:=g.2.2.2
   have b3:q.i≤r.i:=g2.2.2.2
   exact ⟨g2.1,g2.2.1.trans a1,g2.2.2.1.trans a2,by omega⟩
  ·simp only [zzz] at e
   subst e
   exact ⟨hs,rfl,rfl,zxy _⟩
theorem aDc {f:RO} (h:zJ f):zJ (a5i f):=by
 refine ⟨fun s r hs hr=>?_⟩
 obtain ⟨q,hq,h2⟩:=zwz.1 (show (f s).bind (fun r=>lZ f (r.l.length+1) r)=some r from hr)
 have g:=h.g s q hs hq
 have g2:=aEn h _ _ _ g.1 h2
 exact ⟨g2.1,g2.2.1.trans g.2.1,g2.2.2.1.trans g.2.2.1,by have:=g.2.2.2; have:=g2.2.2.2; omega⟩
theorem a39:∀ f,zJ (j4 f)
 | 0=>⟨fun s r _ h=>by simp [j4] at h⟩
 | f+1=>aUn (aDc (a3a (a39 f)))
theorem aUr:∀ f,fU Try.prog hY bG (uQ (j4 f))∧fU Try.prog kZ bV (uQ (a5i (wZ (j4 f))))
 | 0=>by
  have h:fU Try.prog hY bG (uQ (j4 0)):=by
   refine tZ (T:=[]) aM.nil fun words v hv=>?_
   obtain ⟨s,rfl,⟨_,_,h⟩,rfl⟩:=eO hv
   simp [j4] at h
  exact ⟨h,aUq (a3a (a39 0)) (aUp (a39 0) h)⟩
 | f+1=>by
  have h:fU Try.prog hY bG (uQ (j4 (f+1))):=b1r (aDc (a3a (a39 f))) (aUr f).2
  exact ⟨h,aUq (a3a (a39 (f+1))) (aUp (a39 (f+1)) h)⟩
end Go.Fbs

namespace Go.Fbs
open Go.Proofs
attribute [local irreducible] bW cC opt
def kQ:RO:=a5i (wZ (j4 21))
def aId (s:aY):Option (aY×Sub) :=
 (kF s).bind fun a =>
  if fC [35] (aE s) then (kF (aE (aE s))).bind fun b=>some (aE (aE (aE s)),(a,[],b))
  else some (aE s,(a,[],[]))
def pZ:Nat→aY→List Sub→Option (aY×List Sub)
 | 0,_,_=>none
 | k+1,s,l =>
  if l.length=50 then none
  else (aId s).bind fun q =>
   if fC [124] q.1 then pZ k (aE q.1) (l++[q.2])
   else if fC [59] q.1 then some (aE q.1,l++[q.2]) else none
def wD (s:aY):Option (aY×Rel) :=
 (kF s).bind fun a =>
  if fC [61] (aE s) then
   (kQ { aE (aE s) with o:=[] }).bind fun r=>if fC [59] r then some (aE r,(a,[],r.o)) else none
  else if fC [58] (aE s) then (pZ (s.l.length+1) (aE (aE s)) []).bind fun q=>some (q.1,(a,q.2,[]))
  else none
theorem aGx:zJ kQ:=aDc (a3a (a39 21))
theorem aM5:fU Try.prog kZ bV (uQ kQ):=(aUr 21).2
theorem aDd {s:aY} {q:aY×Sub} (hs:fK s) (h:aId s=some q):fK q.1∧q.1.d=s.d∧q.1.l=s.l∧s.i < q.1.i∧q.1.o=s.o:=by
 obtain ⟨a,ha,h2⟩:=zwz.1 (show (kF s).bind _=some q from h)
 have hlt:=lY ha
 split at h2
 ·rename_i hi
  obtain ⟨b,hb,h3⟩:=zwz.1 h2
  have hl3:s.i+1+1 < s.l.length:=lY hb
  simp only [zzz] at h3
  subst h3
  exact ⟨⟨hl3,hs.2⟩,rfl,rfl,by show s.i < s.i+1+1+1; omega,rfl⟩
 ·simp only [zzz] at h2
  subst h2
  exact ⟨⟨hlt,hs.2⟩,rfl,rfl,by show s.i < s.i+1; omega,rfl⟩
end Go.Fbs
