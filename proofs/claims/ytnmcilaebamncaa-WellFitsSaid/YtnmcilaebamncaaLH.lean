/- The document's reader of schemas, where it reads: at every depth. -/
import Derived.Test.YtnmcilaebamncaaLG
set_option maxRecDepth 100000
namespace Go.Fbs
open Go.Proofs
attribute [local irreducible] cN bX opt
theorem a9e {f:RO} (h:xK f):∀ (k:Nat) (s r:cA),gW s→kR f k s=some r→gW r∧r.d=s.d∧r.l=s.l∧s.i≤r.i
 | 0,s,r,_,e=>by simp [kR] at e
 | k+1,s,r,hs,e=>by
  unfold kR at e
  split at e
  ·rename_i hi
   have hlt:=iQ hi
   obtain ⟨q,hq,h3⟩:=zwz.1 e
   obtain ⟨u,hu,h4⟩:=zwz.1 h3
   have g:=h.g (aS s) q ⟨hlt,hs.2⟩ hq
   obtain ⟨_,rfl⟩:=rJ hu
   have g2:=a9e h k _ r (show gW { q with o:=q.o++[(5,[],[])] } from ⟨g.1.1,g.1.2⟩) h4
   have a1:q.d=s.d:=g.2.1
   have a2:q.l=s.l:=g.2.2.1
   have a3:s.i+1 < q.i:=g.2.2.2
   have b3:q.i≤r.i:=g2.2.2.2
   exact ⟨g2.1,g2.2.1.trans a1,g2.2.2.1.trans a2,by omega⟩
  ·simp only [zzz] at e
   subst e
   exact ⟨hs,rfl,rfl,zxy _⟩
theorem a08 {f:RO} (h:xK f):xK (wW f):=by
 refine ⟨fun s r hs hr=>?_⟩
 obtain ⟨q,hq,h2⟩:=zwz.1 (show (f s).bind (fun r=>kR f (r.l.length+1) r)=some r from hr)
 have g:=h.g s q hs hq
 have g2:=a9e h _ _ _ g.1 h2
 exact ⟨g2.1,g2.2.1.trans g.2.1,g2.2.2.1.trans g.2.2.1,by have:=g.2.2.2; have:=g2.2.2.2; omega⟩
theorem aCf {f:RO} (h:xK f):∀ (k:Nat) (s r:cA),gW s→mC f k s=some r→gW r∧r.d=s.d∧r.l=s.l∧s.i≤r.i
 | 0,s,r,_,e=>by simp [mC] at e
 | k+1,s,r,hs,e=>by
  unfold mC at e
  split at e
  ·rename_i hi
   have hlt:s.i < s.l.length:=by
    rw [Bool.or_eq_true] at hi
    rcases hi with hi | hi <;> exact iQ hi
   obtain ⟨q,hq,h3⟩:=zwz.1 e
   obtain ⟨u,hu,h4⟩:=zwz.1 h3
   have g:=h.g (aS s) q ⟨hlt,hs.2⟩ hq
   obtain ⟨_,rfl⟩:=rJ hu
   have g2:=aCf h k _ r (show gW { q with o:=q.o++[(if gY [45] s=true then 4 else 3,[],[])] } from ⟨g.1.1,g.1.2⟩) h4
   have a1:q.d=s.d:=g.2.1
   have a2:q.l=s.l:=g.2.2.1
   have a3:s.i+1 < q.i:=g.2.2.2
   have b3:q.i≤r.i:=g2.2.2.2
   exact ⟨g2.1,g2.2.1.trans a1,g2.2.2.1.trans a2,by omega⟩
  ·simp only [zzz] at e
   subst e
   exact ⟨hs,rfl,rfl,zxy _⟩
theorem aBl {f:RO} (h:xK f):xK (a6e f):=by
 refine ⟨fun s r hs hr=>?_⟩
 obtain ⟨q,hq,h2⟩:=zwz.1 (show (f s).bind (fun r=>mC f (r.l.length+1) r)=some r from hr)
 have g:=h.g s q hs hq
 have g2:=aCf h _ _ _ g.1 h2
 exact ⟨g2.1,g2.2.1.trans g.2.1,g2.2.2.1.trans g.2.2.1,by have:=g.2.2.2; have:=g2.2.2.2; omega⟩
theorem a17:∀ f,xK (iV f)
 | 0=>⟨fun s r _ h=>by simp [iV] at h⟩
 | f+1=>aTb (aBl (a08 (a17 f)))
theorem aTg:∀ f,fX Try.prog gR bH (sZ (iV f))∧fX Try.prog jS bW (sZ (a6e (wW (iV f))))
 | 0=>by
  have h:fX Try.prog gR bH (sZ (iV 0)):=by
   refine rV (T:=[]) aL.nil fun words v hv=>?_
   obtain ⟨s,rfl,⟨_,_,h⟩,rfl⟩:=eR hv
   simp [iV] at h
  exact ⟨h,aTf (a08 (a17 0)) (aTe (a17 0) h)⟩
 | f+1=>by
  have h:fX Try.prog gR bH (sZ (iV (f+1))):=aZu (aBl (a08 (a17 f))) (aTg f).2
  exact ⟨h,aTf (a08 (a17 (f+1))) (aTe (a17 (f+1)) h)⟩
end Go.Fbs
