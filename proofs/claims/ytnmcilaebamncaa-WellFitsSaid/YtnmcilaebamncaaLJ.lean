/- The document's reader of schemas, where it reads: relations told. -/
import Derived.Test.YtnmcilaebamncaaLI
set_option maxRecDepth 100000
namespace Go.Fbs
open Go.Proofs
attribute [local irreducible] cN bX opt zX
theorem bCw (a:List UInt8):aI [.str a,.sl .ro [],.sl .ro []]=some (kF (a,[],[])):=nr rfl
theorem bFf (s:cA):aI [a7 (vR s) 0,vI ((s.i+1:Nat):Int),a7 (vR s) 2,a7 (vR s) 3,a7 (vR s) 4,a7 (vR s) 5,.sl .ro [],a7 (vR s) 7]=some (vR { aS s with o:=[] }):=nr rfl
theorem bCx (a:List UInt8) (r:cA):aI [a7 (kF (a,[],[])) 0,.sl .ro [],a7 (vR r) 6]=some (kF (a,[],r.o)):=nr rfl
theorem bCy (a:List UInt8) (l:List Sub):aI [a7 (kF (a,[],[])) 0,l6 l,.sl .ro []]=some (kF (a,l,[])):=nr rfl
theorem bCz (a:List UInt8):aI [.str a,.str [],.str []]=some (kL (a,[],[])):=nr rfl
theorem bC0 (a b:List UInt8):aI [a7 (kL (a,[],[])) 0,a7 (kL (a,[],[])) 1,.str b]=some (kL (a,[],b)):=nr rfl
noncomputable def aPc:Spec:=iA (fun s:cA=>[vR s]) (fun s=>gW s∧s.d≤20∧(vN s).isSome=true) (fun s=>.aM [kF ((vN s).getD (s,[],[],[])).2,vR ((vN s).getD (s,[],[],[])).1])
theorem bHx {s:cA} {q:cA×Rel} (h:vN s=some q) (hs:gW s) (hd:s.d≤20):aPc [vR s]=some (.aM [kF q.2,vR q.1]):=by
 have:=gV (c:=fun q:cA=>[vR q]) (ok:=fun s=>gW s∧s.d≤20∧(vN s).isSome=true) (r:=fun s=>.aM [kF ((vN s).getD (s,[],[],[])).2,vR ((vN s).getD (s,[],[],[])).1]) aZt (a:=s) ⟨hs,hd,by rw [h]; rfl⟩
 rw [h] at this
 exact this
noncomputable def bFg:Spec:=sZ zX
noncomputable abbrev TLR:List (FuncId×Spec):=[(bJ,eO),(aN,bZ),(iG,bFg),(aW,eN)]
theorem bC1 (s:cA) (q:cA×Rel) (hs:gW s) (hd:s.d≤20) (hq:vN s=some q):cN bO (bL TLR) 98 lI [.cell 2 39] cU (cB Try.f44) [vR s] (fun r=>r=V.aM [kF q.2,vR q.1]):=by
 have c1:∀ args,bL TLR bJ args=eO args:=fun _=>rfl
 have c2:∀ args,bL TLR aN args=bZ args:=fun _=>rfl
 have c3:∀ args,bL TLR iG args=sZ zX args:=fun _=>rfl
 have c4:∀ args,bL TLR aW args=eN args:=fun _=>rfl
 refine Eq.mpr (a4w (bL _) _ (cQ s.l) (vI s.i) (vI s.n) (.int .i64 0) (.int .i64 0) (vI s.d) (fY s.o) (.int .i64 0)) ?_
 obtain ⟨a,ha,h2⟩:=zwz.1 (show (nK s).bind _=some q from hq)
 have hlt:=qI ha
 have hw:=hs.2
 rw [agR,aA,c1,a9d ha (by omega),aA,x0,aA,x1,aA,lF,aA,aIz,aA,bCw,aA,e0R,aA,tE]
 rw [mK,aA,c2,a16,aA,x0,aA,x1,aA,lF,aA,bY]
 by_cases h61:gY [61] (aS s)=true
 ·rw [if_pos h61] at h2
  rw [if_pos h61]
  have hl2:s.i+1 < s.l.length:=iQ h61
  obtain ⟨r,hr,h3⟩:=zwz.1 h2
  have g:=aN3.g _ r (show gW { aS (aS s) with o:=[] } from ⟨hl2,hs.2⟩) hr
  split at h3
  ·rename_i h59
   have hl3:=iQ h59
   simp only [zzz] at h3
   subst h3
   have g1:r.l.length≤500000:=g.1.2
   rw [a43 (s:=aS s) (by show s.i+1 < 1000000; omega),aA,bFf,aA,c3,Fro hr ⟨hl2,hs.2⟩ hd,aA,wX,aA,x0,aA,lF,aA,mK,aA,c4,aE1 h59 (by omega),aA,wX,aA,x0,aA,lF,aA,bCx,aA,mK,aA]
  ·simp at h3
 ·rw [if_neg h61] at h2
  rw [if_neg h61]
  split at h2
  ·rename_i h58
   have hl2:s.i+1 < s.l.length:=iQ h58
   obtain ⟨q0,hr,h3⟩:=zwz.1 h2
   simp only [zzz] at h3
   subst h3
   rw [mK,aA,c4,aE1 h58 (by show s.i+1 < 1000000; omega),aA,wX,aA,x0,aA,lF,aA]
   generalize hs2:aS (aS s)=s2 at hr ⊢
   have hw2:gW s2:=by rw [← hs2]; exact ⟨hl2,hs.2⟩
   have hd2:s2.d≤20:=by rw [← hs2]; exact hd
   rw [(gH s2).1,(gH s2).2.1,(gH s2).2.2.1,(gH s2).2.2.2.1,(gH s2).2.2.2.2.1,(gH s2).2.2.2.2.2.1,(gH s2).2.2.2.2.2.2.1,(gH s2).2.2.2.2.2.2.2]
   have h61':gY [61] (aS s)=false:=by simpa using h61
   rw [h61']
   refine fK (fun vs=>∃ (t:cA) (l:List Sub) (k:Nat),vs=[fY t.o,.bool false,cQ t.l,vI t.i,vI t.n,.int .i64 0,.int .i64 0,vI t.d,.int .i64 0,l6 l]∧gW t∧t.d≤20∧l.length≤50∧qJ k t l=some q0) (fun vs=>1000000 - fN (gv vs 3)) ⟨s2,[],_,rfl,hw2,hd2,by simp,hr⟩ ?_
   rintro rr _ ⟨t,l,k,rfl,hwt,hdt,h50,ht⟩ hk
   refine ⟨rfl,?_⟩
   simp only [lY,n9]
   cases k with
   | zero=>simp [qJ] at ht
   | succ k =>
   unfold qJ at ht
   split at ht
   ·simp at ht
   rename_i hne
   obtain ⟨⟨u,sb⟩,hsub,h4⟩:=zwz.1 ht
   have gs:=aLh hwt hsub
   obtain ⟨b,hb,h5⟩:=zwz.1 (show (nK t).bind _=some (u,sb) from hsub)
   have hlt2:=qI hb
   have hw3:=hwt.2
   rw [wN,aA,bY,if_pos (by simp),aSz,aA,wN,aA,decide_eq_false (by omega)]
   refine jn (X:=[fY t.o,l6 l,cQ t.l,vI t.i,vI t.n,.int .i64 0,.int .i64 0,vI t.d,.int .i64 0]) (fun r1 h1=>by rw [tV]; exact h1) ?_
   refine ⟨rfl,?_⟩
   simp only [lY,n9]
   rw [aMt,aA,c1,a9d hb (by omega),aA,x0,aA,x1,aA,lF,aA,aIz,aA,bCz,aA,e0R,aA,tE]
   rw [mK,aA,c2,a16,aA,x0,aA,x1,aA,lF,aA]
   have hsb:sb=(b,[],sb.2.2):=by
    split at h5
    ·obtain ⟨d,_,h6⟩:=zwz.1 h5
     simp only [zzz,zvy] at h6
     rw [← h6.2]
    ·simp only [zzz,zvy] at h5
     rw [← h5.2]
   refine jn (X:=[fY u.o,l6 l,cQ u.l,vI u.i,vI u.n,.int .i64 0,.int .i64 0,vI u.d,.int .i64 0,.str sb.2.2]) ?_ ?_
   ·intro r1 h1
    rw [bY]
    by_cases h35:gY [35] (aS t)=true
    ·rw [if_pos h35] at h5
     rw [if_pos h35]
     have hl3:t.i+1 < t.l.length:=iQ h35
     obtain ⟨d,hd',h6⟩:=zwz.1 h5
     simp only [zzz,zvy] at h6
     obtain ⟨rfl,rfl⟩:=h6
     have hl4:t.i+1+1 < t.l.length:=qI hd'
     rw [a43 (s:=aS t) (by show t.i+1 < 1000000; omega),aA,a5c (aS t),aA,c1,a9d hd' (by show t.i+1+1 < 1000000; omega),aA,x0,aA,x1,aA,lF,aA,aIz,aA]
     exact h1
    ·rw [if_neg h35] at h5
     rw [if_neg h35]
     simp only [zzz,zvy] at h5
     obtain ⟨rfl,rfl⟩:=h5
     exact h1
   ·refine ⟨rfl,?_⟩
    simp only [lY,n9]
    rw [bC0,aA,← hsb,bCc,aA,bB9 (by omega),aA,wN,aA,bY,if_pos (by simp)]
    rw [aMt,aA,c2,a16,aA,x0,aA,x1,aA,lF,aA,bY]
    have gi:t.i < u.i:=gs.2.2.2.1
    have gw:u.i≤u.l.length:=gs.1.1
    have gw2:u.l.length≤500000:=gs.1.2
    have gd:u.d=t.d:=gs.2.1
    simp only at h4
    by_cases h124:gY [124] u=true
    ·rw [if_pos h124] at h4
     rw [if_pos h124]
     have hl5:=iQ h124
     rw [a43 (by omega),aA]
     refine hk _ ⟨aS u,l++[sb],k,rfl,⟨hl5,gw2⟩,by show u.d≤20; omega,by simp; omega,h4⟩ ?_
     show 1000000 - (u.i+1) < 1000000 - t.i
     omega
    ·rw [if_neg h124] at h4
     rw [if_neg h124]
     split at h4
     ·rename_i h59
      have hl5:=iQ h59
      simp only [zzz] at h4
      subst h4
      rw [mK,aA,c4,aE1 h59 (by omega),aA,wX,aA,x0,aA,lF,aA,bCy,aA,mK,aA]
     ·simp at h4
  ·simp at h2
theorem bC2:fX Try.prog xO cU aPc:=by
 refine a32 (T:=TLR) (aL.jM oU (aL.jM iI (aL.jM aZv (aL.jM oT aL.nil)))) fun words v hv=>?_
 obtain ⟨s,rfl,⟨hs,hd,hsome⟩,rfl⟩:=eR hv
 obtain ⟨q,hq⟩:=Option.isSome_iff_exists.1 hsome
 rw [hq,Option.getD_some]
 exact ⟨_,rfl,rfl,by simp [aO,kV],by simp [aO,kV,aEs,V.bP],rfl,rfl,bC1 s q hs hd hq⟩
end Go.Fbs
