/- The document's reader of schemas, where it reads: terms, sums; a factor told. -/
import Derived.Test.YtnmcilaebamncaaLD
set_option maxRecDepth 100000
namespace Go.Fbs
open Go.Proofs
attribute [local irreducible] cN bX opt
def kR (fac:RO):Nat→cA→Option cA
 | 0,_=>none
 | k+1,s=>if gY [38] s then (fac (aS s)).bind fun r=>(aE0 (5,[],[]) r).bind fun q=>kR fac k q else some s
def wW (fac:RO) (s:cA):Option cA:=(fac s).bind fun r=>kR fac (r.l.length+1) r
def mC (ter:RO):Nat→cA→Option cA
 | 0,_=>none
 | k+1,s=>if gY [43] s || gY [45] s then (ter (aS s)).bind fun r=>(aE0 (if gY [45] s then 4 else 3,[],[]) r).bind fun q=>mC ter k q else some s
def a6e (ter:RO) (s:cA):Option cA:=(ter s).bind fun r=>mC ter (r.l.length+1) r
def iV:Nat→RO
 | 0=>fun _=>none
 | f+1=>qH (a6e (wW (iV f)))
noncomputable def sZ (f:RO):Spec:=iA (fun s:cA=>[vR s]) (fun s=>gW s∧s.d≤20∧(f s).isSome=true) (fun s=>.aM [vR ((f s).getD s)])
theorem Fro {f:RO} {s r:cA} (h:f s=some r) (hs:gW s) (hd:s.d≤20):sZ f [vR s]=some (.aM [vR r]):=by
 have:=gV (c:=fun q:cA=>[vR q]) (ok:=fun s=>gW s∧s.d≤20∧(f s).isSome=true) (r:=fun s=>.aM [vR ((f s).getD s)]) aZt (a:=s) ⟨hs,hd,by rw [h]; rfl⟩
 rw [h] at this
 exact this
theorem aE2 (k:Int) (a b:List UInt8):aI [.int .i64 k,.str a,.str b]=some (tW (k,a,b)):=nr rfl
theorem bCv (s:cA) (i d:Nat):aI [a7 (vR s) 0,vI (i:Nat),a7 (vR s) 2,a7 (vR s) 3,a7 (vR s) 4,vI (d:Nat),a7 (vR s) 6,a7 (vR s) 7]=some (vR { s with i:=i,d:=d }):=nr rfl
theorem bHw (s:cA) (d:Nat):aI [a7 (vR s) 0,a7 (vR s) 1,a7 (vR s) 2,a7 (vR s) 3,a7 (vR s) 4,vI (d:Nat),a7 (vR s) 6,a7 (vR s) 7]=some (vR { s with d:=d }):=nr rfl
theorem cR (s:cA):a7 (vR s) 3 = .int .i64 0∧a7 (vR s) 1=vI s.i∧a7 (vR s) 5=vI s.d:=⟨rfl,rfl,rfl⟩
theorem e0R (s:cA):aB .eql (a7 (vR s) 3) (.int .i64 0)=some (.bool true):=by
 rw [(cR s).1,wN]; rfl
theorem a43 {s:cA} (h:s.i < 1000000):aB .add (a7 (vR s) 1) (.int .i64 1)=some (vI ((s.i+1:Nat):Int)):=aZr h
theorem bFd {s:cA} (h:s.d < 1000):aB .add (a7 (vR s) 5) (.int .i64 1)=some (vI ((s.d+1:Nat):Int)):=by
 rw [(cR s).2.2,aEc,iR (by omega) (by omega)]; rfl
theorem bFe {s:cA} (h:s.d < 1000) (h0:0 < s.d):aB .sub (a7 (vR s) 5) (.int .i64 1)=some (vI ((s.d - 1:Nat):Int)):=by
 rw [(cR s).2.2,bBw,iR (by omega) (by omega)]
 rw [show ((s.d:Int) - 1)=((s.d - 1:Nat):Int) by omega]
theorem wX (a:V):hJ 0 (.aM [a])=some (.aM []):=nr rfl
theorem aIz (w:List UInt8):iJ (.str w)=some (.str w):=nr rfl
noncomputable abbrev TLF (e:RO):List (FuncId×Spec):=[(dO,eP),(aN,bZ),(iG,sZ e),(aW,eN),(bJ,eO),(bV,eT)]
theorem aZu {e:RO} (ge:xK e) (he:fX Try.prog jS bW (sZ e)):fX Try.prog gR bH (sZ (qH e)):=by
 refine rV (T:=TLF e) (aL.jM oV (aL.jM iI (aL.jM he (aL.jM oT (aL.jM oU (aL.jM pG aL.nil)))))) fun words v hv=>?_
 have c1:∀ args,bL (TLF e) dO args=eP args:=fun _=>rfl
 have c2:∀ args,bL (TLF e) aN args=bZ args:=fun _=>rfl
 have c3:∀ args,bL (TLF e) iG args=sZ e args:=fun _=>rfl
 have c4:∀ args,bL (TLF e) aW args=eN args:=fun _=>rfl
 have c5:∀ args,bL (TLF e) bJ args=eO args:=fun _=>rfl
 have c6:∀ args,bL (TLF e) bV args=eT args:=fun _=>rfl
 obtain ⟨s,rfl,⟨hs,hd,hsome⟩,rfl⟩:=eR hv
 obtain ⟨r,hr⟩:=Option.isSome_iff_exists.1 hsome
 rw [hr,Option.getD_some]
 refine ⟨_,rfl,rfl,by simp [aO,kV],by simp [aO,kV,V.bP],rfl,rfl,?_⟩
 refine Eq.mpr (a11 (bL _) _ (cQ s.l) (vI s.i) (vI s.n) (.int .i64 0) (.int .i64 0) (vI s.d) (fY s.o) (.int .i64 0)) ?_
 rw [agR,aA,c1,aLf,aA,x0,aA,x1,aA,lF,aA,e0R,aA,tE]
 rw [mK,aA,c2,a16,aA,x0,aA,x1,aA,lF,aA,bY]
 unfold qH at hr
 by_cases h40:gY [40] s=true
 ·rw [if_pos h40] at hr
  rw [if_pos h40]
  have hlt:=iQ h40
  split at hr
  ·simp at hr
  ·rename_i h20
   obtain ⟨q,hq,h2⟩:=zwz.1 hr
   have g:=ge.g _ q (show gW { s with i:=s.i+1,d:=s.d+1 } from ⟨hlt,hs.2⟩) hq
   simp only at g
   split at h2
   ·rename_i h41
    have hl2:=iQ h41
    simp only [zzz] at h2
    subst h2
    have hw:=hs.2
    have gw:=g.1.2
    rw [show aB .eql (a7 (vR s) 5) (.int .i64 20)=some (.bool false) by rw [(cR s).2.2,wN,decide_eq_false (by omega)],aA,tV]
    rw [bFd (by omega),aA,a43 (by omega),aA,bCv,aA,c3,Fro hq ⟨hlt,hs.2⟩ (by show s.d+1≤20; omega),aA,wX,aA,x0,aA,lF,aA,mK,aA]
    rw [c4,aE1 h41 (by omega),aA,wX,aA,x0,aA,lF,aA,bFe (s:=aS q) (by show q.d < 1000; omega) (by show 0 < q.d; omega),aA,bHw,aA]
    rfl
   ·simp at h2
 ·rw [if_neg h40] at hr
  rw [if_neg h40]
  obtain ⟨a,ha,h2⟩:=zwz.1 hr
  have hlt:=qI ha
  have hw:=hs.2
  rw [mK,aA,c5,a9d ha (by omega),aA,x0,aA,x1,aA,lF,aA,e0R,aA,tE]
  rw [mK,aA,c2,a16,aA,x0,aA,x1,aA,lF,aA,bY]
  by_cases h62:gY [45,62] (aS s)=true
  ·rw [if_pos h62] at h2
   rw [if_pos h62]
   have hl2:s.i+1 < s.l.length:=iQ h62
   obtain ⟨b,hb,h3⟩:=zwz.1 h2
   have hl3:s.i+1+1 < s.l.length:=qI hb
   obtain ⟨ho,rfl⟩:=rJ h3
   rw [a43 (s:=aS s) (by show s.i+1 < 1000000; omega),aA,a5c (aS s),aA,c5,a9d hb (by show s.i+1+1 < 1000000; omega),aA,x0,aA,x1,aA,lF,aA,aIz,aA,aIz,aA,aE2,aA,mK,aA,c6,aLe _ _ ho,aA,wX,aA,x0,aA,lF,aA,mK,aA]
  ·rw [if_neg h62] at h2
   rw [if_neg h62]
   obtain ⟨ho,rfl⟩:=rJ h2
   rw [aIz,aA,aE2,aA,mK,aA,c6,aLe _ _ ho,aA,wX,aA,x0,aA,lF,aA,mK,aA]
end Go.Fbs
