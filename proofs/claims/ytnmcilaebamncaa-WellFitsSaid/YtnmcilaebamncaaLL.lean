/- The document's reader of schemas, where it reads: a schema told. -/
import Derived.Test.YtnmcilaebamncaaLK
set_option linter.unusedVariables false
set_option linter.unusedSimpArgs false
set_option linter.unusedSectionVars false
set_option maxRecDepth 100000
namespace Go.Fbs
open Go.Proofs
attribute [local irreducible] cN bX opt zX
def aPd (s : cA) : Bool:=match s.l[s.i]? with | some t=>decide (t.1 = 1) && (t.2.2 == [116,121,112,101]) | none=>false
def rK:Nat→cA→List Rel→Option (cA×List Rel)
 | 0,_,_=>none
 | k+1,s,l =>
  if gY [125] s then some (aS s,l)
  else if l.length=200 then none
  else (vN s).bind fun q=>rK k q.1 (l++[q.2])
def aBp (s:cA):Option (cA×j0) :=
 if aPd s then (nK (aS s)).bind fun a =>
  if gY [123] (aS (aS s)) then (rK (s.l.length+1) (aS (aS (aS s))) []).bind fun q=>some (q.1,(a,q.2))
  else some (aS (aS s),(a,[]))
 else none
def qU:Nat→cA→List j0→Option (List j0)
 | 0,_,_=>none
 | k+1,s,ts =>
  if s.i < s.l.length then
   if ts.length=200 then none
   else (aBp s).bind fun q=>qU k q.1 (ts++[q.2])
  else some ts
def kM (w:List UInt8):Option (List j0) :=
 if (kU w).2.2=0 then qU ((kU w).1.length+1) ⟨(kU w).1,0,w.length,0,[]⟩ [] else none
theorem aN4:∀ (k:Nat) (s:cA) (l:List Sub) (q:cA×List Sub),gW s→qJ k s l=some q→gW q.1∧q.1.d=s.d∧q.1.l=s.l∧s.i < q.1.i
 | 0,s,l,q,_,h=>by simp [qJ] at h
 | k+1,s,l,q,hs,h=>by
  unfold qJ at h
  split at h
  ·simp at h
  obtain ⟨⟨u,sb⟩,hsub,h4⟩:=zwz.1 h
  have gs:=aLh hs hsub
  simp only at h4 gs
  split at h4
  ·rename_i h1
   have hl:=iQ h1
   have:=aN4 k (aS u) _ q ⟨hl,gs.1.2⟩ h4
   have a1:q.1.d=u.d:=this.2.1
   have a2:q.1.l=u.l:=this.2.2.1
   have a3:u.i+1 < q.1.i:=this.2.2.2
   exact ⟨this.1,a1.trans gs.2.1,a2.trans gs.2.2.1,by have:=gs.2.2.2.1; omega⟩
  ·split at h4
   ·rename_i h1
    have hl:=iQ h1
    simp only [zzz] at h4
    subst h4
    exact ⟨⟨hl,gs.1.2⟩,gs.2.1,gs.2.2.1,by show s.i < u.i+1; have:=gs.2.2.2.1; omega⟩
   ·simp at h4
theorem aTj {s:cA} {q:cA×Rel} (hs:gW s) (h:vN s=some q):gW q.1∧q.1.d=s.d∧q.1.l=s.l∧s.i < q.1.i:=by
 obtain ⟨a,ha,h2⟩:=zwz.1 (show (nK s).bind _=some q from h)
 have hlt:=qI ha
 split at h2
 ·rename_i h61
  have hl2:s.i+1 < s.l.length:=iQ h61
  obtain ⟨r,hr,h3⟩:=zwz.1 h2
  have g:=aN3.g _ r (show gW { aS (aS s) with o:=[] } from ⟨hl2,hs.2⟩) hr
  split at h3
  ·rename_i h59
   have hl3:=iQ h59
   simp only [zzz] at h3
   subst h3
   have g3:s.i+1+1 < r.i:=g.2.2.2
   exact ⟨⟨hl3,g.1.2⟩,g.2.1,g.2.2.1,by show s.i < r.i+1; omega⟩
  ·simp at h3
 ·split at h2
  ·rename_i h58
   have hl2:s.i+1 < s.l.length:=iQ h58
   obtain ⟨q0,hr,h3⟩:=zwz.1 h2
   simp only [zzz] at h3
   subst h3
   have g:=aN4 _ (aS (aS s)) [] q0 ⟨hl2,hs.2⟩ hr
   have g3:s.i+1+1 < q0.1.i:=g.2.2.2
   exact ⟨g.1,g.2.1,g.2.2.1,by show s.i < q0.1.i; omega⟩
  ·simp at h2
theorem aN5:∀ (k:Nat) (s:cA) (l:List Rel) (q:cA×List Rel),gW s→rK k s l=some q→gW q.1∧q.1.d=s.d∧q.1.l=s.l∧s.i < q.1.i
 | 0,s,l,q,_,h=>by simp [rK] at h
 | k+1,s,l,q,hs,h=>by
  unfold rK at h
  split at h
  ·rename_i h1
   have hl:=iQ h1
   simp only [zzz] at h
   subst h
   exact ⟨⟨hl,hs.2⟩,rfl,rfl,Nat.lt_succ_self _⟩
  ·split at h
   ·simp at h
   obtain ⟨u,hu,h4⟩:=zwz.1 h
   have g:=aTj hs hu
   have:=aN5 k u.1 _ q g.1 h4
   exact ⟨this.1,this.2.1.trans g.2.1,this.2.2.1.trans g.2.2.1,Nat.lt_trans g.2.2.2 this.2.2.2⟩
theorem bC3 (a:List UInt8) (l:List Rel):aI [a7 (mB (a,[])) 0,lJ l]=some (mB (a,l)):=nr rfl
theorem bC4 (a:List UInt8):aI [.str a,.sl .ro []]=some (mB (a,[])):=nr rfl
theorem b55 (l:List iH) (n:Nat):aI [cQ l,.int .i64 0,vI n,.int .i64 0,.int .i64 0,.int .i64 0,.sl .ro [],.int .i64 0]=some (vR ⟨l,0,n,0,[]⟩):=nr rfl
theorem gI (b:Bool) (o:Option V):aK (.bool b) b o=o:=by cases b <;> rfl
theorem a2p (x y:V):aZ (.bool true) x y=some x:=nr rfl
theorem aGh (x y:V):aZ (.bool false) x y=some y:=nr rfl
theorem b93 {s:cA} : aI [cQ s.l,vI ((s.i+1:Nat):Int),vI s.n,.int .i64 0,.int .i64 0,vI s.d,fY s.o,.int .i64 0]=some (vR (aS s)):=nr rfl
noncomputable def nR:Spec:=iA (fun w:List UInt8=>[.str w]) (fun w=>w.length≤100000∧(kM w).isSome=true) (fun w=>.aM [iU ((kM w).getD []),.int .i64 0,.int .i64 0])
theorem b94 {w:List UInt8} {ts:List j0} (h:kM w=some ts) (hw:w.length≤100000):nR [.str w]=some (.aM [iU ts,.int .i64 0,.int .i64 0]):=by
 have:=gV (c:=fun w:List UInt8=>[V.str w]) (ok:=fun w=>w.length≤100000∧(kM w).isSome=true) (r:=fun w=>.aM [iU ((kM w).getD []),.int .i64 0,.int .i64 0]) (fun a b h=>by simpa using h) (a:=w) ⟨hw,by rw [h]; rfl⟩
 rw [h] at this
 exact this
noncomputable abbrev TLP:List (FuncId×Spec):=[(mT,mW),(bJ,eO),(aN,bZ),(qP,aPc),(aW,eN)]
theorem b2m (w:List UInt8) (ts:List j0) (hw:w.length≤100000) (hts:kM w=some ts):bX bO (bL TLP) 148 rI [.tmp 2,.tmp 3,.tmp 4] (cB Try.f16) [.str w] (fun r=>r=V.aM [iU ts,.int .i64 0,.int .i64 0]):=by
 have c0:∀ args,bL TLP mT args=mW args:=fun _=>rfl
 have c1:∀ args,bL TLP bJ args=eO args:=fun _=>rfl
 have c2:∀ args,bL TLP aN args=bZ args:=fun _=>rfl
 have c3:∀ args,bL TLP qP args=aPc args:=fun _=>rfl
 have c4:∀ args,bL TLP aW args=eN args:=fun _=>rfl
 refine Eq.mpr (aEl (bL _) _ (.str w)) ?_
 unfold kM at hts
 split at hts
 case isFalse=>simp at hts
 rename_i he
 have hlen:=aUw w
 rw [c0,show mW [.str w]=some (.aM [cQ (kU w).1,vI (kU w).2.1,vI (kU w).2.2]) from if_pos (by unfold big; omega)]
 generalize (kU w).2.2=er at he ⊢
 subst he
 generalize (kU w).1=l at hts hlen ⊢
 rw [aA,x0,aA,x1,aA,x2,aA,aSe,aA,bY,if_neg (by simp),b1y,aA,bHq,aA,b55,aA]
 generalize hs0:(⟨l,0,w.length,0,[]⟩:cA)=s0 at hts ⊢
 have h0:gW s0∧s0.d=0∧s0.l=l∧s0.o=[]:=by rw [← hs0]; exact ⟨⟨Nat.zero_le _,by show l.length≤500000; omega⟩,rfl,rfl,rfl⟩
 rw [(gH s0).1,(gH s0).2.1,(gH s0).2.2.1,(gH s0).2.2.2.1,(gH s0).2.2.2.2.1,(gH s0).2.2.2.2.2.1,(gH s0).2.2.2.2.2.2.2]
 refine fK (fun vs=>∃ (t:cA) (tl:List j0) (k:Nat),vs=[iU tl,cQ t.l,vI t.i,vI t.n,.int .i64 0,.int .i64 0,vI t.d,fY t.o,.int .i64 0]∧gW t∧t.d≤20∧t.l=l∧tl.length≤200∧qU k t tl=some ts) (fun vs=>1000000 - fN (gv vs 2))
  ⟨s0,[],_,by rw [h0.2.2.2]; rfl,h0.1,by omega,h0.2.2.1,by simp,hts⟩ ?_
 rintro r0 _ ⟨t,tl,k,rfl,hwt,hdt,htl,h200,ht⟩ hr0
 refine ⟨rfl,?_⟩
 simp only [lY,n9]
 cases k with
 | zero=>simp [qU] at ht
 | succ k =>
 unfold qU at ht
 rw [wN,aA,aPb,aA,a5z,aA,decide_eq_true (rfl:(0:Int)=0),a2p,aA,bY]
 split at ht
 case isFalse =>
  rename_i hlt
  rw [htl] at hlt
  simp only [zzz] at ht
  subst ht
  rw [if_neg (by simp only [decide_eq_true_eq]; omega),aSe,aA,bY,if_neg (by simp)]
 rename_i hlt
 rw [if_pos (by rw [← htl]; simp only [decide_eq_true_eq]; omega)]
 split at ht
 ·simp at ht
 rename_i hne
 obtain ⟨⟨u,ty⟩,hty,h4⟩:=zwz.1 ht
 simp only at h4
 unfold aBp at hty
 split at hty
 case isFalse=>simp at hty
 rename_i hword
 obtain ⟨a,ha,h5⟩:=zwz.1 hty
 have hl1:t.i+1 < t.l.length:=qI ha
 have hwl:=hwt.2
 obtain ⟨tk,htk⟩ : ∃ tk,t.l[t.i]? = some tk:=⟨_,zyz hlt⟩
 have hk:tk.1=1∧tk.2.2=[116,121,112,101]:=by
  unfold aPd at hword
  rw [htk] at hword
  simpa using hword
 rw [aS1,aA,wN,aA,decide_eq_false (by omega)]
 refine jn (X:=[iU tl,fY t.o,cQ t.l,vI t.i,vI t.n,.int .i64 0,.int .i64 0,vI t.d,.int .i64 0]) (fun r1 h1=>by rw [tV]; exact h1) ?_
 refine ⟨rfl,?_⟩
 simp only [lY,n9]
 rw [wN,aA,decide_eq_true (rfl:(0:Int)=0),gI,← htl,aLd htk,aA,gI,pT0,aA,gI,hk.1,aSe,aA,gI,aA]
 rw [show (!decide ((1:Int)=1))=false by decide,ckB,aA,gI,aA,gI,pT2,aA,gI,hk.2]
 rw [show aB .neq (.str [116,121,112,101]) (.str [116,121,112,101])=some (.bool false) by kernel_rfl,aA,gI,aGh,aA,a2p,aA]
 refine jn (X:=[iU tl,fY t.o,cQ t.l,vI t.i,vI t.n,.int .i64 0,.int .i64 0,vI t.d,.int .i64 0]) (fun r1 h1=>by rw [tV]; exact h1) ?_
 refine ⟨rfl,?_⟩
 simp only [lY,n9]
 rw [aZr (by omega),aA,b93,aA,c1,a9d ha (by show t.i+1 < 1000000; omega),aA,x0,aA,x1,aA,lF,aA,aIz,aA,bC4,aA,e0R,aA,tE]
 rw [mK,aA,c2,a16,aA,x0,aA,x1,aA,lF,aA]
 have hu:gW u∧u.d=t.d∧u.l=t.l∧t.i < u.i∧ty.1=a:=by
  split at h5
  ·rename_i h123
   have hl2:t.i+1+1 < t.l.length:=iQ h123
   obtain ⟨q,hq,h6⟩:=zwz.1 h5
   simp only [zzz,zvy] at h6
   obtain ⟨rfl,rfl⟩:=h6
   have g:=aN5 _ (aS (aS (aS t))) [] q ⟨hl2,hwt.2⟩ hq
   have g3:t.i+1+1+1 < q.1.i:=g.2.2.2
   exact ⟨g.1,g.2.1,g.2.2.1,by omega,rfl⟩
  ·simp only [zzz,zvy] at h5
   obtain ⟨rfl,rfl⟩:=h5
   exact ⟨⟨hl1,hwt.2⟩,rfl,rfl,by show t.i < t.i+1+1; omega,rfl⟩
 refine jn (X:=[iU tl,fY u.o,cQ u.l,vI u.i,vI u.n,.int .i64 0,.int .i64 0,vI u.d,.int .i64 0,lJ ty.2]) ?_ ?_
 ·intro r1 h1
  rw [bY]
  by_cases h123:gY [123] (aS (aS t))=true
  ·rw [if_pos h123] at h5
   rw [if_pos h123]
   have hl2:t.i+1+1 < t.l.length:=iQ h123
   obtain ⟨q,hq,h6⟩:=zwz.1 h5
   simp only [zzz,zvy] at h6
   obtain ⟨rfl,rfl⟩:=h6
   rw [a43 (s:=aS (aS t)) (by show t.i+1+1 < 1000000; omega),aA]
   refine fK (fun vs=>∃ (v:cA) (rl:List Rel) (k:Nat),vs=[fY v.o,iU tl,cQ v.l,vI v.i,vI v.n,.int .i64 0,.int .i64 0,vI v.d,.int .i64 0,lJ rl]∧gW v∧v.d≤20∧rl.length≤200∧rK k v rl=some q) (fun vs=>1000000 - fN (gv vs 3))
    ⟨aS (aS (aS t)),[],_,rfl,⟨hl2,hwt.2⟩,hdt,by simp,hq⟩ ?_
   rintro r2 _ ⟨v,rl,k2,rfl,hwv,hdv,hrl,hv⟩ hr2
   refine ⟨rfl,?_⟩
   simp only [lY,n9]
   cases k2 with
   | zero=>simp [rK] at hv
   | succ k2 =>
   unfold rK at hv
   have hv2:=hwv.2
   rw [wN,aA,bY,if_pos (by simp),aMt,aA,c2,a16,aA,x0,aA,x1,aA,lF,aA,a5y,aA,bY]
   by_cases h125:gY [125] v=true
   ·rw [if_pos h125] at hv
    rw [h125,if_neg (by simp)]
    have hl3:=iQ h125
    simp only [zzz] at hv
    subst hv
    rw [mK,aA,c4,aE1 h125 (by omega),aA,wX,aA,x0,aA,lF,aA]
    exact h1
   ·rw [if_neg h125] at hv
    have h125':gY [125] v=false:=by simpa using h125
    rw [h125',if_pos (by simp)]
    split at hv
    ·simp at hv
    rename_i hn2
    obtain ⟨⟨x,rel⟩,hrel,h7⟩:=zwz.1 hv
    simp only at h7
    have gr:=aTj hwv hrel
    rw [aS0,aA,wN,aA,decide_eq_false (by omega)]
    refine jn (X:=[iU tl,fY v.o,lJ rl,cQ v.l,vI v.i,vI v.n,.int .i64 0,.int .i64 0,vI v.d,.int .i64 0]) (fun r3 h3=>by rw [tV]; exact h3) ?_
    refine ⟨rfl,?_⟩
    simp only [lY,n9]
    rw [wN,aA,bY,if_pos (by simp),aMt,aA,c3,bHx hrel hwv hdv,aA,x0,aA,x1,aA,lF,aA,bCd,aA,bCa (by omega),aA]
    have gi:v.i < x.i:=gr.2.2.2
    have gd:x.d=v.d:=gr.2.1
    have gw:x.i≤x.l.length:=gr.1.1
    have gw2:x.l.length≤500000:=gr.1.2
    refine hr2 _ ⟨x,rl++[rel],k2,rfl,gr.1,by omega,by simp; omega,h7⟩ ?_
    show 1000000 - x.i < 1000000 - v.i
    omega
  ·rw [if_neg h123] at h5
   rw [if_neg h123]
   simp only [zzz,zvy] at h5
   obtain ⟨rfl,rfl⟩:=h5
   exact h1
 ·refine ⟨rfl,?_⟩
  simp only [lY,n9]
  rw [bC3,aA,show ((a,ty.2):j0)=ty by rw [← hu.2.2.2.2],bCe,aA,bCb (by omega),aA]
  have gi:t.i < u.i:=hu.2.2.2.1
  have gw:u.i≤u.l.length:=hu.1.1
  have gw2:u.l.length≤500000:=hu.1.2
  refine hr0 _ ⟨u,tl++[ty],k,rfl,hu.1,by rw [hu.2.1]; exact hdt,hu.2.2.1.trans htl,by simp; omega,h4⟩ ?_
  show 1000000 - u.i < 1000000 - t.i
  omega
theorem aCu:dD Try.prog lE nR:=by
 refine aCo (T:=TLP) (aL.cons aBo (aL.jM oU (aL.jM iI (aL.jM bC2 (aL.jM oT aL.nil))))) fun args v hv=>?_
 obtain ⟨w,rfl,⟨hw,hsome⟩,rfl⟩:=eR hv
 obtain ⟨ts,hts⟩:=Option.isSome_iff_exists.1 hsome
 rw [hts,Option.getD_some]
 exact ⟨rfl,by simp [aO,V.bP],by simp [aO,a4z,V.bP],b2m w ts hw hts⟩
noncomputable def rL:Spec:=iA (fun w:List UInt8=>[.str w]) (fun w=>w.length≤100000∧(kM w).isSome=true) (fun w=>iU ((kM w).getD []))
theorem b95 {w:List UInt8} {ts:List j0} (h:kM w=some ts) (hw:w.length≤100000):rL [.str w]=some (iU ts):=by
 have:=gV (c:=fun w:List UInt8=>[V.str w]) (ok:=fun w=>w.length≤100000∧(kM w).isSome=true) (r:=fun w=>iU ((kM w).getD [])) (fun a b h=>by simpa using h) (a:=w) ⟨hw,by rw [h]; rfl⟩
 rw [h] at this
 exact this
theorem aCv:dD Try.prog nO rL:=by
 refine aCn (T:=[(lE,nR)]) (aL.cons aCu aL.nil) fun args v hv=>?_
 have c0:∀ args,bL [(lE,nR)] lE args=nR args:=fun _=>rfl
 obtain ⟨w,rfl,⟨hw,hsome⟩,rfl⟩:=eR hv
 obtain ⟨ts,hts⟩:=Option.isSome_iff_exists.1 hsome
 rw [hts,Option.getD_some]
 refine ⟨rfl,by simp [aO,V.bP],a4z _,?_⟩
 refine Eq.mpr (aEi (bL _) _ (.str w)) ?_
 rw [c0,b94 hts hw,aA,x0,aA,x1,aA,x2,aA]
end Go.Fbs
