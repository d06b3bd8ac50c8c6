import Derived.Test.YtngdbicnabbplaaPP
import Derived.Test.YtngdbicnabbplaaPN
set_option linter.unusedSimpArgs false
set_option linter.unusedVariables false
set_option maxRecDepth 100000
namespace Go.Fbs
open Go.Proofs
attribute [local irreducible] bD bV opt a7d
theorem bJ8 (a:List UInt8):aD [.str a,.sl .ro [],.sl .ro []]=some (jE (a,[],[])):=nr rfl
theorem bMr (s:fH):aD [aA (vR s) 0,vI ((s.i+1:Nat):Int),aA (vR s) 2,aA (vR s) 3,aA (vR s) 4,aA (vR s) 5,.sl .ro [],aA (vR s) 7]=some (vR { cJ s with o:=[] }):=nr rfl
theorem bJ9 (a:List UInt8) (r:fH):aD [aA (jE (a,[],[])) 0,.sl .ro [],aA (vR r) 6]=some (jE (a,[],r.o)):=nr rfl
theorem bKa (a:List UInt8) (l:List Sub):aD [aA (jE (a,[],[])) 0,lV l,.sl .ro []]=some (jE (a,l,[])):=nr rfl
theorem bKb (a:List UInt8):aD [.str a,.str [],.str []]=some (kW (a,[],[])):=nr rfl
theorem bKc (a b:List UInt8):aD [aA (kW (a,[],[])) 0,aA (kW (a,[],[])) 1,.str b]=some (kW (a,[],b)):=nr rfl
noncomputable def aV2:Spec:=fG (fun s:fH=>[vR s]) (fun s=>kK s∧s.d≤20∧(a7t s).isSome=true) (fun s=>.aH [jE ((a7t s).getD (s,[],[],[])).2,vR ((a7t s).getD (s,[],[],[])).1])
theorem bOb {s:fH} {q:fH×Rel} (h:a7t s=some q) (hs:kK s) (hd:s.d≤20):aV2 [vR s]=some (.aH [jE q.2,vR q.1]):=by
 have:=cK (c:=fun q:fH=>[vR q]) (ok:=fun s=>kK s∧s.d≤20∧(a7t s).isSome=true) (r:=fun s=>.aH [jE ((a7t s).getD (s,[],[],[])).2,vR ((a7t s).getD (s,[],[],[])).1]) b6z (a:=s) ⟨hs,hd,by rw [h]; rfl⟩
 rw [h] at this
 exact this
noncomputable def bMs:Spec:=yI a7d
noncomputable abbrev TLR:List (FuncId×Spec):=[(cD,gT),(aT,cQ),(lB,bMs),(bG,gS)]
theorem bKd (s:fH) (q:fH×Rel) (hs:kK s) (hd:s.d≤20) (hq:a7t s=some q):bD aZ (aM TLR) 98 pP [.cell 2 32] eO (cB Try.f29) [vR s] (fun r=>r=V.aH [jE q.2,vR q.1]):=by
 have c1:∀ args,aM TLR cD args=gT args:=fun _=>rfl
 have c2:∀ args,aM TLR aT args=cQ args:=fun _=>rfl
 have c3:∀ args,aM TLR lB args=yI a7d args:=fun _=>rfl
 have c4:∀ args,aM TLR bG args=gS args:=fun _=>rfl
 refine Eq.mpr (a96 (aM _) _ (aP s.l) (vI s.i) (vI s.n) (.int .i64 0) (.int .i64 0) (vI s.d) (bT s.o) (.int .i64 0)) ?_
 obtain ⟨a,ha,h2⟩:=zwz.1 (show (uS s).bind _=some q from hq)
 have hlt:=uL ha
 have hw:=hs.2
 rw [agR,aB,c1,aFm ha (by omega),aB,x0,aB,x1,aB,pN,aB,aPo,aB,bJ8,aB,e0R,aB,wJ]
 rw [qP,aB,c2,a7b,aB,x0,aB,x1,aB,pN,aB,aQ]
 by_cases h61:pC [61] (cJ s)=true
 ·rw [if_pos h61] at h2
  rw [if_pos h61]
  have hl2:s.i+1 < s.l.length:=lQ h61
  obtain ⟨r,hr,h3⟩:=zwz.1 h2
  have g:=aUy.g _ r (show kK { cJ (cJ s) with o:=[] } from ⟨hl2,hs.2⟩) hr
  split at h3
  ·rename_i h59
   have hl3:=lQ h59
   simp only [zzz] at h3
   subst h3
   have g1:r.l.length≤500000:=g.1.2
   rw [aAm (s:=cJ s) (by show s.i+1 < 1000000; omega),aB,bMr,aB,c3,Fro hr ⟨hl2,hs.2⟩ hd,aB,a1y,aB,x0,aB,pN,aB,qP,aB,c4,aL5 h59 (by omega),aB,a1y,aB,x0,aB,pN,aB,bJ9,aB,qP,aB]
  ·simp at h3
 ·rw [if_neg h61] at h2
  rw [if_neg h61]
  split at h2
  ·rename_i h58
   have hl2:s.i+1 < s.l.length:=lQ h58
   obtain ⟨q0,hr,h3⟩:=zwz.1 h2
   simp only [zzz] at h3
   subst h3
   rw [qP,aB,c4,aL5 h58 (by show s.i+1 < 1000000; omega),aB,a1y,aB,x0,aB,pN,aB]
   generalize hs2:cJ (cJ s)=s2 at hr ⊢
   have hw2:kK s2:=by rw [← hs2]; exact ⟨hl2,hs.2⟩
   have hd2:s2.d≤20:=by rw [← hs2]; exact hd
   rw [(jO s2).1,(jO s2).2.1,(jO s2).2.2.1,(jO s2).2.2.2.1,(jO s2).2.2.2.2.1,(jO s2).2.2.2.2.2.1,(jO s2).2.2.2.2.2.2.1,(jO s2).2.2.2.2.2.2.2]
   have h61':pC [61] (cJ s)=false:=by simpa using h61
   rw [h61']
   refine fX (fun vs=>∃ (t:fH) (l:List Sub) (k:Nat),vs=[bT t.o,.bool false,aP t.l,vI t.i,vI t.n,.int .i64 0,.int .i64 0,vI t.d,.int .i64 0,lV l]∧kK t∧t.d≤20∧l.length≤50∧a8t k t l=some q0) (fun vs=>1000000 - iG (gv vs 3)) ⟨s2,[],_,rfl,hw2,hd2,by simp,hr⟩ ?_
   rintro rr _ ⟨t,l,k,rfl,hwt,hdt,h50,ht⟩ hk
   refine ⟨rfl,?_⟩
   simp only [jM,jW]
   cases k with
   | zero=>simp [a8t] at ht
   | succ k =>
   unfold a8t at ht
   split at ht
   ·simp at ht
   rename_i hne
   obtain ⟨⟨u,sb⟩,hsub,h4⟩:=zwz.1 ht
   have gs:=aRz hwt hsub
   obtain ⟨b,hb,h5⟩:=zwz.1 (show (uS t).bind _=some (u,sb) from hsub)
   have hlt2:=uL hb
   have hw3:=hwt.2
   rw [uV,aB,aQ,if_pos (by simp),aYi,aB,uV,aB,decide_eq_false (by omega)]
   refine jn (X:=[bT t.o,lV l,aP t.l,vI t.i,vI t.n,.int .i64 0,.int .i64 0,vI t.d,.int .i64 0]) (fun r1 h1=>by rw [z8]; exact h1) ?_
   refine ⟨rfl,?_⟩
   simp only [jM,jW]
   rw [aTf,aB,c1,aFm hb (by omega),aB,x0,aB,x1,aB,pN,aB,aPo,aB,bKb,aB,e0R,aB,wJ]
   rw [qP,aB,c2,a7b,aB,x0,aB,x1,aB,pN,aB]
   have hsb:sb=(b,[],sb.2.2):=by
    split at h5
    ·obtain ⟨d,_,h6⟩:=zwz.1 h5
     simp only [zzz,zvy] at h6
     rw [← h6.2]
    ·simp only [zzz,zvy] at h5
     rw [← h5.2]
   refine jn (X:=[bT u.o,lV l,aP u.l,vI u.i,vI u.n,.int .i64 0,.int .i64 0,vI u.d,.int .i64 0,.str sb.2.2]) ?_ ?_
   ·intro r1 h1
    rw [aQ]
    by_cases h35:pC [35] (cJ t)=true
    ·rw [if_pos h35] at h5
     rw [if_pos h35]
     have hl3:t.i+1 < t.l.length:=lQ h35
     obtain ⟨d,hd',h6⟩:=zwz.1 h5
     simp only [zzz,zvy] at h6
     obtain ⟨rfl,rfl⟩:=h6
     have hl4:t.i+1+1 < t.l.length:=uL hd'
     rw [aAm (s:=cJ t) (by show t.i+1 < 1000000; omega),aB,aAw (cJ t),aB,c1,aFm hd' (by show t.i+1+1 < 1000000; omega),aB,x0,aB,x1,aB,pN,aB,aPo,aB]
     exact h1
    ·rw [if_neg h35] at h5
     rw [if_neg h35]
     simp only [zzz,zvy] at h5
     obtain ⟨rfl,rfl⟩:=h5
     exact h1
   ·refine ⟨rfl,?_⟩
    simp only [jM,jW]
    rw [bKc,aB,← hsb,aYl,aB,aYj (by omega),aB,uV,aB,aQ,if_pos (by simp)]
    rw [aTf,aB,c2,a7b,aB,x0,aB,x1,aB,pN,aB,aQ]
    have gi:t.i < u.i:=gs.2.2.2.1
    have gw:u.i≤u.l.length:=gs.1.1
    have gw2:u.l.length≤500000:=gs.1.2
    have gd:u.d=t.d:=gs.2.1
    simp only at h4
    by_cases h124:pC [124] u=true
    ·rw [if_pos h124] at h4
     rw [if_pos h124]
     have hl5:=lQ h124
     rw [aAm (by omega),aB]
     refine hk _ ⟨cJ u,l++[sb],k,rfl,⟨hl5,gw2⟩,by show u.d≤20; omega,by simp; omega,h4⟩ ?_
     show 1000000 - (u.i+1) < 1000000 - t.i
     omega
    ·rw [if_neg h124] at h4
     rw [if_neg h124]
     split at h4
     ·rename_i h59
      have hl5:=lQ h59
      simp only [zzz] at h4
      subst h4
      rw [qP,aB,c4,aL5 h59 (by omega),aB,a1y,aB,x0,aB,pN,aB,bKa,aB,qP,aB]
     ·simp at h4
  ·simp at h2
theorem bKe:bX Try.prog a2n eO aV2:=by
 refine a83 (T:=TLR) (aE.cC sX (aE.cC lI (aE.cC b61 (aE.cC sW aE.nil)))) fun words v hv=>?_
 obtain ⟨s,rfl,⟨hs,hd,hsome⟩,rfl⟩:=bO hv
 obtain ⟨q,hq⟩:=Option.isSome_iff_exists.1 hsome
 rw [hq,Option.getD_some]
 exact ⟨_,rfl,rfl,by simp [aG,oT],by simp [aG,oT,a8j,V.aN],rfl,rfl,bKd s q hs hd hq⟩
end Go.Fbs
namespace Go.Fbs
open Go.Proofs
def a58 (l:List UInt8) (c:Int) (k:Nat):Int :=
 match (l.drop k).findIdx? (fun b=>decide ((b.toNat : Int) = c)) with
 | some j=>k+j
 | none=>-1
theorem bAx {l:List UInt8} {c:Int} {k:Nat} (h:l.length≤k):a58 l c k = -1:=by
 unfold a58; rw [List.drop_eq_nil_of_le h]; rfl
theorem bDx {l : List UInt8} {c : Int} {k : Nat} {b : UInt8} (h : l[k]? = some b) : a58 l c k = if (b.toNat : Int) = c then (k : Int) else a58 l c (k + 1):=by
 have hk:k < l.length:=(zzy.1 h).1
 have hb:l[k]=b:=(zzy.1 h).2
 unfold a58
 rw [List.drop_eq_getElem_cons hk,hb,List.findIdx?_cons]
 by_cases hc:(b.toNat:Int)=c
 ·simp [hc]
 ·simp only [hc,decide_false,zuy,if_false]
  cases (l.drop (k + 1)).findIdx? (fun b=>decide ((b.toNat : Int) = c)) with
  | none=>rfl
  | some j=>simp; omega
def mH:Spec
 | [.str l,.int .u8 c,.int .i64 k]=>if l.length≤kT∧0≤k∧k≤kT then some (vI (a58 l c k.toNat)) else none
 | _=>none
theorem aL9:cU Try.prog nW mH:=by
 refine aKt (T:=[]) (aE.nil) fun args v hv=>?_
 unfold mH at hv
 split at hv <;> (try simp only [Option.ite_none_right_eq_some,zzz,reduceCtorEq] at hv)
 rename_i l c k
 obtain ⟨⟨hl,hk,hk'⟩,rfl⟩:=hv
 unfold kT at hl hk'
 obtain ⟨k,rfl⟩:∃ n:Nat,k=n:=⟨k.toNat,by omega⟩
 simp only [Int.toNat_natCast]
 refine ⟨rfl,rfl,rfl,?_⟩
 rw [aM8]
 simp only [sS,if_true,if_false,reduceCtorEq]
 refine fX (fun vs=>∃ j:Nat,vs=[vI j]∧a58 l c j=a58 l c k∧j≤4611686018427387904) (fun vs=>l.length - iG (gv vs 0)) ⟨k,rfl,rfl,by omega⟩ ?_
 rintro r _ ⟨j,rfl,hj,hjb⟩ hr
 refine ⟨rfl,?_⟩
 simp only [sS,if_true,if_false,reduceCtorEq]
 by_cases hlt:j < l.length
 ·obtain ⟨b,hb⟩ : ∃ b,l[j]? = some b:=⟨l[j],zyz hlt⟩
  have hlt':(j:Int) < (l.length:Int):=by omega
  rw [bDx hb] at hj
  simp only [hlt',decide_true,sS,if_true,if_false,reduceCtorEq,vP hb]
  by_cases hc:(b.toNat:Int)=c
  ·rw [if_pos hc] at hj
   simp [hc,hj]
  ·rw [if_neg hc] at hj
   simp only [hc,decide_false,sS,if_true,if_false,reduceCtorEq]
   rw [jC (by omega) (by omega)]
   exact hr _ ⟨j+1,by simp,hj,by omega⟩ (by simp [gv,iG]; omega)
 ·have hlt':¬ (j:Int) < (l.length:Int):=by omega
  rw [bAx (by omega)] at hj
  simp [sS,if_true,if_false,reduceCtorEq,hlt',hj]
def pA (l:List UInt8) (i:Nat):List gZ×Option Nat:=kG (l.length - i) (i+cV false (l.drop i)) (l.drop (i+cV false (l.drop i)))
theorem aH1 (l:List UInt8) (i f:Nat) (h:l.length - i≤f):kG f (i+cV false (l.drop i)) (l.drop (i+cV false (l.drop i)))=pA l i:=by
 unfold pA
 rw [a4w f _ _ (by simp only [List.length_drop]; omega),a4w (l.length - i) _ _ (by simp only [List.length_drop]; omega)]
theorem bAy (l:List UInt8):kG l.length (cV false l) (l.drop (cV false l))=pA l 0:=by
 have:=aH1 l 0 l.length (by omega)
 simpa using this
theorem aH2 {l:List UInt8} {i k:Nat} (hi:i≤k) (h:cV false (l.drop i)=(k - i)+cV false (l.drop k)):pA l i=pA l k:=by
 have e:i+cV false (l.drop i)=k+cV false (l.drop k):=by omega
 have:=aH1 l k (l.length - i) (by omega)
 rw [← this]
 unfold pA
 rw [e]
theorem bAz {l:List UInt8} {i:Nat} {c:UInt8} {t:List UInt8} (hd:l.drop i=c::t) (h0:cV false (c::t)=0) :
  pA l i=if (cZ (c::t)).2.2=false then ([],some i) else (((cZ (c::t)).1,i,(cZ (c::t)).2.1)::(pA l (i+(cZ (c::t)).2.1.length)).1,(pA l (i+(cZ (c::t)).2.1.length)).2):=by
 have hl:i < l.length:=by
  have:=congrArg List.length hd; simp only [List.length_drop,zwx] at this; omega
 have e1:pA l i=kG (l.length - i) i (c::t):=by
  unfold pA; rw [hd,h0,Nat.add_zero,hd]
 rw [e1]
 obtain ⟨g,hg⟩:∃ g,l.length - i=g+1:=⟨l.length - i - 1,by omega⟩
 rw [hg]
 simp only [kG]
 split
 ·rfl
 ·have hn:=(a1o (l:=c::t) (by simp)).1
  generalize hnn:(cZ (c::t)).2.1.length=n at *
  have e2:∀ j,(c::t).drop j=l.drop (i+j):=fun j=>by rw [← hd,List.drop_drop]
  rw [e2 n,List.drop_drop]
  rw [aH1 l (i+n) g (by omega)]
theorem bA0 {l:List UInt8} {i:Nat} (h:l.length≤i):pA l i=([],none):=by
 unfold pA
 rw [show l.drop (i+cV false (l.drop i))=[] from List.drop_eq_nil_of_le (by omega)]
 cases l.length - i <;> rfl
theorem b0a {l:List UInt8} (h:¬ 100000 < l.length):dN l=match (pA l 0).2 with | some k=>([],k,7) | none=>((pA l 0).1,0,0):=by
 unfold dN
 rw [if_neg h,bAy]
 rfl
theorem aUz:∀ (f k:Nat) (l:List UInt8),(kG f k l).1.length≤f
 | 0,k,l=>by simp [kG]
 | f+1,k,[]=>by simp [kG]
 | f+1,k,c::l=>by
  simp only [kG]
  split
  ·simp
  ·have:=aUz f (k+(cZ (c::l)).2.1.length+cV false ((c::l).drop (cZ (c::l)).2.1.length)) (((c::l).drop (cZ (c::l)).2.1.length).drop (cV false ((c::l).drop (cZ (c::l)).2.1.length)))
   simp only [zwx]; omega
theorem b1r (l:List UInt8):(dN l).1.length≤l.length:=by
 unfold dN
 split
 ·simp
 ·have:=aUz l.length (cV false l) (l.drop (cV false l))
  simp only
  split
  ·simp
  ·exact this
theorem b62 {c:UInt8} {t:List UInt8} (h:kB c.toNat=true):mS (c::t)=1+mS t:=by
 simp [mS,List.takeWhile_cons,h]; omega
theorem aN7 {c:UInt8} {t:List UInt8} (h:kB c.toNat=false):mS (c::t)=0:=by
 simp [mS,List.takeWhile_cons,h]
theorem b3l {l : List UInt8} {k : Nat} {c : UInt8} (h : l[k]? = some c) : mS (l.drop k) = if kB c.toNat then 1 + mS (l.drop (k + 1)) else 0:=by
 have hk:k < l.length:=(zzy.1 h).1
 rw [List.drop_eq_getElem_cons hk,(zzy.1 h).2]
 split
 ·rename_i hc; exact b62 hc
 ·rename_i hc; exact aN7 (by simpa using hc)
theorem bA1 {l:List UInt8} {c:UInt8} : decide (a58 l c.toNat 0 < 0)=decide (c ∉ l):=by
 unfold a58
 simp only [List.drop_zero]
 cases h : l.findIdx? (fun b=>decide ((b.toNat : Int) = c.toNat)) with
 | none =>
  rw [List.findIdx?_eq_none_iff] at h
  have:c ∉ l:=fun hc=>by have:=h c hc; simp at this
  simp [this]
 | some j =>
  have:c ∈ l:=by
   obtain ⟨hj,h1,_⟩:=List.findIdx?_eq_some_iff_getElem.1 h
   simp only [decide_eq_true_eq] at h1
   have:l[j]=c:=UInt8.toNat_inj.1 (by omega)
   rw [← this]; exact List.getElem_mem hj
  simp [this]
def qZ:Spec
 | [.str l]=>if l.length≤kT then some (.aH [aP (dN l).1,vI (dN l).2.1,vI (dN l).2.2]) else none
 | _=>none
theorem aH3:cU Try.prog qU qZ:=by
 refine aGm (T:=[(iE,iF),(nW,mH)]) (aE.cons a8s (aE.cons aL9 aE.nil)) fun args v hv=>?_
 have c_entailref6_part:∀ args,aM [(iE,iF),(nW,mH)] iE args=iF args:=fun _=>rfl
 have c_entailref1_Find:∀ args,aM [(iE,iF),(nW,mH)] nW args=mH args:=fun _=>rfl
 unfold qZ at hv
 split at hv <;> (try simp only [Option.ite_none_right_eq_some,zzz,reduceCtorEq] at hv)
 rename_i l
 obtain ⟨hl,rfl⟩:=hv
 have hl0:=hl
 unfold kT at hl
 refine ⟨rfl,rfl,by simp [V.aN,aG,aD9],?_⟩
 rw [aI3]
 simp only [sS,if_true,if_false,reduceCtorEq]
 by_cases hbig:100000 < l.length
 ·have hb':(100000:Int) < (l.length:Int):=by omega
  simp [hb',dN,hbig,aP]
 ·have hb':¬ (100000:Int) < (l.length:Int):=by omega
  have hT:=b0a hbig
  simp only [hb',decide_false,sS,if_true,if_false,reduceCtorEq]
  refine fX (fun vs=>∃ (k:Nat) (dn:List gZ),vs=[.sl .ro (dn.map nG),vI k]∧k≤l.length∧dn.length≤k ∧
   pA l 0=(dn++(pA l k).1,(pA l k).2)) (fun vs=>l.length - iG (gv vs 1)) ⟨0,[],rfl,Nat.zero_le _,zxy _,by simp⟩ ?_
  rintro r _ ⟨k,dn,rfl,hk,hdn,hr0⟩ hr
  refine ⟨rfl,?_⟩
  simp only [sS,if_true,if_false,reduceCtorEq]
  by_cases hlt:k < l.length
  ·have hlt':(k:Int) < (l.length:Int):=by omega
   obtain ⟨c,hc⟩ : ∃ c,l[k]? = some c:=⟨l[k],zyz hlt⟩
   obtain ⟨t,hd⟩:∃ t,l.drop k=c::t:=⟨l.drop (k+1),by rw [List.drop_eq_getElem_cons hlt,(zzy.1 hc).2]⟩
   have htd:l.drop (k+1)=t:=by rw [← List.drop_drop,hd]; rfl
   have hk1:IntKind.i64.wrap ((k:Int)+1)=((k+1:Nat):Int):=by rw [jC (by omega) (by omega)]; omega
   simp only [hlt',decide_true,sS,if_true,if_false,reduceCtorEq,vP hc,hk1]
   refine b8m (fun w=>∃ (kind:Int) (j:Nat),w=[vI kind,vI j,.sl .ro (dn.map nG)]∧k < j∧j≤l.length∧(0 < kind→pA l 0=(dn++(kind,k,(l.take j).drop k)::(pA l j).1,(pA l j).2))∧(¬ 0 < kind→pA l k=pA l j)) ?_ ?_
   ·rintro _ ⟨kind,j,rfl,hkj,hj,h1,h2⟩
    refine ⟨rfl,?_⟩
    simp only [sS,if_true,if_false,reduceCtorEq]
    by_cases hpos:0 < kind
    ·simp only [hpos,decide_true,b0r hj (Nat.le_of_lt hkj),sS,if_true,if_false,reduceCtorEq]
     rw [xS (by simp [sc])]
     simp only [sS,if_true,if_false,reduceCtorEq]
     rw [bEl (by simp) (by simp [V.cells,V.nS])]
     simp only [sS,if_true,if_false,reduceCtorEq]
     rw [aGh (n:=3) (b:=32) (by simp; omega) (aNw (f:=nG) fun a=>rfl) (by simp [V.cells])]
     simp only [sS,if_true,if_false,reduceCtorEq]
     exact hr _ ⟨j,dn++[(kind,k,(l.take j).drop k)],by simp [nG,aD8],hj,by simp; omega,by rw [h1 hpos]; simp⟩ (by simp [gv,iG]; omega)
    ·simp only [hpos,decide_false,sS,if_true,if_false,reduceCtorEq]
     exact hr _ ⟨j,dn,rfl,hj,by omega,by rw [hr0,h2 hpos]⟩ (by simp [gv,iG]; omega)
   ·intro r1 hr1
    have none_:∀ j:Nat,k < j→j≤l.length→pA l k=pA l j→r1 [vI 0,vI j,.sl .ro (dn.map nG)]:=fun j h1 h2 h3=>hr1 _ ⟨0,j,rfl,h1,h2,fun h=>absurd h (by omega),fun _=>h3⟩
    have blank:wQ c=true→r1 [vI 0,vI (k+1:Nat),.sl .ro (dn.map nG)]:=fun hb=>none_ (k+1) (by omega) (by omega) (aH2 (by omega) (by rw [hd,htd,aN3 hb]; omega))
    by_cases b1:c=32
    ·subst b1; simp [sS,if_true,if_false,reduceCtorEq]; exact blank rfl
    by_cases b2:c=9
    ·subst b2; simp [sS,if_true,if_false,reduceCtorEq]; exact blank rfl
    by_cases b3:c=10
    ·subst b3; simp [sS,if_true,if_false,reduceCtorEq]; exact blank rfl
    by_cases b4:c=13
    ·subst b4; simp [sS,if_true,if_false,reduceCtorEq]; exact blank rfl
    have ne:∀ n:UInt8,c≠n→¬ ((c.toNat:Int)=(n.toNat:Int)):=fun n hn h=>hn (UInt8.toNat_inj.1 (by omega))
    have e1:¬ ((c.toNat:Int)=32):=ne 32 b1
    have e2:¬ ((c.toNat:Int)=9):=ne 9 b2
    have e3:¬ ((c.toNat:Int)=10):=ne 10 b3
    have e4:¬ ((c.toNat:Int)=13):=ne 13 b4
    have hnb:wQ c=false:=by simp [wQ,b1,b2,b3,b4]
    simp only [e1,e2,e3,e4,decide_false,sS,if_true,if_false,reduceCtorEq]
    have hnx : l[k + 1]? = t.head?:=by rw [← htd,List.head?_drop]
    have two:∀ (n m:UInt8) (X Y:Prop),(opt (aU (V.bool (decide ((c.toNat:Int)=(n.toNat:Int)) && decide (((k+1:Nat):Int) < (l.length:Int)))) true (l7 (V.str l) (V.int .i64 ((k+1:Nat):Int)))) fun y20 =>
      opt (aU (V.bool (decide ((c.toNat : Int) = (n.toNat : Int)) && decide (((k + 1 : Nat) : Int) < (l.length : Int)))) true (aF .eql y20 (V.int .u8 (m.toNat : Int)))) fun y21=>aV (if (decide ((c.toNat : Int) = (n.toNat : Int)) && decide (((k + 1 : Nat) : Int) < (l.length : Int))) = true then y21 else V.bool false) X Y) = aV (.bool (decide (c = n ∧ t.head? = some m))) X Y:=by
     intro n m X Y
     by_cases h1:c=n
     ·subst h1
      by_cases h2:k+1 < l.length
      ·obtain ⟨d,hdd⟩ : ∃ d,l[k + 1]? = some d:=⟨l[k + 1],zyz h2⟩
       have h2':((k+1:Nat):Int) < (l.length:Int):=by omega
       rw [hdd] at hnx
       simp only [h2',decide_true,sS,if_true,if_false,reduceCtorEq,vP hdd,← hnx,zzz,true_and]
       congr 2
       simp only [decide_eq_decide]
       exact ⟨fun h=>UInt8.toNat_inj.1 (by omega),fun h=>by rw [h]⟩
      ·have h2':¬ ((k+1:Nat):Int) < (l.length:Int):=by omega
       rw [List.getElem?_eq_none (by omega)] at hnx
       simp only [h2',decide_false,decide_true,sS,if_true,if_false,reduceCtorEq,← hnx,and_false,reduceCtorEq]
     ·simp only [ne n h1,decide_false,sS,if_true,if_false,reduceCtorEq,h1,false_and]
    have t1:=two 47 47
    have t2:=two 45 62
    simp only [UInt8.reduceToNat,Int.ofNat_eq_natCast,Int.cast_ofNat_Int] at t1 t2
    rw [t1]
    by_cases hcm : c = 47 ∧ t.head? = some 47
    ·simp only [hcm,and_self,decide_true,sS,if_true,if_false,reduceCtorEq]
     obtain ⟨rfl,hh⟩:=hcm
     obtain ⟨u,rfl⟩:∃ u,t=47::u:=by
      cases t with
      | nil=>simp at hh
      | cons d u=>simp at hh; subst hh; exact ⟨u,rfl⟩
     refine fX (fun vs=>∃ j:Nat,vs=[vI j,.sl .ro (dn.map nG)]∧k+1≤j∧j≤l.length∧(10:UInt8) ∉ (l.drop k).take (j - k)) (fun vs=>l.length - iG (gv vs 0)) ⟨k+1,rfl,zxy _,by omega,by rw [hd,show k+1 - k=1 by omega]; simp⟩ ?_
     rintro r2 _ ⟨j,rfl,hj1,hj2,hj3⟩ hr2
     refine ⟨rfl,?_⟩
     simp only [sS,if_true,if_false,reduceCtorEq]
     by_cases hjl:j < l.length
     ·have hjl':(j:Int) < (l.length:Int):=by omega
      obtain ⟨d,hdd⟩ : ∃ d,l[j]? = some d:=⟨l[j],zyz hjl⟩
      simp only [hjl',decide_true,sS,if_true,if_false,reduceCtorEq,vP hdd]
      by_cases hd10:d=10
      ·subst hd10
       simp only [UInt8.reduceToNat,Int.ofNat_eq_natCast,Int.cast_ofNat_Int,decide_true,sS,if_true,if_false,reduceCtorEq]
       refine none_ j (by omega) hj2 (aH2 (by omega) ?_)
       have hx : (l.drop k)[j - k]? = some 10:=by rw [List.getElem?_drop,show k + (j - k) = j by omega]; exact hdd
       have:=a9c (l.drop k) (j - k) hx hj3
       rw [List.drop_drop,show k+(j - k)=j by omega] at this
       rw [hd,aKx,← hd]; exact this
      ·have:¬ ((d.toNat:Int)=10):=fun h=>hd10 (UInt8.toNat_inj.1 (by simpa using (by omega:d.toNat=10)))
       simp only [this,decide_false,sS,if_true,if_false,reduceCtorEq]
       rw [jC (by omega) (by omega)]
       refine hr2 _ ⟨j+1,by simp,by omega,hjl,?_⟩ (by simp [gv,iG]; omega)
       have hx : (l.drop k)[j - k]? = some d:=by rw [List.getElem?_drop,show k + (j - k) = j by omega]; exact hdd
       rw [show j+1 - k=j - k+1 by omega,List.take_add_one,hx]
       simp [hj3,Ne.symm hd10]
     ·have hjl':¬ (j:Int) < (l.length:Int):=by omega
      simp only [hjl',decide_false,sS,if_true,if_false,reduceCtorEq]
      refine none_ j (by omega) hj2 (aH2 (by omega) ?_)
      have h10:(10:UInt8) ∉ l.drop k:=by rw [List.take_of_length_le (by simp; omega)] at hj3; exact hj3
      have:=a6y (l.drop k) h10
      rw [hd,aKx,← hd,this,List.drop_eq_nil_of_le (show l.length≤j by omega)]
      simp [cV]; omega
    ·have hcm' : decide (c = 47 ∧ t.head? = some 47) = false:=by simpa using hcm
     simp only [hcm',sS,if_true,if_false,reduceCtorEq,c_entailref6_part,iF]
     have htok:=bAz hd (aUm hcm hnb)
     have some_:∀ (kind:Int) (x:List UInt8),0 < kind→cZ (c::t)=(kind,x,true)→x.length≤(c::t).length→x=(c::t).take x.length→r1 [vI kind,vI (k+x.length:Nat),.sl .ro (dn.map nG)]:=by
      intro kind x hk0 hn hxl hx
      rw [hn] at htok
      have h1:=(a1o (l:=c::t) (by simp)).1
      rw [hn] at h1
      have hxl':x.length≤(l.drop k).length:=by rw [hd]; exact hxl
      rw [List.length_drop] at hxl'
      refine hr1 _ ⟨kind,k+x.length,rfl,by simp only at h1; omega,by omega,fun _=>?_,fun h=>absurd hk0 h⟩
      rw [hr0,htok]
      simp only [Bool.true_eq_false,if_false]
      rw [List.drop_take,show k+x.length - k=x.length by omega,hd,← hx]
     cases hlet:kB c.toNat
     ·have hrow:=aN7 (t:=t) hlet
      simp only [sS,if_true,if_false,reduceCtorEq,t2]
      by_cases har : c = 45 ∧ t.head? = some 62
      ·simp only [har,and_self,decide_true,sS,if_true,if_false,reduceCtorEq]
       obtain ⟨rfl,hh⟩:=har
       obtain ⟨u,rfl⟩:∃ u,t=62::u:=by
        cases t with
        | nil=>simp at hh
        | cons d u=>simp at hh; subst hh; exact ⟨u,rfl⟩
       have hlen:=congrArg List.length hd
       simp only [List.length_drop,zwx] at hlen
       rw [jC (by omega) (by omega)]
       have:=some_ 2 [45,62] (by omega) (by simp [cZ,hrow]) (by simp) (by simp)
       rw [show ((k+1:Nat):Int)+1=((k+2:Nat):Int) by omega]
       exact this
      ·have har' : decide (c = 45 ∧ t.head? = some 62) = false:=by simpa using har
       have hpre:List.isPrefixOf [45,62] (c::t)=false:=by
        cases t with
        | nil=>simp [List.isPrefixOf]
        | cons d u=>simp at har; simp [List.isPrefixOf]; intro h1 h2; exact har h1.symm h2.symm
       have hfind:mH [.str [123,125,58,59,124,35,61,43,45,38,40,41],.int .u8 c.toNat,.int .i64 0]=some (vI (a58 aQw c.toNat 0)):=by
        simp only [mH]
        rw [if_pos ⟨by simp [kT],by omega,by simp [kT]⟩]; rfl
       simp only [har',sS,if_true,if_false,reduceCtorEq,c_entailref1_Find,hfind,bA1]
       by_cases hsg:c ∈ aQw
       ·have:=some_ 2 [c] (by omega) (by simp [cZ,hrow,hpre,hsg]) (by simp) (by simp)
        simpa [hsg] using this
       ·have hn:cZ (c::t)=(2,[c],false):=by simp [cZ,hrow,hpre,hsg]
        rw [hn] at htok
        simp only [if_true] at htok
        rw [hr0,htok] at hT
        simp only at hT
        simp [hsg,hT,aP]
     ·simp only [sS,if_true,if_false,reduceCtorEq]
      have hrow0:mS (l.drop k)=1+mS (l.drop (k+1)):=by rw [b3l hc,if_pos hlet]
      refine fX (fun vs=>∃ j:Nat,vs=[vI j,.sl .ro (dn.map nG)]∧k+1≤j∧j≤l.length∧mS (l.drop k)=(j - k)+mS (l.drop j)) (fun vs=>l.length - iG (gv vs 0)) ⟨k+1,rfl,zxy _,by omega,by rw [hrow0]; omega⟩ ?_
      rintro r2 _ ⟨j,rfl,hj1,hj2,hj3⟩ hr2
      refine ⟨rfl,?_⟩
      simp only [sS,if_true,if_false,reduceCtorEq]
      have done:mS (l.drop j)=0→r1 [vI 1,vI j,.sl .ro (dn.map nG)]:=fun h0=>by
       have hn:mS (c::t)=j - k:=by rw [← hd]; omega
       have hl2:(c::t).length=l.length - k:=by rw [← hd,List.length_drop]
       have hx:((c::t).take (j - k)).length=j - k:=by rw [List.length_take,hl2]; omega
       have:=some_ 1 ((c::t).take (j - k)) (by omega) (by unfold cZ; rw [if_pos (by omega),hn]) (by omega) (by rw [hx])
       rw [hx,show k+(j - k)=j by omega] at this
       exact this
      by_cases hjl:j < l.length
      ·have hjl':(j:Int) < (l.length:Int):=by omega
       obtain ⟨d,hdd⟩ : ∃ d,l[j]? = some d:=⟨l[j],zyz hjl⟩
       simp only [hjl',decide_true,sS,if_true,if_false,reduceCtorEq,vP hdd,c_entailref6_part,iF]
       have hra:=b3l hdd
       cases hld:kB d.toNat
       ·rw [hld] at hra
        simp only [sS,if_true,if_false,reduceCtorEq]
        exact done (by simpa using hra)
       ·rw [hld] at hra
        simp only [sS,if_true,if_false,reduceCtorEq]
        rw [jC (by omega) (by omega)]
        refine hr2 _ ⟨j+1,by simp,by omega,hjl,?_⟩ (by simp [gv,iG]; omega)
        simp only [if_true] at hra
        omega
      ·have hjl':¬ (j:Int) < (l.length:Int):=by omega
       simp only [hjl',decide_false,sS,if_true,if_false,reduceCtorEq]
       exact done (by rw [List.drop_eq_nil_of_le (by omega)]; rfl)
  ·have hlt':¬ (k:Int) < (l.length:Int):=by omega
   rw [bA0 (l:=l) (i:=k) (by omega)] at hr0
   rw [hr0] at hT
   simp only [List.append_nil] at hT
   simp [hlt',hT,aP]
end Go.Fbs
namespace Go.Fbs
open Go.Proofs
attribute [local irreducible] bD bV opt a7d
def bE8 (s : fH) : Bool:=match s.l[s.i]? with | some t=>decide (t.1 = 1) && (t.2.2 == [116,121,112,101]) | none=>false
def a8u:Nat→fH→List Rel→Option (fH×List Rel)
 | 0,_,_=>none
 | k+1,s,l =>
  if pC [125] s then some (cJ s,l)
  else if l.length=200 then none
  else (a7t s).bind fun q=>a8u k q.1 (l++[q.2])
def bE9 (s:fH):Option (fH×gI) :=
 if bE8 s then (uS (cJ s)).bind fun a =>
  if pC [123] (cJ (cJ s)) then (a8u (s.l.length+1) (cJ (cJ (cJ s))) []).bind fun q=>some (q.1,(a,q.2))
  else some (cJ (cJ s),(a,[]))
 else none
def aFo:Nat→fH→List gI→Option (List gI)
 | 0,_,_=>none
 | k+1,s,ts =>
  if s.i < s.l.length then
   if ts.length=200 then none
   else (bE9 s).bind fun q=>aFo k q.1 (ts++[q.2])
  else some ts
def qJ (w:List UInt8):Option (List gI) :=
 if (dN w).2.2=0 then aFo ((dN w).1.length+1) ⟨(dN w).1,0,w.length,0,[]⟩ [] else none
theorem aU0:∀ (k:Nat) (s:fH) (l:List Sub) (q:fH×List Sub),kK s→a8t k s l=some q→kK q.1∧q.1.d=s.d∧q.1.l=s.l∧s.i < q.1.i
 | 0,s,l,q,_,h=>by simp [a8t] at h
 | k+1,s,l,q,hs,h=>by
  unfold a8t at h
  split at h
  ·simp at h
  obtain ⟨⟨u,sb⟩,hsub,h4⟩:=zwz.1 h
  have gs:=aRz hs hsub
  simp only at h4 gs
  split at h4
  ·rename_i h1
   have hl:=lQ h1
   have:=aU0 k (cJ u) _ q ⟨hl,gs.1.2⟩ h4
   have a1:q.1.d=u.d:=this.2.1
   have a2:q.1.l=u.l:=this.2.2.1
   have a3:u.i+1 < q.1.i:=this.2.2.2
   exact ⟨this.1,a1.trans gs.2.1,a2.trans gs.2.2.1,by have:=gs.2.2.2.1; omega⟩
  ·split at h4
   ·rename_i h1
    have hl:=lQ h1
    simp only [zzz] at h4
    subst h4
    exact ⟨⟨hl,gs.1.2⟩,gs.2.1,gs.2.2.1,by show s.i < u.i+1; have:=gs.2.2.2.1; omega⟩
   ·simp at h4
theorem b0b {s:fH} {q:fH×Rel} (hs:kK s) (h:a7t s=some q):kK q.1∧q.1.d=s.d∧q.1.l=s.l∧s.i < q.1.i:=by
 obtain ⟨a,ha,h2⟩:=zwz.1 (show (uS s).bind _=some q from h)
 have hlt:=uL ha
 split at h2
 ·rename_i h61
  have hl2:s.i+1 < s.l.length:=lQ h61
  obtain ⟨r,hr,h3⟩:=zwz.1 h2
  have g:=aUy.g _ r (show kK { cJ (cJ s) with o:=[] } from ⟨hl2,hs.2⟩) hr
  split at h3
  ·rename_i h59
   have hl3:=lQ h59
   simp only [zzz] at h3
   subst h3
   have g3:s.i+1+1 < r.i:=g.2.2.2
   exact ⟨⟨hl3,g.1.2⟩,g.2.1,g.2.2.1,by show s.i < r.i+1; omega⟩
  ·simp at h3
 ·split at h2
  ·rename_i h58
   have hl2:s.i+1 < s.l.length:=lQ h58
   obtain ⟨q0,hr,h3⟩:=zwz.1 h2
   simp only [zzz] at h3
   subst h3
   have g:=aU0 _ (cJ (cJ s)) [] q0 ⟨hl2,hs.2⟩ hr
   have g3:s.i+1+1 < q0.1.i:=g.2.2.2
   exact ⟨g.1,g.2.1,g.2.2.1,by show s.i < q0.1.i; omega⟩
  ·simp at h2
theorem aU1:∀ (k:Nat) (s:fH) (l:List Rel) (q:fH×List Rel),kK s→a8u k s l=some q→kK q.1∧q.1.d=s.d∧q.1.l=s.l∧s.i < q.1.i
 | 0,s,l,q,_,h=>by simp [a8u] at h
 | k+1,s,l,q,hs,h=>by
  unfold a8u at h
  split at h
  ·rename_i h1
   have hl:=lQ h1
   simp only [zzz] at h
   subst h
   exact ⟨⟨hl,hs.2⟩,rfl,rfl,Nat.lt_succ_self _⟩
  ·split at h
   ·simp at h
   obtain ⟨u,hu,h4⟩:=zwz.1 h
   have g:=b0b hs hu
   have:=aU1 k u.1 _ q g.1 h4
   exact ⟨this.1,this.2.1.trans g.2.1,this.2.2.1.trans g.2.2.1,Nat.lt_trans g.2.2.2 this.2.2.2⟩
theorem bKf (a:List UInt8) (l:List Rel):aD [aA (kJ (a,[])) 0,lW l]=some (kJ (a,l)):=nr rfl
theorem bKg (a:List UInt8):aD [.str a,.sl .ro []]=some (kJ (a,[])):=nr rfl
theorem bDy (l:List gZ) (n:Nat):aD [aP l,.int .i64 0,vI n,.int .i64 0,.int .i64 0,.int .i64 0,.sl .ro [],.int .i64 0]=some (vR ⟨l,0,n,0,[]⟩):=nr rfl
theorem nM (b:Bool) (o:Option V):aU (.bool b) b o=o:=by cases b <;> rfl
theorem a2m (x y:V):cE (.bool true) x y=some x:=nr rfl
theorem aR0 (x y:V):cE (.bool false) x y=some y:=nr rfl
theorem bHi {s:fH} : aD [aP s.l,vI ((s.i+1:Nat):Int),vI s.n,.int .i64 0,.int .i64 0,vI s.d,bT s.o,.int .i64 0]=some (vR (cJ s)):=nr rfl
noncomputable def rZ:Spec:=fG (fun w:List UInt8=>[.str w]) (fun w=>w.length≤100000∧(qJ w).isSome=true) (fun w=>.aH [gQ ((qJ w).getD []),.int .i64 0,.int .i64 0])
theorem bHj {w:List UInt8} {ts:List gI} (h:qJ w=some ts) (hw:w.length≤100000):rZ [.str w]=some (.aH [gQ ts,.int .i64 0,.int .i64 0]):=by
 have:=cK (c:=fun w:List UInt8=>[V.str w]) (ok:=fun w=>w.length≤100000∧(qJ w).isSome=true) (r:=fun w=>.aH [gQ ((qJ w).getD []),.int .i64 0,.int .i64 0]) (fun a b h=>by simpa using h) (a:=w) ⟨hw,by rw [h]; rfl⟩
 rw [h] at this
 exact this
noncomputable abbrev TLP:List (FuncId×Spec):=[(qU,qZ),(cD,gT),(aT,cQ),(uW,aV2),(bG,gS)]
theorem bA2 (w:List UInt8) (ts:List gI) (hw:w.length≤100000) (hts:qJ w=some ts):bV aZ (aM TLP) 148 wO [.tmp 2,.tmp 3,.tmp 4] (cB Try.f13) [.str w] (fun r=>r=V.aH [gQ ts,.int .i64 0,.int .i64 0]):=by
 have c0:∀ args,aM TLP qU args=qZ args:=fun _=>rfl
 have c1:∀ args,aM TLP cD args=gT args:=fun _=>rfl
 have c2:∀ args,aM TLP aT args=cQ args:=fun _=>rfl
 have c3:∀ args,aM TLP uW args=aV2 args:=fun _=>rfl
 have c4:∀ args,aM TLP bG args=gS args:=fun _=>rfl
 refine Eq.mpr (aKr (aM _) _ (.str w)) ?_
 unfold qJ at hts
 split at hts
 case isFalse=>simp at hts
 rename_i he
 have hlen:=b1r w
 rw [c0,show qZ [.str w]=some (.aH [aP (dN w).1,vI (dN w).2.1,vI (dN w).2.2]) from if_pos (by unfold kT; omega)]
 generalize (dN w).2.2=er at he ⊢
 subst he
 generalize (dN w).1=l at hts hlen ⊢
 rw [aB,x0,aB,x1,aB,x2,aB,aKi,aB,aQ,if_neg (by simp),aXx,aB,bJi,aB,bDy,aB]
 generalize hs0:(⟨l,0,w.length,0,[]⟩:fH)=s0 at hts ⊢
 have h0:kK s0∧s0.d=0∧s0.l=l∧s0.o=[]:=by rw [← hs0]; exact ⟨⟨Nat.zero_le _,by show l.length≤500000; omega⟩,rfl,rfl,rfl⟩
 rw [(jO s0).1,(jO s0).2.1,(jO s0).2.2.1,(jO s0).2.2.2.1,(jO s0).2.2.2.2.1,(jO s0).2.2.2.2.2.1,(jO s0).2.2.2.2.2.2.2]
 refine fX (fun vs=>∃ (t:fH) (tl:List gI) (k:Nat),vs=[gQ tl,aP t.l,vI t.i,vI t.n,.int .i64 0,.int .i64 0,vI t.d,bT t.o,.int .i64 0]∧kK t∧t.d≤20∧t.l=l∧tl.length≤200∧aFo k t tl=some ts) (fun vs=>1000000 - iG (gv vs 2))
  ⟨s0,[],_,by rw [h0.2.2.2]; rfl,h0.1,by omega,h0.2.2.1,by simp,hts⟩ ?_
 rintro r0 _ ⟨t,tl,k,rfl,hwt,hdt,htl,h200,ht⟩ hr0
 refine ⟨rfl,?_⟩
 simp only [jM,jW]
 cases k with
 | zero=>simp [aFo] at ht
 | succ k =>
 unfold aFo at ht
 rw [uV,aB,aV1,aB,aBd,aB,decide_eq_true (rfl:(0:Int)=0),a2m,aB,aQ]
 split at ht
 case isFalse =>
  rename_i hlt
  rw [htl] at hlt
  simp only [zzz] at ht
  subst ht
  rw [if_neg (by simp only [decide_eq_true_eq]; omega),aKi,aB,aQ,if_neg (by simp)]
 rename_i hlt
 rw [if_pos (by rw [← htl]; simp only [decide_eq_true_eq]; omega)]
 split at ht
 ·simp at ht
 rename_i hne
 obtain ⟨⟨u,ty⟩,hty,h4⟩:=zwz.1 ht
 simp only at h4
 unfold bE9 at hty
 split at hty
 case isFalse=>simp at hty
 rename_i hword
 obtain ⟨a,ha,h5⟩:=zwz.1 hty
 have hl1:t.i+1 < t.l.length:=uL ha
 have hwl:=hwt.2
 obtain ⟨tk,htk⟩ : ∃ tk,t.l[t.i]? = some tk:=⟨_,zyz hlt⟩
 have hk:tk.1=1∧tk.2.2=[116,121,112,101]:=by
  unfold bE8 at hword
  rw [htk] at hword
  simpa using hword
 rw [aK7,aB,uV,aB,decide_eq_false (by omega)]
 refine jn (X:=[gQ tl,bT t.o,aP t.l,vI t.i,vI t.n,.int .i64 0,.int .i64 0,vI t.d,.int .i64 0]) (fun r1 h1=>by rw [z8]; exact h1) ?_
 refine ⟨rfl,?_⟩
 simp only [jM,jW]
 rw [uV,aB,decide_eq_true (rfl:(0:Int)=0),nM,← htl,aRw htk,aB,nM,pT0,aB,nM,hk.1,aKi,aB,nM,aB]
 rw [show (!decide ((1:Int)=1))=false by decide,ckB,aB,nM,aB,nM,pT2,aB,nM,hk.2]
 rw [show aF .neq (.str [116,121,112,101]) (.str [116,121,112,101])=some (.bool false) by kernel_rfl,aB,nM,aR0,aB,a2m,aB]
 refine jn (X:=[gQ tl,bT t.o,aP t.l,vI t.i,vI t.n,.int .i64 0,.int .i64 0,vI t.d,.int .i64 0]) (fun r1 h1=>by rw [z8]; exact h1) ?_
 refine ⟨rfl,?_⟩
 simp only [jM,jW]
 rw [b6x (by omega),aB,bHi,aB,c1,aFm ha (by show t.i+1 < 1000000; omega),aB,x0,aB,x1,aB,pN,aB,aPo,aB,bKg,aB,e0R,aB,wJ]
 rw [qP,aB,c2,a7b,aB,x0,aB,x1,aB,pN,aB]
 have hu:kK u∧u.d=t.d∧u.l=t.l∧t.i < u.i∧ty.1=a:=by
  split at h5
  ·rename_i h123
   have hl2:t.i+1+1 < t.l.length:=lQ h123
   obtain ⟨q,hq,h6⟩:=zwz.1 h5
   simp only [zzz,zvy] at h6
   obtain ⟨rfl,rfl⟩:=h6
   have g:=aU1 _ (cJ (cJ (cJ t))) [] q ⟨hl2,hwt.2⟩ hq
   have g3:t.i+1+1+1 < q.1.i:=g.2.2.2
   exact ⟨g.1,g.2.1,g.2.2.1,by omega,rfl⟩
  ·simp only [zzz,zvy] at h5
   obtain ⟨rfl,rfl⟩:=h5
   exact ⟨⟨hl1,hwt.2⟩,rfl,rfl,by show t.i < t.i+1+1; omega,rfl⟩
 refine jn (X:=[gQ tl,bT u.o,aP u.l,vI u.i,vI u.n,.int .i64 0,.int .i64 0,vI u.d,.int .i64 0,lW ty.2]) ?_ ?_
 ·intro r1 h1
  rw [aQ]
  by_cases h123:pC [123] (cJ (cJ t))=true
  ·rw [if_pos h123] at h5
   rw [if_pos h123]
   have hl2:t.i+1+1 < t.l.length:=lQ h123
   obtain ⟨q,hq,h6⟩:=zwz.1 h5
   simp only [zzz,zvy] at h6
   obtain ⟨rfl,rfl⟩:=h6
   rw [aAm (s:=cJ (cJ t)) (by show t.i+1+1 < 1000000; omega),aB]
   refine fX (fun vs=>∃ (v:fH) (rl:List Rel) (k:Nat),vs=[bT v.o,gQ tl,aP v.l,vI v.i,vI v.n,.int .i64 0,.int .i64 0,vI v.d,.int .i64 0,lW rl]∧kK v∧v.d≤20∧rl.length≤200∧a8u k v rl=some q) (fun vs=>1000000 - iG (gv vs 3))
    ⟨cJ (cJ (cJ t)),[],_,rfl,⟨hl2,hwt.2⟩,hdt,by simp,hq⟩ ?_
   rintro r2 _ ⟨v,rl,k2,rfl,hwv,hdv,hrl,hv⟩ hr2
   refine ⟨rfl,?_⟩
   simp only [jM,jW]
   cases k2 with
   | zero=>simp [a8u] at hv
   | succ k2 =>
   unfold a8u at hv
   have hv2:=hwv.2
   rw [uV,aB,aQ,if_pos (by simp),aTf,aB,c2,a7b,aB,x0,aB,x1,aB,pN,aB,gJ,aB,aQ]
   by_cases h125:pC [125] v=true
   ·rw [if_pos h125] at hv
    rw [h125,if_neg (by simp)]
    have hl3:=lQ h125
    simp only [zzz] at hv
    subst hv
    rw [qP,aB,c4,aL5 h125 (by omega),aB,a1y,aB,x0,aB,pN,aB]
    exact h1
   ·rw [if_neg h125] at hv
    have h125':pC [125] v=false:=by simpa using h125
    rw [h125',if_pos (by simp)]
    split at hv
    ·simp at hv
    rename_i hn2
    obtain ⟨⟨x,rel⟩,hrel,h7⟩:=zwz.1 hv
    simp only at h7
    have gr:=b0b hwv hrel
    rw [aQz,aB,uV,aB,decide_eq_false (by omega)]
    refine jn (X:=[gQ tl,bT v.o,lW rl,aP v.l,vI v.i,vI v.n,.int .i64 0,.int .i64 0,vI v.d,.int .i64 0]) (fun r3 h3=>by rw [z8]; exact h3) ?_
    refine ⟨rfl,?_⟩
    simp only [jM,jW]
    rw [uV,aB,aQ,if_pos (by simp),aTf,aB,c3,bOb hrel hwv hdv,aB,x0,aB,x1,aB,pN,aB,aYm,aB,aYk (by omega),aB]
    have gi:v.i < x.i:=gr.2.2.2
    have gd:x.d=v.d:=gr.2.1
    have gw:x.i≤x.l.length:=gr.1.1
    have gw2:x.l.length≤500000:=gr.1.2
    refine hr2 _ ⟨x,rl++[rel],k2,rfl,gr.1,by omega,by simp; omega,h7⟩ ?_
    show 1000000 - x.i < 1000000 - v.i
    omega
  ·rw [if_neg h123] at h5
   rw [if_neg h123]
   simp only [zzz,zvy] at h5
   obtain ⟨rfl,rfl⟩:=h5
   exact h1
 ·refine ⟨rfl,?_⟩
  simp only [jM,jW]
  rw [bKf,aB,show ((a,ty.2):gI)=ty by rw [← hu.2.2.2.2],b82,aB,b81 (by omega),aB]
  have gi:t.i < u.i:=hu.2.2.2.1
  have gw:u.i≤u.l.length:=hu.1.1
  have gw2:u.l.length≤500000:=hu.1.2
  refine hr0 _ ⟨u,tl++[ty],k,rfl,hu.1,by rw [hu.2.1]; exact hdt,hu.2.2.1.trans htl,by simp; omega,h4⟩ ?_
  show 1000000 - u.i < 1000000 - t.i
  omega
theorem aJb:cU Try.prog pJ rZ:=by
 refine aIz (T:=TLP) (aE.cons aH3 (aE.cC sX (aE.cC lI (aE.cC bKe (aE.cC sW aE.nil))))) fun args v hv=>?_
 obtain ⟨w,rfl,⟨hw,hsome⟩,rfl⟩:=bO hv
 obtain ⟨ts,hts⟩:=Option.isSome_iff_exists.1 hsome
 rw [hts,Option.getD_some]
 exact ⟨rfl,by simp [aG,V.aN],by simp [aG,a5u,V.aN],bA2 w ts hw hts⟩
noncomputable def wX:Spec:=fG (fun w:List UInt8=>[.str w]) (fun w=>w.length≤100000∧(qJ w).isSome=true) (fun w=>gQ ((qJ w).getD []))
theorem b3m {w:List UInt8} {ts:List gI} (h:qJ w=some ts) (hw:w.length≤100000):wX [.str w]=some (gQ ts):=by
 have:=cK (c:=fun w:List UInt8=>[V.str w]) (ok:=fun w=>w.length≤100000∧(qJ w).isSome=true) (r:=fun w=>gQ ((qJ w).getD [])) (fun a b h=>by simpa using h) (a:=w) ⟨hw,by rw [h]; rfl⟩
 rw [h] at this
 exact this
theorem aJc:cU Try.prog pI wX:=by
 refine aIx (T:=[(pJ,rZ)]) (aE.cons aJb aE.nil) fun args v hv=>?_
 have c0:∀ args,aM [(pJ,rZ)] pJ args=rZ args:=fun _=>rfl
 obtain ⟨w,rfl,⟨hw,hsome⟩,rfl⟩:=bO hv
 obtain ⟨ts,hts⟩:=Option.isSome_iff_exists.1 hsome
 rw [hts,Option.getD_some]
 refine ⟨rfl,by simp [aG,V.aN],a5u _,?_⟩
 refine Eq.mpr (aKo (aM _) _ (.str w)) ?_
 rw [c0,bHj hts hw,aB,x0,aB,x1,aB,x2,aB]
end Go.Fbs
namespace Go.Fbs
open Go.Proofs
attribute [local irreducible] bD bV opt
theorem aR1 {α : Type} (p : α → Bool) (l : List α) : (l.find? p = none ∧ qS p l 0 = -1) ∨ ∃ (k : Nat) (t : α),l[k]? = some t ∧ l.find? p = some t ∧ qS p l 0 = ((k : Nat) : Int):=by
 unfold qS
 simp only [List.drop_zero]
 cases h : l.findIdx? p with
 | none =>
  left
  refine ⟨?_,rfl⟩
  rw [List.findIdx?_eq_none_iff] at h
  rw [List.find?_eq_none]
  intro x hx
  rw [h x hx]; simp
 | some j =>
  right
  obtain ⟨hj,h1,h2⟩:=List.findIdx?_eq_some_iff_getElem.1 h
  refine ⟨j,l[j],zyz hj,?_,by simp⟩
  rw [List.find?_eq_some_iff_getElem]
  exact ⟨h1,j,hj,rfl,fun i hi=>by simpa using h2 i hi⟩
def aR2 (ts:List gI) (x:xO):Bool :=
 x.ok && match ts.find? (fun t=>decide (t.1 = x.a)) with
  | none=>false
  | some t=>match t.2.find? (fun r=>decide (r.1 = x.c)) with
   | none=>false
   | some r=>decide ((x.d,[],x.f) ∈ r.2.1)
def b0d (ts:List gI):Prop:=ts.length≤kT∧∀ t ∈ ts,t.2.length≤kT∧∀ r ∈ t.2,r.2.1.length≤kT
def xO.short (x:xO):Prop:=aB7 x.a x.b x.c x.d x.e x.f
noncomputable def a3x:Spec:=fG (fun q:List gI×xO=>[gQ q.1,q.2.v]) (fun q=>b0d q.1∧q.2.short) (fun q=>.bool (aR2 q.1 q.2))
theorem bMt {ts:List gI} {x:xO} (h:b0d ts) (hx:x.short):a3x [gQ ts,x.v]=some (.bool (aR2 ts x)):=cK (a:=(ts,x)) (aRs fun _ _=>aUw) ⟨h,hx⟩
theorem bHk {x:xO} (h:x.short):a8r [x.v]=some (.bool x.ok):=by
 show (if aB7 x.a x.b x.c x.d x.e x.f then some (V.bool (okT x.a x.b x.c x.d x.e x.f)) else none)=_
 rw [if_pos (show aB7 x.a x.b x.c x.d x.e x.f from h)]; rfl
theorem b3n (o:Option V):aU (.bool true) false o=some .undef:=nr rfl
theorem aFp (o:Option V):aU (.bool false) true o=some .undef:=nr rfl
theorem bA3 (x:xO):aD [aA x.v 3,.str [],aA x.v 5]=some (kW (x.d,[],x.f)):=nr rfl
theorem bMu (t:gI):mX false 1 1 (kJ t)=some (lW t.2):=nr rfl
theorem bMv (r:Rel):mX false 1 1 (jE r)=some (lV r.2.1):=nr rfl
noncomputable abbrev aM5:List (FuncId×Spec):=[(nE,aVz),(a77,a8r),(nX,aV0),(j5,lM)]
theorem bHl (ts:List gI) (x:xO) (h:b0d ts) (hx:x.short):bV aZ (aM aM5) 45 a7n [.tmp 4] (cB Try.f21) [gQ ts,x.v] (fun r=>r = .bool (aR2 ts x)):=by
 have c1:∀ args,aM aM5 nE args=aVz args:=fun _=>rfl
 have c2:∀ args,aM aM5 a77 args=a8r args:=fun _=>rfl
 have c3:∀ args,aM aM5 nX args=aV0 args:=fun _=>rfl
 have c4:∀ args,aM aM5 j5 args=lM args:=fun _=>rfl
 refine Eq.mpr (b08 (aM _) _ (gQ ts) x.v) ?_
 rw [aRt,aB,aL3,aB,c1,bN7 h.1,aB,x0,aB,x1,aB,aRt,aB]
 unfold aR2
 rcases aR1 (fun t:gI=>decide (t.1=x.a)) ts with ⟨e1,e2⟩ | ⟨i,t,e0,e1,e2⟩
 ·rw [e2,e1,aBd,aB,aL3,aB,decide_eq_true (by decide)]
  rw [b3n,aB,b3n,aB,a2m,aB,wJ]
  simp
 ·have ht : t ∈ ts:=zyx e0
  rw [e2,e1,aBd,aB,aL3,aB,decide_eq_false (by omega),nM,c2,bHk hx,aB,nM,gJ,aB,aR0,aB,aQ]
  cases hok:x.ok with
  | false=>simp
  | true =>
   rw [if_neg (by simp),b6w e0,aB,aB,show aA (kJ t) 1=lW t.2 from rfl,c3,bN8 (h.2 t ht).1,aB,x0,aB,x1,aB,aRt,aB]
   simp only [Bool.true_and]
   rcases aR1 (fun r:Rel=>decide (r.1=x.c)) t.2 with ⟨f1,f2⟩ | ⟨k,r,f0,f1,f2⟩
   ·rw [f2,f1,b5i,aB,decide_eq_false (by decide)]
    rw [aFp,aB,aFp,aB,aFp,aB,aFp,aB,bA3,aB,aFp,aB,aR0,aB]
   ·have hr : r ∈ t.2:=zyx f0
    rw [f2,f1,b5i,aB,decide_eq_true (by omega),nM,aB,nM,bMu,aB,nM,aVy f0,aB,nM,bMv,aB,bA3,aB,nM,c4,bMn ((h.2 t ht).2 r hr),aB,a2m,aB]
theorem b0e:cU Try.prog a3l a3x:=by
 refine aX8 (T:=aM5) (aE.cC bHg (aE.cons b6v (aE.cC bHh (aE.cons a3b aE.nil)))) fun args v hv=>?_
 obtain ⟨⟨ts,x⟩,rfl,⟨h,hx⟩,rfl⟩:=bO hv
 exact ⟨rfl,by simp [aG,a5u,zT],rfl,bHl ts x h hx⟩
end Go.Fbs
