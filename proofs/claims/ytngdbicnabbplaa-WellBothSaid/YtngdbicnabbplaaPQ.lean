import Derived.Test.YtngdbicnabbplaaPP
set_option linter.unusedSimpArgs false
set_option linter.unusedVariables false
set_option linter.unusedSectionVars false
set_option maxRecDepth 100000
namespace Go.Fbs
open Go.Proofs
attribute [local irreducible] bW cC opt kQ
theorem bE5 (a:List UInt8):aG [.str a,.sl .ro [],.sl .ro []]=some (mW (a,[],[])):=nr rfl
theorem bH2 (s:aY):aG [aA (vR s) 0,vI ((s.i+1:Nat):Int),aA (vR s) 2,aA (vR s) 3,aA (vR s) 4,aA (vR s) 5,.sl .ro [],aA (vR s) 7]=some (vR { aE s with o:=[] }):=nr rfl
theorem bE6 (a:List UInt8) (r:aY):aG [aA (mW (a,[],[])) 0,.sl .ro [],aA (vR r) 6]=some (mW (a,[],r.o)):=nr rfl
theorem bE7 (a:List UInt8) (l:List Sub):aG [aA (mW (a,[],[])) 0,mF l,.sl .ro []]=some (mW (a,l,[])):=nr rfl
theorem bE8 (a:List UInt8):aG [.str a,.str [],.str []]=some (lX (a,[],[])):=nr rfl
theorem bE9 (a b:List UInt8):aG [aA (lX (a,[],[])) 0,aA (lX (a,[],[])) 1,.str b]=some (lX (a,[],b)):=nr rfl
noncomputable def aSa:Spec:=gV (fun s:aY=>[vR s]) (fun s=>fK s∧s.d≤20∧(wD s).isSome=true) (fun s=>.aO [mW ((wD s).getD (s,[],[],[])).2,vR ((wD s).getD (s,[],[],[])).1])
theorem bJv {s:aY} {q:aY×Rel} (h:wD s=some q) (hs:fK s) (hd:s.d≤20):aSa [vR s]=some (.aO [mW q.2,vR q.1]):=by
 have:=gD (c:=fun q:aY=>[vR q]) (ok:=fun s=>fK s∧s.d≤20∧(wD s).isSome=true) (r:=fun s=>.aO [mW ((wD s).getD (s,[],[],[])).2,vR ((wD s).getD (s,[],[],[])).1]) b1q (a:=s) ⟨hs,hd,by rw [h]; rfl⟩
 rw [h] at this
 exact this
noncomputable def bH3:Spec:=uQ kQ
noncomputable abbrev TLR:List (FuncId×Spec):=[(bI,eX),(aI,bY),(iZ,bH3),(aT,eW)]
theorem bFa (s:aY) (q:aY×Rel) (hs:fK s) (hd:s.d≤20) (hq:wD s=some q):bW cM (bT TLR) 98 nG [.cell 2 32] cQ (cB Try.f29) [vR s] (fun r=>r=V.aO [mW q.2,vR q.1]):=by
 have c1:∀ args,bT TLR bI args=eX args:=fun _=>rfl
 have c2:∀ args,bT TLR aI args=bY args:=fun _=>rfl
 have c3:∀ args,bT TLR iZ args=uQ kQ args:=fun _=>rfl
 have c4:∀ args,bT TLR aT args=eW args:=fun _=>rfl
 refine Eq.mpr (a6w (bT _) _ (bJ s.l) (vI s.i) (vI s.n) (.int .i64 0) (.int .i64 0) (vI s.d) (fE s.o) (.int .i64 0)) ?_
 obtain ⟨a,ha,h2⟩:=zwz.1 (show (kF s).bind _=some q from hq)
 have hlt:=lY ha
 have hw:=hs.2
 rw [agR,aB,c1,a8d ha (by omega),aB,x0,aB,x1,aB,nC,aB,aKw,aB,bE5,aB,e0R,aB,yJ]
 rw [oQ,aB,c2,a29,aB,x0,aB,x1,aB,nC,aB,cK]
 by_cases h61:fC [61] (aE s)=true
 ·rw [if_pos h61] at h2
  rw [if_pos h61]
  have hl2:s.i+1 < s.l.length:=fR h61
  obtain ⟨r,hr,h3⟩:=zwz.1 h2
  have g:=aGx.g _ r (show fK { aE (aE s) with o:=[] } from ⟨hl2,hs.2⟩) hr
  split at h3
  ·rename_i h59
   have hl3:=fR h59
   simp only [zzz] at h3
   subst h3
   have g1:r.l.length≤500000:=g.1.2
   rw [a61 (s:=aE s) (by show s.i+1 < 1000000; omega),aB,bH2,aB,c3,Fro hr ⟨hl2,hs.2⟩ hd,aB,yS,aB,x0,aB,nC,aB,oQ,aB,c4,aBj h59 (by omega),aB,yS,aB,x0,aB,nC,aB,bE6,aB,oQ,aB]
  ·simp at h3
 ·rw [if_neg h61] at h2
  rw [if_neg h61]
  split at h2
  ·rename_i h58
   have hl2:s.i+1 < s.l.length:=fR h58
   obtain ⟨q0,hr,h3⟩:=zwz.1 h2
   simp only [zzz] at h3
   subst h3
   rw [oQ,aB,c4,aBj h58 (by show s.i+1 < 1000000; omega),aB,yS,aB,x0,aB,nC,aB]
   generalize hs2:aE (aE s)=s2 at hr ⊢
   have hw2:fK s2:=by rw [← hs2]; exact ⟨hl2,hs.2⟩
   have hd2:s2.d≤20:=by rw [← hs2]; exact hd
   rw [(gK s2).1,(gK s2).2.1,(gK s2).2.2.1,(gK s2).2.2.2.1,(gK s2).2.2.2.2.1,(gK s2).2.2.2.2.2.1,(gK s2).2.2.2.2.2.2.1,(gK s2).2.2.2.2.2.2.2]
   have h61':fC [61] (aE s)=false:=by simpa using h61
   rw [h61']
   refine jC (fun vs=>∃ (t:aY) (l:List Sub) (k:Nat),vs=[fE t.o,.bool false,bJ t.l,vI t.i,vI t.n,.int .i64 0,.int .i64 0,vI t.d,.int .i64 0,mF l]∧fK t∧t.d≤20∧l.length≤50∧pZ k t l=some q0) (fun vs=>1000000 - jP (gv vs 3)) ⟨s2,[],_,rfl,hw2,hd2,by simp,hr⟩ ?_
   rintro rr _ ⟨t,l,k,rfl,hwt,hdt,h50,ht⟩ hk
   refine ⟨rfl,?_⟩
   simp only [sL,tV]
   cases k with
   | zero=>simp [pZ] at ht
   | succ k =>
   unfold pZ at ht
   split at ht
   ·simp at ht
   rename_i hne
   obtain ⟨⟨u,sb⟩,hsub,h4⟩:=zwz.1 ht
   have gs:=aDd hwt hsub
   obtain ⟨b,hb,h5⟩:=zwz.1 (show (kF t).bind _=some (u,sb) from hsub)
   have hlt2:=lY hb
   have hw3:=hwt.2
   rw [uO,aB,cK,if_pos (by simp),b4k,aB,uO,aB,decide_eq_false (by omega)]
   refine jn (X:=[fE t.o,mF l,bJ t.l,vI t.i,vI t.n,.int .i64 0,.int .i64 0,vI t.d,.int .i64 0]) (fun r1 h1=>by rw [zI]; exact h1) ?_
   refine ⟨rfl,?_⟩
   simp only [sL,tV]
   rw [aO0,aB,c1,a8d hb (by omega),aB,x0,aB,x1,aB,nC,aB,aKw,aB,bE8,aB,e0R,aB,yJ]
   rw [oQ,aB,c2,a29,aB,x0,aB,x1,aB,nC,aB]
   have hsb:sb=(b,[],sb.2.2):=by
    split at h5
    ·obtain ⟨d,_,h6⟩:=zwz.1 h5
     simp only [zzz,zvy] at h6
     rw [← h6.2]
    ·simp only [zzz,zvy] at h5
     rw [← h5.2]
   refine jn (X:=[fE u.o,mF l,bJ u.l,vI u.i,vI u.n,.int .i64 0,.int .i64 0,vI u.d,.int .i64 0,.str sb.2.2]) ?_ ?_
   ·intro r1 h1
    rw [cK]
    by_cases h35:fC [35] (aE t)=true
    ·rw [if_pos h35] at h5
     rw [if_pos h35]
     have hl3:t.i+1 < t.l.length:=fR h35
     obtain ⟨d,hd',h6⟩:=zwz.1 h5
     simp only [zzz,zvy] at h6
     obtain ⟨rfl,rfl⟩:=h6
     have hl4:t.i+1+1 < t.l.length:=lY hd'
     rw [a61 (s:=aE t) (by show t.i+1 < 1000000; omega),aB,a7e (aE t),aB,c1,a8d hd' (by show t.i+1+1 < 1000000; omega),aB,x0,aB,x1,aB,nC,aB,aKw,aB]
     exact h1
    ·rw [if_neg h35] at h5
     rw [if_neg h35]
     simp only [zzz,zvy] at h5
     obtain ⟨rfl,rfl⟩:=h5
     exact h1
   ·refine ⟨rfl,?_⟩
    simp only [sL,tV]
    rw [bE9,aB,← hsb,bEp,aB,bEm (by omega),aB,uO,aB,cK,if_pos (by simp)]
    rw [aO0,aB,c2,a29,aB,x0,aB,x1,aB,nC,aB,cK]
    have gi:t.i < u.i:=gs.2.2.2.1
    have gw:u.i≤u.l.length:=gs.1.1
    have gw2:u.l.length≤500000:=gs.1.2
    have gd:u.d=t.d:=gs.2.1
    simp only at h4
    by_cases h124:fC [124] u=true
    ·rw [if_pos h124] at h4
     rw [if_pos h124]
     have hl5:=fR h124
     rw [a61 (by omega),aB]
     refine hk _ ⟨aE u,l++[sb],k,rfl,⟨hl5,gw2⟩,by show u.d≤20; omega,by simp; omega,h4⟩ ?_
     show 1000000 - (u.i+1) < 1000000 - t.i
     omega
    ·rw [if_neg h124] at h4
     rw [if_neg h124]
     split at h4
     ·rename_i h59
      have hl5:=fR h59
      simp only [zzz] at h4
      subst h4
      rw [oQ,aB,c4,aBj h59 (by omega),aB,yS,aB,x0,aB,nC,aB,bE7,aB,oQ,aB]
     ·simp at h4
  ·simp at h2
theorem bFb:fU Try.prog zT cQ aSa:=by
 refine a5u (T:=TLR) (aM.kU mT (aM.kU gJ (aM.kU aM5 (aM.kU mS aM.nil)))) fun words v hv=>?_
 obtain ⟨s,rfl,⟨hs,hd,hsome⟩,rfl⟩:=eO hv
 obtain ⟨q,hq⟩:=Option.isSome_iff_exists.1 hsome
 rw [hq,Option.getD_some]
 exact ⟨_,rfl,rfl,by simp [aL,kP],by simp [aL,kP,aGn,V.bU],rfl,rfl,bFa s q hs hd hq⟩
end Go.Fbs

namespace Go.Fbs
open Go.Proofs
def a3b (l:List UInt8) (c:Int) (k:Nat):Int :=
 match (l.drop k).findIdx? (fun b=>decide ((b.toNat : Int) = c)) with
 | some j=>k+j
 | none=>-1
theorem b4w {l:List UInt8} {c:Int} {k:Nat} (h:l.length≤k):a3b l c k = -1:=by
 unfold a3b; rw [List.drop_eq_nil_of_le h]; rfl
theorem b8o {l : List UInt8} {c : Int} {k : Nat} {b : UInt8} (h : l[k]? = some b) : a3b l c k = if (b.toNat : Int) = c then (k : Int) else a3b l c (k + 1):=by
 have hk:k < l.length:=(zzy.1 h).1
 have hb:l[k]=b:=(zzy.1 h).2
 unfold a3b
 rw [List.drop_eq_getElem_cons hk,hb,List.findIdx?_cons]
 by_cases hc:(b.toNat:Int)=c
 ·simp [hc]
 ·simp only [hc,decide_false,zuy,if_false]
  cases (l.drop (k + 1)).findIdx? (fun b=>decide ((b.toNat : Int) = c)) with
  | none=>rfl
  | some j=>simp; omega
def jV:Spec
 | [.str l,.int .u8 c,.int .i64 k]=>if l.length≤mL∧0≤k∧k≤mL then some (vI (a3b l c k.toNat)) else none
 | _=>none
theorem aGy:fS Try.prog lU jV:=by
 refine aGk (T:=[]) (aM.nil) fun args v hv=>?_
 unfold jV at hv
 split at hv <;> (try simp only [Option.ite_none_right_eq_some,zzz,reduceCtorEq] at hv)
 rename_i l c k
 obtain ⟨⟨hl,hk,hk'⟩,rfl⟩:=hv
 unfold mL at hl hk'
 obtain ⟨k,rfl⟩:∃ n:Nat,k=n:=⟨k.toNat,by omega⟩
 simp only [Int.toNat_natCast]
 refine ⟨rfl,rfl,rfl,?_⟩
 rw [aIs]
 simp only [sS,if_true,if_false,reduceCtorEq]
 refine jC (fun vs=>∃ j:Nat,vs=[vI j]∧a3b l c j=a3b l c k∧j≤4611686018427387904) (fun vs=>l.length - jP (gv vs 0)) ⟨k,rfl,rfl,by omega⟩ ?_
 rintro r _ ⟨j,rfl,hj,hjb⟩ hr
 refine ⟨rfl,?_⟩
 simp only [sS,if_true,if_false,reduceCtorEq]
 by_cases hlt:j < l.length
 ·obtain ⟨b,hb⟩ : ∃ b,l[j]? = some b:=⟨l[j],zyz hlt⟩
  have hlt':(j:Int) < (l.length:Int):=by omega
  rw [b8o hb] at hj
  simp only [hlt',decide_true,sS,if_true,if_false,reduceCtorEq,xF hb]
  by_cases hc:(b.toNat:Int)=c
  ·rw [if_pos hc] at hj
   simp [hc,hj]
  ·rw [if_neg hc] at hj
   simp only [hc,decide_false,sS,if_true,if_false,reduceCtorEq]
   rw [lN (by omega) (by omega)]
   exact hr _ ⟨j+1,by simp,hj,by omega⟩ (by simp [gv,jP]; omega)
 ·have hlt':¬ (j:Int) < (l.length:Int):=by omega
  rw [b4w (by omega)] at hj
  simp [sS,if_true,if_false,reduceCtorEq,hlt',hj]
def mU (l:List UInt8) (i:Nat):List eP×Option Nat:=iE (l.length - i) (i+dV false (l.drop i)) (l.drop (i+dV false (l.drop i)))
theorem aDe (l:List UInt8) (i f:Nat) (h:l.length - i≤f):iE f (i+dV false (l.drop i)) (l.drop (i+dV false (l.drop i)))=mU l i:=by
 unfold mU
 rw [a1q f _ _ (by simp only [List.length_drop]; omega),a1q (l.length - i) _ _ (by simp only [List.length_drop]; omega)]
theorem b4x (l:List UInt8):iE l.length (dV false l) (l.drop (dV false l))=mU l 0:=by
 have:=aDe l 0 l.length (by omega)
 simpa using this
theorem aDf {l:List UInt8} {i k:Nat} (hi:i≤k) (h:dV false (l.drop i)=(k - i)+dV false (l.drop k)):mU l i=mU l k:=by
 have e:i+dV false (l.drop i)=k+dV false (l.drop k):=by omega
 have:=aDe l k (l.length - i) (by omega)
 rw [← this]
 unfold mU
 rw [e]
theorem b4y {l:List UInt8} {i:Nat} {c:UInt8} {t:List UInt8} (hd:l.drop i=c::t) (h0:dV false (c::t)=0) :
  mU l i=if (eU (c::t)).2.2=false then ([],some i) else (((eU (c::t)).1,i,(eU (c::t)).2.1)::(mU l (i+(eU (c::t)).2.1.length)).1,(mU l (i+(eU (c::t)).2.1.length)).2):=by
 have hl:i < l.length:=by
  have:=congrArg List.length hd; simp only [List.length_drop,zwx] at this; omega
 have e1:mU l i=iE (l.length - i) i (c::t):=by
  unfold mU; rw [hd,h0,Nat.add_zero,hd]
 rw [e1]
 obtain ⟨g,hg⟩:∃ g,l.length - i=g+1:=⟨l.length - i - 1,by omega⟩
 rw [hg]
 simp only [iE]
 split
 ·rfl
 ·have hn:=(a1p (l:=c::t) (by simp)).1
  generalize hnn:(eU (c::t)).2.1.length=n at *
  have e2:∀ j,(c::t).drop j=l.drop (i+j):=fun j=>by rw [← hd,List.drop_drop]
  rw [e2 n,List.drop_drop]
  rw [aDe l (i+n) g (by omega)]
theorem b4z {l:List UInt8} {i:Nat} (h:l.length≤i):mU l i=([],none):=by
 unfold mU
 rw [show l.drop (i+dV false (l.drop i))=[] from List.drop_eq_nil_of_le (by omega)]
 cases l.length - i <;> rfl
theorem aUs {l:List UInt8} (h:¬ 100000 < l.length):cP l=match (mU l 0).2 with | some k=>([],k,7) | none=>((mU l 0).1,0,0):=by
 unfold cP
 rw [if_neg h,b4x]
 rfl
theorem aQh:∀ (f k:Nat) (l:List UInt8),(iE f k l).1.length≤f
 | 0,k,l=>by simp [iE]
 | f+1,k,[]=>by simp [iE]
 | f+1,k,c::l=>by
  simp only [iE]
  split
  ·simp
  ·have:=aQh f (k+(eU (c::l)).2.1.length+dV false ((c::l).drop (eU (c::l)).2.1.length)) (((c::l).drop (eU (c::l)).2.1.length).drop (dV false ((c::l).drop (eU (c::l)).2.1.length)))
   simp only [zwx]; omega
theorem aJj (l:List UInt8):(cP l).1.length≤l.length:=by
 unfold cP
 split
 ·simp
 ·have:=aQh l.length (dV false l) (l.drop (dV false l))
  simp only
  split
  ·simp
  ·exact this
theorem b1s {c:UInt8} {t:List UInt8} (h:jG c.toNat=true):pX (c::t)=1+pX t:=by
 simp [pX,List.takeWhile_cons,h]; omega
theorem aJk {c:UInt8} {t:List UInt8} (h:jG c.toNat=false):pX (c::t)=0:=by
 simp [pX,List.takeWhile_cons,h]
theorem aYu {l : List UInt8} {k : Nat} {c : UInt8} (h : l[k]? = some c) : pX (l.drop k) = if jG c.toNat then 1 + pX (l.drop (k + 1)) else 0:=by
 have hk:k < l.length:=(zzy.1 h).1
 rw [List.drop_eq_getElem_cons hk,(zzy.1 h).2]
 split
 ·rename_i hc; exact b1s hc
 ·rename_i hc; exact aJk (by simpa using hc)
theorem b40 {l:List UInt8} {c:UInt8} : decide (a3b l c.toNat 0 < 0)=decide (c ∉ l):=by
 unfold a3b
 simp only [List.drop_zero]
 cases h : l.findIdx? (fun b=>decide ((b.toNat : Int) = c.toNat)) with
 | none =>
  rw [List.findIdx?_eq_none_iff] at h
  have:c ∉ l:=fun hc=>by have:=h c hc; simp at this
  simp [this]
 | some j =>
  have:c ∈ l:=by
   obtain ⟨hj,h1,_⟩:=List.findIdx?_eq_some_iff_getElem.1 h
   simp only [decide_eq_true_eq] at h1
   have:l[j]=c:=UInt8.toNat_inj.1 (by omega)
   rw [← this]; exact List.getElem_mem hj
  simp [this]
def mJ:Spec
 | [.str l]=>if l.length≤mL then some (.aO [bJ (cP l).1,vI (cP l).2.1,vI (cP l).2.2]) else none
 | _=>none
theorem a3c:fS Try.prog oU mJ:=by
 refine aCv (T:=[(fI,fJ),(lU,jV)]) (aM.cons a5h (aM.cons aGy aM.nil)) fun args v hv=>?_
 have c_entailref6_part:∀ args,bT [(fI,fJ),(lU,jV)] fI args=fJ args:=fun _=>rfl
 have c_entailref1_Find:∀ args,bT [(fI,fJ),(lU,jV)] lU args=jV args:=fun _=>rfl
 unfold mJ at hv
 split at hv <;> (try simp only [Option.ite_none_right_eq_some,zzz,reduceCtorEq] at hv)
 rename_i l
 obtain ⟨hl,rfl⟩:=hv
 have hl0:=hl
 unfold mL at hl
 refine ⟨rfl,rfl,by simp [V.bU,aL,aJf],?_⟩
 rw [aE3]
 simp only [sS,if_true,if_false,reduceCtorEq]
 by_cases hbig:100000 < l.length
 ·have hb':(100000:Int) < (l.length:Int):=by omega
  simp [hb',cP,hbig,bJ]
 ·have hb':¬ (100000:Int) < (l.length:Int):=by omega
  have hT:=aUs hbig
  simp only [hb',decide_false,sS,if_true,if_false,reduceCtorEq]
  refine jC (fun vs=>∃ (k:Nat) (dn:List eP),vs=[.sl .ro (dn.map wB),vI k]∧k≤l.length∧dn.length≤k ∧
   mU l 0=(dn++(mU l k).1,(mU l k).2)) (fun vs=>l.length - jP (gv vs 1)) ⟨0,[],rfl,Nat.zero_le _,zxy _,by simp⟩ ?_
  rintro r _ ⟨k,dn,rfl,hk,hdn,hr0⟩ hr
  refine ⟨rfl,?_⟩
  simp only [sS,if_true,if_false,reduceCtorEq]
  by_cases hlt:k < l.length
  ·have hlt':(k:Int) < (l.length:Int):=by omega
   obtain ⟨c,hc⟩ : ∃ c,l[k]? = some c:=⟨l[k],zyz hlt⟩
   obtain ⟨t,hd⟩:∃ t,l.drop k=c::t:=⟨l.drop (k+1),by rw [List.drop_eq_getElem_cons hlt,(zzy.1 hc).2]⟩
   have htd:l.drop (k+1)=t:=by rw [← List.drop_drop,hd]; rfl
   have hk1:IntKind.i64.wrap ((k:Int)+1)=((k+1:Nat):Int):=by rw [lN (by omega) (by omega)]; omega
   simp only [hlt',decide_true,sS,if_true,if_false,reduceCtorEq,xF hc,hk1]
   refine b4h (fun w=>∃ (kind:Int) (j:Nat),w=[vI kind,vI j,.sl .ro (dn.map wB)]∧k < j∧j≤l.length∧(0 < kind→mU l 0=(dn++(kind,k,(l.take j).drop k)::(mU l j).1,(mU l j).2))∧(¬ 0 < kind→mU l k=mU l j)) ?_ ?_
   ·rintro _ ⟨kind,j,rfl,hkj,hj,h1,h2⟩
    refine ⟨rfl,?_⟩
    simp only [sS,if_true,if_false,reduceCtorEq]
    by_cases hpos:0 < kind
    ·simp only [hpos,decide_true,aWx hj (Nat.le_of_lt hkj),sS,if_true,if_false,reduceCtorEq]
     rw [bGp (by simp [sc])]
     simp only [sS,if_true,if_false,reduceCtorEq]
     rw [bGq (by simp) (by simp [V.cells,V.mB])]
     simp only [sS,if_true,if_false,reduceCtorEq]
     rw [aMp (n:=3) (b:=32) (by simp; omega) (aW9 (f:=wB) fun a=>rfl) (by simp [V.cells])]
     simp only [sS,if_true,if_false,reduceCtorEq]
     exact hr _ ⟨j,dn++[(kind,k,(l.take j).drop k)],by simp [wB,b8d],hj,by simp; omega,by rw [h1 hpos]; simp⟩ (by simp [gv,jP]; omega)
    ·simp only [hpos,decide_false,sS,if_true,if_false,reduceCtorEq]
     exact hr _ ⟨j,dn,rfl,hj,by omega,by rw [hr0,h2 hpos]⟩ (by simp [gv,jP]; omega)
   ·intro r1 hr1
    have none_:∀ j:Nat,k < j→j≤l.length→mU l k=mU l j→r1 [vI 0,vI j,.sl .ro (dn.map wB)]:=fun j h1 h2 h3=>hr1 _ ⟨0,j,rfl,h1,h2,fun h=>absurd h (by omega),fun _=>h3⟩
    have blank:yQ c=true→r1 [vI 0,vI (k+1:Nat),.sl .ro (dn.map wB)]:=fun hb=>none_ (k+1) (by omega) (by omega) (aDf (by omega) (by rw [hd,htd,aJi hb]; omega))
    by_cases b1:c=32
    ·subst b1; simp [sS,if_true,if_false,reduceCtorEq]; exact blank rfl
    by_cases b2:c=9
    ·subst b2; simp [sS,if_true,if_false,reduceCtorEq]; exact blank rfl
    by_cases b3:c=10
    ·subst b3; simp [sS,if_true,if_false,reduceCtorEq]; exact blank rfl
    by_cases b4:c=13
    ·subst b4; simp [sS,if_true,if_false,reduceCtorEq]; exact blank rfl
    have ne:∀ n:UInt8,c≠n→¬ ((c.toNat:Int)=(n.toNat:Int)):=fun n hn h=>hn (UInt8.toNat_inj.1 (by omega))
    have e1:¬ ((c.toNat:Int)=32):=ne 32 b1
    have e2:¬ ((c.toNat:Int)=9):=ne 9 b2
    have e3:¬ ((c.toNat:Int)=10):=ne 10 b3
    have e4:¬ ((c.toNat:Int)=13):=ne 13 b4
    have hnb:yQ c=false:=by simp [yQ,b1,b2,b3,b4]
    simp only [e1,e2,e3,e4,decide_false,sS,if_true,if_false,reduceCtorEq]
    have hnx : l[k + 1]? = t.head?:=by rw [← htd,List.head?_drop]
    have two:∀ (n m:UInt8) (X Y:Prop),(opt (aQ (V.bool (decide ((c.toNat:Int)=(n.toNat:Int)) && decide (((k+1:Nat):Int) < (l.length:Int)))) true (kA (V.str l) (V.int .i64 ((k+1:Nat):Int)))) fun y20 =>
      opt (aQ (V.bool (decide ((c.toNat : Int) = (n.toNat : Int)) && decide (((k + 1 : Nat) : Int) < (l.length : Int)))) true (aD .eql y20 (V.int .u8 (m.toNat : Int)))) fun y21=>bP (if (decide ((c.toNat : Int) = (n.toNat : Int)) && decide (((k + 1 : Nat) : Int) < (l.length : Int))) = true then y21 else V.bool false) X Y) = bP (.bool (decide (c = n ∧ t.head? = some m))) X Y:=by
     intro n m X Y
     by_cases h1:c=n
     ·subst h1
      by_cases h2:k+1 < l.length
      ·obtain ⟨d,hdd⟩ : ∃ d,l[k + 1]? = some d:=⟨l[k + 1],zyz h2⟩
       have h2':((k+1:Nat):Int) < (l.length:Int):=by omega
       rw [hdd] at hnx
       simp only [h2',decide_true,sS,if_true,if_false,reduceCtorEq,xF hdd,← hnx,zzz,true_and]
       congr 2
       simp only [decide_eq_decide]
       exact ⟨fun h=>UInt8.toNat_inj.1 (by omega),fun h=>by rw [h]⟩
      ·have h2':¬ ((k+1:Nat):Int) < (l.length:Int):=by omega
       rw [List.getElem?_eq_none (by omega)] at hnx
       simp only [h2',decide_false,decide_true,sS,if_true,if_false,reduceCtorEq,← hnx,and_false,reduceCtorEq]
     ·simp only [ne n h1,decide_false,sS,if_true,if_false,reduceCtorEq,h1,false_and]
    have t1:=two 47 47
    have t2:=two 45 62
    simp only [UInt8.reduceToNat,Int.ofNat_eq_natCast,Int.cast_ofNat_Int] at t1 t2
    rw [t1]
    by_cases hcm : c = 47 ∧ t.head? = some 47
    ·simp only [hcm,and_self,decide_true,sS,if_true,if_false,reduceCtorEq]
     obtain ⟨rfl,hh⟩:=hcm
     obtain ⟨u,rfl⟩:∃ u,t=47::u:=by
      cases t with
      | nil=>simp at hh
      | cons d u=>simp at hh; subst hh; exact ⟨u,rfl⟩
     refine jC (fun vs=>∃ j:Nat,vs=[vI j,.sl .ro (dn.map wB)]∧k+1≤j∧j≤l.length∧(10:UInt8) ∉ (l.drop k).take (j - k)) (fun vs=>l.length - jP (gv vs 0)) ⟨k+1,rfl,zxy _,by omega,by rw [hd,show k+1 - k=1 by omega]; simp⟩ ?_
     rintro r2 _ ⟨j,rfl,hj1,hj2,hj3⟩ hr2
     refine ⟨rfl,?_⟩
     simp only [sS,if_true,if_false,reduceCtorEq]
     by_cases hjl:j < l.length
     ·have hjl':(j:Int) < (l.length:Int):=by omega
      obtain ⟨d,hdd⟩ : ∃ d,l[j]? = some d:=⟨l[j],zyz hjl⟩
      simp only [hjl',decide_true,sS,if_true,if_false,reduceCtorEq,xF hdd]
      by_cases hd10:d=10
      ·subst hd10
       simp only [UInt8.reduceToNat,Int.ofNat_eq_natCast,Int.cast_ofNat_Int,decide_true,sS,if_true,if_false,reduceCtorEq]
       refine none_ j (by omega) hj2 (aDf (by omega) ?_)
       have hx : (l.drop k)[j - k]? = some 10:=by rw [List.getElem?_drop,show k + (j - k) = j by omega]; exact hdd
       have:=aEk (l.drop k) (j - k) hx hj3
       rw [List.drop_drop,show k+(j - k)=j by omega] at this
       rw [hd,aQa,← hd]; exact this
      ·have:¬ ((d.toNat:Int)=10):=fun h=>hd10 (UInt8.toNat_inj.1 (by simpa using (by omega:d.toNat=10)))
       simp only [this,decide_false,sS,if_true,if_false,reduceCtorEq]
       rw [lN (by omega) (by omega)]
       refine hr2 _ ⟨j+1,by simp,by omega,hjl,?_⟩ (by simp [gv,jP]; omega)
       have hx : (l.drop k)[j - k]? = some d:=by rw [List.getElem?_drop,show k + (j - k) = j by omega]; exact hdd
       rw [show j+1 - k=j - k+1 by omega,List.take_add_one,hx]
       simp [hj3,Ne.symm hd10]
     ·have hjl':¬ (j:Int) < (l.length:Int):=by omega
      simp only [hjl',decide_false,sS,if_true,if_false,reduceCtorEq]
      refine none_ j (by omega) hj2 (aDf (by omega) ?_)
      have h10:(10:UInt8) ∉ l.drop k:=by rw [List.take_of_length_le (by simp; omega)] at hj3; exact hj3
      have:=aBf (l.drop k) h10
      rw [hd,aQa,← hd,this,List.drop_eq_nil_of_le (show l.length≤j by omega)]
      simp [dV]; omega
    ·have hcm' : decide (c = 47 ∧ t.head? = some 47) = false:=by simpa using hcm
     simp only [hcm',sS,if_true,if_false,reduceCtorEq,c_entailref6_part,fJ]
     have htok:=b4y hd (aQe hcm hnb)
     have some_:∀ (kind:Int) (x:List UInt8),0 < kind→eU (c::t)=(kind,x,true)→x.length≤(c::t).length→x=(c::t).take x.length→r1 [vI kind,vI (k+x.length:Nat),.sl .ro (dn.map wB)]:=by
      intro kind x hk0 hn hxl hx
      rw [hn] at htok
      have h1:=(a1p (l:=c::t) (by simp)).1
      rw [hn] at h1
      have hxl':x.length≤(l.drop k).length:=by rw [hd]; exact hxl
      rw [List.length_drop] at hxl'
      refine hr1 _ ⟨kind,k+x.length,rfl,by simp only at h1; omega,by omega,fun _=>?_,fun h=>absurd hk0 h⟩
      rw [hr0,htok]
      simp only [Bool.true_eq_false,if_false]
      rw [List.drop_take,show k+x.length - k=x.length by omega,hd,← hx]
     cases hlet:jG c.toNat
     ·have hrow:=aJk (t:=t) hlet
      simp only [sS,if_true,if_false,reduceCtorEq,t2]
      by_cases har : c = 45 ∧ t.head? = some 62
      ·simp only [har,and_self,decide_true,sS,if_true,if_false,reduceCtorEq]
       obtain ⟨rfl,hh⟩:=har
       obtain ⟨u,rfl⟩:∃ u,t=62::u:=by
        cases t with
        | nil=>simp at hh
        | cons d u=>simp at hh; subst hh; exact ⟨u,rfl⟩
       have hlen:=congrArg List.length hd
       simp only [List.length_drop,zwx] at hlen
       rw [lN (by omega) (by omega)]
       have:=some_ 2 [45,62] (by omega) (by simp [eU,hrow]) (by simp) (by simp)
       rw [show ((k+1:Nat):Int)+1=((k+2:Nat):Int) by omega]
       exact this
      ·have har' : decide (c = 45 ∧ t.head? = some 62) = false:=by simpa using har
       have hpre:List.isPrefixOf [45,62] (c::t)=false:=by
        cases t with
        | nil=>simp [List.isPrefixOf]
        | cons d u=>simp at har; simp [List.isPrefixOf]; intro h1 h2; exact har h1.symm h2.symm
       have hfind:jV [.str [123,125,58,59,124,35,61,43,45,38,40,41],.int .u8 c.toNat,.int .i64 0]=some (vI (a3b aUf c.toNat 0)):=by
        simp only [jV]
        rw [if_pos ⟨by simp [mL],by omega,by simp [mL]⟩]; rfl
       simp only [har',sS,if_true,if_false,reduceCtorEq,c_entailref1_Find,hfind,b40]
       by_cases hsg:c ∈ aUf
       ·have:=some_ 2 [c] (by omega) (by simp [eU,hrow,hpre,hsg]) (by simp) (by simp)
        simpa [hsg] using this
       ·have hn:eU (c::t)=(2,[c],false):=by simp [eU,hrow,hpre,hsg]
        rw [hn] at htok
        simp only [if_true] at htok
        rw [hr0,htok] at hT
        simp only at hT
        simp [hsg,hT,bJ]
     ·simp only [sS,if_true,if_false,reduceCtorEq]
      have hrow0:pX (l.drop k)=1+pX (l.drop (k+1)):=by rw [aYu hc,if_pos hlet]
      refine jC (fun vs=>∃ j:Nat,vs=[vI j,.sl .ro (dn.map wB)]∧k+1≤j∧j≤l.length∧pX (l.drop k)=(j - k)+pX (l.drop j)) (fun vs=>l.length - jP (gv vs 0)) ⟨k+1,rfl,zxy _,by omega,by rw [hrow0]; omega⟩ ?_
      rintro r2 _ ⟨j,rfl,hj1,hj2,hj3⟩ hr2
      refine ⟨rfl,?_⟩
      simp only [sS,if_true,if_false,reduceCtorEq]
      have done:pX (l.drop j)=0→r1 [vI 1,vI j,.sl .ro (dn.map wB)]:=fun h0=>by
       have hn:pX (c::t)=j - k:=by rw [← hd]; omega
       have hl2:(c::t).length=l.length - k:=by rw [← hd,List.length_drop]
       have hx:((c::t).take (j - k)).length=j - k:=by rw [List.length_take,hl2]; omega
       have:=some_ 1 ((c::t).take (j - k)) (by omega) (by unfold eU; rw [if_pos (by omega),hn]) (by omega) (by rw [hx])
       rw [hx,show k+(j - k)=j by omega] at this
       exact this
      by_cases hjl:j < l.length
      ·have hjl':(j:Int) < (l.length:Int):=by omega
       obtain ⟨d,hdd⟩ : ∃ d,l[j]? = some d:=⟨l[j],zyz hjl⟩
       simp only [hjl',decide_true,sS,if_true,if_false,reduceCtorEq,xF hdd,c_entailref6_part,fJ]
       have hra:=aYu hdd
       cases hld:jG d.toNat
       ·rw [hld] at hra
        simp only [sS,if_true,if_false,reduceCtorEq]
        exact done (by simpa using hra)
       ·rw [hld] at hra
        simp only [sS,if_true,if_false,reduceCtorEq]
        rw [lN (by omega) (by omega)]
        refine hr2 _ ⟨j+1,by simp,by omega,hjl,?_⟩ (by simp [gv,jP]; omega)
        simp only [if_true] at hra
        omega
      ·have hjl':¬ (j:Int) < (l.length:Int):=by omega
       simp only [hjl',decide_false,sS,if_true,if_false,reduceCtorEq]
       exact done (by rw [List.drop_eq_nil_of_le (by omega)]; rfl)
  ·have hlt':¬ (k:Int) < (l.length:Int):=by omega
   rw [b4z (l:=l) (i:=k) (by omega)] at hr0
   rw [hr0] at hT
   simp only [List.append_nil] at hT
   simp [hlt',hT,bJ]
end Go.Fbs

namespace Go.Fbs
open Go.Proofs
attribute [local irreducible] bW cC opt kQ
def aM6 (s : aY) : Bool:=match s.l[s.i]? with | some t=>decide (t.1 = 1) && (t.2.2 == [116,121,112,101]) | none=>false
def sQ:Nat→aY→List Rel→Option (aY×List Rel)
 | 0,_,_=>none
 | k+1,s,l =>
  if fC [125] s then some (aE s,l)
  else if l.length=200 then none
  else (wD s).bind fun q=>sQ k q.1 (l++[q.2])
def a62 (s:aY):Option (aY×fM) :=
 if aM6 s then (kF (aE s)).bind fun a =>
  if fC [123] (aE (aE s)) then (sQ (s.l.length+1) (aE (aE (aE s))) []).bind fun q=>some (q.1,(a,q.2))
  else some (aE (aE s),(a,[]))
 else none
def rY:Nat→aY→List fM→Option (List fM)
 | 0,_,_=>none
 | k+1,s,ts =>
  if s.i < s.l.length then
   if ts.length=200 then none
   else (a62 s).bind fun q=>rY k q.1 (ts++[q.2])
  else some ts
def hO (w:List UInt8):Option (List fM) :=
 if (cP w).2.2=0 then rY ((cP w).1.length+1) ⟨(cP w).1,0,w.length,0,[]⟩ [] else none
theorem aQi:∀ (k:Nat) (s:aY) (l:List Sub) (q:aY×List Sub),fK s→pZ k s l=some q→fK q.1∧q.1.d=s.d∧q.1.l=s.l∧s.i < q.1.i
 | 0,s,l,q,_,h=>by simp [pZ] at h
 | k+1,s,l,q,hs,h=>by
  unfold pZ at h
  split at h
  ·simp at h
  obtain ⟨⟨u,sb⟩,hsub,h4⟩:=zwz.1 h
  have gs:=aDd hs hsub
  simp only at h4 gs
  split at h4
  ·rename_i h1
   have hl:=fR h1
   have:=aQi k (aE u) _ q ⟨hl,gs.1.2⟩ h4
   have a1:q.1.d=u.d:=this.2.1
   have a2:q.1.l=u.l:=this.2.2.1
   have a3:u.i+1 < q.1.i:=this.2.2.2
   exact ⟨this.1,a1.trans gs.2.1,a2.trans gs.2.2.1,by have:=gs.2.2.2.1; omega⟩
  ·split at h4
   ·rename_i h1
    have hl:=fR h1
    simp only [zzz] at h4
    subst h4
    exact ⟨⟨hl,gs.1.2⟩,gs.2.1,gs.2.2.1,by show s.i < u.i+1; have:=gs.2.2.2.1; omega⟩
   ·simp at h4
theorem aKx {s:aY} {q:aY×Rel} (hs:fK s) (h:wD s=some q):fK q.1∧q.1.d=s.d∧q.1.l=s.l∧s.i < q.1.i:=by
 obtain ⟨a,ha,h2⟩:=zwz.1 (show (kF s).bind _=some q from h)
 have hlt:=lY ha
 split at h2
 ·rename_i h61
  have hl2:s.i+1 < s.l.length:=fR h61
  obtain ⟨r,hr,h3⟩:=zwz.1 h2
  have g:=aGx.g _ r (show fK { aE (aE s) with o:=[] } from ⟨hl2,hs.2⟩) hr
  split at h3
  ·rename_i h59
   have hl3:=fR h59
   simp only [zzz] at h3
   subst h3
   have g3:s.i+1+1 < r.i:=g.2.2.2
   exact ⟨⟨hl3,g.1.2⟩,g.2.1,g.2.2.1,by show s.i < r.i+1; omega⟩
  ·simp at h3
 ·split at h2
  ·rename_i h58
   have hl2:s.i+1 < s.l.length:=fR h58
   obtain ⟨q0,hr,h3⟩:=zwz.1 h2
   simp only [zzz] at h3
   subst h3
   have g:=aQi _ (aE (aE s)) [] q0 ⟨hl2,hs.2⟩ hr
   have g3:s.i+1+1 < q0.1.i:=g.2.2.2
   exact ⟨g.1,g.2.1,g.2.2.1,by show s.i < q0.1.i; omega⟩
  ·simp at h2
theorem aGz:∀ (k:Nat) (s:aY) (l:List Rel) (q:aY×List Rel),fK s→sQ k s l=some q→fK q.1∧q.1.d=s.d∧q.1.l=s.l∧s.i < q.1.i
 | 0,s,l,q,_,h=>by simp [sQ] at h
 | k+1,s,l,q,hs,h=>by
  unfold sQ at h
  split at h
  ·rename_i h1
   have hl:=fR h1
   simp only [zzz] at h
   subst h
   exact ⟨⟨hl,hs.2⟩,rfl,rfl,Nat.lt_succ_self _⟩
  ·split at h
   ·simp at h
   obtain ⟨u,hu,h4⟩:=zwz.1 h
   have g:=aKx hs hu
   have:=aGz k u.1 _ q g.1 h4
   exact ⟨this.1,this.2.1.trans g.2.1,this.2.2.1.trans g.2.2.1,Nat.lt_trans g.2.2.2 this.2.2.2⟩
theorem bFc (a:List UInt8) (l:List Rel):aG [aA (pY (a,[])) 0,nH l]=some (pY (a,l)):=nr rfl
theorem bFd (a:List UInt8):aG [.str a,.sl .ro []]=some (pY (a,[])):=nr rfl
theorem b8p (l:List eP) (n:Nat):aG [bJ l,.int .i64 0,vI n,.int .i64 0,.int .i64 0,.int .i64 0,.sl .ro [],.int .i64 0]=some (vR ⟨l,0,n,0,[]⟩):=nr rfl
theorem nD (b:Bool) (o:Option V):aQ (.bool b) b o=o:=by cases b <;> rfl
theorem a0z (x y:V):cH (.bool true) x y=some x:=nr rfl
theorem b1t (x y:V):cH (.bool false) x y=some y:=nr rfl
theorem bCm {s:aY} : aG [bJ s.l,vI ((s.i+1:Nat):Int),vI s.n,.int .i64 0,.int .i64 0,vI s.d,fE s.o,.int .i64 0]=some (vR (aE s)):=nr rfl
noncomputable def qA:Spec:=gV (fun w:List UInt8=>[.str w]) (fun w=>w.length≤100000∧(hO w).isSome=true) (fun w=>.aO [fT ((hO w).getD []),.int .i64 0,.int .i64 0])
theorem bCn {w:List UInt8} {ts:List fM} (h:hO w=some ts) (hw:w.length≤100000):qA [.str w]=some (.aO [fT ts,.int .i64 0,.int .i64 0]):=by
 have:=gD (c:=fun w:List UInt8=>[V.str w]) (ok:=fun w=>w.length≤100000∧(hO w).isSome=true) (r:=fun w=>.aO [fT ((hO w).getD []),.int .i64 0,.int .i64 0]) (fun a b h=>by simpa using h) (a:=w) ⟨hw,by rw [h]; rfl⟩
 rw [h] at this
 exact this
noncomputable abbrev TLP:List (FuncId×Spec):=[(oU,mJ),(bI,eX),(aI,bY),(sV,aSa),(aT,eW)]
theorem b41 (w:List UInt8) (ts:List fM) (hw:w.length≤100000) (hts:hO w=some ts):cC cM (bT TLP) 148 tN [.tmp 2,.tmp 3,.tmp 4] (cB Try.f13) [.str w] (fun r=>r=V.aO [fT ts,.int .i64 0,.int .i64 0]):=by
 have c0:∀ args,bT TLP oU args=mJ args:=fun _=>rfl
 have c1:∀ args,bT TLP bI args=eX args:=fun _=>rfl
 have c2:∀ args,bT TLP aI args=bY args:=fun _=>rfl
 have c3:∀ args,bT TLP sV args=aSa args:=fun _=>rfl
 have c4:∀ args,bT TLP aT args=eW args:=fun _=>rfl
 refine Eq.mpr (aGi (bT _) _ (.str w)) ?_
 unfold hO at hts
 split at hts
 case isFalse=>simp at hts
 rename_i he
 have hlen:=aJj w
 rw [c0,show mJ [.str w]=some (.aO [bJ (cP w).1,vI (cP w).2.1,vI (cP w).2.2]) from if_pos (by unfold mL; omega)]
 generalize (cP w).2.2=er at he ⊢
 subst he
 generalize (cP w).1=l at hts hlen ⊢
 rw [aB,x0,aB,x1,aB,x2,aB,b1h,aB,cK,if_neg (by simp),b4g,aB,bJo,aB,b8p,aB]
 generalize hs0:(⟨l,0,w.length,0,[]⟩:aY)=s0 at hts ⊢
 have h0:fK s0∧s0.d=0∧s0.l=l∧s0.o=[]:=by rw [← hs0]; exact ⟨⟨Nat.zero_le _,by show l.length≤500000; omega⟩,rfl,rfl,rfl⟩
 rw [(gK s0).1,(gK s0).2.1,(gK s0).2.2.1,(gK s0).2.2.2.1,(gK s0).2.2.2.2.1,(gK s0).2.2.2.2.2.1,(gK s0).2.2.2.2.2.2.2]
 refine jC (fun vs=>∃ (t:aY) (tl:List fM) (k:Nat),vs=[fT tl,bJ t.l,vI t.i,vI t.n,.int .i64 0,.int .i64 0,vI t.d,fE t.o,.int .i64 0]∧fK t∧t.d≤20∧t.l=l∧tl.length≤200∧rY k t tl=some ts) (fun vs=>1000000 - jP (gv vs 2))
  ⟨s0,[],_,by rw [h0.2.2.2]; rfl,h0.1,by omega,h0.2.2.1,by simp,hts⟩ ?_
 rintro r0 _ ⟨t,tl,k,rfl,hwt,hdt,htl,h200,ht⟩ hr0
 refine ⟨rfl,?_⟩
 simp only [sL,tV]
 cases k with
 | zero=>simp [rY] at ht
 | succ k =>
 unfold rY at ht
 rw [uO,aB,aR9,aB,aAd,aB,decide_eq_true (rfl:(0:Int)=0),a0z,aB,cK]
 split at ht
 case isFalse =>
  rename_i hlt
  rw [htl] at hlt
  simp only [zzz] at ht
  subst ht
  rw [if_neg (by simp only [decide_eq_true_eq]; omega),b1h,aB,cK,if_neg (by simp)]
 rename_i hlt
 rw [if_pos (by rw [← htl]; simp only [decide_eq_true_eq]; omega)]
 split at ht
 ·simp at ht
 rename_i hne
 obtain ⟨⟨u,ty⟩,hty,h4⟩:=zwz.1 ht
 simp only at h4
 unfold a62 at hty
 split at hty
 case isFalse=>simp at hty
 rename_i hword
 obtain ⟨a,ha,h5⟩:=zwz.1 hty
 have hl1:t.i+1 < t.l.length:=lY ha
 have hwl:=hwt.2
 obtain ⟨tk,htk⟩ : ∃ tk,t.l[t.i]? = some tk:=⟨_,zyz hlt⟩
 have hk:tk.1=1∧tk.2.2=[116,121,112,101]:=by
  unfold aM6 at hword
  rw [htk] at hword
  simpa using hword
 rw [aUg,aB,uO,aB,decide_eq_false (by omega)]
 refine jn (X:=[fT tl,fE t.o,bJ t.l,vI t.i,vI t.n,.int .i64 0,.int .i64 0,vI t.d,.int .i64 0]) (fun r1 h1=>by rw [zI]; exact h1) ?_
 refine ⟨rfl,?_⟩
 simp only [sL,tV]
 rw [uO,aB,decide_eq_true (rfl:(0:Int)=0),nD,← htl,aM2 htk,aB,nD,pT0,aB,nD,hk.1,b1h,aB,nD,aB]
 rw [show (!decide ((1:Int)=1))=false by decide,ckB,aB,nD,aB,nD,pT2,aB,nD,hk.2]
 rw [show aD .neq (.str [116,121,112,101]) (.str [116,121,112,101])=some (.bool false) by kernel_rfl,aB,nD,b1t,aB,a0z,aB]
 refine jn (X:=[fT tl,fE t.o,bJ t.l,vI t.i,vI t.n,.int .i64 0,.int .i64 0,vI t.d,.int .i64 0]) (fun r1 h1=>by rw [zI]; exact h1) ?_
 refine ⟨rfl,?_⟩
 simp only [sL,tV]
 rw [b1o (by omega),aB,bCm,aB,c1,a8d ha (by show t.i+1 < 1000000; omega),aB,x0,aB,x1,aB,nC,aB,aKw,aB,bFd,aB,e0R,aB,yJ]
 rw [oQ,aB,c2,a29,aB,x0,aB,x1,aB,nC,aB]
 have hu:fK u∧u.d=t.d∧u.l=t.l∧t.i < u.i∧ty.1=a:=by
  split at h5
  ·rename_i h123
   have hl2:t.i+1+1 < t.l.length:=fR h123
   obtain ⟨q,hq,h6⟩:=zwz.1 h5
   simp only [zzz,zvy] at h6
   obtain ⟨rfl,rfl⟩:=h6
   have g:=aGz _ (aE (aE (aE t))) [] q ⟨hl2,hwt.2⟩ hq
   have g3:t.i+1+1+1 < q.1.i:=g.2.2.2
   exact ⟨g.1,g.2.1,g.2.2.1,by omega,rfl⟩
  ·simp only [zzz,zvy] at h5
   obtain ⟨rfl,rfl⟩:=h5
   exact ⟨⟨hl1,hwt.2⟩,rfl,rfl,by show t.i < t.i+1+1; omega,rfl⟩
 refine jn (X:=[fT tl,fE u.o,bJ u.l,vI u.i,vI u.n,.int .i64 0,.int .i64 0,vI u.d,.int .i64 0,nH ty.2]) ?_ ?_
 ·intro r1 h1
  rw [cK]
  by_cases h123:fC [123] (aE (aE t))=true
  ·rw [if_pos h123] at h5
   rw [if_pos h123]
   have hl2:t.i+1+1 < t.l.length:=fR h123
   obtain ⟨q,hq,h6⟩:=zwz.1 h5
   simp only [zzz,zvy] at h6
   obtain ⟨rfl,rfl⟩:=h6
   rw [a61 (s:=aE (aE t)) (by show t.i+1+1 < 1000000; omega),aB]
   refine jC (fun vs=>∃ (v:aY) (rl:List Rel) (k:Nat),vs=[fE v.o,fT tl,bJ v.l,vI v.i,vI v.n,.int .i64 0,.int .i64 0,vI v.d,.int .i64 0,nH rl]∧fK v∧v.d≤20∧rl.length≤200∧sQ k v rl=some q) (fun vs=>1000000 - jP (gv vs 3))
    ⟨aE (aE (aE t)),[],_,rfl,⟨hl2,hwt.2⟩,hdt,by simp,hq⟩ ?_
   rintro r2 _ ⟨v,rl,k2,rfl,hwv,hdv,hrl,hv⟩ hr2
   refine ⟨rfl,?_⟩
   simp only [sL,tV]
   cases k2 with
   | zero=>simp [sQ] at hv
   | succ k2 =>
   unfold sQ at hv
   have hv2:=hwv.2
   rw [uO,aB,cK,if_pos (by simp),aO0,aB,c2,a29,aB,x0,aB,x1,aB,nC,aB,aCl,aB,cK]
   by_cases h125:fC [125] v=true
   ·rw [if_pos h125] at hv
    rw [h125,if_neg (by simp)]
    have hl3:=fR h125
    simp only [zzz] at hv
    subst hv
    rw [oQ,aB,c4,aBj h125 (by omega),aB,yS,aB,x0,aB,nC,aB]
    exact h1
   ·rw [if_neg h125] at hv
    have h125':fC [125] v=false:=by simpa using h125
    rw [h125',if_pos (by simp)]
    split at hv
    ·simp at hv
    rename_i hn2
    obtain ⟨⟨x,rel⟩,hrel,h7⟩:=zwz.1 hv
    simp only at h7
    have gr:=aKx hwv hrel
    rw [b4l,aB,uO,aB,decide_eq_false (by omega)]
    refine jn (X:=[fT tl,fE v.o,nH rl,bJ v.l,vI v.i,vI v.n,.int .i64 0,.int .i64 0,vI v.d,.int .i64 0]) (fun r3 h3=>by rw [zI]; exact h3) ?_
    refine ⟨rfl,?_⟩
    simp only [sL,tV]
    rw [uO,aB,cK,if_pos (by simp),aO0,aB,c3,bJv hrel hwv hdv,aB,x0,aB,x1,aB,nC,aB,bEq,aB,bEn (by omega),aB]
    have gi:v.i < x.i:=gr.2.2.2
    have gd:x.d=v.d:=gr.2.1
    have gw:x.i≤x.l.length:=gr.1.1
    have gw2:x.l.length≤500000:=gr.1.2
    refine hr2 _ ⟨x,rl++[rel],k2,rfl,gr.1,by omega,by simp; omega,h7⟩ ?_
    show 1000000 - x.i < 1000000 - v.i
    omega
  ·rw [if_neg h123] at h5
   rw [if_neg h123]
   simp only [zzz,zvy] at h5
   obtain ⟨rfl,rfl⟩:=h5
   exact h1
 ·refine ⟨rfl,?_⟩
  simp only [sL,tV]
  rw [bFc,aB,show ((a,ty.2):fM)=ty by rw [← hu.2.2.2.2],bEr,aB,bEo (by omega),aB]
  have gi:t.i < u.i:=hu.2.2.2.1
  have gw:u.i≤u.l.length:=hu.1.1
  have gw2:u.l.length≤500000:=hu.1.2
  refine hr0 _ ⟨u,tl++[ty],k,rfl,hu.1,by rw [hu.2.1]; exact hdt,hu.2.2.1.trans htl,by simp; omega,h4⟩ ?_
  show 1000000 - u.i < 1000000 - t.i
  omega
theorem aE5:fS Try.prog n9 qA:=by
 refine aE0 (T:=TLP) (aM.cons a3c (aM.kU mT (aM.kU gJ (aM.kU bFb (aM.kU mS aM.nil))))) fun args v hv=>?_
 obtain ⟨w,rfl,⟨hw,hsome⟩,rfl⟩:=eO hv
 obtain ⟨ts,hts⟩:=Option.isSome_iff_exists.1 hsome
 rw [hts,Option.getD_some]
 exact ⟨rfl,by simp [aL,V.bU],by simp [aL,a6y,V.bU],b41 w ts hw hts⟩
noncomputable def tO:Spec:=gV (fun w:List UInt8=>[.str w]) (fun w=>w.length≤100000∧(hO w).isSome=true) (fun w=>fT ((hO w).getD []))
theorem aYv {w:List UInt8} {ts:List fM} (h:hO w=some ts) (hw:w.length≤100000):tO [.str w]=some (fT ts):=by
 have:=gD (c:=fun w:List UInt8=>[V.str w]) (ok:=fun w=>w.length≤100000∧(hO w).isSome=true) (r:=fun w=>fT ((hO w).getD [])) (fun a b h=>by simpa using h) (a:=w) ⟨hw,by rw [h]; rfl⟩
 rw [h] at this
 exact this
theorem aE6:fS Try.prog n5 tO:=by
 refine aEy (T:=[(n9,qA)]) (aM.cons aE5 aM.nil) fun args v hv=>?_
 have c0:∀ args,bT [(n9,qA)] n9 args=qA args:=fun _=>rfl
 obtain ⟨w,rfl,⟨hw,hsome⟩,rfl⟩:=eO hv
 obtain ⟨ts,hts⟩:=Option.isSome_iff_exists.1 hsome
 rw [hts,Option.getD_some]
 refine ⟨rfl,by simp [aL,V.bU],a6y _,?_⟩
 refine Eq.mpr (aGf (bT _) _ (.str w)) ?_
 rw [c0,bCn hts hw,aB,x0,aB,x1,aB,x2,aB]
end Go.Fbs
