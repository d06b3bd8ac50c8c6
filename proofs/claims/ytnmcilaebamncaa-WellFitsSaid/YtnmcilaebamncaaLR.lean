/- WellFits: the law but for its run. -/
import Derived.Test.YtnmcilaebamncaaLQ
set_option linter.unusedVariables false
set_option linter.unusedSimpArgs false
set_option linter.unusedSectionVars false
set_option maxRecDepth 100000
namespace Go.Fbs
open Go.Proofs
attribute [local irreducible] cN bX opt
theorem aI7 {α : Type} {p : α → Bool} {l : List α} {k : Nat} {c : α} (h : l[k]? = some c) : (l.take (k + 1)).any p = ((l.take k).any p || p c):=by
 rw [List.take_add_one,h,List.any_append]; simp
theorem aMx {α:Type} {p:α→Bool} {l:List α} {k:Nat} (h:l.length≤k):(l.take k).any p=l.any p:=by
 rw [List.take_of_length_le h]
theorem aTt (a b:Nat):aB .lss (vI (a:Nat)) (vI (b:Nat))=some (.bool (decide (a < b))):=by
 rw [a5z]
 have:decide ((a:Int) < b)=decide (a < b):=by rw [decide_eq_decide]; omega
 rw [this]
theorem addNat {a:Nat} (h:a≤4611686018427387904):aB .add (vI (a:Nat)) (.int .i64 1)=some (vI ((a+1:Nat):Int)):=by
 rw [aEc,iR (by omega) (by omega)]; rfl
theorem bDe (a b:Bool):aAj false (.bool a) (.bool b)=some (.bool (a == b)):=by cases a <;> cases b <;> rfl
theorem bFl (t:j0):qL false 1 0 (mB t)=some (.str t.1):=nr rfl
theorem b2z (b:Bool) (o:Option V):aK .undef b o=some .undef:=nr rfl
theorem bAg {x:kA} (h:x.ok=true):x.short∧x.b.length≤250:=by
 have h2:=b96 (show okT x.a x.b x.c x.d x.e x.f=true from h)
 refine ⟨?_,h2.2.1⟩
 unfold kA.short wZ big
 omega
theorem b6d (x:kA):({ x with b:=x.b++[58] } : kA).ok=false:=by
 have:yH (x.b++[58])=false:=by
  unfold yH
  rw [List.all_append]
  have:([58]:List UInt8).all (fun c=>idB c.toNat)=false:=by decide
  rw [this,Bool.and_false,Bool.and_false]
 unfold kA.ok okT
 simp [this]
noncomputable def aBw:Spec
 | []=>some (.bool true)
 | _=>none
noncomputable abbrev TWf:List (FuncId×Spec):=[(oZ,sD),(nO,rL),(p6,p8),(rQ,a2r),(rH,rM),(nP,aBw)]
theorem aUx (l:List Int) (n:Int):bX bO (bL TWf) 116 nZ [.tmp 4] (cB Try.f3) [hU l,vI n] (fun r=>r = .bool true):=by
 have c1:∀ args,bL TWf oZ args=sD args:=fun _=>rfl
 have c2:∀ args,bL TWf nO args=rL args:=fun _=>rfl
 have c3:∀ args,bL TWf p6 args=p8 args:=fun _=>rfl
 have c4:∀ args,bL TWf rQ args=a2r args:=fun _=>rfl
 have c5:∀ args,bL TWf rH args=rM args:=fun _=>rfl
 have c6:bL TWf nP []=some (.bool true):=rfl
 refine Eq.mpr (a88 (bL _) _ (hU l) (vI n)) ?_
 obtain ⟨t1,t2,t3,hts,n1,m1,n2,m2,n3,m3⟩:=aZy l
 have hsub:=aZ5 hts
 have hlen:(a07 l).length≤100000:=by have:=aK9 l 2; unfold a07; omega
 have hr2:t2.2.length=4:=by rw [← List.length_map (f:=(·.1)),m2]; rfl
 have hr3:t3.2.length=4:=by rw [← List.length_map (f:=(·.1)),m3]; rfl
 have hsm:aFg [t1,t2,t3]:=by
  refine ⟨by simp [big],fun t ht=>⟨?_,fun r hr=>by have:=hsub t ht r hr; unfold big; omega⟩⟩
  simp only [List.mem_cons,List.not_mem_nil,or_false] at ht
  rcases ht with rfl | rfl | rfl
  ·rw [m1]; simp [big]
  ·rw [hr2]; simp [big]
  ·rw [hr3]; simp [big]
 have hnd1:(([t1,t2,t3]:List j0).map (·.1)).Nodup:=by
  simp only [List.map_cons,List.map_nil,n1,n2,n3]; decide
 have hnd2:∀ t ∈ ([t1,t2,t3]:List j0),(t.2.map (·.1)).Nodup:=by
  intro t ht
  simp only [List.mem_cons,List.not_mem_nil,or_false] at ht
  rcases ht with rfl | rfl | rfl
  ·rw [m1]; simp
  ·rw [m2]; decide
  ·rw [m3]; decide
 have hok:=b6a n
 have h3:([t1,t2,t3]:List j0).length=3:=rfl
 rw [c1,bE5,aA,c2,b95 hts hlen,aA,c3,show p8 [vI n]=some (vP n).v from rfl,aA,aGo,aA,aS1,aA]
 generalize ([t1,t2,t3]:List j0)=ts at *
 generalize vP n=x at *
 obtain ⟨hsx,hb⟩:=bAg hok
 have hwant:=b2y hok hnd1 hnd2
 rw [aSe,aA,bY,if_neg (by simp [h3])]
 refine fK (fun vs=>∃ i:Nat,vs=[.bool ((ts.take i).any (yR x)),vI i]∧i≤ts.length) (fun vs=>ts.length - fN (gv vs 1)) ⟨0,rfl,Nat.zero_le _⟩ ?_
 rintro r0 _ ⟨i,rfl,hi⟩ hr0
 refine ⟨rfl,?_⟩
 simp only [lY,n9]
 rw [aA,aTt,aA,bY]
 by_cases hlt:i < ts.length
 ·rw [if_pos (by simpa using hlt)]
  obtain ⟨t,ht⟩ : ∃ t,ts[i]? = some t:=⟨_,zyz hlt⟩
  have htm : t ∈ ts:=zyx ht
  have hbt:=hsm.2 t htm
  refine fK (fun vs=>∃ k:Nat,vs=[.bool ((ts.take i).any (yR x) || (t.2.take k).any (aLq x t)),vI k]∧k≤t.2.length) (fun vs=>t.2.length - fN (gv vs 1)) ⟨0,by simp,Nat.zero_le _⟩ ?_
  rintro r1 _ ⟨k,rfl,hk⟩ hr1
  refine ⟨rfl,?_⟩
  simp only [lY,n9]
  rw [aZ2 ht,aA,show a7 (mB t) 1=lJ t.2 from rfl,aS0,aA,aTt,aA,bY]
  have hbk:=hbt.1
  unfold big at hbk
  by_cases hlk:k < t.2.length
  ·rw [if_pos (by simpa using hlk)]
   obtain ⟨r,hr⟩ : ∃ r,t.2[k]? = some r:=⟨_,zyz hlk⟩
   have hrm : r ∈ t.2:=zyx hr
   have hbr:=hsub t htm r hrm
   rw [aA,show a7 (mB t) 1=lJ t.2 from rfl,aZ1 hr,aA]
   generalize hb0:((ts.take i).any (yR x) || (t.2.take k).any (aLq x t))=b0
   refine fK (fun vs=>∃ j:Nat,vs=[.bool (b0 || (r.2.1.take j).any (a7j x t r)),vI j]∧j≤r.2.1.length) (fun vs=>r.2.1.length - fN (gv vs 1)) ⟨0,by simp,Nat.zero_le _⟩ ?_
   rintro r2 _ ⟨j,rfl,hj⟩ hr2
   refine ⟨rfl,?_⟩
   simp only [lY,n9]
   rw [show a7 (kF r) 1=l6 r.2.1 from rfl,aSz,aA,aTt,aA,bY]
   by_cases hlj:j < r.2.1.length
   ·rw [if_pos (by simpa using hlj)]
    obtain ⟨s,hs⟩ : ∃ s,r.2.1[j]? = some s:=⟨_,zyz hlj⟩
    rw [ckB,aA]
    have next:r2 [.bool ((b0 || (r.2.1.take j).any (a7j x t r)) || a7j x t r s),vI ((j+1:Nat):Int)]:=by
     refine hr2 _ ⟨j+1,?_,hlj⟩ (by simp only [lY,n9,fN]; omega)
     rw [aI7 hs,Bool.or_assoc]
    cases hw:(b0 || (r.2.1.take j).any (a7j x t r)) with
    | true =>
     rw [hw,Bool.true_or] at next
     rw [xM,aA,xM,aA,xM,aA,xM,aA]
     rw [show iT .undef=some .undef from rfl,aA,show a7 (kF r) 0 = .str r.1 from rfl,(aZ3 x).2.2.1,aTp,aA,xM,aA,xM,aA,show iT .undef=some .undef from rfl,aA,b2z,aA,aFh,aA,b2z,aA,xM,aA,a2p,aA,addNat (by omega),aA]
     exact next
    | false =>
     rw [hw,Bool.false_or] at next
     rw [gI,aA,gI,bFl,aA,gI,(aZ3 x).1,aTp,aA,gI,aA,ckB,aA,show a7 (kF r) 0 = .str r.1 from rfl,(aZ3 x).2.2.1,aTp,aA,gI]
     rw [show aZ (.bool (decide (t.1=x.a))) (.bool (decide (r.1=x.c))) (.bool false)=some (.bool (decide (t.1=x.a) && decide (r.1=x.c))) by cases decide (t.1=x.a) <;> rfl]
     rw [aA,gI,aA,ckB,aA]
     unfold a7j at next
     cases hc:(decide (t.1=x.a) && decide (r.1=x.c)) with
     | true =>
      rw [hc,Bool.true_and] at next
      rw [gI,b7k hs,aA,aFh,aA,gI,b7j,aA,gI,a2p,aA,aGh,aA,addNat (by omega),aA,Bool.bne_false]
      exact next
     | false =>
      rw [hc,Bool.false_and] at next
      rw [a19,aA,aFh,aA,a19,aA,gI,aGh,aA,aGh,aA,addNat (by omega),aA]
      exact next
   ·rw [if_neg (by simpa using hlj),addNat (by omega),aA]
    refine hr1 _ ⟨k+1,?_,hlk⟩ (by simp only [lY,n9,fN]; omega)
    rw [aI7 hr,aMx (l:=r.2.1) (by omega),← hb0,Bool.or_assoc]
    rfl
  ·rw [if_neg (by simpa using hlk),addNat (by have:=hsm.1; unfold big at this; omega),aA]
   refine hr0 _ ⟨i+1,?_,hlt⟩ (by simp only [lY,n9,fN]; omega)
   rw [aI7 ht,aMx (l:=t.2) (by omega)]
   rfl
 ·rw [if_neg (by simpa using hlt),aMx (by omega)]
  have hsx2:({ x with b:=x.b++[58] } : kA).short:=by
   have:=hsx
   unfold kA.short wZ big at this ⊢
   simp only [zwy,List.length_singleton]
   omega
  have f1:a2q ts { x with b:=x.b++[58] } = false:=by unfold a2q; rw [b6d,Bool.false_and]
  have f2:a2q [] x=false:=by unfold a2q; simp
  have hs0:aFg []:=⟨by simp [big],fun t ht=>by simp at ht⟩
  rw [(aZ3 x).2.1,bS (by simp only [List.length_singleton]; omega),aA,c4,aZ4 hsm hsx,aA,bDe,aA,hwant]
  rw [show (aPg ts x == ts.any (yR x))=true by unfold aPg; simp]
  rw [show aI [a7 x.v 0,.str (x.b++[58]),a7 x.v 2,a7 x.v 3,a7 x.v 4,a7 x.v 5]=some ({ x with b:=x.b++[58] } : kA).v from rfl,aA,gI,c4,aZ4 hsm hsx2,f1,aA,gI,a5y,aA,a2p,aA]
  rw [show aI [a7 x.v 0,.str x.b,a7 x.v 2,a7 x.v 3,a7 x.v 4,a7 x.v 5]=some x.v from rfl,aA,Bool.not_false,gI,c4,show (.sl .ro []:V)=iU [] from rfl,aZ4 hs0 hsx,f2,aA,gI,a5y,aA,a2p,aA,aA,Bool.not_false,gI,c5,bDd hsx,hok,aA,a2p,aA,ckB,aA,gI,c6,aA,a2p,aA]
noncomputable def oI:Spec:=iA (fun q:List Int×Int=>[hU q.1,vI q.2]) (fun _=>True) (fun _=>.bool true)
theorem b20 (l:List Int) (n:Int):oI [hU l,vI n]=some (.bool true):=gV (a:=(l,n)) (fun a b h=>by
 simp only [List.cons.injEq,and_true,V.int.injEq,true_and] at h
 exact Prod.ext (aEt h.1) h.2) trivial
theorem a6h (h:dD Try.prog nP aBw):dD Try.prog sX oI:=by
 refine a8b (T:=TWf) (aL.cons aEx (aL.cons aCv (aL.cons aFd (aL.cons aTq (aL.cons aI3 (aL.cons h aL.nil)))))) fun args v hv=>?_
 obtain ⟨⟨l,n⟩,rfl,_,rfl⟩:=eR hv
 exact ⟨rfl,by simp [aO,a41,V.bP],rfl,aUx l n⟩
end Go.Fbs
