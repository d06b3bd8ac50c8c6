/- The document's tokens: told. -/
import Derived.Test.YtnmcilaebamncaaLJ
set_option linter.unusedVariables false
set_option linter.unusedSimpArgs false
set_option linter.unusedSectionVars false
set_option maxRecDepth 100000
namespace Go.Fbs
open Go.Proofs
def a09 (l:List UInt8) (c:Int) (k:Nat):Int :=
 match (l.drop k).findIdx? (fun b=>decide ((b.toNat : Int) = c)) with
 | some j=>k+j
 | none=>-1
theorem b2h {l:List UInt8} {c:Int} {k:Nat} (h:l.length≤k):a09 l c k = -1:=by
 unfold a09; rw [List.drop_eq_nil_of_le h]; rfl
theorem b54 {l : List UInt8} {c : Int} {k : Nat} {b : UInt8} (h : l[k]? = some b) : a09 l c k = if (b.toNat : Int) = c then (k : Int) else a09 l c (k + 1):=by
 have hk:k < l.length:=(zzy.1 h).1
 have hb:l[k]=b:=(zzy.1 h).2
 unfold a09
 rw [List.drop_eq_getElem_cons hk,hb,List.findIdx?_cons]
 by_cases hc:(b.toNat:Int)=c
 ·simp [hc]
 ·simp only [hc,decide_false,Bool.false_eq_true,if_false]
  cases (l.drop (k + 1)).findIdx? (fun b=>decide ((b.toNat : Int) = c)) with
  | none=>rfl
  | some j=>simp; omega
def j6:Spec
 | [.str l,.int .u8 c,.int .i64 k]=>if l.length≤big∧0≤k∧k≤big then some (vI (a09 l c k.toNat)) else none
 | _=>none
theorem aE3:dD Try.prog kJ j6:=by
 refine aEr (T:=[]) (aL.nil) fun args v hv=>?_
 unfold j6 at hv
 split at hv <;> (try simp only [Option.ite_none_right_eq_some,zzz,reduceCtorEq] at hv)
 rename_i l c k
 obtain ⟨⟨hl,hk,hk'⟩,rfl⟩:=hv
 unfold big at hl hk'
 obtain ⟨k,rfl⟩:∃ n:Nat,k=n:=⟨k.toNat,by omega⟩
 simp only [Int.toNat_natCast]
 refine ⟨rfl,rfl,rfl,?_⟩
 rw [aGy]
 simp only [sS,if_true,if_false,reduceCtorEq]
 refine fK (fun vs=>∃ j:Nat,vs=[vI j]∧a09 l c j=a09 l c k∧j≤4611686018427387904) (fun vs=>l.length - fN (gv vs 0)) ⟨k,rfl,rfl,by omega⟩ ?_
 rintro r _ ⟨j,rfl,hj,hjb⟩ hr
 refine ⟨rfl,?_⟩
 simp only [sS,if_true,if_false,reduceCtorEq]
 by_cases hlt:j < l.length
 ·obtain ⟨b,hb⟩ : ∃ b,l[j]? = some b:=⟨l[j],zyz hlt⟩
  have hlt':(j:Int) < (l.length:Int):=by omega
  rw [b54 hb] at hj
  simp only [hlt',decide_true,sS,if_true,if_false,reduceCtorEq,pV hb]
  by_cases hc:(b.toNat:Int)=c
  ·rw [if_pos hc] at hj
   simp [hc,hj]
  ·rw [if_neg hc] at hj
   simp only [hc,decide_false,sS,if_true,if_false,reduceCtorEq]
   rw [iR (by omega) (by omega)]
   exact hr _ ⟨j+1,by simp,hj,by omega⟩ (by simp [gv,fN]; omega)
 ·have hlt':¬ (j:Int) < (l.length:Int):=by omega
  rw [b2h (by omega)] at hj
  simp [sS,if_true,if_false,reduceCtorEq,hlt',hj]
def l7 (l:List UInt8) (i:Nat):List iH×Option Nat:=qO (l.length - i) (i+dR false (l.drop i)) (l.drop (i+dR false (l.drop i)))
theorem aBm (l:List UInt8) (i f:Nat) (h:l.length - i≤f):qO f (i+dR false (l.drop i)) (l.drop (i+dR false (l.drop i)))=l7 l i:=by
 unfold l7
 rw [zW f _ _ (by simp only [List.length_drop]; omega),zW (l.length - i) _ _ (by simp only [List.length_drop]; omega)]
theorem b2i (l:List UInt8):qO l.length (dR false l) (l.drop (dR false l))=l7 l 0:=by
 have:=aBm l 0 l.length (by omega)
 simpa using this
theorem aBn {l:List UInt8} {i k:Nat} (hi:i≤k) (h:dR false (l.drop i)=(k - i)+dR false (l.drop k)):l7 l i=l7 l k:=by
 have e:i+dR false (l.drop i)=k+dR false (l.drop k):=by omega
 have:=aBm l k (l.length - i) (by omega)
 rw [← this]
 unfold l7
 rw [e]
theorem b2j {l:List UInt8} {i:Nat} {c:UInt8} {t:List UInt8} (hd:l.drop i=c::t) (h0:dR false (c::t)=0) :
  l7 l i=if (eW (c::t)).2.2=false then ([],some i) else (((eW (c::t)).1,i,(eW (c::t)).2.1)::(l7 l (i+(eW (c::t)).2.1.length)).1,(l7 l (i+(eW (c::t)).2.1.length)).2):=by
 have hl:i < l.length:=by
  have:=congrArg List.length hd; simp only [List.length_drop,zwx] at this; omega
 have e1:l7 l i=qO (l.length - i) i (c::t):=by
  unfold l7; rw [hd,h0,Nat.add_zero,hd]
 rw [e1]
 obtain ⟨g,hg⟩:∃ g,l.length - i=g+1:=⟨l.length - i - 1,by omega⟩
 rw [hg]
 simp only [qO]
 split
 ·rfl
 ·have hn:=(a3e (l:=c::t) (by simp)).1
  generalize hnn:(eW (c::t)).2.1.length=n at *
  have e2:∀ j,(c::t).drop j=l.drop (i+j):=fun j=>by rw [← hd,List.drop_drop]
  rw [e2 n,List.drop_drop]
  rw [aBm l (i+n) g (by omega)]
theorem b2k {l:List UInt8} {i:Nat} (h:l.length≤i):l7 l i=([],none):=by
 unfold l7
 rw [show l.drop (i+dR false (l.drop i))=[] from List.drop_eq_nil_of_le (by omega)]
 cases l.length - i <;> rfl
theorem aTh {l:List UInt8} (h:¬ 100000 < l.length):kU l=match (l7 l 0).2 with | some k=>([],k,7) | none=>((l7 l 0).1,0,0):=by
 unfold kU
 rw [if_neg h,b2i]
 rfl
theorem aTi:∀ (f k:Nat) (l:List UInt8),(qO f k l).1.length≤f
 | 0,k,l=>by simp [qO]
 | f+1,k,[]=>by simp [qO]
 | f+1,k,c::l=>by
  simp only [qO]
  split
  ·simp
  ·have:=aTi f (k+(eW (c::l)).2.1.length+dR false ((c::l).drop (eW (c::l)).2.1.length)) (((c::l).drop (eW (c::l)).2.1.length).drop (dR false ((c::l).drop (eW (c::l)).2.1.length)))
   simp only [zwx]; omega
theorem aUw (l:List UInt8):(kU l).1.length≤l.length:=by
 unfold kU
 split
 ·simp
 ·have:=aTi l.length (dR false l) (l.drop (dR false l))
  simp only
  split
  ·simp
  ·exact this
theorem aZw {c:UInt8} {t:List UInt8} (h:jK c.toNat=true):sW (c::t)=1+sW t:=by
 simp [sW,List.takeWhile_cons,h]; omega
theorem aHm {c:UInt8} {t:List UInt8} (h:jK c.toNat=false):sW (c::t)=0:=by
 simp [sW,List.takeWhile_cons,h]
theorem aWk {l : List UInt8} {k : Nat} {c : UInt8} (h : l[k]? = some c) : sW (l.drop k) = if jK c.toNat then 1 + sW (l.drop (k + 1)) else 0:=by
 have hk:k < l.length:=(zzy.1 h).1
 rw [List.drop_eq_getElem_cons hk,(zzy.1 h).2]
 split
 ·rename_i hc; exact aZw hc
 ·rename_i hc; exact aHm (by simpa using hc)
theorem b2l {l:List UInt8} {c:UInt8} : decide (a09 l c.toNat 0 < 0)=decide (c ∉ l):=by
 unfold a09
 simp only [List.drop_zero]
 cases h : l.findIdx? (fun b=>decide ((b.toNat : Int) = c.toNat)) with
 | none =>
  rw [List.findIdx?_eq_none_iff] at h
  have:c ∉ l:=fun hc=>by have:=h c hc; simp at this
  simp [this]
 | some j =>
  have:c ∈ l:=by
   obtain ⟨hj,h1,_⟩:=List.findIdx?_eq_some_iff_getElem.1 h
   simp only [decide_eq_true_eq] at h1
   have:l[j]=c:=UInt8.toNat_inj.1 (by omega)
   rw [← this]; exact List.getElem_mem hj
  simp [this]
def mW:Spec
 | [.str l]=>if l.length≤big then some (.aM [cQ (kU l).1,vI (kU l).2.1,vI (kU l).2.2]) else none
 | _=>none
theorem aBo:dD Try.prog mT mW:=by
 refine aA3 (T:=[(eU,eV),(kJ,j6)]) (aL.cons a3n (aL.cons aE3 aL.nil)) fun args v hv=>?_
 have c_entailref6_part:∀ args,bL [(eU,eV),(kJ,j6)] eU args=eV args:=fun _=>rfl
 have c_entailref1_Find:∀ args,bL [(eU,eV),(kJ,j6)] kJ args=j6 args:=fun _=>rfl
 unfold mW at hv
 split at hv <;> (try simp only [Option.ite_none_right_eq_some,zzz,reduceCtorEq] at hv)
 rename_i l
 obtain ⟨hl,rfl⟩:=hv
 have hl0:=hl
 unfold big at hl
 refine ⟨rfl,rfl,by simp [V.bP,aO,aHi],?_⟩
 rw [aCr]
 simp only [sS,if_true,if_false,reduceCtorEq]
 by_cases hbig:100000 < l.length
 ·have hb':(100000:Int) < (l.length:Int):=by omega
  simp [hb',kU,hbig,cQ]
 ·have hb':¬ (100000:Int) < (l.length:Int):=by omega
  have hT:=aTh hbig
  simp only [hb',decide_false,sS,if_true,if_false,reduceCtorEq]
  refine fK (fun vs=>∃ (k:Nat) (dn:List iH),vs=[.sl .ro (dn.map uP),vI k]∧k≤l.length∧dn.length≤k ∧
   l7 l 0=(dn++(l7 l k).1,(l7 l k).2)) (fun vs=>l.length - fN (gv vs 1)) ⟨0,[],rfl,Nat.zero_le _,zxy _,by simp⟩ ?_
  rintro r _ ⟨k,dn,rfl,hk,hdn,hr0⟩ hr
  refine ⟨rfl,?_⟩
  simp only [sS,if_true,if_false,reduceCtorEq]
  by_cases hlt:k < l.length
  ·have hlt':(k:Int) < (l.length:Int):=by omega
   obtain ⟨c,hc⟩ : ∃ c,l[k]? = some c:=⟨l[k],zyz hlt⟩
   obtain ⟨t,hd⟩:∃ t,l.drop k=c::t:=⟨l.drop (k+1),by rw [List.drop_eq_getElem_cons hlt,(zzy.1 hc).2]⟩
   have htd:l.drop (k+1)=t:=by rw [← List.drop_drop,hd]; rfl
   have hk1:IntKind.i64.wrap ((k:Int)+1)=((k+1:Nat):Int):=by rw [iR (by omega) (by omega)]; omega
   simp only [hlt',decide_true,sS,if_true,if_false,reduceCtorEq,pV hc,hk1]
   refine b1z (fun w=>∃ (kind:Int) (j:Nat),w=[vI kind,vI j,.sl .ro (dn.map uP)]∧k < j∧j≤l.length∧(0 < kind→l7 l 0=(dn++(kind,k,(l.take j).drop k)::(l7 l j).1,(l7 l j).2))∧(¬ 0 < kind→l7 l k=l7 l j)) ?_ ?_
   ·rintro _ ⟨kind,j,rfl,hkj,hj,h1,h2⟩
    refine ⟨rfl,?_⟩
    simp only [sS,if_true,if_false,reduceCtorEq]
    by_cases hpos:0 < kind
    ·simp only [hpos,decide_true,aUg hj (Nat.le_of_lt hkj),sS,if_true,if_false,reduceCtorEq]
     rw [bEi (by simp [sc])]
     simp only [sS,if_true,if_false,reduceCtorEq]
     rw [bEj (by simp) (by simp [V.cells,V.fZ])]
     simp only [sS,if_true,if_false,reduceCtorEq]
     rw [aKz (n:=3) (b:=32) (by simp; omega) (aUr (f:=uP) fun a=>rfl) (by simp [V.cells])]
     simp only [sS,if_true,if_false,reduceCtorEq]
     exact hr _ ⟨j,dn++[(kind,k,(l.take j).drop k)],by simp [uP,b5p],hj,by simp; omega,by rw [h1 hpos]; simp⟩ (by simp [gv,fN]; omega)
    ·simp only [hpos,decide_false,sS,if_true,if_false,reduceCtorEq]
     exact hr _ ⟨j,dn,rfl,hj,by omega,by rw [hr0,h2 hpos]⟩ (by simp [gv,fN]; omega)
   ·intro r1 hr1
    have none_:∀ j:Nat,k < j→j≤l.length→l7 l k=l7 l j→r1 [vI 0,vI j,.sl .ro (dn.map uP)]:=fun j h1 h2 h3=>hr1 _ ⟨0,j,rfl,h1,h2,fun h=>absurd h (by omega),fun _=>h3⟩
    have blank:wO c=true→r1 [vI 0,vI (k+1:Nat),.sl .ro (dn.map uP)]:=fun hb=>none_ (k+1) (by omega) (by omega) (aBn (by omega) (by rw [hd,htd,aHl hb]; omega))
    by_cases b1:c=32
    ·subst b1; simp [sS,if_true,if_false,reduceCtorEq]; exact blank rfl
    by_cases b2:c=9
    ·subst b2; simp [sS,if_true,if_false,reduceCtorEq]; exact blank rfl
    by_cases b3:c=10
    ·subst b3; simp [sS,if_true,if_false,reduceCtorEq]; exact blank rfl
    by_cases b4:c=13
    ·subst b4; simp [sS,if_true,if_false,reduceCtorEq]; exact blank rfl
    have ne:∀ n:UInt8,c≠n→¬ ((c.toNat:Int)=(n.toNat:Int)):=fun n hn h=>hn (UInt8.toNat_inj.1 (by omega))
    have e1:¬ ((c.toNat:Int)=32):=ne 32 b1
    have e2:¬ ((c.toNat:Int)=9):=ne 9 b2
    have e3:¬ ((c.toNat:Int)=10):=ne 10 b3
    have e4:¬ ((c.toNat:Int)=13):=ne 13 b4
    have hnb:wO c=false:=by simp [wO,b1,b2,b3,b4]
    simp only [e1,e2,e3,e4,decide_false,sS,if_true,if_false,reduceCtorEq]
    have hnx : l[k + 1]? = t.head?:=by rw [← htd,List.head?_drop]
    have two:∀ (n m:UInt8) (X Y:Prop),(opt (aK (V.bool (decide ((c.toNat:Int)=(n.toNat:Int)) && decide (((k+1:Nat):Int) < (l.length:Int)))) true (gD (V.str l) (V.int .i64 ((k+1:Nat):Int)))) fun y20 =>
      opt (aK (V.bool (decide ((c.toNat : Int) = (n.toNat : Int)) && decide (((k + 1 : Nat) : Int) < (l.length : Int)))) true (aB .eql y20 (V.int .u8 (m.toNat : Int)))) fun y21=>bG (if (decide ((c.toNat : Int) = (n.toNat : Int)) && decide (((k + 1 : Nat) : Int) < (l.length : Int))) = true then y21 else V.bool false) X Y) = bG (.bool (decide (c = n ∧ t.head? = some m))) X Y:=by
     intro n m X Y
     by_cases h1:c=n
     ·subst h1
      by_cases h2:k+1 < l.length
      ·obtain ⟨d,hdd⟩ : ∃ d,l[k + 1]? = some d:=⟨l[k + 1],zyz h2⟩
       have h2':((k+1:Nat):Int) < (l.length:Int):=by omega
       rw [hdd] at hnx
       simp only [h2',decide_true,sS,if_true,if_false,reduceCtorEq,pV hdd,← hnx,zzz,true_and]
       congr 2
       simp only [decide_eq_decide]
       exact ⟨fun h=>UInt8.toNat_inj.1 (by omega),fun h=>by rw [h]⟩
      ·have h2':¬ ((k+1:Nat):Int) < (l.length:Int):=by omega
       rw [List.getElem?_eq_none (by omega)] at hnx
       simp only [h2',decide_false,decide_true,sS,if_true,if_false,reduceCtorEq,← hnx,and_false,reduceCtorEq]
     ·simp only [ne n h1,decide_false,sS,if_true,if_false,reduceCtorEq,h1,false_and]
    have t1:=two 47 47
    have t2:=two 45 62
    simp only [UInt8.reduceToNat,Int.ofNat_eq_natCast,Int.cast_ofNat_Int] at t1 t2
    rw [t1]
    by_cases hcm : c = 47 ∧ t.head? = some 47
    ·simp only [hcm,and_self,decide_true,sS,if_true,if_false,reduceCtorEq]
     obtain ⟨rfl,hh⟩:=hcm
     obtain ⟨u,rfl⟩:∃ u,t=47::u:=by
      cases t with
      | nil=>simp at hh
      | cons d u=>simp at hh; subst hh; exact ⟨u,rfl⟩
     refine fK (fun vs=>∃ j:Nat,vs=[vI j,.sl .ro (dn.map uP)]∧k+1≤j∧j≤l.length∧(10:UInt8) ∉ (l.drop k).take (j - k)) (fun vs=>l.length - fN (gv vs 0)) ⟨k+1,rfl,zxy _,by omega,by rw [hd,show k+1 - k=1 by omega]; simp⟩ ?_
     rintro r2 _ ⟨j,rfl,hj1,hj2,hj3⟩ hr2
     refine ⟨rfl,?_⟩
     simp only [sS,if_true,if_false,reduceCtorEq]
     by_cases hjl:j < l.length
     ·have hjl':(j:Int) < (l.length:Int):=by omega
      obtain ⟨d,hdd⟩ : ∃ d,l[j]? = some d:=⟨l[j],zyz hjl⟩
      simp only [hjl',decide_true,sS,if_true,if_false,reduceCtorEq,pV hdd]
      by_cases hd10:d=10
      ·subst hd10
       simp only [UInt8.reduceToNat,Int.ofNat_eq_natCast,Int.cast_ofNat_Int,decide_true,sS,if_true,if_false,reduceCtorEq]
       refine none_ j (by omega) hj2 (aBn (by omega) ?_)
       have hx : (l.drop k)[j - k]? = some 10:=by rw [List.getElem?_drop,show k + (j - k) = j by omega]; exact hdd
       have:=aCb (l.drop k) (j - k) hx hj3
       rw [List.drop_drop,show k+(j - k)=j by omega] at this
       rw [hd,aNx,← hd]; exact this
      ·have:¬ ((d.toNat:Int)=10):=fun h=>hd10 (UInt8.toNat_inj.1 (by simpa using (by omega:d.toNat=10)))
       simp only [this,decide_false,sS,if_true,if_false,reduceCtorEq]
       rw [iR (by omega) (by omega)]
       refine hr2 _ ⟨j+1,by simp,by omega,hjl,?_⟩ (by simp [gv,fN]; omega)
       have hx : (l.drop k)[j - k]? = some d:=by rw [List.getElem?_drop,show k + (j - k) = j by omega]; exact hdd
       rw [show j+1 - k=j - k+1 by omega,List.take_add_one,hx]
       simp [hj3,Ne.symm hd10]
     ·have hjl':¬ (j:Int) < (l.length:Int):=by omega
      simp only [hjl',decide_false,sS,if_true,if_false,reduceCtorEq]
      refine none_ j (by omega) hj2 (aBn (by omega) ?_)
      have h10:(10:UInt8) ∉ l.drop k:=by rw [List.take_of_length_le (by simp; omega)] at hj3; exact hj3
      have:=a86 (l.drop k) h10
      rw [hd,aNx,← hd,this,List.drop_eq_nil_of_le (show l.length≤j by omega)]
      simp [dR]; omega
    ·have hcm' : decide (c = 47 ∧ t.head? = some 47) = false:=by simpa using hcm
     simp only [hcm',sS,if_true,if_false,reduceCtorEq,c_entailref6_part,eV]
     have htok:=b2j hd (aN0 hcm hnb)
     have some_:∀ (kind:Int) (x:List UInt8),0 < kind→eW (c::t)=(kind,x,true)→x.length≤(c::t).length→x=(c::t).take x.length→r1 [vI kind,vI (k+x.length:Nat),.sl .ro (dn.map uP)]:=by
      intro kind x hk0 hn hxl hx
      rw [hn] at htok
      have h1:=(a3e (l:=c::t) (by simp)).1
      rw [hn] at h1
      have hxl':x.length≤(l.drop k).length:=by rw [hd]; exact hxl
      rw [List.length_drop] at hxl'
      refine hr1 _ ⟨kind,k+x.length,rfl,by simp only at h1; omega,by omega,fun _=>?_,fun h=>absurd hk0 h⟩
      rw [hr0,htok]
      simp only [Bool.true_eq_false,if_false]
      rw [List.drop_take,show k+x.length - k=x.length by omega,hd,← hx]
     cases hlet:jK c.toNat
     ·have hrow:=aHm (t:=t) hlet
      simp only [sS,if_true,if_false,reduceCtorEq,t2]
      by_cases har : c = 45 ∧ t.head? = some 62
      ·simp only [har,and_self,decide_true,sS,if_true,if_false,reduceCtorEq]
       obtain ⟨rfl,hh⟩:=har
       obtain ⟨u,rfl⟩:∃ u,t=62::u:=by
        cases t with
        | nil=>simp at hh
        | cons d u=>simp at hh; subst hh; exact ⟨u,rfl⟩
       have hlen:=congrArg List.length hd
       simp only [List.length_drop,zwx] at hlen
       rw [iR (by omega) (by omega)]
       have:=some_ 2 [45,62] (by omega) (by simp [eW,hrow]) (by simp) (by simp)
       rw [show ((k+1:Nat):Int)+1=((k+2:Nat):Int) by omega]
       exact this
      ·have har' : decide (c = 45 ∧ t.head? = some 62) = false:=by simpa using har
       have hpre:List.isPrefixOf [45,62] (c::t)=false:=by
        cases t with
        | nil=>simp [List.isPrefixOf]
        | cons d u=>simp at har; simp [List.isPrefixOf]; intro h1 h2; exact har h1.symm h2.symm
       have hfind:j6 [.str [123,125,58,59,124,35,61,43,45,38,40,41],.int .u8 c.toNat,.int .i64 0]=some (vI (a09 aSi c.toNat 0)):=by
        simp only [j6]
        rw [if_pos ⟨by simp [big],by omega,by simp [big]⟩]; rfl
       simp only [har',sS,if_true,if_false,reduceCtorEq,c_entailref1_Find,hfind,b2l]
       by_cases hsg:c ∈ aSi
       ·have:=some_ 2 [c] (by omega) (by simp [eW,hrow,hpre,hsg]) (by simp) (by simp)
        simpa [hsg] using this
       ·have hn:eW (c::t)=(2,[c],false):=by simp [eW,hrow,hpre,hsg]
        rw [hn] at htok
        simp only [if_true] at htok
        rw [hr0,htok] at hT
        simp only at hT
        simp [hsg,hT,cQ]
     ·simp only [sS,if_true,if_false,reduceCtorEq]
      have hrow0:sW (l.drop k)=1+sW (l.drop (k+1)):=by rw [aWk hc,if_pos hlet]
      refine fK (fun vs=>∃ j:Nat,vs=[vI j,.sl .ro (dn.map uP)]∧k+1≤j∧j≤l.length∧sW (l.drop k)=(j - k)+sW (l.drop j)) (fun vs=>l.length - fN (gv vs 0)) ⟨k+1,rfl,zxy _,by omega,by rw [hrow0]; omega⟩ ?_
      rintro r2 _ ⟨j,rfl,hj1,hj2,hj3⟩ hr2
      refine ⟨rfl,?_⟩
      simp only [sS,if_true,if_false,reduceCtorEq]
      have done:sW (l.drop j)=0→r1 [vI 1,vI j,.sl .ro (dn.map uP)]:=fun h0=>by
       have hn:sW (c::t)=j - k:=by rw [← hd]; omega
       have hl2:(c::t).length=l.length - k:=by rw [← hd,List.length_drop]
       have hx:((c::t).take (j - k)).length=j - k:=by rw [List.length_take,hl2]; omega
       have:=some_ 1 ((c::t).take (j - k)) (by omega) (by unfold eW; rw [if_pos (by omega),hn]) (by omega) (by rw [hx])
       rw [hx,show k+(j - k)=j by omega] at this
       exact this
      by_cases hjl:j < l.length
      ·have hjl':(j:Int) < (l.length:Int):=by omega
       obtain ⟨d,hdd⟩ : ∃ d,l[j]? = some d:=⟨l[j],zyz hjl⟩
       simp only [hjl',decide_true,sS,if_true,if_false,reduceCtorEq,pV hdd,c_entailref6_part,eV]
       have hra:=aWk hdd
       cases hld:jK d.toNat
       ·rw [hld] at hra
        simp only [sS,if_true,if_false,reduceCtorEq]
        exact done (by simpa using hra)
       ·rw [hld] at hra
        simp only [sS,if_true,if_false,reduceCtorEq]
        rw [iR (by omega) (by omega)]
        refine hr2 _ ⟨j+1,by simp,by omega,hjl,?_⟩ (by simp [gv,fN]; omega)
        simp only [if_true] at hra
        omega
      ·have hjl':¬ (j:Int) < (l.length:Int):=by omega
       simp only [hjl',decide_false,sS,if_true,if_false,reduceCtorEq]
       exact done (by rw [List.drop_eq_nil_of_le (by omega)]; rfl)
  ·have hlt':¬ (k:Int) < (l.length:Int):=by omega
   rw [b2k (l:=l) (i:=k) (by omega)] at hr0
   rw [hr0] at hT
   simp only [List.append_nil] at hT
   simp [hlt',hT,cQ]
end Go.Fbs
