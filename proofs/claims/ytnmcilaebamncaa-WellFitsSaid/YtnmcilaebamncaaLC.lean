/- The document's reader of schemas, where it reads: names. -/
import Derived.Test.YtnmcilaebamncaaLB
set_option maxRecDepth 100000
namespace Go.Fbs
open Go.Proofs
attribute [local irreducible] cN bX opt
def eV:Spec
 | [.int .u8 c]=>some (.bool (jK c))
 | _=>none
theorem a3n:dD Try.prog eU eV:=by
 refine aEq (T:=[]) (aL.nil) fun args v hv=>?_
 unfold eV at hv
 split at hv <;> (try simp only [Option.ite_none_right_eq_some,zzz,reduceCtorEq] at hv)
 rename_i c
 subst hv
 refine ⟨rfl,rfl,rfl,?_⟩
 rw [aGx]
 by_cases h1:97≤c <;> by_cases h2:c≤122 <;> by_cases h3:48≤c <;> by_cases h4:c≤57 <;> by_cases h5:c=95 <;> simp [sS,if_true,if_false,reduceCtorEq,jK,h1,h2,h3,h4,h5]
def mV:Spec
 | [.str w]=>if w.length≤big then some (.bool (a5d w)) else none
 | _=>none
theorem aBk:dD Try.prog mU mV:=by
 refine aA4 (T:=[(eU,eV)]) (aL.cons a3n aL.nil) fun args v hv=>?_
 have c_entailref6_part:∀ args,bL [(eU,eV)] eU args=eV args:=fun _=>rfl
 unfold mV at hv
 split at hv <;> (try simp only [Option.ite_none_right_eq_some,zzz,reduceCtorEq] at hv)
 rename_i w
 obtain ⟨hl,rfl⟩:=hv
 unfold big at hl
 refine ⟨rfl,rfl,rfl,?_⟩
 refine Eq.mpr (aCt (bL _) _ (.str w)) ?_
 refine fK (fun vs=>∃ k:Nat,vs=[vI k]∧k≤w.length∧(w.take k).all (fun c=>jK c.toNat)=true) (fun vs=>w.length - fN (gv vs 0)) ⟨0,rfl,Nat.zero_le _,rfl⟩ ?_
 rintro r _ ⟨k,rfl,hk,ha⟩ hr
 refine ⟨rfl,?_⟩
 simp only [sS,if_true,if_false,reduceCtorEq]
 by_cases hlt:k < w.length
 ·have hlt':(k:Int) < (w.length:Int):=by omega
  have hc : w[k]? = some w[k]:=zyz hlt
  simp only [hlt',decide_true,sS,if_true,if_false,reduceCtorEq,pV hc,c_entailref6_part,eV]
  cases hb:jK (w[k]).toNat with
  | false =>
   have:a5d w=false:=by
    unfold a5d
    have:(w.all fun c=>jK c.toNat)=false:=by
     rw [List.all_eq_false]
     exact ⟨w[k],List.getElem_mem hlt,by simp [hb]⟩
    rw [this]; rfl
   simp only [sS,if_true,if_false,reduceCtorEq,this]
  | true =>
   simp only [sS,if_true,if_false,reduceCtorEq]
   rw [iR (by omega) (by omega)]
   refine hr _ ⟨k+1,rfl,hlt,?_⟩ (by simp [gv,fN]; omega)
   rw [List.take_add_one,List.all_append,ha,hc]
   simp [hb]
 ·have hlt':¬ (k:Int) < (w.length:Int):=by omega
  have e:w.take k=w:=List.take_of_length_le (by omega)
  rw [e] at ha
  simp only [hlt',decide_false,sS,if_true,if_false,reduceCtorEq]
  unfold a5d
  rw [ha]
  cases w with
  | nil=>simp [sS,if_true,if_false,reduceCtorEq,aK,aZ]
  | cons c r =>
   have h1:(1:Int)≤((c::r).length:Int):=by simp only [zwx]; omega
   have h1':1≤(c::r).length:=by simp only [zwx]; omega
   simp only [h1,h1',decide_true,sS,if_true,if_false,reduceCtorEq]
   by_cases h30:(c::r).length≤30
   ·have h30':((c::r).length:Int)≤30:=by omega
    have i0:gD (.str (c::r)) (.int .i64 0)=some (.int .u8 c.toNat):=pV (k:=0) rfl .i64
    have e95:decide ((c.toNat:Int)=95)=(c == 95):=by
     by_cases h:c=95
     ·subst h; rfl
     ·have h2:¬ (c.toNat:Int)=95:=fun e=>h (UInt8.toNat_inj.1 (by rw [show (95:UInt8).toNat=95 from rfl]; omega))
      have h3:(c == 95)=false:=by simpa using h
      rw [h3]; simpa using h2
    simp only [h30,h30',decide_true,sS,if_true,if_false,reduceCtorEq,i0,e95,List.head?_cons]
    rfl
   ·have h30':¬ ((c::r).length:Int)≤30:=by omega
    simp only [h30,h30',decide_false,sS,if_true,if_false,reduceCtorEq]
def nK (s : cA) : Option (List UInt8):=match s.l[s.i]? with | some t=>if t.1 = 1 ∧ a5d t.2.2 = true ∧ t.2.2.length ≤ big then some t.2.2 else none | none=>none
noncomputable def eO:Spec:=iA (fun q:cA=>[vR q]) (fun q=>(nK q).isSome=true∧q.i < 1000000) (fun q=>.aM [.str ((nK q).getD []),vR (aS q)])
theorem a9d {s:cA} {w:List UInt8} (h:nK s=some w) (hi:s.i < 1000000):eO [vR s]=some (.aM [.str w,vR (aS s)]):=by
 have:=gV (c:=fun q:cA=>[vR q]) (ok:=fun q=>(nK q).isSome=true∧q.i < 1000000) (r:=fun q=>.aM [.str ((nK q).getD []),vR (aS q)]) (fun a b h=>aEz (by simpa using h)) (a:=s) ⟨by rw [h]; rfl,hi⟩
 rw [h] at this
 exact this
abbrev TLN:List (FuncId×Spec):=[(mU,mV)]
theorem oU:fX Try.prog wP cZ eO:=by
 refine a3g (T:=TLN) (aL.cons aBk aL.nil) fun words v hv=>?_
 have c1:∀ args,bL TLN mU args=mV args:=fun _=>rfl
 obtain ⟨s,rfl,⟨h,hi⟩,rfl⟩:=eR hv
 obtain ⟨w,hw⟩:=Option.isSome_iff_exists.1 h
 rw [hw,Option.getD_some]
 refine ⟨_,rfl,rfl,by simp [aO,kV],by simp [aO,kV,V.bP],rfl,rfl,?_⟩
 refine Eq.mpr (a30 (bL _) _ (cQ s.l) (vI s.i) (vI s.n) (.int .i64 0) (.int .i64 0) (vI s.d) (fY s.o) (.int .i64 0)) ?_
 unfold nK at hw
 cases e : s.l[s.i]? with
 | none=>rw [e] at hw; simp at hw
 | some t =>
  rw [e] at hw
  simp only [Option.ite_none_right_eq_some,zzz] at hw
  obtain ⟨⟨h1,h2,h3⟩,rfl⟩:=hw
  have hlt:=(zzy.1 e).1
  have q1:¬ ((s.l.length:Int)≤(s.i:Int)):=by omega
  simp only [sS,if_true,if_false,reduceCtorEq,aPb,q1,decide_true,decide_false,aLd e,pT0,pT2,h1,c1,mV,h2,h3]
  have w1:IntKind.i64.wrap ((s.i:Int)+1)=(s.i:Int)+1:=iR (by omega) (by omega)
  have w2:IntKind.i64.wrap ((s.i:Int)+1 - 1)=(s.i:Int)+1 - 1:=iR (by omega) (by omega)
  rw [w1,w2,show ((s.i:Int)+1 - 1)=(s.i:Int) by omega,aLd e,aA]
  rw [show aI [cQ s.l,.int .i64 ((s.i:Int)+1),vI s.n,.int .i64 0,.int .i64 0,vI s.d,fY s.o,.int .i64 0]=some (vR (aS s)) from rfl,aA]
  rfl
end Go.Fbs
