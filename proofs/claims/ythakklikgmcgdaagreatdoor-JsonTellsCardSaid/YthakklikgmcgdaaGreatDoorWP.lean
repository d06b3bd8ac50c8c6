import Derived.Test.YthakklikgmcgdaaGreatDoorPA
set_option linter.unusedSimpArgs false
set_option linter.unusedVariables false
set_option linter.unusedSectionVars false
set_option maxRecDepth 100000
namespace Go.Fbs
open Go.Proofs Go.RowKit
theorem kN {p:aE} (h:aZ p) (c:UInt8) (hc:c≠0):eZ p (aV p c).2:=by
 refine ⟨a0j h c hc,?_,?_,?_⟩ <;> unfold aV <;> split
 ·show (aU p p.a 9).s=_; unfold aU; split <;> rfl
 ·rfl
 ·show (aU p p.a 9).d=_; unfold aU; split <;> rfl
 ·rfl
 ·show p.a≤(aU p p.a 9).a; unfold aU; split <;> exact Int.le_refl _
 ·show p.a≤p.a+1; omega
theorem aH4 {p:aE} (h:aZ p) (c:UInt8):dV [.agg (pW p),.int .u8 c.toNat]=some (.tup [.bool (aV p c).1,.agg (pW (aV p c).2)]):=by
 have hc:((c.toNat:Int)).toNat.toUInt8=c:=by simp
 have h2:=c.toNat_lt
 unfold dV pW
 refine (if_pos ⟨h.1,h.2.1,h.2.2,by omega,by omega⟩).trans ?_
 rw [hc]
def gD:List UInt8→aE→aE
 | [],p=>p
 | c::cs,p=>if (aV p c).1=true then gD cs (aV p c).2 else (aV p c).2
theorem sD:∀ {t:List UInt8} {p:aE},aZ p→(∀ c ∈ t,c≠0)→eZ p (gD t p)
 | [],p,h,_=>mV h
 | c::cs,p,h,hz=>by
  have k:=kN h c (hz c (List.mem_cons_self ..))
  unfold gD
  split
  ·exact k.trans (sD k.aO fun x hx=>hz x (List.mem_cons_of_mem _ hx))
  ·exact k
def a22:Spec
 | [.agg [.str s,.int .i64 a,.int .i64 d,.int .i64 e,.int .i64 b],.str t,.int .i64 k]=>if (s.length≤jS∧0≤a∧a≤s.length)∧t.length≤10∧(∀ c ∈ t,c≠0) then some (.tup [.agg [.int .i64 k,.str [],.sl .ro [],.sl .ro []],.agg (pW (gD t ⟨s,a,d,e,b⟩))]) else none
 | _=>none
noncomputable abbrev TLw:List (FuncId×Spec):=[(jV,dV)]
theorem gs0 (x:V) (q:aE):gv (x::pW q) 0=x:=rfl
theorem mF (x:V) (q:aE):gv (x::pW q) 1 = .str q.s:=rfl
theorem gs2 (x:V) (q:aE):gv (x::pW q) 2 = .int .i64 q.a:=rfl
theorem gs3 (x:V) (q:aE):gv (x::pW q) 3 = .int .i64 q.d:=rfl
theorem gs4 (x:V) (q:aE):gv (x::pW q) 4 = .int .i64 q.e:=rfl
theorem gs5 (x:V) (q:aE):gv (x::pW q) 5 = .int .i64 q.b:=rfl
theorem agW (k:Int):aD [.int .i64 k,.str [],.sl .ro [],.sl .ro []]=some (.agg [.int .i64 k,.str [],.sl .ro [],.sl .ro []]):=rfl
theorem aS6:dX Tryz.prog a1b eU a22:=by
 refine a6q (T:=TLw) (aH.fD rY aH.nil) fun words v hv=>?_
 have c1:∀ args,bD TLw jV args=dV args:=fun _=>rfl
 unfold a22 at hv
 split at hv <;> simp only [Option.ite_none_right_eq_some,Option.some.injEq,reduceCtorEq] at hv
 rename_i s a d e b t k
 obtain ⟨⟨hd,hl,hz⟩,rfl⟩:=hv
 refine ⟨_,rfl,rfl,rfl,rfl,rfl,rfl,?_⟩
 rw [a74]
 replace hd:aZ ⟨s,a,d,e,b⟩:=hd
 obtain ⟨p,hp⟩:∃ p:aE,p=⟨s,a,d,e,b⟩:=⟨_,rfl⟩
 have e1:s=p.s:=by rw [hp]
 have e2:a=p.a:=by rw [hp]
 have e3:d=p.d:=by rw [hp]
 have e4:e=p.e:=by rw [hp]
 have e5:b=p.b:=by rw [hp]
 rw [← hp] at hd ⊢
 rw [e1,e2,e3,e4,e5]
 clear hp e1 e2 e3 e4 e5 s a d e b
 simp only [sS,if_true,if_false,reduceCtorEq]
 refine fJ (fun w=>w=pW (gD t p)) (fun w hw=>?_) fun r hr=>?_
 ·subst hw
  refine ⟨rfl,?_⟩
  simp only [gp0,gp1,gp2,gp3,gp4,cU,iI,sc,agW,cq0,cq1,sS,if_true,if_false,reduceCtorEq]
 refine gP (fun vs=>∃ (i:Nat) (q:aE),vs = .int .i64 i::pW q∧i≤t.length∧aZ q∧gD (t.drop i) q=gD t p) (fun vs=>t.length - nQ (gv vs 0)) ⟨0,p,rfl,Nat.zero_le _,hd,rfl⟩ ?_
 rintro r1 vs ⟨i,q,rfl,hi,hq,hw⟩ hnext
 refine ⟨rfl,?_⟩
 simp only [gp0,gp1,gp2,gp3,gp4,gs0,mF,gs2,gs3,gs4,gs5,cU,sS,if_true,if_false,reduceCtorEq]
 by_cases h:i < t.length
 ·have hlt:(i:Int) < (t.length:Int):=by omega
  have hg : t[i]? = some t[i]:=List.getElem?_eq_getElem h
  rw [decide_eq_true hlt,if_pos rfl]
  rw [List.drop_eq_getElem_cons h] at hw
  rw [gD] at hw
  simp only [gp0,gp1,gp2,gp3,gp4,cU,aHf hg,c1,aH4 hq,wK,wL,r8,r9,rA,rB,rC,dS,sS,if_true,if_false,reduceCtorEq]
  by_cases hn:(aV q t[i]).1=true
  ·rw [if_pos hn] at hw
   rw [hn,if_neg (by decide)]
   have hwr:IntKind.i64.wrap ((i:Int)+1)=((i+1:Nat):Int):=dN (by omega) (by omega)
   rw [hwr]
   refine hnext _ ⟨i+1,(aV q t[i]).2,rfl,h,a0j hq _ (hz _ (List.getElem_mem h)),hw⟩ ?_
   show t.length - (i+1) < t.length - i
   omega
  ·have hn':(aV q t[i]).1=false:=by simpa using hn
   rw [if_neg hn] at hw
   rw [hn',if_pos (by decide)]
   exact hr _ (by rw [← hw]; rfl)
 ·have hlt:¬ (i:Int) < (t.length:Int):=by omega
  rw [decide_eq_false hlt,if_neg (by decide)]
  rw [List.drop_eq_nil_of_le (by omega)] at hw
  exact hr _ (by rw [← hw]; rfl)
end Go.Fbs
