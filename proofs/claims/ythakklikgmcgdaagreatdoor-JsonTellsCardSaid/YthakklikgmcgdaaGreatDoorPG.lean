import Derived.Test.YthakklikgmcgdaaGreatDoorPF
import Derived.Test.YthakklikgmcgdaaGreatDoorHJR
set_option linter.unusedSimpArgs false
set_option linter.unusedVariables false
set_option linter.unusedSectionVars false
set_option maxRecDepth 100000
namespace Go.Fbs
open Go.Proofs Go.RowKit
def kC (c:UInt8):List UInt8→Nat→Int
 | [],_=>-1
 | x::r,i=>if x=c then i else kC c r (i+1)
theorem aG4 {c:UInt8} : ∀ {s:List UInt8} {i:Nat},0≤kC c s i↔s.contains c=true
 | [],i=>by simp [kC]
 | x::r,i=>by
  unfold kC
  rw [List.contains_cons]
  by_cases h:x=c
  ·rw [if_pos h]; subst h; simp
  ·rw [if_neg h,aG4 (s:=r)]
   have:(c == x)=false:=by simpa using fun e=>h e.symm
   rw [this,Bool.false_or]
def pC:Spec
 | [.str s,.int .u8 c,.int .i64 z]=>if z=0∧0≤c∧c < 256∧s.length≤1000 then some (.int .i64 (kC c.toNat.toUInt8 s 0)) else none
 | _=>none
theorem a5a {s:List UInt8} (c:UInt8) (h:s.length≤1000):pC [.str s,.int .u8 c.toNat,.int .i64 0]=some (.int .i64 (kC c s 0)):=by
 have h1:=c.toNat_lt
 have e:((c.toNat:Int)).toNat.toUInt8=c:=by simp
 unfold pC
 refine (if_pos ⟨rfl,by omega,by omega,h⟩).trans ?_
 rw [e]
theorem b4c (c n:UInt8):aC .eql (.int .u8 (c.toNat:Int)) (.int .u8 (n.toNat:Int))=some (.bool (decide (c=n))):=by
 have:((c.toNat:Int)=(n.toNat:Int))↔c=n:=⟨toNat_inj,fun h=>by rw [h]⟩
 show some (V.bool (decide ((c.toNat:Int)=(n.toNat:Int))))=_
 congr 2
 exact decide_eq_decide.2 this
attribute [local irreducible] bK aX in
theorem aG5:cZ Tryz.prog dJ pC:=by
 refine aAu (T:=[]) aH.nil fun args v hv=>?_
 unfold pC at hv
 split at hv <;> simp only [Option.ite_none_right_eq_some,Option.some.injEq,reduceCtorEq] at hv
 rename_i s c0 z
 obtain ⟨⟨rfl,h0,h1,hl⟩,rfl⟩:=hv
 obtain ⟨c,rfl⟩:∃ c:UInt8,c0=c.toNat:=⟨c0.toNat.toUInt8,by simp; omega⟩
 rw [show ((c.toNat:Int)).toNat.toUInt8=c by simp]
 refine ⟨rfl,rfl,rfl,?_⟩
 refine Eq.mpr (aCe _ _ (.str s) (.int .u8 c.toNat) (.int .i64 0)) ?_
 refine gP (fun vs=>∃ i:Nat,vs=[.int .i64 i]∧i≤s.length∧kC c (s.drop i) i=kC c s 0) (fun vs=>s.length - nQ (gv vs 0)) ⟨0,rfl,Nat.zero_le _,rfl⟩ ?_
 rintro r1 vs ⟨i,rfl,hi,hf⟩ hnext
 refine ⟨rfl,?_⟩
 have g0:∀ x:V,gv [x] 0=x:=fun _=>rfl
 rw [show fG (.str s)=some (.int .i64 s.length) from rfl,aB,g0,a0o,aB]
 by_cases hk:i < s.length
 ·have hx:cV (.str s) (.int .i64 (i:Nat))=some (.int .u8 s[i].toNat):=qK (List.getElem?_eq_getElem hk) .i64
  rw [List.drop_eq_getElem_cons hk,kC] at hf
  rw [decide_eq_true (by omega),dW,hx,aB,b4c,aB]
  by_cases he:s[i]=c
  ·rw [if_pos he] at hf
   rw [decide_eq_true he,dW,hf]
  ·rw [if_neg he] at hf
   rw [decide_eq_false he,cF,aBf (by omega),aB]
   exact hnext _ ⟨i+1,rfl,hk,hf⟩ (by show s.length - (i+1) < s.length - i; omega)
 ·rw [List.drop_eq_nil_of_le (by omega),kC] at hf
  rw [decide_eq_false (by omega),cF,hf]
theorem aL9 {i:Nat} (h:(i:Int) < 9223372036854775807):aC .add (.int .i64 (i:Int)) (.int .i64 1)=some (.int .i64 ((i+1:Nat):Int)):=by
 show some (V.int .i64 (IntKind.i64.wrap ((i:Int)+1)))=_
 rw [dN (by omega) (by omega)]; rfl
theorem aIi {s:List UInt8} {c:List UInt8} {k:Nat} (hk:k < s.length) (h:c.contains s[k]=true):lE s ((k+1:Nat):Int) c=lE s (k:Nat) c:=by
 unfold lE
 rw [Int.toNat_natCast,Int.toNat_natCast]
 conv=>rhs; rw [List.drop_eq_getElem_cons hk]
 unfold p8
 rw [List.dropWhile_cons,if_pos h]
theorem aBg {s:List UInt8} {c:List UInt8} {k:Nat} (hk:k≤s.length) (h:∀ h:k < s.length,¬ c.contains s[k]=true):lE s (k:Nat) c=k:=by
 unfold lE
 rw [Int.toNat_natCast]
 rcases Nat.lt_or_ge k s.length with hlt | hge
 ·unfold p8
  rw [List.drop_eq_getElem_cons hlt,List.dropWhile_cons,if_neg (h hlt),← List.drop_eq_getElem_cons hlt,List.length_drop]; omega
 ·rw [List.drop_eq_nil_of_le hge]
  show (s.length:Int) - ((([]:List UInt8).dropWhile _).length:Int)=k
  simp; omega
theorem guT (o:Option V):b7 (.bool true) true o=o:=rfl
theorem guF (o:Option V):b7 (.bool false) true o=some .undef:=rfl
theorem gfF (o:Option V):b7 (.bool false) false o=o:=rfl
theorem gfT (o:Option V):b7 (.bool true) false o=some .undef:=rfl
theorem piF (x:V):pickV (.bool false) x (.bool false)=some (.bool false):=rfl
theorem piT (x:V):pickV (.bool true) x (.bool false)=some x:=rfl
theorem poT (x:V):pickV (.bool true) (.bool true) x=some (.bool true):=rfl
theorem poF (x:V):pickV (.bool false) (.bool true) x=some x:=rfl
theorem aG6 (x y:Int):aC .geq (.int .i64 x) (.int .i64 y)=some (.bool (decide (x ≥ y))):=rfl
theorem aMa (x y:Int):aC .gtr (.int .i64 x) (.int .i64 y)=some (.bool (decide (x > y))):=rfl
attribute [local irreducible] bK aX in
theorem aFz:dX Tryz.prog sU cC cE:=by
 refine zD (T:=[(dJ,pC)]) (aH.cons aG5 aH.nil) fun words v hv=>?_
 have c1:∀ args,bD [(dJ,pC)] dJ args=pC args:=fun _=>rfl
 unfold cE at hv
 split at hv <;> simp only [Option.ite_none_right_eq_some,Option.some.injEq,reduceCtorEq] at hv
 rename_i s a d e b
 obtain ⟨⟨hl,ha,has⟩,rfl⟩:=hv
 unfold jS at hl
 obtain ⟨a,rfl⟩:∃ n:Nat,a=n:=⟨a.toNat,by omega⟩
 refine ⟨_,rfl,rfl,rfl,rfl,rfl,rfl,?_⟩
 refine Eq.mpr (a0d _ _ (.str s) (.int .i64 a) (.int .i64 d) (.int .i64 e) (.int .i64 b)) ?_
 refine gP (fun vs=>∃ k:Nat,vs=[.int .i64 k]∧k≤s.length∧lE s (k:Nat) kJ=lE s (a:Nat) kJ) (fun vs=>s.length - nQ (gv vs 0)) ⟨a,rfl,by omega,rfl⟩ ?_
 rintro r1 vs ⟨k,rfl,hk,hE⟩ hnext
 refine ⟨rfl,?_⟩
 have g0:∀ x:V,gv [x] 0=x:=fun _=>rfl
 rw [show fG (.str s)=some (.int .i64 s.length) from rfl,aB,g0,a0o,aB]
 have hag:aD [.str s,.int .i64 (k:Nat),.int .i64 d,.int .i64 e,.int .i64 b]=some (vP s (k:Nat) d e b):=rfl
 by_cases hlt:k < s.length
 ·have hx:cV (.str s) (.int .i64 (k:Nat))=some (.int .u8 s[k].toNat):=qK (List.getElem?_eq_getElem hlt) .i64
  have hF:pC [.str [32,9,13,10],.int .u8 s[k].toNat,.int .i64 0]=some (.int .i64 (kC s[k] kJ 0)):=a5a s[k] (by decide)
  rw [decide_eq_true (by omega),guT,hx,aB,guT,c1,hF,aB,guT,aG6,aB,piT,aB]
  by_cases hc:kJ.contains s[k]=true
  ·rw [decide_eq_true (aG4.2 hc),dW,aL9 (by omega),aB]
   exact hnext _ ⟨k+1,rfl,hlt,(aIi hlt hc).trans hE⟩ (by show s.length - (k+1) < s.length - k; omega)
  ·rw [decide_eq_false (fun h=>hc (aG4.1 h)),cF,hag,aB,← hE,aBg hk fun _=>hc]
 ·rw [decide_eq_false (by omega),guF,aB,guF,aB,guF,aB,piF,aB,cF,hag,aB,← hE,aBg hk fun h=>absurd h hlt]
def tW:Spec
 | [.agg [.str s,.int .i64 a,.int .i64 d,.int .i64 e,.int .i64 b],.int .u8 c]=>if (s.length≤jS∧0≤a∧a≤s.length)∧0 < c∧c < 256 then some (.tup [.bool (decide (hI ⟨s,a,d,e,b⟩=c)),.agg (pW ⟨s,a,d,e,b⟩)]) else none
 | _=>none
theorem kP {p:aE} (h:aZ p) {c:Int} (h0:0 < c) (h1:c < 256):tW [.agg (pW p),.int .u8 c]=some (.tup [.bool (decide (hI p=c)),.agg (pW p)]):=if_pos ⟨h,h0,h1⟩
theorem aMb {p:aE} (h:aZ p) (hlt:p.a < p.s.length):cV (.str p.s) (.int .i64 p.a)=some (.int .u8 (hI p)):=by
 obtain ⟨k,hk⟩:∃ n:Nat,p.a=n:=⟨p.a.toNat,by have:=h.2.1; omega⟩
 rw [hk] at hlt
 have hkl:k < p.s.length:=by omega
 unfold hI dU
 rw [hk,Int.toNat_natCast,List.getD_eq_getElem?_getD,List.getElem?_eq_getElem hkl]
 exact qK (List.getElem?_eq_getElem hkl) .i64
theorem aMc {p:aE} (h:aZ p) (hge:¬ p.a < p.s.length):hI p=0:=by
 unfold hI dU
 rw [List.getD_eq_getElem?_getD,List.getElem?_eq_none (by have:=h.2.1; omega)]; rfl
attribute [local irreducible] bK aX in
theorem a68:dX Tryz.prog vT cP tW:=by
 refine a1t (T:=[]) aH.nil fun words v hv=>?_
 unfold tW at hv
 split at hv <;> simp only [Option.ite_none_right_eq_some,Option.some.injEq,reduceCtorEq] at hv
 rename_i s a d e b c
 obtain ⟨⟨hd,h0,h1⟩,rfl⟩:=hv
 replace hd:aZ ⟨s,a,d,e,b⟩:=hd
 refine ⟨_,rfl,rfl,rfl,rfl,rfl,rfl,?_⟩
 refine Eq.mpr (a2m _ _ (.str s) (.int .i64 a) (.int .i64 d) (.int .i64 e) (.int .i64 b) (.int .u8 c)) ?_
 have hag:aD [.str s,.int .i64 a,.int .i64 d,.int .i64 e,.int .i64 b]=some (.agg (pW ⟨s,a,d,e,b⟩)):=rfl
 have he8:∀ x y:Int,aC .eql (.int .u8 x) (.int .u8 y)=some (.bool (decide (x=y))):=fun _ _=>rfl
 rw [show fG (.str s)=some (.int .i64 s.length) from rfl,aB,a0o,aB]
 by_cases hlt:a < s.length
 ·rw [decide_eq_true hlt,guT,aMb hd hlt,aB,guT,he8,aB,piT,aB,hag,aB]
 ·have hz:hI ⟨s,a,d,e,b⟩=0:=aMc hd hlt
  rw [decide_eq_false hlt,guF,aB,guF,aB,piF,aB,hag,aB,hz,decide_eq_false (by omega)]
attribute [local irreducible] bK aX in
theorem a1n:dX Tryz.prog tR cG aL:=by
 refine a0f (T:=[]) aH.nil fun words v hv=>?_
 unfold aL at hv
 split at hv <;> simp only [Option.some.injEq,reduceCtorEq] at hv
 rename_i s a d e b x y
 subst hv
 by_cases he:e=0
 ·subst he
  refine ⟨_,rfl,rfl,rfl,rfl,rfl,rfl,?_⟩
  refine Eq.mpr (qZ _ _ (.str s) (.int .i64 a) (.int .i64 d) (.int .i64 0) (.int .i64 b) (.int .i64 x) (.int .i64 y)) ?_
  rw [yZ,aB,decide_eq_true rfl,dW]; rfl
 ·rw [if_neg he]
  refine ⟨_,rfl,rfl,rfl,rfl,rfl,rfl,?_⟩
  refine Eq.mpr (qZ _ _ (.str s) (.int .i64 a) (.int .i64 d) (.int .i64 e) (.int .i64 b) (.int .i64 x) (.int .i64 y)) ?_
  rw [yZ,aB,decide_eq_false he,cF]; rfl
end Go.Fbs

namespace Go.Fbs
open Go.Proofs Go.RowKit
theorem aG7 {p:aE} (h:p.e≠0):∀ t,gD t p=p
 | []=>rfl
 | c::t=>by
  have e:aV p c=(false,p):=by
   unfold aV aU
   rw [if_pos (.inl h),if_neg h]
  rw [gD,e]; rfl
theorem aOn {p:aE} (he:p.e=0) (c:UInt8):aV p c=if hI p=c.toNat then (true,fI p) else (false,aU p p.a 9):=by
 unfold aV
 by_cases h:hI p=c.toNat
 ·have:dU p=c:=toNat_inj h
  rw [if_pos h,if_neg (by simp [he,this])]; rfl
 ·have:dU p≠c:=fun e=>h (by unfold hI; rw [e])
  rw [if_neg h,if_pos (.inr this)]
theorem wD {p:aE} (h:aZ p):aC .add (.int .i64 p.a) (.int .i64 1)=some (.int .i64 (p.a+1)):=by
 show some (V.int .i64 (IntKind.i64.wrap (p.a+1)))=_
 rw [uL h]
def a0p:Spec
 | [.agg [.str s,.int .i64 a,.int .i64 d,.int .i64 e,.int .i64 b],.str t]=>if (s.length≤jS∧0≤a∧a≤s.length)∧t.length≤10∧(∀ c ∈ t,c≠0) then some (.tup [.agg (pW (gD t ⟨s,a,d,e,b⟩))]) else none
 | _=>none
theorem vR {p:aE} (h:aZ p) {t:List UInt8} (hl:t.length≤10) (hz:∀ c ∈ t,c≠0):a0p [.agg (pW p),.str t]=some (.tup [.agg (pW (gD t p))]):=if_pos ⟨h,hl,hz⟩
noncomputable abbrev TRw:List (FuncId×Spec):=[(aG,tW),(aQ,aL)]
attribute [local irreducible] bK aX in
theorem aIj:dX Tryz.prog tS cH a0p:=by
 refine a0g (T:=TRw) (aH.fD a68 (aH.fD a1n aH.nil)) fun words v hv=>?_
 have c1:∀ args,bD TRw aG args=tW args:=fun _=>rfl
 have c2:∀ args,bD TRw aQ args=aL args:=fun _=>rfl
 unfold a0p at hv
 split at hv <;> simp only [Option.ite_none_right_eq_some,Option.some.injEq,reduceCtorEq] at hv
 rename_i s a d e b t
 obtain ⟨⟨hd,hl,hz⟩,rfl⟩:=hv
 replace hd:aZ ⟨s,a,d,e,b⟩:=hd
 refine ⟨_,rfl,rfl,rfl,rfl,rfl,rfl,?_⟩
 refine Eq.mpr (a1d _ _ (.str s) (.int .i64 a) (.int .i64 d) (.int .i64 e) (.int .i64 b) (.str t)) ?_
 generalize hp:(⟨s,a,d,e,b⟩:aE)=p at hd
 refine gP (fun vs=>∃ (i:Nat) (q:aE),vs = .int .i64 i::pW q∧i≤t.length∧aZ q∧gD (t.drop i) q=gD t p) (fun vs=>t.length - nQ (gv vs 0)) ⟨0,p,by rw [← hp]; rfl,Nat.zero_le _,hd,rfl⟩ ?_
 rintro r1 vs ⟨i,q,rfl,hi,hq,hw⟩ hnext
 refine ⟨rfl,?_⟩
 rw [show fG (.str t)=some (.int .i64 t.length) from rfl,aB,gs0,a0o,aB,gs4,yZ,aB,pk2,aB]
 by_cases hk:i < t.length∧q.e=0
 ·have hx:cV (.str t) (.int .i64 (i:Nat))=some (.int .u8 t[i].toNat):=qK (List.getElem?_eq_getElem hk.1) .i64
  have hcz:=hz t[i] (List.getElem_mem hk.1)
  have hc0:0 < (t[i].toNat:Int):=by
   have:t[i].toNat≠0:=fun e=>hcz (UInt8.toNat_inj.1 e)
   omega
  have hc1:(t[i].toNat:Int) < 256:=by have:=t[i].toNat_lt; omega
  rw [List.drop_eq_getElem_cons hk.1,gD,aOn hk.2] at hw
  rw [decide_eq_true (show (i:Int) < (t.length:Int) by omega),decide_eq_true hk.2,show (true && true)=true from rfl,dW,hx,aB,mF,gs2,gs3,gs5,cU,aB,c1,kP hq hc0 hc1,aB,nN,aB,nO,aB,dS,aB]
  by_cases hh:hI q=t[i].toNat
  ·rw [if_pos hh] at hw
   rw [decide_eq_true hh,show unV .not (.bool true)=some (.bool false) from rfl,aB,cF,fF,wD hq,aB,aL9 (by omega),aB,fP,fQ,fR,fS]
   exact hnext _ ⟨i+1,fI q,rfl,hk.1,(fM hq (by rw [hh]; omega)).aO,hw⟩ (by show t.length - (i+1) < t.length - i; omega)
  ·rw [if_neg hh] at hw
   rw [decide_eq_false hh,show unV .not (.bool false)=some (.bool true) from rfl,aB,dW,fP,fF,fQ,fR,fS,cU,aB,c2,mE,aB,iM,aB,pT,aB,dS,aB,fP,fF,fQ,fR,fS,cU,aB,← hw]; rfl
 ·have hf:(decide ((i:Int) < (t.length:Int)) && decide (q.e=0))=false:=by
   rw [Bool.and_eq_false_iff,decide_eq_false_iff_not,decide_eq_false_iff_not]
   omega
  have hwe:gD (t.drop i) q=q:=by
   by_cases he:q.e=0
   ·rw [List.drop_eq_nil_of_le (by omega)]; rfl
   ·exact aG7 he _
  rw [hf,cF,mF,gs2,gs3,gs5,cU,aB,← hw,hwe]
attribute [local irreducible] bK aX in
theorem aNh:dX Tryz.prog qY bV wJ:=by
 refine yO (T:=[(aQ,aL)]) (aH.fD a1n aH.nil) fun words v hv=>?_
 have c1:∀ args,bD [(aQ,aL)] aQ args=aL args:=fun _=>rfl
 unfold wJ at hv
 split at hv <;> simp only [Option.ite_none_right_eq_some,Option.some.injEq,reduceCtorEq] at hv
 rename_i s a d e b
 obtain ⟨⟨hl,ha,has⟩,rfl⟩:=hv
 have hlb:s.length≤4611686018427387904:=hl
 obtain ⟨a,rfl⟩:∃ n:Nat,a=n:=⟨a.toNat,by omega⟩
 refine ⟨_,rfl,rfl,rfl,rfl,rfl,rfl,?_⟩
 refine Eq.mpr (zG _ _ (.str s) (.int .i64 a) (.int .i64 d) (.int .i64 e) (.int .i64 b)) ?_
 refine gP (fun vs=>∃ k n:Nat,vs=[.int .i64 n,.int .i64 k]∧k=a+n∧k≤s.length∧lE s (k:Nat) eY=lE s (a:Nat) eY) (fun vs=>s.length - nQ (gv vs 1)) ⟨a,0,rfl,rfl,by omega,rfl⟩ ?_
 rintro r1 vs ⟨k,n,rfl,hkn,hk,hE⟩ hnext
 refine ⟨rfl,?_⟩
 have g0:∀ x y:V,gv [x,y] 0=x:=fun _ _=>rfl
 have g1:∀ x y:V,gv [x,y] 1=y:=fun _ _=>rfl
 have hag:∀ k:Nat,aD [.str s,.int .i64 (k:Nat),.int .i64 d,.int .i64 e,.int .i64 b]=some (.agg (pW ⟨s,k,d,e,b⟩)):=fun _=>rfl
 have hge:∀ x y:Int,aC .geq (.int .u8 x) (.int .u8 y)=some (.bool (decide (x ≥ y))):=fun _ _=>rfl
 have hle:∀ x y:Int,aC .leq (.int .u8 x) (.int .u8 y)=some (.bool (decide (x≤y))):=fun _ _=>rfl
 have hfin:∀ (Q:V→Prop),(∀ h:k < s.length,¬ eY.contains s[k]=true)→Q (.tup [.agg (pW (runM ⟨s,(a:Nat),d,e,b⟩))])→(opt (aC .eql (.int .i64 (n:Int)) (.int .i64 0)) fun y11=>aM y11 (opt (aD [.str s,.int .i64 (k:Nat),.int .i64 d,.int .i64 e,.int .i64 b]) fun y12=>opt (aL [y12,.int .i64 (k:Nat),.int .i64 9]) fun y13=>opt (fA 0 y13) fun y14=>opt (extractV y13 0) fun y15=>opt (aP 5 y15) fun y16=>opt (aD [aA y16 0,aA y16 1,aA y16 2,aA y16 3,aA y16 4]) fun y17=>Q (.tup [y17])) (opt (aD [.str s,.int .i64 (k:Nat),.int .i64 d,.int .i64 e,.int .i64 b]) fun y12=>Q (.tup [y12]))):=by
  intro Q hst hQ
  have hEk:=hE.symm.trans (aBg hk hst)
  have hR:runM ⟨s,(a:Nat),d,e,b⟩=if n=0 then aU ⟨s,(k:Nat),d,e,b⟩ (k:Nat) 9 else ⟨s,(k:Nat),d,e,b⟩:=by
   unfold runM
   dsimp only
   rw [hEk]
   by_cases hn:n=0
   ·rw [if_pos (by omega),if_pos hn]
    have:(a:Int)=(k:Nat):=by omega
    rw [this]
   ·rw [if_neg (by omega),if_neg hn]
  rw [hR] at hQ
  rw [yZ,aB,hag,aB,mE,aB,iM,aB,pT,aB,dS,aB,fP,fF,fQ,fR,fS,cU,aB,aB]
  by_cases hn:n=0
  ·rw [if_pos hn] at hQ
   rw [decide_eq_true (by omega),dW]; exact hQ
  ·rw [if_neg hn] at hQ
   rw [decide_eq_false (by omega),cF]; exact hQ
 rw [show fG (.str s)=some (.int .i64 s.length) from rfl,aB,g1,a0o,aB,g0]
 by_cases hlt:k < s.length
 ·have hx:cV (.str s) (.int .i64 (k:Nat))=some (.int .u8 s[k].toNat):=qK (List.getElem?_eq_getElem hlt) .i64
  have hdg:eY.contains s[k]=true↔(48≤(s[k].toNat:Int)∧(s[k].toNat:Int)≤57):=by
   have h:∀ q:_root_.Fin 256,eY.contains (UInt8.ofNat q.val)=true↔(48≤(q.val:Int)∧(q.val:Int)≤57):=by decide +kernel
   have:=h ⟨s[k].toNat,s[k].toNat_lt⟩
   simpa using this
  rw [decide_eq_true (show (k:Int) < (s.length:Int) by omega),guT,hx,aB,guT,hge,aB,piT,aB]
  by_cases h48:(s[k].toNat:Int) ≥ 48
  ·rw [decide_eq_true h48,guT,aB,guT,hle,aB,piT,aB]
   by_cases h57:(s[k].toNat:Int)≤57
   ·rw [decide_eq_true h57,dW,aL9 (by omega),aB,aL9 (by omega),aB]
    exact hnext _ ⟨k+1,n+1,rfl,by omega,hlt,(aIi hlt (hdg.2 ⟨h48,h57⟩)).trans hE⟩ (by show s.length - (k+1) < s.length - k; omega)
   ·rw [decide_eq_false h57,cF]
    simp only [c1]
    exact hfin (fun r=>r = .tup [.agg (pW (runM ⟨s,(a:Nat),d,e,b⟩))]) (fun _ h=>h57 (hdg.1 h).2) rfl
  ·rw [decide_eq_false h48,guF,aB,guF,aB,piF,aB,cF]
   simp only [c1]
   exact hfin (fun r=>r = .tup [.agg (pW (runM ⟨s,(a:Nat),d,e,b⟩))]) (fun _ h=>h48 (hdg.1 h).1) rfl
 ·rw [decide_eq_false (show ¬ (k:Int) < (s.length:Int) by omega),guF,aB,guF,aB,piF,aB,guF,aB,guF,aB,piF,aB,cF]
  simp only [c1]
  exact hfin (fun r=>r = .tup [.agg (pW (runM ⟨s,(a:Nat),d,e,b⟩))]) (fun h=>absurd h hlt) rfl
end Go.Fbs

namespace Go.Fbs
open Go.Proofs Go.RowKit
def aB6:Spec
 | [.int .u8 c]=>if 0≤c∧c < 256 then some (.int .i64 (if jB c.toNat.toUInt8=true then (pM c.toNat.toUInt8:Int) else -1)) else none
 | _=>none
theorem aW5 (c:UInt8):aB6 [.int .u8 c.toNat]=some (.int .i64 (if jB c=true then (pM c:Int) else -1)):=by
 have h:=c.toNat_lt
 have e:((c.toNat:Int)).toNat.toUInt8=c:=by simp
 unfold aB6
 refine (if_pos ⟨by omega,by omega⟩).trans ?_
 rw [e]
theorem aZ9:∀ q:_root_.Fin 256,(0≤kC (UInt8.ofNat q.val) [48,49,50,51,52,53,54,55,56,57,97,98,99,100,101,102] 0→jB (UInt8.ofNat q.val)=true∧kC (UInt8.ofNat q.val) [48,49,50,51,52,53,54,55,56,57,97,98,99,100,101,102] 0=(pM (UInt8.ofNat q.val):Int)) ∧
  (¬ 0≤kC (UInt8.ofNat q.val) [48,49,50,51,52,53,54,55,56,57,97,98,99,100,101,102] 0→(0≤kC (UInt8.ofNat q.val) [65,66,67,68,69,70] 0→jB (UInt8.ofNat q.val)=true∧10+kC (UInt8.ofNat q.val) [65,66,67,68,69,70] 0=(pM (UInt8.ofNat q.val):Int)∧kC (UInt8.ofNat q.val) [65,66,67,68,69,70] 0 < 6)∧(¬ 0≤kC (UInt8.ofNat q.val) [65,66,67,68,69,70] 0→jB (UInt8.ofNat q.val)=false)):=by decide +kernel
attribute [local irreducible] bK aX in
theorem b17:cZ Tryz.prog mO aB6:=by
 refine aAv (T:=[(dJ,pC)]) (aH.cons aG5 aH.nil) fun args v hv=>?_
 have c1:∀ args,bD [(dJ,pC)] dJ args=pC args:=fun _=>rfl
 unfold aB6 at hv
 split at hv <;> simp only [Option.ite_none_right_eq_some,Option.some.injEq,reduceCtorEq] at hv
 rename_i c0
 obtain ⟨⟨h0,h1⟩,rfl⟩:=hv
 obtain ⟨c,rfl⟩:∃ c:UInt8,c0=c.toNat:=⟨c0.toNat.toUInt8,by simp; omega⟩
 rw [show ((c.toNat:Int)).toNat.toUInt8=c by simp]
 refine ⟨rfl,rfl,rfl,?_⟩
 have hf:=aZ9 ⟨c.toNat,c.toNat_lt⟩
 have ec:UInt8.ofNat c.toNat=c:=by simp
 simp only [ec] at hf
 obtain ⟨f1,f2⟩:=hf
 refine Eq.mpr (aCf _ _ (.int .u8 c.toNat)) ?_
 rw [c1,a5a c (by decide),aB,aG6,aB]
 by_cases hA:0≤kC c [48,49,50,51,52,53,54,55,56,57,97,98,99,100,101,102] 0
 ·obtain ⟨g1,g2⟩:=f1 hA
  rw [decide_eq_true hA,dW,if_pos g1,g2]
 ·obtain ⟨k1,k2⟩:=f2 hA
  rw [decide_eq_false hA,cF,c1,a5a c (by decide),aB,aG6,aB]
  by_cases hB:0≤kC c [65,66,67,68,69,70] 0
  ·obtain ⟨g1,g2,g3⟩:=k1 hB
   have hw:aC .add (.int .i64 10) (.int .i64 (kC c [65,66,67,68,69,70] 0))=some (.int .i64 (pM c:Int)):=by
    show some (V.int .i64 (IntKind.i64.wrap (10+kC c [65,66,67,68,69,70] 0)))=_
    rw [dN (by omega) (by omega),g2]
   rw [decide_eq_true hB,dW,hw,aB,if_pos g1]
  ·rw [decide_eq_false hB,cF,if_neg (by rw [k2 hB]; decide)]
theorem aW6:∀ c:UInt8,jB c=true→pM c < 16:=by
 have h:∀ q:_root_.Fin 256,jB (UInt8.ofNat q.val)=true→pM (UInt8.ofNat q.val) < 16:=by decide +kernel
 intro c
 have:=h ⟨c.toNat,c.toNat_lt⟩
 simpa using this
def aQ5 (p:aE):Option (Int×aE):=(xA (p.s.drop p.a.toNat)).map fun r=>if r.2=0 then (-1,p) else ((r.1.toNat:Int),{ p with a:=p.a+r.2 })
def aBi:Spec
 | [.agg [.str s,.int .i64 a,.int .i64 d,.int .i64 e,.int .i64 b]]=>if s.length≤1000000000∧0≤a∧a < s.length then (aQ5 ⟨s,a,d,e,b⟩).map fun r=>.tup [.int .i64 r.1,.agg (pW r.2)] else none
 | _=>none
def shA:List UInt8:=[34,92,47,98,102,110,114,116]
def shB:List UInt8:=[34,92,47,8,12,10,13,9]
def b19 (c:UInt8):Bool:=match wM c with
 | some x=>decide (0 ≤ kC c shA 0) && (shB[(kC c shA 0).toNat]? == some x)
 | none=>!decide (0≤kC c shA 0)
theorem aT5:∀ q:_root_.Fin 256,b19 (UInt8.ofNat q.val)=true:=by decide +kernel
theorem aT6 (c:UInt8):match wM c with
  | some x=>0 ≤ kC c shA 0 ∧ shB[(kC c shA 0).toNat]? = some x
  | none=>¬ 0≤kC c shA 0:=by
 have h:=aT5 ⟨c.toNat,c.toNat_lt⟩
 have ec:UInt8.ofNat c.toNat=c:=by simp
 simp only [ec] at h
 unfold b19 at h
 split at h
 ·rename_i x hx
  rw [Bool.and_eq_true,beq_iff_eq,decide_eq_true_eq] at h
  exact h
 ·rename_i hx
  simpa using h
theorem aIl (l:List UInt8) (c:UInt8):gJ (l++[c])=16*gJ l+pM c:=by unfold gJ; rw [List.foldl_append]; rfl
noncomputable abbrev TRe:List (FuncId×Spec):=[(dJ,pC),(mO,aB6)]
attribute [local irreducible] bK aX in
theorem aW7:dX Tryz.prog qX bY aBi:=by
 refine yN (T:=TRe) (aH.cons aG5 (aH.cons b17 aH.nil)) fun words v hv=>?_
 have c1:∀ args,bD TRe dJ args=pC args:=fun _=>rfl
 have c2:∀ args,bD TRe mO args=aB6 args:=fun _=>rfl
 unfold aBi at hv
 split at hv <;> simp only [Option.ite_none_right_eq_some,Option.map_eq_some_iff,reduceCtorEq] at hv
 rename_i s a d e b
 obtain ⟨⟨hl,ha,hal⟩,res,hres,rfl⟩:=hv
 obtain ⟨a,rfl⟩:∃ n:Nat,a=n:=⟨a.toNat,by omega⟩
 refine ⟨_,rfl,rfl,rfl,rfl,rfl,rfl,?_⟩
 refine Eq.mpr (zF _ _ (.str s) (.int .i64 a) (.int .i64 d) (.int .i64 e) (.int .i64 b)) ?_
 have hag:∀ k:Int,aD [.str s,.int .i64 k,.int .i64 d,.int .i64 e,.int .i64 b]=some (.agg (pW ⟨s,k,d,e,b⟩)):=fun _=>rfl
 have hadd:∀ m:Nat,m≤10→aC .add (.int .i64 (a:Nat)) (.int .i64 (m:Nat))=some (.int .i64 ((a+m:Nat):Int)):=fun m hm=>by
  show some (V.int .i64 (IntKind.i64.wrap ((a:Int)+(m:Int))))=_
  rw [dN (by omega) (by omega)]; rfl
 have hadd1:=hadd 1 (by decide)
 have hadd2:=hadd 2 (by decide)
 have hadd6:=hadd 6 (by decide)
 have hls:fG (.str s)=some (.int .i64 s.length):=rfl
 unfold aQ5 at hres
 obtain ⟨r,hr,rfl⟩:=Option.map_eq_some_iff.1 hres
 have hr':xA (s.drop a)=some r:=hr
 unfold xA at hr'
 rw [List.length_drop] at hr'
 have hgd:(s.drop a).getD 1 0=s.getD (a+1) 0:=by rw [List.getD_eq_getElem?_getD,List.getD_eq_getElem?_getD,List.getElem?_drop]
 rw [hgd] at hr'
 rw [show (.int .i64 1:V) = .int .i64 ((1:Nat):Int) from rfl,hadd1,aB,hls,aB,aG6,aB]
 by_cases h2:s.length - a < 2
 ·rw [if_pos h2] at hr'
  cases hr'
  rw [decide_eq_true (by omega),dW,hag,aB]; rfl
 ·rw [if_neg h2] at hr'
  have hx : s[a + 1]? = some s[a + 1]:=List.getElem?_eq_getElem (by omega)
  have hix:cV (.str s) (.int .i64 ((a+1:Nat):Int))=some (.int .u8 (s[a+1]).toNat):=qK hx .i64
  rw [List.getD_eq_getElem?_getD,hx,Option.getD_some] at hr'
  have hsf:=aT6 s[a+1]
  have hne:∀ n:UInt8,aC .neq (.int .u8 (s[a+1]).toNat) (.int .u8 (n.toNat:Int))=some (.bool (decide (s[a+1]≠n))):=fun n=>by
   rw [aK6]
   by_cases e:s[a+1]=n
   ·rw [e]; simp
   ·have e2:¬ ((s[a+1]).toNat:Int)=(n.toNat:Int):=fun h=>e (toNat_inj h)
    rw [decide_eq_false e2,decide_eq_true e]; rfl
  have hn117:aC .neq (.int .u8 (s[a+1]).toNat) (.int .u8 117)=some (.bool (decide (s[a+1]≠117))):=hne 117
  generalize s[a+1]=c at *
  rw [decide_eq_false (by omega),cF,aB,hix,aB,c1,show pC [.str [34,92,47,98,102,110,114,116],.int .u8 c.toNat,.int .i64 0]=some (.int .i64 (kC c shA 0)) from a5a c (by decide),aB,aG6,aB]
  cases hsh:wM c with
  | some x =>
   rw [hsh] at hsf hr'
   dsimp only at hsf hr'
   cases hr'
   obtain ⟨q1,q2⟩:=hsf
   have hi:cV (.str [34,92,47,8,12,10,13,9]) (.int .i64 (kC c shA 0))=some (.int .u8 x.toNat):=by
    have:=qK (l:=shB) q2 .i64
    rw [Int.toNat_of_nonneg q1] at this
    exact this
   have hcv:kF .i64 (.int .u8 x.toNat)=some (.int .i64 x.toNat):=by
    show some (V.int .i64 (IntKind.i64.wrap x.toNat))=_
    rw [dN (by omega) (by have:=x.toNat_lt; omega)]
   rw [decide_eq_true q1,dW,show (.int .i64 2:V) = .int .i64 ((2:Nat):Int) from rfl,hadd2,aB,hi,aB,hcv,aB,hag,aB]; rfl
  | none =>
   rw [hsh] at hsf hr'
   dsimp only at hsf hr'
   rw [decide_eq_false hsf,cF,hn117,aB,show (.int .i64 6:V) = .int .i64 ((6:Nat):Int) from rfl,hadd6,aB,aB,aMa,aB,pk,aB]
   by_cases h6:c≠117∨s.length - a < 6
   ·rw [if_pos h6] at hr'
    cases hr'
    have e1:(if decide (c≠117)=true then V.bool true else V.bool (decide (((a+6:Nat):Int) > (s.length:Int)))) = .bool true:=by
     by_cases h:c=117
     ·rw [if_neg (by simp [h]),decide_eq_true (by rcases h6 with h6 | h6; exact absurd h h6; omega)]
     ·rw [if_pos (by simpa using h)]
    rw [e1,dW,hag,aB]; rfl
   ·rw [if_neg h6] at hr'
    simp only [not_or,Decidable.not_not,Nat.not_lt] at h6
    have e1:(if decide (c≠117)=true then V.bool true else V.bool (decide (((a+6:Nat):Int) > (s.length:Int)))) = .bool false:=by
     rw [if_neg (by simp [h6.1]),decide_eq_false (by omega)]
    rw [e1,cF]
    have hseg:∀ i,((s.drop a).take i).drop 2=(s.drop (a+2)).take (i - 2):=fun i=>by rw [List.drop_take,List.drop_drop]
    rw [hseg 6] at hr'
    refine gP (fun vs=>∃ i:Nat,vs=[.int .i64 (gJ ((s.drop (a+2)).take i):Nat),.int .i64 ((i+2:Nat):Int)]∧i≤4∧((s.drop (a+2)).take i).all jB=true∧gJ ((s.drop (a+2)).take i) < 16 ^ i) (fun vs=>6 - nQ (gv vs 1)) ⟨0,rfl,by decide,rfl,by show gJ (List.take 0 _) < 1; simp [gJ]⟩ ?_
    rintro r1 vs ⟨i,rfl,hi,hall,hlt⟩ hnext
    refine ⟨rfl,?_⟩
    have g0:∀ x y:V,gv [x,y] 0=x:=fun _ _=>rfl
    have g1:∀ x y:V,gv [x,y] 1=y:=fun _ _=>rfl
    have h16:16 ^ i≤65536:=by
     have:16 ^ i≤16 ^ 4:=Nat.pow_le_pow_right (by decide) hi
     simpa using this
    rw [g1,a0o,aB,g0]
    by_cases hi4:i < 4
    ·have hy : s[a + (i + 2)]? = some s[a + (i + 2)]:=List.getElem?_eq_getElem (by omega)
     have hiy:cV (.str s) (.int .i64 ((a+(i+2):Nat):Int))=some (.int .u8 (s[a+(i+2)]).toNat):=qK hy .i64
     have htk:(s.drop (a+2)).take (i+1)=(s.drop (a+2)).take i++[s[a+(i+2)]]:=by
      rw [List.take_add_one,List.getElem?_drop,show a+2+i=a+(i+2) by omega,hy]; rfl
     have hsub:∃ l,(s.drop (a+2)).take 4=(s.drop (a+2)).take i++[s[a+(i+2)]]++l:=by
      refine ⟨((s.drop (a+2)).take 4).drop (i+1),?_⟩
      rw [← htk]
      have:=List.take_append_drop (i+1) ((s.drop (a+2)).take 4)
      rw [List.take_take,Nat.min_eq_left (by omega)] at this
      exact this.symm
     generalize s[a+(i+2)]=y at *
     rw [decide_eq_true (by omega),dW,hadd (i+2) (by omega),aB,hiy,aB,c2,aW5,aB,a0o,aB]
     by_cases hh:jB y=true
     ·have hv:=aW6 y hh
      have hmul:aC .mul (.int .i64 16) (.int .i64 (gJ ((s.drop (a+2)).take i):Nat))=some (.int .i64 ((16*gJ ((s.drop (a+2)).take i):Nat):Int)):=by
       show some (V.int .i64 (IntKind.i64.wrap (16*(gJ ((s.drop (a+2)).take i):Int))))=_
       rw [dN (by omega) (by omega)]; rfl
      have hsum:aC .add (.int .i64 ((16*gJ ((s.drop (a+2)).take i):Nat):Int)) (.int .i64 (pM y:Int))=some (.int .i64 (gJ ((s.drop (a+2)).take (i+1)):Nat)):=by
       show some (V.int .i64 (IntKind.i64.wrap (((16*gJ ((s.drop (a+2)).take i):Nat):Int)+(pM y:Int))))=_
       rw [dN (by omega) (by omega),htk,aIl]; rfl
      rw [if_pos hh,decide_eq_false (by omega),cF,hmul,aB,hsum,aB,(show aC .add (.int .i64 ((i+2:Nat):Int)) (.int .i64 ((1:Nat):Int))=some (.int .i64 ((i+2+1:Nat):Int)) from aL9 (by omega)),aB]
      refine hnext _ ⟨i+1,rfl,by omega,?_,?_⟩ (by show 6 - (i+2+1) < 6 - (i+2); omega)
      ·rw [htk,List.all_append,hall]; simp [hh]
      ·rw [htk,aIl,Nat.pow_succ]; omega
     ·have hna:¬ (((s.drop (a+2)).take 4).all jB=true):=fun h=>by
       obtain ⟨l,el⟩:=hsub
       rw [el,List.all_append,List.all_append,Bool.and_eq_true,Bool.and_eq_true] at h
       exact hh (by simpa using h.1.2)
      rw [if_neg hna] at hr'
      cases hr'
      rw [if_neg hh,decide_eq_true (by decide),dW,hag,aB]; rfl
    ·obtain rfl:i=4:=by omega
     rw [if_pos hall] at hr'
     rw [decide_eq_false (by decide),cF,aMa,aB]
     by_cases h127:127 < gJ ((s.drop (a+2)).take 4)
     ·rw [if_pos h127] at hr'
      cases hr'
      rw [decide_eq_true (by omega),dW,hag,aB]; rfl
     ·rw [if_neg h127] at hr'
      cases hr'
      have hb:((gJ ((s.drop (a+2)).take 4)).toUInt8.toNat:Int)=(gJ ((s.drop (a+2)).take 4):Nat):=by
       rw [Nat.toUInt8,UInt8.toNat_ofNat']
       omega
      rw [decide_eq_false (by omega),cF,aB,hag,aB]
      dsimp only
      rw [if_neg (by decide),hb]; rfl
end Go.Fbs

namespace Go.Fbs
open Go.Proofs Go.RowKit
def sL (p:aE):V:=if (gN p).e=0 then jn 4 (x9 p) [] [] else jn 0 [] [] []
theorem aOo (q:aE):aD [.str q.s,.int .i64 (mU q).a,.int .i64 q.d,.int .i64 q.e,.int .i64 q.b]=some (.agg (pW (mU q))):=by
 unfold mU; split <;> rfl
theorem aQ6 (b:Bool):oS (.bool b)=some (.bool b):=rfl
noncomputable abbrev TRn:List (FuncId×Spec):=[(aG,tW),(bJ,wJ)]
attribute [local irreducible] bK aX in
theorem aNi:dX Tryz.prog qW bW (tL fun p=>some (sL p,gN p)):=by
 refine yM (T:=TRn) (aH.fD a68 (aH.fD aNh aH.nil)) fun words v hv=>?_
 have c1:∀ args,bD TRn aG args=tW args:=fun _=>rfl
 have c2:∀ args,bD TRn bJ args=wJ args:=fun _=>rfl
 obtain ⟨p,w,q0,rfl,hd,h1,rfl⟩:=aDy hv
 simp only [Option.some.injEq,Prod.mk.injEq] at h1
 obtain ⟨rfl,rfl⟩:=h1
 have hrc:(sL p).bR=true:=by unfold sL; split <;> rfl
 refine ⟨_,rfl,rfl,rfl,by simp [aJ,V.bR,a0k,hrc],rfl,rfl,?_⟩
 refine Eq.mpr (zE _ _ (.str p.s) (.int .i64 p.a) (.int .i64 p.d) (.int .i64 p.e) (.int .i64 p.b)) ?_
 have hah:=yT hd
 have hneq:∀ x y:Int,aC .neq (.int .i64 x) (.int .i64 y)=some (.bool (!decide (x=y))):=fun x y=>aK6 .i64 x y
 have hag0:aD [.int .i64 0,.str [],.sl .ro [],.sl .ro []]=some (jn 0 [] [] []):=rfl
 have hag4:∀ t,aD [.int .i64 4,.str t,.sl .ro [],.sl .ro []]=some (jn 4 t [] []):=fun _=>rfl
 have hT:∀ q:aE,q=gN p→(opt (aC .neq (.int .i64 q.e) (.int .i64 0)) fun y48=>aM y48 (opt (aD [(.int .i64 0),(.str []),(.sl .ro []),(.sl .ro [])]) fun y49=>opt (aD [(aA y49 0),(aA y49 1),(.sl .ro []),(.sl .ro [])]) fun y50=>opt (aD [.str q.s,.int .i64 q.a,.int .i64 q.d,.int .i64 q.e,.int .i64 q.b]) fun y51=>V.tup [y50,y51]=V.tup [sL p,.agg (pW (gN p))]) (opt (cO (.str q.s) (some (.int .i64 p.a)) (some (.int .i64 q.a))) fun y49=>opt (aD [(.int .i64 4),y49,(.sl .ro []),(.sl .ro [])]) fun y50=>opt (aD [(aA y50 0),(aA y50 1),(.sl .ro []),(.sl .ro [])]) fun y51=>opt (aD [.str q.s,.int .i64 q.a,.int .i64 q.d,.int .i64 q.e,.int .i64 q.b]) fun y52=>V.tup [y51,y52]=V.tup [sL p,.agg (pW (gN p))])):=by
  intro q hq
  have hsl:cO (.str q.s) (some (.int .i64 p.a)) (some (.int .i64 q.a))=some (.str (x9 p)):=by
   rw [hq,hah.s]
   have h1:=hd.2.1
   have h2:=hah.a
   have h3:(gN p).a≤p.s.length:=by have:=hah.aO.2.2; rw [hah.s] at this; exact this
   unfold cO iE
   dsimp only
   rw [if_pos ⟨by omega,h3⟩]
   dsimp only
   rw [if_pos ⟨h1,by omega⟩]
   rfl
  rw [hneq,aB,hsl]
  by_cases he:q.e=0
  ·rw [decide_eq_true he,show (!true)=false from rfl,cF,aB,hag4,aB,cJ0,zO,hag4,aB,cU,aB]
   unfold sL
   rw [if_pos (by rw [← hq]; exact he),hq]
  ·rw [decide_eq_false he,show (!false)=true from rfl,dW,hag0,aB,cJ0,zO,hag0,aB,cU,aB]
   unfold sL
   rw [if_neg (by rw [← hq]; exact he),hq]
 rw [cU,aB,c1,kP hd (by decide) (by decide),aB,nN,aB,nO,aB,dS,aB]
 have gs:∀ x:V,gv [x] 0=x:=fun _=>rfl
 have g32:∀ x y z:V,gv [x,y,z] 2=z:=fun _ _ _=>rfl
 refine fJ (fun w=>w=[.int .i64 (nM p).a]) (fun w hw=>?_) fun r hr=>?_
 case refine_2 =>
  by_cases h45:hI p=45
  ·rw [decide_eq_true h45,dW,fF,wD hd,aB]
   exact hr _ (by unfold nM; rw [if_pos h45]; rfl)
  ·rw [decide_eq_false h45,cF,fF]
   exact hr _ (by unfold nM; rw [if_neg h45])
 subst hw
 refine ⟨rfl,?_⟩
 have hd1:=(a8k hd).aO
 rw [gs,fP,fQ,fR,fS,aOa,aB,c1,kP hd1 (by decide) (by decide),aB,nN,aB,nO,aB,dS,aB]
 have hd2:=(a8l hd1).aO
 have hfin2:jO (lG (rZ (nM p)))=gN p:=rfl
 refine fJ (fun w=>w=pW (rZ (nM p))) (fun w hw=>?_) fun r hr=>?_
 case refine_2 =>
  by_cases h48:hI (nM p)=48
  ·rw [decide_eq_true h48,dW,fP,fF,fQ,fR,fS,wD hd1,aB]
   exact hr _ (by unfold rZ; rw [if_pos h48]; rfl)
  ·rw [decide_eq_false h48,cF,fP,fF,fQ,fR,fS,cU,aB,c2,pL hd1,aB,iM,aB,pT,aB,dS,aB,fP,fF,fQ,fR,fS]
   exact hr _ (by unfold rZ; rw [if_neg h48]; rfl)
 subst hw
 refine ⟨rfl,?_⟩
 generalize rZ (nM p)=q2 at hd2 hfin2
 rw [gp0,gp1,gp2,gp3,gp4,yZ,aB]
 by_cases he2:q2.e=0
 case neg =>
  have e3:lG q2=q2:=by unfold lG; rw [if_neg fun h=>he2 h.1]
  have e4:jO q2=q2:=by unfold jO; rw [if_neg fun h=>he2 h.1]
  rw [e3,e4] at hfin2
  rw [decide_eq_false he2,cF,aB,cF]
  exact hT q2 hfin2
 rw [decide_eq_true he2,dW,cU,aB,c1,kP hd2 (by decide) (by decide),aB,nN,aB,nO,aB,dS,aB]
 have hd3:=(a8m hd2).aO
 refine fJ (fun w=>w=pW (lG q2)) (fun w hw=>?_) fun r hr=>?_
 case refine_2 =>
  by_cases h46:hI q2=46
  ·have hda:=(fM hd2 (by rw [h46]; decide)).aO
   rw [decide_eq_true h46,dW,fP,fF,fQ,fR,fS,wD hd2,aB,agA,aB,c2,pL hda,aB,iM,aB,pT,aB,dS,aB,fP,fF,fQ,fR,fS]
   exact hr _ (by unfold lG; rw [if_pos ⟨he2,h46⟩]; rfl)
  ·rw [decide_eq_false h46,cF,fP,fF,fQ,fR,fS]
   exact hr _ (by unfold lG; rw [if_neg fun h=>h46 h.2]; rfl)
 subst hw
 refine ⟨rfl,?_⟩
 generalize lG q2=q at hd3 hfin2
 rw [gp0,gp1,gp2,gp3,gp4,yZ,aB]
 by_cases he:q.e=0
 case neg =>
  have e4:jO q=q:=by unfold jO; rw [if_neg fun h=>he h.1]
  rw [e4] at hfin2
  rw [decide_eq_false he,cF]
  exact hT q hfin2
 rw [decide_eq_true he,dW,cU,aB,c1,kP hd3 (by decide) (by decide),aB,nN,aB,nO,aB,dS,aB,aQ6,aB]
 by_cases hE:hI q=101
 ·rw [decide_eq_true hE,dW]
  have hda:=(fM hd3 (by rw [hE]; decide)).aO
  have h4:jO q=runM (mU (fI q)):=by unfold jO; rw [if_pos ⟨he,.inl hE⟩]
  rw [h4] at hfin2
  rw [fP,fF,fQ,fR,fS,wD hd3,aB,agA,aB]
  generalize fI q=q1 at hda hfin2
  have hd5:=(a2o hda).aO
  rw [c1,kP hda (by decide) (by decide),aB,nN,aB,nO,aB,dS,aB,aQ6,aB]
  by_cases h43:hI q1=43
  ·have h5:mU q1=fI q1:=by unfold mU; rw [if_pos (.inl h43)]
   rw [h5] at hfin2 hd5
   rw [decide_eq_true h43,dW,fP,fF,fQ,fR,fS,wD hda,aB,agA,aB,c2,pL hd5,aB,iM,aB,pT,aB,dS,aB,fP,fF,fQ,fR,fS]
   exact hT _ hfin2
  ·rw [decide_eq_false h43,cF,fP,fF,fQ,fR,fS,cU,aB,c1,kP hda (by decide) (by decide),aB,nN,aB,nO,aB,dS,aB]
   refine fJ (fun w=>∃ x y,w=[x,y,.int .i64 (mU q1).a]) (fun w hw=>?_) fun r hr=>?_
   ·obtain ⟨x,y,rfl⟩:=hw
    refine ⟨rfl,?_⟩
    rw [g32,fP,fQ,fR,fS,aOo,aB,c2,pL hd5,aB,iM,aB,pT,aB,dS,aB,fP,fF,fQ,fR,fS]
    exact hT _ hfin2
   ·by_cases h45:hI q1=45
    ·rw [decide_eq_true h45,dW,fF,wD hda,aB]
     exact hr _ ⟨_,_,by unfold mU; rw [if_pos (.inr h45)]; rfl⟩
    ·rw [decide_eq_false h45,cF,fF]
     exact hr _ ⟨_,_,by unfold mU; rw [if_neg fun h=>by rcases h with h | h; exact h43 h; exact h45 h]⟩
 rw [decide_eq_false hE,cF,fP,fF,fQ,fR,fS,cU,aB,c1,kP hd3 (by decide) (by decide),aB,nN,aB,nO,aB,dS,aB]
 by_cases hE2:hI q=69
 ·rw [decide_eq_true hE2,dW]
  have hda:=(fM hd3 (by rw [hE2]; decide)).aO
  have h4:jO q=runM (mU (fI q)):=by unfold jO; rw [if_pos ⟨he,.inr hE2⟩]
  rw [h4] at hfin2
  rw [fP,fF,fQ,fR,fS,wD hd3,aB,agA,aB]
  generalize fI q=q1 at hda hfin2
  have hd5:=(a2o hda).aO
  rw [c1,kP hda (by decide) (by decide),aB,nN,aB,nO,aB,dS,aB,aQ6,aB]
  by_cases h43:hI q1=43
  ·have h5:mU q1=fI q1:=by unfold mU; rw [if_pos (.inl h43)]
   rw [h5] at hfin2 hd5
   rw [decide_eq_true h43,dW,fP,fF,fQ,fR,fS,wD hda,aB,agA,aB,c2,pL hd5,aB,iM,aB,pT,aB,dS,aB,fP,fF,fQ,fR,fS]
   exact hT _ hfin2
  ·rw [decide_eq_false h43,cF,fP,fF,fQ,fR,fS,cU,aB,c1,kP hda (by decide) (by decide),aB,nN,aB,nO,aB,dS,aB]
   refine fJ (fun w=>∃ x y,w=[x,y,.int .i64 (mU q1).a]) (fun w hw=>?_) fun r hr=>?_
   ·obtain ⟨x,y,rfl⟩:=hw
    refine ⟨rfl,?_⟩
    rw [g32,fP,fQ,fR,fS,aOo,aB,c2,pL hd5,aB,iM,aB,pT,aB,dS,aB,fP,fF,fQ,fR,fS]
    exact hT _ hfin2
   ·by_cases h45:hI q1=45
    ·rw [decide_eq_true h45,dW,fF,wD hda,aB]
     exact hr _ ⟨_,_,by unfold mU; rw [if_pos (.inr h45)]; rfl⟩
    ·rw [decide_eq_false h45,cF,fF]
     exact hr _ ⟨_,_,by unfold mU; rw [if_neg fun h=>by rcases h with h | h; exact h43 h; exact h45 h]⟩
 have e4:jO q=q:=by unfold jO; rw [if_neg fun h=>by rcases h.2 with h | h; exact hE h; exact hE2 h]
 rw [e4] at hfin2
 rw [decide_eq_false hE2,cF,fP,fF,fQ,fR,fS]
 exact hT q hfin2
end Go.Fbs

namespace Go.Fbs
open Go.Proofs Go.RowKit
def xM:Spec
 | [.agg [.str s,.int .i64 a,.int .i64 d,.int .i64 e,.int .i64 b]]=>if (s.length≤1000000000∧0≤a∧a≤s.length)∧e=0 then (mW ⟨s,a,d,e,b⟩).map fun r=>.tup [.str r.1,.agg (pW r.2)] else none
 | _=>none
theorem aT7 {p:aE} (h:aZ p) (hs:p.s.length≤1000000000) (hlt:p.a < p.s.length) {r:UInt8×Nat} (hr:xA (p.s.drop p.a.toNat)=some r):aBi [.agg (pW p)]=some (.tup [.int .i64 (if r.2=0 then -1 else (r.1.toNat:Int)),.agg (pW (if r.2=0 then p else { p with a:=p.a+r.2 }))]):=by
 refine (if_pos ⟨hs,h.2.1,hlt⟩).trans ?_
 show (aQ5 p).map _=_
 unfold aQ5
 rw [hr]
 show some _=some _
 by_cases h0:r.2=0
 ·simp [h0]
 ·simp [h0]
noncomputable abbrev TRt:List (FuncId×Spec):=[(aG,tW),(aQ,aL),(lW,aBi)]
theorem aW8 (t:List UInt8) (q:aE):aJ [.str t,.agg (pW q)]=true:=by simp [aJ,V.bR,a0k]
attribute [local irreducible] bK aX in
theorem aIm:dX Tryz.prog tT cI xM:=by
 refine a0h (T:=TRt) (aH.fD a68 (aH.fD a1n (aH.fD aW7 aH.nil))) fun words v hv=>?_
 have c1:∀ args,bD TRt aG args=tW args:=fun _=>rfl
 have c2:∀ args,bD TRt aQ args=aL args:=fun _=>rfl
 have c3:∀ args,bD TRt lW args=aBi args:=fun _=>rfl
 unfold xM at hv
 split at hv <;> simp only [Option.ite_none_right_eq_some,Option.map_eq_some_iff,reduceCtorEq] at hv
 rename_i s a d e b
 obtain ⟨⟨⟨hs,h2,h3⟩,he⟩,res,hres,rfl⟩:=hv
 have hd:aZ ⟨s,a,d,e,b⟩:=⟨by show s.length≤jS; unfold jS; omega,h2,h3⟩
 refine ⟨_,rfl,rfl,rfl,aW8 _ _,rfl,rfl,?_⟩
 refine Eq.mpr (a1e _ _ (.str s) (.int .i64 a) (.int .i64 d) (.int .i64 e) (.int .i64 b)) ?_
 rw [show aD [.str s,.int .i64 a,.int .i64 d,.int .i64 e,.int .i64 b]=some (.agg (pW ⟨s,a,d,e,b⟩)) from rfl,aB]
 replace hs:(⟨s,a,d,e,b⟩:aE).s.length≤1000000000:=hs
 replace he:(⟨s,a,d,e,b⟩:aE).e=0:=he
 clear h2 h3
 generalize (⟨s,a,d,e,b⟩:aE)=p at *
 have nB:∀ b:Bool,unV .not (.bool b)=some (.bool (!b)):=fun b=>by cases b <;> rfl
 rw [c1,kP hd (by decide) (by decide),aB,nN,aB,nO,aB,dS,aB,nB,aB]
 unfold mW at hres
 have hn34:aV p 34=if hI p=34 then (true,fI p) else (false,aU p p.a 9):=aOn he 34
 rw [hn34] at hres
 by_cases h34:hI p=34
 case neg =>
  rw [if_neg h34] at hres
  dsimp only at hres
  rw [if_neg Bool.false_ne_true] at hres
  cases hres
  rw [decide_eq_false h34,show (!false)=true from rfl,dW,fP,fF,fQ,fR,fS,cU,aB,c2,mE,aB,iM,aB,pT,aB,dS,aB,fP,fF,fQ,fR,fS,cU,aB]
 rw [if_pos h34] at hres
 rw [if_pos rfl] at hres
 rw [decide_eq_true h34,show (!true)=false from rfl,cF,fP,fF,fQ,fR,fS,wD hd,aB]
 have hd1:=(fM hd (by rw [h34]; decide)).aO
 have hs1:(fI p).s.length≤1000000000:=hs
 refine a8q (fun n vs=>∃ out q,vs = .sl .ro (mD out)::pW q∧qA n out q=some res∧aZ q∧q.s.length≤1000000000) (p.s.length+2) ⟨[],fI p,rfl,hres,hd1,hs1⟩ (fun vs h=>by obtain ⟨_,_,_,h,_⟩:=h; cases h) ?_
 clear hres hd1 hs1 h34
 rintro n r0 vs ⟨out,q,rfl,hq,hdq,hsq⟩ hnext
 refine ⟨rfl,?_⟩
 rw [qA] at hq
 rw [gs4,yZ,aB]
 by_cases hqe:q.e=0
 case neg =>
  rw [if_neg hqe] at hq
  cases hq
  rw [decide_eq_false hqe,cF,mF,gs2,gs3,gs5,cU,aB]
 rw [if_pos hqe] at hq
 rw [decide_eq_true hqe,dW,mF,show fG (.str q.s)=some (.int .i64 q.s.length) from rfl,aB,gs2,aG6,aB]
 have hlt8:∀ x y:Int,aC .lss (.int .u8 x) (.int .u8 y)=some (.bool (decide (x < y))):=fun _ _=>rfl
 have hgt8:∀ x y:Int,aC .gtr (.int .u8 x) (.int .u8 y)=some (.bool (decide (x > y))):=fun _ _=>rfl
 have he8:∀ x y:Int,aC .eql (.int .u8 x) (.int .u8 y)=some (.bool (decide (x=y))):=fun _ _=>rfl
 have hbad:(hI q < 32∨126 < hI q)→∀ Z:Prop,((opt (aD [.str q.s,.int .i64 q.a,gv (.sl .ro (mD out)::pW q) 3,.int .i64 q.e,gv (.sl .ro (mD out)::pW q) 5]) fun y23=>opt (aL [y23,.int .i64 q.a,.int .i64 9]) fun y24=>opt (fA 0 y24) fun y25=>opt (extractV y24 0) fun y26=>opt (aP 5 y26) fun y27=>opt (aD [aA y27 0,aA y27 1,aA y27 2,aA y27 3,aA y27 4]) fun y28=>V.tup [.str [],y28]=V.tup [.str res.1,.agg (pW res.2)])↔True):=by
  intro hb Z
  rw [if_neg (by omega),if_neg (by omega),if_pos hb] at hq
  have hqf:(aU q q.a 9).e≠0:=wN (by decide)
  cases n with
  | zero=>cases hq
  | succ n =>
   rw [qA,if_neg hqf] at hq
   cases hq
   rw [gs3,gs5,cU,aB,mE,aB,iM,aB,pT,aB,dS,aB,fP,fF,fQ,fR,fS,cU,aB]
   exact ⟨fun _=>trivial,fun _=>rfl⟩
 by_cases hlt:q.a < q.s.length
 case neg =>
  have hz:=aMc hdq hlt
  rw [decide_eq_true (by omega),gfT,aB,gfT,aB,poT,aB,gfT,aB,gfT,aB,poT,aB,dW]
  simp only [c2]
  exact (hbad (.inl (by omega)) True).2 trivial
 rw [decide_eq_false (by omega),gfF,aMb hdq hlt,aB,gfF,hlt8,aB,poF,aB]
 by_cases h32:hI q < 32
 ·rw [decide_eq_true h32,gfT,aB,gfT,aB,poT,aB,dW]
  simp only [c2]
  exact (hbad (.inl h32) True).2 trivial
 rw [decide_eq_false h32,gfF,aB,gfF,hgt8,aB,poF,aB]
 by_cases h126:hI q > 126
 ·rw [decide_eq_true h126,dW]
  simp only [c2]
  exact (hbad (.inr h126) True).2 trivial
 clear hbad
 rw [decide_eq_false h126,cF,aB,he8,aB]
 by_cases h34:hI q=34
 ·rw [if_pos h34] at hq
  cases hq
  rw [decide_eq_true h34,dW,wD hdq,aB,gs0,aA2,aB,gs3,gs5,agA,aB]
 rw [if_neg h34] at hq
 have hcv:kF .i64 (.int .u8 (hI q))=some (.int .i64 (hI q)):=by
  show some (V.int .i64 (IntKind.i64.wrap (hI q)))=_
  rw [dN (by omega) (by omega)]
 have hcb:∀ c:UInt8,kF .u8 (.int .i64 (c.toNat:Int))=some (.int .u8 (c.toNat:Int)):=fun c=>by
  have h:∀ q:_root_.Fin 256,aBb (kF .u8 (.int .i64 (q.val:Int))) (q.val:Int)=true:=by decide +kernel
  exact a0m (h ⟨c.toNat,c.toNat_lt⟩)
 have jn7:∀ x y z u v w t:V,gv [x,y,z,u,v,w,t] 0=x∧gv [x,y,z,u,v,w,t] 1=y∧gv [x,y,z,u,v,w,t] 2=z∧gv [x,y,z,u,v,w,t] 3=u∧gv [x,y,z,u,v,w,t] 4=v∧gv [x,y,z,u,v,w,t] 5=w∧gv [x,y,z,u,v,w,t] 6=t:=fun _ _ _ _ _ _ _=>⟨rfl,rfl,rfl,rfl,rfl,rfl,rfl⟩
 rw [decide_eq_false h34,cF,hcv,aB,he8,aB]
 by_cases h92:hI q=92
 ·rw [if_pos h92] at hq
  cases hr0:xA (q.s.drop q.a.toNat) with
  | none=>rw [hr0] at hq; cases hq
  | some x =>
   rw [hr0] at hq
   simp only [Option.ite_none_right_eq_some] at hq
   obtain ⟨hlen,hq⟩:=hq
   have hk:=a2p hdq hr0
   refine fJ (fun w=>x.2≠0∧w=[.int .i64 (x.1.toNat:Int),.sl .ro (mD out),.int .i64 (q.a+x.2),.str q.s,.int .i64 q.d,.int .i64 q.e,.int .i64 q.b]) (fun w hw=>?_) fun r hr=>?_
   case refine_2 =>
    rw [decide_eq_true h92,dW,gs3,gs5,cU,aB,c3,aT7 hdq hsq hlt hr0,aB,nN,aB,nO,aB,dS,aB,a0o,aB]
    by_cases h0:x.2=0
    ·have hqf:(xB q x.2).e≠0:=by
      unfold xB
      rw [if_pos h0]
      exact wN (by decide)
     have hqe2:xB q x.2=aU q q.a 9:=by
      unfold xB
      rw [if_pos h0,h0]
      unfold aU
      rw [if_pos hqe]
      simp
     cases n with
     | zero=>cases hq
     | succ n =>
      rw [qA,if_neg hqf,hqe2] at hq
      cases hq
      rw [if_pos h0,if_pos h0,decide_eq_true (by decide),dW,fP,fF,fQ,fR,fS,cU,aB,c2,mE,aB,iM,aB,pT,aB,dS,aB,fP,fF,fQ,fR,fS,cU,aB]
    ·rw [if_neg h0,if_neg h0,decide_eq_false (by omega),cF,gs0]
     exact hr _ ⟨h0,rfl⟩
   obtain ⟨h0,rfl⟩:=hw
   refine ⟨rfl,?_⟩
   have hap:=a43 x.1 hlen
   obtain ⟨j0,j1,j2,j3,j4,j5,j6⟩:=jn7 (.int .i64 (x.1.toNat:Int)) (.sl .ro (mD out)) (.int .i64 (q.a+x.2)) (.str q.s) (.int .i64 q.d) (.int .i64 q.e) (.int .i64 q.b)
   rw [j0,j1,j2,j3,j4,j5,j6,hcb,aB,a8r,aB,hap,aB]
   refine hnext _ ⟨out++[x.1],xB q x.2,?_,hq,hk.aO,by rw [hk.s]; exact hsq⟩
   unfold xB
   rw [if_neg h0]; rfl
 ·rw [if_neg h92,if_neg (by omega)] at hq
  simp only [Option.ite_none_right_eq_some] at hq
  obtain ⟨hlen,hq⟩:=hq
  have hda:=fM hdq (by omega)
  refine fJ (fun w=>w=[.int .i64 (hI q),.sl .ro (mD out),.int .i64 (q.a+1),.str q.s,.int .i64 q.d,.int .i64 q.e,.int .i64 q.b]) (fun w hw=>?_) fun r hr=>?_
  case refine_2 =>
   rw [decide_eq_false h92,cF,wD hdq,aB,gs0,gs3,gs5]
   exact hr _ rfl
  subst hw
  refine ⟨rfl,?_⟩
  have hap:=a43 (dU q) hlen
  obtain ⟨j0,j1,j2,j3,j4,j5,j6⟩:=jn7 (.int .i64 (hI q)) (.sl .ro (mD out)) (.int .i64 (q.a+1)) (.str q.s) (.int .i64 q.d) (.int .i64 q.e) (.int .i64 q.b)
  rw [j0,j1,j2,j3,j4,j5,j6,show kF .u8 (.int .i64 (hI q))=some (.int .u8 (dU q).toNat) from hcb (dU q),aB,a8r,aB,hap,aB]
  exact hnext _ ⟨out++[dU q],fI q,rfl,hq,hda.aO,hsq⟩
end Go.Fbs
