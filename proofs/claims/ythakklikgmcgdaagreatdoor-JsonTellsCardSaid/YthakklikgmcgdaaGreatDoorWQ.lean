import Derived.Test.YthakklikgmcgdaaGreatDoorWP
import Derived.Test.YthakklikgmcgdaaGreatDoorXJ
set_option linter.unusedSimpArgs false
set_option linter.unusedVariables false
set_option linter.unusedSectionVars false
set_option maxRecDepth 100000
namespace Go.Fbs
open Go.Proofs Go.RowKit
def xB (p:aE) (k:Nat):aE:={ (if k=0 then aU p p.a 9 else p) with a:=p.a+k }
def qA:Nat→List UInt8→aE→Option (List UInt8×aE)
 | 0,_,_=>none
 | n+1,out,p =>
  if p.e=0 then
   if hI p=34 then some (out,fI p)
   else if hI p=92 then
    match xA (p.s.drop p.a.toNat) with
    | none=>none
    | some r=>if out.length≤1000000000 then qA n (out++[r.1]) (xB p r.2) else none
   else if hI p < 32∨126 < hI p then qA n out (aU p p.a 9)
   else if out.length≤1000000000 then qA n (out++[dU p]) (fI p) else none
  else some ([],p)
def mW (p:aE):Option (List UInt8×aE) :=
 if (aV p 34).1=true then qA (p.s.length+2) [] (aV p 34).2 else some ([],(aV p 34).2)
theorem pA {p:aE} (h:aZ p) (x y:Int):eZ p (aU p x y):=by
 refine ⟨x8 h x y,?_,?_,?_⟩ <;> unfold aU <;> split <;> first | rfl | exact Int.le_refl _
theorem aOe {l:List UInt8} {r:UInt8×Nat} (h:xA l=some r):r.2≤l.length∧r.2≤6:=by
 unfold xA at h
 split at h
 ·cases h; simp
 ·split at h
  ·cases h; simp; omega
  ·split at h
   ·cases h; simp
   ·rename_i h6
    simp only [not_or,Nat.not_lt] at h6
    split at h
    ·split at h <;> cases h <;> simp
     exact h6.2
    ·cases h; simp
theorem a2p {p:aE} (h:aZ p) {r:UInt8×Nat} (hr:xA (p.s.drop p.a.toNat)=some r):eZ p (xB p r.2):=by
 have hl:=(aOe hr).1
 rw [List.length_drop] at hl
 obtain ⟨h1,h2,h3⟩:=h
 have e:(if r.2=0 then aU p p.a 9 else p).s=p.s:=by split; unfold aU; split <;> rfl; rfl
 have e2:(if r.2=0 then aU p p.a 9 else p).d=p.d:=by split; unfold aU; split <;> rfl; rfl
 refine ⟨⟨?_,?_,?_⟩,e,e2,?_⟩
 ·show (if r.2=0 then aU p p.a 9 else p).s.length≤jS; rw [e]; exact h1
 ·show 0≤p.a+r.2; omega
 ·show p.a+r.2≤((if r.2=0 then aU p p.a 9 else p).s.length:Int); rw [e]; omega
 ·show p.a≤p.a+r.2; omega
theorem a0z:∀ {n:Nat} {out:List UInt8} {p:aE} {r:List UInt8×aE},aZ p→qA n out p=some r→eZ p r.2
 | 0,_,_,_,_,h=>by cases h
 | n+1,out,p,r,hd,h=>by
  rw [qA] at h
  split at h
  ·split at h
   ·rename_i e
    cases h
    exact fM hd (by rw [e]; decide)
   ·split at h
    ·split at h
     ·cases h
     ·rename_i r0 hr0
      split at h
      ·have k:=a2p hd hr0
       exact k.trans (a0z k.aO h)
      ·cases h
    ·split at h
     ·have k:=pA hd p.a 9
      exact k.trans (a0z k.aO h)
     ·split at h
      ·rename_i hc _
       have k:=fM hd (fun e=>hc (.inl (by omega)))
       exact k.trans (a0z k.aO h)
      ·cases h
  ·cases h; exact mV hd
theorem kO {p:aE} {r:List UInt8×aE} (hd:aZ p) (h:mW p=some r):eZ p r.2:=by
 have k:=kN hd 34 (by decide)
 unfold mW at h
 split at h
 ·exact k.trans (a0z k.aO h)
 ·cases h; exact k
def a23:Spec
 | [.agg [.str s,.int .i64 a,.int .i64 d,.int .i64 e,.int .i64 b]]=>if s.length≤jS∧0≤a∧a≤s.length then (mW ⟨s,a,d,e,b⟩).map fun r=>.tup [.str r.1,.agg (pW r.2)] else none
 | _=>none
noncomputable abbrev TLt:List (FuncId×Spec):=[(jV,dV),(bL,bU),(cS,aL),(sV,sW)]
theorem a8q {F:(List V→Prop)→List V→Prop} {vs:List V} (I:Nat→List V→Prop) (n:Nat) (h0:I n vs) (hz:∀ vs,¬ I 0 vs)
  (round:∀ (n:Nat) (r:List V→Prop) (vs:List V),I (n+1) vs→(∀ vs',I n vs'→r vs')→F r vs):jX F vs:=by
 refine ⟨n,?_⟩
 induction n generalizing vs with
 | zero=>exact absurd h0 (hz vs)
 | succ n ih=>exact round n _ vs h0 fun vs' h'=>ih h'
def mD (l:List UInt8):List V:=l.map fun c=>.int .u8 c.toNat
theorem aA2 (l:List UInt8):mN (.sl .ro (mD l))=some (.str l):=by
 simp only [mN,mD]
 refine Option.map_eq_some_iff.2 ⟨l,?_,rfl⟩
 induction l with
 | nil=>rfl
 | cons c l ih=>rw [List.map_cons,List.mapM_cons,ih]; simp
theorem aS8 (l:List UInt8):(mD l).length=l.length:=by simp [mD]
theorem a43 {l:List UInt8} (c:UInt8) (h:l.length≤1000000000):appK 1 1 (.sl .ro (mD l)) (.sl .ro [.int .u8 c.toNat])=some (.sl .ro (mD (l++[c]))):=by
 have hall:(mD l).all (fun e=>e.cells.length == 1)=true:=by
  rw [List.all_eq_true]
  intro x hx
  obtain ⟨c,_,rfl⟩:=List.mem_map.1 hx
  rfl
 simp only [appK]
 rw [if_pos ⟨by rw [aS8]; simp; omega,hall,rfl⟩]
 simp [mD]
theorem a8r (c:Int):kV 1 [.int .u8 c]=some (.sl .ro [.int .u8 c]):=rfl
theorem mE (p:aE) (x y:Int):aL [.agg (pW p),.int .i64 x,.int .i64 y]=some (.tup [.agg (pW (aU p x y))]):=by
 show some (V.tup [if p.e=0 then vP p.s p.a p.d y x else vP p.s p.a p.d p.e p.b])=_
 unfold aU
 split <;> rfl
theorem aWd {p:aE} (h:aZ p):cO (.str p.s) (some (.int .i64 p.a)) none=some (.str (p.s.drop p.a.toNat)):=by
 obtain ⟨n,hn⟩:∃ n:Nat,p.a=n:=⟨p.a.toNat,by have:=h.2.1; omega⟩
 rw [hn,Int.toNat_natCast]
 exact a5g (by have:=h.2.2; omega) _
theorem aH5:dX Tryz.prog a1a eV a23:=by
 refine a6p (T:=TLt) (aH.fD rY (aH.fD kK (aH.fD kL (aH.cons aGv aH.nil)))) fun words v hv=>?_
 have c1:∀ args,bD TLt jV args=dV args:=fun _=>rfl
 have c2:∀ args,bD TLt bL args=bU args:=fun _=>rfl
 have c3:∀ args,bD TLt cS args=aL args:=fun _=>rfl
 have c4:∀ args,bD TLt sV args=sW args:=fun _=>rfl
 unfold a23 at hv
 split at hv <;> simp only [Option.ite_none_right_eq_some,Option.map_eq_some_iff,reduceCtorEq] at hv
 rename_i s a d e b
 obtain ⟨hd,res,hres,rfl⟩:=hv
 refine ⟨_,rfl,rfl,rfl,rfl,rfl,rfl,?_⟩
 rw [a73]
 replace hd:aZ ⟨s,a,d,e,b⟩:=hd
 obtain ⟨p,hp⟩:∃ p:aE,p=⟨s,a,d,e,b⟩:=⟨_,rfl⟩
 have e1:s=p.s:=by rw [hp]
 have e2:a=p.a:=by rw [hp]
 have e3:d=p.d:=by rw [hp]
 have e4:e=p.e:=by rw [hp]
 have e5:b=p.b:=by rw [hp]
 rw [← hp] at hd hres
 rw [e1,e2,e3,e4,e5]
 clear hp e1 e2 e3 e4 e5 s a d e b
 have hn:dV [.agg (pW p),.int .u8 34]=some (.tup [.bool (aV p 34).1,.agg (pW (aV p 34).2)]):=aH4 hd 34
 have hd1:=a0j hd 34 (by decide)
 unfold mW at hres
 simp only [cU,c1,hn,wK,wL,r8,r9,rA,rB,rC,dS,sS,if_true,if_false,reduceCtorEq]
 by_cases hb:(aV p 34).1=true
 ·rw [if_pos hb] at hres
  rw [hb,if_neg (by decide)]
  generalize (aV p 34).2=p1 at hres hd1
  refine a8q (fun n vs=>∃ out q,vs = .sl .ro (mD out)::pW q∧qA n out q=some res∧aZ q) (p.s.length+2) ⟨[],p1,rfl,hres,hd1⟩ (fun vs h=>by obtain ⟨_,_,_,h,_⟩:=h; cases h) ?_
  rintro n r0 vs ⟨out,q,rfl,hq,hdq⟩ hnext
  refine ⟨rfl,?_⟩
  rw [qA] at hq
  simp only [gp0,gp1,gp2,gp3,gp4,gs0,mF,gs2,gs3,gs4,gs5,cU,sS,if_true,if_false,reduceCtorEq]
  by_cases he:q.e=0
  ·rw [if_pos he] at hq
   rw [decide_eq_true he,if_pos rfl]
   simp only [c2,r7 hdq,wK,wL,r8,r9,rA,rB,rC,dS,sS,if_true,if_false,reduceCtorEq]
   by_cases h34:hI q=34
   ·rw [if_pos h34] at hq
    cases hq
    rw [decide_eq_true h34,if_pos rfl,uL hdq]
    simp only [aA2,agA,sS,if_true,if_false,reduceCtorEq]
   ·rw [if_neg h34] at hq
    rw [decide_eq_false h34,if_neg (by decide)]
    by_cases h92:hI q=92
    ·rw [if_pos h92] at hq
     rw [decide_eq_true h92,if_pos rfl]
     cases hr0:xA (q.s.drop q.a.toNat) with
     | none=>rw [hr0] at hq; cases hq
     | some x =>
      rw [hr0] at hq
      simp only [Option.ite_none_right_eq_some] at hq
      obtain ⟨hlen,hq⟩:=hq
      have hF:sW [.str (q.s.drop q.a.toNat)]=some (.tup [.int .u8 x.1.toNat,.int .i64 x.2]):=by
       show (xA (q.s.drop q.a.toNat)).map _=_
       rw [hr0]; rfl
      have hk:=a2p hdq hr0
      have hl6:=(aOe hr0).2
      have hap:=a43 x.1 hlen
      have hwr:IntKind.i64.wrap (q.a+(x.2:Int))=q.a+(x.2:Int):=dN (by have:=hdq.2.1; omega) (by have:=hdq.1; have:=hdq.2.2; unfold jS at *; omega)
      simp only [aWd hdq,c4,hF,wK,wL,sS,if_true,if_false,reduceCtorEq]
      refine fJ (fun w=>w = .sl .ro (mD out)::pW (if x.2=0 then aU q q.a 9 else q)) (fun w hw=>?_) fun r hr=>?_
      ·subst hw
       have ea:(if x.2=0 then aU q q.a 9 else q).a=q.a:=by split; unfold aU; split <;> rfl; rfl
       refine ⟨rfl,?_⟩
       simp only [gs0,mF,gs2,gs3,gs4,gs5,gp0,gp1,gp2,gp3,gp4,a8r,hap,ea,sS,if_true,if_false,reduceCtorEq]
       rw [hwr]
       exact hnext _ ⟨out++[x.1],xB q x.2,rfl,hq,hk.aO⟩
      ·by_cases h0:x.2=0
       ·rw [decide_eq_true (by omega),if_pos rfl]
        rw [if_pos h0] at hr
        simp only [cU,c3,mE,gz2,iM,r8,r9,rA,rB,rC,dS,sS,if_true,if_false,reduceCtorEq]
        exact hr _ rfl
       ·rw [decide_eq_false (by omega),if_neg (by decide)]
        rw [if_neg h0] at hr
        exact hr _ rfl
    ·rw [if_neg h92] at hq
     rw [decide_eq_false h92,if_neg (by decide)]
     by_cases hx:hI q < 32∨126 < hI q
     ·have hb3:(decide (hI q < 32) || decide (126 < hI q))=true:=by simpa using hx
      rw [if_pos hx] at hq
      rw [hb3,if_pos rfl]
      simp only [cU,c3,mE,gz2,iM,r8,r9,rA,rB,rC,dS,sS,if_true,if_false,reduceCtorEq]
      exact hnext _ ⟨out,aU q q.a 9,rfl,hq,x8 hdq _ _⟩
     ·have hb3:(decide (hI q < 32) || decide (126 < hI q))=false:=by simpa using hx
      rw [if_neg hx] at hq
      rw [hb3,if_neg (by decide),uL hdq]
      split at hq
      ·rename_i hlen
       have hap:=a43 (dU q) hlen
       simp only [a8r,sS,if_true,if_false,reduceCtorEq]
       unfold hI
       simp only [hap,sS,if_true,if_false,reduceCtorEq]
       exact hnext _ ⟨out++[dU q],fI q,rfl,hq,(fM hdq (fun e=>hx (.inl (by omega)))).aO⟩
      ·cases hq
  ·rw [if_neg he] at hq
   cases hq
   rw [decide_eq_false he,if_neg (by decide)]
 ·have hb':(aV p 34).1=false:=by simpa using hb
  rw [if_neg hb] at hres
  cases hres
  rw [hb',if_pos (by decide)]
end Go.Fbs
