import Derived.Test.YtngdbicnabbplaaPI
set_option linter.unusedSimpArgs false
set_option linter.unusedVariables false
set_option maxRecDepth 100000
namespace Go.Fbs
open Go.Proofs
attribute [local irreducible] bD bV opt
structure fH where
 l:List gZ
 i:Nat
 n:Nat
 d:Nat
 o:List dQ
def vR (s:fH):V:=.agg [aP s.l,vI s.i,vI s.n,.int .i64 0,.int .i64 0,vI s.d,bT s.o,.int .i64 0]
theorem aL4 {s t:fH} (h:vR s=vR t):s=t:=by
 obtain ⟨l,i,n,d,o⟩:=s
 obtain ⟨l',i',n',d',o'⟩:=t
 simp only [vR,aP,bT,V.agg.injEq,List.cons.injEq,V.sl.injEq,V.int.injEq,true_and,and_true,Int.ofNat_inj] at h
 obtain ⟨h1,h2,h3,h4,h5⟩:=h
 rw [rB (fun _ _=>aO1) h1,h2,h3,h4,rB (fun _ _=>aBm) h5]
theorem oT (s:fH):(vR s).aN=true:=by
 simp only [vR,V.aN,aG,aG5,aD9,Bool.and_true]
def pC (g : List UInt8) (s : fH) : Bool:=match s.l[s.i]? with | some t=>decide (t.1 = 2) && (t.2.2 == g) | none=>false
def cJ (s:fH):fH:={ s with i:=s.i+1 }
def aKn (x:dQ) (s:fH):Option fH:=if s.o.length < 200 then some { s with o:=s.o++[x] } else none
theorem agR (s:fH):aD [aP s.l,vI s.i,vI s.n,.int .i64 0,.int .i64 0,vI s.d,bT s.o,.int .i64 0]=some (vR s):=nr rfl
theorem qP (s:fH):aD [aA (vR s) 0,aA (vR s) 1,aA (vR s) 2,aA (vR s) 3,aA (vR s) 4,aA (vR s) 5,aA (vR s) 6,aA (vR s) 7]=some (vR s):=nr rfl
theorem pN (s:fH):aJ 8 (vR s)=some (vR s):=nr rfl
theorem pT0 (t:gZ):mX false 1 0 (nG t)=some (vI t.1):=nr rfl
theorem aV1 (l:List gZ):gX (aP l)=some (vI l.length):=by simp [gX,aP]
theorem aRw {l : List gZ} {i : Nat} {t : gZ} (h : l[i]? = some t) : gN true 3 (aP l) (vI (i : Nat)) = some (nG t):=by
 refine a6v (cs:=[vI t.1,vI t.2.1,.str t.2.2]) ?_ rfl rfl .i64
 rw [zvz,h]; rfl
noncomputable def cQ:Spec:=fG (fun q:fH×List UInt8=>[vR q.1,.str q.2]) (fun _=>True) (fun q=>.aH [.bool (pC q.2 q.1),vR q.1])
theorem a7b (s:fH) (g:List UInt8):cQ [vR s,.str g]=some (.aH [.bool (pC g s),vR s]):=cK (a:=(s,g)) (fun a b h=>by
 simp only [List.cons.injEq,and_true,V.str.injEq] at h
 exact Prod.ext (aL4 h.1) h.2) trivial
theorem lI:bX Try.prog a3m fV cQ:=by
 refine a95 (T:=[]) aE.nil fun words v hv=>?_
 obtain ⟨⟨s,g⟩,rfl,_,rfl⟩:=bO hv
 refine ⟨_,rfl,rfl,by simp [aG,oT,V.aN],by simp [aG,oT,V.aN],rfl,rfl,?_⟩
 refine Eq.mpr (aBh (aM _) _ (aP s.l) (vI s.i) (vI s.n) (.int .i64 0) (.int .i64 0) (vI s.d) (bT s.o) (.int .i64 0) (.str g)) ?_
 simp only [aV1,aB,aBd,agR]
 unfold pC
 cases e : s.l[s.i]? with
 | none =>
  have h:¬ ((s.i:Int) < (s.l.length:Int)):=by have:=List.getElem?_eq_none_iff.1 e; omega
  simp [h,aU,cE,aB]
 | some t =>
  have h:((s.i:Int) < (s.l.length:Int)):=by have:=(zzy.1 e).1; omega
  simp only [aRw e,h,decide_true]
  by_cases h2:t.1=2
  ·simp only [sS,if_true,if_false,reduceCtorEq,pT0,pT2,h2,decide_true,Bool.true_and]
  ·simp only [sS,if_true,if_false,reduceCtorEq,pT0,pT2,h2,decide_false,Bool.false_and]
end Go.Fbs
namespace Go.Fbs
open Go.Proofs
attribute [local irreducible] bD bV opt
theorem b6x {s:fH} (h:s.i < 1000000):aF .add (vI s.i) (.int .i64 1)=some (vI ((s.i+1:Nat):Int)):=by
 rw [aGg,jC (by omega) (by omega)]; rfl
theorem bN9:∀ a b:fH×List UInt8,[vR a.1,V.str a.2]=[vR b.1,V.str b.2]→a=b:=fun a b h=>by
 simp only [List.cons.injEq,and_true,V.str.injEq] at h
 exact Prod.ext (aL4 h.1) h.2
theorem aAw (s:fH):aD [aA (vR s) 0,vI ((s.i+1:Nat):Int),aA (vR s) 2,aA (vR s) 3,aA (vR s) 4,aA (vR s) 5,aA (vR s) 6,aA (vR s) 7]=some (vR (cJ s)):=nr rfl
noncomputable def gS:Spec:=fG (fun q:fH×List UInt8=>[vR q.1,.str q.2]) (fun q=>pC q.2 q.1=true∧q.1.i < 1000000) (fun q=>.aH [vR (cJ q.1)])
theorem aL5 {s:fH} {g:List UInt8} (h:pC g s=true) (hi:s.i < 1000000):gS [vR s,.str g]=some (.aH [vR (cJ s)]):=cK (a:=(s,g)) bN9 ⟨h,hi⟩
noncomputable abbrev TLW:List (FuncId×Spec):=[(aT,cQ)]
theorem sW:bX Try.prog a1h fB gS:=by
 refine a8e (T:=TLW) (aE.cC lI aE.nil) fun words v hv=>?_
 have c1:∀ args,aM TLW aT args=cQ args:=fun _=>rfl
 obtain ⟨⟨s,g⟩,rfl,⟨h,hi⟩,rfl⟩:=bO hv
 simp only at h hi
 refine ⟨_,rfl,rfl,by simp [aG,oT,V.aN],by simp [aG,oT,V.aN],rfl,rfl,?_⟩
 refine Eq.mpr (a84 (aM _) _ (aP s.l) (vI s.i) (vI s.n) (.int .i64 0) (.int .i64 0) (vI s.d) (bT s.o) (.int .i64 0) (.str g)) ?_
 simp only [sS,if_true,if_false,reduceCtorEq,agR,c1,a7b,h,zux,zvx,pN]
 rw [show aA (vR s) 1=vI s.i from rfl,b6x hi,aB,aAw,aB]
 simp only [decide_true,Bool.not_true,zuy,if_false]
noncomputable def hU:Spec:=fG (fun q:fH×dQ×Nat=>[vR q.1,jX q.2.1,vI (q.2.2:Nat)]) (fun q=>q.1.o.length < 200) (fun q=>.aH [vR { q.1 with o:=q.1.o++[q.2.1] }])
theorem aRx {s:fH} (x:dQ) (a:Nat) (h:s.o.length < 200):hU [vR s,jX x,vI (a:Nat)]=some (.aH [vR { s with o:=s.o++[x] }]):=cK (a:=(s,x,a)) (fun a b h=>by
 simp only [List.cons.injEq,and_true,V.int.injEq,true_and,Int.ofNat_inj] at h
 exact Prod.ext (aL4 h.1) (Prod.ext (aBm h.2.1) h.2.2)) h
theorem bJ5 (x:dQ):l8 3 [jX x]=some (.sl .ro [jX x]):=nr rfl
theorem bMo (x:dQ):aJ 3 (jX x)=some (jX x):=nr rfl
theorem bJ6 {l:List dQ} (h:l.length < 1000) (x:dQ):nU 3 40 (bT l) (.sl .ro [jX x])=some (bT (l++[x])):=by
 show nU 3 40 (.sl .ro (l.map jX)) (.sl .ro ([x].map jX))=some (.sl .ro ((l++[x]).map jX))
 rw [aGh (by simp only [zsy,List.length_singleton]; omega) (aMs _) (aMs [x]),List.map_append]
theorem tQ:bX Try.prog a2o fK hU:=by
 refine a9a (T:=[]) aE.nil fun words v hv=>?_
 obtain ⟨⟨s,x,a⟩,rfl,h,rfl⟩:=bO hv
 simp only at h
 refine ⟨_,rfl,rfl,by simp [aG,oT,V.aN,jX],by simp [aG,oT,V.aN],rfl,rfl,?_⟩
 refine Eq.mpr (a99 (aM _) _ (aP s.l) (vI s.i) (vI s.n) (.int .i64 0) (.int .i64 0) (vI s.d) (bT s.o) (.int .i64 0) (jX x) (vI a)) ?_
 have eL:gX (bT s.o)=some (vI s.o.length):=by simp [gX,bT]
 have h2:¬ ((s.o.length:Int)=200):=by omega
 rw [bMo,aB]
 simp only [sS,if_true,if_false,reduceCtorEq,eL,h2,decide_true,decide_false,x7,zwx,List.length_nil,true_and,bJ5,bJ6 (show s.o.length < 1000 by omega)]
 rw [show aD [aP s.l,vI s.i,vI s.n,.int .i64 0,.int .i64 0,vI s.d,bT (s.o++[x]),.int .i64 0]=some (vR { s with o:=s.o++[x] }) from agR { s with o:=s.o++[x] },aB]
def aFl (w : List UInt8) : Bool:=(w.all fun c=>kB c.toNat) && (decide (1 ≤ w.length) && (decide (w.length ≤ 30) && ((w.head? != some 95) && (w != [116,121,112,101]))))
end Go.Fbs
namespace Go.Fbs
open Go.Proofs
attribute [local irreducible] bD bV opt
def iF:Spec
 | [.int .u8 c]=>some (.bool (kB c))
 | _=>none
theorem a8s:cU Try.prog iE iF:=by
 refine aKs (T:=[]) (aE.nil) fun args v hv=>?_
 unfold iF at hv
 split at hv <;> (try simp only [Option.ite_none_right_eq_some,zzz,reduceCtorEq] at hv)
 rename_i c
 subst hv
 refine ⟨rfl,rfl,rfl,?_⟩
 rw [aM7]
 by_cases h1:97≤c <;> by_cases h2:c≤122 <;> by_cases h3:48≤c <;> by_cases h4:c≤57 <;> by_cases h5:c=95 <;> simp [sS,if_true,if_false,reduceCtorEq,kB,h1,h2,h3,h4,h5]
def qY:Spec
 | [.str w]=>if w.length≤kT then some (.bool (aFl w)) else none
 | _=>none
theorem aHz:cU Try.prog qV qY:=by
 refine aGr (T:=[(iE,iF)]) (aE.cons a8s aE.nil) fun args v hv=>?_
 have c_entailref6_part:∀ args,aM [(iE,iF)] iE args=iF args:=fun _=>rfl
 unfold qY at hv
 split at hv <;> (try simp only [Option.ite_none_right_eq_some,zzz,reduceCtorEq] at hv)
 rename_i w
 obtain ⟨hl,rfl⟩:=hv
 unfold kT at hl
 refine ⟨rfl,rfl,rfl,?_⟩
 refine Eq.mpr (aI5 (aM _) _ (.str w)) ?_
 refine fX (fun vs=>∃ k:Nat,vs=[vI k]∧k≤w.length∧(w.take k).all (fun c=>kB c.toNat)=true) (fun vs=>w.length - iG (gv vs 0)) ⟨0,rfl,Nat.zero_le _,rfl⟩ ?_
 rintro r _ ⟨k,rfl,hk,ha⟩ hr
 refine ⟨rfl,?_⟩
 simp only [sS,if_true,if_false,reduceCtorEq]
 by_cases hlt:k < w.length
 ·have hlt':(k:Int) < (w.length:Int):=by omega
  have hc : w[k]? = some w[k]:=zyz hlt
  simp only [hlt',decide_true,sS,if_true,if_false,reduceCtorEq,vP hc,c_entailref6_part,iF]
  cases hb:kB (w[k]).toNat with
  | false =>
   have:aFl w=false:=by
    unfold aFl
    have:(w.all fun c=>kB c.toNat)=false:=by
     rw [List.all_eq_false]
     exact ⟨w[k],List.getElem_mem hlt,by simp [hb]⟩
    rw [this]; rfl
   simp only [sS,if_true,if_false,reduceCtorEq,this]
  | true =>
   simp only [sS,if_true,if_false,reduceCtorEq]
   rw [jC (by omega) (by omega)]
   refine hr _ ⟨k+1,rfl,hlt,?_⟩ (by simp [gv,iG]; omega)
   rw [List.take_add_one,List.all_append,ha,hc]
   simp [hb]
 ·have hlt':¬ (k:Int) < (w.length:Int):=by omega
  have e:w.take k=w:=List.take_of_length_le (by omega)
  rw [e] at ha
  simp only [hlt',decide_false,sS,if_true,if_false,reduceCtorEq]
  unfold aFl
  rw [ha]
  cases w with
  | nil=>simp [sS,if_true,if_false,reduceCtorEq,aU,cE]
  | cons c r =>
   have h1:(1:Int)≤((c::r).length:Int):=by simp only [zwx]; omega
   have h1':1≤(c::r).length:=by simp only [zwx]; omega
   simp only [h1,h1',decide_true,sS,if_true,if_false,reduceCtorEq]
   by_cases h30:(c::r).length≤30
   ·have h30':((c::r).length:Int)≤30:=by omega
    have i0:l7 (.str (c::r)) (.int .i64 0)=some (.int .u8 c.toNat):=vP (k:=0) rfl .i64
    have e95:decide ((c.toNat:Int)=95)=(c == 95):=by
     by_cases h:c=95
     ·subst h; rfl
     ·have h2:¬ (c.toNat:Int)=95:=fun e=>h (UInt8.toNat_inj.1 (by rw [show (95:UInt8).toNat=95 from rfl]; omega))
      have h3:(c == 95)=false:=by simpa using h
      rw [h3]; simpa using h2
    simp only [h30,h30',decide_true,sS,if_true,if_false,reduceCtorEq,i0,e95,List.head?_cons]
    rfl
   ·have h30':¬ ((c::r).length:Int)≤30:=by omega
    simp only [h30,h30',decide_false,sS,if_true,if_false,reduceCtorEq]
def uS (s : fH) : Option (List UInt8):=match s.l[s.i]? with | some t=>if t.1 = 1 ∧ aFl t.2.2 = true ∧ t.2.2.length ≤ kT then some t.2.2 else none | none=>none
noncomputable def gT:Spec:=fG (fun q:fH=>[vR q]) (fun q=>(uS q).isSome=true∧q.i < 1000000) (fun q=>.aH [.str ((uS q).getD []),vR (cJ q)])
theorem aFm {s:fH} {w:List UInt8} (h:uS s=some w) (hi:s.i < 1000000):gT [vR s]=some (.aH [.str w,vR (cJ s)]):=by
 have:=cK (c:=fun q:fH=>[vR q]) (ok:=fun q=>(uS q).isSome=true∧q.i < 1000000) (r:=fun q=>.aH [.str ((uS q).getD []),vR (cJ q)]) (fun a b h=>aL4 (by simpa using h)) (a:=s) ⟨by rw [h]; rfl,hi⟩
 rw [h] at this
 exact this
abbrev TLN:List (FuncId×Spec):=[(qV,qY)]
theorem sX:bX Try.prog a1g fC gT:=by
 refine a8d (T:=TLN) (aE.cons aHz aE.nil) fun words v hv=>?_
 have c1:∀ args,aM TLN qV args=qY args:=fun _=>rfl
 obtain ⟨s,rfl,⟨h,hi⟩,rfl⟩:=bO hv
 obtain ⟨w,hw⟩:=Option.isSome_iff_exists.1 h
 rw [hw,Option.getD_some]
 refine ⟨_,rfl,rfl,by simp [aG,oT],by simp [aG,oT,V.aN],rfl,rfl,?_⟩
 refine Eq.mpr (a82 (aM _) _ (aP s.l) (vI s.i) (vI s.n) (.int .i64 0) (.int .i64 0) (vI s.d) (bT s.o) (.int .i64 0)) ?_
 unfold uS at hw
 cases e : s.l[s.i]? with
 | none=>rw [e] at hw; simp at hw
 | some t =>
  rw [e] at hw
  simp only [Option.ite_none_right_eq_some,zzz] at hw
  obtain ⟨⟨h1,h2,h3⟩,rfl⟩:=hw
  have hlt:=(zzy.1 e).1
  have q1:¬ ((s.l.length:Int)≤(s.i:Int)):=by omega
  simp only [sS,if_true,if_false,reduceCtorEq,aV1,q1,decide_true,decide_false,aRw e,pT0,pT2,h1,c1,qY,h2,h3]
  have w1:IntKind.i64.wrap ((s.i:Int)+1)=(s.i:Int)+1:=jC (by omega) (by omega)
  have w2:IntKind.i64.wrap ((s.i:Int)+1 - 1)=(s.i:Int)+1 - 1:=jC (by omega) (by omega)
  rw [w1,w2,show ((s.i:Int)+1 - 1)=(s.i:Int) by omega,aRw e,aB]
  rw [show aD [aP s.l,.int .i64 ((s.i:Int)+1),vI s.n,.int .i64 0,.int .i64 0,vI s.d,bT s.o,.int .i64 0]=some (vR (cJ s)) from rfl,aB]
  rfl
end Go.Fbs
namespace Go.Fbs
open Go.Proofs
attribute [local irreducible] bD bV opt
def b6y (s : fH) : Nat:=match s.l[s.i]? with | some t=>t.2.1 | none=>s.n
noncomputable def gV:Spec:=fG (fun s:fH=>[vR s]) (fun _=>True) (fun s=>.aH [vI (b6y s:Nat),vR s])
theorem b6z:∀ a b:fH,[vR a]=[vR b]→a=b:=fun a b h=>aL4 (by simpa using h)
theorem aRy (s:fH):gV [vR s]=some (.aH [vI (b6y s:Nat),vR s]):=cK b6z trivial
theorem sY:bX Try.prog a1i fA gV:=by
 refine a8f (T:=[]) aE.nil fun words v hv=>?_
 obtain ⟨s,rfl,_,rfl⟩:=bO hv
 refine ⟨_,rfl,rfl,by simp [aG,oT],by simp [aG,oT,V.aN],rfl,rfl,?_⟩
 refine Eq.mpr (a86 (aM _) _ (aP s.l) (vI s.i) (vI s.n) (.int .i64 0) (.int .i64 0) (vI s.d) (bT s.o) (.int .i64 0)) ?_
 simp only [sS,if_true,if_false,reduceCtorEq,aV1,agR]
 unfold b6y
 cases e : s.l[s.i]? with
 | none =>
  have h:¬ ((s.i:Int) < (s.l.length:Int)):=by have:=List.getElem?_eq_none_iff.1 e; omega
  simp only [h,decide_false,sS,if_true,if_false,reduceCtorEq]
 | some t =>
  have h:((s.i:Int) < (s.l.length:Int)):=by have:=(zzy.1 e).1; omega
  simp only [h,decide_true,aRw e,sS,if_true,if_false,reduceCtorEq]
  rfl
abbrev RO:=fH→Option fH
def aB8 (expr:RO) (s:fH):Option fH :=
 if pC [40] s then
  if s.d=20 then none
  else (expr { s with i:=s.i+1,d:=s.d+1 }).bind fun r=>if pC [41] r then some { r with i:=r.i+1,d:=r.d - 1 } else none
 else (uS s).bind fun a =>
  if pC [45,62] (cJ s) then (uS (cJ (cJ s))).bind fun b=>aKn (2,a,b) (cJ (cJ (cJ s)))
  else aKn (1,a,[]) (cJ s)
def kK (s:fH):Prop:=s.i≤s.l.length∧s.l.length≤500000
structure a2l (f:RO):Prop where
 g:∀ s r,kK s→f s=some r→kK r∧r.d=s.d∧r.l=s.l∧s.i < r.i
theorem lQ {g:List UInt8} {s:fH} (h:pC g s=true):s.i < s.l.length:=by
 unfold pC at h
 split at h
 ·rename_i t e; exact (zzy.1 e).1
 ·simp at h
theorem uL {s:fH} {w:List UInt8} (h:uS s=some w):s.i < s.l.length:=by
 unfold uS at h
 split at h
 ·rename_i t e; exact (zzy.1 e).1
 ·simp at h
theorem wW {x:dQ} {s r:fH} (h:aKn x s=some r):s.o.length < 200∧r = { s with o:=s.o++[x] }:=by
 unfold aKn at h
 split at h
 ·rename_i hl; exact ⟨hl,by simpa using h.symm⟩
 ·simp at h
theorem aZ4 {e:RO} (h:a2l e):a2l (aB8 e):=by
 refine ⟨fun s r hs hr=>?_⟩
 unfold aB8 at hr
 split at hr
 ·rename_i h40
  have hlt:=lQ h40
  split at hr
  ·simp at hr
  ·obtain ⟨q,hq,h2⟩:=zwz.1 hr
   have g:=h.g _ q (show kK { s with i:=s.i+1,d:=s.d+1 } from ⟨hlt,hs.2⟩) hq
   simp only at g
   split at h2
   ·rename_i h41
    have hl2:=lQ h41
    simp only [zzz] at h2
    subst h2
    exact ⟨⟨hl2,g.1.2⟩,by show q.d - 1=s.d; omega,g.2.2.1,by show s.i < q.i+1; omega⟩
   ·simp at h2
 ·obtain ⟨a,ha,h2⟩:=zwz.1 hr
  have hlt:=uL ha
  split at h2
  ·rename_i h62
   have hl2:=lQ h62
   obtain ⟨b,hb,h3⟩:=zwz.1 h2
   have hl3:=uL hb
   obtain ⟨_,rfl⟩:=wW h3
   exact ⟨⟨hl3,hs.2⟩,rfl,rfl,by show s.i < s.i+1+1+1; omega⟩
  ·obtain ⟨_,rfl⟩:=wW h2
   exact ⟨⟨hlt,hs.2⟩,rfl,rfl,by show s.i < s.i+1; omega⟩
end Go.Fbs
namespace Go.Fbs
open Go.Proofs
attribute [local irreducible] bD bV opt
def tY (fac:RO):Nat→fH→Option fH
 | 0,_=>none
 | k+1,s=>if pC [38] s then (fac (cJ s)).bind fun r=>(aKn (5,[],[]) r).bind fun q=>tY fac k q else some s
def aL6 (fac:RO) (s:fH):Option fH:=(fac s).bind fun r=>tY fac (r.l.length+1) r
def xK (ter:RO):Nat→fH→Option fH
 | 0,_=>none
 | k+1,s=>if pC [43] s || pC [45] s then (ter (cJ s)).bind fun r=>(aKn (if pC [45] s then 4 else 3,[],[]) r).bind fun q=>xK ter k q else some s
def aL7 (ter:RO) (s:fH):Option fH:=(ter s).bind fun r=>xK ter (r.l.length+1) r
def zU:Nat→RO
 | 0=>fun _=>none
 | f+1=>aB8 (aL7 (aL6 (zU f)))
noncomputable def yI (f:RO):Spec:=fG (fun s:fH=>[vR s]) (fun s=>kK s∧s.d≤20∧(f s).isSome=true) (fun s=>.aH [vR ((f s).getD s)])
theorem Fro {f:RO} {s r:fH} (h:f s=some r) (hs:kK s) (hd:s.d≤20):yI f [vR s]=some (.aH [vR r]):=by
 have:=cK (c:=fun q:fH=>[vR q]) (ok:=fun s=>kK s∧s.d≤20∧(f s).isSome=true) (r:=fun s=>.aH [vR ((f s).getD s)]) b6z (a:=s) ⟨hs,hd,by rw [h]; rfl⟩
 rw [h] at this
 exact this
theorem aL8 (k:Int) (a b:List UInt8):aD [.int .i64 k,.str a,.str b]=some (jX (k,a,b)):=nr rfl
theorem bJ7 (s:fH) (i d:Nat):aD [aA (vR s) 0,vI (i:Nat),aA (vR s) 2,aA (vR s) 3,aA (vR s) 4,vI (d:Nat),aA (vR s) 6,aA (vR s) 7]=some (vR { s with i:=i,d:=d }):=nr rfl
theorem bOa (s:fH) (d:Nat):aD [aA (vR s) 0,aA (vR s) 1,aA (vR s) 2,aA (vR s) 3,aA (vR s) 4,vI (d:Nat),aA (vR s) 6,aA (vR s) 7]=some (vR { s with d:=d }):=nr rfl
theorem cR (s:fH):aA (vR s) 3 = .int .i64 0∧aA (vR s) 1=vI s.i∧aA (vR s) 5=vI s.d:=⟨rfl,rfl,rfl⟩
theorem e0R (s:fH):aF .eql (aA (vR s) 3) (.int .i64 0)=some (.bool true):=by
 rw [(cR s).1,uV]; rfl
theorem aAm {s:fH} (h:s.i < 1000000):aF .add (aA (vR s) 1) (.int .i64 1)=some (vI ((s.i+1:Nat):Int)):=b6x h
theorem bMp {s:fH} (h:s.d < 1000):aF .add (aA (vR s) 5) (.int .i64 1)=some (vI ((s.d+1:Nat):Int)):=by
 rw [(cR s).2.2,aGg,jC (by omega) (by omega)]; rfl
theorem bMq {s:fH} (h:s.d < 1000) (h0:0 < s.d):aF .sub (aA (vR s) 5) (.int .i64 1)=some (vI ((s.d - 1:Nat):Int)):=by
 rw [(cR s).2.2,bCm,jC (by omega) (by omega)]
 rw [show ((s.d:Int) - 1)=((s.d - 1:Nat):Int) by omega]
theorem a1y (a:V):kC 0 (.aH [a])=some (.aH []):=nr rfl
theorem aPo (w:List UInt8):kP (.str w)=some (.str w):=nr rfl
noncomputable abbrev TLF (e:RO):List (FuncId×Spec):=[(fU,gV),(aT,cQ),(lB,yI e),(bG,gS),(cD,gT),(cM,hU)]
theorem b60 {e:RO} (ge:a2l e) (he:bX Try.prog nA cN (yI e)):bX Try.prog kA bZ (yI (aB8 e)):=by
 refine xN (T:=TLF e) (aE.cC sY (aE.cC lI (aE.cC he (aE.cC sW (aE.cC sX (aE.cC tQ aE.nil)))))) fun words v hv=>?_
 have c1:∀ args,aM (TLF e) fU args=gV args:=fun _=>rfl
 have c2:∀ args,aM (TLF e) aT args=cQ args:=fun _=>rfl
 have c3:∀ args,aM (TLF e) lB args=yI e args:=fun _=>rfl
 have c4:∀ args,aM (TLF e) bG args=gS args:=fun _=>rfl
 have c5:∀ args,aM (TLF e) cD args=gT args:=fun _=>rfl
 have c6:∀ args,aM (TLF e) cM args=hU args:=fun _=>rfl
 obtain ⟨s,rfl,⟨hs,hd,hsome⟩,rfl⟩:=bO hv
 obtain ⟨r,hr⟩:=Option.isSome_iff_exists.1 hsome
 rw [hr,Option.getD_some]
 refine ⟨_,rfl,rfl,by simp [aG,oT],by simp [aG,oT,V.aN],rfl,rfl,?_⟩
 refine Eq.mpr (a6w (aM _) _ (aP s.l) (vI s.i) (vI s.n) (.int .i64 0) (.int .i64 0) (vI s.d) (bT s.o) (.int .i64 0)) ?_
 rw [agR,aB,c1,aRy,aB,x0,aB,x1,aB,pN,aB,e0R,aB,wJ]
 rw [qP,aB,c2,a7b,aB,x0,aB,x1,aB,pN,aB,aQ]
 unfold aB8 at hr
 by_cases h40:pC [40] s=true
 ·rw [if_pos h40] at hr
  rw [if_pos h40]
  have hlt:=lQ h40
  split at hr
  ·simp at hr
  ·rename_i h20
   obtain ⟨q,hq,h2⟩:=zwz.1 hr
   have g:=ge.g _ q (show kK { s with i:=s.i+1,d:=s.d+1 } from ⟨hlt,hs.2⟩) hq
   simp only at g
   split at h2
   ·rename_i h41
    have hl2:=lQ h41
    simp only [zzz] at h2
    subst h2
    have hw:=hs.2
    have gw:=g.1.2
    rw [show aF .eql (aA (vR s) 5) (.int .i64 20)=some (.bool false) by rw [(cR s).2.2,uV,decide_eq_false (by omega)],aB,z8]
    rw [bMp (by omega),aB,aAm (by omega),aB,bJ7,aB,c3,Fro hq ⟨hlt,hs.2⟩ (by show s.d+1≤20; omega),aB,a1y,aB,x0,aB,pN,aB,qP,aB]
    rw [c4,aL5 h41 (by omega),aB,a1y,aB,x0,aB,pN,aB,bMq (s:=cJ q) (by show q.d < 1000; omega) (by show 0 < q.d; omega),aB,bOa,aB]
    rfl
   ·simp at h2
 ·rw [if_neg h40] at hr
  rw [if_neg h40]
  obtain ⟨a,ha,h2⟩:=zwz.1 hr
  have hlt:=uL ha
  have hw:=hs.2
  rw [qP,aB,c5,aFm ha (by omega),aB,x0,aB,x1,aB,pN,aB,e0R,aB,wJ]
  rw [qP,aB,c2,a7b,aB,x0,aB,x1,aB,pN,aB,aQ]
  by_cases h62:pC [45,62] (cJ s)=true
  ·rw [if_pos h62] at h2
   rw [if_pos h62]
   have hl2:s.i+1 < s.l.length:=lQ h62
   obtain ⟨b,hb,h3⟩:=zwz.1 h2
   have hl3:s.i+1+1 < s.l.length:=uL hb
   obtain ⟨ho,rfl⟩:=wW h3
   rw [aAm (s:=cJ s) (by show s.i+1 < 1000000; omega),aB,aAw (cJ s),aB,c5,aFm hb (by show s.i+1+1 < 1000000; omega),aB,x0,aB,x1,aB,pN,aB,aPo,aB,aPo,aB,aL8,aB,qP,aB,c6,aRx _ _ ho,aB,a1y,aB,x0,aB,pN,aB,qP,aB]
  ·rw [if_neg h62] at h2
   rw [if_neg h62]
   obtain ⟨ho,rfl⟩:=wW h2
   rw [aPo,aB,aL8,aB,qP,aB,c6,aRx _ _ ho,aB,a1y,aB,x0,aB,pN,aB,qP,aB]
end Go.Fbs
