import Derived.Test.YtngdbicnabbplaaPI
set_option linter.unusedSimpArgs false
set_option linter.unusedVariables false
set_option linter.unusedSectionVars false
set_option maxRecDepth 100000
namespace Go.Fbs
open Go.Proofs
attribute [local irreducible] bW cC opt
structure aY where
 l:List eP
 i:Nat
 n:Nat
 d:Nat
 o:List cV
def vR (s:aY):V:=.agg [bJ s.l,vI s.i,vI s.n,.int .i64 0,.int .i64 0,vI s.d,fE s.o,.int .i64 0]
theorem aGv {s t:aY} (h:vR s=vR t):s=t:=by
 obtain ⟨l,i,n,d,o⟩:=s
 obtain ⟨l',i',n',d',o'⟩:=t
 simp only [vR,bJ,fE,V.agg.injEq,List.cons.injEq,V.sl.injEq,V.int.injEq,true_and,and_true,Int.ofNat_inj] at h
 obtain ⟨h1,h2,h3,h4,h5⟩:=h
 rw [sO (fun _ _=>b8e) h1,h2,h3,h4,sO (fun _ _=>aKo) h5]
theorem kP (s:aY):(vR s).bU=true:=by
 simp only [vR,V.bU,aL,aMt,aJf,Bool.and_true]
def fC (g : List UInt8) (s : aY) : Bool:=match s.l[s.i]? with | some t=>decide (t.1 = 2) && (t.2.2 == g) | none=>false
def aE (s:aY):aY:={ s with i:=s.i+1 }
def a8c (x:cV) (s:aY):Option aY:=if s.o.length < 200 then some { s with o:=s.o++[x] } else none
theorem agR (s:aY):aG [bJ s.l,vI s.i,vI s.n,.int .i64 0,.int .i64 0,vI s.d,fE s.o,.int .i64 0]=some (vR s):=nr rfl
theorem oQ (s:aY):aG [aA (vR s) 0,aA (vR s) 1,aA (vR s) 2,aA (vR s) 3,aA (vR s) 4,aA (vR s) 5,aA (vR s) 6,aA (vR s) 7]=some (vR s):=nr rfl
theorem nC (s:aY):bF 8 (vR s)=some (vR s):=nr rfl
theorem pT0 (t:eP):uC false 1 0 (wB t)=some (vI t.1):=nr rfl
theorem aR9 (l:List eP):jA (bJ l)=some (vI l.length):=by simp [jA,bJ]
theorem aM2 {l : List eP} {i : Nat} {t : eP} (h : l[i]? = some t) : gX true 3 (bJ l) (vI (i : Nat)) = some (wB t):=by
 refine aCm (cs:=[vI t.1,vI t.2.1,.str t.2.2]) ?_ rfl rfl .i64
 rw [zvz,h]; rfl
noncomputable def bY:Spec:=gV (fun q:aY×List UInt8=>[vR q.1,.str q.2]) (fun _=>True) (fun q=>.aO [.bool (fC q.2 q.1),vR q.1])
theorem a29 (s:aY) (g:List UInt8):bY [vR s,.str g]=some (.aO [.bool (fC g s),vR s]):=gD (a:=(s,g)) (fun a b h=>by
 simp only [List.cons.injEq,and_true,V.str.injEq] at h
 exact Prod.ext (aGv h.1) h.2) trivial
theorem gJ:fU Try.prog a0o dT bY:=by
 refine a6v (T:=[]) aM.nil fun words v hv=>?_
 obtain ⟨⟨s,g⟩,rfl,_,rfl⟩:=eO hv
 refine ⟨_,rfl,rfl,by simp [aL,kP,V.bU],by simp [aL,kP,V.bU],rfl,rfl,?_⟩
 refine Eq.mpr (a74 (bT _) _ (bJ s.l) (vI s.i) (vI s.n) (.int .i64 0) (.int .i64 0) (vI s.d) (fE s.o) (.int .i64 0) (.str g)) ?_
 simp only [aR9,aB,aAd,agR]
 unfold fC
 cases e : s.l[s.i]? with
 | none =>
  have h:¬ ((s.i:Int) < (s.l.length:Int)):=by have:=List.getElem?_eq_none_iff.1 e; omega
  simp [h,aQ,cH,aB]
 | some t =>
  have h:((s.i:Int) < (s.l.length:Int)):=by have:=(zzy.1 e).1; omega
  simp only [aM2 e,h,decide_true]
  by_cases h2:t.1=2
  ·simp only [sS,if_true,if_false,reduceCtorEq,pT0,pT2,h2,decide_true,Bool.true_and]
  ·simp only [sS,if_true,if_false,reduceCtorEq,pT0,pT2,h2,decide_false,Bool.false_and]
end Go.Fbs

namespace Go.Fbs
open Go.Proofs
attribute [local irreducible] bW cC opt
theorem b1o {s:aY} (h:s.i < 1000000):aD .add (vI s.i) (.int .i64 1)=some (vI ((s.i+1:Nat):Int)):=by
 rw [aKl,lN (by omega) (by omega)]; rfl
theorem bJt:∀ a b:aY×List UInt8,[vR a.1,V.str a.2]=[vR b.1,V.str b.2]→a=b:=fun a b h=>by
 simp only [List.cons.injEq,and_true,V.str.injEq] at h
 exact Prod.ext (aGv h.1) h.2
theorem a7e (s:aY):aG [aA (vR s) 0,vI ((s.i+1:Nat):Int),aA (vR s) 2,aA (vR s) 3,aA (vR s) 4,aA (vR s) 5,aA (vR s) 6,aA (vR s) 7]=some (vR (aE s)):=nr rfl
noncomputable def eW:Spec:=gV (fun q:aY×List UInt8=>[vR q.1,.str q.2]) (fun q=>fC q.2 q.1=true∧q.1.i < 1000000) (fun q=>.aO [vR (aE q.1)])
theorem aBj {s:aY} {g:List UInt8} (h:fC g s=true) (hi:s.i < 1000000):eW [vR s,.str g]=some (.aO [vR (aE s)]):=gD (a:=(s,g)) bJt ⟨h,hi⟩
noncomputable abbrev TLW:List (FuncId×Spec):=[(aI,bY)]
theorem mS:fU Try.prog yM cX eW:=by
 refine a5b (T:=TLW) (aM.kU gJ aM.nil) fun words v hv=>?_
 have c1:∀ args,bT TLW aI args=bY args:=fun _=>rfl
 obtain ⟨⟨s,g⟩,rfl,⟨h,hi⟩,rfl⟩:=eO hv
 simp only at h hi
 refine ⟨_,rfl,rfl,by simp [aL,kP,V.bU],by simp [aL,kP,V.bU],rfl,rfl,?_⟩
 refine Eq.mpr (a5v (bT _) _ (bJ s.l) (vI s.i) (vI s.n) (.int .i64 0) (.int .i64 0) (vI s.d) (fE s.o) (.int .i64 0) (.str g)) ?_
 simp only [sS,if_true,if_false,reduceCtorEq,agR,c1,a29,h,zux,zvx,nC]
 rw [show aA (vR s) 1=vI s.i from rfl,b1o hi,aB,a7e,aB]
 simp only [decide_true,Bool.not_true,zuy,if_false]
noncomputable def fG:Spec:=gV (fun q:aY×cV×Nat=>[vR q.1,p6 q.2.1,vI (q.2.2:Nat)]) (fun q=>q.1.o.length < 200) (fun q=>.aO [vR { q.1 with o:=q.1.o++[q.2.1] }])
theorem aM3 {s:aY} (x:cV) (a:Nat) (h:s.o.length < 200):fG [vR s,p6 x,vI (a:Nat)]=some (.aO [vR { s with o:=s.o++[x] }]):=gD (a:=(s,x,a)) (fun a b h=>by
 simp only [List.cons.injEq,and_true,V.int.injEq,true_and,Int.ofNat_inj] at h
 exact Prod.ext (aGv h.1) (Prod.ext (aKo h.2.1) h.2.2)) h
theorem bE2 (x:cV):lO 3 [p6 x]=some (.sl .ro [p6 x]):=nr rfl
theorem bHz (x:cV):bF 3 (p6 x)=some (p6 x):=nr rfl
theorem bE3 {l:List cV} (h:l.length < 1000) (x:cV):qP 3 40 (fE l) (.sl .ro [p6 x])=some (fE (l++[x])):=by
 show qP 3 40 (.sl .ro (l.map p6)) (.sl .ro ([x].map p6))=some (.sl .ro ((l++[x]).map p6))
 rw [aMp (by simp only [zsy,List.length_singleton]; omega) (aYd _) (aYd [x]),List.map_append]
theorem rM:fU Try.prog zU dO fG:=by
 refine a5z (T:=[]) aM.nil fun words v hv=>?_
 obtain ⟨⟨s,x,a⟩,rfl,h,rfl⟩:=eO hv
 simp only at h
 refine ⟨_,rfl,rfl,by simp [aL,kP,V.bU,p6],by simp [aL,kP,V.bU],rfl,rfl,?_⟩
 refine Eq.mpr (a6x (bT _) _ (bJ s.l) (vI s.i) (vI s.n) (.int .i64 0) (.int .i64 0) (vI s.d) (fE s.o) (.int .i64 0) (p6 x) (vI a)) ?_
 have eL:jA (fE s.o)=some (vI s.o.length):=by simp [jA,fE]
 have h2:¬ ((s.o.length:Int)=200):=by omega
 rw [bHz,aB]
 simp only [sS,if_true,if_false,reduceCtorEq,eL,h2,decide_true,decide_false,b8a,zwx,List.length_nil,true_and,bE2,bE3 (show s.o.length < 1000 by omega)]
 rw [show aG [bJ s.l,vI s.i,vI s.n,.int .i64 0,.int .i64 0,vI s.d,fE (s.o++[x]),.int .i64 0]=some (vR { s with o:=s.o++[x] }) from agR { s with o:=s.o++[x] },aB]
def a38 (w : List UInt8) : Bool:=(w.all fun c=>jG c.toNat) && (decide (1 ≤ w.length) && (decide (w.length ≤ 30) && ((w.head? != some 95) && (w != [116,121,112,101]))))
end Go.Fbs

namespace Go.Fbs
open Go.Proofs
attribute [local irreducible] bW cC opt
def fJ:Spec
 | [.int .u8 c]=>some (.bool (jG c))
 | _=>none
theorem a5h:fS Try.prog fI fJ:=by
 refine aGj (T:=[]) (aM.nil) fun args v hv=>?_
 unfold fJ at hv
 split at hv <;> (try simp only [Option.ite_none_right_eq_some,zzz,reduceCtorEq] at hv)
 rename_i c
 subst hv
 refine ⟨rfl,rfl,rfl,?_⟩
 rw [aIr]
 by_cases h1:97≤c <;> by_cases h2:c≤122 <;> by_cases h3:48≤c <;> by_cases h4:c≤57 <;> by_cases h5:c=95 <;> simp [sS,if_true,if_false,reduceCtorEq,jG,h1,h2,h3,h4,h5]
def oW:Spec
 | [.str w]=>if w.length≤mL then some (.bool (a38 w)) else none
 | _=>none
theorem aDb:fS Try.prog oV oW:=by
 refine aCw (T:=[(fI,fJ)]) (aM.cons a5h aM.nil) fun args v hv=>?_
 have c_entailref6_part:∀ args,bT [(fI,fJ)] fI args=fJ args:=fun _=>rfl
 unfold oW at hv
 split at hv <;> (try simp only [Option.ite_none_right_eq_some,zzz,reduceCtorEq] at hv)
 rename_i w
 obtain ⟨hl,rfl⟩:=hv
 unfold mL at hl
 refine ⟨rfl,rfl,rfl,?_⟩
 refine Eq.mpr (aE4 (bT _) _ (.str w)) ?_
 refine jC (fun vs=>∃ k:Nat,vs=[vI k]∧k≤w.length∧(w.take k).all (fun c=>jG c.toNat)=true) (fun vs=>w.length - jP (gv vs 0)) ⟨0,rfl,Nat.zero_le _,rfl⟩ ?_
 rintro r _ ⟨k,rfl,hk,ha⟩ hr
 refine ⟨rfl,?_⟩
 simp only [sS,if_true,if_false,reduceCtorEq]
 by_cases hlt:k < w.length
 ·have hlt':(k:Int) < (w.length:Int):=by omega
  have hc : w[k]? = some w[k]:=zyz hlt
  simp only [hlt',decide_true,sS,if_true,if_false,reduceCtorEq,xF hc,c_entailref6_part,fJ]
  cases hb:jG (w[k]).toNat with
  | false =>
   have:a38 w=false:=by
    unfold a38
    have:(w.all fun c=>jG c.toNat)=false:=by
     rw [List.all_eq_false]
     exact ⟨w[k],List.getElem_mem hlt,by simp [hb]⟩
    rw [this]; rfl
   simp only [sS,if_true,if_false,reduceCtorEq,this]
  | true =>
   simp only [sS,if_true,if_false,reduceCtorEq]
   rw [lN (by omega) (by omega)]
   refine hr _ ⟨k+1,rfl,hlt,?_⟩ (by simp [gv,jP]; omega)
   rw [List.take_add_one,List.all_append,ha,hc]
   simp [hb]
 ·have hlt':¬ (k:Int) < (w.length:Int):=by omega
  have e:w.take k=w:=List.take_of_length_le (by omega)
  rw [e] at ha
  simp only [hlt',decide_false,sS,if_true,if_false,reduceCtorEq]
  unfold a38
  rw [ha]
  cases w with
  | nil=>simp [sS,if_true,if_false,reduceCtorEq,aQ,cH]
  | cons c r =>
   have h1:(1:Int)≤((c::r).length:Int):=by simp only [zwx]; omega
   have h1':1≤(c::r).length:=by simp only [zwx]; omega
   simp only [h1,h1',decide_true,sS,if_true,if_false,reduceCtorEq]
   by_cases h30:(c::r).length≤30
   ·have h30':((c::r).length:Int)≤30:=by omega
    have i0:kA (.str (c::r)) (.int .i64 0)=some (.int .u8 c.toNat):=xF (k:=0) rfl .i64
    have e95:decide ((c.toNat:Int)=95)=(c == 95):=by
     by_cases h:c=95
     ·subst h; rfl
     ·have h2:¬ (c.toNat:Int)=95:=fun e=>h (UInt8.toNat_inj.1 (by rw [show (95:UInt8).toNat=95 from rfl]; omega))
      have h3:(c == 95)=false:=by simpa using h
      rw [h3]; simpa using h2
    simp only [h30,h30',decide_true,sS,if_true,if_false,reduceCtorEq,i0,e95,List.head?_cons]
    rfl
   ·have h30':¬ ((c::r).length:Int)≤30:=by omega
    simp only [h30,h30',decide_false,sS,if_true,if_false,reduceCtorEq]
def kF (s : aY) : Option (List UInt8):=match s.l[s.i]? with | some t=>if t.1 = 1 ∧ a38 t.2.2 = true ∧ t.2.2.length ≤ mL then some t.2.2 else none | none=>none
noncomputable def eX:Spec:=gV (fun q:aY=>[vR q]) (fun q=>(kF q).isSome=true∧q.i < 1000000) (fun q=>.aO [.str ((kF q).getD []),vR (aE q)])
theorem a8d {s:aY} {w:List UInt8} (h:kF s=some w) (hi:s.i < 1000000):eX [vR s]=some (.aO [.str w,vR (aE s)]):=by
 have:=gD (c:=fun q:aY=>[vR q]) (ok:=fun q=>(kF q).isSome=true∧q.i < 1000000) (r:=fun q=>.aO [.str ((kF q).getD []),vR (aE q)]) (fun a b h=>aGv (by simpa using h)) (a:=s) ⟨by rw [h]; rfl,hi⟩
 rw [h] at this
 exact this
abbrev TLN:List (FuncId×Spec):=[(oV,oW)]
theorem mT:fU Try.prog yL cY eX:=by
 refine a5a (T:=TLN) (aM.cons aDb aM.nil) fun words v hv=>?_
 have c1:∀ args,bT TLN oV args=oW args:=fun _=>rfl
 obtain ⟨s,rfl,⟨h,hi⟩,rfl⟩:=eO hv
 obtain ⟨w,hw⟩:=Option.isSome_iff_exists.1 h
 rw [hw,Option.getD_some]
 refine ⟨_,rfl,rfl,by simp [aL,kP],by simp [aL,kP,V.bU],rfl,rfl,?_⟩
 refine Eq.mpr (a5t (bT _) _ (bJ s.l) (vI s.i) (vI s.n) (.int .i64 0) (.int .i64 0) (vI s.d) (fE s.o) (.int .i64 0)) ?_
 unfold kF at hw
 cases e : s.l[s.i]? with
 | none=>rw [e] at hw; simp at hw
 | some t =>
  rw [e] at hw
  simp only [Option.ite_none_right_eq_some,zzz] at hw
  obtain ⟨⟨h1,h2,h3⟩,rfl⟩:=hw
  have hlt:=(zzy.1 e).1
  have q1:¬ ((s.l.length:Int)≤(s.i:Int)):=by omega
  simp only [sS,if_true,if_false,reduceCtorEq,aR9,q1,decide_true,decide_false,aM2 e,pT0,pT2,h1,c1,oW,h2,h3]
  have w1:IntKind.i64.wrap ((s.i:Int)+1)=(s.i:Int)+1:=lN (by omega) (by omega)
  have w2:IntKind.i64.wrap ((s.i:Int)+1 - 1)=(s.i:Int)+1 - 1:=lN (by omega) (by omega)
  rw [w1,w2,show ((s.i:Int)+1 - 1)=(s.i:Int) by omega,aM2 e,aB]
  rw [show aG [bJ s.l,.int .i64 ((s.i:Int)+1),vI s.n,.int .i64 0,.int .i64 0,vI s.d,fE s.o,.int .i64 0]=some (vR (aE s)) from rfl,aB]
  rfl
end Go.Fbs

namespace Go.Fbs
open Go.Proofs
attribute [local irreducible] bW cC opt
def b1p (s : aY) : Nat:=match s.l[s.i]? with | some t=>t.2.1 | none=>s.n
noncomputable def eY:Spec:=gV (fun s:aY=>[vR s]) (fun _=>True) (fun s=>.aO [vI (b1p s:Nat),vR s])
theorem b1q:∀ a b:aY,[vR a]=[vR b]→a=b:=fun a b h=>aGv (by simpa using h)
theorem aM4 (s:aY):eY [vR s]=some (.aO [vI (b1p s:Nat),vR s]):=gD b1q trivial
theorem qV:fU Try.prog yN cW eY:=by
 refine a5c (T:=[]) aM.nil fun words v hv=>?_
 obtain ⟨s,rfl,_,rfl⟩:=eO hv
 refine ⟨_,rfl,rfl,by simp [aL,kP],by simp [aL,kP,V.bU],rfl,rfl,?_⟩
 refine Eq.mpr (a5w (bT _) _ (bJ s.l) (vI s.i) (vI s.n) (.int .i64 0) (.int .i64 0) (vI s.d) (fE s.o) (.int .i64 0)) ?_
 simp only [sS,if_true,if_false,reduceCtorEq,aR9,agR]
 unfold b1p
 cases e : s.l[s.i]? with
 | none =>
  have h:¬ ((s.i:Int) < (s.l.length:Int)):=by have:=List.getElem?_eq_none_iff.1 e; omega
  simp only [h,decide_false,sS,if_true,if_false,reduceCtorEq]
 | some t =>
  have h:((s.i:Int) < (s.l.length:Int)):=by have:=(zzy.1 e).1; omega
  simp only [h,decide_true,aM2 e,sS,if_true,if_false,reduceCtorEq]
  rfl
abbrev RO:=aY→Option aY
def p8 (expr:RO) (s:aY):Option aY :=
 if fC [40] s then
  if s.d=20 then none
  else (expr { s with i:=s.i+1,d:=s.d+1 }).bind fun r=>if fC [41] r then some { r with i:=r.i+1,d:=r.d - 1 } else none
 else (kF s).bind fun a =>
  if fC [45,62] (aE s) then (kF (aE (aE s))).bind fun b=>a8c (2,a,b) (aE (aE (aE s)))
  else a8c (1,a,[]) (aE s)
def fK (s:aY):Prop:=s.i≤s.l.length∧s.l.length≤500000
structure zJ (f:RO):Prop where
 g:∀ s r,fK s→f s=some r→fK r∧r.d=s.d∧r.l=s.l∧s.i < r.i
theorem fR {g:List UInt8} {s:aY} (h:fC g s=true):s.i < s.l.length:=by
 unfold fC at h
 split at h
 ·rename_i t e; exact (zzy.1 e).1
 ·simp at h
theorem lY {s:aY} {w:List UInt8} (h:kF s=some w):s.i < s.l.length:=by
 unfold kF at h
 split at h
 ·rename_i t e; exact (zzy.1 e).1
 ·simp at h
theorem oN {x:cV} {s r:aY} (h:a8c x s=some r):s.o.length < 200∧r = { s with o:=s.o++[x] }:=by
 unfold a8c at h
 split at h
 ·rename_i hl; exact ⟨hl,by simpa using h.symm⟩
 ·simp at h
theorem aUn {e:RO} (h:zJ e):zJ (p8 e):=by
 refine ⟨fun s r hs hr=>?_⟩
 unfold p8 at hr
 split at hr
 ·rename_i h40
  have hlt:=fR h40
  split at hr
  ·simp at hr
  ·obtain ⟨q,hq,h2⟩:=zwz.1 hr
   have g:=h.g _ q (show fK { s with i:=s.i+1,d:=s.d+1 } from ⟨hlt,hs.2⟩) hq
   simp only at g
   split at h2
   ·rename_i h41
    have hl2:=fR h41
    simp only [zzz] at h2
    subst h2
    exact ⟨⟨hl2,g.1.2⟩,by show q.d - 1=s.d; omega,g.2.2.1,by show s.i < q.i+1; omega⟩
   ·simp at h2
 ·obtain ⟨a,ha,h2⟩:=zwz.1 hr
  have hlt:=lY ha
  split at h2
  ·rename_i h62
   have hl2:=fR h62
   obtain ⟨b,hb,h3⟩:=zwz.1 h2
   have hl3:=lY hb
   obtain ⟨_,rfl⟩:=oN h3
   exact ⟨⟨hl3,hs.2⟩,rfl,rfl,by show s.i < s.i+1+1+1; omega⟩
  ·obtain ⟨_,rfl⟩:=oN h2
   exact ⟨⟨hlt,hs.2⟩,rfl,rfl,by show s.i < s.i+1; omega⟩
end Go.Fbs

namespace Go.Fbs
open Go.Proofs
attribute [local irreducible] bW cC opt
def jU (fac:RO):Nat→aY→Option aY
 | 0,_=>none
 | k+1,s=>if fC [38] s then (fac (aE s)).bind fun r=>(a8c (5,[],[]) r).bind fun q=>jU fac k q else some s
def wZ (fac:RO) (s:aY):Option aY:=(fac s).bind fun r=>jU fac (r.l.length+1) r
def lZ (ter:RO):Nat→aY→Option aY
 | 0,_=>none
 | k+1,s=>if fC [43] s || fC [45] s then (ter (aE s)).bind fun r=>(a8c (if fC [45] s then 4 else 3,[],[]) r).bind fun q=>lZ ter k q else some s
def a5i (ter:RO) (s:aY):Option aY:=(ter s).bind fun r=>lZ ter (r.l.length+1) r
def j4:Nat→RO
 | 0=>fun _=>none
 | f+1=>p8 (a5i (wZ (j4 f)))
noncomputable def uQ (f:RO):Spec:=gV (fun s:aY=>[vR s]) (fun s=>fK s∧s.d≤20∧(f s).isSome=true) (fun s=>.aO [vR ((f s).getD s)])
theorem Fro {f:RO} {s r:aY} (h:f s=some r) (hs:fK s) (hd:s.d≤20):uQ f [vR s]=some (.aO [vR r]):=by
 have:=gD (c:=fun q:aY=>[vR q]) (ok:=fun s=>fK s∧s.d≤20∧(f s).isSome=true) (r:=fun s=>.aO [vR ((f s).getD s)]) b1q (a:=s) ⟨hs,hd,by rw [h]; rfl⟩
 rw [h] at this
 exact this
theorem aGw (k:Int) (a b:List UInt8):aG [.int .i64 k,.str a,.str b]=some (p6 (k,a,b)):=nr rfl
theorem bE4 (s:aY) (i d:Nat):aG [aA (vR s) 0,vI (i:Nat),aA (vR s) 2,aA (vR s) 3,aA (vR s) 4,vI (d:Nat),aA (vR s) 6,aA (vR s) 7]=some (vR { s with i:=i,d:=d }):=nr rfl
theorem bJu (s:aY) (d:Nat):aG [aA (vR s) 0,aA (vR s) 1,aA (vR s) 2,aA (vR s) 3,aA (vR s) 4,vI (d:Nat),aA (vR s) 6,aA (vR s) 7]=some (vR { s with d:=d }):=nr rfl
theorem cR (s:aY):aA (vR s) 3 = .int .i64 0∧aA (vR s) 1=vI s.i∧aA (vR s) 5=vI s.d:=⟨rfl,rfl,rfl⟩
theorem e0R (s:aY):aD .eql (aA (vR s) 3) (.int .i64 0)=some (.bool true):=by
 rw [(cR s).1,uO]; rfl
theorem a61 {s:aY} (h:s.i < 1000000):aD .add (aA (vR s) 1) (.int .i64 1)=some (vI ((s.i+1:Nat):Int)):=b1o h
theorem bH0 {s:aY} (h:s.d < 1000):aD .add (aA (vR s) 5) (.int .i64 1)=some (vI ((s.d+1:Nat):Int)):=by
 rw [(cR s).2.2,aKl,lN (by omega) (by omega)]; rfl
theorem bH1 {s:aY} (h:s.d < 1000) (h0:0 < s.d):aD .sub (aA (vR s) 5) (.int .i64 1)=some (vI ((s.d - 1:Nat):Int)):=by
 rw [(cR s).2.2,bD8,lN (by omega) (by omega)]
 rw [show ((s.d:Int) - 1)=((s.d - 1:Nat):Int) by omega]
theorem yS (a:V):iH 0 (.aO [a])=some (.aO []):=nr rfl
theorem aKw (w:List UInt8):kT (.str w)=some (.str w):=nr rfl
noncomputable abbrev TLF (e:RO):List (FuncId×Spec):=[(dS,eY),(aI,bY),(iZ,uQ e),(aT,eW),(bI,eX),(bR,fG)]
theorem b1r {e:RO} (ge:zJ e) (he:fU Try.prog kZ bV (uQ e)):fU Try.prog hY bG (uQ (p8 e)):=by
 refine tZ (T:=TLF e) (aM.kU qV (aM.kU gJ (aM.kU he (aM.kU mS (aM.kU mT (aM.kU rM aM.nil)))))) fun words v hv=>?_
 have c1:∀ args,bT (TLF e) dS args=eY args:=fun _=>rfl
 have c2:∀ args,bT (TLF e) aI args=bY args:=fun _=>rfl
 have c3:∀ args,bT (TLF e) iZ args=uQ e args:=fun _=>rfl
 have c4:∀ args,bT (TLF e) aT args=eW args:=fun _=>rfl
 have c5:∀ args,bT (TLF e) bI args=eX args:=fun _=>rfl
 have c6:∀ args,bT (TLF e) bR args=fG args:=fun _=>rfl
 obtain ⟨s,rfl,⟨hs,hd,hsome⟩,rfl⟩:=eO hv
 obtain ⟨r,hr⟩:=Option.isSome_iff_exists.1 hsome
 rw [hr,Option.getD_some]
 refine ⟨_,rfl,rfl,by simp [aL,kP],by simp [aL,kP,V.bU],rfl,rfl,?_⟩
 refine Eq.mpr (a34 (bT _) _ (bJ s.l) (vI s.i) (vI s.n) (.int .i64 0) (.int .i64 0) (vI s.d) (fE s.o) (.int .i64 0)) ?_
 rw [agR,aB,c1,aM4,aB,x0,aB,x1,aB,nC,aB,e0R,aB,yJ]
 rw [oQ,aB,c2,a29,aB,x0,aB,x1,aB,nC,aB,cK]
 unfold p8 at hr
 by_cases h40:fC [40] s=true
 ·rw [if_pos h40] at hr
  rw [if_pos h40]
  have hlt:=fR h40
  split at hr
  ·simp at hr
  ·rename_i h20
   obtain ⟨q,hq,h2⟩:=zwz.1 hr
   have g:=ge.g _ q (show fK { s with i:=s.i+1,d:=s.d+1 } from ⟨hlt,hs.2⟩) hq
   simp only at g
   split at h2
   ·rename_i h41
    have hl2:=fR h41
    simp only [zzz] at h2
    subst h2
    have hw:=hs.2
    have gw:=g.1.2
    rw [show aD .eql (aA (vR s) 5) (.int .i64 20)=some (.bool false) by rw [(cR s).2.2,uO,decide_eq_false (by omega)],aB,zI]
    rw [bH0 (by omega),aB,a61 (by omega),aB,bE4,aB,c3,Fro hq ⟨hlt,hs.2⟩ (by show s.d+1≤20; omega),aB,yS,aB,x0,aB,nC,aB,oQ,aB]
    rw [c4,aBj h41 (by omega),aB,yS,aB,x0,aB,nC,aB,bH1 (s:=aE q) (by show q.d < 1000; omega) (by show 0 < q.d; omega),aB,bJu,aB]
    rfl
   ·simp at h2
 ·rw [if_neg h40] at hr
  rw [if_neg h40]
  obtain ⟨a,ha,h2⟩:=zwz.1 hr
  have hlt:=lY ha
  have hw:=hs.2
  rw [oQ,aB,c5,a8d ha (by omega),aB,x0,aB,x1,aB,nC,aB,e0R,aB,yJ]
  rw [oQ,aB,c2,a29,aB,x0,aB,x1,aB,nC,aB,cK]
  by_cases h62:fC [45,62] (aE s)=true
  ·rw [if_pos h62] at h2
   rw [if_pos h62]
   have hl2:s.i+1 < s.l.length:=fR h62
   obtain ⟨b,hb,h3⟩:=zwz.1 h2
   have hl3:s.i+1+1 < s.l.length:=lY hb
   obtain ⟨ho,rfl⟩:=oN h3
   rw [a61 (s:=aE s) (by show s.i+1 < 1000000; omega),aB,a7e (aE s),aB,c5,a8d hb (by show s.i+1+1 < 1000000; omega),aB,x0,aB,x1,aB,nC,aB,aKw,aB,aKw,aB,aGw,aB,oQ,aB,c6,aM3 _ _ ho,aB,yS,aB,x0,aB,nC,aB,oQ,aB]
  ·rw [if_neg h62] at h2
   rw [if_neg h62]
   obtain ⟨ho,rfl⟩:=oN h2
   rw [aKw,aB,aGw,aB,oQ,aB,c6,aM3 _ _ ho,aB,yS,aB,x0,aB,nC,aB,oQ,aB]
end Go.Fbs
