import Derived.Test.YtngdbicnabbplaaHTA
import Derived.Test.YtngdbicnabbplaaPM
set_option linter.unusedSimpArgs false
set_option linter.unusedVariables false
set_option maxRecDepth 100000
namespace Go.Fbs
open Go.Proofs
def aTe (c:Int):Bool:=decide (97≤c) && decide (c≤122) || decide (48≤c) && decide (c≤57)
def a7s (c:Int):Bool:=aTe c || decide (c=95) || decide (c=45) || decide (c=46)
def idB (c:Int):Bool:=a7s c || decide (c=47) || decide (c=124) || decide (c=42)
def a06 (l:List UInt8):Bool:=decide (1≤l.length) && decide (l.length≤30) && aTe (l.getD 0 0).toNat && l.all (fun c=>a7s c.toNat)
def idT (l:List UInt8):Bool:=decide (1≤l.length) && decide (l.length≤250) && l.all (fun c=>idB c.toNat)
def nK:Spec
 | [.int .u8 c]=>some (.bool (aTe c))
 | _=>none
theorem aIu:cU Try.prog nB nK:=by
 refine aU7 (T:=[]) (aE.nil) fun args v hv=>?_
 unfold nK at hv
 split at hv <;> (try simp only [Option.ite_none_right_eq_some,zzz,reduceCtorEq] at hv)
 rename_i c
 subst hv
 refine ⟨rfl,rfl,rfl,?_⟩
 rw [aX1]
 by_cases h1:97≤c <;> by_cases h2:c≤122 <;> by_cases h3:48≤c <;> by_cases h4:c≤57 <;> simp [sS,if_true,if_false,reduceCtorEq,aTe,h1,h2,h3,h4]
def nL:Spec
 | [.int .u8 c]=>some (.bool (a7s c))
 | _=>none
theorem aIv:cU Try.prog nC nL:=by
 refine aU8 (T:=[(nB,nK)]) (aE.cons aIu aE.nil) fun args v hv=>?_
 have c_atom_first:∀ args,aM [(nB,nK)] nB args=nK args:=fun _=>rfl
 unfold nL at hv
 split at hv <;> (try simp only [Option.ite_none_right_eq_some,zzz,reduceCtorEq] at hv)
 rename_i c
 subst hv
 refine ⟨rfl,rfl,rfl,?_⟩
 rw [aX2]
 cases h0:aTe c <;> by_cases h1:c=95 <;> by_cases h2:c=45 <;> by_cases h3:c=46 <;> simp [sS,if_true,if_false,reduceCtorEq,c_atom_first,nK,a7s,h0,h1,h2,h3]
theorem aZ2 {p : UInt8 → Bool} {l : List UInt8} {k : Nat} {c : UInt8} (h : l[k]? = some c) (hk : (l.take k).all p = true) : (l.take (k + 1)).all p = p c:=by
 rw [List.take_add_one,h,List.all_append,hk]; simp
theorem b3i {p : UInt8 → Bool} {l : List UInt8} {k : Nat} {c : UInt8} (h : l[k]? = some c) (hc : p c = false) : l.all p = false:=by
 cases hh:l.all p
 ·rfl
 ·rw [List.all_eq_true.1 hh c (zyx h)] at hc; simp at hc
theorem b3j {p:UInt8→Bool} {l:List UInt8} {k:Nat} (h:l.length≤k) (hk:(l.take k).all p=true):l.all p=true:=by
 rwa [List.take_of_length_le h] at hk
def xJ:Spec
 | [.str l]=>if l.length≤kT then some (.bool (a06 l)) else none
 | _=>none
theorem aZ3:cU Try.prog pW xJ:=by
 refine aX0 (T:=[(nB,nK),(nC,nL)]) (aE.cons aIu (aE.cons aIv aE.nil)) fun args v hv=>?_
 have c_atom_first:∀ args,aM [(nB,nK),(nC,nL)] nB args=nK args:=fun _=>rfl
 have c_atom_plain:∀ args,aM [(nB,nK),(nC,nL)] nC args=nL args:=fun _=>rfl
 unfold xJ at hv
 split at hv <;> (try simp only [Option.ite_none_right_eq_some,zzz,reduceCtorEq] at hv)
 rename_i l
 obtain ⟨hl,rfl⟩:=hv
 unfold kT at hl
 refine ⟨rfl,rfl,rfl,?_⟩
 rw [b07]
 cases l with
 | nil=>simp [sS,if_true,if_false,reduceCtorEq,a06]
 | cons c t =>
  have e0:((c::t:List UInt8) == [])=false:=rfl
  have i0:l7 (.str (c::t)) (.int .i64 0)=some (.int .u8 c.toNat):=vP (k:=0) rfl .i64
  generalize hll:c::t=l at *
  have hl1:1≤l.length:=by rw [← hll]; simp
  have hg:l.getD 0 0=c:=by rw [← hll]; rfl
  simp only [sS,if_true,if_false,reduceCtorEq,e0]
  by_cases h30:l.length≤30
  ·have h30':¬ (30:Int) < (l.length:Int):=by omega
   simp only [sS,if_true,if_false,reduceCtorEq,h30',decide_false,i0,c_atom_first,nK]
   cases ha:aTe c.toNat
   ·simp only [sS,if_true,if_false,reduceCtorEq,a06,hg,ha]
   ·simp only [sS,if_true,if_false,reduceCtorEq]
    refine fX (fun vs=>∃ k:Nat,vs=[vI k]∧k≤l.length∧(l.take k).all (fun c=>a7s c.toNat)=true) (fun vs=>l.length - iG (gv vs 0)) ⟨0,rfl,Nat.zero_le _,rfl⟩ ?_
    rintro r _ ⟨k,rfl,hk,hn⟩ hr
    refine ⟨rfl,?_⟩
    simp only [sS,if_true,if_false,reduceCtorEq]
    by_cases hlt:k < l.length
    ·have hlt':(k:Int) < (l.length:Int):=by omega
     obtain ⟨d,hd⟩ : ∃ d,l[k]? = some d:=⟨l[k],zyz hlt⟩
     simp only [hlt',decide_true,sS,if_true,if_false,reduceCtorEq,vP hd,c_atom_plain,nL]
     have h2:=aZ2 (p:=fun c=>a7s c.toNat) hd hn
     cases hp:a7s d.toNat
     ·simp only [sS,if_true,if_false,reduceCtorEq,a06,b3i (p:=fun c=>a7s c.toNat) hd hp]
     ·simp only [sS,if_true,if_false,reduceCtorEq]
      rw [jC (by omega) (by omega)]
      refine hr _ ⟨k+1,by simp,hlt,by rw [h2]; exact hp⟩ ?_
      simp [gv,iG]; omega
    ·have hlt':¬ (k:Int) < (l.length:Int):=by omega
     simp only [hlt',decide_false,sS,if_true,if_false,reduceCtorEq,a06,hg,ha,hl1,h30,decide_true,b3j (p:=fun c=>a7s c.toNat) (by omega) hn]
  ·have h30':(30:Int) < (l.length:Int):=by omega
   simp [sS,if_true,if_false,reduceCtorEq,h30',a06,h30]
def a1x:Spec
 | [.str l]=>if l.length≤kT then some (.bool (idT l)) else none
 | _=>none
theorem b6u:cU Try.prog yM a1x:=by
 refine b5k (T:=[(nC,nL)]) (aE.cons aIv aE.nil) fun args v hv=>?_
 have c_atom_plain:∀ args,aM [(nC,nL)] nC args=nL args:=fun _=>rfl
 unfold a1x at hv
 split at hv <;> (try simp only [Option.ite_none_right_eq_some,zzz,reduceCtorEq] at hv)
 rename_i l
 obtain ⟨hl,rfl⟩:=hv
 unfold kT at hl
 refine ⟨rfl,rfl,rfl,?_⟩
 rw [b8p]
 simp only [sS,if_true,if_false,reduceCtorEq]
 refine fX (fun vs=>∃ k:Nat,vs=[vI k]∧k≤l.length∧(l.take k).all (fun c=>idB c.toNat)=true) (fun vs=>l.length - iG (gv vs 0)) ⟨0,rfl,Nat.zero_le _,rfl⟩ ?_
 rintro r _ ⟨k,rfl,hk,hn⟩ hr
 refine ⟨rfl,?_⟩
 simp only [sS,if_true,if_false,reduceCtorEq]
 by_cases hlt:k < l.length
 ·have hlt':(k:Int) < (l.length:Int):=by omega
  obtain ⟨d,hd⟩ : ∃ d,l[k]? = some d:=⟨l[k],zyz hlt⟩
  simp only [hlt',decide_true,sS,if_true,if_false,reduceCtorEq,vP hd,c_atom_plain,nL]
  have h2:=aZ2 (p:=fun c=>idB c.toNat) hd hn
  have step:idB d.toNat=true→r [vI (k+1:Nat)]:=fun hp=>hr _ ⟨k+1,rfl,hlt,by rw [h2]; exact hp⟩ (by simp [gv,iG]; omega)
  have stop_:idB d.toNat=false→idT l=false:=fun hp=>by simp only [idT,b3i (p:=fun c=>idB c.toNat) hd hp,Bool.and_false]
  have hw:IntKind.i64.wrap ((k:Int)+1)=((k+1:Nat):Int):=by rw [jC (by omega) (by omega)]; omega
  simp only [idB] at step stop_
  cases h0:a7s d.toNat <;> by_cases h1:(d.toNat:Int)=47 <;> by_cases h3:(d.toNat:Int)=124 <;> by_cases h4:(d.toNat:Int)=42 <;> simp [h0,h1,h3,h4] at step stop_ <;> simp [sS,if_true,if_false,reduceCtorEq,h1,h3,h4,hw,stop_,step]
 ·have hlt':¬ (k:Int) < (l.length:Int):=by omega
  have ha:=b3j (p:=fun c=>idB c.toNat) (by omega:l.length≤k) hn
  simp only [hlt',decide_false,sS,if_true,if_false,reduceCtorEq,idT,ha]
  cases l with
  | nil=>rfl
  | cons c t =>
   have e0:((c::t:List UInt8) == [])=false:=rfl
   have h1:1≤(c::t).length:=by simp
   have h2:decide (((c::t).length:Int)≤250)=decide ((c::t).length≤250):=by rw [decide_eq_decide]; omega
   simp only [sS,if_true,if_false,reduceCtorEq,e0,h1,decide_true,h2]
def okT (a b c d e f:List UInt8):Bool:=a06 a && idT b && a06 c && a06 d && idT e && (f == [] || a06 f)
def aB7 (a b c d e f:List UInt8):Prop:=a.length≤kT∧b.length≤kT∧c.length≤kT∧d.length≤kT∧e.length≤kT∧f.length≤kT
instance (a b c d e f:List UInt8):Decidable (aB7 a b c d e f):=by unfold aB7; infer_instance
theorem bHe (a b c d e f:List UInt8):aJ 6 (.agg [.str a,.str b,.str c,.str d,.str e,.str f])=some (.agg [.str a,.str b,.str c,.str d,.str e,.str f]):=rfl
def a8r:Spec
 | [.agg [.str a,.str b,.str c,.str d,.str e,.str f]]=>if aB7 a b c d e f then some (.bool (okT a b c d e f)) else none
 | _=>none
theorem b6v:cU Try.prog a77 a8r:=by
 refine b5j (T:=[(pW,xJ),(yM,a1x)]) (aE.cons aZ3 (aE.cons b6u aE.nil)) fun args v hv=>?_
 have c_atom_Name:∀ args,aM [(pW,xJ),(yM,a1x)] pW args=xJ args:=fun _=>rfl
 have c_atom_ID:∀ args,aM [(pW,xJ),(yM,a1x)] yM args=a1x args:=fun _=>rfl
 unfold a8r at hv
 split at hv <;> (try simp only [Option.ite_none_right_eq_some,zzz,reduceCtorEq] at hv)
 rename_i a b c d e f
 obtain ⟨⟨h1,h2,h3,h4,h5,h6⟩,rfl⟩:=hv
 refine ⟨rfl,rfl,rfl,?_⟩
 rw [b8o]
 simp only [bHe,sS,if_true,if_false,reduceCtorEq,List.getD_cons_zero,List.getD_cons_succ,c_atom_Name,xJ,c_atom_ID,a1x,h1,h2,h3,h4,h5,h6]
 cases ha:a06 a <;> cases hb:idT b <;> cases hc:a06 c <;> cases hd:a06 d <;> cases he:idT e <;> cases hf:(f == []) <;> cases hg:a06 f <;> simp only [sS,if_true,if_false,reduceCtorEq,okT,ha,hb,hc,hd,he,hf,hg]
structure xO where
 (a b c d e f:List UInt8)
def xO.v (x:xO):V:=.agg [.str x.a,.str x.b,.str x.c,.str x.d,.str x.e,.str x.f]
def xO.ok (x:xO):Bool:=okT x.a x.b x.c x.d x.e x.f
end Go.Fbs
namespace Go.Fbs
open Go.Proofs
attribute [local irreducible] bD bV opt
theorem bMl (x y:Sub) (neg:Bool):aJv [2,2,2] neg (kW x) (kW y)=some (.bool (decide (x=y) != neg)):=by
 obtain ⟨a,b,c⟩:=x
 obtain ⟨a',b',c'⟩:=y
 have:(a == a' && (b == b' && c == c'))=decide ((a,b,c)=(a',b',c')):=by
  by_cases h1:a=a' <;> by_cases h2:b=b' <;> by_cases h3:c=c' <;> simp [h1,h2,h3]
 simp only [aJv,kW,iP,eqS,Option.map_some,Bool.and_true,this]
theorem bMm {l : List Sub} {i : Nat} {x : Sub} (h : l[i]? = some x) : gN true 3 (lV l) (vI (i : Nat)) = some (kW x):=by
 refine a6v (cs:=[.str x.1,.str x.2.1,.str x.2.2]) ?_ rfl rfl .i64
 rw [zvz,h]; rfl
theorem aVy {l : List Rel} {i : Nat} {x : Rel} (h : l[i]? = some x) : gN true 3 (lW l) (vI (i : Nat)) = some (jE x):=by
 refine a6v (cs:=[.str x.1,lV x.2.1,bT x.2.2]) ?_ rfl rfl .i64
 rw [zvz,h]; rfl
theorem b6w {l : List gI} {i : Nat} {x : gI} (h : l[i]? = some x) : gN true 2 (gQ l) (vI (i : Nat)) = some (kJ x):=by
 refine a6v (cs:=[.str x.1,lW x.2]) ?_ rfl rfl .i64
 rw [zvz,h]; rfl
theorem bJ2 (a b:List UInt8):aF .eql (.str a) (.str b)=some (.bool (decide (a=b))):=by
 rw [bIf]
 congr 2
 by_cases h:a=b <;> simp [h]
def qS {α : Type} (p : α → Bool) (l : List α) (k : Nat) : Int:=match (l.drop k).findIdx? p with | some j=>(k + j : Nat) | none=>-1
theorem aL2 {α:Type} {p:α→Bool} {l:List α} {k:Nat} (h:l.length≤k):qS p l k = -1:=by
 unfold qS; rw [List.drop_eq_nil_of_le h]; rfl
theorem aPn {α : Type} {p : α → Bool} {l : List α} {k : Nat} {b : α} (h : l[k]? = some b) : qS p l k = if p b = true then ((k : Nat) : Int) else qS p l (k + 1):=by
 have hk:k < l.length:=(zzy.1 h).1
 have hb:l[k]=b:=(zzy.1 h).2
 unfold qS
 rw [List.drop_eq_getElem_cons hk,hb,List.findIdx?_cons]
 by_cases hc:p b=true
 ·simp [hc]
 ·rw [if_neg hc,if_neg hc]
  cases (l.drop (k + 1)).findIdx? p with
  | none=>rfl
  | some j=>simp only [Option.map_some]; omega
noncomputable def mQ:Spec:=fG (fun q:List Sub×Sub=>[lV q.1,kW q.2]) (fun q=>q.1.length≤kT) (fun q=>vI (qS (fun y=>decide (y=q.2)) q.1 0))
theorem bE5:∀ a b:List Sub×Sub,[lV a.1,kW a.2]=[lV b.1,kW b.2]→a=b:=fun a b h=>by
 simp only [List.cons.injEq,and_true,lV,V.sl.injEq,true_and] at h
 exact Prod.ext (rB (fun _ _=>aO2) h.1) (aO2 h.2)
theorem bHf {l:List Sub} (h:l.length≤kT) (x:Sub):mQ [lV l,kW x]=some (vI (qS (fun y=>decide (y=x)) l 0)):=cK (a:=(l,x)) bE5 h
theorem a4y:cU Try.prog kE mQ:=by
 refine a4x (T:=[]) aE.nil fun args v hv=>?_
 obtain ⟨⟨l,x⟩,rfl,hl,rfl⟩:=bO hv
 refine ⟨rfl,by simp [aG,aAb,V.aN,kW],rfl,?_⟩
 refine Eq.mpr (a5r (aM _) _ (lV l) (kW x)) ?_
 simp only at hl
 unfold kT at hl
 rw [aVq,aB,aYi,aB]
 refine fX (fun vs=>∃ k:Nat,vs=[vI k]∧k≤l.length∧qS (fun y=>decide (y=x)) l k=qS (fun y=>decide (y=x)) l 0) (fun vs=>l.length - iG (gv vs 0)) ⟨0,rfl,Nat.zero_le _,rfl⟩ ?_
 rintro r _ ⟨k,rfl,hk,he⟩ hr
 refine ⟨rfl,?_⟩
 simp only [jM]
 rw [aBd,aB,aQ]
 by_cases hlt:k < l.length
 ·rw [if_pos (by simp only [decide_eq_true_eq]; omega)]
  have hx : l[k]? = some l[k]:=zyz hlt
  rw [aPn hx] at he
  rw [bMm hx,aB,bMl,aB,Bool.bne_false,aQ]
  by_cases hq:l[k]=x
  ·rw [if_pos (by simpa using hq)] at he
   rw [if_pos (by simpa using hq.symm),← he]
  ·rw [if_neg (by simpa using hq)] at he
   rw [if_neg (by simpa using fun e=>hq e.symm),aGg,jC (by omega) (by omega),aB]
   exact hr _ ⟨k+1,rfl,hlt,he⟩ (by simp [gv,iG]; omega)
 ·rw [if_neg (by simp only [decide_eq_true_eq]; omega)]
  rw [aL2 (by omega)] at he
  rw [← he]
theorem bAs {l:List Sub} {x:Sub} : decide (0≤qS (fun y=>decide (y=x)) l 0)=decide (x ∈ l):=by
 unfold qS
 simp only [List.drop_zero]
 cases h : l.findIdx? (fun y=>decide (y = x)) with
 | none =>
  rw [List.findIdx?_eq_none_iff] at h
  have:x ∉ l:=fun hc=>by have:=h x hc; simp at this
  simp [this]
 | some j =>
  have:x ∈ l:=by
   obtain ⟨hj,h1,_⟩:=List.findIdx?_eq_some_iff_getElem.1 h
   simp only [decide_eq_true_eq] at h1
   rw [← h1]; exact List.getElem_mem hj
  simp [this]
noncomputable def lM:Spec:=fG (fun q:List Sub×Sub=>[lV q.1,kW q.2]) (fun q=>q.1.length≤kT) (fun q=>.bool (decide (q.2 ∈ q.1)))
theorem bMn {l:List Sub} (h:l.length≤kT) (x:Sub):lM [lV l,kW x]=some (.bool (decide (x ∈ l))):=cK (a:=(l,x)) bE5 h
noncomputable abbrev TLc:List (FuncId×Spec):=[(kE,mQ)]
theorem a3b:cU Try.prog j5 lM:=by
 refine a2y (T:=TLc) (aE.cons a4y aE.nil) fun args v hv=>?_
 have c1:∀ args,aM TLc kE args=mQ args:=fun _=>rfl
 obtain ⟨⟨l,x⟩,rfl,hl,rfl⟩:=bO hv
 refine ⟨rfl,by simp [aG,aAb,V.aN,kW],rfl,?_⟩
 refine Eq.mpr (a3p (aM _) _ (lV l) (kW x)) ?_
 simp only at hl
 rw [aVq,aB,c1,bHf hl,aB,b5i,aB,bAs]
theorem aRs {α:Type} {w:α→V} (hw:∀ a b,w a=w b→a=b):∀ a b:α×xO,[w a.1,a.2.v]=[w b.1,b.2.v]→a=b:=fun a b h=>by
 simp only [List.cons.injEq,and_true] at h
 refine Prod.ext (hw _ _ h.1) ?_
 obtain ⟨_,x⟩:=a
 obtain ⟨_,y⟩:=b
 obtain ⟨a,b,c,d,e,f⟩:=x
 obtain ⟨a',b',c',d',e',f'⟩:=y
 simpa [xO.v] using h.2
theorem aM2 (x:xO):aD [.str x.a,.str x.b,.str x.c,.str x.d,.str x.e,.str x.f]=some x.v:=nr rfl
theorem aL3 (x:xO):aD [aA x.v 0,aA x.v 1,aA x.v 2,aA x.v 3,aA x.v 4,aA x.v 5]=some x.v:=nr rfl
theorem aRt (x:xO):aJ 6 x.v=some x.v:=nr rfl
theorem zT (x:xO):x.v.aN=true:=rfl
noncomputable def aM3:Spec:=fG (fun q:gI×xO=>[kJ q.1,q.2.v]) (fun _=>True) (fun q=>.aH [.bool (decide (q.1.1=q.2.a)),q.2.v])
theorem bJ3 (t:gI) (x:xO):aM3 [kJ t,x.v]=some (.aH [.bool (decide (t.1=x.a)),x.v]):=cK (a:=(t,x)) (aRs fun _ _=>aG7) trivial
theorem aRu:bX Try.prog aIi lJ aM3:=by
 refine aOy (T:=[]) aE.nil fun words v hv=>?_
 obtain ⟨⟨t,x⟩,rfl,_,rfl⟩:=bO hv
 refine ⟨_,rfl,rfl,by simp [aG,a8k,zT],by simp [aG,zT,V.aN],rfl,rfl,?_⟩
 refine Eq.mpr (aQt (aM _) _ (kJ t) (.str x.a) (.str x.b) (.str x.c) (.str x.d) (.str x.e) (.str x.f)) ?_
 rw [aVs,aB,show aA (kJ t) 0 = .str t.1 from rfl,bJ2,aB,aM2,aB]
noncomputable def aM4:Spec:=fG (fun q:Rel×xO=>[jE q.1,q.2.v]) (fun _=>True) (fun q=>.aH [.bool (decide (q.1.1=q.2.c)),q.2.v])
theorem bJ4 (t:Rel) (x:xO):aM4 [jE t,x.v]=some (.aH [.bool (decide (t.1=x.c)),x.v]):=cK (a:=(t,x)) (aRs fun _ _=>aG4) trivial
theorem aRv:bX Try.prog aIj lK aM4:=by
 refine aOz (T:=[]) aE.nil fun words v hv=>?_
 obtain ⟨⟨t,x⟩,rfl,_,rfl⟩:=bO hv
 refine ⟨_,rfl,rfl,by simp [aG,a8j,zT],by simp [aG,zT,V.aN],rfl,rfl,?_⟩
 refine Eq.mpr (aQu (aM _) _ (jE t) (.str x.a) (.str x.b) (.str x.c) (.str x.d) (.str x.e) (.str x.f)) ?_
 rw [b5t,aB,show aA (jE t) 0 = .str t.1 from rfl,bJ2,aB,aM2,aB]
noncomputable def aVz:Spec:=fG (fun q:List gI×xO=>[gQ q.1,q.2.v]) (fun q=>q.1.length≤kT) (fun q=>.aH [vI (qS (fun t=>decide (t.1=q.2.a)) q.1 0),q.2.v])
theorem aUw {a b:List gI} (h:gQ a=gQ b):a=b:=by
 simp only [gQ,V.sl.injEq,true_and] at h
 exact rB (fun _ _=>aG7) h
theorem bAt {a b:List Rel} (h:lW a=lW b):a=b:=by
 simp only [lW,V.sl.injEq,true_and] at h
 exact rB (fun _ _=>aG4) h
theorem bN7 {l:List gI} (h:l.length≤kT) (x:xO):aVz [gQ l,x.v]=some (.aH [vI (qS (fun t=>decide (t.1=x.a)) l 0),x.v]):=cK (a:=(l,x)) (aRs fun _ _=>aUw) h
noncomputable abbrev TLi:List (FuncId×Spec):=[(a8y,aM3)]
theorem bHg:bX Try.prog rU cA aVz:=by
 refine a0g (T:=TLi) (aE.cC aRu aE.nil) fun words v hv=>?_
 have c1:∀ args,aM TLi a8y args=aM3 args:=fun _=>rfl
 obtain ⟨⟨l,x⟩,rfl,hl,rfl⟩:=bO hv
 refine ⟨_,rfl,rfl,by simp [aG,a5u,zT],by simp [aG,zT,V.aN],rfl,rfl,?_⟩
 refine Eq.mpr (a0q (aM _) _ (gQ l) (.str x.a) (.str x.b) (.str x.c) (.str x.d) (.str x.e) (.str x.f)) ?_
 simp only at hl
 unfold kT at hl
 rw [aK7,aB]
 refine fX (fun vs=>∃ k:Nat,vs=[vI k,.str x.a,.str x.b,.str x.c,.str x.d,.str x.e,.str x.f]∧k≤l.length∧qS (fun t=>decide (t.1=x.a)) l k=qS (fun t=>decide (t.1=x.a)) l 0) (fun vs=>l.length - iG (gv vs 0)) ⟨0,rfl,Nat.zero_le _,rfl⟩ ?_
 rintro r _ ⟨k,rfl,hk,he⟩ hr
 refine ⟨rfl,?_⟩
 simp only [jM,jW]
 rw [aBd,aB,aQ]
 by_cases hlt:k < l.length
 ·rw [if_pos (by simp only [decide_eq_true_eq]; omega)]
  have hx : l[k]? = some l[k]:=zyz hlt
  rw [aPn hx] at he
  rw [b6w hx,aB,aM2,aB,c1,bJ3,aB,x0,aB,x1,aB,aRt,aB,aQ]
  by_cases hq:decide (l[k].1=x.a)=true
  ·rw [if_pos hq] at he
   rw [if_pos hq,aL3,aB,← he]
  ·rw [if_neg hq] at he
   rw [if_neg hq,aGg,jC (by omega) (by omega),aB]
   exact hr _ ⟨k+1,rfl,hlt,he⟩ (by simp [gv,iG]; omega)
 ·rw [if_neg (by simp only [decide_eq_true_eq]; omega)]
  rw [aL2 (by omega)] at he
  rw [aM2,aB,← he]
noncomputable def aV0:Spec:=fG (fun q:List Rel×xO=>[lW q.1,q.2.v]) (fun q=>q.1.length≤kT) (fun q=>.aH [vI (qS (fun t=>decide (t.1=q.2.c)) q.1 0),q.2.v])
theorem bN8 {l:List Rel} (h:l.length≤kT) (x:xO):aV0 [lW l,x.v]=some (.aH [vI (qS (fun t=>decide (t.1=x.c)) l 0),x.v]):=cK (a:=(l,x)) (aRs fun _ _=>bAt) h
noncomputable abbrev TLj:List (FuncId×Spec):=[(a8z,aM4)]
theorem bHh:bX Try.prog tC cI aV0:=by
 refine a07 (T:=TLj) (aE.cC aRv aE.nil) fun words v hv=>?_
 have c1:∀ args,aM TLj a8z args=aM4 args:=fun _=>rfl
 obtain ⟨⟨l,x⟩,rfl,hl,rfl⟩:=bO hv
 refine ⟨_,rfl,rfl,by simp [aG,aG6,zT],by simp [aG,zT,V.aN],rfl,rfl,?_⟩
 refine Eq.mpr (a1l (aM _) _ (lW l) (.str x.a) (.str x.b) (.str x.c) (.str x.d) (.str x.e) (.str x.f)) ?_
 simp only at hl
 unfold kT at hl
 rw [aQz,aB]
 refine fX (fun vs=>∃ k:Nat,vs=[vI k,.str x.a,.str x.b,.str x.c,.str x.d,.str x.e,.str x.f]∧k≤l.length∧qS (fun t=>decide (t.1=x.c)) l k=qS (fun t=>decide (t.1=x.c)) l 0) (fun vs=>l.length - iG (gv vs 0)) ⟨0,rfl,Nat.zero_le _,rfl⟩ ?_
 rintro r _ ⟨k,rfl,hk,he⟩ hr
 refine ⟨rfl,?_⟩
 simp only [jM,jW]
 rw [aBd,aB,aQ]
 by_cases hlt:k < l.length
 ·rw [if_pos (by simp only [decide_eq_true_eq]; omega)]
  have hx : l[k]? = some l[k]:=zyz hlt
  rw [aPn hx] at he
  rw [aVy hx,aB,aM2,aB,c1,bJ4,aB,x0,aB,x1,aB,aRt,aB,aQ]
  by_cases hq:decide (l[k].1=x.c)=true
  ·rw [if_pos hq] at he
   rw [if_pos hq,aL3,aB,← he]
  ·rw [if_neg hq] at he
   rw [if_neg hq,aGg,jC (by omega) (by omega),aB]
   exact hr _ ⟨k+1,rfl,hlt,he⟩ (by simp [gv,iG]; omega)
 ·rw [if_neg (by simp only [decide_eq_true_eq]; omega)]
  rw [aL2 (by omega)] at he
  rw [aM2,aB,← he]
end Go.Fbs
