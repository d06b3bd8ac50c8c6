import Derived.Test.YtngdbicnabbplaaHTA
import Derived.Test.YtngdbicnabbplaaPM
set_option linter.unusedSimpArgs false
set_option linter.unusedVariables false
set_option linter.unusedSectionVars false
set_option maxRecDepth 100000
namespace Go.Fbs
open Go.Proofs
def aPl (c:Int):Bool:=decide (97≤c) && decide (c≤122) || decide (48≤c) && decide (c≤57)
def a4v (c:Int):Bool:=aPl c || decide (c=95) || decide (c=45) || decide (c=46)
def idB (c:Int):Bool:=a4v c || decide (c=47) || decide (c=124) || decide (c=42)
def xY (l:List UInt8):Bool:=decide (1≤l.length) && decide (l.length≤30) && aPl (l.getD 0 0).toNat && l.all (fun c=>a4v c.toNat)
def idT (l:List UInt8):Bool:=decide (1≤l.length) && decide (l.length≤250) && l.all (fun c=>idB c.toNat)
def lJ:Spec
 | [.int .u8 c]=>some (.bool (aPl c))
 | _=>none
theorem aEs:fS Try.prog l9 lJ:=by
 refine aRs (T:=[]) (aM.nil) fun args v hv=>?_
 unfold lJ at hv
 split at hv <;> (try simp only [Option.ite_none_right_eq_some,zzz,reduceCtorEq] at hv)
 rename_i c
 subst hv
 refine ⟨rfl,rfl,rfl,?_⟩
 rw [aV7]
 by_cases h1:97≤c <;> by_cases h2:c≤122 <;> by_cases h3:48≤c <;> by_cases h4:c≤57 <;> simp [sS,if_true,if_false,reduceCtorEq,aPl,h1,h2,h3,h4]
def lK:Spec
 | [.int .u8 c]=>some (.bool (a4v c))
 | _=>none
theorem aEt:fS Try.prog lC lK:=by
 refine aRt (T:=[(l9,lJ)]) (aM.cons aEs aM.nil) fun args v hv=>?_
 have c_atom_first:∀ args,bT [(l9,lJ)] l9 args=lJ args:=fun _=>rfl
 unfold lK at hv
 split at hv <;> (try simp only [Option.ite_none_right_eq_some,zzz,reduceCtorEq] at hv)
 rename_i c
 subst hv
 refine ⟨rfl,rfl,rfl,?_⟩
 rw [aV8]
 cases h0:aPl c <;> by_cases h1:c=95 <;> by_cases h2:c=45 <;> by_cases h3:c=46 <;> simp [sS,if_true,if_false,reduceCtorEq,c_atom_first,lJ,a4v,h0,h1,h2,h3]
theorem aV9 {p : UInt8 → Bool} {l : List UInt8} {k : Nat} {c : UInt8} (h : l[k]? = some c) (hk : (l.take k).all p = true) : (l.take (k + 1)).all p = p c:=by
 rw [List.take_add_one,h,List.all_append,hk]; simp
theorem aZg {p : UInt8 → Bool} {l : List UInt8} {k : Nat} {c : UInt8} (h : l[k]? = some c) (hc : p c = false) : l.all p = false:=by
 cases hh:l.all p
 ·rfl
 ·rw [List.all_eq_true.1 hh c (zyx h)] at hc; simp at hc
theorem aZh {p:UInt8→Bool} {l:List UInt8} {k:Nat} (h:l.length≤k) (hk:(l.take k).all p=true):l.all p=true:=by
 rwa [List.take_of_length_le h] at hk
def tW:Spec
 | [.str l]=>if l.length≤mL then some (.bool (xY l)) else none
 | _=>none
theorem aWa:fS Try.prog nL tW:=by
 refine aV6 (T:=[(l9,lJ),(lC,lK)]) (aM.cons aEs (aM.cons aEt aM.nil)) fun args v hv=>?_
 have c_atom_first:∀ args,bT [(l9,lJ),(lC,lK)] l9 args=lJ args:=fun _=>rfl
 have c_atom_plain:∀ args,bT [(l9,lJ),(lC,lK)] lC args=lK args:=fun _=>rfl
 unfold tW at hv
 split at hv <;> (try simp only [Option.ite_none_right_eq_some,zzz,reduceCtorEq] at hv)
 rename_i l
 obtain ⟨hl,rfl⟩:=hv
 unfold mL at hl
 refine ⟨rfl,rfl,rfl,?_⟩
 rw [aXl]
 cases l with
 | nil=>simp [sS,if_true,if_false,reduceCtorEq,xY]
 | cons c t =>
  have e0:((c::t:List UInt8) == [])=false:=rfl
  have i0:kA (.str (c::t)) (.int .i64 0)=some (.int .u8 c.toNat):=xF (k:=0) rfl .i64
  generalize hll:c::t=l at *
  have hl1:1≤l.length:=by rw [← hll]; simp
  have hg:l.getD 0 0=c:=by rw [← hll]; rfl
  simp only [sS,if_true,if_false,reduceCtorEq,e0]
  by_cases h30:l.length≤30
  ·have h30':¬ (30:Int) < (l.length:Int):=by omega
   simp only [sS,if_true,if_false,reduceCtorEq,h30',decide_false,i0,c_atom_first,lJ]
   cases ha:aPl c.toNat
   ·simp only [sS,if_true,if_false,reduceCtorEq,xY,hg,ha]
   ·simp only [sS,if_true,if_false,reduceCtorEq]
    refine jC (fun vs=>∃ k:Nat,vs=[vI k]∧k≤l.length∧(l.take k).all (fun c=>a4v c.toNat)=true) (fun vs=>l.length - jP (gv vs 0)) ⟨0,rfl,Nat.zero_le _,rfl⟩ ?_
    rintro r _ ⟨k,rfl,hk,hn⟩ hr
    refine ⟨rfl,?_⟩
    simp only [sS,if_true,if_false,reduceCtorEq]
    by_cases hlt:k < l.length
    ·have hlt':(k:Int) < (l.length:Int):=by omega
     obtain ⟨d,hd⟩ : ∃ d,l[k]? = some d:=⟨l[k],zyz hlt⟩
     simp only [hlt',decide_true,sS,if_true,if_false,reduceCtorEq,xF hd,c_atom_plain,lK]
     have h2:=aV9 (p:=fun c=>a4v c.toNat) hd hn
     cases hp:a4v d.toNat
     ·simp only [sS,if_true,if_false,reduceCtorEq,xY,aZg (p:=fun c=>a4v c.toNat) hd hp]
     ·simp only [sS,if_true,if_false,reduceCtorEq]
      rw [lN (by omega) (by omega)]
      refine hr _ ⟨k+1,by simp,hlt,by rw [h2]; exact hp⟩ ?_
      simp [gv,jP]; omega
    ·have hlt':¬ (k:Int) < (l.length:Int):=by omega
     simp only [hlt',decide_false,sS,if_true,if_false,reduceCtorEq,xY,hg,ha,hl1,h30,decide_true,aZh (p:=fun c=>a4v c.toNat) (by omega) hn]
  ·have h30':(30:Int) < (l.length:Int):=by omega
   simp [sS,if_true,if_false,reduceCtorEq,h30',xY,h30]
def yY:Spec
 | [.str l]=>if l.length≤mL then some (.bool (idT l)) else none
 | _=>none
theorem b2w:fS Try.prog uU yY:=by
 refine b2v (T:=[(lC,lK)]) (aM.cons aEt aM.nil) fun args v hv=>?_
 have c_atom_plain:∀ args,bT [(lC,lK)] lC args=lK args:=fun _=>rfl
 unfold yY at hv
 split at hv <;> (try simp only [Option.ite_none_right_eq_some,zzz,reduceCtorEq] at hv)
 rename_i l
 obtain ⟨hl,rfl⟩:=hv
 unfold mL at hl
 refine ⟨rfl,rfl,rfl,?_⟩
 rw [b6l]
 simp only [sS,if_true,if_false,reduceCtorEq]
 refine jC (fun vs=>∃ k:Nat,vs=[vI k]∧k≤l.length∧(l.take k).all (fun c=>idB c.toNat)=true) (fun vs=>l.length - jP (gv vs 0)) ⟨0,rfl,Nat.zero_le _,rfl⟩ ?_
 rintro r _ ⟨k,rfl,hk,hn⟩ hr
 refine ⟨rfl,?_⟩
 simp only [sS,if_true,if_false,reduceCtorEq]
 by_cases hlt:k < l.length
 ·have hlt':(k:Int) < (l.length:Int):=by omega
  obtain ⟨d,hd⟩ : ∃ d,l[k]? = some d:=⟨l[k],zyz hlt⟩
  simp only [hlt',decide_true,sS,if_true,if_false,reduceCtorEq,xF hd,c_atom_plain,lK]
  have h2:=aV9 (p:=fun c=>idB c.toNat) hd hn
  have step:idB d.toNat=true→r [vI (k+1:Nat)]:=fun hp=>hr _ ⟨k+1,rfl,hlt,by rw [h2]; exact hp⟩ (by simp [gv,jP]; omega)
  have stop_:idB d.toNat=false→idT l=false:=fun hp=>by simp only [idT,aZg (p:=fun c=>idB c.toNat) hd hp,Bool.and_false]
  have hw:IntKind.i64.wrap ((k:Int)+1)=((k+1:Nat):Int):=by rw [lN (by omega) (by omega)]; omega
  simp only [idB] at step stop_
  cases h0:a4v d.toNat <;> by_cases h1:(d.toNat:Int)=47 <;> by_cases h3:(d.toNat:Int)=124 <;> by_cases h4:(d.toNat:Int)=42 <;> simp [h0,h1,h3,h4] at step stop_ <;> simp [sS,if_true,if_false,reduceCtorEq,h1,h3,h4,hw,stop_,step]
 ·have hlt':¬ (k:Int) < (l.length:Int):=by omega
  have ha:=aZh (p:=fun c=>idB c.toNat) (by omega:l.length≤k) hn
  simp only [hlt',decide_false,sS,if_true,if_false,reduceCtorEq,idT,ha]
  cases l with
  | nil=>rfl
  | cons c t =>
   have e0:((c::t:List UInt8) == [])=false:=rfl
   have h1:1≤(c::t).length:=by simp
   have h2:decide (((c::t).length:Int)≤250)=decide ((c::t).length≤250):=by rw [decide_eq_decide]; omega
   simp only [sS,if_true,if_false,reduceCtorEq,e0,h1,decide_true,h2]
def okT (a b c d e f:List UInt8):Bool:=xY a && idT b && xY c && xY d && idT e && (f == [] || xY f)
def a8l (a b c d e f:List UInt8):Prop:=a.length≤mL∧b.length≤mL∧c.length≤mL∧d.length≤mL∧e.length≤mL∧f.length≤mL
instance (a b c d e f:List UInt8):Decidable (a8l a b c d e f):=by unfold a8l; infer_instance
theorem bC7 (a b c d e f:List UInt8):bF 6 (.agg [.str a,.str b,.str c,.str d,.str e,.str f])=some (.agg [.str a,.str b,.str c,.str d,.str e,.str f]):=rfl
def a5n:Spec
 | [.agg [.str a,.str b,.str c,.str d,.str e,.str f]]=>if a8l a b c d e f then some (.bool (okT a b c d e f)) else none
 | _=>none
theorem b2x:fS Try.prog a48 a5n:=by
 refine b2u (T:=[(nL,tW),(uU,yY)]) (aM.cons aWa (aM.cons b2w aM.nil)) fun args v hv=>?_
 have c_atom_Name:∀ args,bT [(nL,tW),(uU,yY)] nL args=tW args:=fun _=>rfl
 have c_atom_ID:∀ args,bT [(nL,tW),(uU,yY)] uU args=yY args:=fun _=>rfl
 unfold a5n at hv
 split at hv <;> (try simp only [Option.ite_none_right_eq_some,zzz,reduceCtorEq] at hv)
 rename_i a b c d e f
 obtain ⟨⟨h1,h2,h3,h4,h5,h6⟩,rfl⟩:=hv
 refine ⟨rfl,rfl,rfl,?_⟩
 rw [b6k]
 simp only [bC7,sS,if_true,if_false,reduceCtorEq,List.getD_cons_zero,List.getD_cons_succ,c_atom_Name,tW,c_atom_ID,yY,h1,h2,h3,h4,h5,h6]
 cases ha:xY a <;> cases hb:idT b <;> cases hc:xY c <;> cases hd:xY d <;> cases he:idT e <;> cases hf:(f == []) <;> cases hg:xY f <;> simp only [sS,if_true,if_false,reduceCtorEq,okT,ha,hb,hc,hd,he,hf,hg]
structure uB where
 (a b c d e f:List UInt8)
def uB.v (x:uB):V:=.agg [.str x.a,.str x.b,.str x.c,.str x.d,.str x.e,.str x.f]
def uB.ok (x:uB):Bool:=okT x.a x.b x.c x.d x.e x.f
end Go.Fbs

namespace Go.Fbs
open Go.Proofs
attribute [local irreducible] bW cC opt
theorem bId (x y:Sub) (neg:Bool):aFo [2,2,2] neg (lX x) (lX y)=some (.bool (decide (x=y) != neg)):=by
 obtain ⟨a,b,c⟩:=x
 obtain ⟨a',b',c'⟩:=y
 have:(a == a' && (b == b' && c == c'))=decide ((a,b,c)=(a',b',c')):=by
  by_cases h1:a=a' <;> by_cases h2:b=b' <;> by_cases h3:c=c' <;> simp [h1,h2,h3]
 simp only [aFo,lX,fN,eqS,Option.map_some,Bool.and_true,this]
theorem bIe {l : List Sub} {i : Nat} {x : Sub} (h : l[i]? = some x) : gX true 3 (mF l) (vI (i : Nat)) = some (lX x):=by
 refine aCm (cs:=[.str x.1,.str x.2.1,.str x.2.2]) ?_ rfl rfl .i64
 rw [zvz,h]; rfl
theorem bA2 {l : List Rel} {i : Nat} {x : Rel} (h : l[i]? = some x) : gX true 3 (nH l) (vI (i : Nat)) = some (mW x):=by
 refine aCm (cs:=[.str x.1,mF x.2.1,fE x.2.2]) ?_ rfl rfl .i64
 rw [zvz,h]; rfl
theorem bA3 {l : List fM} {i : Nat} {x : fM} (h : l[i]? = some x) : gX true 2 (fT l) (vI (i : Nat)) = some (pY x):=by
 refine aCm (cs:=[.str x.1,nH x.2]) ?_ rfl rfl .i64
 rw [zvz,h]; rfl
theorem bFx (a b:List UInt8):aD .eql (.str a) (.str b)=some (.bool (decide (a=b))):=by
 rw [bD9]
 congr 2
 by_cases h:a=b <;> simp [h]
def oT {α : Type} (p : α → Bool) (l : List α) (k : Nat) : Int:=match (l.drop k).findIdx? p with | some j=>(k + j : Nat) | none=>-1
theorem aHp {α:Type} {p:α→Bool} {l:List α} {k:Nat} (h:l.length≤k):oT p l k = -1:=by
 unfold oT; rw [List.drop_eq_nil_of_le h]; rfl
theorem aLd {α : Type} {p : α → Bool} {l : List α} {k : Nat} {b : α} (h : l[k]? = some b) : oT p l k = if p b = true then ((k : Nat) : Int) else oT p l (k + 1):=by
 have hk:k < l.length:=(zzy.1 h).1
 have hb:l[k]=b:=(zzy.1 h).2
 unfold oT
 rw [List.drop_eq_getElem_cons hk,hb,List.findIdx?_cons]
 by_cases hc:p b=true
 ·simp [hc]
 ·rw [if_neg hc,if_neg hc]
  cases (l.drop (k + 1)).findIdx? p with
  | none=>rfl
  | some j=>simp only [Option.map_some]; omega
noncomputable def kI:Spec:=gV (fun q:List Sub×Sub=>[mF q.1,lX q.2]) (fun q=>q.1.length≤mL) (fun q=>vI (oT (fun y=>decide (y=q.2)) q.1 0))
theorem bA4:∀ a b:List Sub×Sub,[mF a.1,lX a.2]=[mF b.1,lX b.2]→a=b:=fun a b h=>by
 simp only [List.cons.injEq,and_true,mF,V.sl.injEq,true_and] at h
 exact Prod.ext (sO (fun _ _=>aKr) h.1) (aKr h.2)
theorem bC8 {l:List Sub} (h:l.length≤mL) (x:Sub):kI [mF l,lX x]=some (vI (oT (fun y=>decide (y=x)) l 0)):=gD (a:=(l,x)) bA4 h
theorem a1x:fS Try.prog iD kI:=by
 refine a1w (T:=[]) aM.nil fun args v hv=>?_
 obtain ⟨⟨l,x⟩,rfl,hl,rfl⟩:=eO hv
 refine ⟨rfl,by simp [aL,aC1,V.bU,lX],rfl,?_⟩
 refine Eq.mpr (a2w (bT _) _ (mF l) (lX x)) ?_
 simp only at hl
 unfold mL at hl
 rw [bAj,aB,b4k,aB]
 refine jC (fun vs=>∃ k:Nat,vs=[vI k]∧k≤l.length∧oT (fun y=>decide (y=x)) l k=oT (fun y=>decide (y=x)) l 0) (fun vs=>l.length - jP (gv vs 0)) ⟨0,rfl,Nat.zero_le _,rfl⟩ ?_
 rintro r _ ⟨k,rfl,hk,he⟩ hr
 refine ⟨rfl,?_⟩
 simp only [sL]
 rw [aAd,aB,cK]
 by_cases hlt:k < l.length
 ·rw [if_pos (by simp only [decide_eq_true_eq]; omega)]
  have hx : l[k]? = some l[k]:=zyz hlt
  rw [aLd hx] at he
  rw [bIe hx,aB,bId,aB,Bool.bne_false,cK]
  by_cases hq:l[k]=x
  ·rw [if_pos (by simpa using hq)] at he
   rw [if_pos (by simpa using hq.symm),← he]
  ·rw [if_neg (by simpa using hq)] at he
   rw [if_neg (by simpa using fun e=>hq e.symm),aKl,lN (by omega) (by omega),aB]
   exact hr _ ⟨k+1,rfl,hlt,he⟩ (by simp [gv,jP]; omega)
 ·rw [if_neg (by simp only [decide_eq_true_eq]; omega)]
  rw [aHp (by omega)] at he
  rw [← he]
theorem b6m {l:List Sub} {x:Sub} : decide (0≤oT (fun y=>decide (y=x)) l 0)=decide (x ∈ l):=by
 unfold oT
 simp only [List.drop_zero]
 cases h : l.findIdx? (fun y=>decide (y = x)) with
 | none =>
  rw [List.findIdx?_eq_none_iff] at h
  have:x ∉ l:=fun hc=>by have:=h x hc; simp at this
  simp [this]
 | some j =>
  have:x ∈ l:=by
   obtain ⟨hj,h1,_⟩:=List.findIdx?_eq_some_iff_getElem.1 h
   simp only [decide_eq_true_eq] at h1
   rw [← h1]; exact List.getElem_mem hj
  simp [this]
noncomputable def j9:Spec:=gV (fun q:List Sub×Sub=>[mF q.1,lX q.2]) (fun q=>q.1.length≤mL) (fun q=>.bool (decide (q.2 ∈ q.1)))
theorem bIf {l:List Sub} (h:l.length≤mL) (x:Sub):j9 [mF l,lX x]=some (.bool (decide (x ∈ l))):=gD (a:=(l,x)) bA4 h
noncomputable abbrev TLc:List (FuncId×Spec):=[(iD,kI)]
theorem a0f:fS Try.prog fY j9:=by
 refine a0a (T:=TLc) (aM.cons a1x aM.nil) fun args v hv=>?_
 have c1:∀ args,bT TLc iD args=kI args:=fun _=>rfl
 obtain ⟨⟨l,x⟩,rfl,hl,rfl⟩:=eO hv
 refine ⟨rfl,by simp [aL,aC1,V.bU,lX],rfl,?_⟩
 refine Eq.mpr (a0p (bT _) _ (mF l) (lX x)) ?_
 simp only at hl
 rw [bAj,aB,c1,bC8 hl,aB,b1g,aB,b6m]
theorem aNx {α:Type} {w:α→V} (hw:∀ a b,w a=w b→a=b):∀ a b:α×uB,[w a.1,a.2.v]=[w b.1,b.2.v]→a=b:=fun a b h=>by
 simp only [List.cons.injEq,and_true] at h
 refine Prod.ext (hw _ _ h.1) ?_
 obtain ⟨_,x⟩:=a
 obtain ⟨_,y⟩:=b
 obtain ⟨a,b,c,d,e,f⟩:=x
 obtain ⟨a',b',c',d',e',f'⟩:=y
 simpa [uB.v] using h.2
theorem aIk (x:uB):aG [.str x.a,.str x.b,.str x.c,.str x.d,.str x.e,.str x.f]=some x.v:=nr rfl
theorem aHq (x:uB):aG [aA x.v 0,aA x.v 1,aA x.v 2,aA x.v 3,aA x.v 4,aA x.v 5]=some x.v:=nr rfl
theorem aNy (x:uB):bF 6 x.v=some x.v:=nr rfl
theorem wL (x:uB):x.v.bU=true:=rfl
noncomputable def aIl:Spec:=gV (fun q:fM×uB=>[pY q.1,q.2.v]) (fun _=>True) (fun q=>.aO [.bool (decide (q.1.1=q.2.a)),q.2.v])
theorem bFy (t:fM) (x:uB):aIl [pY t,x.v]=some (.aO [.bool (decide (t.1=x.a)),x.v]):=gD (a:=(t,x)) (aNx fun _ _=>aKt) trivial
theorem aNz:fU Try.prog aEi j7 aIl:=by
 refine aKm (T:=[]) aM.nil fun words v hv=>?_
 obtain ⟨⟨t,x⟩,rfl,_,rfl⟩:=eO hv
 refine ⟨_,rfl,rfl,by simp [aL,aQb,wL],by simp [aL,wL,V.bU],rfl,rfl,?_⟩
 refine Eq.mpr (aMq (bT _) _ (pY t) (.str x.a) (.str x.b) (.str x.c) (.str x.d) (.str x.e) (.str x.f)) ?_
 rw [bHm,aB,show aA (pY t) 0 = .str t.1 from rfl,bFx,aB,aIk,aB]
noncomputable def aIm:Spec:=gV (fun q:Rel×uB=>[mW q.1,q.2.v]) (fun _=>True) (fun q=>.aO [.bool (decide (q.1.1=q.2.c)),q.2.v])
theorem bFz (t:Rel) (x:uB):aIm [mW t,x.v]=some (.aO [.bool (decide (t.1=x.c)),x.v]):=gD (a:=(t,x)) (aNx fun _ _=>aKs) trivial
theorem aN0:fU Try.prog aEj j8 aIm:=by
 refine aKn (T:=[]) aM.nil fun words v hv=>?_
 obtain ⟨⟨t,x⟩,rfl,_,rfl⟩:=eO hv
 refine ⟨_,rfl,rfl,by simp [aL,aGn,wL],by simp [aL,wL,V.bU],rfl,rfl,?_⟩
 refine Eq.mpr (aMr (bT _) _ (mW t) (.str x.a) (.str x.b) (.str x.c) (.str x.d) (.str x.e) (.str x.f)) ?_
 rw [bHn,aB,show aA (mW t) 0 = .str t.1 from rfl,bFx,aB,aIk,aB]
noncomputable def aSd:Spec:=gV (fun q:List fM×uB=>[fT q.1,q.2.v]) (fun q=>q.1.length≤mL) (fun q=>.aO [vI (oT (fun t=>decide (t.1=q.2.a)) q.1 0),q.2.v])
theorem aRa {a b:List fM} (h:fT a=fT b):a=b:=by
 simp only [fT,V.sl.injEq,true_and] at h
 exact sO (fun _ _=>aKt) h
theorem b6n {a b:List Rel} (h:nH a=nH b):a=b:=by
 simp only [nH,V.sl.injEq,true_and] at h
 exact sO (fun _ _=>aKs) h
theorem bJz {l:List fM} (h:l.length≤mL) (x:uB):aSd [fT l,x.v]=some (.aO [vI (oT (fun t=>decide (t.1=x.a)) l 0),x.v]):=gD (a:=(l,x)) (aNx fun _ _=>aRa) h
noncomputable abbrev TLi:List (FuncId×Spec):=[(a5r,aIl)]
theorem bC9:fU Try.prog pW bH aSd:=by
 refine wX (T:=TLi) (aM.kU aNz aM.nil) fun words v hv=>?_
 have c1:∀ args,bT TLi a5r args=aIl args:=fun _=>rfl
 obtain ⟨⟨l,x⟩,rfl,hl,rfl⟩:=eO hv
 refine ⟨_,rfl,rfl,by simp [aL,a6y,wL],by simp [aL,wL,V.bU],rfl,rfl,?_⟩
 refine Eq.mpr (xN (bT _) _ (fT l) (.str x.a) (.str x.b) (.str x.c) (.str x.d) (.str x.e) (.str x.f)) ?_
 simp only at hl
 unfold mL at hl
 rw [aUg,aB]
 refine jC (fun vs=>∃ k:Nat,vs=[vI k,.str x.a,.str x.b,.str x.c,.str x.d,.str x.e,.str x.f]∧k≤l.length∧oT (fun t=>decide (t.1=x.a)) l k=oT (fun t=>decide (t.1=x.a)) l 0) (fun vs=>l.length - jP (gv vs 0)) ⟨0,rfl,Nat.zero_le _,rfl⟩ ?_
 rintro r _ ⟨k,rfl,hk,he⟩ hr
 refine ⟨rfl,?_⟩
 simp only [sL,tV]
 rw [aAd,aB,cK]
 by_cases hlt:k < l.length
 ·rw [if_pos (by simp only [decide_eq_true_eq]; omega)]
  have hx : l[k]? = some l[k]:=zyz hlt
  rw [aLd hx] at he
  rw [bA3 hx,aB,aIk,aB,c1,bFy,aB,x0,aB,x1,aB,aNy,aB,cK]
  by_cases hq:decide (l[k].1=x.a)=true
  ·rw [if_pos hq] at he
   rw [if_pos hq,aHq,aB,← he]
  ·rw [if_neg hq] at he
   rw [if_neg hq,aKl,lN (by omega) (by omega),aB]
   exact hr _ ⟨k+1,rfl,hlt,he⟩ (by simp [gv,jP]; omega)
 ·rw [if_neg (by simp only [decide_eq_true_eq]; omega)]
  rw [aHp (by omega)] at he
  rw [aIk,aB,← he]
noncomputable def aSe:Spec:=gV (fun q:List Rel×uB=>[nH q.1,q.2.v]) (fun q=>q.1.length≤mL) (fun q=>.aO [vI (oT (fun t=>decide (t.1=q.2.c)) q.1 0),q.2.v])
theorem bJ0 {l:List Rel} (h:l.length≤mL) (x:uB):aSe [nH l,x.v]=some (.aO [vI (oT (fun t=>decide (t.1=x.c)) l 0),x.v]):=gD (a:=(l,x)) (aNx fun _ _=>b6n) h
noncomputable abbrev TLj:List (FuncId×Spec):=[(a5s,aIm)]
theorem bDa:fU Try.prog rB bL aSe:=by
 refine xZ (T:=TLj) (aM.kU aN0 aM.nil) fun words v hv=>?_
 have c1:∀ args,bT TLj a5s args=aIm args:=fun _=>rfl
 obtain ⟨⟨l,x⟩,rfl,hl,rfl⟩:=eO hv
 refine ⟨_,rfl,rfl,by simp [aL,aMu,wL],by simp [aL,wL,V.bU],rfl,rfl,?_⟩
 refine Eq.mpr (yP (bT _) _ (nH l) (.str x.a) (.str x.b) (.str x.c) (.str x.d) (.str x.e) (.str x.f)) ?_
 simp only at hl
 unfold mL at hl
 rw [b4l,aB]
 refine jC (fun vs=>∃ k:Nat,vs=[vI k,.str x.a,.str x.b,.str x.c,.str x.d,.str x.e,.str x.f]∧k≤l.length∧oT (fun t=>decide (t.1=x.c)) l k=oT (fun t=>decide (t.1=x.c)) l 0) (fun vs=>l.length - jP (gv vs 0)) ⟨0,rfl,Nat.zero_le _,rfl⟩ ?_
 rintro r _ ⟨k,rfl,hk,he⟩ hr
 refine ⟨rfl,?_⟩
 simp only [sL,tV]
 rw [aAd,aB,cK]
 by_cases hlt:k < l.length
 ·rw [if_pos (by simp only [decide_eq_true_eq]; omega)]
  have hx : l[k]? = some l[k]:=zyz hlt
  rw [aLd hx] at he
  rw [bA2 hx,aB,aIk,aB,c1,bFz,aB,x0,aB,x1,aB,aNy,aB,cK]
  by_cases hq:decide (l[k].1=x.c)=true
  ·rw [if_pos hq] at he
   rw [if_pos hq,aHq,aB,← he]
  ·rw [if_neg hq] at he
   rw [if_neg hq,aKl,lN (by omega) (by omega),aB]
   exact hr _ ⟨k+1,rfl,hlt,he⟩ (by simp [gv,jP]; omega)
 ·rw [if_neg (by simp only [decide_eq_true_eq]; omega)]
  rw [aHp (by omega)] at he
  rw [aIk,aB,← he]
end Go.Fbs
