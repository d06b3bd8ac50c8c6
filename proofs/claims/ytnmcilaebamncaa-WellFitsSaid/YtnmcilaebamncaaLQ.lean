/- Tuples that fit: told; the law but for its run. -/
import Derived.Test.YtnmcilaebamncaaLP
set_option linter.unusedVariables false
set_option linter.unusedSimpArgs false
set_option linter.unusedSectionVars false
set_option maxRecDepth 100000
namespace Go.Fbs
open Go.Proofs
attribute [local irreducible] cN bX opt
theorem aLp {α : Type} (p : α → Bool) (l : List α) : (l.find? p = none ∧ mO p l 0 = -1) ∨ ∃ (k : Nat) (t : α),l[k]? = some t ∧ l.find? p = some t ∧ mO p l 0 = ((k : Nat) : Int):=by
 unfold mO
 simp only [List.drop_zero]
 cases h : l.findIdx? p with
 | none =>
  left
  refine ⟨?_,rfl⟩
  rw [List.findIdx?_eq_none_iff] at h
  rw [List.find?_eq_none]
  intro x hx
  rw [h x hx]; simp
 | some j =>
  right
  obtain ⟨hj,h1,h2⟩:=List.findIdx?_eq_some_iff_getElem.1 h
  refine ⟨j,l[j],zyz hj,?_,by simp⟩
  rw [List.find?_eq_some_iff_getElem]
  exact ⟨h1,j,hj,rfl,fun i hi=>by simpa using h2 i hi⟩
def a2q (ts:List j0) (x:kA):Bool :=
 x.ok && match ts.find? (fun t=>decide (t.1 = x.a)) with
  | none=>false
  | some t=>match t.2.find? (fun r=>decide (r.1 = x.c)) with
   | none=>false
   | some r=>decide ((x.d,[],x.f) ∈ r.2.1)
def aFg (ts:List j0):Prop:=ts.length≤big∧∀ t ∈ ts,t.2.length≤big∧∀ r ∈ t.2,r.2.1.length≤big
def kA.short (x:kA):Prop:=wZ x.a x.b x.c x.d x.e x.f
noncomputable def a2r:Spec:=iA (fun q:List j0×kA=>[iU q.1,q.2.v]) (fun q=>aFg q.1∧q.2.short) (fun q=>.bool (a2q q.1 q.2))
theorem aZ4 {ts:List j0} {x:kA} (h:aFg ts) (hx:x.short):a2r [iU ts,x.v]=some (.bool (a2q ts x)):=gV (a:=(ts,x)) (aLm fun _ _=>aOc) ⟨h,hx⟩
theorem bAd {x:kA} (h:x.short):a3o [x.v]=some (.bool x.ok):=by
 show (if wZ x.a x.b x.c x.d x.e x.f then some (V.bool (okT x.a x.b x.c x.d x.e x.f)) else none)=_
 rw [if_pos (show wZ x.a x.b x.c x.d x.e x.f from h)]; rfl
theorem bDd {x:kA} (h:x.short):rM [x.v]=some (.bool x.ok):=by
 show (if wZ x.a x.b x.c x.d x.e x.f then some (V.bool (okT x.a x.b x.c x.d x.e x.f)) else none)=_
 rw [if_pos (show wZ x.a x.b x.c x.d x.e x.f from h)]; rfl
theorem xM (o:Option V):aK (.bool true) false o=some .undef:=nr rfl
theorem a19 (o:Option V):aK (.bool false) true o=some .undef:=nr rfl
theorem aFh (x:kA):aI [a7 x.v 3,.str [],a7 x.v 5]=some (kL (x.d,[],x.f)):=nr rfl
theorem bFj (t:j0):qL false 1 1 (mB t)=some (lJ t.2):=nr rfl
theorem bFk (r:Rel):qL false 1 1 (kF r)=some (l6 r.2.1):=nr rfl
noncomputable abbrev aGr:List (FuncId×Spec):=[(jW,aPe),(a3f,a3o),(kK,aPf),(fT,iM)]
theorem bAe (ts:List j0) (x:kA) (h:aFg ts) (hx:x.short):bX bO (bL aGr) 45 a2m [.tmp 4] (cB Try.f9) [iU ts,x.v] (fun r=>r = .bool (a2q ts x)):=by
 have c1:∀ args,bL aGr jW args=aPe args:=fun _=>rfl
 have c2:∀ args,bL aGr a3f args=a3o args:=fun _=>rfl
 have c3:∀ args,bL aGr kK args=aPf args:=fun _=>rfl
 have c4:∀ args,bL aGr fT args=iM args:=fun _=>rfl
 refine Eq.mpr (aUu (bL _) _ (iU ts) x.v) ?_
 rw [aGo,aA,aFf,aA,c1,bHy h.1,aA,x0,aA,x1,aA,aGo,aA]
 unfold a2q
 rcases aLp (fun t:j0=>decide (t.1=x.a)) ts with ⟨e1,e2⟩ | ⟨i,t,e0,e1,e2⟩
 ·rw [e2,e1,a5z,aA,aFf,aA,decide_eq_true (by decide)]
  rw [xM,aA,xM,aA,a2p,aA,tE]
  simp
 ·have ht : t ∈ ts:=zyx e0
  rw [e2,e1,a5z,aA,aFf,aA,decide_eq_false (by omega),gI,c2,bAd hx,aA,gI,a5y,aA,aGh,aA,bY]
  cases hok:x.ok with
  | false=>simp
  | true =>
   rw [if_neg (by simp),aZ2 e0,aA,aA,show a7 (mB t) 1=lJ t.2 from rfl,c3,bHz (h.2 t ht).1,aA,x0,aA,x1,aA,aGo,aA]
   simp only [Bool.true_and]
   rcases aLp (fun r:Rel=>decide (r.1=x.c)) t.2 with ⟨f1,f2⟩ | ⟨k,r,f0,f1,f2⟩
   ·rw [f2,f1,aY5,aA,decide_eq_false (by decide)]
    rw [a19,aA,a19,aA,a19,aA,a19,aA,aFh,aA,a19,aA,aGh,aA]
   ·have hr : r ∈ t.2:=zyx f0
    rw [f2,f1,aY5,aA,decide_eq_true (by omega),gI,aA,gI,bFj,aA,gI,aZ1 f0,aA,gI,bFk,aA,aFh,aA,gI,c4,bFi ((h.2 t ht).2 r hr),aA,a2p,aA]
theorem aTq:dD Try.prog rQ a2r:=by
 refine aSt (T:=aGr) (aL.jM bAb (aL.cons aZ0 (aL.jM bAc (aL.cons xY aL.nil)))) fun args v hv=>?_
 obtain ⟨⟨ts,x⟩,rfl,⟨h,hx⟩,rfl⟩:=eR hv
 exact ⟨rfl,by simp [aO,a4z,tX],rfl,bAe ts x h hx⟩
theorem aI6 {α : Type} {q : List UInt8 × α → Bool} {a : List UInt8} : ∀ {l : List (List UInt8 × α)},(l.map (·.1)).Nodup → l.any (fun t=>decide (t.1 = a) && q t) = match l.find? (fun t=>decide (t.1 = a)) with | none=>false | some t=>q t
 | [],_=>rfl
 | t::l,h=>by
  rw [List.map_cons,List.nodup_cons] at h
  rw [List.any_cons,List.find?_cons]
  by_cases ht:t.1=a
  ·have hn:l.any (fun t=>decide (t.1=a) && q t)=false:=by
    rw [List.any_eq_false]
    intro x hx
    have:x.1≠a:=fun e=>h.1 (by rw [ht,← e]; exact List.mem_map_of_mem hx)
    simp [this]
   rw [hn]
   simp [ht]
  ·simp only [ht,decide_false,Bool.false_and,Bool.false_or]
   exact aI6 h.2
def a7j (x:kA) (t:j0) (r:Rel) (s:Sub):Bool:=(decide (t.1=x.a) && decide (r.1=x.c)) && decide (s=(x.d,[],x.f))
def aLq (x:kA) (t:j0) (r:Rel):Bool:=r.2.1.any (a7j x t r)
def yR (x:kA) (t:j0):Bool:=t.2.any (aLq x t)
def aPg (ts:List j0) (x:kA):Bool:=ts.any (yR x)
theorem b6c (x:kA) (t:j0) (r:Rel):aLq x t r=(decide (t.1=x.a) && (decide (r.1=x.c) && decide ((x.d,[],x.f) ∈ r.2.1))):=by
 unfold aLq
 have:∀ l:List Sub,l.any (a7j x t r)=(decide (t.1=x.a) && (decide (r.1=x.c) && decide ((x.d,[],x.f) ∈ l))):=fun l=>by
  induction l with
  | nil=>simp
  | cons s l ih =>
   rw [List.any_cons,ih]
   unfold a7j
   by_cases h1:t.1=x.a <;> by_cases h2:r.1=x.c <;> by_cases h3:s=(x.d,[],x.f) <;> simp [h1,h2,h3,eq_comm]
 exact this _
theorem aWn {α:Type} (b:Bool) (q:α→Bool):∀ l:List α,l.any (fun x=>b && q x)=(b && l.any q)
 | []=>by simp
 | a::l=>by rw [List.any_cons,List.any_cons,aWn b q l]; cases b <;> rfl
theorem b2y {ts:List j0} {x:kA} (hok:x.ok=true) (h1:(ts.map (·.1)).Nodup) (h2:∀ t ∈ ts,(t.2.map (·.1)).Nodup):a2q ts x=aPg ts x:=by
 unfold aPg a2q
 have e:∀ t:j0,yR x t=(decide (t.1=x.a) && t.2.any (fun r=>decide (r.1=x.c) && decide ((x.d,[],x.f) ∈ r.2.1))):=fun t=>by
  unfold yR
  rw [← aWn]
  congr 1
  funext r
  exact b6c x t r
 rw [show (yR x)=fun t=>(decide (t.1=x.a) && t.2.any (fun r=>decide (r.1=x.c) && decide ((x.d,[],x.f) ∈ r.2.1))) from funext e,aI6 h1,hok,Bool.true_and]
 cases hf : ts.find? (fun t=>decide (t.1 = x.a)) with
 | none=>rfl
 | some t =>
  simp only
  have:=aI6 (q:=fun r:Rel=>decide ((x.d,[],x.f) ∈ r.2.1)) (a:=x.c) (h2 t (List.mem_of_find?_eq_some hf))
  refine Eq.trans ?_ this.symm
  cases t.2.find? (fun r=>decide (r.1 = x.c)) <;> rfl
theorem aTr:∀ (k:Nat) (s:cA) (l:List Sub) (q:cA×List Sub),l.length≤50→qJ k s l=some q→q.2.length≤50
 | 0,s,l,q,_,h=>by simp [qJ] at h
 | k+1,s,l,q,hl,h=>by
  unfold qJ at h
  split at h
  ·simp at h
  rename_i hne
  obtain ⟨⟨u,sb⟩,_,h4⟩:=zwz.1 h
  simp only at h4
  split at h4
  ·exact aTr k _ _ q (by simp only [zwy,List.length_singleton]; omega) h4
  ·split at h4
   ·simp only [zzz] at h4
    subst h4
    simp only [zwy,List.length_singleton]; omega
   ·simp at h4
theorem bAf {s:cA} {q:cA×Rel} (h:vN s=some q):q.2.2.1.length≤50:=by
 obtain ⟨a,_,h2⟩:=zwz.1 (show (nK s).bind _=some q from h)
 split at h2
 ·obtain ⟨r,_,h3⟩:=zwz.1 h2
  split at h3
  ·simp only [zzz] at h3
   subst h3; simp
  ·simp at h3
 ·split at h2
  ·obtain ⟨q0,hr,h3⟩:=zwz.1 h2
   simp only [zzz] at h3
   subst h3
   exact aTr _ _ _ _ (by simp) hr
  ·simp at h2
theorem aTs:∀ (k:Nat) (s:cA) (l:List Rel) (q:cA×List Rel),(∀ r ∈ l,r.2.1.length≤50)→rK k s l=some q→∀ r ∈ q.2,r.2.1.length≤50
 | 0,s,l,q,_,h=>by simp [rK] at h
 | k+1,s,l,q,hl,h=>by
  unfold rK at h
  split at h
  ·simp only [zzz] at h
   subst h; exact hl
  ·split at h
   ·simp at h
   obtain ⟨u,hu,h4⟩:=zwz.1 h
   refine aTs k _ _ q (fun r hr=>?_) h4
   rcases List.mem_append.1 hr with hr | hr
   ·exact hl r hr
   ·rw [List.mem_singleton.1 hr]; exact bAf hu
theorem aOd:∀ (k:Nat) (s:cA) (l ts:List j0),(∀ t ∈ l,∀ r ∈ t.2,r.2.1.length≤50)→qU k s l=some ts→∀ t ∈ ts,∀ r ∈ t.2,r.2.1.length≤50
 | 0,s,l,ts,_,h=>by simp [qU] at h
 | k+1,s,l,ts,hl,h=>by
  unfold qU at h
  split at h
  ·split at h
   ·simp at h
   obtain ⟨⟨u,y⟩,hu,h4⟩:=zwz.1 h
   refine aOd k _ _ ts (fun t ht=>?_) h4
   rcases List.mem_append.1 ht with ht | ht
   ·exact hl t ht
   ·rw [List.mem_singleton.1 ht]
    unfold aBp at hu
    split at hu
    ·obtain ⟨a,_,h5⟩:=zwz.1 hu
     split at h5
     ·obtain ⟨q,hq,h6⟩:=zwz.1 h5
      simp only [zzz,zvy] at h6
      obtain ⟨_,rfl⟩:=h6
      exact aTs _ _ _ q (by simp) hq
     ·simp only [zzz,zvy] at h5
      obtain ⟨_,rfl⟩:=h5
      simp
    ·simp at hu
  ·simp only [zzz] at h
   subst h; exact hl
theorem aZ5 {w:List UInt8} {ts:List j0} (h:kM w=some ts):∀ t ∈ ts,∀ r ∈ t.2,r.2.1.length≤50:=by
 unfold kM at h
 split at h
 ·exact aOd _ _ _ ts (by simp) h
 ·simp at h
end Go.Fbs
