import Derived.Test.YtngdbicnabbplaaPN
import Derived.Test.YtngdbicnabbplaaPQ
import Derived.Test.YtngdbicnabbplaaPM
set_option linter.unusedSimpArgs false
set_option linter.unusedVariables false
set_option linter.unusedSectionVars false
set_option maxRecDepth 100000
namespace Go.Fbs
open Go.Proofs
attribute [local irreducible] bW cC opt
theorem aN1 {α : Type} (p : α → Bool) (l : List α) : (l.find? p = none ∧ oT p l 0 = -1) ∨ ∃ (k : Nat) (t : α),l[k]? = some t ∧ l.find? p = some t ∧ oT p l 0 = ((k : Nat) : Int):=by
 unfold oT
 simp only [List.drop_zero]
 cases h : l.findIdx? p with
 | none =>
  left
  refine ⟨?_,rfl⟩
  rw [List.findIdx?_eq_none_iff] at h
  rw [List.find?_eq_none]
  intro x hx
  rw [h x hx]; simp
 | some j =>
  right
  obtain ⟨hj,h1,h2⟩:=List.findIdx?_eq_some_iff_getElem.1 h
  refine ⟨j,l[j],zyz hj,?_,by simp⟩
  rw [List.find?_eq_some_iff_getElem]
  exact ⟨h1,j,hj,rfl,fun i hi=>by simpa using h2 i hi⟩
def aN2 (ts:List fM) (x:uB):Bool :=
 x.ok && match ts.find? (fun t=>decide (t.1 = x.a)) with
  | none=>false
  | some t=>match t.2.find? (fun r=>decide (r.1 = x.c)) with
   | none=>false
   | some r=>decide ((x.d,[],x.f) ∈ r.2.1)
def aWb (ts:List fM):Prop:=ts.length≤mL∧∀ t ∈ ts,t.2.length≤mL∧∀ r ∈ t.2,r.2.1.length≤mL
def uB.short (x:uB):Prop:=a8l x.a x.b x.c x.d x.e x.f
noncomputable def a0t:Spec:=gV (fun q:List fM×uB=>[fT q.1,q.2.v]) (fun q=>aWb q.1∧q.2.short) (fun q=>.bool (aN2 q.1 q.2))
theorem bIg {ts:List fM} {x:uB} (h:aWb ts) (hx:x.short):a0t [fT ts,x.v]=some (.bool (aN2 ts x)):=gD (a:=(ts,x)) (aNx fun _ _=>aRa) ⟨h,hx⟩
theorem bDb {x:uB} (h:x.short):a5n [x.v]=some (.bool x.ok):=by
 show (if a8l x.a x.b x.c x.d x.e x.f then some (V.bool (okT x.a x.b x.c x.d x.e x.f)) else none)=_
 rw [if_pos (show a8l x.a x.b x.c x.d x.e x.f from h)]; rfl
theorem aZi (o:Option V):aQ (.bool true) false o=some .undef:=nr rfl
theorem aBt (o:Option V):aQ (.bool false) true o=some .undef:=nr rfl
theorem b6o (x:uB):aG [aA x.v 3,.str [],aA x.v 5]=some (lX (x.d,[],x.f)):=nr rfl
theorem bIh (t:fM):uC false 1 1 (pY t)=some (nH t.2):=nr rfl
theorem bIi (r:Rel):uC false 1 1 (mW r)=some (mF r.2.1):=nr rfl
noncomputable abbrev aIo:List (FuncId×Spec):=[(lE,aSd),(a48,a5n),(lV,aSe),(fY,j9)]
theorem bDc (ts:List fM) (x:uB) (h:aWb ts) (hx:x.short):cC cM (bT aIo) 45 a4t [.tmp 4] (cB Try.f21) [fT ts,x.v] (fun r=>r = .bool (aN2 ts x)):=by
 have c1:∀ args,bT aIo lE args=aSd args:=fun _=>rfl
 have c2:∀ args,bT aIo a48 args=a5n args:=fun _=>rfl
 have c3:∀ args,bT aIo lV args=aSe args:=fun _=>rfl
 have c4:∀ args,bT aIo fY args=j9 args:=fun _=>rfl
 refine Eq.mpr (aXd (bT _) _ (fT ts) x.v) ?_
 rw [aNy,aB,aHq,aB,c1,bJz h.1,aB,x0,aB,x1,aB,aNy,aB]
 unfold aN2
 rcases aN1 (fun t:fM=>decide (t.1=x.a)) ts with ⟨e1,e2⟩ | ⟨i,t,e0,e1,e2⟩
 ·rw [e2,e1,aAd,aB,aHq,aB,decide_eq_true (by decide)]
  rw [aZi,aB,aZi,aB,a0z,aB,yJ]
  simp
 ·have ht : t ∈ ts:=zyx e0
  rw [e2,e1,aAd,aB,aHq,aB,decide_eq_false (by omega),nD,c2,bDb hx,aB,nD,aCl,aB,b1t,aB,cK]
  cases hok:x.ok with
  | false=>simp
  | true =>
   rw [if_neg (by simp),bA3 e0,aB,aB,show aA (pY t) 1=nH t.2 from rfl,c3,bJ0 (h.2 t ht).1,aB,x0,aB,x1,aB,aNy,aB]
   simp only [Bool.true_and]
   rcases aN1 (fun r:Rel=>decide (r.1=x.c)) t.2 with ⟨f1,f2⟩ | ⟨k,r,f0,f1,f2⟩
   ·rw [f2,f1,b1g,aB,decide_eq_false (by decide)]
    rw [aBt,aB,aBt,aB,aBt,aB,aBt,aB,b6o,aB,aBt,aB,b1t,aB]
   ·have hr : r ∈ t.2:=zyx f0
    rw [f2,f1,b1g,aB,decide_eq_true (by omega),nD,aB,nD,bIh,aB,nD,bA2 f0,aB,nD,bIi,aB,b6o,aB,nD,c4,bIf ((h.2 t ht).2 r hr),aB,a0z,aB]
theorem aWc:fS Try.prog a0n a0t:=by
 refine aUe (T:=aIo) (aM.kU bC9 (aM.cons b2x (aM.kU bDa (aM.cons a0f aM.nil)))) fun args v hv=>?_
 obtain ⟨⟨ts,x⟩,rfl,⟨h,hx⟩,rfl⟩:=eO hv
 exact ⟨rfl,by simp [aL,a6y,wL],rfl,bDc ts x h hx⟩
end Go.Fbs

namespace Go.Fbs
open Go.Proofs
attribute [local irreducible] bW cC opt
theorem aRb (l:List Int):(wC l).length≤209:=aGt l 2
theorem zP {l:List TM} (h:gM l=0):fA l=0∧∃ ρ,wJ l=some ρ:=by
 unfold gM at h
 split at h
 ·exact absurd h (by assumption)
 ·rename_i h0
  refine ⟨by simpa using h0,?_⟩
  cases hr:wJ l with
  | none=>rw [hr] at h; cases h
  | some ρ=>exact ⟨ρ,rfl⟩
theorem aWd {ts:List fM} (hg:jS (iF ts)) {ρ:Rk} (hc:gM (iF ts)=0) (hr:wJ (iF ts)=some ρ) {a b:B8} {r:RM} (h:cA (iF ts) a b=some r):xH [fT ts,.str a,.str b]=some (.aO [vI ((ρ (a,b):Nat):Int),.bool true]):=by
 obtain ⟨hm,rfl⟩:=yU h
 have hs:=a8i hg.lG hm
 rw [bAv (mX hg) hs.1 hs.2.1]
 unfold mH
 rw [if_neg (by simp [hc]),hr]
 dsimp only
 rw [h]; rfl
noncomputable def aWe:Spec
 | []=>some (.bool true)
 | _=>none
theorem aWf {w:List UInt8} {ts:List fM} (hp:a78 w=(ts,0,0)) (n1:(ts.map (·.1)).Nodup) (n2:∀ t ∈ ts,(t.2.map (·.1)).Nodup) (few:(bO (iF ts)).length+(iF ts).length≤100000):jS (iF ts):=by
 obtain ⟨hG,_,_⟩:=bC5 w
 rw [hp] at hG
 have hall:∀ t ∈ ts,aPg t:=hG
 have hmem:∀ t ∈ ts,t.1.length≤30∧∀ r ∈ t.2,a3i (upR r)∧r.1.length≤30∧(∀ s ∈ r.2.1,s.1.length≤30∧s.2.2.length≤30)∧∀ s ∈ r.2.2,s.2.1.length≤30∧s.2.2.length≤30:=fun t ht=>by
  obtain ⟨h1,_,h3⟩:=hall t ht
  exact ⟨aHm h1.1,fun r hr=>b6i (h3 r hr)⟩
 refine ⟨⟨fun t ht=>?_,?_,fun t ht=>?_,few⟩,fun p hp'=>?_⟩
 ·obtain ⟨t',ht',rfl⟩:=List.mem_map.1 ht
  obtain ⟨h1,h2⟩:=hmem t' ht'
  refine ⟨by show t'.1.length≤1000; omega,fun r hr=>?_⟩
  obtain ⟨r',hr',rfl⟩:=List.mem_map.1 hr
  obtain ⟨h3,h4,h5,h6⟩:=h2 r' hr'
  exact ⟨by show r'.1.length≤1000; omega,⟨by have:=h3.aR; show r'.2.1.length≤1000; have e:(upR r').aR=r'.2.1:=rfl; rw [e] at this; omega,by have:=h3.steps; show r'.2.2.length≤1000; have e:(upR r').steps=r'.2.2:=rfl; rw [e] at this; omega⟩,fun s hs=>⟨by have:=(h5 s hs).1; omega,by have:=(h5 s hs).2; omega⟩,fun s hs=>⟨by have:=(h6 s hs).1; omega,by have:=(h6 s hs).2; omega⟩⟩
 ·have e:(iF ts).map (·.nm)=ts.map (·.1):=by show (ts.map aVi).map _=_; rw [List.map_map]; rfl
  rw [e]; exact n1
 ·obtain ⟨t',ht',rfl⟩:=List.mem_map.1 ht
  have e:(aVi t').aS.map (·.nm)=t'.2.map (·.1):=by show (t'.2.map upR).map _=_; rw [List.map_map]; rfl
  rw [e]; exact n2 t' ht'
 ·obtain ⟨t,ht,_,hr⟩:=jF hp'
  obtain ⟨t',ht',rfl⟩:=List.mem_map.1 ht
  obtain ⟨r',hr',e⟩:=List.mem_map.1 hr
  rw [← e]
  exact ((hmem t' ht').2 r' hr').1
def aHr (W:Nm→List Wy) (L:Nat) (o:List Nm):Nat→Rk→Option (Option Rk)
 | 0,_=>none
 | f+1,ρ=>match iX W L o (ρ,false) with
  | none=>some none
  | some (ρ',false)=>some (some ρ')
  | some (ρ',true)=>aHr W L o f ρ'
theorem aZj {W:Nm→List Wy} {L:Nat} {o:List Nm} : ∀ {f:Nat} {ρ:Rk} {R:Option Rk},aHr W L o f ρ=some R→pB W L o ρ R
 | 0,_,_,h=>by cases h
 | f+1,ρ,R,h=>by
  unfold aHr at h
  split at h
  ·cases h; rename_i hp; exact .bad hp
  ·cases h; rename_i hp; exact .done hp
  ·rename_i hp; exact .more hp (aZj h)
theorem aZk {l:List TM} (hg:jS l) (h0:fA l=0) {f:Nat} {R:Option Rk} (h:aHr (eS l) (dZ l).reverse.length (dZ l).reverse f (fun _=>0)=some R):wJ l=R :=
 (aBq (aV5 hg h0).nodup).one (aZj h)
def zV:List fM:=[([117],[]),([97],[([114],[([117],[],[])],[]),([112],[],[(1,[114],[]),(1,[113],[]),(4,[],[])]),([113],[],[(1,[114],[])])]),([98],[([115],[([97],[],[])],[]),([120],[],[(2,[115],[112])])])]
def tsB:List fM:=[([97],[([114],[([97],[],[112])],[]),([112],[],[(1,[114],[]),(1,[112],[]),(4,[],[])])])]
theorem bJ1:hO [116,121,112,101,32,117,32,116,121,112,101,32,97,32,123,32,114,58,32,117,59,32,112,32,61,32,114,32,45,32,113,59,32,113,32,61,32,114,59,32,125,32,116,121,112,101,32,98,32,123,32,115,58,32,97,59,32,120,32,61,32,115,45,62,112,59,32,125]=some zV:=by kernel_rfl
theorem bJ2:hO [116,121,112,101,32,97,32,123,32,114,58,32,97,35,112,59,32,112,32,61,32,114,32,45,32,112,59,32,125]=some tsB:=by kernel_rfl
theorem bJ3:a78 [116,121,112,101,32,117,32,116,121,112,101,32,97,32,123,32,114,58,32,117,59,32,112,32,61,32,114,32,45,32,113,59,32,113,32,61,32,114,59,32,125,32,116,121,112,101,32,98,32,123,32,115,58,32,97,59,32,120,32,61,32,115,45,62,112,59,32,125]=(zV,0,0):=by kernel_rfl
theorem bJ4:a78 [116,121,112,101,32,97,32,123,32,114,58,32,97,35,112,59,32,112,32,61,32,114,32,45,32,112,59,32,125]=(tsB,0,0):=by kernel_rfl
theorem aN3:jS (iF zV):=aWf bJ3 (by decide) (by decide) (by decide)
theorem bA5:jS (iF tsB):=aWf bJ4 (by decide) (by decide) (by decide)
theorem bF0:fA (iF zV)=0:=by kernel_rfl
theorem bF1:fA (iF tsB)=0:=by kernel_rfl
theorem bJ5:(aHr (eS (iF zV)) (dZ (iF zV)).reverse.length (dZ (iF zV)).reverse 9 (fun _=>0)).map (fun R=>R.map fun ρ=>(ρ ([97],[112]),ρ ([98],[120])))=some (some (1,1)):=by kernel_rfl
theorem bJ6:(aHr (eS (iF tsB)) (dZ (iF tsB)).reverse.length (dZ (iF tsB)).reverse 9 (fun _=>0)).map (fun R=>R.isSome)=some false:=by kernel_rfl
theorem bF2:∃ ρ,wJ (iF zV)=some ρ∧ρ ([97],[112])=1∧ρ ([98],[120])=1:=by
 have h:=bJ5
 cases hr:aHr (eS (iF zV)) (dZ (iF zV)).reverse.length (dZ (iF zV)).reverse 9 (fun _=>0) with
 | none=>rw [hr] at h; cases h
 | some R =>
  rw [hr] at h
  cases R with
  | none=>cases h
  | some ρ =>
   refine ⟨ρ,aZk aN3 bF0 hr,?_⟩
   simpa using h
theorem b2y:gM (iF zV)=0:=by
 obtain ⟨ρ,h,_⟩:=bF2
 unfold gM
 rw [if_neg (by rw [bF0]; simp),h]
theorem aTc:gM (iF tsB)=14:=by
 have h:=bJ6
 cases hr:aHr (eS (iF tsB)) (dZ (iF tsB)).reverse.length (dZ (iF tsB)).reverse 9 (fun _=>0) with
 | none=>rw [hr] at h; cases h
 | some R =>
  rw [hr] at h
  cases R with
  | some ρ=>cases h
  | none =>
   unfold gM
   rw [if_neg (by rw [bF1]; simp),aZk bA5 bF1 hr]
theorem bIj:∃ r,cA (iF zV) [97] [112]=some r:=Option.isSome_iff_exists.1 (by kernel_rfl)
theorem bIk:∃ r,cA (iF zV) [98] [120]=some r:=Option.isSome_iff_exists.1 (by kernel_rfl)
theorem bIl:cA (iF zV) [97] [122]=none:=by
 have:(cA (iF zV) [97] [122]).isSome=false:=by kernel_rfl
 simpa using this
theorem bJ7:∃ n:Nat,xH [fT zV,.str [97],.str [122]]=some (.aO [vI (n:Nat),.bool false]):=by
 refine ⟨(mH (iF zV) ([97],[122])).1,?_⟩
 rw [bAv (mX aN3) (by decide) (by decide)]
 have:(mH (iF zV) ([97],[122])).2=false:=by
  unfold mH
  rw [if_neg (by simp [b2y])]
  dsimp only
  rw [bIl]; rfl
 rw [this]
def b9n:uB:=⟨[97],[49],[114],[117],[50],[]⟩
theorem bJ8:a0t [fT zV,b9n.v]=some (.bool true):=by
 rw [bIg ⟨by unfold mL; decide,by unfold mL; decide⟩ (by unfold uB.short a8l mL; decide)]
 have:aN2 zV b9n=true:=by kernel_rfl
 rw [this]
noncomputable abbrev TAw:List (FuncId×Spec):=[(n5,tO),(yK,a3f),(xG,xH),(a0n,a0t)]
theorem b9o:cC cM (bT TAw) 64 tM [.tmp 0] (cB Try.f10) [] (fun r=>r = .bool true):=by
 have c1:∀ args,bT TAw n5 args=tO args:=fun _=>rfl
 have c2:∀ args,bT TAw yK args=a3f args:=fun _=>rfl
 have c3:∀ args,bT TAw xG args=xH args:=fun _=>rfl
 have c4:∀ args,bT TAw a0n args=a0t args:=fun _=>rfl
 refine Eq.mpr (aGh (bT _) _) ?_
 obtain ⟨ρ,hρ,hr1,hr2⟩:=bF2
 obtain ⟨q1,e1⟩:=bIj
 obtain ⟨q2,e2⟩:=bIk
 obtain ⟨n3,e3⟩:=bJ7
 rw [c1,aYv bJ1 (by decide),aB,c1,aYv bJ2 (by decide),aB]
 rw [c3,aWd aN3 b2y hρ e1,aB,x0,aB,x1,aB]
 rw [c3,aWd aN3 b2y hρ e2,aB,x0,aB,x1,aB]
 rw [c3,e3,aB,x0,aB,x1,aB,hr1,hr2]
 rw [aUg,aB,uO,aB,show decide (((zV.length:Nat):Int)=3)=true by decide]
 rw [nD,c2,b5x (mX aN3),b2y,aB,nD,uO,aB,show decide ((0:Int)=0)=true by decide,a0z,aB]
 rw [nD,c2,b5x (mX bA5),aTc,aB,nD,uO,aB,show decide ((14:Int)=14)=true by decide,a0z,aB]
 rw [uO,aB,show decide (((1:Nat):Int)=1)=true by decide,a0z,aB,a0z,aB,ckB,aB]
 rw [aB,a0z,aB,a0z,aB,ckB,aB,aCl,aB,Bool.not_false,a0z,aB]
 rw [show aG [.str [97],.str [49]]=some (.agg [.str [97],.str [49]]) from rfl,aB,show aG [.str [117],.str [50],.str []]=some (.agg [.str [117],.str [50],.str []]) from rfl,aB]
 rw [show aG [aA (.agg [.str [97],.str [49]]) 0,aA (.agg [.str [97],.str [49]]) 1,.str [114],aA (.agg [.str [117],.str [50],.str []]) 0,aA (.agg [.str [117],.str [50],.str []]) 1,aA (.agg [.str [117],.str [50],.str []]) 2]=some b9n.v from rfl,aB]
 rw [nD,c4,bJ8,aB,a0z,aB]
theorem aE7:fS Try.prog a47 aWe:=by
 refine aEz (T:=TAw) (aM.cons aE6 (aM.cons aRr (aM.cons aVn (aM.cons aWc aM.nil)))) fun args v hv=>?_
 unfold aWe at hv
 split at hv
 ·simp only [zzz] at hv
  subst hv
  exact ⟨rfl,rfl,rfl,b9o⟩
 ·cases hv
end Go.Fbs

namespace Go.Fbs
open Go.Proofs
variable {g l m:List TM} {typ a b:B8}
def noT (m:List TM) (a:B8):Prop:=∀ t ∈ m,t.nm≠a
structure Apt (l m:List TM):Prop where
 nm:∀ t ∈ l,noT m t.nm
 sub:∀ p ∈ bO l,∀ s ∈ p.2.aR,noT m s.1
structure View (g l m:List TM):Prop where
 rel:∀ a b,noT m a→cA g a b=cA l a b
 has:∀ a,noT m a→a1d g a=a1d l a
theorem uZ (l m:List TM):bO (l++m)=bO l++bO m:=List.flatMap_append
theorem aWg (h : noT m a) : (bO m).find? (fun p=>decide (p.1 = a) && decide (p.2.nm = b)) = none:=by
 rw [List.find?_eq_none]
 intro p hp
 obtain ⟨t,ht,e,_⟩:=jF hp
 have:p.1≠a:=by rw [e]; exact h t ht
 simp [this]
theorem aZm (h:noT m a):a1d m a=false:=by
 unfold a1d
 rw [List.any_eq_false]
 intro t ht
 simp [h t ht]
theorem aN4 (l m:List TM):View (l++m) l m:=⟨fun a b h=>by unfold cA; rw [uZ,List.find?_append,aWg h,Option.or_none],fun a h=>by
 have:=aZm h
 unfold a1d at this ⊢
 rw [List.any_append,this,Bool.or_false]⟩
theorem aWh (l m:List TM):View (l++m) m l:=⟨fun a b h=>by unfold cA; rw [uZ,List.find?_append,aWg h,Option.none_or],fun a h=>by
 have:=aZm h
 unfold a1d at this ⊢
 rw [List.any_append,this,Bool.false_or]⟩
theorem View.aR (hv:View g l m) (h:noT m a):qC g a b=qC l a b:=by unfold qC; rw [hv.rel a b h]
theorem Apt.aR (ha:Apt l m) {s:Sub} (hs:s ∈ qC l a b):noT m s.1:=by
 unfold qC at hs
 cases hr:cA l a b with
 | none=>rw [hr] at hs; cases hs
 | some r =>
  rw [hr] at hs
  exact ha.sub _ (yU hr).1 s hs
theorem aLe {α:Type} {p q:α→Bool} : ∀ {xs:List α},(∀ x ∈ xs,p x=q x)→xs.any p=xs.any q
 | [],_=>rfl
 | x::xs,h=>by rw [List.any_cons,List.any_cons,h x (.head _),aLe fun y hy=>h y (.tail _ hy)]
theorem View.arrow (hv:View g l m) (ha:Apt l m) (h:noT m typ) (x:cV):xB g typ x=xB l typ x:=by
 unfold xB
 rw [hv.rel _ _ h]
 cases hr:cA l typ x.2.1 with
 | none=>rfl
 | some r =>
  dsimp only
  rw [aLe (xs:=r.aR) (p:=j5 g x.2.2) (q:=j5 l x.2.2) fun s hs=>?_]
  unfold j5
  rw [hv.rel _ _ (ha.sub _ (yU hr).1 s hs)]
theorem View.step (hv:View g l m) (ha:Apt l m) (h:noT m typ) (x:cV):iM g typ x=iM l typ x:=by
 unfold iM
 rw [hv.arrow ha h,hv.rel _ _ h]
theorem View.first (hv:View g l m) (ha:Apt l m) (h:noT m typ):∀ xs:List cV,lH g typ xs=lH l typ xs
 | []=>rfl
 | x::xs=>by
  unfold lH
  rw [hv.step ha h,View.first hv ha h xs]
theorem Apt.pair (ha:Apt l m) {p:B8×RM} (hp:p ∈ bO l):noT m p.1:=by
 obtain ⟨t,ht,e,_⟩:=jF hp
 rw [e]
 exact ha.nm t ht
theorem View.names (hv:View g l m) (ha:Apt l m) {p:B8×RM} (hp:p ∈ bO l):kH g p.1 p.2=kH l p.1 p.2:=by
 unfold kH
 rw [hv.first ha (ha.pair hp),aLe (xs:=p.2.aR) (p:=rE g) (q:=rE l) fun s hs=>?_]
 unfold rE
 rw [hv.has _ (ha.sub p hp s hs),hv.rel _ _ (ha.sub p hp s hs)]
theorem View.leaf (hv:View g l m) (h:noT m typ):jR g typ=jR l typ:=by
 funext x
 unfold jR
 rw [hv.aR h]
theorem View.ways (hv:View g l m) (h:noT m typ) (r:RM):wG g typ r=wG l typ r:=by
 have h1:pA g typ=pA l typ:=by funext st x; unfold pA; rw [hv.leaf h]
 unfold wG lS qD
 rw [h1]
theorem View.eS (hv:View g l m) {q:Nm} (h:noT m q.1):eS g q=eS l q:=by
 unfold Go.Fbs.eS
 rw [hv.rel _ _ h]
 cases cA l q.1 q.2 with
 | none=>rfl
 | some r=>exact hv.ways h r
theorem bA6 (b:Bool):bN b≤1:=by cases b <;> decide
theorem bF3 (hg:jS l) (ha:Apt l m) {p:B8×RM} (hp:p ∈ bO l) {v:Wy} (hv:v ∈ wG l p.1 p.2):noT m v.1∧v.2.2≤1:=by
 obtain ⟨L,hL⟩:=b6h (l:=l) (typ:=p.1) (hg.aS p hp)
 rcases aQ7 hL hv with ⟨q,hq,h1,rfl⟩ | ⟨q,hq,h2,s,hs,rfl⟩ | ⟨s,hs,hne,rfl⟩
 ·exact ⟨ha.pair hp,bA6 _⟩
 ·exact ⟨ha.aR hs,bA6 _⟩
 ·exact ⟨ha.sub p hp s hs,by show (0:Nat)≤1; omega⟩
theorem aIp {q:Nm} (h:q ∈ dZ l):∃ p ∈ bO l,q=(p.1,p.2.nm):=by
 obtain ⟨p,hp,e⟩:=List.mem_map.1 h
 exact ⟨p,hp,e.symm⟩
theorem aPm (hg:jS l) (ha:Apt l m) {q:Nm} (hq:q ∈ dZ l) {v:Wy} (hv:v ∈ eS l q):noT m v.1∧v.2.2≤1:=by
 obtain ⟨p,hp,rfl⟩:=aIp hq
 unfold eS at hv
 dsimp only at hv
 rw [a3j hg.lG hp] at hv
 exact bF3 hg ha hp hv
theorem b9p (l m:List TM):dZ (l++m)=dZ l++dZ m:=by unfold dZ; rw [uZ,List.map_append]
theorem b6p (hg:jS l) (hm:jS m) (h1:Apt l m) (h2:Apt m l):a3k (fun q:Nm=>¬ noT l q.1) (eS (l++m)) (eS l) (eS m) (dZ (l++m)).reverse (dZ l).reverse (dZ m).reverse:=by
 refine ⟨fun q=>?_,fun q hq=>?_,fun q hq=>?_⟩
 ·rw [List.mem_reverse,List.mem_reverse,List.mem_reverse,b9p,List.mem_append]
 ·rw [List.mem_reverse] at hq
  obtain ⟨p,hp,e⟩:=aIp hq
  obtain ⟨t,ht,e2,_⟩:=jF hp
  have hn:noT m q.1:=by rw [e]; exact h1.pair hp
  refine ⟨fun hn=>hn t ht (by rw [e]; exact e2.symm),(aN4 l m).eS hn,fun v hv=>.inr fun hb=>?_⟩
  have h3:=(aPm hg h1 hq hv).1
  rw [List.mem_reverse] at hb
  obtain ⟨p',hp',e'⟩:=aIp hb
  obtain ⟨t',ht',e2',_⟩:=jF hp'
  refine h3 t' ht' ?_
  rw [← e2']
  exact (congrArg Prod.fst e').symm
 ·rw [List.mem_reverse] at hq
  obtain ⟨p,hp,e⟩:=aIp hq
  have hn:noT l q.1:=by rw [e]; exact h2.pair hp
  exact ⟨fun h=>h hn,(aWh l m).eS hn,fun v hv h=>h (aPm hm h2 hq hv).1⟩
theorem aN5 (h1:Apt l m) (h2:Apt m l):fA (l++m)=0↔fA l=0∧fA m=0:=by
 constructor
 ·intro h
  refine ⟨yW fun p hp=>?_,yW fun p hp=>?_⟩
  ·rw [← (aN4 l m).names h1 hp]
   exact a5m h (by rw [uZ]; exact List.mem_append_left _ hp)
  ·rw [← (aWh l m).names h2 hp]
   exact a5m h (by rw [uZ]; exact List.mem_append_right _ hp)
 ·rintro ⟨ha,hb⟩
  refine yW fun p hp=>?_
  rw [uZ] at hp
  rcases List.mem_append.1 hp with hp | hp
  ·rw [(aN4 l m).names h1 hp]; exact a5m ha hp
  ·rw [(aWh l m).names h2 hp]; exact a5m hb hp
theorem b6q (hg:jS l):∀ q ∈ (dZ l).reverse,∀ v ∈ eS l q,v.2.2≤1:=fun q hq v hv=>(aPm (m:=[]) hg ⟨(fun t _ u hu=>by cases hu),(fun p _ s _ u hu=>by cases hu)⟩ (List.mem_reverse.1 hq) hv).2
theorem zQ (hg:jS l) {ρ:Rk} (h:wJ l=some ρ):Least (eS l) (dZ l).reverse ρ:=aNw (aBq ((List.reverse_perm _).nodup_iff.2 (a68 hg.lG))) h
theorem aHt (hg:jS l) {σ:Rk} (h:Clo (eS l) (dZ l).reverse σ):∃ ρ,wJ l=some ρ :=
 b9m ((List.reverse_perm _).nodup_iff.2 (a68 hg.lG)) (b6q hg) (aBq ((List.reverse_perm _).nodup_iff.2 (a68 hg.lG))) h
theorem aLf (h0:fA l=0) {ρ:Rk} (h:wJ l=some ρ):gM l=0:=by
 unfold gM
 rw [if_neg (by simp [h0]),h]
theorem aN6 (hg:jS l) (hm:jS m) (hb:jS (l++m)) (h1:Apt l m) (h2:Apt m l):gM (l++m)=0↔gM l=0∧gM m=0:=by
 have hap:=b6p hg hm h1 h2
 constructor
 ·intro h
  obtain ⟨h0,ρ,hρ⟩:=zP h
  obtain ⟨ha,hc⟩:=(aN5 h1 h2).1 h0
  have hl:=zQ hb hρ
  obtain ⟨ρA,hA⟩:=aHt hg (hap.left hl.kX)
  obtain ⟨ρB,hB⟩:=aHt hm (hap.right hl.kX)
  exact ⟨aLf ha hA,aLf hc hB⟩
 ·rintro ⟨h3,h4⟩
  obtain ⟨ha,ρA,hA⟩:=zP h3
  obtain ⟨hc,ρB,hB⟩:=zP h4
  have lA:=zQ hg hA
  have lB:=zQ hm hB
  obtain ⟨ρ,hρ⟩:=aHt hb (hap.glue lA.kX lB.kX lB.out)
  exact aLf ((aN5 h1 h2).2 ⟨ha,hc⟩) hρ
theorem b6r (hg:jS l) (hm:jS m) (hb:jS (l++m)) (h1:Apt l m) (h2:Apt m l) (h:gM (l++m)=0) {p:B8×RM} (hp:p ∈ bO l) :
  mH (l++m) (p.1,p.2.nm)=mH l (p.1,p.2.nm)∧(mH l (p.1,p.2.nm)).2=true:=by
 have hap:=b6p hg hm h1 h2
 obtain ⟨h3,h4⟩:=(aN6 hg hm hb h1 h2).1 h
 obtain ⟨h0,ρ,hρ⟩:=zP h
 obtain ⟨ha,ρA,hA⟩:=zP h3
 obtain ⟨hc,ρB,hB⟩:=zP h4
 obtain ⟨t,ht,e,_⟩:=jF hp
 have hsame:=hap.same (zQ hb hρ) (zQ hg hA) (zQ hm hB) (q:=(p.1,p.2.nm)) fun hn=>hn t ht e.symm
 have hrel:=a3j hg.lG hp
 unfold mH
 rw [if_neg (by simp [h]),if_neg (by simp [h3]),hρ,hA]
 dsimp only
 rw [(aN4 l m).rel _ _ (h1.pair hp),hrel,hsame]
 exact ⟨rfl,rfl⟩
theorem b9q (hg:jS l) (hm:jS m) (h1:Apt l m) (hf:(bO l).length+l.length+((bO m).length+m.length)≤100000):jS (l++m):=by
 refine ⟨⟨fun t ht=>?_,?_,fun t ht=>?_,?_⟩,fun p hp=>?_⟩
 ·rcases List.mem_append.1 ht with ht | ht
  ·exact hg.lG.short t ht
  ·exact hm.lG.short t ht
 ·rw [List.map_append,List.nodup_append]
  refine ⟨hg.lG.types,hm.lG.types,fun x hx y hy e=>?_⟩
  obtain ⟨t,ht,rfl⟩:=List.mem_map.1 hx
  obtain ⟨u,hu,rfl⟩:=List.mem_map.1 hy
  exact h1.nm t ht u hu e.symm
 ·rcases List.mem_append.1 ht with ht | ht
  ·exact hg.lG.aS t ht
  ·exact hm.lG.aS t ht
 ·rw [uZ,zwy,zwy]
  omega
 ·rw [uZ] at hp
  rcases List.mem_append.1 hp with hp | hp
  ·exact hg.aS p hp
  ·exact hm.aS p hp
end Go.Fbs
