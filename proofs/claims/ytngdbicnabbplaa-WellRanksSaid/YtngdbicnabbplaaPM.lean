import Derived.Test.YtngdbicnabbplaaPL
import Derived.Test.YtngdbicnabbplaaPG
import Derived.Test.YtngdbicnabbplaaNX
import Derived.Test.YtngdbicnabbplaaR3
set_option linter.unusedSimpArgs false
set_option linter.unusedVariables false
set_option linter.unusedSectionVars false
set_option maxRecDepth 100000
namespace Go.Fbs
open Go.Proofs
variable {l:List TM} {typ:B8}
theorem b1p {q:Nm} {s:Rk×Bool} {v:Wy} (h:(mG q s v).2=false):mG q s v=s∧s.1 (v.1,v.2.1)+v.2.2≤s.1 q:=by
 unfold mG at h ⊢
 split at h
 ·cases h
 ·rename_i hc
  rw [if_neg hc]
  exact ⟨rfl,by omega⟩
theorem b6p {q:Nm} {s:Rk×Bool} {v:Wy} (h:s.2=true):(mG q s v).2=true:=by
 unfold mG
 split
 ·rfl
 ·exact h
theorem aLv {q:Nm} : ∀ {vs:List Wy} {s:Rk×Bool},s.2=true→(vs.foldl (mG q) s).2=true
 | [],s,h=>h
 | v::vs,s,h=>by rw [List.foldl_cons]; exact aLv (b6p h)
theorem aRq {q:Nm} : ∀ {vs:List Wy} {s:Rk×Bool},(vs.foldl (mG q) s).2=false→vs.foldl (mG q) s=s∧∀ v ∈ vs,s.1 (v.1,v.2.1)+v.2.2≤s.1 q
 | [],s,_=>⟨rfl,fun v hv=>by cases hv⟩
 | v::vs,s,h=>by
  rw [List.foldl_cons] at h ⊢
  have h1:(mG q s v).2=false:=by
   cases hh:(mG q s v).2
   ·rfl
   ·rw [aLv hh] at h; cases h
  obtain ⟨e1,e2⟩:=b1p h1
  rw [e1] at h ⊢
  obtain ⟨e3,e4⟩:=aRq h
  refine ⟨e3,fun u hu=>?_⟩
  rcases List.mem_cons.1 hu with rfl | hu
  ·exact e2
  ·exact e4 u hu
theorem aUs {W:Nm→List Wy} {L:Nat} : ∀ {o:List Nm} {s t:Rk×Bool},mP W L o s=some t→s.2=true→t.2=true
 | [],s,t,h,hs=>by cases h; exact hs
 | q::r,s,t,h,hs=>by
  unfold mP at h
  split at h
  ·cases h
  ·exact aUs h (aLv hs)
theorem aRr {W:Nm→List Wy} {L:Nat} : ∀ {o:List Nm} {s t:Rk×Bool},mP W L o s=some t→t.2=false→t=s∧∀ q ∈ o,∀ v ∈ W q,s.1 (v.1,v.2.1)+v.2.2≤s.1 q
 | [],s,t,h,_=>by cases h; exact ⟨rfl,fun q hq=>by cases hq⟩
 | q::r,s,t,h,ht=>by
  unfold mP at h
  split at h
  ·cases h
  ·have h1:(aDa W s q).2=false:=by
    cases hh:(aDa W s q).2
    ·rfl
    ·rw [aUs h hh] at ht; cases ht
   obtain ⟨e1,e2⟩:=aRq h1
   have e1:aDa W s q=s:=e1
   rw [e1] at h
   obtain ⟨e3,e4⟩:=aRr h ht
   refine ⟨e3,fun x hx=>?_⟩
   rcases List.mem_cons.1 hx with rfl | hx
   ·exact e2
   ·exact e4 x hx
def a00 (W:Nm→List Wy) (ρ:Rk):Prop:=∀ q,ρ q=0∨∃ v ∈ W q,ρ q≤ρ (v.1,v.2.1)+v.2.2
theorem a00.step {W:Nm→List Wy} {q:Nm} {s:Rk×Bool} {v:Wy} (h:a00 W s.1) (hv:v ∈ W q):a00 W (mG q s v).1:=by
 intro x
 have hge:=fun y=>aO4 (q:=q) (s:=s) (v:=v) y
 by_cases hx:x=q
 ·subst hx
  by_cases hc:s.1 (v.1,v.2.1)+v.2.2 > s.1 x
  ·refine .inr ⟨v,hv,?_⟩
   have e:(mG x s v).1 x=s.1 (v.1,v.2.1)+v.2.2:=by
    unfold mG
    rw [if_pos hc]
    show a1u _ _ _ x=_
    unfold a1u
    rw [if_pos rfl]
   rw [e]
   have:=hge (v.1,v.2.1)
   omega
  ·have e:mG x s v=s:=by unfold mG; rw [if_neg hc]
   rw [e]
   exact h x
 ·have e:(mG q s v).1 x=s.1 x:=by
   unfold mG
   split
   ·show a1u _ _ _ x=_
    unfold a1u
    rw [if_neg hx]
   ·rfl
  rw [e]
  rcases h x with h0 | ⟨u,hu,hle⟩
  ·exact .inl h0
  ·exact .inr ⟨u,hu,Nat.le_trans hle (Nat.add_le_add_right (hge _) _)⟩
theorem a00.fold {W:Nm→List Wy} {q:Nm} : ∀ {vs:List Wy} {s:Rk×Bool},a00 W s.1→(∀ v ∈ vs,v ∈ W q)→a00 W (vs.foldl (mG q) s).1
 | [],s,h,_=>h
 | v::vs,s,h,hv=>by rw [List.foldl_cons]; exact a00.fold (h.step (hv v (.head _))) fun u hu=>hv u (.tail _ hu)
theorem a00.pass {W:Nm→List Wy} {L:Nat} : ∀ {o:List Nm} {s t:Rk×Bool},a00 W s.1→mP W L o s=some t→a00 W t.1
 | [],s,t,h,hp=>by cases hp; exact h
 | q::r,s,t,h,hp=>by
  unfold mP at hp
  split at hp
  ·cases hp
  ·exact a00.pass (a00.fold h fun v hv=>hv) hp
theorem bDr {W:Nm→List Wy} {L:Nat} {o:List Nm} {ρ0:Rk} {R:Option Rk} (h:uK W L o ρ0 R):a00 W ρ0→∀ ρ,R=some ρ→a00 W ρ∧∀ q ∈ o,∀ v ∈ W q,ρ (v.1,v.2.1)+v.2.2≤ρ q:=by
 induction h with
 | bad _=>intro _ ρ e; cases e
 | done hp =>
  intro hb ρ e
  cases e
  obtain ⟨e1,e2⟩:=aRr hp rfl
  cases e1
  exact ⟨hb,e2⟩
 | more hp _ ih=>intro hb ρ e; exact ih (a00.pass hb hp) ρ e
theorem bDs {ρ:Rk} (h:a0x l=some ρ) (hn:(iN l).reverse.Nodup):a00 (iM l) ρ∧∀ q ∈ iN l,∀ v ∈ iM l q,ρ (v.1,v.2.1)+v.2.2≤ρ q:=by
 obtain ⟨h1,h2⟩:=bDr (aFi hn) (fun q=>.inl rfl) ρ h
 exact ⟨h1,fun q hq=>h2 q (List.mem_reverse.2 hq)⟩
theorem aLw:∀ {xs:List dQ},qG l typ xs=0→∀ y ∈ xs,lG l typ y=0
 | x::xs,h,y,hy=>by
  unfold qG at h
  split at h
  ·rename_i h0
   rcases List.mem_cons.1 hy with rfl | hy
   ·exact h0
   ·exact aLw h y hy
  ·rename_i h0; exact absurd h h0
theorem aLx {r:RM} (h:p5 l typ r=0):(∀ s ∈ r.aY,wS l s=false)∧∀ x ∈ r.steps,lG l typ x=0:=by
 unfold p5 at h
 split at h
 ·cases h
 ·rename_i h0
  refine ⟨fun s hs=>?_,aLw h⟩
  cases hh:wS l s
  ·rfl
  ·exact absurd (List.any_eq_true.2 ⟨s,hs,hh⟩) h0
theorem bAl {x:dQ} (h:lG l typ x=0) (h1:x.1=1):∃ a,cG l typ x.2.1=some a:=by
 unfold lG at h
 rw [if_neg (by omega)] at h
 cases hr:cG l typ x.2.1 with
 | some a=>exact ⟨a,rfl⟩
 | none=>rw [hr,h1] at h; cases h
theorem aAl {x:dQ} (h:lG l typ x=0) (h1:x.1=2):∃ a,cG l typ x.2.1=some a∧a.aY≠[]∧∀ s ∈ a.aY,(∃ b,cG l s.1 x.2.2=some b)∧s.2.2=[]:=by
 unfold lG at h
 rw [if_pos h1] at h
 unfold a5w at h
 cases hr:cG l typ x.2.1 with
 | none=>rw [hr] at h; cases h
 | some a =>
  rw [hr] at h
  dsimp only at h
  split at h
  ·cases h
  ·rename_i h0
   split at h
   ·cases h
   ·rename_i h2
    refine ⟨a,rfl,fun e=>h0 (by rw [e]; rfl),fun s hs=>?_⟩
    have hb:nH l x.2.2 s=false:=by
     cases hh:nH l x.2.2 s
     ·rfl
     ·exact absurd (List.any_eq_true.2 ⟨s,hs,hh⟩) h2
    unfold nH at hb
    rw [Bool.or_eq_false_iff] at hb
    refine ⟨?_,by simpa using hb.2⟩
    cases hs:cG l s.1 x.2.2 with
    | some b=>exact ⟨b,rfl⟩
    | none=>rw [hs] at hb; cases hb.1
structure a1w (r:RM):Prop where
 aY:r.aY.length≤50
 steps:r.steps.length≤200
 tree:(r.steps=[]∧r.aY≠[])∨(r.aY=[]∧∃ t:Tr,t.ok∧t.steps=r.steps)
structure uR (l:List TM):Prop where
 rD:a1s l
 bP:∀ p ∈ dJ l,a1w p.2
theorem aZ0 (hg:uR l) {x:dQ} : (nQ l typ x).length≤1000:=by
 unfold nQ
 split
 ·simp
 ·rw [zsy]
  unfold nI
  cases hr:cG l typ x.2.1 with
  | none=>simp
  | some r =>
   have:=(hg.bP _ (rX hr).1).aY
   show r.aY.length≤_
   dsimp only at this
   omega
theorem b6q (hg:uR l) {r:RM} (hr:a1w r) (hn:p5 l typ r=0):aAu l typ r.steps:=by
 obtain ⟨_,h2⟩:=aLx hn
 refine ⟨fun x hx hk=>⟨?_,aZ0 hg⟩,?_⟩
 ·rcases hk with h1 | h1
  ·unfold nQ; rw [if_pos h1]; simp
  ·obtain ⟨a,ha,hne,_⟩:=aAl (h2 x hx) h1
   unfold nQ
   rw [if_neg (by omega)]
   unfold nI
   rw [ha]
   simpa using hne
 ·rcases hr.tree with ⟨e,_⟩ | ⟨_,t,ht,e⟩
  ·exact .inl e
  ·right
   rw [← e]
   exact ⟨_,aHt ht⟩
end Go.Fbs
namespace Go.Fbs
open Go.Proofs
variable {l:List TM} {typ:B8}
theorem a56 (hf:a1s l) {p:B8×RM} (hp:p ∈ dJ l):cG l p.1 p.2.nm=some p.2:=by
 have hap:=aEf hf.types hf.bP
 unfold cG
 have : ∀ ps : List (B8 × RM),(ps.Pairwise fun p q=>¬ (p.1 = q.1 ∧ p.2.nm = q.2.nm)) → p ∈ ps → ps.find? (fun q=>decide (q.1 = p.1) && decide (q.2.nm = p.2.nm)) = some p:=by
  intro ps
  induction ps with
  | nil=>intro _ h; cases h
  | cons q ps ih =>
   intro ha hm
   rw [List.pairwise_cons] at ha
   rw [List.find?_cons]
   rcases List.mem_cons.1 hm with rfl | hm
   ·simp
   ·have hne:=ha.1 p hm
    have e:(decide (q.1=p.1) && decide (q.2.nm=p.2.nm))=false:=by
     cases hh:(decide (q.1=p.1) && decide (q.2.nm=p.2.nm))
     ·rfl
     ·simp only [zxz,decide_eq_true_eq] at hh
      exact absurd hh hne
    rw [e]
    exact ih ha.2 hm
 rw [this _ hap hp]
 rfl
theorem aTd:∀ {t:Tr} {b:Bool} {p:dQ×Bool},p ∈ lvs t b→p.1 ∈ t.steps∧(p.1.1=1∨p.1.1=2)
 | .nm a,b,p,h=>by
  simp only [lvs,List.mem_singleton] at h
  subst h
  exact ⟨by simp [Tr.steps],.inl rfl⟩
 | .ar a c,b,p,h=>by
  simp only [lvs,List.mem_singleton] at h
  subst h
  exact ⟨by simp [Tr.steps],.inr rfl⟩
 | .op k x y,b,p,h=>by
  simp only [lvs,List.mem_append] at h
  rcases h with h | h
  ·have:=aTd h; exact ⟨by simp [Tr.steps,this.1],this.2⟩
  ·have:=aTd h; exact ⟨by simp [Tr.steps,this.1],this.2⟩
open Classical in
noncomputable def bgR (r:RM):Nat→Nat:=if h:∃ t:Tr,t.ok∧t.steps=r.steps then bgT (Classical.choose h) else fun _=>0
theorem aZ1 {r:RM} (h:∃ t:Tr,t.ok∧t.steps=r.steps):∃ t:Tr,t.ok∧t.steps=r.steps∧bgR r=bgT t:=by
 refine ⟨Classical.choose h,(Classical.choose_spec h).1,(Classical.choose_spec h).2,?_⟩
 unfold bgR
 rw [dif_pos h]
theorem b6r:nJ l typ []=[]:=rfl
def lvR (r:RM):List (dQ×Bool)→Prop:=fun L=>nJ l typ r.steps=(L.flatMap fun p=>oP p.2 (nQ l typ p.1))∧pM l typ r.steps (cW r.steps (bgR r) r.steps.length)=(L.flatMap fun p=>rN l typ p.1 p.2)∧∀ p ∈ L,p.1 ∈ r.steps∧(p.1.1=1∨p.1.1=2)
theorem bAn {r:RM} (h:a1w r):∃ L,lvR (l:=l) (typ:=typ) r L:=by
 rcases h.tree with ⟨e,_⟩ | ⟨_,t,ht,e⟩
 ·refine ⟨[],?_,?_,fun p hp=>by cases hp⟩
  ·rw [e]; rfl
  ·rw [e]; rfl
 ·obtain ⟨t,ht,e,hb⟩:=aZ1 ⟨t,ht,e⟩
  refine ⟨lvs t false,?_,?_,fun p hp=>by rw [← e]; exact aTd hp⟩
  ·rw [← e]; exact bAj ht
  ·rw [hb,← e]; exact bAk ht
theorem aPl {b:Bool} {ws:List Wy} {v:Wy} : v ∈ oP b ws↔∃ u ∈ ws,v=(u.1,u.2.1,if b then 1 else u.2.2):=by
 unfold oP
 cases b
 ·simp
 ·simp only [if_true,List.mem_map]
  exact ⟨fun ⟨u,hu,e⟩=>⟨u,hu,e.symm⟩,fun ⟨u,hu,e⟩=>⟨u,hu,e.symm⟩⟩
theorem aPm {x:dQ} {u:Wy} : u ∈ nQ l typ x↔(x.1=1∧u=(typ,x.2.1,0))∨(x.1≠1∧∃ s ∈ nI l typ x.2.1,u=(s.1,x.2.2,0)):=by
 unfold nQ
 by_cases h:x.1=1
 ·rw [if_pos h]; simp [h]
 ·rw [if_neg h]
  simp only [h,false_and,false_or,ne_eq,not_false_eq_true,true_and,List.mem_map]
  exact ⟨fun ⟨s,hs,e⟩=>⟨s,hs,e.symm⟩,fun ⟨s,hs,e⟩=>⟨s,hs,e.symm⟩⟩
def bN (b:Bool):Nat:=if b then 1 else 0
theorem aUt {r:RM} {L:List (dQ×Bool)} (hL:lvR (l:=l) (typ:=typ) r L) {v:Wy} (h:v ∈ uQ l typ r) :
  (∃ p ∈ L,p.1.1=1∧v=(typ,p.1.2.1,bN p.2))∨(∃ p ∈ L,p.1.1=2∧∃ s ∈ nI l typ p.1.2.1,v=(s.1,p.1.2.2,bN p.2))∨∃ s ∈ r.aY,s.2.2≠[]∧v=(s.1,s.2.2,0):=by
 unfold uQ at h
 rw [List.mem_append] at h
 rcases h with h | h
 ·rw [hL.1,List.mem_flatMap] at h
  obtain ⟨p,hp,hv⟩:=h
  obtain ⟨u,hu,rfl⟩:=aPl.1 hv
  rcases aPm.1 hu with ⟨h1,rfl⟩ | ⟨h1,s,hs,rfl⟩
  ·exact .inl ⟨p,hp,h1,rfl⟩
  ·have h2:=(hL.2.2 p hp).2
   exact .inr (.inl ⟨p,hp,by omega,s,hs,rfl⟩)
 ·right; right
  obtain ⟨s,hs,e⟩:=List.mem_map.1 h
  rw [List.mem_filter] at hs
  exact ⟨s,hs.1,by simpa using hs.2,e.symm⟩
theorem bHb {r:RM} {L:List (dQ×Bool)} (hL:lvR (l:=l) (typ:=typ) r L) {p:dQ×Bool} (hp:p ∈ L) (h1:p.1.1=1):(typ,p.1.2.1,bN p.2) ∈ uQ l typ r:=by
 unfold uQ
 rw [hL.1]
 exact List.mem_append_left _ (List.mem_flatMap.2 ⟨p,hp,aPl.2 ⟨_,aPm.2 (.inl ⟨h1,rfl⟩),rfl⟩⟩)
theorem b3h {r:RM} {L:List (dQ×Bool)} (hL:lvR (l:=l) (typ:=typ) r L) {p:dQ×Bool} (hp:p ∈ L) (h1:p.1.1=2) {s:Sub} (hs:s ∈ nI l typ p.1.2.1):(s.1,p.1.2.2,bN p.2) ∈ uQ l typ r:=by
 unfold uQ
 rw [hL.1]
 exact List.mem_append_left _ (List.mem_flatMap.2 ⟨p,hp,aPl.2 ⟨_,aPm.2 (.inr ⟨by omega,s,hs,rfl⟩),rfl⟩⟩)
theorem bHc {r:RM} {s:Sub} (hs:s ∈ r.aY) (h:s.2.2≠[]):(s.1,s.2.2,0) ∈ uQ l typ r:=by
 unfold uQ
 exact List.mem_append_right _ (List.mem_map.2 ⟨s,List.mem_filter.2 ⟨hs,by simpa using h⟩,rfl⟩)
theorem aLy {r:RM} {L:List (dQ×Bool)} (hL:lvR (l:=l) (typ:=typ) r L) {d:Dy} : d ∈ wU l typ r (bgR r) ↔
  (∃ p ∈ L,p.1.1=1∧d=(typ,p.1.2.1,p.2))∨(∃ p ∈ L,p.1.1=2∧(d=(typ,p.1.2.1,p.2)∨∃ s ∈ nI l typ p.1.2.1,d=(s.1,p.1.2.2,p.2)))∨∃ s ∈ r.aY,s.2.2≠[]∧d=(s.1,s.2.2,false):=by
 unfold wU
 rw [hL.2.1,List.mem_append,List.mem_flatMap]
 constructor
 ·rintro (h | ⟨p,hp,hd⟩)
  ·obtain ⟨s,hs,e⟩:=List.mem_map.1 h
   rw [List.mem_filter] at hs
   exact .inr (.inr ⟨s,hs.1,by simpa using hs.2,e.symm⟩)
  ·unfold rN at hd
   split at hd
   ·rename_i h1
    exact .inl ⟨p,hp,h1,by simpa using hd⟩
   ·split at hd
    ·rename_i h1 h2
     rcases List.mem_cons.1 hd with rfl | hd
     ·exact .inr (.inl ⟨p,hp,h2,.inl rfl⟩)
     ·obtain ⟨s,hs,e⟩:=List.mem_map.1 hd
      exact .inr (.inl ⟨p,hp,h2,.inr ⟨s,hs,e.symm⟩⟩)
    ·cases hd
 ·rintro (⟨p,hp,h1,rfl⟩ | ⟨p,hp,h2,h⟩ | ⟨s,hs,h,rfl⟩)
  ·refine .inr ⟨p,hp,?_⟩
   unfold rN
   rw [if_pos h1]
   exact .head _
  ·refine .inr ⟨p,hp,?_⟩
   unfold rN
   rw [if_neg (by omega),if_pos h2]
   rcases h with rfl | ⟨s,hs,rfl⟩
   ·exact .head _
   ·exact .tail _ (List.mem_map.2 ⟨s,hs,rfl⟩)
  ·exact .inl (List.mem_map.2 ⟨s,List.mem_filter.2 ⟨hs,by simpa using h⟩,rfl⟩)
theorem aLz (h0:gP l=0) {p:B8×RM} (hp:p ∈ dJ l):p5 l p.1 p.2=0:=aN0 h0 p hp
theorem b6s (hg:uR l) {ρ:Rk} (hb:a00 (iM l) ρ) {A:B8} {a:RM} (ha:cG l typ A=some a) (hne:a.aY≠[]) (hs:∀ s ∈ a.aY,s.2.2=[]):ρ (typ,A)=0:=by
 have hga:a1w a:=hg.bP _ (rX ha).1
 have hw:iM l (typ,A)=[]:=by
  unfold iM
  dsimp only
  rw [ha]
  show nJ l typ a.steps++qH a.aY=[]
  rcases hga.tree with ⟨e,_⟩ | ⟨e,_⟩
  ·rw [e,b6r,List.nil_append]
   unfold qH
   rw [List.filter_eq_nil_iff.2 fun s hs'=>by simp [hs s hs']]
   rfl
  ·exact absurd e hne
 rcases hb (typ,A) with h | ⟨v,hv,_⟩
 ·exact h
 ·rw [hw] at hv; cases hv
structure bHd (l:List TM) (ρ:Rk) (p:B8×RM):Prop where
 is:∀ d ∈ wU l p.1 p.2 (bgR p.2),∃ b,cG l d.1 d.2.1=some b
 le:∀ d ∈ wU l p.1 p.2 (bgR p.2),ρ (d.1,d.2.1)+bN d.2.2≤ρ (p.1,p.2.nm)
 ex:ρ (p.1,p.2.nm)=0∨∃ d ∈ wU l p.1 p.2 (bgR p.2),ρ (p.1,p.2.nm)≤ρ (d.1,d.2.1)+bN d.2.2
theorem bDt (hg:uR l) (h0:gP l=0) {ρ:Rk} (hb:a00 (iM l) ρ) (hfp:∀ q ∈ iN l,∀ v ∈ iM l q,ρ (v.1,v.2.1)+v.2.2≤ρ q) {p:B8×RM} (hp:p ∈ dJ l):bHd l ρ p:=by
 obtain ⟨L,hL⟩:=bAn (l:=l) (typ:=p.1) (hg.bP p hp)
 obtain ⟨hn1,hn2⟩:=aLx (aLz h0 hp)
 have hrel:=a56 hg.rD hp
 have hwn:iM l (p.1,p.2.nm)=uQ l p.1 p.2:=by unfold iM; dsimp only; rw [hrel]
 have hq:(p.1,p.2.nm) ∈ iN l:=List.mem_map.2 ⟨p,hp,rfl⟩
 have hfp:=hfp _ hq
 rw [hwn] at hfp
 have hsub:∀ {A:B8} {a:RM},cG l p.1 A=some a→nI l p.1 A=a.aY:=fun h=>by unfold nI; rw [h]
 refine ⟨fun d hd=>?_,fun d hd=>?_,?_⟩
 ·rcases (aLy hL).1 hd with ⟨q,hq,h1,rfl⟩ | ⟨q,hq,h2,h⟩ | ⟨s,hs,hne,rfl⟩
  ·exact bAl (hn2 _ (hL.2.2 q hq).1) h1
  ·obtain ⟨a,ha,hne,hall⟩:=aAl (hn2 _ (hL.2.2 q hq).1) h2
   rcases h with rfl | ⟨s,hs,rfl⟩
   ·exact ⟨a,ha⟩
   ·rw [hsub ha] at hs
    exact (hall s hs).1
  ·have:=hn1 s hs
   unfold wS at this
   rw [Bool.or_eq_false_iff] at this
   cases hr:cG l s.1 s.2.2 with
   | some b=>exact ⟨b,rfl⟩
   | none=>rw [hr] at this; simp [hne] at this
 ·rcases (aLy hL).1 hd with ⟨q,hq,h1,rfl⟩ | ⟨q,hq,h2,h⟩ | ⟨s,hs,hne,rfl⟩
  ·exact hfp _ (bHb hL hq h1)
  ·obtain ⟨a,ha,hne,hall⟩:=aAl (hn2 _ (hL.2.2 q hq).1) h2
   rcases h with rfl | ⟨s,hs,rfl⟩
   ·have hz:=b6s hg hb ha hne fun s hs=>(hall s hs).2
    show ρ (p.1,q.1.2.1)+bN q.2≤_
    rw [hz]
    obtain ⟨s0,hs0⟩:=List.exists_mem_of_ne_nil _ hne
    have:=hfp _ (b3h hL hq h2 (s:=s0) (by rw [hsub ha]; exact hs0))
    dsimp only at this
    omega
   ·exact hfp _ (b3h hL hq h2 hs)
  ·exact hfp _ (bHc hs hne)
 ·rcases hb (p.1,p.2.nm) with h | ⟨v,hv,hle⟩
  ·exact .inl h
  ·right
   rw [hwn] at hv
   rcases aUt hL hv with ⟨q,hq,h1,rfl⟩ | ⟨q,hq,h2,s,hs,rfl⟩ | ⟨s,hs,hne,rfl⟩
   ·exact ⟨_,(aLy hL).2 (.inl ⟨q,hq,h1,rfl⟩),hle⟩
   ·exact ⟨_,(aLy hL).2 (.inr (.inl ⟨q,hq,h2,.inr ⟨s,hs,rfl⟩⟩)),hle⟩
   ·exact ⟨_,(aLy hL).2 (.inr (.inr ⟨s,hs,hne,rfl⟩)),hle⟩
end Go.Fbs
namespace Go.Fbs
open Go.Proofs
variable {l:List TM}
theorem aB5 (hf:a1s l) {p:B8×RM} (hp:p ∈ dJ l):p.1.length≤1000∧p.2.nm.length≤1000∧(∀ s ∈ p.2.aY,s.1.length≤1000∧s.2.2.length≤1000)∧∀ s ∈ p.2.steps,s.2.1.length≤1000∧s.2.2.length≤1000:=by
 obtain ⟨t,ht,e,hr⟩:=pL hp
 obtain ⟨h1,h2⟩:=hf.short t ht
 obtain ⟨h3,_,h5,h6⟩:=h2 _ hr
 exact ⟨by rw [e]; exact h1,h3,h5,h6⟩
theorem b6t (hf:a1s l):(iN l).Nodup:=by
 have:=aEf hf.types hf.bP
 unfold iN
 rw [List.Nodup,List.pairwise_map]
 exact this.imp fun h e=>h (by simpa using e)
theorem aHw (hg:uR l) (h0:gP l=0):aHa l (iN l).reverse:=by
 have hof:∀ q ∈ (iN l).reverse,∃ p ∈ dJ l,q=(p.1,p.2.nm):=fun q hq=>by
  obtain ⟨p,hp,e⟩:=List.mem_map.1 (List.mem_reverse.1 hq)
  exact ⟨p,hp,e.symm⟩
 refine ⟨fun q hq=>?_,fun q hq=>?_,fun q hq=>?_,?_,?_⟩
 ·obtain ⟨p,hp,rfl⟩:=hof q hq
  exact ⟨(aB5 hg.rD hp).1,(aB5 hg.rD hp).2.1⟩
 ·obtain ⟨p,hp,rfl⟩:=hof q hq
  exact ⟨p.2,a56 hg.rD hp,b6q hg (hg.bP p hp) (aLz h0 hp)⟩
 ·obtain ⟨p,hp,rfl⟩:=hof q hq
  have hrel:=a56 hg.rD hp
  have hwn:iM l (p.1,p.2.nm)=uQ l p.1 p.2:=by unfold iM; dsimp only; rw [hrel]
  rw [hwn]
  obtain ⟨L,hL⟩:=bAn (l:=l) (typ:=p.1) (hg.bP p hp)
  obtain ⟨hs1,hs2,hs3,hs4⟩:=aB5 hg.rD hp
  have hgp:=hg.bP p hp
  refine ⟨?_,fun v hv=>?_⟩
  ·unfold uQ
   rw [zwy]
   have h1:(nJ l p.1 p.2.steps).length≤1000*p.2.steps.length:=by
    have h2:=aYx (l:=l) (typ:=p.1) (xs:=p.2.steps) fun x _ _=>aZ0 hg
    unfold nJ
    cases hh:sV l p.1 p.2.steps with
    | nil=>simp
    | cons x xs =>
     rw [hh] at h2
     have:zO (x::xs)=x.length+zO xs:=rfl
     show x.length≤_
     omega
   have h2:(qH p.2.aY).length≤p.2.aY.length:=by
    unfold qH
    rw [zsy]
    exact List.length_filter_le _ _
   have h3:=hgp.steps
   have h4:=hgp.aY
   omega
  ·have hb:∀ b,bN b≤1:=fun b=>by cases b <;> decide
   rcases aUt hL hv with ⟨q,hq,h1,rfl⟩ | ⟨q,hq,h2,s,hs,rfl⟩ | ⟨s,hs,hne,rfl⟩
   ·exact ⟨hs1,(hs4 _ (hL.2.2 q hq).1).1,hb _⟩
   ·refine ⟨?_,(hs4 _ (hL.2.2 q hq).1).2,hb _⟩
    unfold nI at hs
    cases hr:cG l p.1 q.1.2.1 with
    | none=>rw [hr] at hs; cases hs
    | some a =>
     rw [hr] at hs
     exact ((aB5 hg.rD (rX hr).1).2.2.1 s hs).1
   ·exact ⟨(hs3 s hs).1,(hs3 s hs).2,by show (0:Nat)≤1; omega⟩
 ·rw [List.length_reverse]
  unfold iN
  rw [zsy]
  have:=hg.rD.few
  omega
 ·exact (List.reverse_perm _).nodup_iff.2 (b6t hg.rD)
theorem aB6 (hg:uR l):aAh l:=⟨hg.rD,aHw hg⟩
theorem aHx {a:B8} (h:p9 a=true):a.length≤30:=by
 unfold p9 oV at h
 simp only [zxz,decide_eq_true_eq] at h
 exact h.2.1
theorem aHy:∀ {t:Tr},t.a4g→∀ p ∈ t.steps,p.2.1.length≤30∧p.2.2.length≤30
 | .nm a,h,p,hp=>by
  simp only [Tr.steps,List.mem_singleton] at hp; subst hp
  exact ⟨aHx h,by simp⟩
 | .ar a b,h,p,hp=>by
  simp only [Tr.steps,List.mem_singleton] at hp; subst hp
  exact ⟨aHx h.1,aHx h.2⟩
 | .op k x y,h,p,hp=>by
  simp only [Tr.steps,List.mem_append,List.mem_singleton] at hp
  rcases hp with hp | hp | rfl
  ·exact aHy h.1 p hp
  ·exact aHy h.2 p hp
  ·exact ⟨by simp,by simp⟩
theorem aUu {r:Rel} (h:aZq r):a1w (upR r)∧r.1.length≤30∧(∀ s ∈ r.2.1,s.1.length≤30∧s.2.2.length≤30)∧∀ s ∈ r.2.2,s.2.1.length≤30∧s.2.2.length≤30:=by
 obtain ⟨hn,h⟩:=h
 rcases h with ⟨h1,h2,h3,h4⟩ | ⟨h1,t,h2,h3,_,h5,h6,_⟩
 ·refine ⟨⟨h3,by show r.2.2.length≤200; rw [h1]; simp,.inl ⟨h1,h2⟩⟩,aHx hn.1,fun s hs=>?_,fun s hs=>(by rw [h1] at hs; cases hs)⟩
  obtain ⟨g1,_,g3⟩:=h4 s hs
  refine ⟨aHx g1.1,?_⟩
  rcases g3 with g3 | g3
  ·rw [g3]; simp
  ·exact aHx g3.1
 ·refine ⟨⟨by show r.2.1.length≤50; rw [h1]; simp,by show r.2.2.length≤200; rw [← h5]; exact h6,.inr ⟨h1,t,h2,h5⟩⟩,aHx hn.1,fun s hs=>(by rw [h1] at hs; cases hs),fun s hs=>?_⟩
  rw [← h5] at hs
  exact aHy h3 s hs
theorem bAo (nl:List Int):∃ ts,pK (rO nl)=(ts,0,0)∧uR (gG ts)∧(∀ t ∈ ts,t.1.length≤30∧∀ r ∈ t.2,r.1.length≤30)∧ts.length≤3∧∀ t ∈ ts,t.2.length≤4:=by
 obtain ⟨x,y,z,hp,hx,hy1,hy2,hz1,hz2⟩:=b6n nl
 obtain ⟨hG,_,_⟩:=b3f (rO nl)
 rw [hp] at hG
 have hall:∀ t ∈ [x,y,z],aPj t:=hG
 have hy4:y.2.length=4:=by rw [← zsy (f:=fun r:Rel=>r.1),hy2]; rfl
 have hz4:z.2.length=4:=by rw [← zsy (f:=fun r:Rel=>r.1),hz2]; rfl
 have hx0:x.2.length=0:=by rw [hx]; rfl
 have hmem:∀ t ∈ [x,y,z],t.1.length≤30∧∀ r ∈ t.2,a1w (upR r)∧r.1.length≤30∧(∀ s ∈ r.2.1,s.1.length≤30∧s.2.2.length≤30)∧∀ s ∈ r.2.2,s.2.1.length≤30∧s.2.2.length≤30:=fun t ht=>by
  obtain ⟨h1,_,h3⟩:=hall t ht
  exact ⟨aHx h1.1,fun r hr=>aUu (h3 r hr)⟩
 refine ⟨[x,y,z],hp,⟨⟨fun t ht=>?_,?_,fun t ht=>?_,?_⟩,fun p hp'=>?_⟩,fun t ht=>⟨(hmem t ht).1,fun r hr=>((hmem t ht).2 r hr).2.1⟩,by simp,fun t ht=>?_⟩
 ·obtain ⟨t',ht',rfl⟩:=List.mem_map.1 ht
  obtain ⟨h1,h2⟩:=hmem t' ht'
  refine ⟨by show t'.1.length≤1000; omega,fun r hr=>?_⟩
  obtain ⟨r',hr',rfl⟩:=List.mem_map.1 hr
  obtain ⟨h3,h4,h5,h6⟩:=h2 r' hr'
  exact ⟨by show r'.1.length≤1000; omega,⟨by have:=h3.aY; show r'.2.1.length≤1000; have e:(upR r').aY=r'.2.1:=rfl; rw [e] at this; omega,by have:=h3.steps; show r'.2.2.length≤1000; have e:(upR r').steps=r'.2.2:=rfl; rw [e] at this; omega⟩,fun s hs=>⟨by have:=(h5 s hs).1; omega,by have:=(h5 s hs).2; omega⟩,fun s hs=>⟨by have:=(h6 s hs).1; omega,by have:=(h6 s hs).2; omega⟩⟩
 ·show ([x,y,z].map a64 |>.map (·.nm)).Nodup
  have:([x,y,z].map a64 |>.map (·.nm))=[x.1,y.1,z.1]:=rfl
  rw [this,hx,hy1,hz1]
  decide
 ·obtain ⟨t',ht',rfl⟩:=List.mem_map.1 ht
  have e:(a64 t').bP.map (·.nm)=t'.2.map (·.1):=by show (t'.2.map upR).map _=_; rw [List.map_map]; rfl
  rw [e]
  simp only [List.mem_cons,List.not_mem_nil,or_false] at ht'
  rcases ht' with rfl | rfl | rfl
  ·rw [hx]; exact List.nodup_nil
  ·rw [hy2]; decide
  ·rw [hz2]; decide
 ·have e:dJ (gG [x,y,z])=qX (a64 x)++(qX (a64 y)++(qX (a64 z)++[])):=rfl
  have hl:∀ t:gI,(qX (a64 t)).length=t.2.length:=fun t=>by show (List.map _ (List.map _ _)).length=_; simp
  rw [e]
  simp only [zwy,hl,hx0,hy4,hz4,List.length_nil]
  show 0+(4+(4+0))+3≤100000
  omega
 ·obtain ⟨t,ht,_,hr⟩:=pL hp'
  obtain ⟨t',ht',rfl⟩:=List.mem_map.1 ht
  obtain ⟨r',hr',e⟩:=List.mem_map.1 hr
  rw [← e]
  exact ((hmem t' ht').2 r' hr').1
 ·simp only [List.mem_cons,List.not_mem_nil,or_false] at ht
  rcases ht with rfl | rfl | rfl <;> omega
end Go.Fbs
namespace Go.Fbs
open Go.Proofs Go.RowKit Go.Maps
def dyW (d:Dy):V:=.agg [.str d.1,.str d.2.1,.bool d.2.2]
def a9f (ds:List Dy):V:=.sl .ro (ds.map dyW)
theorem bAp (l:List Dy):(a9f l).aN=true:=by
 unfold a9f
 simp only [V.aN]
 induction l with
 | nil=>rfl
 | cons d l ih=>simp_all [aG,dyW,V.aN]
theorem b1q (d:Dy) (ds:List Dy):flat ((d::ds).map dyW)=[.str d.1,.str d.2.1,.bool d.2.2]++flat (ds.map dyW):=rfl
theorem aEl {κ:Ctx} {h:dY} : ∀ ds:List Dy,b7 κ h (flat (ds.map dyW)) (zQ ds)
 | []=>b7.nil
 | d::ds=>by
  rw [b1q]
  exact b7.cons (.str _) (b7.cons (.str _) (b7.cons (.bool _) (aEl ds)))
theorem bAq (ws:List Dy):∀ u ∈ zQ ws,u.oneCell'=true:=by
 intro u hu
 obtain ⟨q,_,hq⟩:=List.mem_flatMap.1 hu
 simp only [dyC,List.mem_cons,List.not_mem_nil,or_false] at hq
 rcases hq with rfl | rfl | rfl <;> rfl
theorem bJ0 {κ : Ctx} {w : World} {base : Nat} {v : Value} {l : List Dy} (h : w.ownsRow base 48 3 v l.length (zQ l)) (hw : ∀ g arr,base ≤ g → w.heap[g]? = some (.cells arr 48 (0,0)) → arr.size ≤ κ.hw g) : bW κ w.heap (a9f l) v:=by
 obtain ⟨_,⟨rfl,h0⟩ | ⟨g,cap,cur,rfl,hb,hg,hn,_,hsz,ht⟩⟩:=h
 ·obtain rfl:l=[]:=List.length_eq_zero_iff.1 h0
  exact .slnil .ro (fun i h=>by cases h)
 ·have e:l.length=(l.map dyW).length:=by simp
  unfold a9f
  rw [e]
  refine .sl .ro (l.map dyW) g 0 cap 3 (zQ l) (fun i x hx=>?_) (fun e he=>?_) (aEl (κ:=κ) (h:=w.heap) l).1 (aEl l).2 (by rw [← e]; exact hn) trivial
  ·have hc : cur[i]? = some x:=by
    rw [← ht,List.getElem?_take] at hx
    split at hx
    ·rw [← Array.getElem?_toList]; exact hx
    ·cases hx
   rw [Nat.zero_add]
   refine ⟨zuz (zsz.1 hc).1 (hw g cur hb hg),?_,bAq l x (zyx hx)⟩
   unfold fY; rw [hg]; exact hc
  ·obtain ⟨x,_,rfl⟩:=List.mem_map.1 he
   rfl
theorem bJ1 {κ:Ctx} {w W:World} {v:Value} {l:List Dy} (h:W.ownsRow w.heap.size 48 3 v l.length (zQ l)):bW (aQs κ w.heap.size W.heap) W.heap (a9f l) v :=
 bJ0 h fun g arr hb hg=>Nat.le_of_eq (b8n hb hg).symm
theorem bAr (l:List TM) (typ:B8) (xs:List dQ) (f:Nat→Bool):pM (l.map pU) typ xs f=pM l typ xs f:=by
 unfold pM rN
 rw [show nI (l.map pU)=nI l from by funext a b; exact aUf l a b]
theorem bDu (l:List TM) (typ:B8) (r:RM):wU (l.map pU) typ (erR r) (bgR (erR r))=wU l typ r (bgR r):=by
 unfold wU
 rw [bAr]
 rfl
theorem bDv {r:RM} (h:a1w (erR r)):a1w r:=⟨h.aY,h.steps,h.tree⟩
theorem bDw {r:RM} (h:a1w r):bEs r.steps (bgR r):=by
 rcases h.tree with ⟨e,_⟩ | ⟨_,t,ht,e⟩
 ·intro i x hx
  rw [e] at hx
  cases hx
 ·obtain ⟨t,ht,e,hb⟩:=aZ1 ⟨t,ht,e⟩
  intro i x hx h4
  rw [← e] at hx
  obtain ⟨pre,post,y,e1,e2,e3,e4⟩:=aPk ht hx (by omega) (by omega)
  have hy:=aLe y
  rw [hb,← e2]
  refine ⟨by omega,by omega,fun w xa xc B hB hrow=>?_⟩
  have hl:=h.steps
  rw [← e,e1] at hrow hl ⊢
  have:=aEj (xc:=xc) hB y pre post e4 hrow (by omega) (i - 1) (by omega)
  rw [show ((i - 1:Nat):Int)=(i:Int) - 1 by omega] at this
  exact this
noncomputable def xW:Spec:=fG (fun q:List gI×B8×B8=>[gQ q.1,.str q.2.1,.str q.2.2]) (fun q=>uR (gG q.1)∧gP (gG q.1)=0∧(cG (gG q.1) q.2.1 q.2.2).isSome)
 (fun q=>a9f (match cG (gG q.1) q.2.1 q.2.2 with | none=>[] | some r=>wU (gG q.1) q.2.1 r (bgR r)))
theorem bMk {ts:List gI} {a b:B8} {r:RM} (h:uR (gG ts)) (h0:gP (gG ts)=0) (hr:cG (gG ts) a b=some r):xW [gQ ts,.str a,.str b]=some (a9f (wU (gG ts) a r (bgR r))):=by
 have:=cK (c:=fun q:List gI×B8×B8=>[gQ q.1,.str q.2.1,.str q.2.2]) (r:=fun q=>a9f (match cG (gG q.1) q.2.1 q.2.2 with | none=>[] | some r=>wU (gG q.1) q.2.1 r (bgR r))) (a:=(ts,a,b)) (ok:=fun q=>uR (gG q.1)∧gP (gG q.1)=0∧(cG (gG q.1) q.2.1 q.2.2).isSome) (fun x y h=>by
  simp only [List.cons.injEq,V.str.injEq,and_true] at h
  exact Prod.ext (aHc h.1) (Prod.ext h.2.1 h.2.2)) ⟨h,h0,by show (cG (gG ts) a b).isSome=true; rw [hr]; rfl⟩
 dsimp only at this
 rw [hr] at this
 exact this
theorem aL1:cU Try.prog xT xW:=by
 refine ⟨⟨_,_,Try.func12,rfl,by kernel_rfl⟩,fun args v hv=>?_⟩
 obtain ⟨⟨ts,t,rel⟩,rfl,⟨hg,h0,hsome⟩,rfl⟩:=bO hv
 dsimp only at hg h0 hsome ⊢
 refine ⟨fun m κ w xs k r=>?_,(tI (bAp _)).2⟩
 obtain ⟨x,ys,rfl,r1,r2⟩:=r.gW
 obtain ⟨x2,ys2,rfl,r3,r4⟩:=r2.gW
 obtain ⟨x3,ys3,rfl,r5,r6⟩:=r4.gW
 obtain rfl:=r6.uY
 obtain rfl:=k9 r3
 obtain rfl:=k9 r5
 obtain ⟨a,cap,rfl,l,hl,he,hts⟩:=aO8 r1
 have hrels:=hg.bP
 rw [← he] at hg h0 hsome ⊢
 rw [a4h] at hsome ⊢
 have hfine:=b2y hg.rD
 cases hr:cG l t rel with
 | none=>rw [hr] at hsome; cases hsome
 | some q =>
  have hpm:=(rX hr).1
  have hgq:a1w q:=bDv (hg.bP (t,erR q) (by rw [aBw]; exact List.mem_map.2 ⟨(t,q),hpm,rfl⟩))
  have h00:gP l=0:=by rw [← aEh]; exact h0
  have hn0:=aLz h00 hpm
  have har:∀ x ∈ q.steps,x.1=2→∃ a,cG l t x.2.1=some a:=fun x hx h2=>by
   obtain ⟨a,ha,_⟩:=aAl ((aLx hn0).2 x hx) h2
   exact ⟨a,ha⟩
  have:=b1o (cp:=cap) (t:=t) (rel:=rel) (bg:=bgR q) hts (zxy _) hfine hr (bDw hgq) har
  rw [hl] at this
  refine this.mono ?_
  rintro e w' ⟨hs,v,rfl,hd⟩
  refine ⟨_,_,rfl,aKj k hs.size hs.same hs.os hs.output,?_⟩
  show bW _ _ (a9f (wU (l.map pU) t (erR q) (bgR (erR q)))) v
  rw [bDu]
  exact bJ1 hd
end Go.Fbs
