import Derived.Test.YtngdbicnabbplaaPL
import Derived.Test.YtngdbicnabbplaaPG
set_option linter.unusedSimpArgs false
set_option linter.unusedVariables false
set_option linter.unusedSectionVars false
set_option maxRecDepth 100000
namespace Go.Fbs
open Go.Proofs
variable {l:List TM} {typ:B8}
theorem aXk {q:Nm} {s:Rk×Bool} {v:Wy} (h:(iN q s v).2=false):iN q s v=s∧s.1 (v.1,v.2.1)+v.2.2≤s.1 q:=by
 unfold iN at h ⊢
 split at h
 ·cases h
 ·rename_i hc
  rw [if_neg hc]
  exact ⟨rfl,by omega⟩
theorem b2q {q:Nm} {s:Rk×Bool} {v:Wy} (h:s.2=true):(iN q s v).2=true:=by
 unfold iN
 split
 ·rfl
 ·exact h
theorem aHk {q:Nm} : ∀ {vs:List Wy} {s:Rk×Bool},s.2=true→(vs.foldl (iN q) s).2=true
 | [],s,h=>h
 | v::vs,s,h=>by rw [List.foldl_cons]; exact aHk (b2q h)
theorem aNu {q:Nm} : ∀ {vs:List Wy} {s:Rk×Bool},(vs.foldl (iN q) s).2=false→vs.foldl (iN q) s=s∧∀ v ∈ vs,s.1 (v.1,v.2.1)+v.2.2≤s.1 q
 | [],s,_=>⟨rfl,fun v hv=>by cases hv⟩
 | v::vs,s,h=>by
  rw [List.foldl_cons] at h ⊢
  have h1:(iN q s v).2=false:=by
   cases hh:(iN q s v).2
   ·rfl
   ·rw [aHk hh] at h; cases h
  obtain ⟨e1,e2⟩:=aXk h1
  rw [e1] at h ⊢
  obtain ⟨e3,e4⟩:=aNu h
  refine ⟨e3,fun u hu=>?_⟩
  rcases List.mem_cons.1 hu with rfl | hu
  ·exact e2
  ·exact e4 u hu
theorem aQ6 {W:Nm→List Wy} {L:Nat} : ∀ {o:List Nm} {s t:Rk×Bool},iX W L o s=some t→s.2=true→t.2=true
 | [],s,t,h,hs=>by cases h; exact hs
 | q::r,s,t,h,hs=>by
  unfold iX at h
  split at h
  ·cases h
  ·exact aQ6 h (aHk hs)
theorem aNv {W:Nm→List Wy} {L:Nat} : ∀ {o:List Nm} {s t:Rk×Bool},iX W L o s=some t→t.2=false→t=s∧∀ q ∈ o,∀ v ∈ W q,s.1 (v.1,v.2.1)+v.2.2≤s.1 q
 | [],s,t,h,_=>by cases h; exact ⟨rfl,fun q hq=>by cases hq⟩
 | q::r,s,t,h,ht=>by
  unfold iX at h
  split at h
  ·cases h
  ·have h1:(a9t W s q).2=false:=by
    cases hh:(a9t W s q).2
    ·rfl
    ·rw [aQ6 h hh] at ht; cases ht
   obtain ⟨e1,e2⟩:=aNu h1
   have e1:a9t W s q=s:=e1
   rw [e1] at h
   obtain ⟨e3,e4⟩:=aNv h ht
   refine ⟨e3,fun x hx=>?_⟩
   rcases List.mem_cons.1 hx with rfl | hx
   ·exact e2
   ·exact e4 x hx
def a1e (W:Nm→List Wy) (ρ:Rk):Prop:=∀ q,ρ q=0∨∃ v ∈ W q,ρ q≤ρ (v.1,v.2.1)+v.2.2
theorem a1e.step {W:Nm→List Wy} {q:Nm} {s:Rk×Bool} {v:Wy} (h:a1e W s.1) (hv:v ∈ W q):a1e W (iN q s v).1:=by
 intro x
 have hge:=fun y=>aK5 (q:=q) (s:=s) (v:=v) y
 by_cases hx:x=q
 ·subst hx
  by_cases hc:s.1 (v.1,v.2.1)+v.2.2 > s.1 x
  ·refine .inr ⟨v,hv,?_⟩
   have e:(iN x s v).1 x=s.1 (v.1,v.2.1)+v.2.2:=by
    unfold iN
    rw [if_pos hc]
    show wI _ _ _ x=_
    unfold wI
    rw [if_pos rfl]
   rw [e]
   have:=hge (v.1,v.2.1)
   omega
  ·have e:iN x s v=s:=by unfold iN; rw [if_neg hc]
   rw [e]
   exact h x
 ·have e:(iN q s v).1 x=s.1 x:=by
   unfold iN
   split
   ·show wI _ _ _ x=_
    unfold wI
    rw [if_neg hx]
   ·rfl
  rw [e]
  rcases h x with h0 | ⟨u,hu,hle⟩
  ·exact .inl h0
  ·exact .inr ⟨u,hu,Nat.le_trans hle (Nat.add_le_add_right (hge _) _)⟩
theorem a1e.fold {W:Nm→List Wy} {q:Nm} : ∀ {vs:List Wy} {s:Rk×Bool},a1e W s.1→(∀ v ∈ vs,v ∈ W q)→a1e W (vs.foldl (iN q) s).1
 | [],s,h,_=>h
 | v::vs,s,h,hv=>by rw [List.foldl_cons]; exact a1e.fold (h.step (hv v (.head _))) fun u hu=>hv u (.tail _ hu)
theorem a1e.pass {W:Nm→List Wy} {L:Nat} : ∀ {o:List Nm} {s t:Rk×Bool},a1e W s.1→iX W L o s=some t→a1e W t.1
 | [],s,t,h,hp=>by cases hp; exact h
 | q::r,s,t,h,hp=>by
  unfold iX at hp
  split at hp
  ·cases hp
  ·exact a1e.pass (a1e.fold h fun v hv=>hv) hp
theorem b9h {W:Nm→List Wy} {L:Nat} {o:List Nm} {ρ0:Rk} {R:Option Rk} (h:pB W L o ρ0 R):a1e W ρ0→∀ ρ,R=some ρ→a1e W ρ∧∀ q ∈ o,∀ v ∈ W q,ρ (v.1,v.2.1)+v.2.2≤ρ q:=by
 induction h with
 | bad _=>intro _ ρ e; cases e
 | done hp =>
  intro hb ρ e
  cases e
  obtain ⟨e1,e2⟩:=aNv hp rfl
  cases e1
  exact ⟨hb,e2⟩
 | more hp _ ih=>intro hb ρ e; exact ih (a1e.pass hb hp) ρ e
theorem aHl:∀ {xs:List cV},lH l typ xs=0→∀ y ∈ xs,iM l typ y=0
 | x::xs,h,y,hy=>by
  unfold lH at h
  split at h
  ·rename_i h0
   rcases List.mem_cons.1 hy with rfl | hy
   ·exact h0
   ·exact aHl h y hy
  ·rename_i h0; exact absurd h h0
theorem b6g {r:RM} (h:kH l typ r=0):(∀ s ∈ r.aR,rE l s=false)∧∀ x ∈ r.steps,iM l typ x=0:=by
 unfold kH at h
 split at h
 ·cases h
 ·rename_i h0
  refine ⟨fun s hs=>?_,aHl h⟩
  cases hh:rE l s
  ·rfl
  ·exact absurd (List.any_eq_true.2 ⟨s,hs,hh⟩) h0
theorem b2r {x:cV} (h:iM l typ x=0) (h1:x.1=2):∃ a,cA l typ x.2.1=some a∧a.aR≠[]∧∀ s ∈ a.aR,(∃ b,cA l s.1 x.2.2=some b)∧s.2.2=[]:=by
 unfold iM at h
 rw [if_pos h1] at h
 unfold xB at h
 cases hr:cA l typ x.2.1 with
 | none=>rw [hr] at h; cases h
 | some a =>
  rw [hr] at h
  dsimp only at h
  split at h
  ·cases h
  ·rename_i h0
   split at h
   ·cases h
   ·rename_i h2
    refine ⟨a,rfl,fun e=>h0 (by rw [e]; rfl),fun s hs=>?_⟩
    have hb:j5 l x.2.2 s=false:=by
     cases hh:j5 l x.2.2 s
     ·rfl
     ·exact absurd (List.any_eq_true.2 ⟨s,hs,hh⟩) h2
    unfold j5 at hb
    rw [Bool.or_eq_false_iff] at hb
    refine ⟨?_,by simpa using hb.2⟩
    cases hs:cA l s.1 x.2.2 with
    | some b=>exact ⟨b,rfl⟩
    | none=>rw [hs] at hb; cases hb.1
structure a3i (r:RM):Prop where
 aR:r.aR.length≤50
 steps:r.steps.length≤200
 tree:(r.steps=[]∧r.aR≠[])∨(r.aR=[]∧∃ t:Tr,t.ok∧t.steps=r.steps)
structure jS (l:List TM):Prop where
 lG:a3e l
 aS:∀ p ∈ bO l,a3i p.2
theorem aV4 (hg:jS l) {x:cV} : (jR l typ x).length≤1000:=by
 unfold jR
 split
 ·simp
 ·rw [zsy]
  unfold qC
  cases hr:cA l typ x.2.1 with
  | none=>simp
  | some r =>
   have:=(hg.aS _ (yU hr).1).aR
   show r.aR.length≤_
   dsimp only at this
   omega
theorem b2s (hg:jS l) {r:RM} (hr:a3i r) (hn:kH l typ r=0):a7g l typ r.steps:=by
 obtain ⟨_,h2⟩:=b6g hn
 refine ⟨fun x hx hk=>⟨?_,aV4 hg⟩,?_⟩
 ·rcases hk with h1 | h1
  ·unfold jR; rw [if_pos h1]; simp
  ·obtain ⟨a,ha,hne,_⟩:=b2r (h2 x hx) h1
   unfold jR
   rw [if_neg (by omega)]
   unfold qC
   rw [ha]
   simpa using hne
 ·rcases hr.tree with ⟨e,_⟩ | ⟨_,t,ht,e⟩
  ·exact .inl e
  ·right
   rw [← e]
   exact ⟨_,aD1 ht⟩
end Go.Fbs

namespace Go.Fbs
open Go.Proofs
variable {l:List TM} {typ:B8}
theorem a3j (hf:a3e l) {p:B8×RM} (hp:p ∈ bO l):cA l p.1 p.2.nm=some p.2:=by
 have hap:=aAl hf.types hf.aS
 unfold cA
 have : ∀ ps : List (B8 × RM),(ps.Pairwise fun p q=>¬ (p.1 = q.1 ∧ p.2.nm = q.2.nm)) → p ∈ ps → ps.find? (fun q=>decide (q.1 = p.1) && decide (q.2.nm = p.2.nm)) = some p:=by
  intro ps
  induction ps with
  | nil=>intro _ h; cases h
  | cons q ps ih =>
   intro ha hm
   rw [List.pairwise_cons] at ha
   rw [List.find?_cons]
   rcases List.mem_cons.1 hm with rfl | hm
   ·simp
   ·have hne:=ha.1 p hm
    have e:(decide (q.1=p.1) && decide (q.2.nm=p.2.nm))=false:=by
     cases hh:(decide (q.1=p.1) && decide (q.2.nm=p.2.nm))
     ·rfl
     ·simp only [zxz,decide_eq_true_eq] at hh
      exact absurd hh hne
    rw [e]
    exact ih ha.2 hm
 rw [this _ hap hp]
 rfl
theorem aPj:∀ {t:Tr} {b:Bool} {p:cV×Bool},p ∈ lvs t b→p.1 ∈ t.steps∧(p.1.1=1∨p.1.1=2)
 | .nm a,b,p,h=>by
  simp only [lvs,List.mem_singleton] at h
  subst h
  exact ⟨by simp [Tr.steps],.inl rfl⟩
 | .ar a c,b,p,h=>by
  simp only [lvs,List.mem_singleton] at h
  subst h
  exact ⟨by simp [Tr.steps],.inr rfl⟩
 | .op k x y,b,p,h=>by
  simp only [lvs,List.mem_append] at h
  rcases h with h | h
  ·have:=aPj h; exact ⟨by simp [Tr.steps,this.1],this.2⟩
  ·have:=aPj h; exact ⟨by simp [Tr.steps,this.1],this.2⟩
open Classical in
noncomputable def bgR (r:RM):Nat→Nat:=if h:∃ t:Tr,t.ok∧t.steps=r.steps then bgT (Classical.choose h) else fun _=>0
theorem b9i {r:RM} (h:∃ t:Tr,t.ok∧t.steps=r.steps):∃ t:Tr,t.ok∧t.steps=r.steps∧bgR r=bgT t:=by
 refine ⟨Classical.choose h,(Classical.choose_spec h).1,(Classical.choose_spec h).2,?_⟩
 unfold bgR
 rw [dif_pos h]
def lvR (r:RM):List (cV×Bool)→Prop:=fun L=>lS l typ r.steps=(L.flatMap fun p=>mG p.2 (jR l typ p.1))∧aVs l typ r.steps (aDy r.steps (bgR r) r.steps.length)=(L.flatMap fun p=>aDz l typ p.1 p.2)∧∀ p ∈ L,p.1 ∈ r.steps∧(p.1.1=1∨p.1.1=2)
theorem b6h {r:RM} (h:a3i r):∃ L,lvR (l:=l) (typ:=typ) r L:=by
 rcases h.tree with ⟨e,_⟩ | ⟨_,t,ht,e⟩
 ·refine ⟨[],?_,?_,fun p hp=>by cases hp⟩
  ·rw [e]; rfl
  ·rw [e]; rfl
 ·obtain ⟨t,ht,e,hb⟩:=b9i ⟨t,ht,e⟩
  refine ⟨lvs t false,?_,?_,fun p hp=>by rw [← e]; exact aPj hp⟩
  ·rw [← e]; exact b6e ht
  ·rw [hb,← e]; exact b6f ht
theorem b9j {b:Bool} {ws:List Wy} {v:Wy} : v ∈ mG b ws↔∃ u ∈ ws,v=(u.1,u.2.1,if b then 1 else u.2.2):=by
 unfold mG
 cases b
 ·simp
 ·simp only [if_true,List.mem_map]
  exact ⟨fun ⟨u,hu,e⟩=>⟨u,hu,e.symm⟩,fun ⟨u,hu,e⟩=>⟨u,hu,e.symm⟩⟩
theorem b9k {x:cV} {u:Wy} : u ∈ jR l typ x↔(x.1=1∧u=(typ,x.2.1,0))∨(x.1≠1∧∃ s ∈ qC l typ x.2.1,u=(s.1,x.2.2,0)):=by
 unfold jR
 by_cases h:x.1=1
 ·rw [if_pos h]; simp [h]
 ·rw [if_neg h]
  simp only [h,false_and,false_or,ne_eq,not_false_eq_true,true_and,List.mem_map]
  exact ⟨fun ⟨s,hs,e⟩=>⟨s,hs,e.symm⟩,fun ⟨s,hs,e⟩=>⟨s,hs,e.symm⟩⟩
def bN (b:Bool):Nat:=if b then 1 else 0
theorem aQ7 {r:RM} {L:List (cV×Bool)} (hL:lvR (l:=l) (typ:=typ) r L) {v:Wy} (h:v ∈ wG l typ r) :
  (∃ p ∈ L,p.1.1=1∧v=(typ,p.1.2.1,bN p.2))∨(∃ p ∈ L,p.1.1=2∧∃ s ∈ qC l typ p.1.2.1,v=(s.1,p.1.2.2,bN p.2))∨∃ s ∈ r.aR,s.2.2≠[]∧v=(s.1,s.2.2,0):=by
 unfold wG at h
 rw [List.mem_append] at h
 rcases h with h | h
 ·rw [hL.1,List.mem_flatMap] at h
  obtain ⟨p,hp,hv⟩:=h
  obtain ⟨u,hu,rfl⟩:=b9j.1 hv
  rcases b9k.1 hu with ⟨h1,rfl⟩ | ⟨h1,s,hs,rfl⟩
  ·exact .inl ⟨p,hp,h1,rfl⟩
  ·have h2:=(hL.2.2 p hp).2
   exact .inr (.inl ⟨p,hp,by omega,s,hs,rfl⟩)
 ·right; right
  obtain ⟨s,hs,e⟩:=List.mem_map.1 h
  rw [List.mem_filter] at hs
  exact ⟨s,hs.1,by simpa using hs.2,e.symm⟩
theorem a5m (h0:fA l=0) {p:B8×RM} (hp:p ∈ bO l):kH l p.1 p.2=0:=aJn h0 p hp
structure bJ9 (l:List TM) (ρ:Rk) (p:B8×RM):Prop where
 is:∀ d ∈ b2h l p.1 p.2 (bgR p.2),∃ b,cA l d.1 d.2.1=some b
 le:∀ d ∈ b2h l p.1 p.2 (bgR p.2),ρ (d.1,d.2.1)+bN d.2.2≤ρ (p.1,p.2.nm)
 ex:ρ (p.1,p.2.nm)=0∨∃ d ∈ b2h l p.1 p.2 (bgR p.2),ρ (p.1,p.2.nm)≤ρ (d.1,d.2.1)+bN d.2.2
end Go.Fbs

namespace Go.Fbs
open Go.Proofs
variable {l:List TM}
theorem a8i (hf:a3e l) {p:B8×RM} (hp:p ∈ bO l):p.1.length≤1000∧p.2.nm.length≤1000∧(∀ s ∈ p.2.aR,s.1.length≤1000∧s.2.2.length≤1000)∧∀ s ∈ p.2.steps,s.2.1.length≤1000∧s.2.2.length≤1000:=by
 obtain ⟨t,ht,e,hr⟩:=jF hp
 obtain ⟨h1,h2⟩:=hf.short t ht
 obtain ⟨h3,_,h5,h6⟩:=h2 _ hr
 exact ⟨by rw [e]; exact h1,h3,h5,h6⟩
theorem a68 (hf:a3e l):(dZ l).Nodup:=by
 have:=aAl hf.types hf.aS
 unfold dZ
 rw [List.Nodup,List.pairwise_map]
 exact this.imp fun h e=>h (by simpa using e)
theorem aV5 (hg:jS l) (h0:fA l=0):aDp l (dZ l).reverse:=by
 have hof:∀ q ∈ (dZ l).reverse,∃ p ∈ bO l,q=(p.1,p.2.nm):=fun q hq=>by
  obtain ⟨p,hp,e⟩:=List.mem_map.1 (List.mem_reverse.1 hq)
  exact ⟨p,hp,e.symm⟩
 refine ⟨fun q hq=>?_,fun q hq=>?_,fun q hq=>?_,?_,?_⟩
 ·obtain ⟨p,hp,rfl⟩:=hof q hq
  exact ⟨(a8i hg.lG hp).1,(a8i hg.lG hp).2.1⟩
 ·obtain ⟨p,hp,rfl⟩:=hof q hq
  exact ⟨p.2,a3j hg.lG hp,b2s hg (hg.aS p hp) (a5m h0 hp)⟩
 ·obtain ⟨p,hp,rfl⟩:=hof q hq
  have hrel:=a3j hg.lG hp
  have hwn:eS l (p.1,p.2.nm)=wG l p.1 p.2:=by unfold eS; dsimp only; rw [hrel]
  rw [hwn]
  obtain ⟨L,hL⟩:=b6h (l:=l) (typ:=p.1) (hg.aS p hp)
  obtain ⟨hs1,hs2,hs3,hs4⟩:=a8i hg.lG hp
  have hgp:=hg.aS p hp
  refine ⟨?_,fun v hv=>?_⟩
  ·unfold wG
   rw [zwy]
   have h1:(lS l p.1 p.2.steps).length≤1000*p.2.steps.length:=by
    have h2:=aVc (l:=l) (typ:=p.1) (xs:=p.2.steps) fun x _ _=>aV4 hg
    unfold lS
    cases hh:qD l p.1 p.2.steps with
    | nil=>simp
    | cons x xs =>
     rw [hh] at h2
     have:wF (x::xs)=x.length+wF xs:=rfl
     show x.length≤_
     omega
   have h2:(pO p.2.aR).length≤p.2.aR.length:=by
    unfold pO
    rw [zsy]
    exact List.length_filter_le _ _
   have h3:=hgp.steps
   have h4:=hgp.aR
   omega
  ·have hb:∀ b,bN b≤1:=fun b=>by cases b <;> decide
   rcases aQ7 hL hv with ⟨q,hq,h1,rfl⟩ | ⟨q,hq,h2,s,hs,rfl⟩ | ⟨s,hs,hne,rfl⟩
   ·exact ⟨hs1,(hs4 _ (hL.2.2 q hq).1).1,hb _⟩
   ·refine ⟨?_,(hs4 _ (hL.2.2 q hq).1).2,hb _⟩
    unfold qC at hs
    cases hr:cA l p.1 q.1.2.1 with
    | none=>rw [hr] at hs; cases hs
    | some a =>
     rw [hr] at hs
     exact ((a8i hg.lG (yU hr).1).2.2.1 s hs).1
   ·exact ⟨(hs3 s hs).1,(hs3 s hs).2,by show (0:Nat)≤1; omega⟩
 ·rw [List.length_reverse]
  unfold dZ
  rw [zsy]
  have:=hg.lG.few
  omega
 ·exact (List.reverse_perm _).nodup_iff.2 (a68 hg.lG)
theorem mX (hg:jS l):a65 l:=⟨hg.lG,aV5 hg⟩
theorem aHm {a:B8} (h:a00 a=true):a.length≤30:=by
 unfold a00 wY at h
 simp only [zxz,decide_eq_true_eq] at h
 exact h.2.1
theorem aD4:∀ {t:Tr},t.pC→∀ p ∈ t.steps,p.2.1.length≤30∧p.2.2.length≤30
 | .nm a,h,p,hp=>by
  simp only [Tr.steps,List.mem_singleton] at hp; subst hp
  exact ⟨aHm h,by simp⟩
 | .ar a b,h,p,hp=>by
  simp only [Tr.steps,List.mem_singleton] at hp; subst hp
  exact ⟨aHm h.1,aHm h.2⟩
 | .op k x y,h,p,hp=>by
  simp only [Tr.steps,List.mem_append,List.mem_singleton] at hp
  rcases hp with hp | hp | rfl
  ·exact aD4 h.1 p hp
  ·exact aD4 h.2 p hp
  ·exact ⟨by simp,by simp⟩
theorem b6i {r:Rel} (h:aVx r):a3i (upR r)∧r.1.length≤30∧(∀ s ∈ r.2.1,s.1.length≤30∧s.2.2.length≤30)∧∀ s ∈ r.2.2,s.2.1.length≤30∧s.2.2.length≤30:=by
 obtain ⟨hn,h⟩:=h
 rcases h with ⟨h1,h2,h3,h4⟩ | ⟨h1,t,h2,h3,_,h5,h6,_⟩
 ·refine ⟨⟨h3,by show r.2.2.length≤200; rw [h1]; simp,.inl ⟨h1,h2⟩⟩,aHm hn.1,fun s hs=>?_,fun s hs=>(by rw [h1] at hs; cases hs)⟩
  obtain ⟨g1,_,g3⟩:=h4 s hs
  refine ⟨aHm g1.1,?_⟩
  rcases g3 with g3 | g3
  ·rw [g3]; simp
  ·exact aHm g3.1
 ·refine ⟨⟨by show r.2.1.length≤50; rw [h1]; simp,by show r.2.2.length≤200; rw [← h5]; exact h6,.inr ⟨h1,t,h2,h5⟩⟩,aHm hn.1,fun s hs=>(by rw [h1] at hs; cases hs),fun s hs=>?_⟩
  rw [← h5] at hs
  exact aD4 h3 s hs
end Go.Fbs

namespace Go.Fbs
open Go.Proofs
variable {W:Nm→List Wy} {L:Nat} {o:List Nm} {σ:Rk}
def Clo (W:Nm→List Wy) (o:List Nm) (σ:Rk):Prop:=∀ q ∈ o,∀ v ∈ W q,σ (v.1,v.2.1)+v.2.2≤σ q
theorem b9l {q:Nm} {s:Rk×Bool} {v:Wy} (h:∀ x,s.1 x≤σ x) (hv:σ (v.1,v.2.1)+v.2.2≤σ q):∀ x,(iN q s v).1 x≤σ x:=by
 intro x
 unfold iN
 split
 ·show wI _ _ _ x≤_
  unfold wI
  split
  ·rename_i e; rw [e]; have:=h (v.1,v.2.1); omega
  ·exact h x
 ·exact h x
theorem aPk {q:Nm} : ∀ (vs:List Wy) (s:Rk×Bool),(∀ x,s.1 x≤σ x)→(∀ v ∈ vs,σ (v.1,v.2.1)+v.2.2≤σ q)→∀ x,(vs.foldl (iN q) s).1 x≤σ x
 | [],s,h,_=>h
 | v::vs,s,h,hv=>by
  rw [List.foldl_cons]
  exact aPk vs _ (b9l h (hv v (.head _))) fun u hu=>hv u (.tail _ hu)
theorem aIj:∀ {o:List Nm} {s t:Rk×Bool},(∀ x,s.1 x≤σ x)→Clo W o σ→iX W L o s=some t→∀ x,t.1 x≤σ x
 | [],s,t,h,_,hp=>by cases hp; exact h
 | q::r,s,t,h,hc,hp=>by
  unfold iX at hp
  split at hp
  ·cases hp
  ·exact aIj (aPk _ _ h (hc q (.head _))) (fun x hx=>hc x (.tail _ hx)) hp
theorem aZf:∀ {o:List Nm} {s:Rk×Bool},(∀ x,s.1 x≤σ x)→Clo W o σ→(∀ q ∈ o,σ q≤L)→∃ t,iX W L o s=some t
 | [],s,_,_,_=>⟨s,rfl⟩
 | q::r,s,h,hc,hL=>by
  have h1:=aPk (q:=q) (W q) s h (hc q (.head _))
  unfold iX
  rw [if_neg (by have h2:=h1 q; have h3:=hL q (.head _); show ¬ L < ((W q).foldl (iN q) s).1 q; omega)]
  exact aZf h1 (fun x hx=>hc x (.tail _ hx)) fun x hx=>hL x (.tail _ hx)
theorem bC6 {ρ0:Rk} {R:Option Rk} (h:pB W L o ρ0 R) (hc:Clo W o σ):(∀ x,ρ0 x≤σ x)→∀ ρ,R=some ρ→∀ x,ρ x≤σ x:=by
 induction h with
 | bad _=>intro _ ρ e; cases e
 | done hp=>intro h0 ρ e; cases e; exact aIj h0 hc hp
 | more hp _ ih=>intro h0 ρ e; exact ih (aIj h0 hc hp) ρ e
theorem aQ8 {ρ0:Rk} {R:Option Rk} (h:pB W L o ρ0 R) (hc:Clo W o σ) (hL:∀ q ∈ o,σ q≤L):(∀ x,ρ0 x≤σ x)→∃ ρ,R=some ρ:=by
 induction h with
 | bad hp =>
  intro h0
  obtain ⟨t,ht⟩:=aZf (s:=(_,false)) h0 hc hL
  rw [hp] at ht; cases ht
 | done hp=>intro _; exact ⟨_,rfl⟩
 | more hp _ ih=>intro h0; exact ih (aIj h0 hc hp)
theorem b2t {ρ0:Rk} {R:Option Rk} {x:Nm} (hx:x ∉ o) (h:pB W L o ρ0 R):∀ ρ,R=some ρ→ρ x=ρ0 x:=by
 induction h with
 | bad _=>intro ρ e; cases e
 | done hp=>intro ρ e; cases e; exact a64 hp hx
 | more hp _ ih=>intro ρ e; rw [ih ρ e]; exact a64 hp hx
theorem aJu:∀ (M:Nat) (o:List Nm) (ρ:Rk),(∀ k,1≤k→k≤M→∃ q ∈ o,ρ q=k)→M≤o.length
 | 0,_,_,_=>Nat.zero_le _
 | M+1,o,ρ,h=>by
  have h1:M≤(o.filter fun q=>decide (ρ q≠M+1)).length:=aJu M _ ρ fun k hk hM=>by
   obtain ⟨q,hq,e⟩:=h k hk (by omega)
   exact ⟨q,List.mem_filter.2 ⟨hq,by simp; omega⟩,e⟩
  obtain ⟨q,hq,e⟩:=h (M+1) (by omega) (zxy _)
  have h2:(o.filter fun q=>decide (ρ q≠M+1)).length < o.length:=List.length_filter_lt_length_iff_exists.2 ⟨q,hq,by simp [e]⟩
  omega
structure Least (W:Nm→List Wy) (o:List Nm) (ρ:Rk):Prop where
 kX:Clo W o ρ
 le:∀ σ,Clo W o σ→∀ x,ρ x≤σ x
 out:∀ x,x ∉ o→ρ x=0
theorem Least.gap {ρ:Rk} (h:Least W o ρ) (ht:∀ q ∈ o,∀ v ∈ W q,v.2.2≤1) {k:Nat} (hk:1≤k) {q:Nm} (hq:k≤ρ q):∃ q ∈ o,ρ q=k:=by
 refine Classical.byContradiction fun hno=>?_
 have hne:∀ x,ρ x≠k:=fun x e=>by
  by_cases hx:x ∈ o
  ·exact hno ⟨x,hx,e⟩
  ·have:=h.out x hx; omega
 have hc:Clo W o fun x=>if k < ρ x then ρ x - 1 else ρ x:=by
  intro x hx v hv
  have h1:=h.kX x hx v hv
  have h2:=ht x hx v hv
  have h3:=hne (v.1,v.2.1)
  have h4:=hne x
  show (if k < ρ (v.1,v.2.1) then ρ (v.1,v.2.1) - 1 else ρ (v.1,v.2.1))+v.2.2≤if k < ρ x then ρ x - 1 else ρ x
  split <;> split <;> omega
 have h1:=h.le _ hc q
 have h2:=hne q
 rw [if_pos (by omega)] at h1
 omega
theorem Least.low {ρ:Rk} (h:Least W o ρ) (ht:∀ q ∈ o,∀ v ∈ W q,v.2.2≤1) (q:Nm):ρ q≤o.length :=
 aJu _ o ρ fun k hk hM=>h.gap ht hk hM
theorem aNw {ρ:Rk} {R:Option Rk} (h:pB W L o (fun _=>0) R) (hR:R=some ρ):Least W o ρ :=
 ⟨(b9h h (fun _=>.inl rfl) ρ hR).2,fun σ hc=>bC6 h hc (fun _=>Nat.zero_le _) ρ hR,fun x hx=>b2t hx h ρ hR⟩
theorem b6j {x:Nm} : ∀ {o:List Nm},x ∈ o→σ x≤(o.map σ).sum
 | q::r,h=>by
  rw [zsx,List.sum_cons]
  rcases List.mem_cons.1 h with rfl | h
  ·omega
  ·have:=b6j h; omega
theorem b9m {R:Option Rk} (hn:o.Nodup) (ht:∀ q ∈ o,∀ v ∈ W q,v.2.2≤1) (h:pB W o.length o (fun _=>0) R) (hc:Clo W o σ):∃ ρ,R=some ρ:=by
 obtain ⟨R',hR'⟩:=aY3 W (o.map σ).sum o hn _ (fun _=>0) (zxy _)
 obtain ⟨ρ',e⟩:=aQ8 hR' hc (fun q hq=>b6j hq) fun _=>Nat.zero_le _
 have hl:=aNw hR' e
 exact aQ8 h hl.kX (fun q _=>hl.low ht q) fun _=>Nat.zero_le _
structure a3k (P:Nm→Prop) (W WA WB:Nm→List Wy) (o oA oB:List Nm):Prop where
 o:∀ q,q ∈ o↔q ∈ oA∨q ∈ oB
 a:∀ q ∈ oA,P q∧W q=WA q∧∀ v ∈ WA q,P (v.1,v.2.1)∨(v.1,v.2.1) ∉ oB
 b:∀ q ∈ oB,¬ P q∧W q=WB q∧∀ v ∈ WB q,¬ P (v.1,v.2.1)
variable {P:Nm→Prop} {WA WB:Nm→List Wy} {oA oB:List Nm} {ρ ρA ρB:Rk}
theorem a3k.left (h:a3k P W WA WB o oA oB) (hc:Clo W o σ):Clo WA oA σ:=fun q hq v hv=>hc q ((h.o q).2 (.inl hq)) v (by rw [(h.a q hq).2.1]; exact hv)
theorem a3k.right (h:a3k P W WA WB o oA oB) (hc:Clo W o σ):Clo WB oB σ:=fun q hq v hv=>hc q ((h.o q).2 (.inr hq)) v (by rw [(h.b q hq).2.1]; exact hv)
open Classical in
theorem a3k.glue (h:a3k P W WA WB o oA oB) (hA:Clo WA oA ρA) (hB:Clo WB oB ρB) (h0:∀ x,x ∉ oB→ρB x=0):Clo W o fun x=>if P x then ρA x else ρB x:=by
 intro q hq v hv
 show (if P (v.1,v.2.1) then ρA (v.1,v.2.1) else ρB (v.1,v.2.1))+v.2.2≤if P q then ρA q else ρB q
 rcases (h.o q).1 hq with hq | hq
 ·obtain ⟨h1,h2,h3⟩:=h.a q hq
  rw [h2] at hv
  have h4:=hA q hq v hv
  rw [if_pos h1]
  by_cases hp:P (v.1,v.2.1)
  ·rw [if_pos hp]; exact h4
  ·rw [if_neg hp]
   rcases h3 v hv with h5 | h5
   ·exact absurd h5 hp
   ·rw [h0 _ h5]; omega
 ·obtain ⟨h1,h2,h3⟩:=h.b q hq
  rw [h2] at hv
  have h4:=hB q hq v hv
  rw [if_neg h1,if_neg (h3 v hv)]
  exact h4
theorem a3k.same (h:a3k P W WA WB o oA oB) (hr:Least W o ρ) (hA:Least WA oA ρA) (hB:Least WB oB ρB) {q:Nm} (hq:P q):ρ q=ρA q:=by
 refine Nat.le_antisymm ?_ (hA.le ρ (h.left hr.kX) q)
 have:=hr.le _ (h.glue hA.kX hB.kX hB.out) q
 rw [if_pos hq] at this
 exact this
end Go.Fbs
