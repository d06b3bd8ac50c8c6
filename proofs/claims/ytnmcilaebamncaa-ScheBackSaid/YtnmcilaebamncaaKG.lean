/- Schemas read: subjects, relations, types: plainly. -/
import Derived.Test.YtnmcilaebamncaaKF
set_option maxRecDepth 100000
namespace Go.Fbs
open Go.Proofs
abbrev Sub:=List UInt8 × List UInt8 × List UInt8
abbrev Rel:=List UInt8 × List Sub × List Stp
abbrev Typ:=List UInt8 × List Rel
def subW (s : Sub) : V:=.agg [.str s.1,.str s.2.1,.str s.2.2]
def subsV (l : List Sub) : V:=.sl .ro (l.map subW)
def relW (r : Rel) : V:=.agg [.str r.1,subsV r.2.1,stpsV r.2.2]
def relsV (l : List Rel) : V:=.sl .ro (l.map relW)
def typW (t : Typ) : V:=.agg [.str t.1,relsV t.2]
def typsV (l : List Typ) : V:=.sl .ro (l.map typW)
theorem subW_inj {a b : Sub} (h : subW a = subW b) : a = b:=by
 obtain ⟨k,n,x⟩:=a
 obtain ⟨k',n',x'⟩:=b
 simp only [subW,V.agg.injEq,List.cons.injEq,V.str.injEq,and_true] at h
 obtain ⟨h1,h2,h3⟩:=h
 rw [h1,h2,h3]
theorem relW_inj {a b : Rel} (h : relW a = relW b) : a = b:=by
 obtain ⟨k,n,x⟩:=a
 obtain ⟨k',n',x'⟩:=b
 simp only [relW,subsV,stpsV,V.agg.injEq,List.cons.injEq,V.str.injEq,V.sl.injEq,and_true,true_and] at h
 obtain ⟨h1,h2,h3⟩:=h
 rw [h1,map_injV (fun _ _=>subW_inj) h2,map_injV (fun _ _=>stpW_inj) h3]
theorem subsV_cano (l : List Sub) : (subsV l).cano = true:=by
 simp only [subsV,V.cano]; exact canos_map fun _=>rfl
theorem stpsV_cano (l : List Stp) : (stpsV l).cano = true:=by
 simp only [stpsV,V.cano]; exact canos_map fun _=>rfl
theorem relW_cano (r : Rel) : (relW r).cano = true:=by
 simp only [relW,V.cano,canos,subsV_cano,stpsV_cano,Bool.and_true]
theorem relsV_cano (l : List Rel) : (relsV l).cano = true:=by
 simp only [relsV,V.cano]; exact canos_map relW_cano
theorem typW_cano (t : Typ) : (typW t).cano = true:=by
 simp only [typW,V.cano,canos,relsV_cano,Bool.and_true]
theorem typsV_cano (l : List Typ) : (typsV l).cano = true:=by
 simp only [typsV,V.cano]; exact canos_map typW_cano
def subLoop : Nat → PSt → List Sub → Bool × PSt × List Sub
 | 0,s,l=>(false,s,l)
 | k + 1,s,l =>
  let a:=someM l.length 50 s
  if a.1 then
   let n:=nameM a.2
   if n.1 then
    let m:=mayM [35] n.2.1
    if m.1 then
     let q:=nameM m.2
     if q.1 then
      let b:=mayM [124] q.2.1
      let l':=l ++ [(n.2.2.getD [],[],q.2.2.getD [])]
      if b.1 then subLoop k b.2 l' else (true,b.2,l')
     else (false,q.2.1,l)
    else
     let b:=mayM [124] m.2
     let l':=l ++ [(n.2.2.getD [],[],[])]
     if b.1 then subLoop k b.2 l' else (true,b.2,l')
   else (false,n.2.1,l)
  else (false,a.2,l)
def subsM (s : PSt) (l : List Sub) : Bool × PSt × List Sub:=subLoop (s.l.length + 1) s l
def sumM : Rd:=sumOf (termOf (factorM 21))
def relationM (s : PSt) (rels : List Rel) : Bool × PSt × List Rel :=
 let a:=someM rels.length 200 s
 if a.1 then
  let n:=nameM a.2
  if n.1 then
   let m:=mayM [61] n.2.1
   if m.1 then
    let q:=sumM { m.2 with x:=[] }
    if q.1 then
     let z:=signM [59] q.2
     (z.1,z.2,rels ++ [(n.2.2.getD [],[],q.2.x)])
    else (false,q.2,rels)
   else
    let c:=signM [58] m.2
    if c.1 then
     let q:=subsM c.2 []
     if q.1 then
      let z:=signM [59] q.2.1
      (z.1,z.2,rels ++ [(n.2.2.getD [],q.2.2,[])])
     else (false,q.2.1,rels)
    else (false,c.2,rels)
  else (false,n.2.1,rels)
 else (false,a.2,rels)
def relLoop : Nat → PSt → List Rel → Bool × PSt × List Rel
 | 0,s,l=>(false,s,l)
 | k + 1,s,l =>
  let m:=mayM [125] s
  if m.1 then (true,m.2,l)
  else
   let r:=relationM m.2 l
   if r.1 then relLoop k r.2.1 r.2.2 else (false,r.2.1,r.2.2)
def oneM (n : Int) (s : PSt) : Bool × PSt × Typ :=
 let a:=someM n 200 s
 if a.1 then
  if wordM a.2 then
   let q:=nameM (popM a.2)
   if q.1 then
    let m:=mayM [123] q.2.1
    if m.1 then
     let r:=relLoop (m.2.l.length + 1) m.2 []
     (r.1,r.2.1,(q.2.2.getD [],r.2.2))
    else (true,m.2,(q.2.2.getD [],[]))
   else (false,q.2.1,([],[]))
  else (false,failM 9 a.2,([],[]))
 else (false,a.2,([],[]))
def parseLoop : Nat → PSt → List Typ → Bool × PSt × List Typ
 | 0,s,l=>(false,s,l)
 | k + 1,s,l =>
  if s.l = [] then (true,s,l)
  else
   let r:=oneM l.length s
   if r.1 then parseLoop k r.2.1 (l ++ [r.2.2]) else (false,r.2.1,l)
theorem word_ne {s : PSt} (h : wordM s = true) : s.l ≠ []:=by
 intro e
 simp [wordM,hereM,e] at h
theorem some_d (n most : Int) (s : PSt) : (someM n most s).2.d = s.d ∧ (someM n most s).2.l = s.l ∧ ((someM n most s).1 = true → n < most ∧ (someM n most s).2 = s):=by
 unfold someM
 split
 ·rename_i h; exact ⟨rfl,rfl,fun _=>⟨h,rfl⟩⟩
 ·have:=fail_d 8 s; exact ⟨this.1,this.2,fun h=>by simp at h⟩
theorem name_lt {s : PSt} (h : (nameM s).1 = true) : (nameM s).2.1.l.length < s.l.length:=by
 unfold nameM at h ⊢
 split
 ·rename_i hn; exact pop_lt (named_ne hn)
 ·rename_i hn; rw [if_neg hn] at h; simp at h
theorem subLoop_d : ∀ (k : Nat) (s : PSt) (l : List Sub),(subLoop k s l).2.1.d = s.d ∧ (subLoop k s l).2.1.l.length ≤ s.l.length
 | 0,s,l=>⟨rfl,Nat.le_refl _⟩
 | k + 1,s,l=>by
  unfold subLoop
  have h1:=some_d l.length 50 s
  simp only
  split
  ·have h2:=name_d (someM l.length 50 s).2
   split
   ·have h3:=may_d [35] (nameM (someM l.length 50 s).2).2.1
    split
    ·have h4:=name_d (mayM [35] (nameM (someM l.length 50 s).2).2.1).2
     split
     ·have h5:=may_d [124] (nameM (mayM [35] (nameM (someM l.length 50 s).2).2.1).2).2.1
      split
      ·have h6:=subLoop_d k (mayM [124] (nameM (mayM [35] (nameM (someM l.length 50 s).2).2.1).2).2.1).2 (l ++ [((nameM (someM l.length 50 s).2).2.2.getD [],[],(nameM (mayM [35] (nameM (someM l.length 50 s).2).2.1).2).2.2.getD [])])
       exact ⟨by rw [h6.1,h5.1,h4.1,h3.1,h2.1,h1.1],by rw [h1.2.1] at h2; omega⟩
      ·exact ⟨by rw [h5.1,h4.1,h3.1,h2.1,h1.1],by rw [h1.2.1] at h2; simp only; omega⟩
     ·exact ⟨by rw [h4.1,h3.1,h2.1,h1.1],by rw [h1.2.1] at h2; simp only; omega⟩
    ·have h5:=may_d [124] (mayM [35] (nameM (someM l.length 50 s).2).2.1).2
     split
     ·have h6:=subLoop_d k (mayM [124] (mayM [35] (nameM (someM l.length 50 s).2).2.1).2).2 (l ++ [((nameM (someM l.length 50 s).2).2.2.getD [],[],[])])
      exact ⟨by rw [h6.1,h5.1,h3.1,h2.1,h1.1],by rw [h1.2.1] at h2; omega⟩
     ·exact ⟨by rw [h5.1,h3.1,h2.1,h1.1],by rw [h1.2.1] at h2; simp only; omega⟩
   ·exact ⟨by rw [h2.1,h1.1],by rw [h1.2.1] at h2; simp only; omega⟩
  ·exact ⟨h1.1,by show (someM _ _ s).2.l.length ≤ _; rw [h1.2.1]; exact Nat.le_refl _⟩
theorem subLoop_fuel : ∀ (n k1 k2 : Nat) (s : PSt) (l : List Sub),s.l.length ≤ n → s.l.length < k1 → s.l.length < k2 → subLoop k1 s l = subLoop k2 s l
 | n,0,_,_,_,_,h1,_=>by omega
 | n,_,0,_,_,_,_,h2=>by omega
 | n,k1 + 1,k2 + 1,s,l,hn,h1,h2=>by
  unfold subLoop
  have g1:=some_d l.length 50 s
  simp only
  split
  ·split
   ·rename_i hnm
    have h3:=name_lt hnm
    rw [g1.2.1] at h3
    have h4:=may_d [35] (nameM (someM l.length 50 s).2).2.1
    obtain ⟨n,rfl⟩ : ∃ m,n = m + 1:=⟨n - 1,by omega⟩
    split
    ·have h5:=name_d (mayM [35] (nameM (someM l.length 50 s).2).2.1).2
     split
     ·have h6:=may_d [124] (nameM (mayM [35] (nameM (someM l.length 50 s).2).2.1).2).2.1
      split
      ·exact subLoop_fuel n k1 k2 _ _ (by omega) (by omega) (by omega)
      ·rfl
     ·rfl
    ·have h6:=may_d [124] (mayM [35] (nameM (someM l.length 50 s).2).2.1).2
     split
     ·exact subLoop_fuel n k1 k2 _ _ (by omega) (by omega) (by omega)
     ·rfl
   ·rfl
  ·rfl
theorem good_sumM : Good sumM:=good_sum (good_term (good_M 21))
theorem relation_d (s : PSt) (l : List Rel) : (relationM s l).2.1.d = s.d ∧ (relationM s l).2.1.l.length ≤ s.l.length ∧ ((relationM s l).1 = true → (relationM s l).2.1.l.length < s.l.length):=by
 unfold relationM
 have h1:=some_d l.length 200 s
 simp only
 split
 ·have h2:=name_d (someM l.length 200 s).2
  have h2':=name_lt (s:=(someM l.length 200 s).2)
  split
  ·rename_i hnm
   have h2':=h2' hnm
   rw [h1.2.1] at h2 h2'
   have h3:=may_d [61] (nameM (someM l.length 200 s).2).2.1
   split
   ·have h4 : (sumM { (mayM [61] (nameM (someM l.length 200 s).2).2.1).2 with x:=[] }).2.d = (mayM [61] (nameM (someM l.length 200 s).2).2.1).2.d:=good_sumM.d _
    have h5 : (sumM { (mayM [61] (nameM (someM l.length 200 s).2).2.1).2 with x:=[] }).2.l.length ≤ (mayM [61] (nameM (someM l.length 200 s).2).2.1).2.l.length:=good_sumM.l _
    generalize sumM { (mayM [61] (nameM (someM l.length 200 s).2).2.1).2 with x:=[] } = q at *
    split
    ·have h6:=sign_d [59] q.2
     exact ⟨by rw [h6.1,h4,h3.1,h2.1,h1.1],by simp only; omega,fun _=>by simp only; omega⟩
    ·exact ⟨by rw [h4,h3.1,h2.1,h1.1],by simp only; omega,fun h=>by simp at h⟩
   ·have h4:=sign_d [58] (mayM [61] (nameM (someM l.length 200 s).2).2.1).2
    split
    ·have h5:=subLoop_d ((signM [58] (mayM [61] (nameM (someM l.length 200 s).2).2.1).2).2.l.length + 1) (signM [58] (mayM [61] (nameM (someM l.length 200 s).2).2.1).2).2 []
     have e5 : subsM (signM [58] (mayM [61] (nameM (someM l.length 200 s).2).2.1).2).2 [] = subLoop ((signM [58] (mayM [61] (nameM (someM l.length 200 s).2).2.1).2).2.l.length + 1) (signM [58] (mayM [61] (nameM (someM l.length 200 s).2).2.1).2).2 []:=rfl
     rw [← e5] at h5
     split
     ·have h6:=sign_d [59] (subsM (signM [58] (mayM [61] (nameM (someM l.length 200 s).2).2.1).2).2 []).2.1
      exact ⟨by rw [h6.1,h5.1,h4.1,h3.1,h2.1,h1.1],by simp only; omega,fun _=>by simp only; omega⟩
     ·exact ⟨by rw [h5.1,h4.1,h3.1,h2.1,h1.1],by simp only; omega,fun h=>by simp at h⟩
    ·exact ⟨by rw [h4.1,h3.1,h2.1,h1.1],by simp only; omega,fun h=>by simp at h⟩
  ·rw [h1.2.1] at h2
   exact ⟨by rw [h2.1,h1.1],by simp only; omega,fun h=>by simp at h⟩
 ·exact ⟨h1.1,by show (someM _ _ s).2.l.length ≤ _; rw [h1.2.1]; exact Nat.le_refl _,fun h=>by simp at h⟩
theorem relLoop_d : ∀ (k : Nat) (s : PSt) (l : List Rel),(relLoop k s l).2.1.d = s.d ∧ (relLoop k s l).2.1.l.length ≤ s.l.length
 | 0,s,l=>⟨rfl,Nat.le_refl _⟩
 | k + 1,s,l=>by
  unfold relLoop
  have h1:=may_d [125] s
  simp only
  split
  ·exact h1
  ·have h2:=relation_d (mayM [125] s).2 l
   split
   ·have h3:=relLoop_d k (relationM (mayM [125] s).2 l).2.1 (relationM (mayM [125] s).2 l).2.2
    exact ⟨by rw [h3.1,h2.1,h1.1],by omega⟩
   ·exact ⟨by rw [h2.1,h1.1],by simp only; omega⟩
theorem relLoop_fuel : ∀ (n k1 k2 : Nat) (s : PSt) (l : List Rel),s.l.length ≤ n → s.l.length < k1 → s.l.length < k2 → relLoop k1 s l = relLoop k2 s l
 | n,0,_,_,_,_,h1,_=>by omega
 | n,_,0,_,_,_,_,h2=>by omega
 | n,k1 + 1,k2 + 1,s,l,hn,h1,h2=>by
  unfold relLoop
  have h3:=may_d [125] s
  simp only
  split
  ·rfl
  ·have h4:=relation_d (mayM [125] s).2 l
   split
   ·rename_i hr
    have h5:=h4.2.2 hr
    obtain ⟨n,rfl⟩ : ∃ m,n = m + 1:=⟨n - 1,by omega⟩
    exact relLoop_fuel n k1 k2 _ _ (by omega) (by omega) (by omega)
   ·rfl
theorem one_d (n : Int) (s : PSt) : (oneM n s).2.1.d = s.d ∧ (oneM n s).2.1.l.length ≤ s.l.length ∧ ((oneM n s).1 = true → (oneM n s).2.1.l.length < s.l.length ∧ n < 200):=by
 unfold oneM
 have h1:=some_d n 200 s
 simp only
 split
 ·rename_i ha
  have hn:=(h1.2.2 ha).1
  split
  ·rename_i hw
   have h2:=pop_lt (word_ne hw)
   have h3:=name_d (popM (someM n 200 s).2)
   have h3' : (popM (someM n 200 s).2).d = (someM n 200 s).2.d:=rfl
   rw [h1.2.1] at h2
   split
   ·have h4:=may_d [123] (nameM (popM (someM n 200 s).2)).2.1
    split
    ·have h5:=relLoop_d ((mayM [123] (nameM (popM (someM n 200 s).2)).2.1).2.l.length + 1) (mayM [123] (nameM (popM (someM n 200 s).2)).2.1).2 []
     exact ⟨by rw [h5.1,h4.1,h3.1,h3',h1.1],by simp only; omega,fun _=>⟨by simp only; omega,hn⟩⟩
    ·exact ⟨by rw [h4.1,h3.1,h3',h1.1],by simp only; omega,fun _=>⟨by simp only; omega,hn⟩⟩
   ·exact ⟨by rw [h3.1,h3',h1.1],by simp only; omega,fun h=>by simp at h⟩
  ·have h2:=fail_d 9 (someM n 200 s).2
   exact ⟨by rw [h2.1,h1.1],by show (failM 9 _).l.length ≤ _; rw [h2.2,h1.2.1]; exact Nat.le_refl _,fun h=>by simp at h⟩
 ·exact ⟨h1.1,by show (someM _ _ s).2.l.length ≤ _; rw [h1.2.1]; exact Nat.le_refl _,fun h=>by simp at h⟩
theorem parseLoop_fuel : ∀ (n k1 k2 : Nat) (s : PSt) (l : List Typ),s.l.length ≤ n → s.l.length < k1 → s.l.length < k2 → parseLoop k1 s l = parseLoop k2 s l
 | n,0,_,_,_,_,h1,_=>by omega
 | n,_,0,_,_,_,_,h2=>by omega
 | n,k1 + 1,k2 + 1,s,l,hn,h1,h2=>by
  unfold parseLoop
  split
  ·rfl
  ·have h4:=one_d l.length s
   simp only
   split
   ·rename_i hr
    have h5:=(h4.2.2 hr).1
    obtain ⟨n,rfl⟩ : ∃ m,n = m + 1:=⟨n - 1,by omega⟩
    exact parseLoop_fuel n k1 k2 _ _ (by omega) (by omega) (by omega)
   ·rfl
end Go.Fbs
