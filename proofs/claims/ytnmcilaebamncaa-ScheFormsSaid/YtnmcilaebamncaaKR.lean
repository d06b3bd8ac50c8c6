/- Parsing what is made of numbers: relations, types. -/
import Derived.Test.YtnmcilaebamncaaKQ
set_option linter.unusedVariables false
set_option linter.unusedSimpArgs false
set_option linter.unusedSectionVars false
set_option maxRecDepth 100000
namespace Go.Fbs
open Go.Proofs
attribute [local irreducible] wD bY
structure b05 {α:Type} (s:bG) (R:List jT) (m:Nat) (r:Bool×bG×List α):Prop where
 ok:r.1=true
 l:r.2.1.l=R
 n:r.2.1.n=s.n
 at_:r.2.1.at_=s.at_
 e:r.2.1.e=s.e
 d:r.2.1.d=s.d
 m:r.2.2.length=m
structure Far (s t:bG) (R:List jT):Prop where
 l:t.l=R
 n:t.n=s.n
 at_:t.at_=s.at_
 e:t.e=s.e
 d:t.d=s.d
def aIb (A:List KT):Prop:=(∃ a,zB a=true∧A=[(1,a)])∨∃ a b,zB a=true∧zB b=true∧A=[(1,a),(2,[35]),(1,b)]
theorem a17 {n most:Int} {s:bG} (h:n < most):dL n most s=(true,s):=by unfold dL; rw [if_pos h]
theorem aGx {A:List KT} (hA:aIb A) {s:bG} {T R:List jT} {l:List Sub} {k:Nat} (hT:T.map kt=A) (hl:s.l=T++R) (hR:noB [35] R) (hm:l.length < 50) :
  ∃ t l',kT (k+1) s l=(if (cJ [124] t).1 then kT k (cJ [124] t).2 l' else (true,(cJ [124] t).2,l'))∧Far s t R∧l'.length=l.length+1:=by
 rcases hA with ⟨a,ha,rfl⟩ | ⟨a,b,ha,hb,rfl⟩
 ·obtain ⟨t,T',rfl,hk,hT⟩:=fK hT
  obtain rfl:T'=[]:=by simpa using hT
  have hn:=sM (R:=R) hl hk ha
  refine ⟨bW s,l++[(a,[],[])],?_,⟨hn.2,rfl,rfl,rfl,rfl⟩,by simp⟩
  conv=>lhs; unfold kT
  simp only [a17 (show (l.length:Int) < 50 by omega),if_true,hn.1,a3k (g:=[35]) (s:=bW s) (by rw [hn.2]; exact hR),Bool.false_eq_true,if_false,Option.getD_some]
 ·obtain ⟨t,T',rfl,hk,hT⟩:=fK hT
  obtain ⟨u,T',rfl,hk2,hT⟩:=fK hT
  obtain ⟨q,T',rfl,hk3,hT⟩:=fK hT
  obtain rfl:T'=[]:=by simpa using hT
  have hn:=sM (R:=u::q::R) hl hk ha
  have hm2:=a15 (g:=[35]) (s:=bW s) hn.2 hk2
  have hn2:=sM (s:=bW (bW s)) hm2.2 hk3 hb
  refine ⟨bW (bW (bW s)),l++[(a,[],b)],?_,⟨hn2.2,rfl,rfl,rfl,rfl⟩,by simp⟩
  conv=>lhs; unfold kT
  simp only [a17 (show (l.length:Int) < 50 by omega),if_true,hn.1,hm2.1,hn2.1,Option.getD_some]
def aDj (S:List KT):Prop:=∀ s T t R,T.map kt=S→s.l=T++t::R→kt t=(2,[59])→∃ m,b05 s (t::R) m (qR s [])
theorem aGy {A:List KT} (hA:aIb A):aDj A:=by
 intro s T t R hT hl hk
 obtain ⟨u,l',e,hf,hm⟩:=aGx (k:=s.l.length) (l:=[]) hA hT hl (jX (by rw [hk]; simp)) (by simp)
 refine ⟨1,?_⟩
 unfold qR
 rw [e,a3k (by rw [hf.l]; exact jX (by rw [hk]; simp))]
 exact ⟨rfl,hf.l,hf.n,hf.at_,hf.e,hf.d,hm⟩
theorem aGz {A B:List KT} (hA:aIb A) (hB:aIb B):aDj (A++(2,[124])::B):=by
 intro s T t R hT hl hk
 obtain ⟨T1,T2,rfl,h1,h2⟩:=n7 hT
 obtain ⟨u,T3,rfl,hku,h3⟩:=fK h2
 obtain ⟨v,l',e,hf,hm⟩:=aGx (k:=s.l.length) (l:=[]) (R:=u::T3++t::R) hA h1 (by rw [hl]; simp) (jX (by rw [hku]; simp)) (by simp)
 have hy:=a15 (g:=[124]) (s:=v) hf.l hku
 obtain ⟨k,hk1⟩:∃ k,s.l.length=k+1:=⟨s.l.length - 1,by rw [hl]; simp; omega⟩
 obtain ⟨w,l2,e2,hf2,hm2⟩:=aGx (k:=k) (l:=l') (s:=bW v) hB h3 hy.2 (jX (by rw [hk]; simp)) (by rw [hm]; simp)
 refine ⟨2,?_⟩
 unfold qR
 rw [e,hy.1]
 simp only [if_true]
 rw [hk1,e2,a3k (by rw [hf2.l]; exact jX (by rw [hk]; simp))]
 exact ⟨rfl,hf2.l,hf2.n.trans hf.n,hf2.at_.trans hf.at_,hf2.e.trans hf.e,hf2.d.trans hf.d,by show l2.length=2; rw [hm2,hm]; rfl⟩
theorem aN9 (n:Int):aIb (iX (a02 n)):=by
 have h:=aAr n
 generalize a02 n=w at h
 simp only [aAk,List.mem_cons,List.not_mem_nil,or_false] at h
 rcases h with rfl | rfl | rfl | rfl | rfl | rfl | rfl | rfl | rfl | rfl
 ·exact .inl ⟨[117],by kernel_rfl,by kernel_rfl⟩
 ·exact .inl ⟨[117],by kernel_rfl,by kernel_rfl⟩
 ·exact .inr ⟨[97],[114],by kernel_rfl,by kernel_rfl,by kernel_rfl⟩
 ·exact .inr ⟨[98],[114],by kernel_rfl,by kernel_rfl,by kernel_rfl⟩
 ·exact .inr ⟨[97],[115],by kernel_rfl,by kernel_rfl,by kernel_rfl⟩
 ·exact .inr ⟨[98],[112],by kernel_rfl,by kernel_rfl,by kernel_rfl⟩
 ·exact .inl ⟨[97],by kernel_rfl,by kernel_rfl⟩
 ·exact .inl ⟨[98],by kernel_rfl,by kernel_rfl⟩
 ·exact .inl ⟨[117],by kernel_rfl,by kernel_rfl⟩
 ·exact .inr ⟨[97],[113],by kernel_rfl,by kernel_rfl,by kernel_rfl⟩
theorem b06 (n:Int):aDj (aE4 n):=by
 unfold aE4
 by_cases hb:a5x n 8=true
 ·rw [if_pos hb]; exact aGz (aN9 n) (aN9 _)
 ·rw [if_neg hb,List.append_nil]; exact aGy (aN9 n)
theorem b07 (n:Int):aDj (iX (sT n)):=by
 have h:=aYo n
 generalize sT n=w at h
 simp only [ssT,List.mem_cons,List.not_mem_nil,or_false] at h
 rcases h with rfl | rfl | rfl | rfl
 ·exact aGy (.inl ⟨[97],by kernel_rfl,by kernel_rfl⟩)
 ·exact aGy (.inl ⟨[98],by kernel_rfl,by kernel_rfl⟩)
 ·exact aGz (A:=[(1,[97])]) (B:=[(1,[98])]) (.inl ⟨[97],by kernel_rfl,rfl⟩) (.inl ⟨[98],by kernel_rfl,rfl⟩)
 ·exact aGz (A:=[(1,[117])]) (B:=[(1,[97])]) (.inl ⟨[117],by kernel_rfl,rfl⟩) (.inl ⟨[97],by kernel_rfl,rfl⟩)
def aDk (A:List KT):Prop:=∀ s T R (l:List Rel),T.map kt=A→s.l=T++R→l.length < 200→s.d=0→b05 s R (l.length+1) (eV s l)
theorem aOa {nm:List UInt8} {S:List KT} (hn:zB nm=true) (hS:aDj S):aDk ([(1,nm),(2,[58])]++S++[(2,[59])]):=by
 intro s T R l hT hl hm hd
 obtain ⟨T',T3,rfl,hT,h3⟩:=n7 hT
 obtain ⟨t,T',rfl,hk1,hT⟩:=fK hT
 obtain ⟨u,T2,rfl,hk2,h2⟩:=fK hT
 obtain ⟨v,T4,rfl,hk3,h4⟩:=fK h3
 obtain rfl:T4=[]:=by simpa using h4
 have hl:s.l=t::(u::(T2++v::R)):=by rw [hl]; simp
 have e1:=sM (R:=u::(T2++v::R)) hl hk1 hn
 have e2:=a3k (g:=[61]) (s:=bW s) (by rw [e1.2]; exact jX (by rw [hk2]; simp))
 have e3:=aAs (g:=[58]) (s:=bW s) e1.2 hk2
 obtain ⟨m,hs⟩:=hS (bW (bW s)) T2 v R h2 e3.2 hk3
 unfold eV
 simp only [a17 (show (l.length:Int) < 200 by omega),if_true,e1.1,e2,Bool.false_eq_true,if_false,e3.1]
 generalize qR (bW (bW s)) []=r at *
 obtain ⟨b,s1,sb⟩:=r
 obtain ⟨g1,g2,g3,g4,g5,g6,g7⟩:=hs
 simp only at g1 g2 g3 g4 g5 g6 g7
 subst g1
 have e4:=aAs (g:=[59]) (s:=s1) g2 hk3
 simp only [if_true,e4.1]
 exact ⟨rfl,e4.2,g3,g4,g5,g6,by simp⟩
theorem b08 {S:List KT} (hS:aAt 21 0 S) {s:bG} {T R:List jT} (h1:T.map kt=S) (h2:s.l=T++R) (h3:NoS R) (h4:s.x.length+S.length≤200) (h5:s.d=0):Ate s R S.length (wD s):=by
 unfold wD
 exact hS s T R h1 h2 h3 h4 h5
theorem aOb {nm:List UInt8} {S:List KT} (hn:zB nm=true) (hS:aAt 21 0 S) (hS2:S.length≤200):aDk ([(1,nm),(2,[61])]++S++[(2,[59])]):=by
 intro s T R l hT hl hm hd
 obtain ⟨T',T3,rfl,hT,h3⟩:=n7 hT
 obtain ⟨t,T',rfl,hk1,hT⟩:=fK hT
 obtain ⟨u,T2,rfl,hk2,h2⟩:=fK hT
 obtain ⟨v,T4,rfl,hk3,h4⟩:=fK h3
 obtain rfl:T4=[]:=by simpa using h4
 have hl:s.l=t::(u::(T2++v::R)):=by rw [hl]; simp
 have e1:=sM (R:=u::(T2++v::R)) hl hk1 hn
 have e2:=a15 (g:=[61]) (s:=bW s) e1.2 hk2
 have hno:NoS (v::R):=by
  refine ⟨⟨jX ?_,jX ?_⟩,jX ?_,jX ?_⟩ <;> rw [hk3] <;> simp
 have hs:=b08 hS (s:={ bW (bW s) with x:=[] }) (T:=T2) (R:=v::R) h2 e2.2 hno (by show 0+S.length≤200; omega) hd
 unfold eV
 simp only [a17 (show (l.length:Int) < 200 by omega),if_true,e1.1,e2.1]
 generalize wD { bW (bW s) with x:=[] } = r at *
 obtain ⟨b,s1⟩:=r
 obtain ⟨g1,g2,g3,g4,g5,g6,g7⟩:=hs
 simp only at g1 g2 g3 g4 g5 g6 g7
 subst g1
 have e4:=aAs (g:=[59]) (s:=s1) g2 hk3
 simp only [if_true,e4.1]
 exact ⟨rfl,e4.2,g3,g4,g5,g6,by simp⟩
theorem aOc : ∀ (As : List (List KT)) (s : bG) (T : List jT) (u : jT) (R : List jT) (l : List Rel) (k : Nat),(∀ A ∈ As,aDk A ∧ A.head? ≠ some (2,[125]) ∧ A ≠ []) → T.map kt = As.flatten → s.l = T ++ u :: R → kt u = (2,[125]) → l.length + As.length < 200 → s.d = 0 → s.l.length < k → b05 s R (l.length + As.length) (mZ k s l)
 | [],s,T,u,R,l,k,_,hT,hl,hu,_,_,hk=>by
  obtain rfl:T=[]:=by simpa using hT
  obtain ⟨k,rfl⟩:∃ m,k=m+1:=⟨k - 1,by omega⟩
  have e:=a15 (g:=[125]) (s:=s) hl hu
  unfold mZ
  simp only [e.1,if_true]
  exact ⟨rfl,e.2,rfl,rfl,rfl,rfl,rfl⟩
 | A::As,s,T,u,R,l,k,hA,hT,hl,hu,hm,hd,hk=>by
  obtain ⟨h1,h2,h3⟩:=hA A (List.mem_cons_self ..)
  rw [List.flatten_cons] at hT
  obtain ⟨T1,T2,rfl,g1,g2⟩:=n7 hT
  obtain ⟨k,rfl⟩:∃ m,k=m+1:=⟨k - 1,by omega⟩
  simp only [List.length_cons] at hm
  have hne:T1≠[]:=by rintro rfl; exact h3 (by simpa using g1.symm)
  have e:=a3k (g:=[125]) (s:=s) (by
   rw [hl]
   cases T1 with
   | nil=>exact absurd rfl hne
   | cons a r =>
    refine jX fun e=>h2 ?_
    rw [← g1,List.map_cons,e]; rfl)
  have hr:=h1 s T1 (T2++u::R) l g1 (by rw [hl,List.append_assoc]) (by omega) hd
  unfold mZ
  simp only [e,Bool.false_eq_true,if_false]
  generalize eV s l=r at *
  obtain ⟨b,s1,l1⟩:=r
  obtain ⟨f1,f2,f3,f4,f5,f6,f7⟩:=hr
  simp only at f1 f2 f3 f4 f5 f6 f7
  subst f1
  simp only [if_true]
  have hlen:s1.l.length < k:=by
   rw [f2]
   have:1≤T1.length:=by cases T1 with | nil=>exact absurd rfl hne | cons=>simp
   rw [hl] at hk
   simp only [List.length_append,List.length_cons] at hk ⊢; omega
  have:=aOc As s1 T2 u R l1 k (fun B hB=>hA B (List.mem_cons_of_mem _ hB)) g2 f2 hu (by omega) (by rw [f6]; exact hd) hlen
  refine ⟨this.ok,this.l,this.n.trans f3,this.at_.trans f4,this.e.trans f5,this.d.trans f6,?_⟩
  rw [this.m,f7,List.length_cons]; omega
end Go.Fbs
