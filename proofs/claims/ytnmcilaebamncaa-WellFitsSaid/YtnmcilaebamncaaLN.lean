/- The document's reader: what is made of numbers is read, with the names. -/
import Derived.Test.YtnmcilaebamncaaLM
import Derived.Test.YtnmcilaebamncaaKT
set_option linter.unusedVariables false
set_option linter.unusedSimpArgs false
set_option linter.unusedSectionVars false
set_option maxRecDepth 100000
namespace Go.Fbs
open Go.Proofs
def aE7 (A:List KT):Prop:=(∃ a,yU a=true∧A=[(1,a)])∨∃ a b,yU a=true∧yU b=true∧A=[(1,a),(2,[35]),(1,b)]
theorem aE8 {A:List KT} (hA:aE7 A) {s:cA} {T R:List iH} (hT:T.map kt=A) (hl:dL s=T++R) (hR:noB [35] R):∃ u sb,aLg s=some (u,sb)∧dL u=R∧u.d=s.d:=by
 rcases hA with ⟨a,ha,rfl⟩ | ⟨a,b,ha,hb,rfl⟩
 ·obtain ⟨t,T',rfl,hk,hT⟩:=dF hT
  obtain rfl:T'=[]:=by simpa using hT
  have hn:=pQ (R:=R) hl hk ha
  have hm:gY [35] (aS s)=false:=uI (by rw [hn.2]; exact hR)
  refine ⟨aS s,(a,[],[]),?_,hn.2,rfl⟩
  unfold aLg
  rw [hn.1,Option.bind_some,hm]
  simp
 ·obtain ⟨t,T',rfl,hk,hT⟩:=dF hT
  obtain ⟨u,T',rfl,hk2,hT⟩:=dF hT
  obtain ⟨q,T',rfl,hk3,hT⟩:=dF hT
  obtain rfl:T'=[]:=by simpa using hT
  have hn:=pQ (R:=u::q::R) hl hk ha
  have hm:=nB (g:=[35]) hn.2 hk2
  have hn2:=pQ hm.2 hk3 hb
  refine ⟨_,(a,[],b),?_,hn2.2,rfl⟩
  unfold aLg
  rw [hn.1,Option.bind_some,if_pos hm.1,hn2.1,Option.bind_some]
def a9g (S:List KT):Prop:=∀ s T t R k,T.map kt=S→dL s=T++t::R→kt t=(2,[59])→(dL s).length < k→∃ u l,qJ k s []=some (u,l)∧dL u=R∧u.d=s.d
theorem aE9 {A:List KT} (hA:aE7 A):a9g A:=by
 intro s T t R k hT hl ht hk
 obtain ⟨u,sb,e1,e2,e3⟩:=aE8 hA hT hl (hP (by rw [ht]; simp))
 obtain ⟨k,rfl⟩:∃ m,k=m+1:=⟨k - 1,by omega⟩
 have h1:gY [124] u=false:=uI (by rw [e2]; exact hP (by rw [ht]; simp))
 have h2:=nB (g:=[59]) e2 ht
 refine ⟨aS u,[sb],?_,h2.2,e3⟩
 unfold qJ
 rw [if_neg (by simp),e1,Option.bind_some]
 simp only [h1,Bool.false_eq_true,if_false,h2.1,if_true,List.nil_append]
theorem aFa {A B:List KT} (hA:aE7 A) (hB:aE7 B):a9g (A++(2,[124])::B):=by
 intro s T t R k hT hl ht hk
 obtain ⟨T1,T2,rfl,h1,h2⟩:=mH hT
 obtain ⟨v,T3,rfl,hv,h3⟩:=dF h2
 obtain ⟨u,sb,e1,e2,e3⟩:=aE8 (R:=v::(T3++t::R)) hA h1 (by rw [hl]; simp) (hP (by rw [hv]; simp))
 obtain ⟨k,rfl⟩:∃ m,k=m+1:=⟨k - 1,by omega⟩
 have hy:=nB (g:=[124]) e2 hv
 obtain ⟨u2,sb2,f1,f2,f3⟩:=aE8 hB h3 hy.2 (hP (by rw [ht]; simp))
 have hlen:(dL s).length=T1.length+(1+(T3.length+(1+R.length))):=by rw [hl]; simp; omega
 obtain ⟨k,rfl⟩:∃ m,k=m+1:=⟨k - 1,by omega⟩
 have h4:gY [124] u2=false:=uI (by rw [f2]; exact hP (by rw [ht]; simp))
 have h5:=nB (g:=[59]) f2 ht
 refine ⟨aS u2,[sb,sb2],?_,h5.2,f3.trans e3⟩
 unfold qJ
 rw [if_neg (by simp),e1,Option.bind_some]
 simp only [hy.1,if_true]
 unfold qJ
 rw [if_neg (by simp),f1,Option.bind_some]
 simp only [h4,Bool.false_eq_true,if_false,h5.1,if_true,List.nil_append,List.singleton_append]
theorem aMw (n:Int):aE7 (fV (a04 n)):=by
 have h:=aBj n
 generalize a04 n=w at h
 simp only [aBb,List.mem_cons,List.not_mem_nil,or_false] at h
 rcases h with rfl | rfl | rfl | rfl | rfl | rfl | rfl | rfl | rfl | rfl
 ·exact .inl ⟨[117],by kernel_rfl,by kernel_rfl⟩
 ·exact .inl ⟨[117],by kernel_rfl,by kernel_rfl⟩
 ·exact .inr ⟨[97],[114],by kernel_rfl,by kernel_rfl,by kernel_rfl⟩
 ·exact .inr ⟨[98],[114],by kernel_rfl,by kernel_rfl,by kernel_rfl⟩
 ·exact .inr ⟨[97],[115],by kernel_rfl,by kernel_rfl,by kernel_rfl⟩
 ·exact .inr ⟨[98],[112],by kernel_rfl,by kernel_rfl,by kernel_rfl⟩
 ·exact .inl ⟨[97],by kernel_rfl,by kernel_rfl⟩
 ·exact .inl ⟨[98],by kernel_rfl,by kernel_rfl⟩
 ·exact .inl ⟨[117],by kernel_rfl,by kernel_rfl⟩
 ·exact .inr ⟨[97],[113],by kernel_rfl,by kernel_rfl,by kernel_rfl⟩
theorem b2o (n:Int):a9g (aGf n):=by
 unfold aGf
 by_cases hb:a6a n 8=true
 ·rw [if_pos hb]; exact aFa (aMw n) (aMw _)
 ·rw [if_neg hb,List.append_nil]; exact aE9 (aMw n)
theorem b2p (n:Int):a9g (fV (sT n)):=by
 have h:=b2a n
 generalize sT n=w at h
 simp only [ssT,List.mem_cons,List.not_mem_nil,or_false] at h
 rcases h with rfl | rfl | rfl | rfl
 ·exact aE9 (.inl ⟨[97],by kernel_rfl,by kernel_rfl⟩)
 ·exact aE9 (.inl ⟨[98],by kernel_rfl,by kernel_rfl⟩)
 ·exact aFa (A:=[(1,[97])]) (B:=[(1,[98])]) (.inl ⟨[97],by kernel_rfl,rfl⟩) (.inl ⟨[98],by kernel_rfl,rfl⟩)
 ·exact aFa (A:=[(1,[117])]) (B:=[(1,[97])]) (.inl ⟨[117],by kernel_rfl,rfl⟩) (.inl ⟨[97],by kernel_rfl,rfl⟩)
def a9h (q:List UInt8×List KT):Prop:=∀ s T R,T.map kt=q.2→dL s=T++R→s.d=0→∃ u r,vN s=some (u,r)∧r.1=q.1∧dL u=R∧u.d=0
theorem aN7 {nm:List UInt8} {S:List KT} (hn:yU nm=true) (hS:a9g S):a9h (nm,[(1,nm),(2,[58])]++S++[(2,[59])]):=by
 intro s T R hT hl hd
 obtain ⟨T',T3,rfl,hT,h3⟩:=mH hT
 obtain ⟨t,T',rfl,hk1,hT⟩:=dF hT
 obtain ⟨u,T2,rfl,hk2,h2⟩:=dF hT
 obtain ⟨v,T4,rfl,hk3,h4⟩:=dF h3
 obtain rfl:T4=[]:=by simpa using h4
 have hl:dL s=t::(u::(T2++v::R)):=by rw [hl]; simp
 have e1:=pQ (R:=u::(T2++v::R)) hl hk1 hn
 have e2:gY [61] (aS s)=false:=uI (by rw [e1.2]; exact hP (by rw [hk2]; simp))
 have e3:=nB (g:=[58]) e1.2 hk2
 obtain ⟨w,l,f1,f2,f3⟩:=hS (aS (aS s)) T2 v R (s.l.length+1) h2 e3.2 hk3 (Nat.lt_succ_of_le (aBq (aS (aS s))))
 refine ⟨w,(nm,l,[]),?_,rfl,f2,f3.trans hd⟩
 unfold vN
 rw [e1.1,Option.bind_some,e2]
 simp only [Bool.false_eq_true,if_false,e3.1,if_true]
 rw [f1,Option.bind_some]
theorem aN8 {nm:List UInt8} {S:List KT} (hn:yU nm=true) (hS:a7i 21 0 S) (hS2:S.length≤200):a9h (nm,[(1,nm),(2,[61])]++S++[(2,[59])]):=by
 intro s T R hT hl hd
 obtain ⟨T',T3,rfl,hT,h3⟩:=mH hT
 obtain ⟨t,T',rfl,hk1,hT⟩:=dF hT
 obtain ⟨u,T2,rfl,hk2,h2⟩:=dF hT
 obtain ⟨v,T4,rfl,hk3,h4⟩:=dF h3
 obtain rfl:T4=[]:=by simpa using h4
 have hl:dL s=t::(u::(T2++v::R)):=by rw [hl]; simp
 have e1:=pQ (R:=u::(T2++v::R)) hl hk1 hn
 have e2:=nB (g:=[61]) e1.2 hk2
 have hno:NoS (v::R):=by
  refine ⟨⟨hP ?_,hP ?_⟩,hP ?_,hP ?_⟩ <;> rw [hk3] <;> simp
 obtain ⟨w,f1,f2,f3,f4⟩:=(hS { aS (aS s) with o:=[] } T2 (v::R) h2 e2.2 hno (by show 0+S.length≤200; omega) hd).ex
 have f3':w.d=s.d:=f3
 have e4:=nB (g:=[59]) f2 hk3
 refine ⟨aS w,(nm,[],w.o),?_,rfl,e4.2,by show w.d=0; omega⟩
 unfold vN
 rw [e1.1,Option.bind_some,if_pos e2.1]
 have f1':zX { aS (aS s) with o:=[] } = some w:=f1
 rw [f1',Option.bind_some,if_pos e4.1]
theorem aN9 : ∀ (As : List (List UInt8 × List KT)) (s : cA) (T : List iH) (u : iH) (R : List iH) (l : List Rel) (k : Nat),(∀ A ∈ As,a9h A ∧ A.2.head? ≠ some (2,[125]) ∧ A.2 ≠ []) → T.map kt = (As.map (·.2)).flatten → dL s = T ++ u :: R → kt u = (2,[125]) → l.length + As.length < 200 → s.d = 0 → (dL s).length < k →
  ∃ v l',rK k s l=some (v,l')∧l'.map (·.1)=l.map (·.1)++As.map (·.1)∧dL v=R∧v.d=0
 | [],s,T,u,R,l,k,_,hT,hl,hu,_,hd,hk=>by
  obtain rfl:T=[]:=by simpa using hT
  obtain ⟨k,rfl⟩:∃ m,k=m+1:=⟨k - 1,by omega⟩
  have e:=nB (g:=[125]) (s:=s) hl hu
  refine ⟨aS s,l,?_,by simp,e.2,hd⟩
  unfold rK
  rw [if_pos e.1]
 | A::As,s,T,u,R,l,k,hA,hT,hl,hu,hm,hd,hk=>by
  obtain ⟨h1,h2,h3⟩:=hA A (List.mem_cons_self ..)
  rw [List.map_cons,List.flatten_cons] at hT
  obtain ⟨T1,T2,rfl,g1,g2⟩:=mH hT
  obtain ⟨k,rfl⟩:∃ m,k=m+1:=⟨k - 1,by omega⟩
  simp only [zwx] at hm
  have hne:T1≠[]:=by rintro rfl; exact h3 (by simpa using g1.symm)
  have e:gY [125] s=false:=uI (by
   rw [hl]
   cases T1 with
   | nil=>exact absurd rfl hne
   | cons a r =>
    refine hP fun e=>h2 ?_
    rw [← g1,List.map_cons,e]; rfl)
  obtain ⟨s1,r1,f1,f2,f3,f4⟩:=h1 s T1 (T2++u::R) g1 (by rw [hl,List.append_assoc]) hd
  have hlen:(dL s1).length < k:=by
   rw [f3]
   have:1≤T1.length:=by cases T1 with | nil=>exact absurd rfl hne | cons=>simp
   rw [hl] at hk
   simp only [zwy,zwx] at hk ⊢; omega
  obtain ⟨v,l',q1,q2,q3,q4⟩:=aN9 As s1 T2 u R (l++[r1]) k (fun B hB=>hA B (List.mem_cons_of_mem _ hB)) g2 f3 hu (by simp only [zwy,List.length_singleton]; omega) f4 hlen
  refine ⟨v,l',?_,?_,q3,q4⟩
  ·unfold rK
   rw [e]
   simp only [Bool.false_eq_true,if_false]
   rw [if_neg (by omega),f1,Option.bind_some]
   exact q1
  ·rw [q2,List.map_append,List.map_cons,List.map_nil,f2,List.map_cons,List.append_assoc]; rfl
theorem aOa {s:cA} {t:iH} {R:List iH} (h:dL s=t::R) (hk:kt t=(1,[116,121,112,101])):aPd s=true∧dL (aS s)=R:=by
 obtain ⟨h1,h2⟩:=a9f h
 refine ⟨?_,h2⟩
 unfold aPd
 rw [h1]
 simp only [kt,zvy] at hk
 simp [hk.1,hk.2]
theorem b2q {nm:List UInt8} (hn:yU nm=true) {s:cA} {T R:List iH} (hT:T.map kt=[(1,[116,121,112,101]),(1,nm)]) (hl:dL s=T++R) (hR:noB [123] R) (hd:s.d=0):∃ u y,aBp s=some (u,y)∧y.1=nm∧y.2=[]∧dL u=R∧u.d=0:=by
 obtain ⟨t,T',rfl,hk1,hT⟩:=dF hT
 obtain ⟨u,T',rfl,hk2,hT⟩:=dF hT
 obtain rfl:T'=[]:=by simpa using hT
 have hw:=aOa (R:=u::R) hl hk1
 have e1:=pQ (R:=R) hw.2 hk2 hn
 have e2:gY [123] (aS (aS s))=false:=uI (by rw [e1.2]; exact hR)
 refine ⟨aS (aS s),(nm,[]),?_,rfl,rfl,e1.2,hd⟩
 unfold aBp
 rw [if_pos hw.1,e1.1,Option.bind_some,e2]
 simp
theorem aTl {nm : List UInt8} (hn : yU nm = true) {As : List (List UInt8 × List KT)} (hA : ∀ A ∈ As,a9h A ∧ A.2.head? ≠ some (2,[125]) ∧ A.2 ≠ []) (hm : As.length < 200) {s : cA} {T R : List iH}
  (hT:T.map kt=[(1,[116,121,112,101]),(1,nm),(2,[123])]++(As.map (·.2)).flatten++[(2,[125])]) (hl:dL s=T++R) (hd:s.d=0):∃ u y,aBp s=some (u,y)∧y.1=nm∧y.2.map (·.1)=As.map (·.1)∧dL u=R∧u.d=0:=by
 obtain ⟨T',T3,rfl,hT,h3⟩:=mH hT
 obtain ⟨t,T',rfl,hk1,hT⟩:=dF hT
 obtain ⟨u,T',rfl,hk2,hT⟩:=dF hT
 obtain ⟨q,T2,rfl,hk3,h2⟩:=dF hT
 obtain ⟨v,T4,rfl,hk4,h4⟩:=dF h3
 obtain rfl:T4=[]:=by simpa using h4
 have hl:dL s=t::(u::(q::(T2++v::R))):=by rw [hl]; simp
 have hw:=aOa hl hk1
 have e1:=pQ hw.2 hk2 hn
 have e2:=nB (g:=[123]) e1.2 hk3
 obtain ⟨w,l',f1,f2,f3,f4⟩:=aN9 As (aS (aS (aS s))) T2 v R [] (s.l.length+1) hA h2 e2.2 hk4 (by simpa using hm) hd (Nat.lt_succ_of_le (aBq (aS (aS (aS s)))))
 refine ⟨w,(nm,l'),?_,rfl,by simpa using f2,f3,f4⟩
 unfold aBp
 rw [if_pos hw.1,e1.1,Option.bind_some,if_pos e2.1,f1,Option.bind_some]
def a9i (l:List Int) (i:Nat):List (List UInt8×List KT) :=
 [([114],[(1,[114]),(2,[58])]++aGf (jE l (3*i))++[(2,[59])]),([115],[(1,[115]),(2,[58])]++fV (sT (jE l (3*i)))++[(2,[59])]),([112],a2o 0 (jE l (3*i+1))),([113],a2o 1 (jE l (3*i+2)))]
theorem aTm (l : List Int) (i : Nat) : ∀ A ∈ a9i l i,a9h A ∧ A.2.head? ≠ some (2,[125]) ∧ A.2 ≠ []:=by
 intro A hA
 simp only [a9i,List.mem_cons,List.not_mem_nil,or_false] at hA
 rcases hA with rfl | rfl | rfl | rfl
 ·exact ⟨aN7 (by kernel_rfl) (b2o _),by simp,by simp⟩
 ·exact ⟨aN7 (by kernel_rfl) (b2p _),by simp,by simp⟩
 ·exact ⟨aN8 (nm:=[112]) (by kernel_rfl) (aN6 _) (aWi _),by simp [a2o],by simp [a2o]⟩
 ·exact ⟨aN8 (nm:=[113]) (by kernel_rfl) (aN6 _) (aWi _),by simp [a2o],by simp [a2o]⟩
theorem b2r (l:List Int) (i:Nat):aGg l i=[(1,[116,121,112,101]),(1,abT.getD i []),(2,[123])]++((a9i l i).map (·.2)).flatten++[(2,[125])]:=by
 simp only [aGg,a9i,List.map_cons,List.map_nil,List.flatten_cons,List.flatten_nil,List.append_assoc,List.cons_append,List.nil_append,List.append_nil]
theorem aTn {l:List UInt8} (h:l.length≤100000):kU l=match (mJ 0 l).2 with | some k=>([],k,7) | none=>((mJ 0 l).1,0,0):=by
 unfold kU
 rw [if_neg (by omega)]
 have e:qO l.length (dR false l) (l.drop (dR false l))=mJ 0 l:=by unfold mJ; rw [Nat.zero_add]
 simp only [e]
 cases (mJ 0 l).2 <;> rfl
theorem aZy (l:List Int):∃ x y z:j0,kM (a07 l)=some [x,y,z]∧x.1=[117]∧x.2=[]∧y.1=[97]∧y.2.map (·.1)=[[114],[115],[112],[113]]∧z.1=[98]∧z.2.map (·.1)=[[114],[115],[112],[113]]:=by
 have hlen:(a07 l).length≤100000:=by have:=aK9 l 2; unfold a07; omega
 have hm:=b90 l
 have htk:=aTn hlen
 rw [hm.ok 0] at htk
 unfold kM
 rw [htk]
 rw [if_pos rfl]
 generalize hT0:(mJ 0 (a07 l)).1=T0
 have hT:T0.map kt=aZo l:=by rw [← hT0]; exact hm.kd 0
 generalize hs0:(⟨T0,0,(a07 l).length,0,[]⟩:cA)=s
 have hr:dL s=T0:=by rw [← hs0]; rfl
 have hd:s.d=0:=by rw [← hs0]
 have hsl:s.l=T0:=by rw [← hs0]
 have hi:s.i=0:=by rw [← hs0]
 unfold aZo at hT
 obtain ⟨T',T3,rfl,hT,h3⟩:=mH hT
 obtain ⟨T1,T2,rfl,h1,h2⟩:=mH hT
 rw [b2r] at h2 h3
 have n1:T1.length=2:=by rw [← List.length_map (f:=kt),h1]; rfl
 have n2:1≤T2.length:=by rw [← List.length_map (f:=kt),h2]; simp
 have n3:1≤T3.length:=by rw [← List.length_map (f:=kt),h3]; simp
 have restpos:∀ {u:cA} {R:List iH},dL u=R→1≤R.length→u.i < u.l.length:=fun {u R} h1 h2=>by
  rw [← h1] at h2; unfold dL at h2; rw [List.length_drop] at h2; omega
 obtain ⟨u1,x,e1,e2,e3,e4,e5⟩:=b2q (nm:=[117]) (by kernel_rfl) (s:=s) (T:=T1) (R:=T2++(T3++[])) h1 (by rw [hr]; simp) (b92 (by rw [h2]; rfl)) hd
 obtain ⟨u2,y,f1,f2,f3,f4,f5⟩:=aTl (nm:=[97]) (by kernel_rfl) (aTm l 0) (by simp [a9i]) (s:=u1) (T:=T2) (R:=T3++[]) h2 e4 e5
 obtain ⟨u3,z,g1,g2,g3,g4,g5⟩:=aTl (nm:=[98]) (by kernel_rfl) (aTm l 1) (by simp [a9i]) (s:=u2) (T:=T3) (R:=[]) h3 f4 f5
 have k3:¬ u3.i < u3.l.length:=by
  unfold dL at g4
  have:=congrArg List.length g4
  rw [List.length_drop,List.length_nil] at this
  omega
 have hn:(T1++T2++T3).length+1=(T1.length+T2.length+T3.length - 4)+1+1+1+1+1:=by
  simp only [zwy]; omega
 refine ⟨x,y,z,?_,e2,e3,f2,f3,g2,g3⟩
 rw [hn]
 unfold qU
 rw [if_pos (by rw [hsl,hi]; simp only [zwy]; omega),if_neg (by simp),e1,Option.bind_some]
 simp only
 unfold qU
 rw [if_pos (restpos e4 (by simp only [zwy]; omega)),if_neg (by simp),f1,Option.bind_some]
 simp only
 unfold qU
 rw [if_pos (restpos f4 (by simp only [zwy]; omega)),if_neg (by simp),g1,Option.bind_some]
 simp only
 unfold qU
 rw [if_neg k3]
 rfl
end Go.Fbs
