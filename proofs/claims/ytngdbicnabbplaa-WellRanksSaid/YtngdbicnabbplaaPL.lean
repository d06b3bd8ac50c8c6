import Derived.Test.YtngdbicnabbplaaPJ
import Derived.Test.YtngdbicnabbplaaPK
import Derived.Test.YtngdbicnabbplaaPH
set_option linter.unusedSimpArgs false
set_option linter.unusedVariables false
set_option linter.unusedSectionVars false
set_option maxRecDepth 100000
namespace Go.Fbs
open Go.Proofs
attribute [local irreducible] pT bK
theorem bDp {s:aW} {t:gZ} {R:List gZ} {nm:List UInt8} {l:List Rel} (hl:s.l=t::R) (hk:kt t=(1,nm)) (hn:p9 nm=true) (hm:l.length < 200) (h:(cP s l).1=true):∃ x,(cP s l).2.2=l++[x]∧x.1=nm:=by
 have e1:=rE hl hk hn
 unfold cP at h ⊢
 simp only [zR (show (l.length:Int) < 200 by omega),if_true,e1.1,Option.getD_some] at h ⊢
 split at h
 ·rename_i h1
  rw [if_pos h1]
  split at h
  ·rename_i h2
   rw [if_pos h2]
   exact ⟨_,rfl,rfl⟩
  ·cases h
 ·rename_i h1
  rw [if_neg h1]
  split at h
  ·rename_i h2
   rw [if_pos h2]
   split at h
   ·rename_i h3
    rw [if_pos h3]
    exact ⟨_,rfl,rfl⟩
   ·cases h
  ·cases h
theorem aRp : ∀ (As : List (List KT × List UInt8)) (s : aW) (T : List gZ) (u : gZ) (R : List gZ) (l : List Rel) (k : Nat),(∀ A ∈ As,a8o A.1 ∧ A.1.head? = some (1,A.2) ∧ p9 A.2 = true) → T.map kt = (As.map (·.1)).flatten → s.l = T ++ u :: R → kt u = (2,[125]) → l.length + As.length < 200 → s.d = 0 → s.l.length < k →
  (jF k s l).2.2.map (·.1)=l.map (·.1)++As.map (·.2)
 | [],s,T,u,R,l,k,_,hT,hl,hu,_,_,hk=>by
  obtain rfl:T=[]:=by simpa using hT
  obtain ⟨k,rfl⟩:∃ m,k=m+1:=⟨k - 1,by omega⟩
  have e:=a2k (g:=[125]) (s:=s) hl hu
  unfold jF
  simp only [e.1,if_true]
  simp
 | A::As,s,T,u,R,l,k,hA,hT,hl,hu,hm,hd,hk=>by
  obtain ⟨h1,h2,h3⟩:=hA A (List.mem_cons_self ..)
  rw [zsx,List.flatten_cons] at hT
  obtain ⟨T1,T2,rfl,g1,g2⟩:=oQ hT
  obtain ⟨k,rfl⟩:∃ m,k=m+1:=⟨k - 1,by omega⟩
  simp only [zwx] at hm
  obtain ⟨t1,T1',rfl⟩:∃ t1 T1',T1=t1::T1':=by
   cases T1 with
   | nil=>rw [← g1] at h2; cases h2
   | cons a r=>exact ⟨a,r,rfl⟩
  have hkt:kt t1=(1,A.2):=by rw [← g1] at h2; simpa using h2
  have e:=a3w (g:=[125]) (s:=s) (by
   rw [hl]
   exact lH (by rw [hkt]; simp))
  have hr:=h1 s (t1::T1') (T2++u::R) l g1 (by rw [hl,zty]) (by omega) hd
  have hnm:=bDp (s:=s) (t:=t1) (R:=T1'++(T2++u::R)) (nm:=A.2) (l:=l) (by rw [hl]; simp) hkt h3 (by omega)
  unfold jF
  simp only [e,zuy,if_false]
  generalize cP s l=r at *
  obtain ⟨b,s1,l1⟩:=r
  obtain ⟨f1,f2,f3,f4,f5,f6,f7⟩:=hr
  simp only at f1 f2 f3 f4 f5 f6 f7 hnm
  subst f1
  obtain ⟨x,hx1,hx2⟩:=hnm rfl
  subst hx1
  simp only [if_true]
  have hlen:s1.l.length < k:=by
   rw [f2]
   rw [hl] at hk
   simp only [zwy,zwx] at hk ⊢; omega
  rw [aRp As s1 T2 u R (l++[x]) k (fun B hB=>hA B (List.mem_cons_of_mem _ hB)) g2 f2 hu (by simp; omega) (by rw [f6]; exact hd) hlen]
  rw [List.map_append,zty,zsx,zsx,hx2]
  rfl
theorem bAg {nm:List UInt8} (hn:p9 nm=true) {n:Int} (h200:n < 200) {s:aW} {T R:List gZ} (hT:T.map kt=[(1,[116,121,112,101]),(1,nm)]) (hl:s.l=T++R) (hR:noB [123] R):(lE n s).2.2=(nm,[]):=by
 obtain ⟨t,T',rfl,hk1,hT⟩:=eP hT
 obtain ⟨u,T',rfl,hk2,hT⟩:=eP hT
 obtain rfl:T'=[]:=by simpa using hT
 have hw:=aHq (R:=u::R) hl hk1
 have e1:=rE (R:=R) hw.2 hk2 hn
 have e2:=a3w (g:=[123]) (s:=aI (aI s)) (by rw [e1.2]; exact hR)
 unfold lE
 simp only [zR h200,if_true,hw.1,e1.1,e2,zuy,if_false]
 rfl
theorem aZv {nm : List UInt8} (hn : p9 nm = true) {n : Int} (h200 : n < 200) {As : List (List KT × List UInt8)} (hA : ∀ A ∈ As,a8o A.1 ∧ A.1.head? = some (1,A.2) ∧ p9 A.2 = true) (hm : As.length < 200) {s : aW} {T R : List gZ}
  (hT:T.map kt=[(1,[116,121,112,101]),(1,nm),(2,[123])]++(As.map (·.1)).flatten++[(2,[125])]) (hl:s.l=T++R) (hd:s.d=0):(lE n s).2.2.1=nm∧(lE n s).2.2.2.map (·.1)=As.map (·.2):=by
 obtain ⟨T',T3,rfl,hT,h3⟩:=oQ hT
 obtain ⟨t,T',rfl,hk1,hT⟩:=eP hT
 obtain ⟨u,T',rfl,hk2,hT⟩:=eP hT
 obtain ⟨q,T2,rfl,hk3,h2⟩:=eP hT
 obtain ⟨v,T4,rfl,hk4,h4⟩:=eP h3
 obtain rfl:T4=[]:=by simpa using h4
 have hl:s.l=t::(u::(q::(T2++v::R))):=by rw [hl]; simp
 have hw:=aHq hl hk1
 have e1:=rE hw.2 hk2 hn
 have e2:=a2k (g:=[123]) (s:=aI (aI s)) e1.2 hk3
 have e3:=aRp As (aI (aI (aI s))) T2 v R [] ((aI (aI (aI s))).l.length+1) hA h2 e2.2 hk4 (by simpa using hm) hd (Nat.lt_succ_self _)
 unfold lE
 simp only [zR h200,if_true,hw.1,e1.1,e2.1]
 exact ⟨rfl,e3⟩
end Go.Fbs
namespace Go.Fbs
open Go.Proofs
attribute [local irreducible] pT bK cP
theorem aZw {l:List UInt8} (h:l.length≤100000):dN l=match (pF 0 l).2 with | some k=>([],k,7) | none=>((pF 0 l).1,0,0):=by
 unfold dN
 rw [if_neg (by omega)]
 have e:kG l.length (cV false l) (l.drop (cV false l))=pF 0 l:=by unfold pF; rw [Nat.zero_add]
 simp only [e]
 cases (pF 0 l).2 <;> rfl
theorem aHs {s:aW} {R:List gZ} {ts:List gI} {k:Nat} (h:bDk s R (lE ts.length s)) (hne:s.l≠[]) (hk:s.l.length < k) (hlt:R.length < s.l.length) :
  ∃ t,iX k s ts=iX (t.l.length+1) t (ts++[(lE ts.length s).2.2])∧Far s t R:=by
 obtain ⟨k,rfl⟩:∃ m,k=m+1:=⟨k - 1,by omega⟩
 conv=>enter [1,t,1]; lhs; unfold iX
 rw [if_neg hne]
 generalize lE ts.length s=r at *
 obtain ⟨b,s1,x⟩:=r
 obtain ⟨g1,g2,g3,g4,g5,g6⟩:=h
 simp only at g1 g2 g3 g4 g5 g6
 subst g1
 simp only [if_true]
 exact ⟨s1,a61 s1.l.length _ _ _ _ (zxy _) (by rw [g2]; omega) (Nat.lt_succ_self _),⟨g2,g3,g4,g5,g6⟩⟩
def rs4:List (List UInt8):=[[114],[115],[112],[113]]
def aZx (l:List Int) (i:Nat):List (List KT×List UInt8):=(a7r l i).zip rs4
theorem aUr (l : List Int) (i : Nat) : ∀ A ∈ aZx l i,a8o A.1 ∧ A.1.head? = some (1,A.2) ∧ p9 A.2 = true:=by
 intro A hA
 have hA:A ∈ [([(1,[114]),(2,[58])]++aHn (lP l (3*i))++[(2,[59])],[114]),([(1,[115]),(2,[58])]++jB (sT (lP l (3*i)))++[(2,[59])],[115]),(a30 0 (lP l (3*i+1)),[112]),(a30 1 (lP l (3*i+2)),[113])]:=hA
 have hr:=aS8 l i
 simp only [a7r,List.mem_cons,List.not_mem_nil,or_false] at hA hr
 rcases hA with rfl | rfl | rfl | rfl
 ·exact ⟨(hr _ (.inl rfl)).1,rfl,by kernel_rfl⟩
 ·exact ⟨(hr _ (.inr (.inl rfl))).1,rfl,by kernel_rfl⟩
 ·exact ⟨(hr _ (.inr (.inr (.inl rfl)))).1,rfl,by kernel_rfl⟩
 ·exact ⟨(hr _ (.inr (.inr (.inr rfl)))).1,rfl,by kernel_rfl⟩
theorem b6n (l:List Int):∃ x y z:gI,pK (rO l)=([x,y,z],0,0)∧x=([117],[])∧y.1=[97]∧y.2.map (·.1)=rs4∧z.1=[98]∧z.2.map (·.1)=rs4:=by
 have hlen:(rO l).length≤100000:=by have:=aQ9 l 2; unfold rO; omega
 have hm:=bG8 l
 have htk:=aZw hlen
 rw [hm.ok 0] at htk
 simp only at htk
 have hkd:=hm.kd 0
 unfold pK
 have h2:(dN (rO l)).2.2=0:=by rw [htk]
 have h1:(dN (rO l)).1=(pF 0 (rO l)).1:=by rw [htk]
 rw [if_neg (by rw [h2]; simp)]
 generalize (pF 0 (rO l)).1=T0 at hkd h1
 have hs:(qW (rO l)).l=T0++[]:=by rw [List.append_nil]; exact h1
 have hl1:(dN (rO l)).1.length+1=(qW (rO l)).l.length+1:=rfl
 rw [hl1]
 have hd:(qW (rO l)).d=0:=rfl
 have he:(qW (rO l)).e=0:=rfl
 have ha:(qW (rO l)).at_=0:=rfl
 generalize qW (rO l)=s at *
 have hT:=hkd
 unfold bE0 at hT
 obtain ⟨T',T3,rfl,hT,h3⟩:=oQ hT
 obtain ⟨T1,T2,rfl,h1',h2'⟩:=oQ hT
 have n1:T1.length=2:=by rw [← zsy (f:=kt),h1']; rfl
 rw [bDm] at h2' h3
 have n2:1≤T2.length:=by rw [← zsy (f:=kt),h2']; simp
 have n3:1≤T3.length:=by rw [← zsy (f:=kt),h3]; simp
 have q1:=bDl (nm:=[117]) (by kernel_rfl) (n:=([]:List gI).length) (by simp) (s:=s) (T:=T1) (R:=T2++(T3++[])) h1' (by rw [hs]; simp only [zty]) (b3c (by rw [h2']; rfl))
 have x1:=bAg (nm:=[117]) (by kernel_rfl) (n:=([]:List gI).length) (by simp) (s:=s) (T:=T1) (R:=T2++(T3++[])) h1' (by rw [hs]; simp only [zty]) (b3c (by rw [h2']; rfl))
 obtain ⟨t1,e1,f1⟩:=aHs (k:=s.l.length+1) (ts:=[]) q1 (by rw [hs]; intro h; have:=congrArg List.length h; simp only [zwy,List.length_nil] at this; omega) (Nat.lt_succ_self _) (by rw [hs]; simp only [zwy]; omega)
 generalize (lE ([]:List gI).length s).2.2=x at e1 x1
 have q2:=b3a (nm:=[97]) (by kernel_rfl) (n:=([x]:List gI).length) (by simp) (aS8 l 0) (by simp [a7r]) (s:=t1) (T:=T2) (R:=T3++[]) h2' f1.l (by rw [f1.d]; exact hd)
 have x2:=aZv (nm:=[97]) (by kernel_rfl) (n:=([x]:List gI).length) (by simp) (aUr l 0) (by simp [aZx,a7r,rs4]) (s:=t1) (T:=T2) (R:=T3++[]) h2' f1.l (by rw [f1.d]; exact hd)
 obtain ⟨t2,e2,f2⟩:=aHs (k:=t1.l.length+1) (ts:=[x]) q2 (by rw [f1.l]; intro h; have:=congrArg List.length h; simp only [zwy,List.length_nil] at this; omega) (Nat.lt_succ_self _) (by rw [f1.l]; simp only [zwy]; omega)
 generalize (lE ([x]:List gI).length t1).2.2=y at e2 x2
 have q3:=b3a (nm:=[98]) (by kernel_rfl) (n:=([x,y]:List gI).length) (by simp) (aS8 l 1) (by simp [a7r]) (s:=t2) (T:=T3) (R:=[]) h3 f2.l (by rw [f2.d,f1.d]; exact hd)
 have x3:=aZv (nm:=[98]) (by kernel_rfl) (n:=([x,y]:List gI).length) (by simp) (aUr l 1) (by simp [aZx,a7r,rs4]) (s:=t2) (T:=T3) (R:=[]) h3 f2.l (by rw [f2.d,f1.d]; exact hd)
 obtain ⟨t3,e3,f3⟩:=aHs (k:=t2.l.length+1) (ts:=[x,y]) q3 (by rw [f2.l]; intro h; have:=congrArg List.length h; simp only [zwy,List.length_nil] at this; omega) (Nat.lt_succ_self _) (by rw [f2.l]; simp only [zwy]; omega)
 generalize (lE ([x,y]:List gI).length t2).2.2=z at e3 x3
 have e4:iX (t3.l.length+1) t3 [x,y,z]=(true,t3,[x,y,z]):=by
  unfold iX
  rw [if_pos f3.l]
 refine ⟨x,y,z,?_,x1,x2.1,x2.2,x3.1,x3.2⟩
 have e5:iX (s.l.length+1) s []=(true,t3,[x,y,z]):=(e1.trans (e2.trans e3)).trans e4
 rw [e5]
 rfl
end Go.Fbs
namespace Go.Fbs
open Go.Proofs
variable {l:List TM} {typ:B8}
def wT (l:List TM) (typ:B8):Tr→List Wy
 | .nm a=>nQ l typ (1,a,[])
 | .ar a b=>nQ l typ (2,a,b)
 | .op k x y=>wT l typ x++oP (decide (k=4)) (wT l typ y)
theorem aHt:∀ {t:Tr} {st:List (List Wy)},t.ok→t.steps.foldl (tO l typ) st=wT l typ t::st
 | .nm a,st,_=>by
  show tO l typ st (1,a,[])=_
  unfold tO
  rw [if_pos (.inl rfl)]
  rfl
 | .ar a b,st,_=>by
  show tO l typ st (2,a,b)=_
  unfold tO
  rw [if_pos (.inr rfl)]
  rfl
 | .op k x y,st,⟨hk,hx,hy⟩=>by
  show (x.steps++(y.steps++[(k,[],[])])).foldl (tO l typ) st=_
  rw [List.foldl_append,aHt hx,List.foldl_append,aHt hy]
  show tO l typ (wT l typ y::wT l typ x::st) (k,[],[])=_
  unfold tO
  rw [if_neg (by show ¬ (k=1∨k=2); omega)]
  rfl
theorem b6o {t:Tr} (h:t.ok):nJ l typ t.steps=wT l typ t:=by
 unfold nJ sV
 rw [aHt h]
 rfl
def lvs:Tr→Bool→List (dQ×Bool)
 | .nm a,b=>[((1,a,[]),b)]
 | .ar a c,b=>[((2,a,c),b)]
 | .op k x y,b=>lvs x b++lvs y (b || decide (k=4))
theorem bDq (b:Bool) (x y:List Wy):oP b (x++y)=oP b x++oP b y:=by unfold oP; split <;> simp
theorem bAi (b c:Bool) (x:List Wy):oP b (oP c x)=oP (b || c) x:=by cases b <;> cases c <;> simp [oP]
theorem aZy:∀ (t:Tr) (b:Bool),oP b (wT l typ t)=(lvs t b).flatMap fun p=>oP p.2 (nQ l typ p.1)
 | .nm a,b=>by simp [wT,lvs]
 | .ar a c,b=>by simp [wT,lvs]
 | .op k x y,b=>by
  show oP b (wT l typ x++oP _ (wT l typ y))=(lvs x b++lvs y _).flatMap _
  rw [bDq,bAi,List.flatMap_append,aZy x,aZy y]
theorem bAj {t:Tr} (h:t.ok):nJ l typ t.steps=(lvs t false).flatMap fun p=>oP p.2 (nQ l typ p.1):=by
 rw [b6o h,← aZy]
 rfl
def Told (f:Nat→Bool):Tr→Bool→Nat→Prop
 | .nm _,b,o=>f o=b
 | .ar _ _,b,o=>f o=b
 | .op k x y,b,o=>Told f x b o∧Told f y (b || decide (k=4)) (o+x.steps.length)
theorem b3g (xs ys:List dQ) (o:Nat):(xs++ys).zipIdx o=xs.zipIdx o++ys.zipIdx (o+xs.length):=List.zipIdx_append ..
theorem aHu {f:Nat→Bool} : ∀ {t:Tr} {b:Bool} {o:Nat},t.ok→Told f t b o→(t.steps.zipIdx o).flatMap (fun p=>rN l typ p.1 (f p.2))=(lvs t b).flatMap fun p=>rN l typ p.1 p.2
 | .nm a,b,o,_,h=>by
  have h:f o=b:=h
  simp [Tr.steps,lvs,h]
 | .ar a c,b,o,_,h=>by
  have h:f o=b:=h
  simp [Tr.steps,lvs,h]
 | .op k x y,b,o,⟨hk,hx,hy⟩,⟨h1,h2⟩=>by
  show ((x.steps++(y.steps++[(k,[],[])])).zipIdx o).flatMap _=(lvs x b++lvs y _).flatMap _
  rw [b3g,b3g,List.flatMap_append,List.flatMap_append,List.flatMap_append,aHu hx h1,aHu hy h2]
  have e:rN l typ (k,[],[]) (f (o+x.steps.length+y.steps.length))=[]:=by
   unfold rN
   rw [if_neg (by show ¬ k=1; omega),if_neg (by show ¬ k=2; omega)]
  simp [e]
def bgT:Tr→Nat→Nat
 | .nm _,_=>0
 | .ar _ _,_=>0
 | .op _ x y,i=>if i < x.steps.length then bgT x i else if i < x.steps.length+y.steps.length then x.steps.length+bgT y (i - x.steps.length) else x.steps.length
theorem aPk : ∀ {t : Tr} {i : Nat} {x : dQ},t.ok → t.steps[i]? = some x → x.1 ≠ 1 → x.1 ≠ 2 → ∃ (pre post : List dQ) (y : Tr),t.steps = pre ++ y.steps ++ post ∧ pre.length = bgT t i ∧ pre.length + y.steps.length = i ∧ y.ok
 | .nm a,i,x,_,h,h1,_=>by
  have:x=(1,a,[]):=by
   have:=zyx h
   simpa [Tr.steps] using this
  subst this
  exact absurd rfl h1
 | .ar a c,i,x,_,h,_,h2=>by
  have:x=(2,a,c):=by
   have:=zyx h
   simpa [Tr.steps] using this
  subst this
  exact absurd rfl h2
 | .op k t u,i,x,⟨hk,ht,hu⟩,h,h1,h2=>by
  have h : (t.steps ++ (u.steps ++ [(k,[],[])]))[i]? = some x:=h
  unfold bgT
  show ∃ pre post y,t.steps++(u.steps++[(k,[],[])])=_∧_
  by_cases hi:i < t.steps.length
  ·rw [if_pos hi]
   rw [ztz hi] at h
   obtain ⟨pre,post,y,e1,e2,e3,e4⟩:=aPk ht h h1 h2
   exact ⟨pre,post++(u.steps++[(k,[],[])]),y,by rw [e1]; simp,e2,e3,e4⟩
  ·rw [if_neg hi]
   rw [ztx (by omega)] at h
   by_cases hj:i < t.steps.length+u.steps.length
   ·rw [if_pos hj]
    rw [ztz (by omega)] at h
    obtain ⟨pre,post,y,e1,e2,e3,e4⟩:=aPk hu h h1 h2
    exact ⟨t.steps++pre,post++[(k,[],[])],y,by rw [e1]; simp,by rw [zwy,e2],by rw [zwy]; omega,e4⟩
   ·rw [if_neg hj]
    have hlt:=(zzy.1 h).1
    simp only [zwy,zwx,List.length_nil] at hlt
    exact ⟨t.steps,[(k,[],[])],u,by simp,rfl,by omega,hu⟩
theorem aIt (a b:Nat) (p:Nat→Bool):(List.range (a+b)).any p=((List.range a).any p || (List.range b).any fun i=>p (a+i)):=by
 rw [List.range_add,List.any_append,List.any_map]
 rfl
def aHv (t:Tr) (j:Nat):Bool:=cW t.steps (bgT t) t.steps.length j
theorem any_congr {n:Nat} {p q:Nat→Bool} (h:∀ i,i < n→p i=q i):(List.range n).any p=(List.range n).any q:=by
 induction n with
 | zero=>rfl
 | succ n ih =>
  rw [List.range_succ,List.any_append,List.any_append,ih fun i hi=>h i (by omega)]
  simp [h n (by omega)]
theorem any_none {n:Nat} {p:Nat→Bool} (h:∀ i,i < n→p i=false):(List.range n).any p=false:=by
 rw [any_congr h]
 induction n with
 | zero=>rfl
 | succ n ih=>rw [List.range_succ,List.any_append,ih fun i hi=>h i (by omega)]; rfl
theorem aZz {k:Int} {x y:Tr} {j:Nat} (hj:j < x.steps.length+y.steps.length):aHv (.op k x y) j=if j < x.steps.length then aHv x j else (decide (k=4) || aHv y (j - x.steps.length)):=by
 have hl:(Tr.op k x y).steps.length=x.steps.length+(y.steps.length+1):=by simp [Tr.steps]
 have g1 : ∀ i,i < x.steps.length → (Tr.op k x y).steps[i]? = x.steps[i]?:=fun i hi=>by
  show (x.steps ++ (y.steps ++ [(k,[],[])]))[i]? = _
  exact ztz hi
 have g2 : ∀ i,i < y.steps.length → (Tr.op k x y).steps[x.steps.length + i]? = y.steps[i]?:=fun i hi=>by
  show (x.steps ++ (y.steps ++ [(k,[],[])]))[_]? = _
  rw [ztx (by omega),Nat.add_sub_cancel_left,ztz hi]
 have g3 : (Tr.op k x y).steps[x.steps.length + y.steps.length]? = some (k,[],[]):=by
  show (x.steps ++ (y.steps ++ [(k,[],[])]))[_]? = _
  rw [ztx (by omega),Nat.add_sub_cancel_left,ztx (by omega),Nat.sub_self]
  rfl
 have b1:∀ i,i < x.steps.length→bgT (.op k x y) i=bgT x i:=fun i hi=>by show (if _ then _ else _)=_; rw [if_pos hi]
 have b2:∀ i,i < y.steps.length→bgT (.op k x y) (x.steps.length+i)=x.steps.length+bgT y i:=fun i hi=>by
  show (if _ then _ else _)=_
  rw [if_neg (by omega),if_pos (by omega),Nat.add_sub_cancel_left]
 have b3:bgT (.op k x y) (x.steps.length+y.steps.length)=x.steps.length:=by
  show (if _ then _ else _)=_
  rw [if_neg (by omega),if_neg (by omega)]
 unfold aHv cW
 rw [hl,aIt,aIt]
 have e3 : ((List.range 1).any fun i=>a2j (Tr.op k x y).steps[x.steps.length + (y.steps.length + i)]? && decide (bgT (.op k x y) (x.steps.length + (y.steps.length + i)) ≤ j) && decide (j < x.steps.length + (y.steps.length + i))) = (decide (k = 4) && decide (x.steps.length ≤ j) && decide (j < x.steps.length + y.steps.length)):=by
  show (_ || false)=_
  rw [Bool.or_false]
  show (a2j (Tr.op k x y).steps[x.steps.length + y.steps.length]? && decide (bgT (.op k x y) (x.steps.length + y.steps.length) ≤ j) && decide (j < x.steps.length + y.steps.length)) = _
  rw [g3,b3]
  rfl
 rw [e3]
 by_cases hx:j < x.steps.length
 ·rw [if_pos hx]
  have e1 : ((List.range x.steps.length).any fun p=>a2j (Tr.op k x y).steps[p]? && decide (bgT (.op k x y) p ≤ j) && decide (j < p)) = ((List.range x.steps.length).any fun p=>a2j x.steps[p]? && decide (bgT x p ≤ j) && decide (j < p)) :=
   any_congr fun i hi=>by rw [g1 i hi,b1 i hi]
  rw [e1,any_none (n:=y.steps.length) fun i hi=>by rw [g2 i hi,b2 i hi]; simp; intros; omega]
  have:decide (x.steps.length≤j)=false:=by simp; omega
  simp [this]
 ·rw [if_neg hx]
  have e1 : ((List.range x.steps.length).any fun p=>a2j (Tr.op k x y).steps[p]? && decide (bgT (.op k x y) p ≤ j) && decide (j < p)) = false :=
   any_none fun i hi=>by
    have:decide (j < i)=false:=by simp; omega
    rw [this,Bool.and_false]
  have e2 : ((List.range y.steps.length).any fun i=>a2j (Tr.op k x y).steps[x.steps.length + i]? && decide (bgT (.op k x y) (x.steps.length + i) ≤ j) && decide (j < x.steps.length + i)) = ((List.range y.steps.length).any fun p=>a2j y.steps[p]? && decide (bgT y p ≤ j - x.steps.length) && decide (j - x.steps.length < p)) :=
   any_congr fun i hi=>by
    rw [g2 i hi,b2 i hi]
    have a1:decide (x.steps.length+bgT y i≤j)=decide (bgT y i≤j - x.steps.length):=by rw [decide_eq_decide]; omega
    have a2:decide (j < x.steps.length+i)=decide (j - x.steps.length < i):=by rw [decide_eq_decide]; omega
    rw [a1,a2]
  rw [e1,e2]
  have a1:decide (x.steps.length≤j)=true:=by simp; omega
  have a2:decide (j < x.steps.length+y.steps.length)=true:=by simpa using hj
  rw [a1,a2]
  simp [Bool.or_comm]
theorem aTc:∀ {t:Tr} {b:Bool} {o:Nat} {f:Nat→Bool},(∀ j,j < t.steps.length→f (o+j)=(b || aHv t j))→Told f t b o
 | .nm a,b,o,f,h=>by
  have:=h 0 (by simp [Tr.steps])
  show f o=b
  rw [Nat.add_zero] at this
  rw [this]
  simp [aHv,cW,Tr.steps]
 | .ar a c,b,o,f,h=>by
  have:=h 0 (by simp [Tr.steps])
  show f o=b
  rw [Nat.add_zero] at this
  rw [this]
  simp [aHv,cW,Tr.steps]
 | .op k x y,b,o,f,h=>by
  have hl:(Tr.op k x y).steps.length=x.steps.length+(y.steps.length+1):=by simp [Tr.steps]
  refine ⟨aTc fun j hj=>?_,aTc fun j hj=>?_⟩
  ·rw [h j (by omega),aZz (by omega),if_pos hj]
  ·rw [Nat.add_assoc,h (x.steps.length+j) (by omega),aZz (by omega),if_neg (by omega),Nat.add_sub_cancel_left,Bool.or_assoc]
theorem bAk {t:Tr} (h:t.ok):pM l typ t.steps (cW t.steps (bgT t) t.steps.length)=(lvs t false).flatMap fun p=>rN l typ p.1 p.2 :=
 aHu h (aTc fun j hj=>by rw [Nat.zero_add,Bool.false_or]; rfl)
end Go.Fbs
