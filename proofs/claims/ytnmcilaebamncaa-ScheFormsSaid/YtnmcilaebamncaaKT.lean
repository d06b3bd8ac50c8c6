/- Parsing what is made of numbers, and what follows. -/
import Derived.Test.YtnmcilaebamncaaKR
set_option linter.unusedVariables false
set_option linter.unusedSimpArgs false
set_option linter.unusedSectionVars false
set_option maxRecDepth 100000
namespace Go.Fbs
open Go.Proofs
attribute [local irreducible] wD bY eV
structure b09 (s:bG) (R:List jT) (r:Bool×bG×sR):Prop where
 ok:r.1=true
 l:r.2.1.l=R
 n:r.2.1.n=s.n
 at_:r.2.1.at_=s.at_
 e:r.2.1.e=s.e
 d:r.2.1.d=s.d
theorem aOd {s:bG} {t:jT} {R:List jT} (h:s.l=t::R) (hk:kt t=(1,[116,121,112,101])):a4l s=true∧(bW s).l=R:=by
 simp only [kt,Prod.mk.injEq] at hk
 refine ⟨?_,by show s.l.tail=R; rw [h]; rfl⟩
 unfold a4l cI
 rw [h]
 simp [hk.1,hk.2]
theorem b1a {nm:List UInt8} (hn:zB nm=true) {n:Int} (h200:n < 200) {s:bG} {T R:List jT} (hT:T.map kt=[(1,[116,121,112,101]),(1,nm)]) (hl:s.l=T++R) (hR:noB [123] R):b09 s R (oX n s):=by
 obtain ⟨t,T',rfl,hk1,hT⟩:=fK hT
 obtain ⟨u,T',rfl,hk2,hT⟩:=fK hT
 obtain rfl:T'=[]:=by simpa using hT
 have hw:=aOd (R:=u::R) hl hk1
 have e1:=sM (R:=R) hw.2 hk2 hn
 have e2:=a3k (g:=[123]) (s:=bW (bW s)) (by rw [e1.2]; exact hR)
 unfold oX
 simp only [a17 h200,if_true,hw.1,e1.1,e2,Bool.false_eq_true,if_false]
 exact ⟨rfl,e1.2,rfl,rfl,rfl,rfl⟩
theorem aS9 {nm : List UInt8} (hn : zB nm = true) {n : Int} (h200 : n < 200) {As : List (List KT)} (hA : ∀ A ∈ As,aDk A ∧ A.head? ≠ some (2,[125]) ∧ A ≠ []) (hm : As.length < 200) {s : bG} {T R : List jT}
  (hT:T.map kt=[(1,[116,121,112,101]),(1,nm),(2,[123])]++As.flatten++[(2,[125])]) (hl:s.l=T++R) (hd:s.d=0):b09 s R (oX n s):=by
 obtain ⟨T',T3,rfl,hT,h3⟩:=n7 hT
 obtain ⟨t,T',rfl,hk1,hT⟩:=fK hT
 obtain ⟨u,T',rfl,hk2,hT⟩:=fK hT
 obtain ⟨q,T2,rfl,hk3,h2⟩:=fK hT
 obtain ⟨v,T4,rfl,hk4,h4⟩:=fK h3
 obtain rfl:T4=[]:=by simpa using h4
 have hl:s.l=t::(u::(q::(T2++v::R))):=by rw [hl]; simp
 have hw:=aOd hl hk1
 have e1:=sM hw.2 hk2 hn
 have e2:=a15 (g:=[123]) (s:=bW (bW s)) e1.2 hk3
 have e3:=aOc As (bW (bW (bW s))) T2 v R [] ((bW (bW (bW s))).l.length+1) hA h2 e2.2 hk4 (by simpa using hm) hd (Nat.lt_succ_self _)
 unfold oX
 simp only [a17 h200,if_true,hw.1,e1.1,e2.1]
 exact ⟨e3.ok,e3.l,e3.n,e3.at_,e3.e,e3.d⟩
theorem a18 {L:List (List UInt8)} {m:Nat} (h:(L.all fun w=>decide ((iX w).length≤m))=true) {w:List UInt8} (hw:w ∈ L):(iX w).length≤m:=by
 have:=List.all_eq_true.1 h w hw
 simpa using this
theorem aTa (n:Int):(aKb n).length≤200:=by
 have h1:=a18 (m:=3) (L:=rF) (by kernel_rfl) (oM n)
 have h2:=a18 (m:=3) (L:=rF) (by kernel_rfl) (oM (iR n 8))
 have h3:=a18 (m:=3) (L:=rF) (by kernel_rfl) (oM (iR n 16))
 have h4:=a18 (m:=3) (L:=rF) (by kernel_rfl) (oM (iR n 20))
 have h5:=a18 (m:=2) (L:=a60) (by kernel_rfl) (aGs n)
 have h6:=a18 (m:=2) (L:=aAl) (by kernel_rfl) (aN2 n)
 unfold aKb aDe
 split <;> (try split) <;> simp only [List.length_append,List.length_cons,List.length_nil] <;> omega
def aE7 (l:List Int) (i:Nat):List (List KT) :=
 [[(1,[114]),(2,[58])]++aE4 (kM l (3*i))++[(2,[59])],[(1,[115]),(2,[58])]++iX (sT (kM l (3*i)))++[(2,[59])],a2y 0 (kM l (3*i+1)),a2y 1 (kM l (3*i+2))]
theorem aTb (l : List Int) (i : Nat) : ∀ A ∈ aE7 l i,aDk A ∧ A.head? ≠ some (2,[125]) ∧ A ≠ []:=by
 intro A hA
 simp only [aE7,List.mem_cons,List.not_mem_nil,or_false] at hA
 rcases hA with rfl | rfl | rfl | rfl
 ·exact ⟨aOa (by kernel_rfl) (b06 _),by simp,by simp⟩
 ·exact ⟨aOa (by kernel_rfl) (b07 _),by simp,by simp⟩
 ·exact ⟨aOb (nm:=[112]) (by kernel_rfl) (aN8 _) (aTa _),by simp [a2y],by simp [a2y]⟩
 ·exact ⟨aOb (nm:=[113]) (by kernel_rfl) (aN8 _) (aTa _),by simp [a2y],by simp [a2y]⟩
theorem b1b (l:List Int) (i:Nat):aE5 l i=[(1,[116,121,112,101]),(1,abT.getD i []),(2,[123])]++(aE7 l i).flatten++[(2,[125])]:=by
 simp only [aE5,aE7,List.flatten_cons,List.flatten_nil,List.append_assoc,List.cons_append,List.nil_append,List.append_nil]
theorem aDl {s:bG} {R:List jT} {ts:List sR} {k:Nat} (h:b09 s R (oX ts.length s)) (hne:s.l≠[]) (hk:s.l.length < k) (hlt:R.length < s.l.length) :
  ∃ t x,kG k s ts=kG (t.l.length+1) t (ts++[x])∧Far s t R:=by
 obtain ⟨k,rfl⟩:∃ m,k=m+1:=⟨k - 1,by omega⟩
 conv=>enter [1,t,1,x,1]; lhs; unfold kG
 rw [if_neg hne]
 generalize oX ts.length s=r at *
 obtain ⟨b,s1,x⟩:=r
 obtain ⟨g1,g2,g3,g4,g5,g6⟩:=h
 simp only at g1 g2 g3 g4 g5 g6
 subst g1
 simp only [if_true]
 exact ⟨s1,x,a13 s1.l.length _ _ _ _ (Nat.le_refl _) (by rw [g2]; omega) (Nat.lt_succ_self _),⟨g2,g3,g4,g5,g6⟩⟩
theorem b5j {T:List jT} {ks:List KT} {R:List jT} (h:T.map kt=(1,[116,121,112,101])::ks):noB [123] (T++R):=by
 obtain ⟨t,T',rfl,hk,_⟩:=fK h
 exact jX (by rw [hk]; simp)
theorem aVd (l:List Int) (s:bG) (T R:List jT) (hT:T.map kt=aVb l) (hl:s.l=T++R) (hd:s.d=0) :
  ∃ t x y z,kG (s.l.length+1) s []=kG (t.l.length+1) t [x,y,z]∧Far s t R:=by
 unfold aVb at hT
 obtain ⟨T',T3,rfl,hT,h3⟩:=n7 hT
 obtain ⟨T1,T2,rfl,h1,h2⟩:=n7 hT
 have n1:T1.length=2:=by rw [← List.length_map (f:=kt),h1]; rfl
 rw [b1b] at h2 h3
 have n2:1≤T2.length:=by rw [← List.length_map (f:=kt),h2]; simp
 have n3:1≤T3.length:=by rw [← List.length_map (f:=kt),h3]; simp
 have q1:=b1a (nm:=[117]) (by kernel_rfl) (n:=([]:List sR).length) (by simp) (s:=s) (T:=T1) (R:=T2++(T3++R)) h1 (by rw [hl]; simp only [List.append_assoc]) (b5j (by rw [h2]; rfl))
 obtain ⟨t1,x,e1,f1⟩:=aDl (k:=s.l.length+1) (ts:=[]) q1 (by rw [hl]; intro h; have:=congrArg List.length h; simp only [List.length_append,List.length_nil] at this; omega) (Nat.lt_succ_self _) (by rw [hl]; simp only [List.length_append]; omega)
 have q2:=aS9 (nm:=[97]) (by kernel_rfl) (n:=([x]:List sR).length) (by simp) (aTb l 0) (by simp [aE7]) (s:=t1) (T:=T2) (R:=T3++R) h2 f1.l (by rw [f1.d]; exact hd)
 obtain ⟨t2,y,e2,f2⟩:=aDl (k:=t1.l.length+1) (ts:=[x]) q2 (by rw [f1.l]; intro h; have:=congrArg List.length h; simp only [List.length_append,List.length_nil] at this; omega) (Nat.lt_succ_self _) (by rw [f1.l]; simp only [List.length_append]; omega)
 have q3:=aS9 (nm:=[98]) (by kernel_rfl) (n:=([x,y]:List sR).length) (by simp) (aTb l 1) (by simp [aE7]) (s:=t2) (T:=T3) (R:=R) h3 f2.l (by rw [f2.d,f1.d]; exact hd)
 obtain ⟨t3,z,e3,f3⟩:=aDl (k:=t2.l.length+1) (ts:=[x,y]) q3 (by rw [f2.l]; intro h; have:=congrArg List.length h; simp only [List.length_append,List.length_nil] at this; omega) (Nat.lt_succ_self _) (by rw [f2.l]; simp only [List.length_append]; omega)
 exact ⟨t3,x,y,z,e1.trans (e2.trans e3),f3.l,f3.n.trans (f2.n.trans f1.n),f3.at_.trans (f2.at_.trans f1.at_),f3.e.trans (f2.e.trans f1.e),f3.d.trans (f2.d.trans f1.d)⟩
end Go.Fbs
