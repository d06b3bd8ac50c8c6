/- ScheForms: the law. -/
import Derived.Test.YtnmcilaebamncaaKU
set_option linter.unusedVariables false
set_option linter.unusedSimpArgs false
set_option linter.unusedSectionVars false
set_option maxRecDepth 100000
namespace Go.Fbs
open Go.Proofs
attribute [local irreducible] iL opt wD bY eV oX
theorem aRr {l:List UInt8} (h:l.length≤100000):iI l=match (kA 0 l).2 with | some k=>([],k,7) | none=>((kA 0 l).1,0,0):=by
 unfold iI
 rw [if_neg (by omega)]
 have e:nH l.length (eS false l) (l.drop (eS false l))=kA 0 l:=by unfold kA; rw [Nat.zero_add]
 simp only [e]
 cases (kA 0 l).2 <;> rfl
theorem aLe (l:List Int):(mP l).length≤209:=aNz l 2
theorem aYu (l:List Int) {r:List UInt8×Nat×Int} (hr:r ∈ sV):vG (mP l++r.1)=([],(mP l).length+r.2.1,r.2.2):=by
 have hm:=b5g l
 have hml:=aLe l
 have hlen:r.1.length≤30:=by
  have:(sV.all fun r=>decide (r.1.length≤30))=true:=by kernel_rfl
  simpa using List.all_eq_true.1 this r hr
 have hlex:=a5z (mP l).length (mP l) r.1 0 (Nat.le_refl _) hm.sl (hm.en _) (hm.ok 0)
 rw [Nat.zero_add] at hlex
 have hkd:=hm.kd 0
 have hall:(mP l++r.1).length≤100000:=by simp only [List.length_append]; omega
 have htk:=aRr hall
 unfold vG
 rcases List.mem_append.1 hr with h | h
 ·have hrow:=b5k r h
  generalize hM:(mP l).length=M at *
  generalize hT:(kA 0 (mP l)).1=T at *
  have hw0:∀ t ∈ (kA M r.1).1,a4k t:=aJ9 _ _ _
  have hnone:(kA M r.1).2=none:=(hrow M [] ([],[]) ([],[]) ([],[]) hw0).1
  rw [hlex] at htk
  simp only [hnone] at htk
  have h2:(iI (mP l++r.1)).2.2=0:=by rw [htk]
  have h1:(iI (mP l++r.1)).1=T++(kA M r.1).1:=by rw [htk]
  rw [if_neg (by rw [h2]; simp)]
  have hs:(uZ (mP l++r.1)).l=T++(kA M r.1).1:=h1
  obtain ⟨t,x,y,z,e1,f⟩:=aVd l (uZ (mP l++r.1)) T (kA M r.1).1 hkd hs rfl
  have e2:(iI (mP l++r.1)).1.length+1=(uZ (mP l++r.1)).l.length+1:=rfl
  rw [e2,e1]
  obtain ⟨tl,tw,tn,ta,te,td,tx⟩:=t
  obtain ⟨g1,g2,g3,g4,g5⟩:=f
  simp only at g1 g2 g3 g4 g5
  have n1:tn=M+r.1.length:=by rw [g2]; show (mP l++r.1).length=_; rw [List.length_append,hM]
  have n2:ta=0:=g3
  have n3:te=0:=g4
  have n4:td=0:=g5
  subst g1; subst n1; subst n2; subst n3; subst n4
  exact (hrow M tx x y z tw).2
 ·obtain rfl:r=aOe:=by simpa using h
  have hz:=bEw (mP l).length
  rw [hlex] at htk
  simp only [hz] at htk
  have h2:(iI (mP l++aOe.1)).2.2=7:=by rw [htk]
  rw [if_pos (by rw [h2]; simp),h2]
  have h3:(iI (mP l++aOe.1)).2.1=(mP l).length+7:=by rw [htk]
  rw [h3]; rfl
def aG0 (r:List UInt8×Nat×Int):V:=.agg [.str r.1,.int .i64 r.2.1,.int .i64 r.2.2]
theorem ag3 (s:List UInt8) (a b:Int):aE [.str s,.int .i64 a,.int .i64 b]=some (.agg [.str s,.int .i64 a,.int .i64 b]):=nr rfl
theorem rowAt {k:Nat} (h:k < sV.length):nB true 3 (.sl .ro (sV.map aG0)) (vI (k:Nat))=some (aG0 sV[k]):=by
 refine aNr (cs:=[.str sV[k].1,.int .i64 sV[k].2.1,.int .i64 sV[k].2.2]) ?_ rfl rfl .i64
 rw [List.getElem?_map,List.getElem?_eq_getElem h]; rfl
noncomputable def nV:Spec:=jJ (fun q:Int×List Int=>[vI q.1,jA q.2]) (fun _=>True) (fun _=>.bool true)
theorem b9m (n:Int) (l:List Int):nV [vI n,jA l]=some (.bool true):=hO (a:=(n,l)) (fun a b h=>by
 simp only [List.cons.injEq,and_true,V.int.injEq,true_and] at h
 exact Prod.ext h.1 (aC9 h.2)) trivial
def aAu:Spec
 | []=>some (.bool true)
 | _=>none
noncomputable abbrev TFo:List (FuncId×Spec):=[(p9,sU),(wS,tD),(oI,aAu)]
theorem b9n {l:List UInt8} (h:l.length≤big):tD [.str l]=some (.aG [a2w (vG l).1,vI (vG l).2.1,vI (vG l).2.2]):=by
 simp only [tD,if_pos h]
theorem b1c (n:Int) (l:List Int):iL cG (bO TFo) 73 nT [.tmp 4] (cB Try.f5) [vI n,jA l] (fun r=>r = .bool true):=by
 have c1:∀ args,bO TFo p9 args=sU args:=fun _=>rfl
 have c2:∀ args,bO TFo wS args=tD args:=fun _=>rfl
 have c3:bO TFo oI []=some (.bool true):=rfl
 refine Eq.mpr (a7x (bO _) _ (vI n) (jA l)) ?_
 simp only [ag3,aC]
 rw [show lG 3 _=some (.sl .ro (sV.map aG0)) by kernel_rfl,aC,aKa,aC]
 rw [show gD (.sl .ro (sV.map aG0))=some (.int .i64 (21:Nat)) by kernel_rfl,aC]
 have hk:(n % 256).toNat % 21 < sV.length:=Nat.mod_lt _ (by decide)
 rw [aU8 _ 21 (by omega),aC,rowAt hk,aC,c1,bCw,aC]
 have hr:=aYu l (List.getElem_mem hk)
 have hml:=aLe l
 have hlen:(sV[(n % 256).toNat % 21]).1.length≤30:=by
  have:(sV.all fun r=>decide (r.1.length≤30))=true:=by kernel_rfl
  simpa using List.all_eq_true.1 this _ (List.getElem_mem hk)
 have hat:(sV[(n % 256).toNat % 21]).2.1≤30:=by
  have:(sV.all fun r=>decide (r.2.1≤30))=true:=by kernel_rfl
  simpa using List.all_eq_true.1 this _ (List.getElem_mem hk)
 generalize sV[(n % 256).toNat % 21]=x at *
 obtain ⟨xs,xa,xe⟩:=x
 simp only at hr hlen hat
 rw [show a7 (aG0 (xs,xa,xe)) 0 = .str xs from rfl,show a7 (aG0 (xs,xa,xe)) 1=vI xa from rfl,show a7 (aG0 (xs,xa,xe)) 2=vI xe from rfl]
 rw [bS (by omega),aC,c2,b9n (by simp only [List.length_append,big]; omega),hr,aC]
 simp only [aO,List.getElem?_cons_zero,List.getElem?_cons_succ,aC,fL,cK,aNu]
 rw [aU9 (by omega),aC]
 simp only [fL,aC,dW,aNu,c3]
 simp [kV,fD,aC]
theorem a4s (h:iJ Try.prog oI aAu):iJ Try.prog rY nV:=by
 refine a6o (T:=TFo) (aK.cons aDd (aK.cons aMf (aK.cons h aK.nil))) fun args v hv=>?_
 obtain ⟨⟨n,l⟩,rfl,_,rfl⟩:=fA hv
 exact ⟨rfl,by simp [aN,a4q,V.aV],rfl,b1c n l⟩
end Go.Fbs
