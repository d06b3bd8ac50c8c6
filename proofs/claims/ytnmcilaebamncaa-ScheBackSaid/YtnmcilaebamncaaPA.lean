import Derived.Test.YtnmcilaebamncaaLT
import Derived.Test.YtnmcilaebamncaaKA
import Derived.Test.YtnmcilaebamncaaKP
import Derived.Test.YtnmcilaebamncaaKO
import Derived.Test.YtnmcilaebamncaaKT
import Derived.Lib.Join
set_option maxRecDepth 100000
namespace Go.Fbs
inductive Tr where
 | nm (a : List UInt8)
 | ar (a b : List UInt8)
 | op (k : Int) (x y : Tr)
def Tr.ok : Tr → Prop
 | .nm _=>True
 | .ar _ _=>True
 | .op k x y=>(3 ≤ k ∧ k ≤ 5) ∧ x.ok ∧ y.ok
def Tr.steps : Tr → List Stp
 | .nm a=>[(1,a,[])]
 | .ar a b=>[(2,a,b)]
 | .op k x y=>x.steps ++ (y.steps ++ [(k,[],[])])
def Tr.pce : Tr → Pce
 | .nm a=>(a,3)
 | .ar a b=>(a ++ [45,62] ++ b,3)
 | .op k x y=>jointM x.pce y.pce k
def toldGo : List Stp → List Pce → Option (List Pce)
 | [],st=>some st
 | (k,a,b) :: r,st =>
  if k = 1 then toldGo r ((a,3) :: st) else
  if k = 2 then toldGo r ((a ++ [45,62] ++ b,3) :: st) else
  if k < 3 ∨ 5 < k then none else
  match st with
  | y :: x :: st'=>toldGo r (jointM x y k :: st')
  | _=>none
def toldM (l : List Stp) : Option (List UInt8) :=
 match toldGo (l.take 201) [] with
 | some [q]=>some q.1
 | _=>none
theorem toldGo_tr : ∀ {t : Tr} {r : List Stp} {st : List Pce},t.ok → toldGo (t.steps ++ r) st = toldGo r (t.pce :: st)
 | .nm a,r,st,_=>by simp only [Tr.steps,List.cons_append,List.nil_append,toldGo,if_true]; rfl
 | .ar a b,r,st,_=>by
  simp only [Tr.steps,List.cons_append,List.nil_append,toldGo,if_true]
  rw [if_neg (by decide)]; rfl
 | .op k x y,r,st,⟨hk,hx,hy⟩=>by
  simp only [Tr.steps,List.append_assoc]
  rw [toldGo_tr hx,toldGo_tr hy]
  simp only [List.cons_append,List.nil_append,toldGo]
  rw [if_neg (by omega),if_neg (by omega),if_neg (by omega)]
  rfl
theorem toldM_tr {t : Tr} (h : t.ok) (hl : t.steps.length ≤ 200) : toldM t.steps = some t.pce.1:=by
 unfold toldM
 rw [List.take_of_length_le (by omega)]
 have:=toldGo_tr (r:=[]) (st:=[]) h
 rw [List.append_nil] at this
 rw [this]
 rfl
end Go.Fbs
namespace Go.Fbs
def bindK (k : Int) : Int:=if k = 3 then 1 else if k = 4 then 1 else 2
def Tr.dep : Tr → Int → Nat
 | .nm _,_=>0
 | .ar _ _,_=>0
 | .op k x y,l=>(if bindK k < l then 1 else 0) + max (x.dep (bindK k)) (y.dep (bindK k + 1))
theorem dep_mono (t : Tr) {l l' : Int} (h : l ≤ l') : t.dep l ≤ t.dep l':=by
 cases t with
 | nm a=>exact Nat.le_refl _
 | ar a b=>exact Nat.le_refl _
 | op k x y =>
  simp only [Tr.dep]
  split <;> split <;> omega
theorem dep_up (t : Tr) (l : Int) : t.dep l ≤ 1 + t.dep 1:=by
 cases t with
 | nm a=>exact Nat.zero_le _
 | ar a b=>exact Nat.zero_le _
 | op k x y =>
  simp only [Tr.dep]
  split <;> split <;> omega
def Tr.good : Tr → Prop
 | .nm a=>goodN a = true
 | .ar a b=>goodN a = true ∧ goodN b = true
 | .op _ x y=>x.good ∧ y.good
theorem name_good {s : PSt} (h : (nameM s).1 = true) : goodN ((nameM s).2.2.getD []) = true:=by
 unfold nameM at h ⊢
 split at h
 ·rename_i h1
  rw [if_pos h1]
  show namedM (1,0,(hereM s).2.2) = true
  unfold namedM at h1 ⊢
  simp only [Bool.and_eq_true,decide_eq_true_eq] at h1 ⊢
  exact ⟨trivial,h1.2⟩
 ·simp at h
structure Rtr (l : Int) (f : Rd) : Prop where
 t : ∀ s,s.d ≤ 20 → (f s).1 = true → ∃ t : Tr,(t.ok ∧ t.good) ∧ (f s).2.x = s.x ++ t.steps ∧ t.dep l + s.d ≤ 20
theorem fail_x (e : Int) (s : PSt) : (failM e s).x = s.x:=by unfold failM; split <;> rfl
theorem name_x (s : PSt) : (nameM s).2.1.x = s.x:=by unfold nameM; split; rfl; exact fail_x _ _
theorem may_x (g : List UInt8) (s : PSt) : (mayM g s).2.x = s.x:=by unfold mayM; split <;> rfl
theorem sign_x (g : List UInt8) (s : PSt) : (signM g s).2.x = s.x:=by unfold signM; split; rfl; exact fail_x _ _
theorem put_x {p : Stp} {a : Nat} {s : PSt} (h : (putM p a s).1 = true) : (putM p a s).2.x = s.x ++ [p]:=by
 unfold putM at h ⊢
 split at h
 ·simp at h
 ·rename_i h1; rw [if_neg h1]
theorem rtr_factor {sum : Rd} (h : Rtr 1 sum) (g : Good sum) : Rtr 3 (factorOf sum):=by
 refine ⟨fun s hd hs=>?_⟩
 unfold factorOf at hs ⊢
 by_cases h1 : isM [40] s = true
 ·rw [if_pos h1] at hs ⊢
  by_cases h2 : s.d = 20
  ·rw [if_pos h2] at hs; simp at hs
  ·rw [if_neg h2] at hs ⊢
   simp only at hs ⊢
   cases hr : (sum (popM { s with d:=s.d + 1 })).1 with
   | false=>rw [hr] at hs; simp at hs
   | true =>
    rw [hr] at hs
    simp only [if_true] at hs ⊢
    obtain ⟨t,t1,t2,t3⟩:=h.t (popM { s with d:=s.d + 1 }) (by show s.d + 1 ≤ 20; omega) hr
    refine ⟨t,t1,?_,?_⟩
    ·show (signM [41] _).2.x = _
     rw [sign_x,t2]; rfl
    ·have t3 : t.dep 1 + (s.d + 1) ≤ 20:=t3
     have:=dep_up t 3
     omega
 ·rw [if_neg h1] at hs ⊢
  simp only at hs ⊢
  cases hn : (nameM s).1 with
  | false=>rw [hn] at hs; simp at hs
  | true =>
   rw [hn] at hs
   simp only [if_true] at hs ⊢
   cases hm : (mayM [45,62] (nameM s).2.1).1 with
   | true =>
    rw [hm] at hs
    simp only [if_true] at hs ⊢
    cases hq : (nameM (mayM [45,62] (nameM s).2.1).2).1 with
    | false=>rw [hq] at hs; simp at hs
    | true =>
     rw [hq] at hs
     simp only [if_true] at hs ⊢
     refine ⟨.ar ((nameM s).2.2.getD []) ((nameM (mayM [45,62] (nameM s).2.1).2).2.2.getD []),⟨trivial,name_good hn,name_good hq⟩,?_,by simp only [Tr.dep]; omega⟩
     rw [put_x hs,name_x,may_x,name_x]; rfl
   | false =>
    rw [hm] at hs
    simp only [Bool.false_eq_true,if_false] at hs ⊢
    refine ⟨.nm ((nameM s).2.2.getD []),⟨trivial,name_good hn⟩,?_,by simp only [Tr.dep]; omega⟩
    rw [put_x hs,may_x,name_x]; rfl
theorem putx_d (p : Stp) (a : Nat) (s : PSt) : (putM p a s).2.d = s.d:=by unfold putM; split <;> rfl
theorem mayx_d (g : List UInt8) (s : PSt) : (mayM g s).2.d = s.d:=by unfold mayM; split <;> rfl
theorem rtr_termLoop {fac : Rd} (h : Rtr 3 fac) (g : Good fac) : ∀ (k a : Nat) (s : PSt) (X : List Stp) (t0 : Tr),s.d ≤ 20 → t0.ok ∧ t0.good → s.x = X ++ t0.steps → t0.dep 2 + s.d ≤ 20 → (termLoop fac k a s).1 = true →
  ∃ t : Tr,(t.ok ∧ t.good) ∧ (termLoop fac k a s).2.x = X ++ t.steps ∧ t.dep 2 + s.d ≤ 20
 | 0,a,s,X,t0,hd,h0,hx,hp,hs=>by simp [termLoop] at hs
 | k + 1,a,s,X,t0,hd,h0,hx,hp,hs=>by
  unfold termLoop at hs ⊢
  simp only at hs ⊢
  cases hm : (mayM [38] s).1 with
  | false=>exact ⟨t0,h0,by simp only [hm,Bool.false_eq_true,if_false]; rw [may_x,hx],hp⟩
  | true =>
   simp only [hm,if_true] at hs ⊢
   cases hr : (fac (mayM [38] s).2).1 with
   | false=>simp [hr] at hs
   | true =>
    simp only [hr,if_true] at hs ⊢
    cases hq : (putM (5,[],[]) a (fac (mayM [38] s).2).2).1 with
    | false=>simp [hq] at hs
    | true =>
     simp only [hq,if_true] at hs ⊢
     obtain ⟨t,t1,t2,t3⟩:=h.t (mayM [38] s).2 (by rw [mayx_d]; exact hd) hr
     rw [mayx_d] at t3
     have hd' : (putM (5,[],[]) a (fac (mayM [38] s).2).2).2.d = s.d:=by rw [putx_d,g.d,mayx_d]
     obtain ⟨u,u1,u2,u3⟩:=rtr_termLoop h g k _ (putM (5,[],[]) a (fac (mayM [38] s).2).2).2 X (.op 5 t0 t) (by rw [hd']; exact hd) ⟨⟨by decide,h0.1,t1.1⟩,h0.2,t1.2⟩
      (by rw [put_x hq,t2,may_x,hx]; simp [Tr.steps,List.append_assoc])
      (by rw [hd']; simp only [Tr.dep,bindK]; simp; omega) hs
     exact ⟨u,u1,u2,by rw [hd'] at u3; exact u3⟩
theorem rtr_term {fac : Rd} (h : Rtr 3 fac) (g : Good fac) : Rtr 2 (termOf fac):=by
 refine ⟨fun s hd hs=>?_⟩
 unfold termOf at hs ⊢
 simp only at hs ⊢
 cases hr : (fac s).1 with
 | false=>simp [hr] at hs
 | true =>
  simp only [hr,if_true] at hs ⊢
  obtain ⟨t,t1,t2,t3⟩:=h.t s hd hr
  have hd':=g.d s
  obtain ⟨u,u1,u2,u3⟩:=rtr_termLoop h g _ _ (fac s).2 s.x t (by rw [hd']; exact hd) t1 t2 (by rw [hd']; have:=dep_mono t (show (2 : Int) ≤ 3 by decide); omega) hs
  exact ⟨u,u1,u2,by rw [hd'] at u3; exact u3⟩
theorem rtr_sumLoop {ter : Rd} (h : Rtr 2 ter) (g : Good ter) : ∀ (k : Nat) (s : PSt) (X : List Stp) (t0 : Tr),s.d ≤ 20 → t0.ok ∧ t0.good → s.x = X ++ t0.steps → t0.dep 1 + s.d ≤ 20 → (sumLoop ter k s).1 = true →
  ∃ t : Tr,(t.ok ∧ t.good) ∧ (sumLoop ter k s).2.x = X ++ t.steps ∧ t.dep 1 + s.d ≤ 20
 | 0,s,X,t0,hd,h0,hx,hp,hs=>by simp [sumLoop] at hs
 | k + 1,s,X,t0,hd,h0,hx,hp,hs=>by
  unfold sumLoop at hs ⊢
  cases hm : (isM [43] s || isM [45] s) with
  | false=>exact ⟨t0,h0,by simp only [Bool.false_eq_true,if_false]; exact hx,hp⟩
  | true =>
   simp only [hm,if_true] at hs ⊢
   cases hr : (ter (popM s)).1 with
   | false=>simp [hr] at hs
   | true =>
    simp only [hr,if_true] at hs ⊢
    generalize hk : (if isM [43] s = true then (3 : Int) else 4) = kd at *
    have hkd : kd = 3 ∨ kd = 4:=by split at hk <;> omega
    cases hq : (putM (kd,[],[]) (hereM s).2.1 (ter (popM s)).2).1 with
    | false=>simp [hq] at hs
    | true =>
     simp only [hq,if_true] at hs ⊢
     obtain ⟨t,t1,t2,t3⟩:=h.t (popM s) hd hr
     have t3 : t.dep 2 + s.d ≤ 20:=t3
     have hd' : (putM (kd,[],[]) (hereM s).2.1 (ter (popM s)).2).2.d = s.d:=by rw [putx_d,g.d]; rfl
     obtain ⟨u,u1,u2,u3⟩:=rtr_sumLoop h g k (putM (kd,[],[]) (hereM s).2.1 (ter (popM s)).2).2 X (.op kd t0 t) (by rw [hd']; exact hd) ⟨⟨by omega,h0.1,t1.1⟩,h0.2,t1.2⟩
      (by rw [put_x hq,t2,show (popM s).x = s.x from rfl,hx]; simp [Tr.steps,List.append_assoc])
      (by rw [hd']; rcases hkd with rfl | rfl <;> (simp only [Tr.dep,bindK]; simp; omega)) hs
     exact ⟨u,u1,u2,by rw [hd'] at u3; exact u3⟩
theorem rtr_sum {ter : Rd} (h : Rtr 2 ter) (g : Good ter) : Rtr 1 (sumOf ter):=by
 refine ⟨fun s hd hs=>?_⟩
 unfold sumOf at hs ⊢
 simp only at hs ⊢
 cases hr : (ter s).1 with
 | false=>simp [hr] at hs
 | true =>
  simp only [hr,if_true] at hs ⊢
  obtain ⟨t,t1,t2,t3⟩:=h.t s hd hr
  have hd':=g.d s
  obtain ⟨u,u1,u2,u3⟩:=rtr_sumLoop h g _ (ter s).2 s.x t (by rw [hd']; exact hd) t1 t2 (by rw [hd']; have:=dep_mono t (show (1 : Int) ≤ 2 by decide); omega) hs
  exact ⟨u,u1,u2,by rw [hd'] at u3; exact u3⟩
theorem rtr_M : ∀ f,Rtr 3 (factorM f)
 | 0=>⟨fun s _ hs=>by simp [factorM] at hs⟩
 | f + 1=>rtr_factor (rtr_sum (rtr_term (rtr_M f) (good_M f)) (good_term (good_M f))) (good_sum (good_term (good_M f)))
theorem sum_tree (f : Nat) (s : PSt) (hd : s.d ≤ 20) (hs : (sumOf (termOf (factorM f)) s).1 = true) : ∃ t : Tr,(t.ok ∧ t.good) ∧ (sumOf (termOf (factorM f)) s).2.x = s.x ++ t.steps ∧ t.dep 1 + s.d ≤ 20 :=
 (rtr_sum (rtr_term (rtr_M f) (good_M f)) (good_term (good_M f))).t s hd hs
end Go.Fbs
namespace Go.Fbs
structure AteX (s : PSt) (R : List Tok) (X : List Stp) (r : Bool × PSt) : Prop where
 ok : r.1 = true
 l : r.2.l = R
 n : r.2.n = s.n
 at_ : r.2.at_ = s.at_
 e : r.2.e = s.e
 d : r.2.d = s.d
 x : r.2.x = s.x ++ X
def EatFX (f d : Nat) (A : List KT) (X : List Stp) : Prop:=∀ s T R,T.map kt = A → s.l = T ++ R → noB [45,62] R → s.x.length + X.length ≤ 200 → s.d = d → AteX s R X (factorM f s)
theorem eat_nameX {f d : Nat} {w : List UInt8} (hw : goodN w = true) : EatFX (f + 1) d [(1,w)] [(1,w,[])]:=by
 intro s T R hT hl hR hx hd
 obtain ⟨t,T',rfl,hk,hT⟩:=split_one hT
 obtain rfl : T' = []:=by simpa using hT
 have hn:=name_yes (R:=R) hl hk hw
 have hb : isM [40] s = false:=is_no fun t' h=>by
  rw [hl] at h
  simp only [List.cons_append,List.head?_cons,Option.some.injEq] at h
  subst h; rw [hk]; simp
 have hm:=may_no (g:=[45,62]) (s:=popM s) (by rw [hn.2]; exact hR)
 simp only [List.length_singleton] at hx
 have hp:=put_yes (p:=(1,w,[])) (a:=(hereM s).2.1) (s:=popM s) (by show s.x.length < 200; omega)
 show AteX s R [(1,w,[])] (factorOf _ s)
 unfold factorOf
 rw [hb]
 simp only [Bool.false_eq_true,if_false,hn.1,if_true,hm,Option.getD_some,hp]
 exact ⟨rfl,hn.2,rfl,rfl,rfl,rfl,by simp [popM]⟩
theorem eat_arrowX {f d : Nat} {w v : List UInt8} (hw : goodN w = true) (hv : goodN v = true) : EatFX (f + 1) d [(1,w),(2,[45,62]),(1,v)] [(2,w,v)]:=by
 intro s T R hT hl hR hx hd
 obtain ⟨t,T',rfl,hk,hT⟩:=split_one hT
 obtain ⟨u,T',rfl,hk2,hT⟩:=split_one hT
 obtain ⟨q,T',rfl,hk3,hT⟩:=split_one hT
 obtain rfl : T' = []:=by simpa using hT
 have hn:=name_yes (R:=u :: q :: R) hl hk hw
 have hb : isM [40] s = false:=is_no fun t' h=>by
  rw [hl] at h
  simp only [List.cons_append,List.head?_cons,Option.some.injEq] at h
  subst h; rw [hk]; simp
 have hm:=may_yes (g:=[45,62]) (s:=popM s) hn.2 hk2
 have hn2:=name_yes (s:=popM (popM s)) hm.2 hk3 hv
 simp only [List.length_cons,List.length_nil] at hx
 have hp:=put_yes (p:=(2,w,v)) (a:=(hereM s).2.1) (s:=popM (popM (popM s))) (by show s.x.length < 200; omega)
 show AteX s R [(2,w,v)] (factorOf _ s)
 unfold factorOf
 rw [hb]
 simp only [Bool.false_eq_true,if_false,hn.1,if_true,hm.1,hn2.1,Option.getD_some,hp]
 exact ⟨rfl,hn2.2,rfl,rfl,rfl,rfl,by simp [popM]⟩
abbrev FL:=List (List KT × List Stp)
def toksF (L : FL) : List KT:=L.flatMap fun q=>(2,[38]) :: q.1
def stpsF (L : FL) : List Stp:=L.flatMap fun q=>q.2 ++ [(5,[],[])]
theorem hdOk_F : ∀ L : FL,hdOk (toksF L)
 | []=>by simp [hdOk,toksF]
 | q :: L=>by simp [hdOk,toksF]
theorem eat_FL {f d : Nat} : ∀ (L : FL),(∀ q ∈ L,EatFX f d q.1 q.2) → ∀ k a s T R,T.map kt = toksF L → s.l = T ++ R → NoT R → s.x.length + (stpsF L).length ≤ 200 → s.d = d → s.l.length < k → AteX s R (stpsF L) (termLoop (factorM f) k a s)
 | [],_,k,a,s,T,R,hT,hl,hR,hx,hd,hk=>by
  obtain rfl : T = []:=by simpa [toksF] using hT
  simp only [List.nil_append] at hl
  obtain ⟨k,rfl⟩ : ∃ m,k = m + 1:=⟨k - 1,by omega⟩
  unfold termLoop
  rw [may_no (by rw [hl]; exact hR.b)]
  exact ⟨rfl,hl,rfl,rfl,rfl,rfl,by simp [stpsF]⟩
 | (B,X) :: L,hL,k,a,s,T,R,hT,hl,hR,hx,hd,hk=>by
  have hB:=hL (B,X) List.mem_cons_self
  have hT : T.map kt = (2,[38]) :: (B ++ toksF L):=by rw [hT]; simp [toksF]
  have hsx : stpsF ((B,X) :: L) = X ++ ((5,[],[]) :: stpsF L):=by simp [stpsF]
  rw [hsx] at hx ⊢
  obtain ⟨t,T',rfl,hkt,hT⟩:=split_one hT
  obtain ⟨T1,T2,rfl,h1,h2⟩:=split_map hT
  simp only [List.length_cons,List.length_append] at hx
  obtain ⟨k,rfl⟩ : ∃ m,k = m + 1:=⟨k - 1,by omega⟩
  have hm:=may_yes (g:=[38]) (R:=T1 ++ T2 ++ R) hl hkt
  have hf:=hB (popM s) T1 (T2 ++ R) h1 (by rw [hm.2,List.append_assoc]) (noB_of h2 (hdOk_F L) hR.a) (by show s.x.length + _ ≤ 200; show _ + X.length ≤ _; omega) hd
  unfold termLoop
  simp only [hm.1,if_true]
  generalize factorM f (popM s) = r at *
  obtain ⟨b,s1⟩:=r
  obtain ⟨g1,g2,g3,g4,g5,g6,g7⟩:=hf
  simp only at g1 g2 g3 g4 g5 g6 g7
  subst g1
  have g7' : s1.x = s.x ++ X:=g7
  simp only [if_true]
  rw [put_yes (by rw [g7']; simp only [List.length_append]; omega)]
  simp only [if_true]
  have hl1 : s1.l.length < k:=by
   have : s.l.length = 1 + (T1.length + (T2.length + R.length)):=by rw [hl]; simp; omega
   rw [g2]; simp only [List.length_append]; omega
  have hq:=eat_FL L (fun q hq=>hL q (List.mem_cons_of_mem _ hq)) k (hereM { s1 with x:=s1.x ++ [(5,[],[])] }).2.1 { s1 with x:=s1.x ++ [(5,[],[])] } T2 R h2 g2 hR (by simp only [g7',List.length_append,List.length_singleton]; omega) (by show s1.d = d; rw [g6]; exact hd) hl1
  refine ⟨hq.ok,hq.l,hq.n.trans g3,hq.at_.trans g4,hq.e.trans g5,hq.d.trans g6,?_⟩
  rw [hq.x]
  show (s1.x ++ [(5,[],[])]) ++ stpsF L = _
  rw [g7']; simp
def EatTX (f d : Nat) (A : List KT) (X : List Stp) : Prop:=∀ s T R,T.map kt = A → s.l = T ++ R → NoT R → s.x.length + X.length ≤ 200 → s.d = d → AteX s R X (termOf (factorM f) s)
theorem eat_termX {f d : Nat} {A : List KT} {X : List Stp} {L : FL} (hA : EatFX f d A X) (hL : ∀ q ∈ L,EatFX f d q.1 q.2) : EatTX f d (A ++ toksF L) (X ++ stpsF L):=by
 intro s T R hT hl hR hx hd
 obtain ⟨T1,T2,rfl,h1,h2⟩:=split_map hT
 simp only [List.length_append] at hx
 have hf:=hA s T1 (T2 ++ R) h1 (by rw [hl,List.append_assoc]) (noB_of h2 (hdOk_F L) hR.a) (by omega) hd
 unfold termOf
 generalize factorM f s = r at *
 obtain ⟨b,s1⟩:=r
 obtain ⟨g1,g2,g3,g4,g5,g6,g7⟩:=hf
 simp only at g1 g2 g3 g4 g5 g6 g7
 subst g1
 simp only [if_true]
 have hq:=eat_FL L hL (s1.l.length + 1) (hereM s1).2.1 s1 T2 R h2 g2 hR (by rw [g7]; simp only [List.length_append]; omega) (by rw [g6]; exact hd) (Nat.lt_succ_self _)
 exact ⟨hq.ok,hq.l,hq.n.trans g3,hq.at_.trans g4,hq.e.trans g5,hq.d.trans g6,by rw [hq.x,g7,List.append_assoc]⟩
abbrev SL:=List (Int × List KT × List Stp)
def sgK (k : Int) : List UInt8:=if k = 3 then [43] else [45]
def toksS (L : SL) : List KT:=L.flatMap fun q=>(2,sgK q.1) :: q.2.1
def stpsS (L : SL) : List Stp:=L.flatMap fun q=>q.2.2 ++ [(q.1,[],[])]
theorem hdT_S : ∀ L : SL,hdT (toksS L)
 | []=>by simp [hdT,toksS]
 | q :: L=>by
  simp only [hdT,toksS,List.flatMap_cons,List.cons_append,List.head?_cons]
  unfold sgK
  split <;> simp
theorem eat_SL {f d : Nat} : ∀ (L : SL),(∀ q ∈ L,(q.1 = 3 ∨ q.1 = 4) ∧ EatTX f d q.2.1 q.2.2) → ∀ k s T R,T.map kt = toksS L → s.l = T ++ R → NoS R → s.x.length + (stpsS L).length ≤ 200 → s.d = d → s.l.length < k → AteX s R (stpsS L) (sumLoop (termOf (factorM f)) k s)
 | [],_,k,s,T,R,hT,hl,hR,hx,hd,hk=>by
  obtain rfl : T = []:=by simpa [toksS] using hT
  simp only [List.nil_append] at hl
  obtain ⟨k,rfl⟩ : ∃ m,k = m + 1:=⟨k - 1,by omega⟩
  unfold sumLoop
  rw [is_no (g:=[43]) (by rw [hl]; exact hR.p),is_no (g:=[45]) (by rw [hl]; exact hR.m)]
  exact ⟨rfl,hl,rfl,rfl,rfl,rfl,by simp [stpsS]⟩
 | (kd,B,X) :: L,hL,k,s,T,R,hT,hl,hR,hx,hd,hk=>by
  obtain ⟨hkd,hB⟩:=hL (kd,B,X) List.mem_cons_self
  simp only at hkd hB
  have hT : T.map kt = (2,sgK kd) :: (B ++ toksS L):=by rw [hT]; simp [toksS]
  have hsx : stpsS ((kd,B,X) :: L) = X ++ ((kd,[],[]) :: stpsS L):=by simp [stpsS]
  rw [hsx] at hx ⊢
  obtain ⟨t,T',rfl,hkt,hT⟩:=split_one hT
  obtain ⟨T1,T2,rfl,h1,h2⟩:=split_map hT
  simp only [List.length_cons,List.length_append] at hx
  obtain ⟨k,rfl⟩ : ∃ m,k = m + 1:=⟨k - 1,by omega⟩
  have hi : (isM [43] s || isM [45] s) = true ∧ (if isM [43] s = true then (3 : Int) else 4) = kd:=by
   rcases hkd with rfl | rfl
   ·have h9 : isM [43] s = true:=is_yes hl hkt
    rw [h9]; exact ⟨rfl,rfl⟩
   ·have h9 : isM [45] s = true:=is_yes (g:=[45]) hl hkt
    have h8 : isM [43] s = false:=is_no fun t' h=>by
     rw [hl] at h
     simp only [List.cons_append,List.head?_cons,Option.some.injEq] at h
     subst h; rw [hkt]; simp [sgK]
    rw [h9,h8]; exact ⟨rfl,rfl⟩
  have hm : (popM s).l = T1 ++ T2 ++ R:=by show s.l.tail = _; rw [hl]; rfl
  have hf:=hB (popM s) T1 (T2 ++ R) h1 (by rw [hm,List.append_assoc]) (noT_of h2 (hdT_S L) hR.t) (by show s.x.length + _ ≤ 200; omega) hd
  unfold sumLoop
  rw [if_pos hi.1,hi.2]
  generalize termOf (factorM f) (popM s) = r at *
  obtain ⟨b,s1⟩:=r
  obtain ⟨g1,g2,g3,g4,g5,g6,g7⟩:=hf
  simp only at g1 g2 g3 g4 g5 g6 g7
  subst g1
  have g7' : s1.x = s.x ++ X:=g7
  simp only [if_true]
  rw [put_yes (by rw [g7']; simp only [List.length_append]; omega)]
  simp only [if_true]
  have hl1 : s1.l.length < k:=by
   have : s.l.length = 1 + (T1.length + (T2.length + R.length)):=by rw [hl]; simp; omega
   rw [g2]; simp only [List.length_append]; omega
  have hq:=eat_SL L (fun q hq=>hL q (List.mem_cons_of_mem _ hq)) k { s1 with x:=s1.x ++ [(kd,[],[])] } T2 R h2 g2 hR (by simp only [g7',List.length_append,List.length_singleton]; omega) (by show s1.d = d; rw [g6]; exact hd) hl1
  refine ⟨hq.ok,hq.l,hq.n.trans g3,hq.at_.trans g4,hq.e.trans g5,hq.d.trans g6,?_⟩
  rw [hq.x]
  show (s1.x ++ [(kd,[],[])]) ++ stpsS L = _
  rw [g7']; simp
def EatSX (f d : Nat) (A : List KT) (X : List Stp) : Prop:=∀ s T R,T.map kt = A → s.l = T ++ R → NoS R → s.x.length + X.length ≤ 200 → s.d = d → AteX s R X (sumOf (termOf (factorM f)) s)
theorem eat_sumX {f d : Nat} {A : List KT} {X : List Stp} {L : SL} (hA : EatTX f d A X) (hL : ∀ q ∈ L,(q.1 = 3 ∨ q.1 = 4) ∧ EatTX f d q.2.1 q.2.2) : EatSX f d (A ++ toksS L) (X ++ stpsS L):=by
 intro s T R hT hl hR hx hd
 obtain ⟨T1,T2,rfl,h1,h2⟩:=split_map hT
 simp only [List.length_append] at hx
 have hf:=hA s T1 (T2 ++ R) h1 (by rw [hl,List.append_assoc]) (noT_of h2 (hdT_S L) hR.t) (by omega) hd
 unfold sumOf
 generalize termOf (factorM f) s = r at *
 obtain ⟨b,s1⟩:=r
 obtain ⟨g1,g2,g3,g4,g5,g6,g7⟩:=hf
 simp only at g1 g2 g3 g4 g5 g6 g7
 subst g1
 simp only [if_true]
 have hq:=eat_SL L hL (s1.l.length + 1) s1 T2 R h2 g2 hR (by rw [g7]; simp only [List.length_append]; omega) (by rw [g6]; exact hd) (Nat.lt_succ_self _)
 exact ⟨hq.ok,hq.l,hq.n.trans g3,hq.at_.trans g4,hq.e.trans g5,hq.d.trans g6,by rw [hq.x,g7,List.append_assoc]⟩
theorem eat_parenX {f d : Nat} {A : List KT} {X : List Stp} (hd20 : d ≠ 20) (hA : EatSX f (d + 1) A X) : EatFX (f + 1) d ((2,[40]) :: (A ++ [(2,[41])])) X:=by
 intro s T R hT hl hR hx hd
 obtain ⟨t,T',rfl,hkt,hT⟩:=split_one hT
 obtain ⟨T1,T2,rfl,h1,h2⟩:=split_map hT
 obtain ⟨u,T3,rfl,hku,h3⟩:=split_one h2
 obtain rfl : T3 = []:=by simpa using h3
 have hm : (popM { s with d:=s.d + 1 }).l = T1 ++ ([u] ++ R):=by show s.l.tail = _; rw [hl]; simp
 have hno : NoS ([u] ++ R):=by
  refine ⟨⟨noB_cons ?_,noB_cons ?_⟩,noB_cons ?_,noB_cons ?_⟩ <;> rw [hku] <;> simp
 have hf:=hA (popM { s with d:=s.d + 1 }) T1 ([u] ++ R) h1 hm hno (by show s.x.length + _ ≤ 200; omega) (by show s.d + 1 = d + 1; omega)
 show AteX s R _ (factorOf (sumOf (termOf (factorM f))) s)
 unfold factorOf
 rw [is_yes (g:=[40]) hl hkt]
 simp only [if_true]
 rw [if_neg (by omega)]
 generalize sumOf (termOf (factorM f)) (popM { s with d:=s.d + 1 }) = r at *
 obtain ⟨b,s1⟩:=r
 obtain ⟨g1,g2,g3,g4,g5,g6,g7⟩:=hf
 simp only at g1 g2 g3 g4 g5 g6 g7
 subst g1
 have hs:=sign_yes (g:=[41]) (s:=s1) (R:=R) (t:=u) g2 hku
 simp only [if_true,hs.1]
 refine ⟨rfl,hs.2,g3,g4,g5,?_,g7⟩
 show s1.d - 1 = s.d
 rw [g6]; rfl
end Go.Fbs
namespace Go.Fbs
def Tr.bnd : Tr → Int
 | .nm _=>3
 | .ar _ _=>3
 | .op k _ _=>bindK k
def sgT (k : Int) : List UInt8:=if k = 3 then [43] else if k = 4 then [45] else [38]
def holdK (t : Tr) (tk : List KT) (l : Int) : List KT:=if t.bnd < l then (2,[40]) :: (tk ++ [(2,[41])]) else tk
def Tr.tk : Tr → List KT
 | .nm a=>[(1,a)]
 | .ar a b=>[(1,a),(2,[45,62]),(1,b)]
 | .op k x y=>holdK x x.tk (bindK k) ++ (2,sgT k) :: holdK y y.tk (bindK k + 1)
structure TrEat (t : Tr) : Prop where
 F : ∀ f d,21 ≤ d + f → t.dep 3 + d ≤ 20 → EatFX f d (holdK t t.tk 3) t.steps
 T : ∀ f d,21 ≤ d + f → t.dep 2 + d ≤ 20 → ∃ A X,∃ L : FL,holdK t t.tk 2 = A ++ toksF L ∧ t.steps = X ++ stpsF L ∧ EatFX f d A X ∧ ∀ q ∈ L,EatFX f d q.1 q.2
 S : ∀ f d,21 ≤ d + f → t.dep 1 + d ≤ 20 → ∃ A X,∃ L : SL,holdK t t.tk 1 = A ++ toksS L ∧ t.steps = X ++ stpsS L ∧ EatTX f d A X ∧ ∀ q ∈ L,(q.1 = 3 ∨ q.1 = 4) ∧ EatTX f d q.2.1 q.2.2
theorem TrEat.tx {t : Tr} (h : TrEat t) {f d : Nat} (h1 : 21 ≤ d + f) (h2 : t.dep 2 + d ≤ 20) : EatTX f d (holdK t t.tk 2) t.steps:=by
 obtain ⟨A,X,L,e1,e2,e3,e4⟩:=h.T f d h1 h2
 rw [e1,e2]; exact eat_termX e3 e4
theorem TrEat.sx {t : Tr} (h : TrEat t) {f d : Nat} (h1 : 21 ≤ d + f) (h2 : t.dep 1 + d ≤ 20) : EatSX f d (holdK t t.tk 1) t.steps:=by
 obtain ⟨A,X,L,e1,e2,e3,e4⟩:=h.S f d h1 h2
 rw [e1,e2]; exact eat_sumX e3 e4
theorem trEat_atom {t : Tr} (hb : t.bnd = 3) (hd : ∀ l,t.dep l = 0) (h : ∀ f d,21 ≤ d + f → d ≤ 20 → EatFX f d t.tk t.steps) : TrEat t:=by
 have h3 : holdK t t.tk 3 = t.tk:=by unfold holdK; rw [hb,if_neg (by decide)]
 have h2 : holdK t t.tk 2 = t.tk:=by unfold holdK; rw [hb,if_neg (by decide)]
 have h1 : holdK t t.tk 1 = t.tk:=by unfold holdK; rw [hb,if_neg (by decide)]
 refine ⟨fun f d a b=>by rw [h3]; exact h f d a (by omega),fun f d a b=>⟨t.tk,t.steps,[],by rw [h2]; simp [toksF],by simp [stpsF],h f d a (by omega),fun q hq=>by simp at hq⟩,fun f d a b=>⟨t.tk,t.steps,[],by rw [h1]; simp [toksS],by simp [stpsS],?_,fun q hq=>by simp at hq⟩⟩
 have:=eat_termX (L:=[]) (h f d a (by omega)) (fun q hq=>by simp at hq)
 simpa [toksF,stpsF] using this
theorem trEat : ∀ (t : Tr),t.ok → t.good → TrEat t
 | .nm a,_,hg=>trEat_atom rfl (fun _=>rfl) fun f d h1 h2=>by
  obtain ⟨f,rfl⟩ : ∃ m,f = m + 1:=⟨f - 1,by omega⟩
  exact eat_nameX hg
 | .ar a b,_,hg=>trEat_atom rfl (fun _=>rfl) fun f d h1 h2=>by
  obtain ⟨f,rfl⟩ : ∃ m,f = m + 1:=⟨f - 1,by omega⟩
  exact eat_arrowX hg.1 hg.2
 | .op k x y,ho,hg=>by
  have ix:=trEat x ho.2.1 hg.1
  have iy:=trEat y ho.2.2 hg.2
  have hk : k = 3 ∨ k = 4 ∨ k = 5:=by have:=ho.1; omega
  have hsteps : (Tr.op k x y).steps = x.steps ++ (y.steps ++ [(k,[],[])]):=rfl
  by_cases h5 : k = 5
  ·subst h5
   have b5 : bindK 5 = 2:=by decide
   have htk : (Tr.op 5 x y).tk = holdK x x.tk 2 ++ (2,[38]) :: holdK y y.tk 3:=rfl
   have hdep : ∀ l,(Tr.op 5 x y).dep l = (if (2 : Int) < l then 1 else 0) + max (x.dep 2) (y.dep 3):=fun l=>rfl
   have T : ∀ f d,21 ≤ d + f → max (x.dep 2) (y.dep 3) + d ≤ 20 → ∃ A X,∃ L : FL,(Tr.op 5 x y).tk = A ++ toksF L ∧ (Tr.op 5 x y).steps = X ++ stpsF L ∧ EatFX f d A X ∧ ∀ q ∈ L,EatFX f d q.1 q.2:=by
    intro f d h1 h2
    obtain ⟨A,X,L,e1,e2,e3,e4⟩:=ix.T f d h1 (by omega)
    refine ⟨A,X,L ++ [(holdK y y.tk 3,y.steps)],?_,?_,e3,fun q hq=>?_⟩
    ·rw [htk,e1]; simp [toksF]
    ·rw [hsteps,e2]; simp [stpsF]
    ·rcases List.mem_append.1 hq with hq | hq
     ·exact e4 q hq
     ·simp only [List.mem_singleton] at hq
      subst hq
      exact iy.F f d h1 (by omega)
   have S : ∀ f d,21 ≤ d + f → max (x.dep 2) (y.dep 3) + d ≤ 20 → EatTX f d (Tr.op 5 x y).tk (Tr.op 5 x y).steps:=by
    intro f d h1 h2
    obtain ⟨A,X,L,e1,e2,e3,e4⟩:=T f d h1 h2
    rw [e1,e2]; exact eat_termX e3 e4
   refine ⟨fun f d h1 h2=>?_,fun f d h1 h2=>?_,fun f d h1 h2=>?_⟩
   ·rw [hdep,if_pos (by decide)] at h2
    obtain ⟨f,rfl⟩ : ∃ m,f = m + 1:=⟨f - 1,by omega⟩
    show EatFX (f + 1) d ((2,[40]) :: ((Tr.op 5 x y).tk ++ [(2,[41])])) _
    refine eat_parenX (by omega) ?_
    have:=eat_sumX (L:=[]) (S f (d + 1) (by omega) (by omega)) (fun q hq=>by simp at hq)
    simpa [toksS,stpsS] using this
   ·rw [hdep,if_neg (by decide)] at h2
    exact T f d h1 (by omega)
   ·rw [hdep,if_neg (by decide)] at h2
    exact ⟨(Tr.op 5 x y).tk,(Tr.op 5 x y).steps,[],by show (Tr.op 5 x y).tk = _; simp [toksS],by simp [stpsS],S f d h1 (by omega),fun q hq=>by simp at hq⟩
  ·have hk' : k = 3 ∨ k = 4:=by omega
   have bk : bindK k = 1:=by rcases hk' with rfl | rfl <;> decide
   have sk : sgT k = sgK k:=by rcases hk' with rfl | rfl <;> decide
   have htk : (Tr.op k x y).tk = holdK x x.tk 1 ++ (2,sgK k) :: holdK y y.tk 2:=by simp only [Tr.tk,bk,sk]; rfl
   have hdep : ∀ l,(Tr.op k x y).dep l = (if (1 : Int) < l then 1 else 0) + max (x.dep 1) (y.dep 2):=fun l=>by simp only [Tr.dep,bk]; rfl
   have hbnd : (Tr.op k x y).bnd = 1:=bk
   have S : ∀ f d,21 ≤ d + f → max (x.dep 1) (y.dep 2) + d ≤ 20 → ∃ A X,∃ L : SL,(Tr.op k x y).tk = A ++ toksS L ∧ (Tr.op k x y).steps = X ++ stpsS L ∧ EatTX f d A X ∧ ∀ q ∈ L,(q.1 = 3 ∨ q.1 = 4) ∧ EatTX f d q.2.1 q.2.2:=by
    intro f d h1 h2
    obtain ⟨A,X,L,e1,e2,e3,e4⟩:=ix.S f d h1 (by omega)
    refine ⟨A,X,L ++ [(k,holdK y y.tk 2,y.steps)],?_,?_,e3,fun q hq=>?_⟩
    ·rw [htk,e1]; simp [toksS]
    ·rw [hsteps,e2]; simp [stpsS]
    ·rcases List.mem_append.1 hq with hq | hq
     ·exact e4 q hq
     ·simp only [List.mem_singleton] at hq
      subst hq
      exact ⟨hk',iy.tx h1 (by omega)⟩
   have P : ∀ f d,21 ≤ d + f → 1 + max (x.dep 1) (y.dep 2) + d ≤ 20 → EatFX f d ((2,[40]) :: ((Tr.op k x y).tk ++ [(2,[41])])) (Tr.op k x y).steps:=by
    intro f d h1 h2
    obtain ⟨f,rfl⟩ : ∃ m,f = m + 1:=⟨f - 1,by omega⟩
    refine eat_parenX (by omega) ?_
    obtain ⟨A,X,L,e1,e2,e3,e4⟩:=S f (d + 1) (by omega) (by omega)
    rw [e1,e2]; exact eat_sumX e3 e4
   refine ⟨fun f d h1 h2=>?_,fun f d h1 h2=>?_,fun f d h1 h2=>?_⟩
   ·rw [hdep,if_pos (by decide)] at h2
    unfold holdK; rw [hbnd,if_pos (by decide)]
    exact P f d h1 (by omega)
   ·rw [hdep,if_pos (by decide)] at h2
    unfold holdK; rw [hbnd,if_pos (by decide)]
    exact ⟨_,_,[],by simp [toksF],by simp [stpsF],P f d h1 (by omega),fun q hq=>by simp at hq⟩
   ·rw [hdep,if_neg (by decide)] at h2
    unfold holdK; rw [hbnd,if_neg (by decide)]
    exact S f d h1 (by omega)
end Go.Fbs
namespace Go.Fbs
def Tr.src (l : List Tok) : Tr → Prop
 | .nm a=>∃ t ∈ l,t.1 = 1 ∧ t.2.2 = a
 | .ar a b=>(∃ t ∈ l,t.1 = 1 ∧ t.2.2 = a) ∧ ∃ t ∈ l,t.1 = 1 ∧ t.2.2 = b
 | .op _ x y=>x.src l ∧ y.src l
theorem src_mono {l l' : List Tok} (h : ∀ t ∈ l,t ∈ l') : ∀ {t : Tr},t.src l → t.src l'
 | .nm _,⟨t,h1,h2⟩=>⟨t,h t h1,h2⟩
 | .ar _ _,⟨⟨t,h1,h2⟩,⟨u,h3,h4⟩⟩=>⟨⟨t,h t h1,h2⟩,⟨u,h u h3,h4⟩⟩
 | .op _ _ _,⟨h1,h2⟩=>⟨src_mono h h1,src_mono h h2⟩
abbrev In (s1 s : PSt) : Prop:=∀ t ∈ s1.l,t ∈ s.l
theorem fail_in (e : Int) (s : PSt) : In (failM e s) s:=by unfold failM; split <;> exact fun _ h=>h
theorem pop_in (s : PSt) : In (popM s) s:=fun _ h=>List.mem_of_mem_tail h
theorem name_in (s : PSt) : In (nameM s).2.1 s:=by unfold nameM; split; exact pop_in s; exact fail_in _ _
theorem may_in (g : List UInt8) (s : PSt) : In (mayM g s).2 s:=by unfold mayM; split; exact pop_in s; exact fun _ h=>h
theorem sign_in (g : List UInt8) (s : PSt) : In (signM g s).2 s:=by unfold signM; split; exact pop_in s; exact fail_in _ _
theorem put_in (p : Stp) (a : Nat) (s : PSt) : In (putM p a s).2 s:=by unfold putM; split <;> exact fun _ h=>h
theorem name_src {s : PSt} (h : (nameM s).1 = true) : ∃ t ∈ s.l,t.1 = 1 ∧ t.2.2 = (nameM s).2.2.getD []:=by
 unfold nameM at h ⊢
 split at h
 ·rename_i h1
  rw [if_pos h1]
  refine ⟨hereM s,here_mem (named_ne h1),?_,rfl⟩
  unfold namedM at h1
  simp only [Bool.and_eq_true,decide_eq_true_eq] at h1
  exact h1.1
 ·simp at h
structure Rsr (f : Rd) : Prop where
 i : ∀ s,In (f s).2 s
 t : ∀ s,(f s).1 = true → ∃ t : Tr,(t.ok ∧ t.src s.l) ∧ (f s).2.x = s.x ++ t.steps
theorem rsr_factor {sum : Rd} (h : Rsr sum) : Rsr (factorOf sum):=by
 refine ⟨fun s=>?_,fun s hs=>?_⟩
 ·unfold factorOf
  split
  ·split
   ·exact fail_in _ _
   ·simp only
    have h1 : In (sum (popM { s with d:=s.d + 1 })).2 s:=fun t ht=>List.mem_of_mem_tail (h.i _ t ht)
    split
    ·exact fun t ht=>h1 t (sign_in _ _ t ht)
    ·exact h1
  ·simp only
   split
   ·split
    ·split
     ·exact fun t ht=>name_in s t (may_in _ _ t (name_in _ t (put_in _ _ _ t ht)))
     ·exact fun t ht=>name_in s t (may_in _ _ t (name_in _ t ht))
    ·exact fun t ht=>name_in s t (may_in _ _ t (put_in _ _ _ t ht))
   ·exact name_in s
 ·unfold factorOf at hs ⊢
  by_cases h1 : isM [40] s = true
  ·rw [if_pos h1] at hs ⊢
   by_cases h2 : s.d = 20
   ·rw [if_pos h2] at hs; simp at hs
   ·rw [if_neg h2] at hs ⊢
    simp only at hs ⊢
    cases hr : (sum (popM { s with d:=s.d + 1 })).1 with
    | false=>rw [hr] at hs; simp at hs
    | true =>
     rw [hr] at hs
     simp only [if_true] at hs ⊢
     obtain ⟨t,t1,t2⟩:=h.t (popM { s with d:=s.d + 1 }) hr
     refine ⟨t,⟨t1.1,src_mono (fun _ h=>List.mem_of_mem_tail h) t1.2⟩,?_⟩
     show (signM [41] _).2.x = _
     rw [sign_x,t2]; rfl
  ·rw [if_neg h1] at hs ⊢
   simp only at hs ⊢
   cases hn : (nameM s).1 with
   | false=>rw [hn] at hs; simp at hs
   | true =>
    rw [hn] at hs
    simp only [if_true] at hs ⊢
    cases hm : (mayM [45,62] (nameM s).2.1).1 with
    | true =>
     rw [hm] at hs
     simp only [if_true] at hs ⊢
     cases hq : (nameM (mayM [45,62] (nameM s).2.1).2).1 with
     | false=>rw [hq] at hs; simp at hs
     | true =>
      rw [hq] at hs
      simp only [if_true] at hs ⊢
      obtain ⟨u,u1,u2⟩:=name_src hq
      refine ⟨.ar ((nameM s).2.2.getD []) ((nameM (mayM [45,62] (nameM s).2.1).2).2.2.getD []),⟨trivial,name_src hn,u,name_in s u (may_in _ _ u u1),u2⟩,?_⟩
      rw [put_x hs,name_x,may_x,name_x]; rfl
    | false =>
     rw [hm] at hs
     simp only [Bool.false_eq_true,if_false] at hs ⊢
     refine ⟨.nm ((nameM s).2.2.getD []),⟨trivial,name_src hn⟩,?_⟩
     rw [put_x hs,may_x,name_x]; rfl
theorem rsr_termLoop {fac : Rd} (h : Rsr fac) : ∀ (k a : Nat) (s : PSt),In (termLoop fac k a s).2 s ∧ ∀ (Y : List Tok) (X : List Stp) (t0 : Tr),(∀ t ∈ s.l,t ∈ Y) → t0.ok ∧ t0.src Y → s.x = X ++ t0.steps → (termLoop fac k a s).1 = true →
  ∃ t : Tr,(t.ok ∧ t.src Y) ∧ (termLoop fac k a s).2.x = X ++ t.steps
 | 0,a,s=>⟨fun _ h=>h,fun Y X t0 hy h0 hx hs=>by simp [termLoop] at hs⟩
 | k + 1,a,s=>by
  unfold termLoop
  simp only
  cases hm : (mayM [38] s).1 with
  | false =>
   simp only [Bool.false_eq_true,if_false]
   exact ⟨may_in _ s,fun Y X t0 hy h0 hx _=>⟨t0,h0,by rw [may_x,hx]⟩⟩
  | true =>
   simp only [if_true]
   have i1 : In (fac (mayM [38] s).2).2 s:=fun t ht=>may_in _ s t (h.i _ t ht)
   cases hr : (fac (mayM [38] s).2).1 with
   | false =>
    simp only [Bool.false_eq_true,if_false]
    exact ⟨i1,fun Y X t0 hy h0 hx hs=>by simp at hs⟩
   | true =>
    simp only [if_true]
    have i2 : In (putM (5,[],[]) a (fac (mayM [38] s).2).2).2 s:=fun t ht=>i1 t (put_in _ _ _ t ht)
    cases hq : (putM (5,[],[]) a (fac (mayM [38] s).2).2).1 with
    | false =>
     simp only [Bool.false_eq_true,if_false]
     exact ⟨i2,fun Y X t0 hy h0 hx hs=>by simp at hs⟩
    | true =>
     simp only [if_true]
     have ih:=rsr_termLoop h k (hereM (putM (5,[],[]) a (fac (mayM [38] s).2).2).2).2.1 (putM (5,[],[]) a (fac (mayM [38] s).2).2).2
     refine ⟨fun t ht=>i2 t (ih.1 t ht),fun Y X t0 hy h0 hx hs=>?_⟩
     obtain ⟨t,t1,t2⟩:=h.t (mayM [38] s).2 hr
     exact ih.2 Y X (.op 5 t0 t) (fun u hu=>hy u (i2 u hu)) ⟨⟨by decide,h0.1,t1.1⟩,h0.2,src_mono (fun u hu=>hy u (may_in _ s u hu)) t1.2⟩ (by rw [put_x hq,t2,may_x,hx]; simp [Tr.steps,List.append_assoc]) hs
theorem rsr_term {fac : Rd} (h : Rsr fac) : Rsr (termOf fac):=by
 refine ⟨fun s=>?_,fun s hs=>?_⟩
 ·unfold termOf
  simp only
  split
  ·exact fun t ht=>h.i s t ((rsr_termLoop h _ _ _).1 t ht)
  ·exact h.i s
 ·unfold termOf at hs ⊢
  simp only at hs ⊢
  cases hr : (fac s).1 with
  | false=>simp [hr] at hs
  | true =>
   simp only [hr,if_true] at hs ⊢
   obtain ⟨t,t1,t2⟩:=h.t s hr
   exact (rsr_termLoop h _ _ (fac s).2).2 s.l s.x t (h.i s) t1 t2 hs
theorem rsr_sumLoop {ter : Rd} (h : Rsr ter) : ∀ (k : Nat) (s : PSt),In (sumLoop ter k s).2 s ∧ ∀ (Y : List Tok) (X : List Stp) (t0 : Tr),(∀ t ∈ s.l,t ∈ Y) → t0.ok ∧ t0.src Y → s.x = X ++ t0.steps → (sumLoop ter k s).1 = true →
  ∃ t : Tr,(t.ok ∧ t.src Y) ∧ (sumLoop ter k s).2.x = X ++ t.steps
 | 0,s=>⟨fun _ h=>h,fun Y X t0 hy h0 hx hs=>by simp [sumLoop] at hs⟩
 | k + 1,s=>by
  unfold sumLoop
  cases hm : (isM [43] s || isM [45] s) with
  | false =>
   simp only [Bool.false_eq_true,if_false]
   exact ⟨fun _ h=>h,fun Y X t0 hy h0 hx _=>⟨t0,h0,hx⟩⟩
  | true =>
   simp only [if_true]
   have i1 : In (ter (popM s)).2 s:=fun t ht=>pop_in s t (h.i _ t ht)
   generalize hk : (if isM [43] s = true then (3 : Int) else 4) = kd
   have hkd : kd = 3 ∨ kd = 4:=by split at hk <;> omega
   cases hr : (ter (popM s)).1 with
   | false =>
    simp only [Bool.false_eq_true,if_false]
    exact ⟨i1,fun Y X t0 hy h0 hx hs=>by simp at hs⟩
   | true =>
    simp only [if_true]
    have i2 : In (putM (kd,[],[]) (hereM s).2.1 (ter (popM s)).2).2 s:=fun t ht=>i1 t (put_in _ _ _ t ht)
    cases hq : (putM (kd,[],[]) (hereM s).2.1 (ter (popM s)).2).1 with
    | false =>
     simp only [Bool.false_eq_true,if_false]
     exact ⟨i2,fun Y X t0 hy h0 hx hs=>by simp at hs⟩
    | true =>
     simp only [if_true]
     have ih:=rsr_sumLoop h k (putM (kd,[],[]) (hereM s).2.1 (ter (popM s)).2).2
     refine ⟨fun t ht=>i2 t (ih.1 t ht),fun Y X t0 hy h0 hx hs=>?_⟩
     obtain ⟨t,t1,t2⟩:=h.t (popM s) hr
     exact ih.2 Y X (.op kd t0 t) (fun u hu=>hy u (i2 u hu)) ⟨⟨by omega,h0.1,t1.1⟩,h0.2,src_mono (fun u hu=>hy u (pop_in s u hu)) t1.2⟩ (by rw [put_x hq,t2,show (popM s).x = s.x from rfl,hx]; simp [Tr.steps,List.append_assoc]) hs
theorem rsr_sum {ter : Rd} (h : Rsr ter) : Rsr (sumOf ter):=by
 refine ⟨fun s=>?_,fun s hs=>?_⟩
 ·unfold sumOf
  simp only
  split
  ·exact fun t ht=>h.i s t ((rsr_sumLoop h _ _).1 t ht)
  ·exact h.i s
 ·unfold sumOf at hs ⊢
  simp only at hs ⊢
  cases hr : (ter s).1 with
  | false=>simp [hr] at hs
  | true =>
   simp only [hr,if_true] at hs ⊢
   obtain ⟨t,t1,t2⟩:=h.t s hr
   exact (rsr_sumLoop h _ (ter s).2).2 s.l s.x t (h.i s) t1 t2 hs
theorem rsr_M : ∀ f,Rsr (factorM f)
 | 0=>⟨fun _ _ h=>h,fun s hs=>by simp [factorM] at hs⟩
 | f + 1=>rsr_factor (rsr_sum (rsr_term (rsr_M f)))
def goT : List Stp → List Tr → Option (List Tr)
 | [],st=>some st
 | (k,a,b) :: r,st =>
  if k = 1 then goT r (.nm a :: st) else
  if k = 2 then goT r (.ar a b :: st) else
  match st with
  | y :: x :: st'=>goT r (.op k x y :: st')
  | _=>none
theorem goT_tr : ∀ {t : Tr} {r : List Stp} {st : List Tr},t.ok → goT (t.steps ++ r) st = goT r (t :: st)
 | .nm a,r,st,_=>by simp only [Tr.steps,List.cons_append,List.nil_append,goT,if_true]
 | .ar a b,r,st,_=>by
  simp only [Tr.steps,List.cons_append,List.nil_append,goT,if_true]
  rw [if_neg (by decide)]
 | .op k x y,r,st,⟨hk,hx,hy⟩=>by
  simp only [Tr.steps,List.append_assoc]
  rw [goT_tr hx,goT_tr hy]
  simp only [List.cons_append,List.nil_append,goT]
  rw [if_neg (by omega),if_neg (by omega)]
theorem steps_inj {t u : Tr} (ht : t.ok) (hu : u.ok) (h : t.steps = u.steps) : t = u:=by
 have h1:=goT_tr (r:=[]) (st:=[]) ht
 have h2:=goT_tr (r:=[]) (st:=[]) hu
 rw [h,h2] at h1
 simp only [goT,Option.some.injEq,List.cons.injEq,and_true] at h1
 exact h1.symm
theorem sum_read (f : Nat) (s : PSt) (hd : s.d ≤ 20) (hs : (sumOf (termOf (factorM f)) s).1 = true) :
  ∃ t : Tr,t.ok ∧ t.good ∧ t.src s.l ∧ (sumOf (termOf (factorM f)) s).2.x = s.x ++ t.steps ∧ t.dep 1 + s.d ≤ 20:=by
 obtain ⟨t,t1,t2,t3⟩:=sum_tree f s hd hs
 obtain ⟨u,u1,u2⟩:=(rsr_sum (rsr_term (rsr_M f))).t s hs
 have:=steps_inj t1.1 u1.1 (List.append_cancel_left (t2.symm.trans u2))
 subst this
 exact ⟨t,t1.1,t1.2,u1.2,t2,t3⟩
end Go.Fbs
namespace Go.Fbs
def letC (c : UInt8) : Bool:=letterB c.toNat
structure Lx (w : List UInt8) (ks : List (Int × List UInt8)) : Prop where
 sl : (47 : UInt8) ∉ w
 en : w.getLast? ≠ some 45
 ok : ∀ k,(lexT k w).2 = none
 kd : ∀ k,(lexT k w).1.map kt = ks
def noL (v : List UInt8) : Prop:=∀ c,v.head? = some c → letC c = false
theorem Lx.stop {w v : List UInt8} {ks : List (Int × List UInt8)} (h : Lx w ks) (hv : noL v) : stopB w v = true:=by
 unfold stopB
 split
 ·rfl
 ·rename_i c e
  have h1 : c ≠ 45:=fun h2=>h.en (by rw [e,h2])
  simp only [bne_iff_ne,ne_eq,h1,not_false_eq_true,Bool.and_eq_true,Bool.or_eq_true,true_and]
  right
  split
  ·rename_i d hd
   have:=hv d hd
   unfold letC at this
   rw [this]; rfl
  ·rfl
theorem Lx.app {w v : List UInt8} {ks js : List (Int × List UInt8)} (h : Lx w ks) (g : Lx v js) (hv : noL v) (hne : v ≠ []) : Lx (w ++ v) (ks ++ js) where
 sl:=by simp only [List.mem_append,not_or]; exact ⟨h.sl,g.sl⟩
 en:=by
  rw [List.getLast?_append,List.getLast?_eq_some_getLast hne]
  have:=g.en
  rw [List.getLast?_eq_some_getLast hne] at this
  exact this
 ok:=fun k=>by rw [lexT_app w.length w v k (Nat.le_refl _) h.sl (h.stop hv) (h.ok k)]; exact g.ok _
 kd:=fun k=>by rw [lexT_app w.length w v k (Nat.le_refl _) h.sl (h.stop hv) (h.ok k)]; simp only [List.map_append,h.kd,g.kd]
theorem Lx.pc {w v : List UInt8} {ks js : List (Int × List UInt8)} (h : Pc w ks) (g : Lx v js) (hne : v ≠ []) : Lx (w ++ v) (ks ++ js) where
 sl:=by simp only [List.mem_append,not_or]; exact ⟨h.sl,g.sl⟩
 en:=by
  rw [List.getLast?_append,List.getLast?_eq_some_getLast hne]
  have:=g.en
  rw [List.getLast?_eq_some_getLast hne] at this
  exact this
 ok:=fun k=>by rw [lexT_app w.length w v k (Nat.le_refl _) h.sl (h.en v) (h.ok k)]; exact g.ok _
 kd:=fun k=>by rw [lexT_app w.length w v k (Nat.le_refl _) h.sl (h.en v) (h.ok k)]; simp only [List.map_append,h.kd,g.kd]
theorem letC_ne {c : UInt8} (h : letC c = true) : c ≠ 47 ∧ blankB c = false ∧ c ≠ 45:=by
 refine ⟨fun e=>by subst e; revert h; decide,?_,fun e=>by subst e; revert h; decide⟩
 unfold blankB
 simp only [Bool.or_eq_false_iff,beq_eq_false_iff_ne]
 refine ⟨⟨⟨?_,?_⟩,?_⟩,?_⟩ <;> (intro e; subst e; revert h; decide)
theorem tw_all {f : UInt8 → Bool} : ∀ {a : List UInt8},(∀ c ∈ a,f c = true) → a.takeWhile f = a
 | [],_=>rfl
 | c :: a,h=>by
  rw [List.takeWhile_cons,if_pos (h c List.mem_cons_self),tw_all fun d hd=>h d (List.mem_cons_of_mem _ hd)]
theorem Lx.name {a : List UInt8} (hne : a ≠ []) (ha : ∀ c ∈ a,letC c = true) : Lx a [(1,a)]:=by
 obtain ⟨c,l,rfl⟩:=List.exists_cons_of_ne_nil hne
 have hc:=letC_ne (ha c List.mem_cons_self)
 have hr : rowN (c :: l) = (c :: l).length:=by
  unfold rowN
  rw [tw_all (f:=fun c=>letterB c.toNat) ha]
 have hn : nextT (c :: l) = (1,c :: l,true):=by
  unfold nextT
  rw [hr,if_pos (by simp),List.take_length]
 have hl : ∀ k,lexT k (c :: l) = ([(1,k,c :: l)],none):=fun k=>by
  rw [lexT_tok hc.1 hc.2.1,hn]
  simp [lexT_nil]
 refine ⟨fun h=>(letC_ne (ha _ h)).1 rfl,fun h=>?_,fun k=>by rw [hl],fun k=>by rw [hl]; rfl⟩
 exact (letC_ne (ha 45 (List.mem_of_getLast? h))).2.2 rfl
end Go.Fbs
namespace Go.Fbs
def Tr.lets : Tr → Prop
 | .nm a=>a ≠ [] ∧ ∀ c ∈ a,letC c = true
 | .ar a b=>(a ≠ [] ∧ ∀ c ∈ a,letC c = true) ∧ b ≠ [] ∧ ∀ c ∈ b,letC c = true
 | .op _ x y=>x.lets ∧ y.lets
theorem pce_bnd {t : Tr} (h : t.ok) : t.pce.2 = t.bnd:=by
 cases t with
 | nm a=>rfl
 | ar a b=>rfl
 | op k x y =>
  have hk : k = 3 ∨ k = 4 ∨ k = 5:=by have:=h.1; omega
  rcases hk with rfl | rfl | rfl <;> rfl
theorem Lx.of {w : List UInt8} {ks : List (Int × List UInt8)} (h : Pc w ks) (he : w.getLast? ≠ some 45) : Lx w ks:=⟨h.sl,he,h.ok,h.kd⟩
theorem noL_c {c : UInt8} {l : List UInt8} (h : letC c = false) : noL (c :: l):=fun d hd=>by
 simp only [List.head?_cons,Option.some.injEq] at hd
 subst hd; exact h
theorem pArr : Pc [45,62] [(2,[45,62])]:=by have h : Pc [45,62] (kindsT [45,62]):=Pc.of (by kernel_rfl); exact (show kindsT [45,62] = [(2,[45,62])] by kernel_rfl) ▸ h
theorem pOpen : Pc [40] [(2,[40])]:=by have h : Pc [40] (kindsT [40]):=Pc.of (by kernel_rfl); exact (show kindsT [40] = [(2,[40])] by kernel_rfl) ▸ h
theorem pClose : Pc [41] [(2,[41])]:=by have h : Pc [41] (kindsT [41]):=Pc.of (by kernel_rfl); exact (show kindsT [41] = [(2,[41])] by kernel_rfl) ▸ h
theorem pPlus : Pc [32,43,32] [(2,[43])]:=by have h : Pc [32,43,32] (kindsT [32,43,32]):=Pc.of (by kernel_rfl); exact (show kindsT [32,43,32] = [(2,[43])] by kernel_rfl) ▸ h
theorem pMinus : Pc [32,45,32] [(2,[45])]:=by have h : Pc [32,45,32] (kindsT [32,45,32]):=Pc.of (by kernel_rfl); exact (show kindsT [32,45,32] = [(2,[45])] by kernel_rfl) ▸ h
theorem pAnd : Pc [32,38,32] [(2,[38])]:=by have h : Pc [32,38,32] (kindsT [32,38,32]):=Pc.of (by kernel_rfl); exact (show kindsT [32,38,32] = [(2,[38])] by kernel_rfl) ▸ h
theorem lx_held {t : Tr} (ho : t.ok) (h : Lx t.pce.1 t.tk) (l : Int) : Lx (heldM t.pce l) (holdK t t.tk l):=by
 unfold heldM holdK
 rw [pce_bnd ho]
 split
 ·have h1 : Lx (t.pce.1 ++ [41]) (t.tk ++ [(2,[41])]):=h.app (Lx.of pClose (by decide)) (noL_c (by decide)) (by simp)
  exact Lx.pc pOpen h1 (by simp)
 ·exact h
theorem held_ne {q : Pce} (h : q.1 ≠ []) (l : Int) : heldM q l ≠ []:=by
 unfold heldM
 split
 ·simp
 ·exact h
theorem lx_join {a b s : List UInt8} {ka kb : List (Int × List UInt8)} {g : List UInt8} (ha : Lx a ka) (hb : Lx b kb) (hn : b ≠ []) (hs : Pc (32 :: s) [(2,g)]) : Lx (a ++ (32 :: s) ++ b) (ka ++ (2,g) :: kb):=by
 rw [List.append_assoc]
 exact ha.app (Lx.pc hs hb hn) (noL_c (by decide)) (by simp)
theorem tree_lx : ∀ (t : Tr),t.ok → t.lets → Lx t.pce.1 t.tk ∧ t.pce.1 ≠ []
 | .nm a,_,h=>⟨Lx.name h.1 h.2,h.1⟩
 | .ar a b,_,h=>by
  refine ⟨?_,by simp [Tr.pce]⟩
  have h1 : Lx ([45,62] ++ b) ([(2,[45,62])] ++ [(1,b)]):=Lx.pc pArr (Lx.name h.2.1 h.2.2) h.2.1
  have h2:=(Lx.name h.1.1 h.1.2).app h1 (noL_c (by decide)) (by simp)
  show Lx (a ++ [45,62] ++ b) _
  rw [List.append_assoc]; exact h2
 | .op k x y,ho,h=>by
  obtain ⟨hx,nx⟩:=tree_lx x ho.2.1 h.1
  obtain ⟨hy,ny⟩:=tree_lx y ho.2.2 h.2
  have hk : k = 3 ∨ k = 4 ∨ k = 5:=by have:=ho.1; omega
  rcases hk with rfl | rfl | rfl
  ·exact ⟨lx_join (lx_held ho.2.1 hx 1) (lx_held ho.2.2 hy 2) (held_ne ny _) pPlus,by simp [Tr.pce,jointM]⟩
  ·exact ⟨lx_join (lx_held ho.2.1 hx 1) (lx_held ho.2.2 hy 2) (held_ne ny _) pMinus,by simp [Tr.pce,jointM]⟩
  ·exact ⟨lx_join (lx_held ho.2.1 hx 2) (lx_held ho.2.2 hy 3) (held_ne ny _) pAnd,by simp [Tr.pce,jointM]⟩
theorem next_lets {l : List UInt8} (h : (nextT l).1 = 1) : (nextT l).2.1 ≠ [] ∧ ∀ c ∈ (nextT l).2.1,letC c = true:=by
 unfold nextT at h ⊢
 split at h
 ·rename_i h1
  rw [if_pos h1]
  have e : l.take (rowN l) = l.takeWhile fun c=>letterB c.toNat:=by
   unfold rowN
   exact (List.prefix_iff_eq_take.1 (List.takeWhile_prefix _)).symm
  refine ⟨fun h2=>?_,fun c hc=>?_⟩
  ·have h2 : l.take (rowN l) = []:=h2
   have : (l.take (rowN l)).length = 0:=by rw [h2]; rfl
   rw [e] at this
   unfold rowN at h1
   omega
  ·have hc : c ∈ l.take (rowN l):=hc
   rw [e] at hc
   exact mem_tw hc
 ·split at h <;> simp at h
theorem toks_lets : ∀ (f k : Nat) (l : List UInt8) (t : Tok),t ∈ (toks f k l).1 → t.1 = 1 → t.2.2 ≠ [] ∧ ∀ c ∈ t.2.2,letC c = true
 | 0,k,l,t,h,_=>by simp [toks] at h
 | f + 1,k,[],t,h,_=>by simp [toks] at h
 | f + 1,k,c :: l,t,h,h1=>by
  simp only [toks] at h
  split at h
  ·simp at h
  ·simp only [List.mem_cons] at h
   rcases h with rfl | h
   ·exact next_lets h1
   ·exact toks_lets f _ _ t h h1
theorem src_lets {l : List Tok} (hl : ∀ t ∈ l,t.1 = 1 → t.2.2 ≠ [] ∧ ∀ c ∈ t.2.2,letC c = true) : ∀ {t : Tr},t.src l → t.lets
 | .nm _,⟨u,h1,h2,h3⟩=>h3 ▸ hl u h1 h2
 | .ar _ _,⟨⟨u,h1,h2,h3⟩,⟨v,h4,h5,h6⟩⟩=>⟨h3 ▸ hl u h1 h2,h6 ▸ hl v h4 h5⟩
 | .op _ _ _,⟨h1,h2⟩=>⟨src_lets hl h1,src_lets hl h2⟩
end Go.Fbs
namespace Go.Fbs
def nmG (a : List UInt8) : Prop:=goodN a = true ∧ a ≠ [] ∧ ∀ c ∈ a,letC c = true
def subG (s : Sub) : Prop:=nmG s.1 ∧ s.2.1 = [] ∧ (s.2.2 = [] ∨ nmG s.2.2)
def relG (r : Rel) : Prop:=nmG r.1 ∧ ((r.2.2 = [] ∧ r.2.1 ≠ [] ∧ r.2.1.length ≤ 50 ∧ ∀ s ∈ r.2.1,subG s) ∨ (r.2.1 = [] ∧ ∃ t : Tr,t.ok ∧ t.good ∧ t.lets ∧ t.steps = r.2.2 ∧ t.steps.length ≤ 200 ∧ t.dep 1 ≤ 20))
def typG (t : Typ) : Prop:=nmG t.1 ∧ t.2.length ≤ 200 ∧ ∀ r ∈ t.2,relG r
def LetL (l : List Tok) : Prop:=∀ t ∈ l,t.1 = 1 → t.2.2 ≠ [] ∧ ∀ c ∈ t.2.2,letC c = true
theorem LetL.of {l l' : List Tok} (h : LetL l) (i : ∀ t ∈ l',t ∈ l) : LetL l':=fun t ht=>h t (i t ht)
theorem name_G {s : PSt} (h : (nameM s).1 = true) (hl : LetL s.l) : nmG ((nameM s).2.2.getD []):=by
 obtain ⟨t,h1,h2,h3⟩:=name_src h
 refine ⟨name_good h,?_⟩
 rw [← h3]; exact hl t h1 h2
theorem name_pp {s : PSt} (h : (nameM s).1 = true) : (nameM s).2.1 = popM s ∧ s.l ≠ []:=by
 unfold nameM at h ⊢
 split at h
 ·rename_i h1; rw [if_pos h1]; exact ⟨rfl,named_ne h1⟩
 ·simp at h
theorem pop_len {s : PSt} (h : s.l ≠ []) : (popM s).l.length + 1 = s.l.length:=by
 show s.l.tail.length + 1 = _
 cases hl : s.l with
 | nil=>exact absurd hl h
 | cons a r=>simp
theorem may_pp {g : List UInt8} {s : PSt} (h : (mayM g s).1 = true) : (mayM g s).2 = popM s ∧ s.l ≠ []:=by
 unfold mayM at h ⊢
 split at h
 ·rename_i h1; rw [if_pos h1]; exact ⟨rfl,is_ne h1⟩
 ·simp at h
theorem may_pn {g : List UInt8} {s : PSt} (h : (mayM g s).1 = false) : (mayM g s).2 = s:=by
 unfold mayM at h ⊢
 split at h
 ·simp at h
 ·rename_i h1; rw [if_neg h1]
theorem sign_pp {g : List UInt8} {s : PSt} (h : (signM g s).1 = true) : (signM g s).2 = popM s ∧ s.l ≠ []:=by
 unfold signM at h ⊢
 split at h
 ·rename_i h1; rw [if_pos h1]; exact ⟨rfl,is_ne h1⟩
 ·simp at h
theorem some_pp {n most : Int} {s : PSt} (h : (someM n most s).1 = true) : n < most ∧ (someM n most s).2 = s:=(some_d n most s).2.2 h
theorem put_pp {p : Stp} {a : Nat} {s : PSt} (h : (putM p a s).1 = true) : s.x.length < 200 ∧ (putM p a s).2 = { s with x:=s.x ++ [p] }:=by
 unfold putM at h ⊢
 split at h
 ·simp at h
 ·rename_i h1; rw [if_neg h1]; exact ⟨by omega,rfl⟩
structure Rwt (f : Rd) : Prop where
 w : ∀ s,(f s).1 = true → (f s).2.x.length + (f s).2.l.length ≤ s.x.length + s.l.length ∧ (s.x.length ≤ 200 → (f s).2.x.length ≤ 200)
theorem rwt_factor {sum : Rd} (h : Rwt sum) : Rwt (factorOf sum):=by
 refine ⟨fun s hs=>?_⟩
 unfold factorOf at hs ⊢
 by_cases h1 : isM [40] s = true
 ·rw [if_pos h1] at hs ⊢
  by_cases h2 : s.d = 20
  ·rw [if_pos h2] at hs; simp at hs
  ·rw [if_neg h2] at hs ⊢
   simp only at hs ⊢
   cases hr : (sum (popM { s with d:=s.d + 1 })).1 with
   | false=>rw [hr] at hs; simp at hs
   | true =>
    rw [hr] at hs
    simp only [if_true] at hs ⊢
    have:=h.w (popM { s with d:=s.d + 1 }) hr
    have hp : (popM { s with d:=s.d + 1 }).l.length ≤ s.l.length:=(pop_d { s with d:=s.d + 1 }).2
    have hx : (popM { s with d:=s.d + 1 }).x = s.x:=rfl
    rw [hx] at this
    have hq:=sign_pp (g:=[41]) (s:=(sum (popM { s with d:=s.d + 1 })).2) hs
    rw [hq.1]
    have hp2:=(pop_d (sum (popM { s with d:=s.d + 1 })).2).2
    show (popM _).x.length + (popM _).l.length ≤ _ ∧ (_ → (popM _).x.length ≤ 200)
    have hx2 : (popM (sum (popM { s with d:=s.d + 1 })).2).x = (sum (popM { s with d:=s.d + 1 })).2.x:=rfl
    rw [hx2]
    exact ⟨by omega,this.2⟩
 ·rw [if_neg h1] at hs ⊢
  simp only at hs ⊢
  cases hn : (nameM s).1 with
  | false=>rw [hn] at hs; simp at hs
  | true =>
   rw [hn] at hs
   obtain ⟨n1,n2⟩:=name_pp hn
   have hpl:=pop_len n2
   simp only [if_true] at hs ⊢
   rw [n1] at hs ⊢
   have hpx : (popM s).x = s.x:=rfl
   cases hm : (mayM [45,62] (popM s)).1 with
   | true =>
    rw [hm] at hs
    obtain ⟨m1,m2⟩:=may_pp hm
    have hpl2:=pop_len m2
    simp only [if_true] at hs ⊢
    rw [m1] at hs ⊢
    cases hq : (nameM (popM (popM s))).1 with
    | false=>rw [hq] at hs; simp at hs
    | true =>
     rw [hq] at hs
     obtain ⟨q1,q2⟩:=name_pp hq
     have hpl3:=pop_len q2
     simp only [if_true] at hs ⊢
     rw [q1] at hs ⊢
     obtain ⟨p1,p2⟩:=put_pp hs
     rw [p2]
     have e : (popM (popM (popM s))).x = s.x:=rfl
     simp only [e,List.length_append,List.length_singleton] at p1 ⊢
     exact ⟨by omega,fun _=>by omega⟩
   | false =>
    rw [hm] at hs
    have m1:=may_pn hm
    simp only [Bool.false_eq_true,if_false] at hs ⊢
    rw [m1] at hs ⊢
    obtain ⟨p1,p2⟩:=put_pp hs
    rw [p2]
    simp only [hpx,List.length_append,List.length_singleton] at p1 ⊢
    exact ⟨by omega,fun _=>by omega⟩
theorem rwt_termLoop {fac : Rd} (h : Rwt fac) : ∀ (k a : Nat) (s : PSt),(termLoop fac k a s).1 = true → (termLoop fac k a s).2.x.length + (termLoop fac k a s).2.l.length ≤ s.x.length + s.l.length ∧ (s.x.length ≤ 200 → (termLoop fac k a s).2.x.length ≤ 200)
 | 0,a,s,hs=>by simp [termLoop] at hs
 | k + 1,a,s,hs=>by
  unfold termLoop at hs ⊢
  simp only at hs ⊢
  cases hm : (mayM [38] s).1 with
  | false=>simp only [hm,Bool.false_eq_true,if_false]; rw [may_pn hm]; exact ⟨Nat.le_refl _,id⟩
  | true =>
   simp only [hm,if_true] at hs ⊢
   obtain ⟨m1,m2⟩:=may_pp hm
   have hpl:=pop_len m2
   rw [m1] at hs ⊢
   cases hr : (fac (popM s)).1 with
   | false=>simp [hr] at hs
   | true =>
    simp only [hr,if_true] at hs ⊢
    have h1:=h.w (popM s) hr
    have hpx : (popM s).x = s.x:=rfl
    rw [hpx] at h1
    cases hq : (putM (5,[],[]) a (fac (popM s)).2).1 with
    | false=>simp [hq] at hs
    | true =>
     simp only [hq,if_true] at hs ⊢
     obtain ⟨p1,p2⟩:=put_pp hq
     rw [p2] at hs ⊢
     have ih:=rwt_termLoop h k _ _ hs
     simp only [List.length_append,List.length_singleton] at ih
     exact ⟨by omega,fun _=>ih.2 (by omega)⟩
theorem rwt_term {fac : Rd} (h : Rwt fac) : Rwt (termOf fac):=by
 refine ⟨fun s hs=>?_⟩
 unfold termOf at hs ⊢
 simp only at hs ⊢
 cases hr : (fac s).1 with
 | false=>simp [hr] at hs
 | true =>
  simp only [hr,if_true] at hs ⊢
  have h1:=h.w s hr
  have h2:=rwt_termLoop h _ _ _ hs
  exact ⟨by omega,fun h9=>h2.2 (h1.2 h9)⟩
theorem rwt_sumLoop {ter : Rd} (h : Rwt ter) : ∀ (k : Nat) (s : PSt),(sumLoop ter k s).1 = true → (sumLoop ter k s).2.x.length + (sumLoop ter k s).2.l.length ≤ s.x.length + s.l.length ∧ (s.x.length ≤ 200 → (sumLoop ter k s).2.x.length ≤ 200)
 | 0,s,hs=>by simp [sumLoop] at hs
 | k + 1,s,hs=>by
  unfold sumLoop at hs ⊢
  cases hm : (isM [43] s || isM [45] s) with
  | false=>simp only [hm,Bool.false_eq_true,if_false]; exact ⟨Nat.le_refl _,id⟩
  | true =>
   simp only [hm,if_true] at hs ⊢
   have hne : s.l ≠ []:=by
    simp only [Bool.or_eq_true] at hm
    rcases hm with hm | hm <;> exact is_ne hm
   have hpl:=pop_len hne
   cases hr : (ter (popM s)).1 with
   | false=>simp [hr] at hs
   | true =>
    simp only [hr,if_true] at hs ⊢
    have h1:=h.w (popM s) hr
    have hpx : (popM s).x = s.x:=rfl
    rw [hpx] at h1
    generalize ((if isM [43] s = true then 3 else 4,[],[]) : Stp) = st at *
    cases hq : (putM st (hereM s).2.1 (ter (popM s)).2).1 with
    | false=>simp [hq] at hs
    | true =>
     simp only [hq,if_true] at hs ⊢
     obtain ⟨p1,p2⟩:=put_pp hq
     rw [p2] at hs ⊢
     have ih:=rwt_sumLoop h k _ hs
     simp only [List.length_append,List.length_singleton] at ih
     exact ⟨by omega,fun _=>ih.2 (by omega)⟩
theorem rwt_sum {ter : Rd} (h : Rwt ter) : Rwt (sumOf ter):=by
 refine ⟨fun s hs=>?_⟩
 unfold sumOf at hs ⊢
 simp only at hs ⊢
 cases hr : (ter s).1 with
 | false=>simp [hr] at hs
 | true =>
  simp only [hr,if_true] at hs ⊢
  have h1:=h.w s hr
  have h2:=rwt_sumLoop h _ _ hs
  exact ⟨by omega,fun h9=>h2.2 (h1.2 h9)⟩
theorem rwt_M : ∀ f,Rwt (factorM f)
 | 0=>⟨fun s hs=>by simp [factorM] at hs⟩
 | f + 1=>rwt_factor (rwt_sum (rwt_term (rwt_M f)))
theorem sumM_read {s : PSt} (hd : s.d ≤ 20) (hx : s.x = []) (h : (sumM s).1 = true) :
  (∃ t : Tr,t.ok ∧ t.good ∧ t.src s.l ∧ (sumM s).2.x = t.steps ∧ t.steps.length ≤ 200 ∧ t.dep 1 + s.d ≤ 20) ∧ In (sumM s).2 s ∧ (sumM s).2.x.length + (sumM s).2.l.length ≤ s.l.length:=by
 unfold sumM at h ⊢
 obtain ⟨t,t1,t2,t3,t4,t5⟩:=sum_read 21 s hd h
 have hw:=(rwt_sum (rwt_term (rwt_M 21))).w s h
 rw [hx] at t4 hw
 rw [List.nil_append] at t4
 refine ⟨⟨t,t1,t2,t3,t4,by rw [← t4]; exact hw.2 (by simp),t5⟩,(rsr_sum (rsr_term (rsr_M 21))).i s,by simpa using hw.1⟩
attribute [local irreducible] sumM factorM
theorem subLoop_G : ∀ (k : Nat) (s : PSt) (l : List Sub),LetL s.l → (∀ x ∈ l,subG x) → (subLoop k s l).1 = true →
  In (subLoop k s l).2.1 s ∧ (∀ x ∈ (subLoop k s l).2.2,subG x) ∧ (subLoop k s l).2.2.length ≤ 50 ∧ (subLoop k s l).2.2 ≠ [] ∧ (subLoop k s l).2.2.length + (subLoop k s l).2.1.l.length ≤ l.length + s.l.length
 | 0,s,l,_,_,hs=>by simp [subLoop] at hs
 | k + 1,s,l,hl,hG,hs=>by
  unfold subLoop at hs ⊢
  simp only at hs ⊢
  cases ha : (someM l.length 50 s).1 with
  | false=>simp [ha] at hs
  | true =>
   obtain ⟨a1,a2⟩:=some_pp ha
   simp only [ha,if_true] at hs ⊢
   rw [a2] at hs ⊢
   cases hn : (nameM s).1 with
   | false=>simp [hn] at hs
   | true =>
    obtain ⟨n1,n2⟩:=name_pp hn
    have g1:=name_G hn hl
    have hpl:=pop_len n2
    simp only [hn,if_true] at hs ⊢
    rw [n1] at hs ⊢
    cases hm : (mayM [35] (popM s)).1 with
    | true =>
     obtain ⟨m1,m2⟩:=may_pp hm
     have hpl2:=pop_len m2
     simp only [hm,if_true] at hs ⊢
     rw [m1] at hs ⊢
     have hl2 : LetL (popM (popM s)).l:=hl.of fun t ht=>pop_in s t (pop_in _ t ht)
     cases hq : (nameM (popM (popM s))).1 with
     | false=>simp [hq] at hs
     | true =>
      obtain ⟨q1,q2⟩:=name_pp hq
      have g2:=name_G hq hl2
      have hpl3:=pop_len q2
      simp only [hq,if_true] at hs ⊢
      rw [q1] at hs ⊢
      have hG' : ∀ x ∈ l ++ [((nameM s).2.2.getD [],[],(nameM (popM (popM s))).2.2.getD [])],subG x:=fun x hx=>by
       rcases List.mem_append.1 hx with hx | hx
       ·exact hG x hx
       ·simp only [List.mem_singleton] at hx; subst hx; exact ⟨g1,rfl,.inr g2⟩
      have i3 : In (popM (popM (popM s))) s:=fun t ht=>pop_in s t (pop_in _ t (pop_in _ t ht))
      cases hb : (mayM [124] (popM (popM (popM s)))).1 with
      | true =>
       obtain ⟨b1,b2⟩:=may_pp hb
       have hpl4:=pop_len b2
       simp only [hb,if_true] at hs ⊢
       rw [b1] at hs ⊢
       have i4 : In (popM (popM (popM (popM s)))) s:=fun t ht=>i3 t (pop_in _ t ht)
       obtain ⟨r1,r2,r3,r4,r5⟩:=subLoop_G k _ _ (hl.of i4) hG' hs
       refine ⟨fun t ht=>i4 t (r1 t ht),r2,r3,r4,?_⟩
       simp only [List.length_append,List.length_singleton] at r5
       omega
      | false =>
       have b1:=may_pn hb
       simp only [hb,Bool.false_eq_true,if_false] at hs ⊢
       rw [b1]
       refine ⟨i3,hG',by simp only [List.length_append,List.length_singleton]; omega,by simp,?_⟩
       simp only [List.length_append,List.length_singleton]; omega
    | false =>
     have m1:=may_pn hm
     simp only [hm,Bool.false_eq_true,if_false] at hs ⊢
     rw [m1] at hs ⊢
     have hG' : ∀ x ∈ l ++ [((nameM s).2.2.getD [],([] : List UInt8),([] : List UInt8))],subG x:=fun x hx=>by
      rcases List.mem_append.1 hx with hx | hx
      ·exact hG x hx
      ·simp only [List.mem_singleton] at hx; subst hx; exact ⟨g1,rfl,.inl rfl⟩
     cases hb : (mayM [124] (popM s)).1 with
     | true =>
      obtain ⟨b1,b2⟩:=may_pp hb
      have hpl4:=pop_len b2
      simp only [hb,if_true] at hs ⊢
      rw [b1] at hs ⊢
      have i4 : In (popM (popM s)) s:=fun t ht=>pop_in s t (pop_in _ t ht)
      obtain ⟨r1,r2,r3,r4,r5⟩:=subLoop_G k _ _ (hl.of i4) hG' hs
      refine ⟨fun t ht=>i4 t (r1 t ht),r2,r3,r4,?_⟩
      simp only [List.length_append,List.length_singleton] at r5
      omega
     | false =>
      have b1:=may_pn hb
      simp only [hb,Bool.false_eq_true,if_false] at hs ⊢
      rw [b1]
      refine ⟨pop_in s,hG',by simp only [List.length_append,List.length_singleton]; omega,by simp,?_⟩
      simp only [List.length_append,List.length_singleton]; omega
def relN (r : Rel) : Nat:=1 + (r.2.1.length + r.2.2.length)
def relsN (l : List Rel) : Nat:=(l.map relN).sum
def typN (t : Typ) : Nat:=1 + relsN t.2
def typsN (l : List Typ) : Nat:=(l.map typN).sum
theorem relsN_app (l : List Rel) (r : Rel) : relsN (l ++ [r]) = relsN l + relN r:=by simp [relsN]
theorem typsN_app (l : List Typ) (r : Typ) : typsN (l ++ [r]) = typsN l + typN r:=by simp [typsN]
theorem relation_G {s : PSt} {l : List Rel} (hd : s.d = 0) (hl : LetL s.l) (hs : (relationM s l).1 = true) :
  In (relationM s l).2.1 s ∧ ∃ r,(relationM s l).2.2 = l ++ [r] ∧ relG r ∧ l.length < 200 ∧ relN r + (relationM s l).2.1.l.length ≤ s.l.length:=by
 unfold relationM at hs ⊢
 simp only at hs ⊢
 cases ha : (someM l.length 200 s).1 with
 | false=>simp [ha] at hs
 | true =>
  obtain ⟨a1,a2⟩:=some_pp ha
  have a1 : l.length < 200:=by omega
  simp only [ha,if_true] at hs ⊢
  rw [a2] at hs ⊢
  cases hn : (nameM s).1 with
  | false=>simp [hn] at hs
  | true =>
   obtain ⟨n1,n2⟩:=name_pp hn
   have g1:=name_G hn hl
   have hpl:=pop_len n2
   simp only [hn,if_true] at hs ⊢
   rw [n1] at hs ⊢
   cases hm : (mayM [61] (popM s)).1 with
   | true =>
    obtain ⟨m1,m2⟩:=may_pp hm
    have hpl2:=pop_len m2
    simp only [hm,if_true] at hs ⊢
    rw [m1] at hs ⊢
    cases hq : (sumM { popM (popM s) with x:=[] }).1 with
    | false=>simp [hq] at hs
    | true =>
     simp only [hq,if_true] at hs ⊢
     obtain ⟨⟨t,t1,t2,t3,t4,t5,t6⟩,i1,w1⟩:=sumM_read (s:={ popM (popM s) with x:=[] }) (by show s.d ≤ 20; omega) rfl hq
     obtain ⟨z1,z2⟩:=sign_pp hs
     have hpl3:=pop_len z2
     rw [z1]
     have i2 : In { popM (popM s) with x:=[] } s:=fun t ht=>pop_in s t (pop_in _ t ht)
     have w1 : (sumM { popM (popM s) with x:=[] }).2.x.length + (sumM { popM (popM s) with x:=[] }).2.l.length ≤ (popM (popM s)).l.length:=w1
     generalize sumM { popM (popM s) with x:=[] } = Q at *
     refine ⟨fun t ht=>i2 t (i1 t (pop_in _ t ht)),_,rfl,⟨g1,.inr ⟨rfl,t,t1,t2,src_lets hl (src_mono i2 t3),t4.symm,t5,?_⟩⟩,a1,?_⟩
     ·have : t.dep 1 + s.d ≤ 20:=t6
      omega
     ·simp only [relN,List.length_nil]
      omega
   | false =>
    have m1:=may_pn hm
    simp only [hm,Bool.false_eq_true,if_false] at hs ⊢
    rw [m1] at hs ⊢
    cases hc : (signM [58] (popM s)).1 with
    | false=>simp [hc] at hs
    | true =>
     obtain ⟨c1,c2⟩:=sign_pp hc
     have hpl2:=pop_len c2
     simp only [hc,if_true] at hs ⊢
     rw [c1] at hs ⊢
     have i2 : In (popM (popM s)) s:=fun t ht=>pop_in s t (pop_in _ t ht)
     cases hq : (subsM (popM (popM s)) []).1 with
     | false=>simp [hq] at hs
     | true =>
      simp only [hq,if_true] at hs ⊢
      obtain ⟨z1,z2⟩:=sign_pp hs
      have hpl3:=pop_len z2
      have hS:=subLoop_G ((popM (popM s)).l.length + 1) (popM (popM s)) [] (hl.of i2) (fun x hx=>by simp at hx) hq
      obtain ⟨i1,r2,r3,r4,r5⟩:=hS
      rw [z1]
      refine ⟨fun t ht=>i2 t (i1 t (pop_in _ t ht)),_,rfl,⟨g1,.inl ⟨rfl,r4,r3,r2⟩⟩,a1,?_⟩
      have e1 : (subLoop ((popM (popM s)).l.length + 1) (popM (popM s)) []) = subsM (popM (popM s)) []:=rfl
      rw [e1] at r5
      simp only [relN,List.length_nil] at r5 ⊢
      omega
attribute [local irreducible] relationM
theorem relLoop_G : ∀ (k : Nat) (s : PSt) (l : List Rel),s.d = 0 → LetL s.l → (∀ r ∈ l,relG r) → l.length ≤ 200 → (relLoop k s l).1 = true →
  In (relLoop k s l).2.1 s ∧ (∀ r ∈ (relLoop k s l).2.2,relG r) ∧ (relLoop k s l).2.2.length ≤ 200 ∧ relsN (relLoop k s l).2.2 + (relLoop k s l).2.1.l.length ≤ relsN l + s.l.length
 | 0,s,l,_,_,_,_,hs=>by simp [relLoop] at hs
 | k + 1,s,l,hd,hl,hG,h200,hs=>by
  unfold relLoop at hs ⊢
  simp only at hs ⊢
  cases hm : (mayM [125] s).1 with
  | true =>
   obtain ⟨m1,m2⟩:=may_pp hm
   have:=pop_len m2
   simp only [hm,if_true]
   rw [m1]
   exact ⟨pop_in s,hG,h200,by omega⟩
  | false =>
   have m1:=may_pn hm
   simp only [hm,Bool.false_eq_true,if_false] at hs ⊢
   rw [m1] at hs ⊢
   cases hr : (relationM s l).1 with
   | false=>simp [hr] at hs
   | true =>
    simp only [hr,if_true] at hs ⊢
    obtain ⟨i1,r,e1,g1,w0,w1⟩:=relation_G hd hl hr
    have hd':=(relation_d s l).1
    rw [e1] at hs ⊢
    obtain ⟨r1,r2,r3,r4⟩:=relLoop_G k _ _ (by rw [hd',hd]) (hl.of i1) (fun x hx=>by
     rcases List.mem_append.1 hx with hx | hx
     ·exact hG x hx
     ·simp only [List.mem_singleton] at hx; subst hx; exact g1) (by simp only [List.length_append,List.length_singleton]; omega) hs
    rw [relsN_app] at r4
    exact ⟨fun t ht=>i1 t (r1 t ht),r2,r3,by omega⟩
theorem one_G {n : Int} {s : PSt} (hd : s.d = 0) (hl : LetL s.l) (hs : (oneM n s).1 = true) : In (oneM n s).2.1 s ∧ typG (oneM n s).2.2 ∧ typN (oneM n s).2.2 + (oneM n s).2.1.l.length ≤ s.l.length:=by
 unfold oneM at hs ⊢
 simp only at hs ⊢
 cases ha : (someM n 200 s).1 with
 | false=>simp [ha] at hs
 | true =>
  obtain ⟨a1,a2⟩:=some_pp ha
  simp only [ha,if_true] at hs ⊢
  rw [a2] at hs ⊢
  cases hw : wordM s with
  | false=>simp [hw] at hs
  | true =>
   have w2:=word_ne hw
   have hpl:=pop_len w2
   simp only [hw,if_true] at hs ⊢
   have hl1 : LetL (popM s).l:=hl.of (pop_in s)
   cases hn : (nameM (popM s)).1 with
   | false=>simp [hn] at hs
   | true =>
    obtain ⟨n1,n2⟩:=name_pp hn
    have g1:=name_G hn hl1
    have hpl2:=pop_len n2
    simp only [hn,if_true] at hs ⊢
    rw [n1] at hs ⊢
    have i2 : In (popM (popM s)) s:=fun t ht=>pop_in s t (pop_in _ t ht)
    cases hm : (mayM [123] (popM (popM s))).1 with
    | true =>
     obtain ⟨m1,m2⟩:=may_pp hm
     have hpl3:=pop_len m2
     simp only [hm,if_true] at hs ⊢
     rw [m1] at hs ⊢
     have i3 : In (popM (popM (popM s))) s:=fun t ht=>i2 t (pop_in _ t ht)
     obtain ⟨r1,r2,r3,r4⟩:=relLoop_G _ (popM (popM (popM s))) [] hd (hl.of i3) (fun r hr=>by simp at hr) (by simp) hs
     refine ⟨fun t ht=>i3 t (r1 t ht),⟨g1,r3,r2⟩,?_⟩
     have : relsN [] = 0:=rfl
     simp only [typN]
     omega
    | false =>
     have m1:=may_pn hm
     simp only [hm,Bool.false_eq_true,if_false] at hs ⊢
     rw [m1]
     refine ⟨i2,⟨g1,by simp,fun r hr=>by simp at hr⟩,?_⟩
     simp only [typN,relsN,List.map_nil,List.sum_nil]
     omega
attribute [local irreducible] oneM
theorem parseLoop_G : ∀ (k : Nat) (s : PSt) (l : List Typ),s.d = 0 → LetL s.l → (∀ t ∈ l,typG t) → l.length ≤ 200 → (parseLoop k s l).1 = true →
  (∀ t ∈ (parseLoop k s l).2.2,typG t) ∧ (parseLoop k s l).2.2.length ≤ 200 ∧ typsN (parseLoop k s l).2.2 ≤ typsN l + s.l.length
 | 0,s,l,_,_,_,_,hs=>by simp [parseLoop] at hs
 | k + 1,s,l,hd,hl,hG,h200,hs=>by
  unfold parseLoop at hs ⊢
  by_cases he : s.l = []
  ·rw [if_pos he]; exact ⟨hG,h200,Nat.le_add_right _ _⟩
  ·rw [if_neg he] at hs ⊢
   simp only at hs ⊢
   cases hr : (oneM l.length s).1 with
   | false=>simp [hr] at hs
   | true =>
    simp only [hr,if_true] at hs ⊢
    obtain ⟨i1,g1,w1⟩:=one_G hd hl hr
    have hd':=one_d l.length s
    have:=(hd'.2.2 hr).2
    obtain ⟨r1,r2,r3⟩:=parseLoop_G k _ _ (by rw [hd'.1,hd]) (hl.of i1) (fun x hx=>by
     rcases List.mem_append.1 hx with hx | hx
     ·exact hG x hx
     ·simp only [List.mem_singleton] at hx; subst hx; exact g1) (by simp only [List.length_append,List.length_singleton]; omega) hs
    rw [typsN_app] at r3
    exact ⟨r1,r2,by omega⟩
theorem toks_len : ∀ (f k : Nat) (l : List UInt8),(toks f k l).1.length ≤ f
 | 0,k,l=>by simp [toks]
 | f + 1,k,[]=>by simp [toks]
 | f + 1,k,c :: l=>by
  simp only [toks]
  split
  ·simp
  ·simp only [List.length_cons]
   have:=toks_len f
   exact Nat.succ_le_succ (this _ _)
theorem tokensT_G (l : List UInt8) : LetL (tokensT l).1 ∧ (tokensT l).1.length ≤ l.length:=by
 unfold tokensT
 split
 ·exact ⟨fun t ht=>by simp at ht,by simp⟩
 ·simp only
  split
  ·exact ⟨fun t ht=>by simp at ht,by simp⟩
  ·exact ⟨fun t ht h1=>toks_lets _ _ _ t ht h1,toks_len _ _ _⟩
theorem parse_G (l : List UInt8) : (∀ t ∈ (parseM l).1,typG t) ∧ (parseM l).1.length ≤ 200 ∧ typsN (parseM l).1 ≤ l.length:=by
 have nil : (∀ t ∈ ([] : List Typ),typG t) ∧ ([] : List Typ).length ≤ 200 ∧ typsN ([] : List Typ) ≤ l.length:=⟨fun t ht=>by simp at ht,by simp,by simp [typsN]⟩
 obtain ⟨h1,h2⟩:=tokensT_G l
 unfold parseM
 split
 ·exact nil
 ·unfold finM
  split
  ·rename_i hp
   obtain ⟨r1,r2,r3⟩:=parseLoop_G _ _ _ (show (startM l).d = 0 from rfl) (show LetL (startM l).l from h1) (fun t ht=>by simp at ht) (by simp) hp
   have e : (startM l).l.length = (tokensT l).1.length:=rfl
   have e0 : typsN [] = 0:=rfl
   exact ⟨r1,r2,Nat.le_trans r3 (by rw [e0,e]; omega)⟩
  ·exact nil
end Go.Fbs
namespace Go.Fbs
def subTx (s : Sub) : List UInt8:=if s.2.2 = [] then s.1 else s.1 ++ ([35] ++ s.2.2)
def subK (s : Sub) : List KT:=if s.2.2 = [] then [(1,s.1)] else [(1,s.1),(2,[35]),(1,s.2.2)]
def subsTx (l : List Sub) : List UInt8:=Lib.join (l.map subTx) [32,124,32]
def subsK : List Sub → List KT
 | []=>[]
 | s :: r=>subK s ++ if r = [] then [] else (2,[124]) :: subsK r
def relTx (r : Rel) : List UInt8:=if r.2.2 = [] then r.1 ++ [58,32] ++ subsTx r.2.1 ++ [59] else r.1 ++ [32,61,32] ++ (toldM r.2.2).getD [] ++ [59]
def relsTx (l : List Rel) : List UInt8:=l.flatMap fun r=>[9] ++ relTx r ++ [10]
def typTx (t : Typ) : List UInt8:=[116,121,112,101,32] ++ t.1 ++ (if t.2 = [] then [] else [32,123,10] ++ relsTx t.2 ++ [125]) ++ [10]
def typsTx (l : List Typ) : List UInt8:=l.flatMap typTx
theorem Lx.fin {w v : List UInt8} {ks js : List KT} (h : Lx w ks) (g : Pc v js) (hv : noL v) (hne : v ≠ []) : Pc (w ++ v) (ks ++ js) where
 sl:=by simp only [List.mem_append,not_or]; exact ⟨h.sl,g.sl⟩
 en:=fun suf=>by
  have:=g.en suf
  unfold stopB at this ⊢
  rw [List.getLast?_append,List.getLast?_eq_some_getLast hne]
  rw [List.getLast?_eq_some_getLast hne] at this
  exact this
 ok:=fun k=>by rw [lexT_app w.length w v k (Nat.le_refl _) h.sl (h.stop hv) (h.ok k)]; exact g.ok _
 kd:=fun k=>by rw [lexT_app w.length w v k (Nat.le_refl _) h.sl (h.stop hv) (h.ok k)]; simp only [List.map_append,h.kd,g.kd]
theorem Pc.ofK {w : List UInt8} {ks : List KT} (h : pcB w = true) (e : kindsT w = ks) : Pc w ks:=e ▸ Pc.of h
theorem pcHash : Pc [35] [(2,[35])]:=Pc.ofK (by kernel_rfl) (by kernel_rfl)
theorem pcBar : Pc [32,124,32] [(2,[124])]:=Pc.ofK (by kernel_rfl) (by kernel_rfl)
theorem pcColon : Pc [58,32] [(2,[58])]:=Pc.ofK (by kernel_rfl) (by kernel_rfl)
theorem pcSemi : Pc [59] [(2,[59])]:=Pc.ofK (by kernel_rfl) (by kernel_rfl)
theorem pcEq : Pc [32,61,32] [(2,[61])]:=Pc.ofK (by kernel_rfl) (by kernel_rfl)
theorem pcType : Pc [116,121,112,101,32] [(1,[116,121,112,101])]:=Pc.ofK (by kernel_rfl) (by kernel_rfl)
theorem pcNl : Pc [10] []:=Pc.ofK (by kernel_rfl) (by kernel_rfl)
theorem pcTab : Pc [9] []:=Pc.ofK (by kernel_rfl) (by kernel_rfl)
theorem pcOpenB : Pc [32,123,10] [(2,[123])]:=Pc.ofK (by kernel_rfl) (by kernel_rfl)
theorem pcCloseB : Pc [125] [(2,[125])]:=Pc.ofK (by kernel_rfl) (by kernel_rfl)
theorem sub_lx {s : Sub} (h : subG s) : Lx (subTx s) (subK s) ∧ subTx s ≠ []:=by
 obtain ⟨h1,_,h3⟩:=h
 have n1:=Lx.name h1.2.1 h1.2.2
 unfold subTx subK
 rcases h3 with h3 | h3
 ·rw [if_pos h3,if_pos h3]; exact ⟨n1,h1.2.1⟩
 ·rw [if_neg h3.2.1,if_neg h3.2.1]
  refine ⟨?_,by simp⟩
  exact n1.app (Lx.pc pcHash (Lx.name h3.2.1 h3.2.2) h3.2.1) (noL_c (by decide)) (by simp)
theorem join_two (x y : List UInt8) (r : List (List UInt8)) (sep : List UInt8) : Lib.join (x :: y :: r) sep = x ++ (sep ++ Lib.join (y :: r) sep):=by
 rw [Lib.join_cons,Lib.join_cons]
 simp [Lib.joinTail,List.append_assoc]
theorem subs_lx : ∀ (l : List Sub),l ≠ [] → (∀ s ∈ l,subG s) → Lx (subsTx l) (subsK l) ∧ subsTx l ≠ []
 | [],h,_=>absurd rfl h
 | [s],_,hG=>by
  have h:=sub_lx (hG s List.mem_cons_self)
  have e1 : subsTx [s] = subTx s:=Lib.join_one _ _
  have e2 : subsK [s] = subK s:=by simp [subsK]
  rw [e1,e2]; exact h
 | s :: r :: l,_,hG=>by
  have h:=sub_lx (hG s List.mem_cons_self)
  have ih:=subs_lx (r :: l) (by simp) fun x hx=>hG x (List.mem_cons_of_mem _ hx)
  have e1 : subsTx (s :: r :: l) = subTx s ++ ([32,124,32] ++ subsTx (r :: l)):=join_two _ _ _ _
  have e2 : subsK (s :: r :: l) = subK s ++ (2,[124]) :: subsK (r :: l):=by conv=>lhs; unfold subsK; rw [if_neg (by simp)]
  have e2 : subsK (s :: r :: l) = subK s ++ ([(2,[124])] ++ subsK (r :: l)):=e2
  rw [e1,e2]
  exact ⟨h.1.app (Lx.pc pcBar ih.1 ih.2) (noL_c (by decide)) (by simp),by simp⟩
structure AteV {α : Type} (s : PSt) (R : List Tok) (v : α) (r : Bool × PSt × α) : Prop where
 ok : r.1 = true
 l : r.2.1.l = R
 n : r.2.1.n = s.n
 at_ : r.2.1.at_ = s.at_
 e : r.2.1.e = s.e
 d : r.2.1.d = s.d
 v : r.2.2 = v
attribute [local irreducible] sumM factorM
theorem sub_stepX {x : Sub} (hx : subG x) {s : PSt} {T R : List Tok} {l : List Sub} {k : Nat} (hT : T.map kt = subK x) (hl : s.l = T ++ R) (hR : noB [35] R) (hm : l.length < 50) :
  ∃ t,subLoop (k + 1) s l = (if (mayM [124] t).1 then subLoop k (mayM [124] t).2 (l ++ [x]) else (true,(mayM [124] t).2,l ++ [x])) ∧ Far s t R:=by
 obtain ⟨a,m,b⟩:=x
 obtain ⟨ha,hm0,hb⟩:=hx
 simp only at ha hm0 hb
 subst hm0
 unfold subK at hT
 simp only at hT
 rcases hb with rfl | hb
 ·rw [if_pos rfl] at hT
  obtain ⟨t,T',rfl,hk,hT⟩:=split_one hT
  obtain rfl : T' = []:=by simpa using hT
  have hn:=name_yes (R:=R) hl hk ha.1
  refine ⟨popM s,?_,⟨hn.2,rfl,rfl,rfl,rfl⟩⟩
  conv=>lhs; unfold subLoop
  simp only [some_yes (show (l.length : Int) < 50 by omega),if_true,hn.1,may_no (g:=[35]) (s:=popM s) (by rw [hn.2]; exact hR),Bool.false_eq_true,if_false,Option.getD_some]
 ·rw [if_neg hb.2.1] at hT
  obtain ⟨t,T',rfl,hk,hT⟩:=split_one hT
  obtain ⟨u,T',rfl,hk2,hT⟩:=split_one hT
  obtain ⟨q,T',rfl,hk3,hT⟩:=split_one hT
  obtain rfl : T' = []:=by simpa using hT
  have hn:=name_yes (R:=u :: q :: R) hl hk ha.1
  have hm2:=may_yes (g:=[35]) (s:=popM s) hn.2 hk2
  have hn2:=name_yes (s:=popM (popM s)) hm2.2 hk3 hb.1
  refine ⟨popM (popM (popM s)),?_,⟨hn2.2,rfl,rfl,rfl,rfl⟩⟩
  conv=>lhs; unfold subLoop
  simp only [some_yes (show (l.length : Int) < 50 by omega),if_true,hn.1,hm2.1,hn2.1,Option.getD_some]
theorem eat_subsX : ∀ (L : List Sub),L ≠ [] → (∀ x ∈ L,subG x) → ∀ (k : Nat) (s : PSt) (T : List Tok) (t : Tok) (R : List Tok) (l : List Sub),T.map kt = subsK L → s.l = T ++ t :: R → kt t = (2,[59]) → l.length + L.length ≤ 50 → s.l.length < k → AteV s (t :: R) (l ++ L) (subLoop k s l)
 | [],h,_,_,_,_,_,_,_,_,_,_,_,_=>absurd rfl h
 | x :: L,_,hG,k,s,T,t,R,l,hT,hl,hk,hm,hlt=>by
  obtain ⟨k,rfl⟩ : ∃ m,k = m + 1:=⟨k - 1,by omega⟩
  simp only [List.length_cons] at hm
  unfold subsK at hT
  obtain ⟨T1,T2,rfl,h1,h2⟩:=split_map hT
  by_cases hL : L = []
  ·subst hL
   rw [if_pos rfl] at h2
   obtain rfl : T2 = []:=by simpa using h2
   rw [List.append_nil] at hl
   obtain ⟨u,e,hf⟩:=sub_stepX (k:=k) (l:=l) (hG x List.mem_cons_self) h1 hl (noB_cons (by rw [hk]; simp)) (by omega)
   rw [e,may_no (by rw [hf.l]; exact noB_cons (by rw [hk]; simp))]
   exact ⟨rfl,hf.l,hf.n,hf.at_,hf.e,hf.d,rfl⟩
  ·rw [if_neg hL] at h2
   obtain ⟨u,T3,rfl,hku,h3⟩:=split_one h2
   have hl' : s.l = T1 ++ (u :: (T3 ++ t :: R)):=by rw [hl]; simp
   obtain ⟨v,e,hf⟩:=sub_stepX (k:=k) (l:=l) (hG x List.mem_cons_self) h1 hl' (noB_cons (by rw [hku]; simp)) (by omega)
   have hy:=may_yes (g:=[124]) (s:=v) hf.l hku
   rw [e,hy.1]
   simp only [if_true]
   have hlen : (popM v).l.length < k:=by
    rw [hy.2]
    rw [hl'] at hlt
    simp only [List.length_append,List.length_cons] at hlt ⊢
    omega
   have ih:=eat_subsX L hL (fun y hy=>hG y (List.mem_cons_of_mem _ hy)) k (popM v) T3 t R (l ++ [x]) h3 hy.2 hk (by simp only [List.length_append,List.length_singleton]; omega) hlen
   exact ⟨ih.ok,ih.l,ih.n.trans hf.n,ih.at_.trans hf.at_,ih.e.trans hf.e,ih.d.trans hf.d,by rw [ih.v]; simp⟩
def EatRelX (A : List KT) (r : Rel) : Prop:=∀ s T R (l : List Rel),T.map kt = A → s.l = T ++ R → l.length < 200 → s.d = 0 → AteV s R (l ++ [r]) (relationM s l)
theorem eat_rel1X {nm : List UInt8} {S : List Sub} (hn : goodN nm = true) (h0 : S ≠ []) (h50 : S.length ≤ 50) (hS : ∀ x ∈ S,subG x) : EatRelX ([(1,nm)] ++ ([(2,[58])] ++ (subsK S ++ [(2,[59])]))) (nm,S,[]):=by
 intro s T R l hT hl hm hd
 obtain ⟨t,T',rfl,hk1,hT⟩:=split_one hT
 obtain ⟨u,T',rfl,hk2,hT⟩:=split_one hT
 obtain ⟨T2,T3,rfl,h2,h3⟩:=split_map (A:=subsK S) (B:=[(2,[59])]) hT
 obtain ⟨v,T4,rfl,hk3,h4⟩:=split_one h3
 obtain rfl : T4 = []:=by simpa using h4
 have hl : s.l = t :: (u :: (T2 ++ v :: R)):=by rw [hl]; simp
 have e1:=name_yes (R:=u :: (T2 ++ v :: R)) hl hk1 hn
 have e2:=may_no (g:=[61]) (s:=popM s) (by rw [e1.2]; exact noB_cons (by rw [hk2]; simp))
 have e3:=sign_yes (g:=[58]) (s:=popM s) e1.2 hk2
 have hs:=eat_subsX S h0 hS ((popM (popM s)).l.length + 1) (popM (popM s)) T2 v R [] h2 e3.2 hk3 (by simpa using h50) (Nat.lt_succ_self _)
 have e9 : subLoop ((popM (popM s)).l.length + 1) (popM (popM s)) [] = subsM (popM (popM s)) []:=rfl
 rw [e9] at hs
 unfold relationM
 simp only [some_yes (show (l.length : Int) < 200 by omega),if_true,e1.1,e2,Bool.false_eq_true,if_false,e3.1]
 generalize subsM (popM (popM s)) [] = r at *
 obtain ⟨b,s1,sb⟩:=r
 obtain ⟨g1,g2,g3,g4,g5,g6,g7⟩:=hs
 simp only [List.nil_append] at g1 g2 g3 g4 g5 g6 g7
 subst g1
 subst g7
 have e4:=sign_yes (g:=[59]) (s:=s1) g2 hk3
 simp only [if_true,e4.1]
 exact ⟨rfl,e4.2,g3,g4,g5,g6,rfl⟩
theorem sumM_eatX {S : List KT} {X : List Stp} (hS : EatSX 21 0 S X) {s : PSt} {T R : List Tok} (h1 : T.map kt = S) (h2 : s.l = T ++ R) (h3 : NoS R) (h4 : s.x.length + X.length ≤ 200) (h5 : s.d = 0) : AteX s R X (sumM s):=by
 unfold sumM
 exact hS s T R h1 h2 h3 h4 h5
theorem eat_rel2X {nm : List UInt8} {S : List KT} {X : List Stp} (hn : goodN nm = true) (hS : EatSX 21 0 S X) (hS2 : X.length ≤ 200) : EatRelX ([(1,nm)] ++ ([(2,[61])] ++ (S ++ [(2,[59])]))) (nm,[],X):=by
 intro s T R l hT hl hm hd
 obtain ⟨t,T',rfl,hk1,hT⟩:=split_one hT
 obtain ⟨u,T',rfl,hk2,hT⟩:=split_one hT
 obtain ⟨T2,T3,rfl,h2,h3⟩:=split_map (A:=S) (B:=[(2,[59])]) hT
 obtain ⟨v,T4,rfl,hk3,h4⟩:=split_one h3
 obtain rfl : T4 = []:=by simpa using h4
 have hl : s.l = t :: (u :: (T2 ++ v :: R)):=by rw [hl]; simp
 have e1:=name_yes (R:=u :: (T2 ++ v :: R)) hl hk1 hn
 have e2:=may_yes (g:=[61]) (s:=popM s) e1.2 hk2
 have hno : NoS (v :: R):=by
  refine ⟨⟨noB_cons ?_,noB_cons ?_⟩,noB_cons ?_,noB_cons ?_⟩ <;> rw [hk3] <;> simp
 have hs:=sumM_eatX hS (s:={ popM (popM s) with x:=[] }) (T:=T2) (R:=v :: R) h2 e2.2 hno (by show 0 + X.length ≤ 200; omega) hd
 unfold relationM
 simp only [some_yes (show (l.length : Int) < 200 by omega),if_true,e1.1,e2.1]
 generalize sumM { popM (popM s) with x:=[] } = r at *
 obtain ⟨b,s1⟩:=r
 obtain ⟨g1,g2,g3,g4,g5,g6,g7⟩:=hs
 simp only [List.nil_append] at g1 g2 g3 g4 g5 g6 g7
 subst g1
 have e4:=sign_yes (g:=[59]) (s:=s1) g2 hk3
 simp only [if_true,e4.1]
 exact ⟨rfl,e4.2,g3,g4,g5,g6,by rw [g7]; rfl⟩
theorem steps_ne : ∀ t : Tr,t.steps ≠ []
 | .nm _=>by simp [Tr.steps]
 | .ar _ _=>by simp [Tr.steps]
 | .op _ _ _=>by simp [Tr.steps]
theorem rel_print {r : Rel} (h : relG r) : ∃ A,Pc (relTx r) ((1,r.1) :: A) ∧ EatRelX ((1,r.1) :: A) r:=by
 obtain ⟨nm,S,X⟩:=r
 obtain ⟨hn,h⟩:=h
 simp only at hn h
 have n1:=Lx.name hn.2.1 hn.2.2
 unfold relTx
 rcases h with ⟨rfl,h0,h50,hS⟩ | ⟨rfl,t,t1,t2,t3,t4,t5,t6⟩
 ·simp only [if_true]
  have hs:=subs_lx S h0 hS
  refine ⟨[(2,[58])] ++ (subsK S ++ [(2,[59])]),?_,eat_rel1X hn.1 h0 h50 hS⟩
  have e : nm ++ [58,32] ++ subsTx S ++ [59] = nm ++ ([58,32] ++ (subsTx S ++ [59])):=by simp
  rw [e]
  exact n1.fin (pcColon.app (hs.1.fin pcSemi (noL_c (by decide)) (by simp))) (noL_c (by decide)) (by simp)
 ·have hx : X ≠ []:=by rw [← t4]; exact steps_ne t
  simp only
  rw [if_neg hx]
  have htold : (toldM X).getD [] = t.pce.1:=by rw [← t4,toldM_tr t1 t5]; rfl
  rw [htold]
  have hl:=tree_lx t t1 t3
  have hb : holdK t t.tk 1 = t.tk:=by
   unfold holdK
   rw [if_neg]
   cases t with
   | nm a=>simp [Tr.bnd]
   | ar a b=>simp [Tr.bnd]
   | op k x y=>simp only [Tr.bnd,bindK]; split <;> (try split) <;> omega
  have he:=(trEat t t1 t2).sx (f:=21) (d:=0) (by omega) (by omega)
  rw [hb,t4] at he
  refine ⟨[(2,[61])] ++ (t.tk ++ [(2,[59])]),?_,eat_rel2X hn.1 he (by rw [← t4]; exact t5)⟩
  have e : nm ++ [32,61,32] ++ t.pce.1 ++ [59] = nm ++ ([32,61,32] ++ (t.pce.1 ++ [59])):=by simp
  rw [e]
  exact n1.fin (pcEq.app (hl.1.fin pcSemi (noL_c (by decide)) (by simp))) (noL_c (by decide)) (by simp)
attribute [local irreducible] relationM
theorem rels_print : ∀ (L : List Rel),(∀ r ∈ L,relG r) → ∃ A,Pc (relsTx L) A ∧ ∀ (k : Nat) (s : PSt) (T : List Tok) (u : Tok) (R : List Tok) (l : List Rel),T.map kt = A → s.l = T ++ u :: R → kt u = (2,[125]) → l.length + L.length ≤ 200 → s.d = 0 → s.l.length < k → AteV s R (l ++ L) (relLoop k s l)
 | [],_=>by
  refine ⟨[],Pc.nil,fun k s T u R l hT hl hu hm hd hk=>?_⟩
  obtain rfl : T = []:=by simpa using hT
  obtain ⟨k,rfl⟩ : ∃ m,k = m + 1:=⟨k - 1,by omega⟩
  have e:=may_yes (g:=[125]) (s:=s) hl hu
  unfold relLoop
  simp only [e.1,if_true]
  exact ⟨rfl,e.2,rfl,rfl,rfl,rfl,by simp⟩
 | r :: L,hG=>by
  obtain ⟨A,p1,p2⟩:=rel_print (hG r List.mem_cons_self)
  obtain ⟨B,q1,q2⟩:=rels_print L fun x hx=>hG x (List.mem_cons_of_mem _ hx)
  refine ⟨((1,r.1) :: A) ++ B,?_,fun k s T u R l hT hl hu hm hd hk=>?_⟩
  ·have e : relsTx (r :: L) = [9] ++ relTx r ++ [10] ++ relsTx L:=by simp [relsTx]
   rw [e]
   have:=((pcTab.app p1).app pcNl).app q1
   simpa using this
  ·obtain ⟨T1,T2,rfl,g1,g2⟩:=split_map hT
   obtain ⟨k,rfl⟩ : ∃ m,k = m + 1:=⟨k - 1,by omega⟩
   simp only [List.length_cons] at hm
   obtain ⟨t0,T0,rfl,hk0,_⟩:=split_one g1
   have e:=may_no (g:=[125]) (s:=s) (by
    rw [hl]
    exact noB_cons (by rw [hk0]; simp))
   have hr:=p2 s (t0 :: T0) (T2 ++ u :: R) l g1 (by rw [hl,List.append_assoc]) (by omega) hd
   unfold relLoop
   simp only [e,Bool.false_eq_true,if_false]
   generalize relationM s l = q at *
   obtain ⟨b,s1,l1⟩:=q
   obtain ⟨f1,f2,f3,f4,f5,f6,f7⟩:=hr
   simp only at f1 f2 f3 f4 f5 f6 f7
   subst f1
   subst f7
   simp only [if_true]
   have hlen : s1.l.length < k:=by
    rw [f2]
    rw [hl] at hk
    simp only [List.length_append,List.length_cons] at hk ⊢; omega
   have ih:=q2 k s1 T2 u R (l ++ [r]) g2 f2 hu (by simp only [List.length_append,List.length_singleton]; omega) (by rw [f6]; exact hd) hlen
   exact ⟨ih.ok,ih.l,ih.n.trans f3,ih.at_.trans f4,ih.e.trans f5,ih.d.trans f6,by rw [ih.v]; simp⟩
theorem typ_print {t : Typ} (h : typG t) : ∃ A,Pc (typTx t) ((1,[116,121,112,101]) :: A) ∧ ∀ (n : Int) (s : PSt) (T R : List Tok),n < 200 → T.map kt = (1,[116,121,112,101]) :: A → s.l = T ++ R → noB [123] R → s.d = 0 → AteV s R t (oneM n s):=by
 obtain ⟨nm,L⟩:=t
 obtain ⟨hn,h200,hG⟩:=h
 simp only at hn h200 hG
 have n1:=Lx.name hn.2.1 hn.2.2
 by_cases hL : L = []
 ·subst hL
  refine ⟨[(1,nm)],?_,fun n s T R hn2 hT hl hR hd=>?_⟩
  ·have e : typTx (nm,[]) = [116,121,112,101,32] ++ (nm ++ [10]):=by simp [typTx]
   rw [e]
   exact pcType.app (n1.fin pcNl (noL_c (by decide)) (by simp))
  ·obtain ⟨t,T',rfl,hk1,hT⟩:=split_one hT
   obtain ⟨u,T',rfl,hk2,hT⟩:=split_one hT
   obtain rfl : T' = []:=by simpa using hT
   have hw:=word_yes (R:=u :: R) hl hk1
   have e1:=name_yes (R:=R) hw.2 hk2 hn.1
   have e2:=may_no (g:=[123]) (s:=popM (popM s)) (by rw [e1.2]; exact hR)
   unfold oneM
   simp only [some_yes hn2,if_true,hw.1,e1.1,e2,Bool.false_eq_true,if_false]
   exact ⟨rfl,e1.2,rfl,rfl,rfl,rfl,rfl⟩
 ·obtain ⟨B,q1,q2⟩:=rels_print L hG
  refine ⟨[(1,nm)] ++ ([(2,[123])] ++ (B ++ [(2,[125])])),?_,fun n s T R hn2 hT hl hR hd=>?_⟩
  ·have e : typTx (nm,L) = [116,121,112,101,32] ++ (nm ++ ([32,123,10] ++ (relsTx L ++ ([125] ++ [10])))):=by simp [typTx,hL]
   rw [e]
   have hp:=pcCloseB.app pcNl
   rw [List.append_nil] at hp
   exact pcType.app (n1.fin (pcOpenB.app (q1.app hp)) (noL_c (by decide)) (by simp))
  ·obtain ⟨t,T',rfl,hk1,hT⟩:=split_one hT
   obtain ⟨u,T',rfl,hk2,hT⟩:=split_one hT
   obtain ⟨q,T',rfl,hk3,hT⟩:=split_one hT
   obtain ⟨T2,T3,rfl,h2,h3⟩:=split_map (A:=B) (B:=[(2,[125])]) hT
   obtain ⟨v,T4,rfl,hk4,h4⟩:=split_one h3
   obtain rfl : T4 = []:=by simpa using h4
   have hl : s.l = t :: (u :: (q :: (T2 ++ v :: R))):=by rw [hl]; simp
   have hw:=word_yes hl hk1
   have e1:=name_yes hw.2 hk2 hn.1
   have e2:=may_yes (g:=[123]) (s:=popM (popM s)) e1.2 hk3
   have e3:=q2 ((popM (popM (popM s))).l.length + 1) (popM (popM (popM s))) T2 v R [] h2 e2.2 hk4 (by simpa using h200) hd (Nat.lt_succ_self _)
   unfold oneM
   simp only [some_yes hn2,if_true,hw.1,e1.1,e2.1]
   exact ⟨e3.ok,e3.l,e3.n,e3.at_,e3.e,e3.d,by rw [e3.v]; rfl⟩
attribute [local irreducible] oneM
theorem typs_print : ∀ (L : List Typ),(∀ t ∈ L,typG t) → ∃ A,Pc (typsTx L) A ∧ (∀ t : KT,A.head? = some t → t ≠ (2,[123])) ∧ ∀ (k : Nat) (s : PSt) (l : List Typ),s.l.map kt = A → l.length + L.length ≤ 200 → s.d = 0 → s.l.length < k → (parseLoop k s l).1 = true ∧ (parseLoop k s l).2.2 = l ++ L
 | [],_=>by
  refine ⟨[],Pc.nil,fun t h=>by simp at h,fun k s l hT hm hd hk=>?_⟩
  have hl : s.l = []:=by simpa using hT
  obtain ⟨k,rfl⟩ : ∃ m,k = m + 1:=⟨k - 1,by omega⟩
  unfold parseLoop
  rw [if_pos hl]
  exact ⟨rfl,by simp⟩
 | t :: L,hG=>by
  obtain ⟨A,p1,p2⟩:=typ_print (hG t List.mem_cons_self)
  obtain ⟨B,q1,q0,q2⟩:=typs_print L fun x hx=>hG x (List.mem_cons_of_mem _ hx)
  refine ⟨((1,[116,121,112,101]) :: A) ++ B,?_,fun t h=>?_,fun k s l hT hm hd hk=>?_⟩
  ·have e : typsTx (t :: L) = typTx t ++ typsTx L:=by simp [typsTx]
   rw [e]; exact p1.app q1
  ·simp only [List.cons_append,List.head?_cons,Option.some.injEq] at h
   subst h; simp
  ·obtain ⟨T1,T2,hl,g1,g2⟩:=split_map hT
   obtain ⟨k,rfl⟩ : ∃ m,k = m + 1:=⟨k - 1,by omega⟩
   simp only [List.length_cons] at hm
   have hne : s.l ≠ []:=by
    obtain ⟨t0,T0,rfl,_,_⟩:=split_one g1
    rw [hl]; simp
   have hno : noB [123] T2:=fun u hu e=>q0 (kt u) (by rw [← g2,List.head?_map,hu]; rfl) e
   have hr:=p2 l.length s T1 T2 (by omega) g1 hl hno hd
   have hlt : T2.length < s.l.length:=by
    obtain ⟨t0,T0,rfl,_,_⟩:=split_one g1
    rw [hl]; simp; omega
   unfold parseLoop
   rw [if_neg hne]
   simp only
   generalize oneM l.length s = q at *
   obtain ⟨b,s1,x⟩:=q
   obtain ⟨f1,f2,f3,f4,f5,f6,f7⟩:=hr
   simp only at f1 f2 f3 f4 f5 f6 f7
   subst f1
   subst f7
   simp only [if_true]
   have ih:=q2 k s1 (l ++ [x]) (by rw [f2]; exact g2) (by simp only [List.length_append,List.length_singleton]; omega) (by rw [f6]; exact hd) (by rw [f2]; omega)
   exact ⟨ih.1,by rw [ih.2]; simp⟩
theorem tokensT_lx {l : List UInt8} (h : l.length ≤ 100000) : tokensT l = match (lexT 0 l).2 with | some k=>([],k,7) | none=>((lexT 0 l).1,0,0):=by
 unfold tokensT
 rw [if_neg (by omega)]
 have e : toks l.length (skipN false l) (l.drop (skipN false l)) = lexT 0 l:=by unfold lexT; rw [Nat.zero_add]
 simp only [e]
 cases (lexT 0 l).2 <;> rfl
theorem parse_print {L : List Typ} (hG : ∀ t ∈ L,typG t) (h200 : L.length ≤ 200) (hlen : (typsTx L).length ≤ 100000) : parseM (typsTx L) = (L,0,0):=by
 obtain ⟨A,p1,_,p2⟩:=typs_print L hG
 have hx:=tokensT_lx hlen
 have ho:=p1.ok 0
 have hk:=p1.kd 0
 simp only [ho] at hx
 unfold parseM
 rw [if_neg (by rw [hx]; simp)]
 have h1 : (startM (typsTx L)).l = (lexT 0 (typsTx L)).1:=by show (tokensT (typsTx L)).1 = _; rw [hx]
 have:=p2 ((tokensT (typsTx L)).1.length + 1) (startM (typsTx L)) [] (by rw [h1]; exact hk) (by simpa using h200) rfl (Nat.lt_succ_self _)
 unfold finM
 rw [if_pos this.1,this.2]
 rfl
theorem nm_len {a : List UInt8} (h : goodN a = true) : a.length ≤ 30:=by
 unfold goodN namedM at h
 simp only [Bool.and_eq_true,decide_eq_true_eq] at h
 exact h.2.1
theorem pce_len : ∀ {t : Tr},t.good → t.pce.1.length ≤ 62 * t.steps.length
 | .nm a,h=>by have:=nm_len h; simp only [Tr.pce,Tr.steps,List.length_singleton]; omega
 | .ar a b,h=>by
  have h1:=nm_len h.1
  have h2:=nm_len h.2
  simp only [Tr.pce,Tr.steps,List.length_singleton,List.length_append,List.length_cons,List.length_nil]; omega
 | .op k x y,h=>by
  have h1:=pce_len h.1
  have h2:=pce_len h.2
  have:=joint_len x.pce y.pce k
  simp only [Tr.pce,Tr.steps,List.length_append,List.length_singleton]; omega
theorem subTx_len {s : Sub} (h : subG s) : (subTx s).length ≤ 61:=by
 have h1:=nm_len h.1.1
 unfold subTx
 split
 ·omega
 ·rename_i h2
  have h3:=nm_len (h.2.2.resolve_left h2).1
  simp only [List.length_append,List.length_singleton]; omega
theorem subsTx_len : ∀ (l : List Sub),(∀ s ∈ l,subG s) → (subsTx l).length ≤ 64 * l.length
 | [],_=>by simp [subsTx,Lib.join_nil]
 | [s],h=>by
  have e1 : subsTx [s] = subTx s:=Lib.join_one _ _
  have:=subTx_len (h s List.mem_cons_self)
  rw [e1,List.length_singleton]; omega
 | s :: r :: l,h=>by
  have e1 : subsTx (s :: r :: l) = subTx s ++ ([32,124,32] ++ subsTx (r :: l)):=join_two _ _ _ _
  have h1:=subTx_len (h s List.mem_cons_self)
  have h2:=subsTx_len (r :: l) fun x hx=>h x (List.mem_cons_of_mem _ hx)
  rw [e1]
  simp only [List.length_append,List.length_cons,List.length_nil] at h2 ⊢; omega
theorem relTx_len {r : Rel} (h : relG r) : (relTx r).length + 2 ≤ 64 * relN r:=by
 have h1:=nm_len h.1.1
 unfold relTx relN
 rcases h.2 with ⟨e,_,_,hS⟩ | ⟨e,t,t1,t2,t3,t4,t5,t6⟩
 ·rw [if_pos e]
  have:=subsTx_len _ hS
  simp only [List.length_append,List.length_cons,List.length_nil]; omega
 ·have hx : r.2.2 ≠ []:=by rw [← t4]; exact steps_ne t
  rw [if_neg hx]
  have htold : (toldM r.2.2).getD [] = t.pce.1:=by rw [← t4,toldM_tr t1 t5]; rfl
  have:=pce_len t2
  rw [t4] at this
  rw [htold]
  simp only [List.length_append,List.length_cons,List.length_nil]; omega
theorem relsTx_len : ∀ (l : List Rel),(∀ r ∈ l,relG r) → (relsTx l).length ≤ 64 * relsN l
 | [],_=>by simp [relsTx]
 | r :: l,h=>by
  have e : relsTx (r :: l) = [9] ++ relTx r ++ [10] ++ relsTx l:=by simp [relsTx]
  have e2 : relsN (r :: l) = relN r + relsN l:=by simp [relsN]
  have h1:=relTx_len (h r List.mem_cons_self)
  have h2:=relsTx_len l fun x hx=>h x (List.mem_cons_of_mem _ hx)
  rw [e,e2]
  simp only [List.length_append,List.length_singleton]; omega
theorem typTx_len {t : Typ} (h : typG t) : (typTx t).length ≤ 64 * typN t:=by
 have h1:=nm_len h.1.1
 have h2:=relsTx_len t.2 h.2.2
 unfold typTx typN
 split
 ·simp only [List.length_append,List.length_cons,List.length_nil]; omega
 ·simp only [List.length_append,List.length_cons,List.length_nil]; omega
theorem typsTx_len : ∀ (l : List Typ),(∀ t ∈ l,typG t) → (typsTx l).length ≤ 64 * typsN l
 | [],_=>by simp [typsTx]
 | t :: l,h=>by
  have e : typsTx (t :: l) = typTx t ++ typsTx l:=by simp [typsTx]
  have e2 : typsN (t :: l) = typN t + typsN l:=by simp [typsN]
  have h1:=typTx_len (h t List.mem_cons_self)
  have h2:=typsTx_len l fun x hx=>h x (List.mem_cons_of_mem _ hx)
  rw [e,e2,List.length_append]; omega
end Go.Fbs
