import Derived.Test.YtpdnpfdbjoaemaaGreatDoorQTA
set_option linter.unusedSimpArgs false
set_option linter.unusedVariables false
set_option linter.unusedSectionVars false
set_option maxRecDepth 100000
namespace Go.Fbs
open Go.Proofs
attribute [local irreducible] FunWpE FunWp opt
theorem sliceMid {s : List UInt8} {i j : Nat} (hij : i ≤ j) (hj : j ≤ s.length) : sliceS (.str s) (some (vI (i : Nat))) (some (vI (j : Nat))) = some (.str ((s.drop i).take (j - i))):=by
 have h1 : (0 : Int) ≤ (j : Int) ∧ (j : Int) ≤ (s.length : Int):=by omega
 have h2 : (0 : Int) ≤ (i : Int) ∧ (i : Int) ≤ (j : Int):=by omega
 simp only [sliceS,boundV,vI,h1,h2,and_self,if_true,Int.toNat_natCast,Option.some.injEq,V.str.injEq]
 rw [List.drop_take]
theorem wordL_eq {l : List UInt8} {n : Nat} (hn : n ≤ l.length) (h : ∀ (t : Nat) x,t < n → l[t]? = some x → isBl x = false) (hb : ∀ x,l[n]? = some x → isBl x = true) : wordL l = l.take n:=by
 unfold wordL
 conv=>lhs; rw [← List.take_append_drop n l]
 refine takeW_all (fun c hc=>?_) (fun c hc=>?_)
 ·obtain ⟨t,ht⟩:=List.mem_iff_getElem?.1 hc
  have htn : t < n:=by have:=(List.getElem?_eq_some_iff.1 ht).1; rw [List.length_take] at this; omega
  rw [List.getElem?_take_of_lt htn] at ht
  rw [h t c htn ht]; rfl
 ·rw [List.head?_drop] at hc
  rw [hb c hc]; rfl
theorem isBl_int (c : UInt8) : isBl c = (decide ((c.toNat : Int) = 32) || decide ((c.toNat : Int) = 9)):=by
 have e : ∀ k : Nat,k < 256 → ((c.toNat : Int) = (k : Int) ↔ c = UInt8.ofNat k):=fun k hk=>by
  constructor
  ·intro h
   have h : c.toNat = k:=by omega
   rw [← h]; simp
  ·intro h; rw [h]; simp; omega
 have e32:=e 32 (by omega)
 have e9:=e 9 (by omega)
 unfold isBl
 rw [Bool.eq_iff_iff]
 simp only [Bool.or_eq_true,beq_iff_eq,decide_eq_true_eq]
 rw [show ((32 : Int)) = ((32 : Nat) : Int) from rfl,show ((9 : Int)) = ((9 : Nat) : Int) from rfl,e32,e9]
 rfl
theorem gBl (c : UInt8) (X : Option V) (hX : X = some (.int .u8 c.toNat)) (K : V → Prop) (hK : K (.bool (isBl c))) :
  (opt (guardV (.bool (decide ((c.toNat : Int) = 32))) false X) fun y8=>opt (guardV (.bool (decide ((c.toNat : Int) = 32))) false (binK .eql y8 (.int .u8 9))) fun y9=>opt (pickV (.bool (decide ((c.toNat : Int) = 32))) (.bool true) y9) fun y10=>K y10):=by
 subst hX
 rw [isBl_int] at hK
 by_cases g : (c.toNat : Int) = 32
 ·rw [decide_eq_true g] at hK ⊢
  rw [gTF,opt_s,gTF,opt_s,pBool,if_pos rfl,opt_s]; exact hK
 ·rw [decide_eq_false g] at hK ⊢
  rw [gFF,opt_s,gFF,bEql,opt_s,pBool,if_neg (by simp),opt_s]; exact hK
theorem gNb (s : List UInt8) (j : Nat) (K : V → Prop) (hlt : (j < s.length) → ∀ c,s[j]? = some c → K (.bool (!isBl c))) (hge : ¬ j < s.length → K (.bool false)) :
  (opt (guardV (.bool (decide (j < s.length))) true (indexS (.str s) (vI (j : Nat)))) fun y17=>opt (guardV (.bool (decide (j < s.length))) true (binK .neq y17 (.int .u8 32))) fun y18=>opt (pickV (.bool (decide (j < s.length))) y18 (.bool false)) fun y19=>opt (guardV y19 true (indexS (.str s) (vI (j : Nat)))) fun y20=>opt (guardV y19 true (binK .neq y20 (.int .u8 9))) fun y21=>opt (pickV y19 y21 (.bool false)) fun y22=>K y22):=by
 by_cases h : j < s.length
 ·obtain ⟨c,hc⟩ : ∃ c,s[j]? = some c:=⟨_,List.getElem?_eq_getElem h⟩
  have hx : indexS (.str s) (vI (j : Nat)) = some (.int .u8 c.toNat):=idxS_at hc .i64
  have hK:=hlt h c hc
  rw [isBl_int] at hK
  rw [decide_eq_true h,hx,gTT,opt_s,gTT,bNeq,opt_s,pBool,if_pos rfl,opt_s]
  by_cases g : (c.toNat : Int) = 32
  ·rw [decide_eq_true g] at hK ⊢
   rw [Bool.not_true,gFT,opt_s,gFT,opt_s,pBool,if_neg (by simp),opt_s]; exact hK
  ·rw [decide_eq_false g] at hK ⊢
   rw [Bool.not_false,gTT,opt_s,gTT,bNeq,opt_s,pBool,if_pos rfl,opt_s]; exact hK
 ·rw [decide_eq_false h,gFT,opt_s,gFT,opt_s,pBool,if_neg (by simp),opt_s,gFT,opt_s,gFT,opt_s,pBool,if_neg (by simp),opt_s]
  exact hge h
noncomputable def F_entailref1_words : Spec:=specOf (fun q : List UInt8 × Nat=>[.str q.1,vI (q.2 : Nat)]) (fun q=>q.1.length ≤ 200000 ∧ q.2 ≤ 1000000) (fun q=>wrdsV (wordsM q.1 q.2))
theorem Frwords {s : List UInt8} {k : Nat} (h1 : s.length ≤ 200000) (h2 : k ≤ 1000000) : F_entailref1_words [.str s,vI (k : Nat)] = some (wrdsV (wordsM s k)):=specOf_eq (a:=(s,k)) (fun a b h=>by
 simp only [List.cons.injEq,and_true,V.str.injEq,V.int.injEq,true_and] at h
 exact Prod.ext h.1 (by omega)) ⟨h1,h2⟩
theorem rwords_wp (s : List UInt8) (k : Nat) (h1 : s.length ≤ 200000) (h2 : k ≤ 1000000) : FunWp tyT (tab []) 61 q_entailref1_words [.tmp 4] (cB Tryz.f38) [.str s,vI (k : Nat)] (fun v=>v = wrdsV (wordsM s k)):=by
 refine Eq.mpr (e_entailref1_words (tab _) _ (.str s) (vI (k : Nat))) ?_
 refine loopP_inv (fun vs=>∃ (i : Nat) (out : List Wrd),i ≤ s.length ∧ out.length ≤ i ∧ out ++ wordsF (s.length - i) (s.drop i) (k + i) = wordsM s k ∧ vs = [vI (i : Nat),wrdsV out]) (fun vs=>s.length - natOf (gv vs 0)) ⟨0,[],Nat.zero_le _,Nat.le_refl _,rfl,rfl⟩ ?_
 rintro rr _ ⟨i,out,hi,ho,hw,rfl⟩ hr
 refine ⟨rfl,?_⟩
 simp only [gv_0,gv_s]
 rw [lenS_s,opt_s,bLt,opt_s,iteB_bool]
 by_cases hlt : i < s.length
 ·obtain ⟨c,r,hcr⟩ : ∃ c r,s.drop i = c :: r:=by
   cases hd : s.drop i with
   | nil=>rw [List.drop_eq_nil_iff] at hd; omega
   | cons c r=>exact ⟨c,r,rfl⟩
  have hc : s[i]? = some c:=by rw [← List.head?_drop,hcr]; rfl
  have hlen : r.length + 1 + i = s.length:=by
   have:=congrArg List.length hcr
   simp only [List.length_drop,List.length_cons] at this
   omega
  have hdr : s.drop (i + 1) = r:=by
   have : s.drop (i + 1) = (s.drop i).drop 1:=by rw [List.drop_drop]
   rw [this,hcr]; rfl
  have hx : indexS (.str s) (vI (i : Nat)) = some (.int .u8 c.toNat):=idxS_at hc .i64
  have hfu : s.length - i = r.length + 1:=by omega
  rw [if_pos (by simpa using hlt),hx,opt_s,bEql,opt_s]
  refine gBl c _ rfl _ ?_
  rw [hfu,hcr] at hw
  unfold wordsF at hw
  rw [iteB_bool]
  by_cases hb : isBl c = true
  ·rw [if_pos hb] at hw
   rw [if_pos hb,add1' (by omega),opt_s]
   refine hr _ ⟨i + 1,out,by omega,by omega,?_,rfl⟩ (by simp only [gv_0,natOf]; omega)
   rw [hdr,show s.length - (i + 1) = r.length by omega]
   exact hw
  ·rw [if_neg hb] at hw
   rw [if_neg hb,opt_s,bEql,opt_s,iteB_bool]
   by_cases h35 : c = 35
   ·rw [if_pos h35] at hw
    subst h35
    rw [if_pos (by decide)]
    rw [List.append_nil] at hw
    rw [hw]
   ·rw [if_neg h35] at hw
    have hne : ¬ (c.toNat : Int) = 35:=fun e=>h35 (by
     have e : c.toNat = 35:=by omega
     have : c = UInt8.ofNat 35:=by rw [← e]; simp
     exact this)
    rw [if_neg (by simpa using hne)]
    refine loopP_inv (fun vs=>∃ j : Nat,i ≤ j ∧ j ≤ s.length ∧ (∀ (t : Nat) x,i ≤ t → t < j → s[t]? = some x → isBl x = false) ∧ vs = [vI (j : Nat),wrdsV out]) (fun vs=>s.length - natOf (gv vs 0)) ⟨i,Nat.le_refl _,hi,fun t x h1 h2=>by omega,rfl⟩ ?_
    rintro r1 _ ⟨j,hij,hj,hnb,rfl⟩ hr1
    refine ⟨rfl,?_⟩
    simp only [gv_0,gv_s]
    rw [opt_s,bLt,opt_s]
    have fin : (∀ x,s[j]? = some x → isBl x = true) → (opt (sliceS (.str s) (some (vI (i : Nat))) (some (vI (j : Nat)))) fun y23=>opt (binK .add (vI (k : Nat)) (vI (i : Nat))) fun y24=>opt (aggK [y23,y24]) fun y25=>opt (litK 2 [y25]) fun y26=>opt (appK 2 24 (wrdsV out) y26) fun y27=>rr [vI (j : Nat),y27]):=fun hend=>by
     have hwl : wordL (c :: r) = (c :: r).take (j - i):=by
      rw [← hcr]
      refine wordL_eq (by rw [List.length_drop]; omega) (fun t x ht hx=>?_) (fun x hx=>?_)
      ·rw [List.getElem?_drop] at hx
       exact hnb (i + t) x (by omega) (by omega) hx
      ·rw [List.getElem?_drop,show i + (j - i) = j by omega] at hx
       exact hend x hx
     have hji : i < j:=by
      rcases Nat.lt_or_ge i j with h | h
      ·exact h
      ·obtain rfl : i = j:=by omega
       exact absurd (hend c hc) hb
     have hlw : (wordL (c :: r)).length = j - i:=by
      rw [hwl,List.length_take,List.length_cons]; omega
     rw [sliceMid hij hj,opt_s,hcr,← hwl,addK (by omega),opt_s,agWrd,opt_s,litWrd,opt_s,appWrd (by omega),opt_s]
     refine hr _ ⟨j,out ++ [(wordL (c :: r),k + i)],hj,by simp only [List.length_append,List.length_singleton]; omega,?_,rfl⟩ (by simp only [gv_0,natOf]; omega)
     rw [← hw,List.append_assoc]
     congr 1
     rw [List.singleton_append]
     congr 1
     have e1 : s.drop j = (c :: r).drop (wordL (c :: r)).length:=by rw [hlw,← hcr,List.drop_drop,show i + (j - i) = j by omega]
     rw [e1,show k + j = k + i + (wordL (c :: r)).length by omega]
     exact wordsF_fuel _ _ _ _ (by rw [List.length_drop,List.length_cons]; omega) (by rw [List.length_drop,List.length_cons]; omega)
    refine gNb s j _ (fun hjl x hx=>?_) (fun hjl=>?_)
    ·rw [iteB_bool]
     cases hbx : isBl x with
     | true =>
      rw [if_neg (by simp)]
      exact fin fun y hy=>by rw [hx] at hy; simp only [Option.some.injEq] at hy; subst hy; exact hbx
     | false =>
      rw [if_pos (by simp),add1' (by omega),opt_s]
      refine hr1 _ ⟨j + 1,by omega,by omega,fun t y h1 h2 hy=>?_,rfl⟩ (by simp only [gv_0,natOf]; omega)
      by_cases htj : t = j
      ·subst htj; rw [hx] at hy; simp only [Option.some.injEq] at hy; subst hy; exact hbx
      ·exact hnb t y h1 (by omega) hy
    ·rw [iteB_false]
     exact fin fun y hy=>by have:=(List.getElem?_eq_some_iff.1 hy).1; omega
 ·rw [if_neg (by simpa using hlt)]
  have e : s.length - i = 0:=by omega
  rw [e] at hw
  have e2 : wordsF 0 (s.drop i) (k + i) = []:=rfl
  rw [e2,List.append_nil] at hw
  rw [hw]
theorem ok_entailref1_words : SpecL Tryz.prog n_entailref1_words F_entailref1_words:=by
 refine go_entailref1_words (T:=[]) TabOk.nil fun args v hv=>?_
 obtain ⟨⟨s,k⟩,rfl,⟨h1,h2⟩,rfl⟩:=specOf_inv hv
 exact ⟨rfl,by simp [canos,V.cano],wrdsV_cano _,rwords_wp s k h1 h2⟩
end Go.Fbs
