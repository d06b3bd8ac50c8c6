import Derived.Test.YtpdnpfdbjoaemaaGreatDoorQF
set_option linter.unusedSimpArgs false
set_option linter.unusedVariables false
set_option linter.unusedSectionVars false
set_option maxRecDepth 100000
namespace Go.Fbs
open Go.Proofs
attribute [local irreducible] FunWpE FunWp opt
theorem ixB_ge : ∀ (l : List UInt8) (c : UInt8),-1 ≤ Lib.indexByte l c
 | [],c=>by unfold Lib.indexByte; omega
 | d :: l,c=>by
  have:=ixB_ge l c
  unfold Lib.indexByte
  split
  ·omega
  ·split <;> omega
def cutI (l : List UInt8) : Int:=if Lib.indexByte l 32 < 0 ∨ (0 ≤ Lib.indexByte l 9 ∧ Lib.indexByte l 9 < Lib.indexByte l 32) then Lib.indexByte l 9 else Lib.indexByte l 32
theorem ix_cons (d c : UInt8) (l : List UInt8) : Lib.indexByte (d :: l) c = if d = c then 0 else if Lib.indexByte l c = -1 then -1 else Lib.indexByte l c + 1:=by
 conv=>lhs; unfold Lib.indexByte
 by_cases h : d = c
 ·simp [h]
 ·have : (d == c) = false:=by simpa using h
  rw [this]
  simp [h]
theorem cut_word : ∀ l : List UInt8,(if cutI l < 0 then (l.length : Int) else cutI l) = (wordL l).length ∧ -1 ≤ cutI l ∧ cutI l ≤ l.length
 | []=>by
  have : cutI [] = -1:=by decide
  rw [this]
  simp [wordL]
 | d :: l=>by
  obtain ⟨ih,h1,h2⟩:=cut_word l
  have g1:=ixB_ge l 32
  have g2:=ixB_ge l 9
  unfold cutI at ih h1 h2 ⊢
  rw [ix_cons d 32 l,ix_cons d 9 l]
  unfold wordL at ih ⊢
  by_cases h32 : d = 32
  ·subst h32
   rw [if_pos rfl,if_neg (show ¬ (32 : UInt8) = 9 by decide)]
   have e : (if Lib.indexByte l 9 = -1 then (-1 : Int) else Lib.indexByte l 9 + 1) ≠ 0:=by split <;> omega
   have e2 : ¬ ((0 : Int) < 0 ∨ (0 ≤ (if Lib.indexByte l 9 = -1 then (-1 : Int) else Lib.indexByte l 9 + 1) ∧ (if Lib.indexByte l 9 = -1 then (-1 : Int) else Lib.indexByte l 9 + 1) < 0)):=by
    rintro (h | ⟨h,h'⟩) <;> omega
   rw [if_neg e2]
   have tw : ((32 : UInt8) :: l).takeWhile (fun c=>!isBl c) = []:=by rw [List.takeWhile_cons]; rfl
   rw [tw]
   exact ⟨by simp,by omega,by simp only [List.length_cons]; omega⟩
  ·by_cases h9 : d = 9
   ·subst h9
    rw [if_neg (show ¬ (9 : UInt8) = 32 by decide),if_pos rfl]
    have tw : ((9 : UInt8) :: l).takeWhile (fun c=>!isBl c) = []:=by rw [List.takeWhile_cons]; rfl
    rw [tw]
    have e2 : ((if Lib.indexByte l 32 = -1 then (-1 : Int) else Lib.indexByte l 32 + 1) < 0 ∨ (0 ≤ (0 : Int) ∧ (0 : Int) < (if Lib.indexByte l 32 = -1 then (-1 : Int) else Lib.indexByte l 32 + 1))):=by
     split
     ·left; omega
     ·right; omega
    rw [if_pos e2]
    exact ⟨by simp,by omega,by simp only [List.length_cons]; omega⟩
   ·rw [if_neg h32,if_neg h9]
    have e3 : isBl d = false:=by unfold isBl; simp [h32,h9]
    have tw : (d :: l).takeWhile (fun c=>!isBl c) = d :: l.takeWhile (fun c=>!isBl c):=by rw [List.takeWhile_cons,e3]; rfl
    rw [tw]
    simp only [List.length_cons]
    generalize (l.takeWhile fun c=>!isBl c).length = n at *
    generalize Lib.indexByte l 32 = a at *
    generalize Lib.indexByte l 9 = b at *
    generalize l.length = m at *
    by_cases ha : a = -1
    ·by_cases hb : b = -1
     ·subst ha hb
      simp at ih h1 h2 ⊢
      omega
     ·rw [if_pos ha,if_neg hb]
      rw [ha] at ih h1 h2
      simp at ih h1 h2 ⊢
      rw [if_neg (by omega)] at ih ⊢
      omega
    ·by_cases hb : b = -1
     ·rw [if_neg ha,if_pos hb]
      rw [hb] at ih h1 h2
      have q1 : ¬ (a < 0 ∨ (0 ≤ (-1 : Int) ∧ (-1 : Int) < a)):=by omega
      have q2 : ¬ (a + 1 < 0 ∨ (0 ≤ (-1 : Int) ∧ (-1 : Int) < a + 1)):=by omega
      rw [if_neg q1] at ih h1 h2
      rw [if_neg q2]
      rw [if_neg (by omega)] at ih ⊢
      omega
     ·rw [if_neg ha,if_neg hb]
      by_cases q : a < 0 ∨ (0 ≤ b ∧ b < a)
      ·rw [if_pos q] at ih h1 h2
       rw [if_pos (show a + 1 < 0 ∨ (0 ≤ b + 1 ∧ b + 1 < a + 1) by omega)]
       rw [if_neg (by omega)] at ih ⊢
       omega
      ·rw [if_neg q] at ih h1 h2
       rw [if_neg (show ¬ (a + 1 < 0 ∨ (0 ≤ b + 1 ∧ b + 1 < a + 1)) by omega)]
       rw [if_neg (by omega)] at ih ⊢
       omega
noncomputable def F_line_words : Spec:=specOf (fun q : List UInt8 × Nat=>[.str q.1,vI (q.2 : Nat)]) (fun q=>q.1.length ≤ 200000 ∧ q.2 ≤ 1000000) (fun q=>wrdsV (wordsM q.1 q.2))
theorem Fwords {s : List UInt8} {k : Nat} (h1 : s.length ≤ 200000) (h2 : k ≤ 1000000) : F_line_words [.str s,vI (k : Nat)] = some (wrdsV (wordsM s k)):=specOf_eq (a:=(s,k)) (fun a b h=>by
 simp only [List.cons.injEq,and_true,V.str.injEq,V.int.injEq,true_and] at h
 exact Prod.ext h.1 (by omega)) ⟨h1,h2⟩
noncomputable abbrev TWd : List (FuncId × Spec):=[(n_strings_Contains,F_strings_Contains),(n_strings_IndexByte,F_strings_IndexByte)]
theorem litWrd (w : Wrd) : litK 2 [wrdW w] = some (.sl .ro [wrdW w]):=lit_s (n:=2) (by simp) rfl
theorem agWrd (a : List UInt8) (k : Nat) : aggK [.str a,vI (k : Nat)] = some (wrdW (a,k)):=agg_s rfl
theorem appWrd {l : List Wrd} (h : l.length ≤ 300000) (x : Wrd) : appK 2 24 (wrdsV l) (.sl .ro [wrdW x]) = some (wrdsV (l ++ [x])):=by
 have:=app_s (n:=2) (b:=24) (g:=.ro) (g':=.ro) (es:=l.map wrdW) (ys:=[wrdW x]) (by simp; omega) (all_map_len fun a=>rfl) rfl
 unfold wrdsV
 rw [List.map_append]
 exact this
theorem jnQ {k : List V → Prop} {b : (List V → Prop) → Prop} (X : List V) (h : ∀ r : List V → Prop,r X → b r) (hk : k X) : joinP k b:=h k hk
theorem pickTwo (a b : Int) (out : V) (k : List V → Prop) (hk : k [vI (if a < 0 ∨ (0 ≤ b ∧ b < a) then b else a),out]) : (opt (guardV (.bool (decide (a < 0))) false (some (.bool (decide (0 ≤ b))))) fun y15=>opt (chkBK y15) fun y16=>opt (binK .lss (vI b) (vI a)) fun y17=>opt (guardV (.bool (decide (a < 0))) false (pickV y15 y17 (.bool false))) fun y18=>opt (pickV (.bool (decide (a < 0))) (.bool true) y18) fun y19=>joinP k fun r1=>iteB y19 (r1 [vI b,out]) (r1 [vI a,out])):=by
 by_cases g1 : a < 0
 ·rw [decide_eq_true g1,gTF,opt_s,chkB_undef,opt_s,bLss,opt_s,gTF,opt_s,pBool,if_pos rfl,opt_s,joinP_eq,iteB_true]
  rw [if_pos (.inl g1)] at hk
  exact hk
 ·rw [decide_eq_false g1,gFF,opt_s,chkB_bool,opt_s,bLss,opt_s,gFF,pBool]
  by_cases g2 : 0 ≤ b
  ·rw [decide_eq_true g2,if_pos rfl,opt_s,pBool,if_neg (by simp),opt_s,joinP_eq,iteB_bool]
   by_cases g3 : b < a
   ·rw [decide_eq_true g3,if_pos rfl]
    rw [if_pos (.inr ⟨g2,g3⟩)] at hk
    exact hk
   ·rw [decide_eq_false g3,if_neg (by simp)]
    rw [if_neg (by omega)] at hk
    exact hk
  ·rw [decide_eq_false g2,if_neg (by simp),opt_s,pBool,if_neg (by simp),opt_s,joinP_eq,iteB_false]
   rw [if_neg (by omega)] at hk
   exact hk
theorem words_wp (s : List UInt8) (k : Nat) (h1 : s.length ≤ 200000) (h2 : k ≤ 1000000) : FunWp tyT (tab TWd) 59 q_line_words [.tmp 4] (cB Tryz.f37) [.str s,vI (k : Nat)] (fun v=>v = wrdsV (wordsM s k)):=by
 have c1 : ∀ args,tab TWd n_strings_Contains args = F_strings_Contains args:=fun _=>rfl
 have c2 : ∀ args,tab TWd n_strings_IndexByte args = F_strings_IndexByte args:=fun _=>rfl
 refine Eq.mpr (e_line_words (tab _) _ (.str s) (vI (k : Nat))) ?_
 refine loopP_inv (fun vs=>∃ (i : Nat) (out : List Wrd),i ≤ s.length ∧ out.length ≤ i ∧ out ++ wordsF (s.length - i) (s.drop i) (k + i) = wordsM s k ∧ vs = [vI (i : Nat),wrdsV out]) (fun vs=>s.length - natOf (gv vs 0)) ⟨0,[],Nat.zero_le _,Nat.le_refl _,rfl,rfl⟩ ?_
 rintro rr _ ⟨i,out,hi,ho,hw,rfl⟩ hr
 refine ⟨rfl,?_⟩
 simp only [gv_0,gv_s]
 rw [lenS_s,opt_s,bLt,opt_s,iteB_bool]
 by_cases hlt : i < s.length
 ·rw [if_pos (by simpa using hlt)]
  obtain ⟨c,r,hcr⟩ : ∃ c r,s.drop i = c :: r:=by
   cases hd : s.drop i with
   | nil=>rw [List.drop_eq_nil_iff] at hd; omega
   | cons c r=>exact ⟨c,r,rfl⟩
  have hlen : r.length + 1 + i = s.length:=by
   have:=congrArg List.length hcr
   simp only [List.length_drop,List.length_cons] at this
   omega
  have hdr : s.drop (i + 1) = r:=by
   have : s.drop (i + 1) = (s.drop i).drop 1:=by rw [List.drop_drop]
   rw [this,hcr]; rfl
  have hs1 : sliceS (.str (c :: r)) none (some (.int .i64 1)) = some (.str [c]):=sliceS_to (l:=c :: r) (k:=1) (by simp) .i64
  have hx0 : indexS (.str (c :: r)) (.int .i64 0) = some (.int .u8 c.toNat):=idxS_at (l:=c :: r) (k:=0) rfl .i64
  have hfu : s.length - i = r.length + 1:=by omega
  rw [sliceS_from (l:=s) (k:=i) hi .i64,opt_s,hcr,hs1,opt_s,c1]
  have hct : F_strings_Contains [.str [32,9],.str [c]] = some (.bool (isBl c)):=by
   simp only [F_strings_Contains]
   congr 2
   rw [ix_cons,ix_cons]
   unfold isBl
   by_cases g1 : c = 32
   ·subst g1; decide
   ·by_cases g2 : c = 9
    ·subst g2; decide
    ·have g1' : ¬ (32 : UInt8) = c:=fun e=>g1 e.symm
     have g2' : ¬ (9 : UInt8) = c:=fun e=>g2 e.symm
     simp [g1,g2,g1',g2',Lib.indexByte]
  rw [hct,opt_s,iteB_bool]
  rw [hfu,hcr] at hw
  have ha:=addK (a:=i) (b:=1) (by omega)
  have ha : binK .add (vI (i : Nat)) (.int .i64 1) = some (vI ((i + 1 : Nat) : Int)):=ha
  unfold wordsF at hw
  by_cases hb : isBl c = true
  ·rw [if_pos hb] at hw
   rw [if_pos hb,ha,opt_s]
   refine hr _ ⟨i + 1,out,by omega,by omega,?_,rfl⟩ (by simp only [gv_0,gv_s,natOf]; omega)
   rw [hdr,show s.length - (i + 1) = r.length by omega]
   exact hw
  ·rw [if_neg hb] at hw
   rw [if_neg hb,hx0,opt_s,bEql,opt_s,iteB_bool]
   by_cases h35 : c = 35
   ·rw [if_pos h35] at hw
    subst h35
    rw [if_pos (by decide)]
    rw [List.append_nil] at hw
    rw [hw]
   ·rw [if_neg h35] at hw
    have hne : ¬ (c.toNat : Int) = 35:=fun e=>h35 (by
     have e : c.toNat = 35:=by omega
     have : c = UInt8.ofNat 35:=by rw [← e]; simp
     exact this)
    rw [if_neg (by simpa using hne),c2,c2]
    have e32 : F_strings_IndexByte [.str (c :: r),.int .u8 32] = some (vI (Lib.indexByte (c :: r) 32)):=rfl
    have e9 : F_strings_IndexByte [.str (c :: r),.int .u8 9] = some (vI (Lib.indexByte (c :: r) 9)):=rfl
    obtain ⟨w1,w2,w3⟩:=cut_word (c :: r)
    have hwl : 1 ≤ (wordL (c :: r)).length:=by
     unfold wordL
     rw [List.takeWhile_cons,if_pos (by simpa using hb)]
     simp
    have hwl2 : (wordL (c :: r)).length ≤ (c :: r).length:=(List.takeWhile_prefix _).length_le
    have hwt : (c :: r).take (wordL (c :: r)).length = wordL (c :: r):=(List.prefix_iff_eq_take.1 (List.takeWhile_prefix _)).symm
    rw [e32,opt_s,e9,opt_s,bLss,opt_s,bGeq,opt_s]
    refine pickTwo _ _ _ _ ?_
    refine ⟨rfl,?_⟩
    simp only [gv_0,gv_s]
    rw [bLss,opt_s]
    have hcut : (if Lib.indexByte (c :: r) 32 < 0 ∨ (0 ≤ Lib.indexByte (c :: r) 9 ∧ Lib.indexByte (c :: r) 9 < Lib.indexByte (c :: r) 32) then Lib.indexByte (c :: r) 9 else Lib.indexByte (c :: r) 32) = cutI (c :: r):=rfl
    rw [hcut]
    refine jnQ (X:=[vI ((wordL (c :: r)).length : Nat),wrdsV out]) ?_ ?_
    ·intro r1 h1
     rw [iteB_bool]
     by_cases g : cutI (c :: r) < 0
     ·rw [if_pos g] at w1
      rw [if_pos (by simpa using g),lenS_s,opt_s,w1]
      exact h1
     ·rw [if_neg g] at w1
      rw [if_neg (by simpa using g),w1]
      exact h1
    ·refine ⟨rfl,?_⟩
     simp only [gv_0,gv_s]
     simp only [List.length_cons] at hwl2
     rw [sliceS_to (l:=c :: r) (k:=(wordL (c :: r)).length) (by simp only [List.length_cons]; omega) .i64,opt_s,hwt,addK (by omega),opt_s,agWrd,opt_s,litWrd,opt_s,appWrd (by omega),opt_s,addK (by omega),opt_s]
     refine hr _ ⟨i + (wordL (c :: r)).length,out ++ [(wordL (c :: r),k + i)],by omega,by simp only [List.length_append,List.length_singleton]; omega,?_,rfl⟩ (by simp only [gv_0,gv_s,natOf]; omega)
     rw [← hw,List.append_assoc]
     congr 1
     rw [List.singleton_append]
     congr 1
     have e1 : s.drop (i + (wordL (c :: r)).length) = (c :: r).drop (wordL (c :: r)).length:=by rw [← hcr,List.drop_drop]
     rw [e1,show k + (i + (wordL (c :: r)).length) = k + i + (wordL (c :: r)).length by omega]
     exact wordsF_fuel _ _ _ _ (by rw [List.length_drop,List.length_cons]; omega) (by rw [List.length_drop,List.length_cons]; omega)
 ·rw [if_neg (by simpa using hlt)]
  have e : s.length - i = 0:=by omega
  rw [e] at hw
  have e2 : wordsF 0 (s.drop i) (k + i) = []:=rfl
  rw [e2,List.append_nil] at hw
  rw [hw]
theorem ok_line_words : SpecL Tryz.prog n_line_words F_line_words:=by
 refine go_line_words (T:=TWd) (TabOk.cons ok_strings_Contains (TabOk.cons ok_strings_IndexByte TabOk.nil)) fun args v hv=>?_
 obtain ⟨⟨s,k⟩,rfl,⟨h1,h2⟩,rfl⟩:=specOf_inv hv
 exact ⟨rfl,by simp [canos,V.cano],wrdsV_cano _,words_wp s k h1 h2⟩
end Go.Fbs
