import Derived.Test.YtpdnpfdbjoaemaaGreatDoorQTD
set_option linter.unusedSimpArgs false
set_option linter.unusedVariables false
set_option linter.unusedSectionVars false
set_option maxRecDepth 100000
namespace Go.Fbs
open Go.Proofs
attribute [local irreducible] FunWpE FunWp opt
theorem leqD (a b : Nat) : binK .leq (vI (a : Nat)) (vI (b : Nat)) = some (.bool (decide (a ≤ b))):=by
 rw [bLeq]; congr 2
 by_cases h : a ≤ b <;> simp [h]
theorem gtrD (a b : Nat) : binK .gtr (vI (a : Nat)) (vI (b : Nat)) = some (.bool (decide (b < a))):=by
 rw [bGtr]; congr 2
 by_cases h : b < a <;> simp [h]
theorem jnK {k : List V → Prop} {b : (List V → Prop) → Prop} (h : ∀ r : List V → Prop,(∀ w,k w → r w) → b r) : joinP k b:=h k fun _ h=>h
theorem fb_cons (c : UInt8) (r : List UInt8) (i : Nat) : fb (c :: r) i = if okC c r = true then fb r (i + 1) else some i:=rfl
theorem lines_wp (s : List UInt8) (hs : s.length ≤ bigT) : FunWp tyT (tab [(n_entailref1_words,F_entailref1_words)]) 125 q_entailref1_Lines [.tmp 2,.tmp 3,.tmp 4] (cB Tryz.f21) [.str s] (fun v=>v = lineT s):=by
 have c1 : ∀ args,tab [(n_entailref1_words,F_entailref1_words)] n_entailref1_words args = F_entailref1_words args:=fun _=>rfl
 unfold bigT at hs
 refine Eq.mpr (e_entailref1_Lines (tab _) _ (.str s)) ?_
 refine loopP_inv (fun vs=>∃ i : Nat,i ≤ s.length ∧ vs = [vI ((s.take i).count 10 : Nat),vI (i : Nat)]) (fun vs=>s.length - natOf (gv vs 1)) ⟨0,Nat.zero_le _,rfl⟩ ?_
 rintro rr _ ⟨i,hi,rfl⟩ hr
 refine ⟨rfl,?_⟩
 simp only [gv_0,gv_s]
 rw [lenS_s,opt_s,bLt,opt_s,iteB_bool]
 have hcl : (s.take i).count 10 ≤ s.length:=Nat.le_trans List.count_le_length (by rw [List.length_take]; omega)
 by_cases hlt : i < s.length
 ·obtain ⟨c,hc⟩ : ∃ c,s[i]? = some c:=⟨_,List.getElem?_eq_getElem hlt⟩
  rw [if_pos (by simpa using hlt),show indexS (.str s) (vI (i : Nat)) = some (.int .u8 c.toNat) from idxS_at hc .i64,opt_s,show binK .eql (.int .u8 c.toNat) (.int .u8 10) = _ from eq_byte c 10 (by omega),opt_s,iteB_bool]
  have htk:=take_one hc
  by_cases h10 : c = UInt8.ofNat 10
  ·rw [if_pos (by simpa using h10),add1' (by omega),opt_s,add1' (by omega),opt_s]
   have : (s.take (i + 1)).count 10 = (s.take i).count 10 + 1:=by rw [htk,List.count_append,h10]; rfl
   rw [← this]
   exact hr _ ⟨i + 1,hlt,rfl⟩ (by simp only [gv_0,gv_s,natOf]; omega)
  ·rw [if_neg (by simpa using h10),add1' (by omega),opt_s]
   have : (s.take (i + 1)).count 10 = (s.take i).count 10:=by
    rw [htk,List.count_append]
    have : [c].count 10 = 0:=List.count_eq_zero.2 fun hm=>h10 (List.mem_singleton.1 hm).symm
    rw [this]; rfl
   rw [← this]
   exact hr _ ⟨i + 1,hlt,rfl⟩ (by simp only [gv_0,gv_s,natOf]; omega)
 ·obtain rfl : i = s.length:=by omega
  rw [if_neg (by simp),List.take_length,opt_s,show binK .gtr (vI (s.length : Nat)) (.int .i64 200000) = _ from gtrD s.length 200000,opt_s,show binK .gtr (vI (s.count 10 : Nat)) (.int .i64 5000) = _ from gtrD (s.count 10) 5000,opt_s,pOrD,opt_s,iteB_bool]
  by_cases hbig : 200000 < s.length ∨ 5000 < s.count 10
  ·rw [if_pos (by simpa using hbig)]
   unfold lineT
   rw [show linesM s = ([],0,8) from if_pos hbig]
   rfl
  ·rw [if_neg (by simpa using hbig)]
   have hM:=linesM_fb s (by omega) (by omega)
   refine loopP_inv (fun vs=>∃ i : Nat,i ≤ s.length ∧ fb (s.drop i) i = fb s 0 ∧ vs = [vI (i : Nat)]) (fun vs=>s.length - natOf (gv vs 0)) ⟨0,Nat.zero_le _,rfl,rfl⟩ ?_
   rintro r1 _ ⟨i,hi,hf,rfl⟩ hr1
   refine ⟨rfl,?_⟩
   simp only [gv_0]
   rw [opt_s,bLt,opt_s,iteB_bool]
   by_cases hlt : i < s.length
   ·obtain ⟨c,hc⟩ : ∃ c,s[i]? = some c:=⟨_,List.getElem?_eq_getElem hlt⟩
    have hd:=drop_consD hc
    rw [if_pos (by simpa using hlt),show indexS (.str s) (vI (i : Nat)) = some (.int .u8 c.toNat) from idxS_at hc .i64,opt_s]
    refine gOk hs hd _ ?_
    rw [hd,fb_cons] at hf
    rw [iteB_bool]
    cases hk : okC c (s.drop (i + 1)) with
    | true =>
     rw [hk,if_pos rfl] at hf
     rw [if_pos rfl,add1' (by omega),opt_s]
     exact hr1 _ ⟨i + 1,hlt,hf,rfl⟩ (by simp only [gv_0,natOf]; omega)
    | false =>
     rw [hk,if_neg (by simp)] at hf
     rw [if_neg (by simp)]
     unfold lineT
     rw [hM,← hf]
     rfl
   ·have hd : s.drop i = []:=List.drop_eq_nil_of_le (by omega)
    rw [hd] at hf
    rw [← hf] at hM
    have hM : linesM s = (linesG (pieces s) 0 [],0,0):=hM
    rw [if_neg (by simpa using hlt)]
    have hT : lineT s = .tup [linsV (linesG (pieces s) 0 []),vI 0,vI 0]:=by unfold lineT; rw [hM]; rfl
    rw [hT]
    generalize hR : linesG (pieces s) 0 [] = RES
    refine loopP_inv (fun vs=>∃ (out : List Lin) (f i : Nat),out.length ≤ f ∧ i ≤ s.length + 1 ∧ ((∃ p,LnAt s f i p ∧ linesG (pieces (s.drop f)) f out = RES) ∨ (s.length < i ∧ out = RES)) ∧ vs = [linsV out,vI (f : Nat),vI (i : Nat)]) (fun vs=>s.length + 1 - natOf (gv vs 2))
     ⟨[],0,0,Nat.le_refl _,Nat.zero_le _,.inl ⟨[],lnAt_start s (Nat.zero_le _),hR⟩,rfl⟩ ?_
    rintro r2 _ ⟨out,f,i,ho,hi1,hst,rfl⟩ hr2
    refine ⟨rfl,?_⟩
    simp only [gv_0,gv_s]
    rw [opt_s,leqD,opt_s,iteB_bool]
    by_cases hle : i ≤ s.length
    ·rw [if_pos (by simpa using hle)]
     refine jnK fun r3 hk3=>?_
     have h3 : ∀ a b,(opt (binK .add (vI (i : Nat)) (.int .i64 1)) fun y19=>r2 [a,b,y19]) → r3 [a,b]:=fun a b h=>hk3 _ ⟨rfl,h⟩
     obtain ⟨p,hp,hG⟩ : ∃ p,LnAt s f i p ∧ linesG (pieces (s.drop f)) f out = RES:=by
      rcases hst with h | ⟨h,_⟩
      ·exact h
      ·omega
     have go : ∀ c,s[i]? = some c → c ≠ 10 → (opt (binK .add (vI (i : Nat)) (.int .i64 1)) fun y19=>r2 [linsV out,vI (f : Nat),y19]):=fun c hc h10=>by
      rw [add1' (by omega),opt_s]
      exact hr2 _ ⟨out,f,i + 1,ho,by omega,.inl ⟨_,lnAt_next hp hc h10,hG⟩,rfl⟩ (by simp only [gv_0,gv_s,natOf]; omega)
     have fin : (i = s.length ∨ s[i]? = some 10) → ∀ out' : List Lin,out' = out ++ lineM (bareM p) f → (opt (binK .add (vI (i : Nat)) (.int .i64 1)) fun y19=>r2 [linsV out',vI ((i + 1 : Nat) : Int),y19]):=fun hend out' ho'=>by
      have hle2:=hp.le
      have hlen:=hp.len
      have hl1 : (lineM (bareM p) f).length ≤ 1:=by unfold lineM; split <;> simp
      rw [add1' (by omega),opt_s]
      refine hr2 _ ⟨out',i + 1,i + 1,by rw [ho',List.length_append]; omega,by omega,?_,rfl⟩ (by simp only [gv_0,gv_s,natOf]; omega)
      rcases hend with he | he
      ·right
       refine ⟨by omega,?_⟩
       have hcut : s.drop f = p:=by rw [hp.cut,he,List.drop_length,List.append_nil]
       rw [hcut,pieces_no hp.no] at hG
       unfold linesG linesG at hG
       rw [ho',← hG]
      ·left
       have hlt2:=(List.getElem?_eq_some_iff.1 he).1
       refine ⟨[],lnAt_start s hlt2,?_⟩
       rw [hp.cut,drop_consD he,pieces_line hp.no] at hG
       unfold linesG at hG
       rw [show f + p.length + 1 = i + 1 by omega] at hG
       rw [ho',← hG]
     have last : (i = s.length ∨ s[i]? = some 10) → (opt (binK .gtr (vI (i : Nat)) (vI (f : Nat))) fun y22=>opt (binK .sub (vI (i : Nat)) (.int .i64 1)) fun y23=>opt (guardV y22 true (indexS (.str s) y23)) fun y24=>opt (guardV y22 true (binK .eql y24 (.int .u8 13))) fun y25=>opt (pickV y22 y25 (.bool false)) fun y26 =>
       joinP (fun w4=>w4.length = 2 ∧ (opt (sliceS (.str s) (some (vI (f : Nat))) (some (gv w4 0))) fun y29=>opt (tab [(n_entailref1_words,F_entailref1_words)] n_entailref1_words [y29,vI (f : Nat)]) fun y30=>opt (lenL y30) fun y31=>opt (binK .gtr y31 (.int .i64 0)) fun y32=>iteB y32 (opt (idxLK true 2 y30 (.int .i64 0)) fun y33=>opt (chk1K y30) fun y34=>opt (aggK [(cellD y33 1),y34]) fun y35=>opt (litK 2 [y35]) fun y36=>opt (appK 2 32 (gv w4 1) y36) fun y37=>opt (binK .add (vI (i : Nat)) (.int .i64 1)) fun y38 =>
        r3 [y37,y38]) (opt (binK .add (vI (i : Nat)) (.int .i64 1)) fun y33=>r3 [gv w4 1,y33]))) fun r4=>iteB y26 (opt (binK .sub (vI (i : Nat)) (.int .i64 1)) fun y27=>r4 [y27,linsV out]) (r4 [vI (i : Nat),linsV out])):=fun hend=>by
      obtain ⟨e,e1,e2,e3,e4,e5⟩:=ln_bare hp
      have hsub : binK .sub (vI (i : Nat)) (.int .i64 1) = some (vI ((i : Int) - 1)):=by rw [bSub,wrap_in (by omega) (by omega)]
      have hcr : ∀ K : V → Prop,K (.bool (decide (f < i ∧ s[i - 1]? = some 13))) → (opt (guardV (.bool (decide (f < i))) true (indexS (.str s) (vI ((i : Int) - 1)))) fun y24=>opt (guardV (.bool (decide (f < i))) true (binK .eql y24 (.int .u8 13))) fun y25=>opt (pickV (.bool (decide (f < i))) y25 (.bool false)) fun y26=>K y26):=fun K hK=>by
       by_cases hfi : f < i
       ·obtain ⟨c,hc,_⟩:=ln_last hp hfi
        have hx : indexS (.str s) (vI ((i : Int) - 1)) = some (.int .u8 c.toNat):=by
         have:=idxS_at hc .i64
         rw [show (i : Int) - 1 = ((i - 1 : Nat) : Int) by omega]
         exact this
        rw [decide_eq_true hfi,gTT,hx,opt_s,gTT,show binK .eql (.int .u8 c.toNat) (.int .u8 13) = _ from eq_byte c 13 (by omega),opt_s,pAndD,opt_s]
        have : decide (f < i ∧ s[i - 1]? = some 13) = (true && decide (c = UInt8.ofNat 13)):=by
         rw [hc,Bool.true_and]
         simp [hfi]
        rw [this] at hK
        exact hK
       ·rw [decide_eq_false hfi,gFT,opt_s,gFT,opt_s,pBool,if_neg (by simp),opt_s]
        rw [decide_eq_false (fun h=>hfi h.1)] at hK
        exact hK
      rw [gtrD,opt_s,hsub,opt_s]
      refine hcr _ ?_
      refine jnQ (X:=[vI (e : Nat),linsV out]) (fun r4 h4=>?_) ⟨rfl,?_⟩
      ·rw [iteB_bool]
       by_cases hcc : f < i ∧ s[i - 1]? = some 13
       ·rw [if_pos (by simpa using hcc),opt_s]
        have:=e4 hcc
        rw [this,show ((i - 1 : Nat) : Int) = (i : Int) - 1 by omega] at h4
        exact h4
       ·rw [if_neg (by simpa using hcc)]
        rw [e5 hcc] at h4
        exact h4
      ·simp only [gv_0,gv_s]
       have hbl : (bareM p).length ≤ 200000:=by rw [← e3,List.length_take,List.length_drop]; omega
       rw [sliceMid e1 (by omega),opt_s,e3,c1,Frwords hbl (by have:=hp.le; omega),opt_s,lenWrd,opt_s,show binK .gtr (vI ((wordsM (bareM p) f).length : Nat)) (.int .i64 0) = _ from gtrD _ 0,opt_s,iteB_bool]
       have hfin:=fin hend
       unfold lineM at hfin
       cases hw : wordsM (bareM p) f with
       | nil =>
        rw [hw] at hfin
        rw [if_neg (by simp),add1' (by omega),opt_s]
        exact h3 _ _ (hfin out (by simp))
       | cons w ws =>
        rw [hw] at hfin
        have hw1 : cellD (wrdW w) 1 = vI w.2:=rfl
        have hle3:=hp.le
        rw [if_pos (by simp),show idxLK true 2 (wrdsV (w :: ws)) (.int .i64 0) = some (wrdW w) from wrdAt (i:=0) rfl,opt_s,chk1_s rfl,opt_s,hw1,agLin,opt_s,litLin,opt_s,appLin (by omega),opt_s,add1' (by omega),opt_s]
        exact h3 _ _ (hfin (out ++ [(w.2,w :: ws)]) rfl)
     rw [opt_s,bLt,opt_s]
     by_cases hlt : i < s.length
     ·obtain ⟨c,hc⟩ : ∃ c,s[i]? = some c:=⟨_,List.getElem?_eq_getElem hlt⟩
      have hne : binK .neq (.int .u8 c.toNat) (.int .u8 10) = some (.bool (!decide (c = 10))):=by
       have:=eq_byte c 10 (by omega)
       rw [bEql] at this
       rw [bNeq]
       simp only [Option.some.injEq,V.bool.injEq] at this ⊢
       rw [show ((10 : Int)) = ((10 : Nat) : Int) from rfl,this]; rfl
      rw [decide_eq_true hlt,gTT,show indexS (.str s) (vI (i : Nat)) = some (.int .u8 c.toNat) from idxS_at hc .i64,opt_s,gTT,hne,opt_s,pAndD,opt_s,iteB_bool]
      by_cases h10 : c = 10
      ·rw [if_neg (by simp [h10])]
       exact last (.inr (by rw [hc,h10]))
      ·rw [if_pos (by simp [h10])]
       exact h3 _ _ (go c hc h10)
     ·rw [decide_eq_false hlt,gFT,opt_s,gFT,opt_s,pBool,if_neg (by simp),opt_s,iteB_false]
      exact last (.inl (by omega))
    ·rw [if_neg (by simpa using hle)]
     have hres : out = RES:=by
      rcases hst with ⟨p,hp,_⟩ | ⟨_,h⟩
      ·have:=hp.top; omega
      ·exact h
     rw [hres]
theorem ok_entailref1_Lines : SpecL Tryz.prog n_entailref1_Lines F_entailref1_Lines:=by
 refine go_entailref1_Lines (T:=[(n_entailref1_words,F_entailref1_words)]) (TabOk.cons ok_entailref1_words TabOk.nil) fun args v hv=>?_
 unfold F_entailref1_Lines at hv
 split at hv <;> simp only [Option.ite_none_right_eq_some,Option.some.injEq,reduceCtorEq] at hv
 rename_i s
 obtain ⟨hs,rfl⟩:=hv
 exact ⟨rfl,rfl,by simp only [lineT,V.cano,canos,linsV_cano,Bool.and_self],lines_wp s hs⟩
end Go.Fbs
