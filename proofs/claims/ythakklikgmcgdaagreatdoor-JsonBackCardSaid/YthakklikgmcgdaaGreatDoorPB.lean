import Derived.Test.YthakklikgmcgdaaGreatDoorWG
import Derived.Test.YthakklikgmcgdaaGreatDoorWQ
set_option linter.unusedSimpArgs false
set_option linter.unusedVariables false
set_option linter.unusedSectionVars false
set_option maxRecDepth 100000
namespace Go.Fbs
open Go.Proofs Go.RowKit
def Good (e : V) : Prop:=∃ k t ks ls,e = jn k t ks ls ∧ (jn k t ks ls).cano = true
theorem moreM_len {A : Type} {one : A → PSt → Option (A × PSt)} {c : UInt8} (hc : c ≠ 0) (G : A → Prop) (hone : ∀ acc p acc' p',Dom p → G acc → one acc p = some (acc',p') → Dom p' ∧ p'.d = p.d ∧ p'.s = p.s ∧ G acc') :
  ∀ {n : Nat} {acc : A} {p : PSt} {r : A × PSt},Dom p → G acc → moreM one c n acc p = some r → Dom r.2 ∧ r.2.d = p.d ∧ r.2.s = p.s ∧ G r.1
 | 0,_,_,_,_,_,h=>by cases h
 | n + 1,acc,p,r,hd,hG,h=>by
  rw [moreM] at h
  split at h
  ·cases h; exact ⟨hd,rfl,rfl,hG⟩
  ·split at h
   ·cases h
   ·rename_i acc' p2 ho
    obtain ⟨k1,k2,k3,k4⟩:=hone _ _ _ _ (skip_dom hd) hG ho
    have k5:=skip_dom k1
    split at h
    ·cases h; exact ⟨k5,k2,k3,k4⟩
    ·split at h
     ·cases h
      exact ⟨need_dom k5 c hc,(need_ahead k5 c hc).d.trans k2,(need_ahead k5 c hc).s.trans k3,k4⟩
     ·rename_i hh
      have hlt:=here_lt k5 (by intro e; rw [e] at hh; exact hh (by decide))
      have k6 : Dom { skipM p2 with a:=(skipM p2).a + 1 }:=⟨k5.1,by show 0 ≤ (skipM p2).a + 1; have:=k5.2.1; omega,by show (skipM p2).a + 1 ≤ ((skipM p2).s.length : Int); omega⟩
      obtain ⟨m1,m2,m3,m4⟩:=moreM_len hc G hone k6 k4 h
      exact ⟨m1,m2.trans k2,m3.trans k3,m4⟩
theorem itemsM_all {A : Type} {one : A → PSt → Option (A × PSt)} {c : UInt8} (hc : c ≠ 0) (G : A → Prop) (hone : ∀ acc p acc' p',Dom p → G acc → one acc p = some (acc',p') → Dom p' ∧ p'.d = p.d ∧ p'.s = p.s ∧ G acc')
  {n : Nat} {acc : A} {p : PSt} {r : A × PSt} (hd : Dom p) (ha : p.a < p.s.length) (hG : G acc) (h : itemsM one c n acc p = some r) : Dom r.2 ∧ r.2.d = p.d ∧ r.2.s = p.s ∧ G r.1:=by
 unfold itemsM at h
 split at h
 ·cases h
  refine ⟨fail_dom hd _ _,?_,?_,hG⟩
  ·show (failM p p.a 10).d = p.d; unfold failM; split <;> rfl
  ·show (failM p p.a 10).s = p.s; unfold failM; split <;> rfl
 ·have hd1 : Dom { p with d:=p.d + 1,a:=p.a + 1 }:=⟨hd.1,by show 0 ≤ p.a + 1; have:=hd.2.1; omega,by show p.a + 1 ≤ (p.s.length : Int); omega⟩
  have hd2:=skip_dom hd1
  dsimp only at h
  split at h
  ·rename_i hh
   have hlt:=here_lt hd2 (by rw [hh]; exact hc)
   cases h
   refine ⟨⟨hd2.1,?_,?_⟩,?_,rfl,hG⟩
   ·show 0 ≤ (skipM { p with d:=p.d + 1,a:=p.a + 1 }).a + 1
    have:=hd2.2.1; omega
   ·show (skipM { p with d:=p.d + 1,a:=p.a + 1 }).a + 1 ≤ ((skipM { p with d:=p.d + 1,a:=p.a + 1 }).s.length : Int)
    omega
   ·show p.d + 1 - 1 = p.d; omega
  ·split at h
   ·cases h
   ·rename_i acc' p2 hm
    cases h
    obtain ⟨m1,m2,m3,m4⟩:=moreM_len hc G hone hd2 hG hm
    refine ⟨m1,?_,m3,m4⟩
    show p2.d - 1 = p.d
    have : p2.d = p.d + 1:=m2
    omega
theorem list_all {valM : PSt → Option (V × PSt)} (hv : ValOk valM) {n : Nat} {p : PSt} {r : List V × PSt} (hd : Dom p) (ha : p.a < p.s.length) (h : itemsM (oneL valM) 93 n [] p = some r) : Dom r.2 ∧ r.2.d = p.d ∧ r.2.s = p.s ∧ ∀ e ∈ r.1,Good e:=by
 refine itemsM_all (by decide) (fun acc : List V=>∀ e ∈ acc,Good e) (fun acc q acc' q' hq hG ho=>?_) hd ha (fun e h=>by cases h) h
 obtain ⟨_,v,h1,rfl⟩:=oneL_some ho
 obtain ⟨k1,k2,k3⟩:=hv.dom q v q' hq h1
 refine ⟨k1,k2,k3,fun e he=>?_⟩
 rcases List.mem_append.1 he with h' | h'
 ·exact hG e h'
 ·rw [List.mem_singleton.1 h']; exact hv.shape q v q' hq h1
end Go.Fbs

namespace Go.Fbs
open Go.Proofs Go.RowKit
def F_of (M : PSt → Option (V × PSt)) : Spec
 | [.agg [.str s,.int .i64 a,.int .i64 d,.int .i64 e,.int .i64 b]]=>if s.length ≤ big ∧ 0 ≤ a ∧ a ≤ s.length then (M ⟨s,a,d,e,b⟩).map fun r=>.tup [r.1,.agg (pW r.2)] else none
 | _=>none
theorem F_of_at {M : PSt → Option (V × PSt)} {p : PSt} {v : V} {q : PSt} (h : Dom p) (hM : M p = some (v,q)) : F_of M [.agg (pW p)] = some (.tup [v,.agg (pW q)]):=by
 unfold F_of pW
 refine (if_pos h).trans ?_
 rw [show (⟨p.s,p.a,p.d,p.e,p.b⟩ : PSt) = p from rfl,hM]
 rfl
theorem F_of_inv {M : PSt → Option (V × PSt)} {words : List V} {v : V} (h : F_of M words = some v) : ∃ p w q,words = [.agg (pW p)] ∧ Dom p ∧ M p = some (w,q) ∧ v = .tup [w,.agg (pW q)]:=by
 unfold F_of at h
 split at h <;> simp only [Option.ite_none_right_eq_some,Option.map_eq_some_iff,reduceCtorEq] at h
 rename_i s a d e b
 obtain ⟨hd,⟨w,q⟩,h1,rfl⟩:=h
 exact ⟨⟨s,a,d,e,b⟩,w,q,rfl,hd,h1,rfl⟩
theorem good_cano {v : V} (h : Good v) : v.cano = true:=by obtain ⟨k,t,ks,ls,rfl,h⟩:=h; exact h
theorem pW_cano (p : PSt) : canos (pW p) = true:=rfl
theorem read_spec {f : FuncId} {M : PSt → Option (V × PSt)} (he : Enter Tryz.prog f) (hM : ∀ p v p',Dom p → M p = some (v,p') → ReadC f p p' v ∧ Good v) : SpecE Tryz.prog f s_x_json_parser_list (F_of M) where
 enter:=he
 call:=fun words v hv=>by
  obtain ⟨p,w,q,rfl,hd,h1,rfl⟩:=F_of_inv hv
  obtain ⟨hr,hg⟩:=hM p w q hd h1
  have hc:=good_cano hg
  refine ⟨[w,.agg (pW q)],rfl,Nat.le_succ 1,?_,?_,rfl,?_⟩
  ·simp [canos,V.cano,pW_cano]
  ·simp [canos,V.cano,pW_cano,hc]
  ·refine told_of (p:=p) (p':=q) (args:=[]) (rs:=[w]) rfl rfl rfl rfl rfl (cano_plain hc).1 fun κ w B xs hw hx=>?_
   rw [hx.inv_nil]
   exact hr w B hw
def listM (valM : PSt → Option (V × PSt)) (p : PSt) : Option (V × PSt) :=
 if hI p = 91 ∧ 0 ≤ p.d ∧ p.d ≤ 20 then (itemsM (oneL valM) 93 (p.s.length + 2) [] p).map fun r=>(jn 6 [] [] r.1,r.2) else none
theorem listM_inv {valM : PSt → Option (V × PSt)} {p q : PSt} {v : V} (h : listM valM p = some (v,q)) : hI p = 91 ∧ (0 ≤ p.d ∧ p.d ≤ 20) ∧ ∃ ls,itemsM (oneL valM) 93 (p.s.length + 2) [] p = some (ls,q) ∧ v = jn 6 [] [] ls:=by
 unfold listM at h
 split at h
 ·rename_i hc
  obtain ⟨⟨ls,q'⟩,h1,h2⟩:=Option.map_eq_some_iff.1 h
  cases h2
  exact ⟨hc.1,hc.2,ls,h1,rfl⟩
 ·cases h
theorem hI_lt {p : PSt} (h : Dom p) (h0 : hI p ≠ 0) : p.a < p.s.length:=here_lt h (fun e=>h0 (by unfold hI; rw [e]; rfl))
theorem goods_cano {ls : List V} (h : ∀ e ∈ ls,Good e) (k : Int) : Good (jn k [] [] ls):=by
 refine ⟨k,[],[],ls,rfl,?_⟩
 have : canos ls = true:=canos_iff.2 fun e he=>good_cano (h e he)
 simp [jn,V.cano,canos,this]
theorem eg32 : Enter Tryz.prog 32:=⟨_,_,Tryz.func32,rfl,by kernel_rfl⟩
theorem listM_reads {valM : PSt → Option (V × PSt)} (hv : ValOk valM) : ∀ p v p',Dom p → listM valM p = some (v,p') → ReadC 32 p p' v ∧ Good v:=by
 intro p v q hd h
 obtain ⟨h91,hdd,ls,h1,rfl⟩:=listM_inv h
 have ha:=hI_lt hd (by rw [h91]; decide)
 exact ⟨list_calls hv h1 hd ha hdd,goods_cano (list_all hv hd ha h1).2.2.2 6⟩
theorem listM_keeps {valM : PSt → Option (V × PSt)} (hv : ValOk valM) : ∀ p v p',Dom p → listM valM p = some (v,p') → Dom p' ∧ p'.d = p.d ∧ p'.s = p.s:=by
 intro p v q hd h
 obtain ⟨h91,hdd,ls,h1,rfl⟩:=listM_inv h
 have:=list_all hv hd (hI_lt hd (by rw [h91]; decide)) h1
 exact ⟨this.1,this.2.1,this.2.2.1⟩
theorem okx_list (valM : PSt → Option (V × PSt)) (hv : ValOk valM) : SpecE Tryz.prog n_json_parser_list s_x_json_parser_list (F_of (listM valM)):=read_spec eg32 (listM_reads hv)
end Go.Fbs

namespace Go.Fbs
open Go.Proofs Go.RowKit
abbrev RM:=PSt → Option (V × PSt)
structure ObjOk (objM : RM → RM) : Prop where
 reads : ∀ valM,ValOk valM → ∀ p v p',Dom p → objM valM p = some (v,p') → ReadC 31 p p' v ∧ Good v
 keeps : ∀ valM,ValOk valM → ∀ p v p',Dom p → objM valM p = some (v,p') → Dom p' ∧ p'.d = p.d ∧ p'.s = p.s
def valM (objM : RM → RM) : Nat → RM
 | 0,_=>none
 | n + 1,p =>
  if hI p = 123 then objM (valM objM n) p
  else if hI p = 91 then listM (valM objM n) p
  else if hI p = 34 then (textM p).map fun r=>(jn 5 r.1 [] [],r.2)
  else if hI p = 110 then some (jn 1 [] [] [],wordM [110,117,108,108] p)
  else if hI p = 102 then some (jn 2 [] [] [],wordM [102,97,108,115,101] p)
  else if hI p = 116 then some (jn 3 [] [] [],wordM [116,114,117,101] p)
  else some (jn 4 (numT p) [] [],numberM p)
theorem good_jn (k : Int) (t : List UInt8) : Good (jn k t [] []):=⟨k,t,[],[],rfl,rfl⟩
theorem valM_keeps {objM : RM → RM} (ho : ObjOk objM) {n : Nat} (hv : ValOk (valM objM n)) : ∀ p v p',Dom p → valM objM (n + 1) p = some (v,p') → (Dom p' ∧ p'.d = p.d ∧ p'.s = p.s) ∧ Good v:=by
 intro p v q hd h
 rw [valM] at h
 split at h
 ·exact ⟨ho.keeps _ hv p v q hd h,(ho.reads _ hv p v q hd h).2⟩
 ·split at h
  ·exact ⟨listM_keeps hv p v q hd h,(listM_reads hv p v q hd h).2⟩
  ·split at h
   ·obtain ⟨r,h1,h2⟩:=Option.map_eq_some_iff.1 h
    cases h2
    have k:=text_ahead hd h1
    exact ⟨⟨k.dom,k.d,k.s⟩,good_jn _ _⟩
   ·split at h
    ·cases h
     have k:=word_ahead (t:=[110,117,108,108]) hd (by decide)
     exact ⟨⟨k.dom,k.d,k.s⟩,good_jn _ _⟩
    ·split at h
     ·cases h
      have k:=word_ahead (t:=[102,97,108,115,101]) hd (by decide)
      exact ⟨⟨k.dom,k.d,k.s⟩,good_jn _ _⟩
     ·split at h
      ·cases h
       have k:=word_ahead (t:=[116,114,117,101]) hd (by decide)
       exact ⟨⟨k.dom,k.d,k.s⟩,good_jn _ _⟩
      ·cases h
       have k:=number_ahead hd
       exact ⟨⟨k.dom,k.d,k.s⟩,good_jn _ _⟩
theorem F_text_at {p : PSt} (h : Dom p) {r : List UInt8 × PSt} (hr : textM p = some r) : F_text2 [.agg (pW p)] = some (.tup [.str r.1,.agg (pW r.2)]):=by
 unfold F_text2 pW
 refine (if_pos h).trans ?_
 rw [show (⟨p.s,p.a,p.d,p.e,p.b⟩ : PSt) = p from rfl,hr]
 rfl
theorem F_number_at {p : PSt} (h : Dom p) : F_number2 [.agg (pW p)] = some (.tup [jn 4 (numT p) [] [],.agg (pW (numberM p))]):=by
 unfold F_number2 pW
 exact if_pos h
theorem F_word_at {p : PSt} (h : Dom p) (t : List UInt8) (k : Int) (h1 : t.length ≤ 10) (h2 : ∀ c ∈ t,c ≠ 0) : F_word2 [.agg (pW p),.str t,.int .i64 k] = some (.tup [jn k [] [] [],.agg (pW (wordM t p))]):=by
 unfold F_word2 pW
 exact if_pos ⟨h,h1,h2⟩
theorem ck4 (k : Int) (t : List UInt8) (ks ls : List V) : chkK 4 (jn k t ks ls) = some (jn k t ks ls):=rfl
theorem ckS (t : List UInt8) : chk1K (.str t) = some (.str t):=rfl
theorem agJ (t : List UInt8) : aggK [.int .i64 5,.str t,.sl .ro [],.sl .ro []] = some (.agg [.int .i64 5,.str t,.sl .ro [],.sl .ro []]):=rfl
noncomputable abbrev TLv (objM : RM → RM) (n : Nat) : List (FuncId × Spec):=[(x_json_parser_here,F_x_json_parser_here),(x_json_parser_object,F_of (objM (valM objM n))),(x_json_parser_list,F_of (listM (valM objM n))),(x_json_parser_text,F_text2),(x_json_parser_word,F_word2),(x_json_parser_number,F_number2)]
theorem eg31 : Enter Tryz.prog 31:=⟨_,_,Tryz.func31,rfl,by kernel_rfl⟩
theorem okx_value_step {objM : RM → RM} (ho : ObjOk objM) {n : Nat} (hv : ValOk (valM objM n)) : SpecE Tryz.prog n_json_parser_value s_x_json_parser_value (F_of (valM objM (n + 1))):=by
 refine go_x_json_parser_value (T:=TLv objM n) (TabOk.consE okx_json_parser_here (TabOk.consE (sg:=s_x_json_parser_list) (g:=31) (read_spec eg31 (ho.reads _ hv)) (TabOk.consE (okx_list _ hv) (TabOk.consE okx_text2 (TabOk.consE okx_word2 (TabOk.consE okx_number2 TabOk.nil)))))) fun words v hv'=>?_
 obtain ⟨p,w,q,rfl,hd,h1,rfl⟩:=F_of_inv hv'
 have hg:=good_cano (valM_keeps ho hv p w q hd h1).2
 have c1 : ∀ args,tab (TLv objM n) x_json_parser_here args = F_x_json_parser_here args:=fun _=>rfl
 have c2 : ∀ args,tab (TLv objM n) x_json_parser_object args = F_of (objM (valM objM n)) args:=fun _=>rfl
 have c3 : ∀ args,tab (TLv objM n) x_json_parser_list args = F_of (listM (valM objM n)) args:=fun _=>rfl
 have c4 : ∀ args,tab (TLv objM n) x_json_parser_text args = F_text2 args:=fun _=>rfl
 have c5 : ∀ args,tab (TLv objM n) x_json_parser_word args = F_word2 args:=fun _=>rfl
 have c6 : ∀ args,tab (TLv objM n) x_json_parser_number args = F_number2 args:=fun _=>rfl
 refine ⟨_,rfl,rfl,rfl,by simp [canos,V.cano,pW_cano,hg],rfl,rfl,?_⟩
 refine Eq.mpr (e_x_json_parser_value _ _ (.str p.s) (.int .i64 p.a) (.int .i64 p.d) (.int .i64 p.e) (.int .i64 p.b)) ?_
 simp only [agP,c1,F_here_at hd,gz0,gz1,pg0,pg1,pg2,pg3,pg4,ckP,sS,if_true,if_false,reduceCtorEq]
 rw [valM] at h1
 by_cases h : hI p = 123
 ·rw [if_pos h] at h1
  rw [decide_eq_true h,if_pos rfl]
  obtain ⟨k,t,ks,ls,rfl,_⟩:=(ho.reads _ hv p w q hd h1).2
  simp only [c2,F_of_at hd h1,gz0,gz1,pg0,pg1,pg2,pg3,pg4,ckP,ck4,agP,sS,if_true,if_false,reduceCtorEq]
 rw [if_neg h] at h1
 rw [decide_eq_false h,if_neg (by decide)]
 clear h
 by_cases h : hI p = 91
 ·rw [if_pos h] at h1
  rw [decide_eq_true h,if_pos rfl]
  obtain ⟨k,t,ks,ls,rfl,_⟩:=(listM_reads hv p w q hd h1).2
  simp only [c3,F_of_at hd h1,gz0,gz1,pg0,pg1,pg2,pg3,pg4,ckP,ck4,agP,sS,if_true,if_false,reduceCtorEq]
 rw [if_neg h] at h1
 rw [decide_eq_false h,if_neg (by decide)]
 clear h
 by_cases h : hI p = 34
 ·rw [if_pos h] at h1
  rw [decide_eq_true h,if_pos rfl]
  obtain ⟨r,h2,h3⟩:=Option.map_eq_some_iff.1 h1
  cases h3
  simp only [c4,F_text_at hd h2,gz0,gz1,pg0,pg1,pg2,pg3,pg4,ckP,ckS,agJ,cq0,cq1,agP,jn,sS,if_true,if_false,reduceCtorEq]
 rw [if_neg h] at h1
 rw [decide_eq_false h,if_neg (by decide)]
 clear h
 by_cases h : hI p = 110
 ·rw [if_pos h] at h1
  rw [decide_eq_true h,if_pos rfl]
  cases h1
  simp only [c5,F_word_at hd [110,117,108,108] 1 (by decide) (by decide),gz0,gz1,pg0,pg1,pg2,pg3,pg4,ckP,ck4,agP,sS,if_true,if_false,reduceCtorEq]
 rw [if_neg h] at h1
 rw [decide_eq_false h,if_neg (by decide)]
 clear h
 by_cases h : hI p = 102
 ·rw [if_pos h] at h1
  rw [decide_eq_true h,if_pos rfl]
  cases h1
  simp only [c5,F_word_at hd [102,97,108,115,101] 2 (by decide) (by decide),gz0,gz1,pg0,pg1,pg2,pg3,pg4,ckP,ck4,agP,sS,if_true,if_false,reduceCtorEq]
 rw [if_neg h] at h1
 rw [decide_eq_false h,if_neg (by decide)]
 clear h
 by_cases h : hI p = 116
 ·rw [if_pos h] at h1
  rw [decide_eq_true h,if_pos rfl]
  cases h1
  simp only [c5,F_word_at hd [116,114,117,101] 3 (by decide) (by decide),gz0,gz1,pg0,pg1,pg2,pg3,pg4,ckP,ck4,agP,sS,if_true,if_false,reduceCtorEq]
 rw [if_neg h] at h1
 rw [decide_eq_false h,if_neg (by decide)]
 cases h1
 simp only [c6,F_number_at hd,gz0,gz1,pg0,pg1,pg2,pg3,pg4,ckP,ck4,agP,sS,if_true,if_false,reduceCtorEq]
end Go.Fbs

namespace Go.Fbs
open Go.Proofs Go.RowKit
theorem val_ok {objM : RM → RM} (ho : ObjOk objM) : ∀ n,ValOk (valM objM n)
 | 0=>⟨fun _ _ _ _ h=>(by cases h),fun _ _ _ _ h=>(by cases h),fun _ _ _ _ h=>(by cases h)⟩
 | n + 1=>by
  have hv:=val_ok ho n
  refine ⟨fun p v q hd h=>(valM_keeps ho hv p v q hd h).1,fun p v q hd h=>(valM_keeps ho hv p v q hd h).2,fun p v q hd h=>?_⟩
  intro w B hw
  have hg:=(cano_plain (good_cano (valM_keeps ho hv p v q hd h).2)).1
  exact told_calls (okx_value_step ho hv) (p:=p) (p':=q) (args:=[]) (rs:=[v]) (F_of_at hd h) rfl rfl rfl rfl rfl hg w B [] hw (fun _ _=>Reps.nil)
theorem okx_value {objM : RM → RM} (ho : ObjOk objM) (n : Nat) : SpecE Tryz.prog n_json_parser_value s_x_json_parser_value (F_of (valM objM (n + 1))):=okx_value_step ho (val_ok ho n)
end Go.Fbs

namespace Go.Fbs
open Go.Proofs Go.RowKit
def endM (s : List UInt8) (q : PSt) : PSt:=if q.e = 0 then (if (skipM q).a < s.length then failM (skipM q) (skipM q).a 9 else skipM q) else q
def parseM (objM : RM → RM) (n : Nat) (s : List UInt8) : Option (V × Int × Int) :=
 if 200000 < s.length then some (jn 0 [] [] [],0,8) else
  match valM objM n (skipM ⟨s,0,0,0,0⟩) with
  | none=>none
  | some (v,q) =>
   if (endM s q).e = 0 then some (v,0,0) else some (jn 0 [] [] [],(endM s q).b,(endM s q).e)
def F_Parse (objM : RM → RM) (n : Nat) : Spec
 | [.str s]=>(parseM objM (n + 1) s).map fun r=>.tup [r.1,.int .i64 r.2.1,.int .i64 r.2.2]
 | _=>none
theorem F_skip_at {p : PSt} (h : Dom p) : F_x_json_parser_skip [.agg (pW p)] = some (.tup [.agg (pW (skipM p))]):=by
 unfold F_x_json_parser_skip pW
 exact if_pos h
theorem agZ : aggK [.int .i64 0,.str [],.sl .ro [],.sl .ro []] = some (.agg [.int .i64 0,.str [],.sl .ro [],.sl .ro []]):=rfl
theorem agN (s : List UInt8) : aggK [.str s,.int .i64 0,.int .i64 0,.int .i64 0,.int .i64 0] = some (.agg (pW ⟨s,0,0,0,0⟩)):=rfl
noncomputable abbrev TLp (objM : RM → RM) (n : Nat) : List (FuncId × Spec):=[(x_json_parser_skip,F_x_json_parser_skip),(x_json_parser_value,F_of (valM objM (n + 1))),(x_json_parser_fail,F_x_json_parser_fail)]
theorem ok_Parse {objM : RM → RM} (ho : ObjOk objM) (n : Nat) : SpecL Tryz.prog n_json_Parse (F_Parse objM n):=by
 refine go_json_Parse (T:=TLp objM n) (TabOk.consE okx_json_parser_skip (TabOk.consE (okx_value ho n) (TabOk.consE okx_json_parser_fail TabOk.nil))) fun args v hv=>?_
 unfold F_Parse at hv
 split at hv <;> simp only [Option.map_eq_some_iff,reduceCtorEq] at hv
 rename_i s
 obtain ⟨res,h1,rfl⟩:=hv
 have c1 : ∀ args,tab (TLp objM n) x_json_parser_skip args = F_x_json_parser_skip args:=fun _=>rfl
 have c2 : ∀ args,tab (TLp objM n) x_json_parser_value args = F_of (valM objM (n + 1)) args:=fun _=>rfl
 have c3 : ∀ args,tab (TLp objM n) x_json_parser_fail args = F_x_json_parser_fail args:=fun _=>rfl
 have hg : Good res.1:=by
  unfold parseM at h1
  split at h1
  ·cases h1; exact good_jn 0 []
  ·rename_i hlen
   have hd : Dom ⟨s,0,0,0,0⟩:=⟨by show s.length ≤ big; unfold big; omega,Int.le_refl 0,by show (0 : Int) ≤ s.length; omega⟩
   split at h1
   ·cases h1
   ·rename_i v q hvq
    have hgv:=(val_ok ho (n + 1)).shape _ _ _ (skip_dom hd) hvq
    split at h1 <;> cases h1 <;> first | exact good_jn 0 [] | exact hgv
 refine ⟨rfl,rfl,by simp [canos,V.cano,good_cano hg],?_⟩
 clear hg
 rw [e_json_Parse]
 unfold parseM at h1
 simp only [sS,if_true,if_false,reduceCtorEq]
 by_cases hlen : 200000 < s.length
 ·rw [if_pos hlen] at h1
  cases h1
  rw [decide_eq_true (by omega),if_pos rfl]
  simp only [agZ,cq0,cq1,jn,sS,if_true,if_false,reduceCtorEq]
 rw [if_neg hlen] at h1
 rw [decide_eq_false (by omega),if_neg (by decide)]
 have hd : Dom ⟨s,0,0,0,0⟩:=⟨by show s.length ≤ big; unfold big; omega,Int.le_refl 0,by show (0 : Int) ≤ s.length; omega⟩
 have hd1:=skip_dom hd
 split at h1
 ·cases h1
 rename_i v q hvq
 obtain ⟨⟨hdq,_,hsq⟩,hgv⟩:=valM_keeps ho (val_ok ho n) _ _ _ hd1 hvq
 replace hsq : q.s = s:=hsq
 obtain ⟨k,t,ks,ls,rfl,_⟩:=hgv
 simp only [ckS,agN,agP,c1,F_skip_at hd,c2,F_of_at hd1 hvq,gz0,gz1,gz2,pre0,pg0,pg1,pg2,pg3,pg4,ckP,ck4,sS,if_true,if_false,reduceCtorEq]
 refine joinP_inv (fun w=>w = pW (endM s q)) (fun w hw=>?_) fun r hr=>?_
 ·subst hw
  refine ⟨rfl,?_⟩
  simp only [gp3,gp4,sS,if_true,if_false,reduceCtorEq]
  by_cases he : (endM s q).e = 0
  ·rw [if_pos he] at h1
   cases h1
   rw [decide_eq_true he,if_neg (by decide)]
  ·rw [if_neg he] at h1
   cases h1
   rw [decide_eq_false he,if_pos (by decide)]
   simp only [agZ,cq0,cq1,jn,sS,if_true,if_false,reduceCtorEq]
 ·by_cases he : q.e = 0
  ·rw [decide_eq_true he,if_pos rfl]
   simp only [F_skip_at hdq,gz2,pre0,pg0,pg1,pg2,pg3,pg4,ckP,sS,if_true,if_false,reduceCtorEq]
   have hE : endM s q = if (skipM q).a < s.length then failM (skipM q) (skipM q).a 9 else skipM q:=if_pos he
   by_cases hl : (skipM q).a < s.length
   ·rw [decide_eq_true hl,if_pos rfl]
    rw [if_pos hl] at hE
    simp only [agP,c3,F_fail_at,gz2,pre0,pg0,pg1,pg2,pg3,pg4,ckP,sS,if_true,if_false,reduceCtorEq]
    exact hr _ (by rw [hE]; rfl)
   ·rw [decide_eq_false hl,if_neg (by decide)]
    rw [if_neg hl] at hE
    exact hr _ (by rw [hE]; rfl)
  ·rw [decide_eq_false he,if_neg (by decide)]
   have hE : endM s q = q:=if_neg he
   exact hr _ (by rw [hE]; rfl)
end Go.Fbs
