import Derived.Test.YthakklikgmcgdaaGreatDoorPA
set_option linter.unusedSimpArgs false
set_option linter.unusedVariables false
set_option linter.unusedSectionVars false
set_option maxRecDepth 100000
namespace Go.Fbs
open Go.Proofs Go.RowKit
theorem need_ahead {p : PSt} (h : Dom p) (c : UInt8) (hc : c ≠ 0) : Ahead p (needM p c).2:=by
 refine ⟨need_dom h c hc,?_,?_,?_⟩ <;> unfold needM <;> split
 ·show (failM p p.a 9).s = _; unfold failM; split <;> rfl
 ·rfl
 ·show (failM p p.a 9).d = _; unfold failM; split <;> rfl
 ·rfl
 ·show p.a ≤ (failM p p.a 9).a; unfold failM; split <;> exact Int.le_refl _
 ·show p.a ≤ p.a + 1; omega
theorem F_need_at {p : PSt} (h : Dom p) (c : UInt8) : F_x_json_parser_need [.agg (pW p),.int .u8 c.toNat] = some (.tup [.bool (needM p c).1,.agg (pW (needM p c).2)]):=by
 have hc : ((c.toNat : Int)).toNat.toUInt8 = c:=by simp
 have h2:=c.toNat_lt
 unfold F_x_json_parser_need pW
 refine (if_pos ⟨h.1,h.2.1,h.2.2,by omega,by omega⟩).trans ?_
 rw [hc]
def wordM : List UInt8 → PSt → PSt
 | [],p=>p
 | c :: cs,p=>if (needM p c).1 = true then wordM cs (needM p c).2 else (needM p c).2
theorem word_ahead : ∀ {t : List UInt8} {p : PSt},Dom p → (∀ c ∈ t,c ≠ 0) → Ahead p (wordM t p)
 | [],p,h,_=>same_ahead h
 | c :: cs,p,h,hz=>by
  have k:=need_ahead h c (hz c (List.mem_cons_self ..))
  unfold wordM
  split
  ·exact k.trans (word_ahead k.dom fun x hx=>hz x (List.mem_cons_of_mem _ hx))
  ·exact k
def F_word2 : Spec
 | [.agg [.str s,.int .i64 a,.int .i64 d,.int .i64 e,.int .i64 b],.str t,.int .i64 k]=>if (s.length ≤ big ∧ 0 ≤ a ∧ a ≤ s.length) ∧ t.length ≤ 10 ∧ (∀ c ∈ t,c ≠ 0) then some (.tup [.agg [.int .i64 k,.str [],.sl .ro [],.sl .ro []],.agg (pW (wordM t ⟨s,a,d,e,b⟩))]) else none
 | _=>none
noncomputable abbrev TLw : List (FuncId × Spec):=[(x_json_parser_need,F_x_json_parser_need)]
theorem gs0 (x : V) (q : PSt) : gv (x :: pW q) 0 = x:=rfl
theorem gs1 (x : V) (q : PSt) : gv (x :: pW q) 1 = .str q.s:=rfl
theorem gs2 (x : V) (q : PSt) : gv (x :: pW q) 2 = .int .i64 q.a:=rfl
theorem gs3 (x : V) (q : PSt) : gv (x :: pW q) 3 = .int .i64 q.d:=rfl
theorem gs4 (x : V) (q : PSt) : gv (x :: pW q) 4 = .int .i64 q.e:=rfl
theorem gs5 (x : V) (q : PSt) : gv (x :: pW q) 5 = .int .i64 q.b:=rfl
theorem agW (k : Int) : aggK [.int .i64 k,.str [],.sl .ro [],.sl .ro []] = some (.agg [.int .i64 k,.str [],.sl .ro [],.sl .ro []]):=rfl
theorem okx_word2 : SpecE Tryz.prog n_json_parser_word s_x_json_parser_word F_word2:=by
 refine go_x_json_parser_word (T:=TLw) (TabOk.consE okx_json_parser_need TabOk.nil) fun words v hv=>?_
 have c1 : ∀ args,tab TLw x_json_parser_need args = F_x_json_parser_need args:=fun _=>rfl
 unfold F_word2 at hv
 split at hv <;> simp only [Option.ite_none_right_eq_some,Option.some.injEq,reduceCtorEq] at hv
 rename_i s a d e b t k
 obtain ⟨⟨hd,hl,hz⟩,rfl⟩:=hv
 refine ⟨_,rfl,rfl,rfl,rfl,rfl,rfl,?_⟩
 rw [e_x_json_parser_word]
 replace hd : Dom ⟨s,a,d,e,b⟩:=hd
 obtain ⟨p,hp⟩ : ∃ p : PSt,p = ⟨s,a,d,e,b⟩:=⟨_,rfl⟩
 have e1 : s = p.s:=by rw [hp]
 have e2 : a = p.a:=by rw [hp]
 have e3 : d = p.d:=by rw [hp]
 have e4 : e = p.e:=by rw [hp]
 have e5 : b = p.b:=by rw [hp]
 rw [← hp] at hd ⊢
 rw [e1,e2,e3,e4,e5]
 clear hp e1 e2 e3 e4 e5 s a d e b
 simp only [sS,if_true,if_false,reduceCtorEq]
 refine joinP_inv (fun w=>w = pW (wordM t p)) (fun w hw=>?_) fun r hr=>?_
 ·subst hw
  refine ⟨rfl,?_⟩
  simp only [gp0,gp1,gp2,gp3,gp4,agP,chk1K,sc,agW,cq0,cq1,sS,if_true,if_false,reduceCtorEq]
 refine loopP_inv (fun vs=>∃ (i : Nat) (q : PSt),vs = .int .i64 i :: pW q ∧ i ≤ t.length ∧ Dom q ∧ wordM (t.drop i) q = wordM t p) (fun vs=>t.length - natOf (gv vs 0)) ⟨0,p,rfl,Nat.zero_le _,hd,rfl⟩ ?_
 rintro r1 vs ⟨i,q,rfl,hi,hq,hw⟩ hnext
 refine ⟨rfl,?_⟩
 simp only [gp0,gp1,gp2,gp3,gp4,gs0,gs1,gs2,gs3,gs4,gs5,agP,sS,if_true,if_false,reduceCtorEq]
 by_cases h : i < t.length
 ·have hlt : (i : Int) < (t.length : Int):=by omega
  have hg : t[i]? = some t[i]:=List.getElem?_eq_getElem h
  rw [decide_eq_true hlt,if_pos rfl]
  rw [List.drop_eq_getElem_cons h] at hw
  rw [wordM] at hw
  simp only [gp0,gp1,gp2,gp3,gp4,agP,indexS_at hg,c1,F_need_at hq,gz0,gz1,pg0,pg1,pg2,pg3,pg4,ckP,sS,if_true,if_false,reduceCtorEq]
  by_cases hn : (needM q t[i]).1 = true
  ·rw [if_pos hn] at hw
   rw [hn,if_neg (by decide)]
   have hwr : IntKind.i64.wrap ((i : Int) + 1) = ((i + 1 : Nat) : Int):=wrap_in (by omega) (by omega)
   rw [hwr]
   refine hnext _ ⟨i + 1,(needM q t[i]).2,rfl,h,need_dom hq _ (hz _ (List.getElem_mem h)),hw⟩ ?_
   show t.length - (i + 1) < t.length - i
   omega
  ·have hn' : (needM q t[i]).1 = false:=by simpa using hn
   rw [if_neg hn] at hw
   rw [hn',if_pos (by decide)]
   exact hr _ (by rw [← hw]; rfl)
 ·have hlt : ¬ (i : Int) < (t.length : Int):=by omega
  rw [decide_eq_false hlt,if_neg (by decide)]
  rw [List.drop_eq_nil_of_le (by omega)] at hw
  exact hr _ (by rw [← hw]; rfl)
end Go.Fbs
