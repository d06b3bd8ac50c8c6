import Derived.Test.YthakklikgmcgdaaGreatDoorWP
import Derived.Test.YthakklikgmcgdaaGreatDoorXJ
set_option linter.unusedSimpArgs false
set_option linter.unusedVariables false
set_option linter.unusedSectionVars false
set_option maxRecDepth 100000
namespace Go.Fbs
open Go.Proofs Go.RowKit
def escQ (p : PSt) (k : Nat) : PSt:={ (if k = 0 then failM p p.a 9 else p) with a:=p.a + k }
def textL : Nat → List UInt8 → PSt → Option (List UInt8 × PSt)
 | 0,_,_=>none
 | n + 1,out,p =>
  if p.e = 0 then
   if hI p = 34 then some (out,advM p)
   else if hI p = 92 then
    match escM (p.s.drop p.a.toNat) with
    | none=>none
    | some r=>if out.length ≤ 1000000000 then textL n (out ++ [r.1]) (escQ p r.2) else none
   else if hI p < 32 ∨ 126 < hI p then textL n out (failM p p.a 9)
   else if out.length ≤ 1000000000 then textL n (out ++ [hereM p]) (advM p) else none
  else some ([],p)
def textM (p : PSt) : Option (List UInt8 × PSt) :=
 if (needM p 34).1 = true then textL (p.s.length + 2) [] (needM p 34).2 else some ([],(needM p 34).2)
theorem fail_ahead {p : PSt} (h : Dom p) (x y : Int) : Ahead p (failM p x y):=by
 refine ⟨fail_dom h x y,?_,?_,?_⟩ <;> unfold failM <;> split <;> first | rfl | exact Int.le_refl _
theorem esc_len {l : List UInt8} {r : UInt8 × Nat} (h : escM l = some r) : r.2 ≤ l.length ∧ r.2 ≤ 6:=by
 unfold escM at h
 split at h
 ·cases h; simp
 ·split at h
  ·cases h; simp; omega
  ·split at h
   ·cases h; simp
   ·rename_i h6
    simp only [not_or,Nat.not_lt] at h6
    split at h
    ·split at h <;> cases h <;> simp
     exact h6.2
    ·cases h; simp
theorem escQ_ahead {p : PSt} (h : Dom p) {r : UInt8 × Nat} (hr : escM (p.s.drop p.a.toNat) = some r) : Ahead p (escQ p r.2):=by
 have hl:=(esc_len hr).1
 rw [List.length_drop] at hl
 obtain ⟨h1,h2,h3⟩:=h
 have e : (if r.2 = 0 then failM p p.a 9 else p).s = p.s:=by split; unfold failM; split <;> rfl; rfl
 have e2 : (if r.2 = 0 then failM p p.a 9 else p).d = p.d:=by split; unfold failM; split <;> rfl; rfl
 refine ⟨⟨?_,?_,?_⟩,e,e2,?_⟩
 ·show (if r.2 = 0 then failM p p.a 9 else p).s.length ≤ big; rw [e]; exact h1
 ·show 0 ≤ p.a + r.2; omega
 ·show p.a + r.2 ≤ ((if r.2 = 0 then failM p p.a 9 else p).s.length : Int); rw [e]; omega
 ·show p.a ≤ p.a + r.2; omega
theorem textL_ahead : ∀ {n : Nat} {out : List UInt8} {p : PSt} {r : List UInt8 × PSt},Dom p → textL n out p = some r → Ahead p r.2
 | 0,_,_,_,_,h=>by cases h
 | n + 1,out,p,r,hd,h=>by
  rw [textL] at h
  split at h
  ·split at h
   ·rename_i e
    cases h
    exact adv_ahead hd (by rw [e]; decide)
   ·split at h
    ·split at h
     ·cases h
     ·rename_i r0 hr0
      split at h
      ·have k:=escQ_ahead hd hr0
       exact k.trans (textL_ahead k.dom h)
      ·cases h
    ·split at h
     ·have k:=fail_ahead hd p.a 9
      exact k.trans (textL_ahead k.dom h)
     ·split at h
      ·rename_i hc _
       have k:=adv_ahead hd (fun e=>hc (.inl (by omega)))
       exact k.trans (textL_ahead k.dom h)
      ·cases h
  ·cases h; exact same_ahead hd
theorem text_ahead {p : PSt} {r : List UInt8 × PSt} (hd : Dom p) (h : textM p = some r) : Ahead p r.2:=by
 have k:=need_ahead hd 34 (by decide)
 unfold textM at h
 split at h
 ·exact k.trans (textL_ahead k.dom h)
 ·cases h; exact k
def F_text2 : Spec
 | [.agg [.str s,.int .i64 a,.int .i64 d,.int .i64 e,.int .i64 b]]=>if s.length ≤ big ∧ 0 ≤ a ∧ a ≤ s.length then (textM ⟨s,a,d,e,b⟩).map fun r=>.tup [.str r.1,.agg (pW r.2)] else none
 | _=>none
noncomputable abbrev TLt : List (FuncId × Spec):=[(x_json_parser_need,F_x_json_parser_need),(x_json_parser_here,F_x_json_parser_here),(x_json_parser_fail,F_x_json_parser_fail),(n_json_escape,F_json_escape)]
theorem loopP_fuel {F : (List V → Prop) → List V → Prop} {vs : List V} (I : Nat → List V → Prop) (n : Nat) (h0 : I n vs) (hz : ∀ vs,¬ I 0 vs)
  (round : ∀ (n : Nat) (r : List V → Prop) (vs : List V),I (n + 1) vs → (∀ vs',I n vs' → r vs') → F r vs) : loopP F vs:=by
 refine ⟨n,?_⟩
 induction n generalizing vs with
 | zero=>exact absurd h0 (hz vs)
 | succ n ih=>exact round n _ vs h0 fun vs' h'=>ih h'
def bytesW (l : List UInt8) : List V:=l.map fun c=>.int .u8 c.toNat
theorem convBS_bytes (l : List UInt8) : convBS (.sl .ro (bytesW l)) = some (.str l):=by
 simp only [convBS,bytesW]
 refine Option.map_eq_some_iff.2 ⟨l,?_,rfl⟩
 induction l with
 | nil=>rfl
 | cons c l ih=>rw [List.map_cons,List.mapM_cons,ih]; simp
theorem bytes_len (l : List UInt8) : (bytesW l).length = l.length:=by simp [bytesW]
theorem app_bytes {l : List UInt8} (c : UInt8) (h : l.length ≤ 1000000000) : appK 1 1 (.sl .ro (bytesW l)) (.sl .ro [.int .u8 c.toNat]) = some (.sl .ro (bytesW (l ++ [c]))):=by
 have hall : (bytesW l).all (fun e=>e.cells.length == 1) = true:=by
  rw [List.all_eq_true]
  intro x hx
  obtain ⟨c,_,rfl⟩:=List.mem_map.1 hx
  rfl
 simp only [appK]
 rw [if_pos ⟨by rw [bytes_len]; simp; omega,hall,rfl⟩]
 simp [bytesW]
theorem lit_byte (c : Int) : litK 1 [.int .u8 c] = some (.sl .ro [.int .u8 c]):=rfl
theorem F_fail_at (p : PSt) (x y : Int) : F_x_json_parser_fail [.agg (pW p),.int .i64 x,.int .i64 y] = some (.tup [.agg (pW (failM p x y))]):=by
 show some (V.tup [if p.e = 0 then vP p.s p.a p.d y x else vP p.s p.a p.d p.e p.b]) = _
 unfold failM
 split <;> rfl
theorem slice_at {p : PSt} (h : Dom p) : sliceS (.str p.s) (some (.int .i64 p.a)) none = some (.str (p.s.drop p.a.toNat)):=by
 obtain ⟨n,hn⟩ : ∃ n : Nat,p.a = n:=⟨p.a.toNat,by have:=h.2.1; omega⟩
 rw [hn,Int.toNat_natCast]
 exact sliceS_from (by have:=h.2.2; omega) _
theorem okx_text2 : SpecE Tryz.prog n_json_parser_text s_x_json_parser_text F_text2:=by
 refine go_x_json_parser_text (T:=TLt) (TabOk.consE okx_json_parser_need (TabOk.consE okx_json_parser_here (TabOk.consE okx_json_parser_fail (TabOk.cons ok_json_escape TabOk.nil)))) fun words v hv=>?_
 have c1 : ∀ args,tab TLt x_json_parser_need args = F_x_json_parser_need args:=fun _=>rfl
 have c2 : ∀ args,tab TLt x_json_parser_here args = F_x_json_parser_here args:=fun _=>rfl
 have c3 : ∀ args,tab TLt x_json_parser_fail args = F_x_json_parser_fail args:=fun _=>rfl
 have c4 : ∀ args,tab TLt n_json_escape args = F_json_escape args:=fun _=>rfl
 unfold F_text2 at hv
 split at hv <;> simp only [Option.ite_none_right_eq_some,Option.map_eq_some_iff,reduceCtorEq] at hv
 rename_i s a d e b
 obtain ⟨hd,res,hres,rfl⟩:=hv
 refine ⟨_,rfl,rfl,rfl,rfl,rfl,rfl,?_⟩
 rw [e_x_json_parser_text]
 replace hd : Dom ⟨s,a,d,e,b⟩:=hd
 obtain ⟨p,hp⟩ : ∃ p : PSt,p = ⟨s,a,d,e,b⟩:=⟨_,rfl⟩
 have e1 : s = p.s:=by rw [hp]
 have e2 : a = p.a:=by rw [hp]
 have e3 : d = p.d:=by rw [hp]
 have e4 : e = p.e:=by rw [hp]
 have e5 : b = p.b:=by rw [hp]
 rw [← hp] at hd hres
 rw [e1,e2,e3,e4,e5]
 clear hp e1 e2 e3 e4 e5 s a d e b
 have hn : F_x_json_parser_need [.agg (pW p),.int .u8 34] = some (.tup [.bool (needM p 34).1,.agg (pW (needM p 34).2)]):=F_need_at hd 34
 have hd1:=need_dom hd 34 (by decide)
 unfold textM at hres
 simp only [agP,c1,hn,gz0,gz1,pg0,pg1,pg2,pg3,pg4,ckP,sS,if_true,if_false,reduceCtorEq]
 by_cases hb : (needM p 34).1 = true
 ·rw [if_pos hb] at hres
  rw [hb,if_neg (by decide)]
  generalize (needM p 34).2 = p1 at hres hd1
  refine loopP_fuel (fun n vs=>∃ out q,vs = .sl .ro (bytesW out) :: pW q ∧ textL n out q = some res ∧ Dom q) (p.s.length + 2) ⟨[],p1,rfl,hres,hd1⟩ (fun vs h=>by obtain ⟨_,_,_,h,_⟩:=h; cases h) ?_
  rintro n r0 vs ⟨out,q,rfl,hq,hdq⟩ hnext
  refine ⟨rfl,?_⟩
  rw [textL] at hq
  simp only [gp0,gp1,gp2,gp3,gp4,gs0,gs1,gs2,gs3,gs4,gs5,agP,sS,if_true,if_false,reduceCtorEq]
  by_cases he : q.e = 0
  ·rw [if_pos he] at hq
   rw [decide_eq_true he,if_pos rfl]
   simp only [c2,F_here_at hdq,gz0,gz1,pg0,pg1,pg2,pg3,pg4,ckP,sS,if_true,if_false,reduceCtorEq]
   by_cases h34 : hI q = 34
   ·rw [if_pos h34] at hq
    cases hq
    rw [decide_eq_true h34,if_pos rfl,adv_wrap hdq]
    simp only [convBS_bytes,agA,sS,if_true,if_false,reduceCtorEq]
   ·rw [if_neg h34] at hq
    rw [decide_eq_false h34,if_neg (by decide)]
    by_cases h92 : hI q = 92
    ·rw [if_pos h92] at hq
     rw [decide_eq_true h92,if_pos rfl]
     cases hr0 : escM (q.s.drop q.a.toNat) with
     | none=>rw [hr0] at hq; cases hq
     | some x =>
      rw [hr0] at hq
      simp only [Option.ite_none_right_eq_some] at hq
      obtain ⟨hlen,hq⟩:=hq
      have hF : F_json_escape [.str (q.s.drop q.a.toNat)] = some (.tup [.int .u8 x.1.toNat,.int .i64 x.2]):=by
       show (escM (q.s.drop q.a.toNat)).map _ = _
       rw [hr0]; rfl
      have hk:=escQ_ahead hdq hr0
      have hl6:=(esc_len hr0).2
      have hap:=app_bytes x.1 hlen
      have hwr : IntKind.i64.wrap (q.a + (x.2 : Int)) = q.a + (x.2 : Int):=wrap_in (by have:=hdq.2.1; omega) (by have:=hdq.1; have:=hdq.2.2; unfold big at *; omega)
      simp only [slice_at hdq,c4,hF,gz0,gz1,sS,if_true,if_false,reduceCtorEq]
      refine joinP_inv (fun w=>w = .sl .ro (bytesW out) :: pW (if x.2 = 0 then failM q q.a 9 else q)) (fun w hw=>?_) fun r hr=>?_
      ·subst hw
       have ea : (if x.2 = 0 then failM q q.a 9 else q).a = q.a:=by split; unfold failM; split <;> rfl; rfl
       refine ⟨rfl,?_⟩
       simp only [gs0,gs1,gs2,gs3,gs4,gs5,gp0,gp1,gp2,gp3,gp4,lit_byte,hap,ea,sS,if_true,if_false,reduceCtorEq]
       rw [hwr]
       exact hnext _ ⟨out ++ [x.1],escQ q x.2,rfl,hq,hk.dom⟩
      ·by_cases h0 : x.2 = 0
       ·rw [decide_eq_true (by omega),if_pos rfl]
        rw [if_pos h0] at hr
        simp only [agP,c3,F_fail_at,gz2,pre0,pg0,pg1,pg2,pg3,pg4,ckP,sS,if_true,if_false,reduceCtorEq]
        exact hr _ rfl
       ·rw [decide_eq_false (by omega),if_neg (by decide)]
        rw [if_neg h0] at hr
        exact hr _ rfl
    ·rw [if_neg h92] at hq
     rw [decide_eq_false h92,if_neg (by decide)]
     by_cases hx : hI q < 32 ∨ 126 < hI q
     ·have hb3 : (decide (hI q < 32) || decide (126 < hI q)) = true:=by simpa using hx
      rw [if_pos hx] at hq
      rw [hb3,if_pos rfl]
      simp only [agP,c3,F_fail_at,gz2,pre0,pg0,pg1,pg2,pg3,pg4,ckP,sS,if_true,if_false,reduceCtorEq]
      exact hnext _ ⟨out,failM q q.a 9,rfl,hq,fail_dom hdq _ _⟩
     ·have hb3 : (decide (hI q < 32) || decide (126 < hI q)) = false:=by simpa using hx
      rw [if_neg hx] at hq
      rw [hb3,if_neg (by decide),adv_wrap hdq]
      split at hq
      ·rename_i hlen
       have hap:=app_bytes (hereM q) hlen
       simp only [lit_byte,sS,if_true,if_false,reduceCtorEq]
       unfold hI
       simp only [hap,sS,if_true,if_false,reduceCtorEq]
       exact hnext _ ⟨out ++ [hereM q],advM q,rfl,hq,(adv_ahead hdq (fun e=>hx (.inl (by omega)))).dom⟩
      ·cases hq
  ·rw [if_neg he] at hq
   cases hq
   rw [decide_eq_false he,if_neg (by decide)]
 ·have hb' : (needM p 34).1 = false:=by simpa using hb
  rw [if_neg hb] at hres
  cases hres
  rw [hb',if_pos (by decide)]
end Go.Fbs
