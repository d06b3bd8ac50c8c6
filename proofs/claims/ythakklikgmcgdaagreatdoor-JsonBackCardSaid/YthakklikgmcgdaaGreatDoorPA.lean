import Derived.Test.YthakklikgmcgdaaGreatDoorWC
set_option linter.unusedSimpArgs false
set_option linter.unusedVariables false
set_option linter.unusedSectionVars false
set_option maxRecDepth 100000
namespace Go.Fbs
open Go.Proofs Go.RowKit
def runM (p : PSt) : PSt:=if endT p.s p.a digitL = p.a then failM p p.a 9 else { p with a:=endT p.s p.a digitL }
def F_run2 : Spec
 | [.agg [.str s,.int .i64 a,.int .i64 d,.int .i64 e,.int .i64 b]]=>if s.length ≤ big ∧ 0 ≤ a ∧ a ≤ s.length then some (.tup [.agg (pW (runM ⟨s,a,d,e,b⟩))]) else none
 | _=>none
noncomputable abbrev TLr : List (FuncId × Spec):=[(n_strings_TrimLeft,F_strings_TrimLeft),(x_json_parser_fail,F_x_json_parser_fail)]
theorem okx_run2 : SpecE Tryz.prog n_json_parser_run s_x_json_parser_run F_run2:=by
 refine go_x_json_parser_run (T:=TLr) (TabOk.cons ok_strings_TrimLeft (TabOk.consE okx_json_parser_fail TabOk.nil)) fun words v hv=>?_
 have c1 : ∀ args,tab TLr n_strings_TrimLeft args = F_strings_TrimLeft args:=fun _=>rfl
 have c2 : ∀ args,tab TLr x_json_parser_fail args = F_x_json_parser_fail args:=fun _=>rfl
 unfold F_run2 at hv
 split at hv <;> simp only [Option.ite_none_right_eq_some,Option.some.injEq,reduceCtorEq] at hv
 rename_i s a d e b
 obtain ⟨⟨hl,ha,has⟩,rfl⟩:=hv
 have hr:=endT_range digitL ha has
 unfold big at hl
 obtain ⟨a,rfl⟩ : ∃ n : Nat,a = n:=⟨a.toNat,by omega⟩
 refine ⟨_,rfl,rfl,rfl,rfl,rfl,rfl,?_⟩
 rw [e_x_json_parser_run]
 have hk : a ≤ s.length:=by omega
 have hF : ∀ l,F_strings_TrimLeft [.str l,.str [48,49,50,51,52,53,54,55,56,57]] = some (.str (trimT l digitL)):=fun l=>rfl
 have hw : ∀ (x : Int),0 ≤ x → x ≤ s.length → IntKind.i64.wrap x = x:=fun x h1 h2=>wrap_in (by omega) (by omega)
 have hE : endT s a digitL = (s.length : Int) - ((trimT (s.drop a) digitL).length : Int):=by unfold endT; rw [Int.toNat_natCast]
 rw [hE] at hr
 simp only [sS,if_true,if_false,reduceCtorEq,sliceS_from hk,c1,hF]
 rw [hw ((s.length : Int) - (a : Int)) (by omega) (by omega),hw _ (by omega) (by omega),hw _ (by omega) (by omega)]
 have hx : (a : Int) + ((s.length : Int) - (a : Int) - ((trimT (s.drop a) digitL).length : Int)) = (s.length : Int) - ((trimT (s.drop a) digitL).length : Int):=by omega
 rw [hx]
 by_cases hz : (s.length : Int) - (a : Int) - ((trimT (s.drop a) digitL).length : Int) = 0
 ·have h2 : (s.length : Int) - ((trimT (s.drop a) digitL).length : Int) = a:=by omega
  have hM : runM ⟨s,a,d,e,b⟩ = failM ⟨s,a,d,e,b⟩ a 9:=by unfold runM; rw [hE,if_pos h2]
  rw [hz,h2,hM,decide_eq_true rfl]
  unfold failM
  by_cases he : e = 0
  ·subst he
   simp [sS,if_true,if_false,reduceCtorEq,c2,F_x_json_parser_fail,vP,aggK,chkK,chk1K,sc,pW]
   exact trivial
  ·simp [sS,if_true,if_false,reduceCtorEq,c2,F_x_json_parser_fail,vP,aggK,chkK,chk1K,sc,pW,he]
   exact trivial
 ·have hM : runM ⟨s,a,d,e,b⟩ = ⟨s,endT s a digitL,d,e,b⟩:=by unfold runM; rw [if_neg (by show ¬ endT s a digitL = a; rw [hE]; omega)]
  rw [hM,hE,decide_eq_false hz]
  simp only [sS,if_true,if_false,reduceCtorEq]
  rfl
theorem run_dom {p : PSt} (h : Dom p) : Dom (runM p):=by
 have:=endT_range digitL h.2.1 h.2.2
 unfold runM
 split
 ·exact fail_dom h _ _
 ·exact ⟨h.1,by show 0 ≤ endT p.s p.a digitL; have:=h.2.1; omega,this.2⟩
end Go.Fbs

namespace Go.Fbs
open Go.Proofs Go.RowKit
def hI (p : PSt) : Int:=((hereM p).toNat : Int)
def advM (p : PSt) : PSt:={ p with a:=p.a + 1 }
def num1 (p : PSt) : PSt:=if hI p = 45 then advM p else p
def num2 (p : PSt) : PSt:=if hI p = 48 then advM p else runM p
def num3 (p : PSt) : PSt:=if p.e = 0 ∧ hI p = 46 then runM (advM p) else p
def num5 (p : PSt) : PSt:=if hI p = 43 ∨ hI p = 45 then advM p else p
def num4 (p : PSt) : PSt:=if p.e = 0 ∧ (hI p = 101 ∨ hI p = 69) then runM (num5 (advM p)) else p
def numberM (p : PSt) : PSt:=num4 (num3 (num2 (num1 p)))
def numT (p : PSt) : List UInt8:=(p.s.take (numberM p).a.toNat).drop p.a.toNat
structure Ahead (p q : PSt) : Prop where
 dom : Dom q
 s : q.s = p.s
 d : q.d = p.d
 a : p.a ≤ q.a
theorem Ahead.trans {p q r : PSt} (h : Ahead p q) (k : Ahead q r) : Ahead p r:=⟨k.dom,k.s.trans h.s,k.d.trans h.d,Int.le_trans h.a k.a⟩
theorem adv_ahead {p : PSt} (h : Dom p) (h0 : hI p ≠ 0) : Ahead p (advM p):=by
 have hlt:=here_lt h (fun e=>h0 (by unfold hI; rw [e]; rfl))
 exact ⟨⟨h.1,by show 0 ≤ p.a + 1; have:=h.2.1; omega,by show p.a + 1 ≤ (p.s.length : Int); omega⟩,rfl,rfl,by show p.a ≤ p.a + 1; omega⟩
theorem run_ahead {p : PSt} (h : Dom p) : Ahead p (runM p):=by
 have:=endT_range digitL h.2.1 h.2.2
 refine ⟨run_dom h,?_,?_,?_⟩ <;> unfold runM <;> split
 ·unfold failM; split <;> rfl
 ·rfl
 ·unfold failM; split <;> rfl
 ·rfl
 ·unfold failM; split <;> exact Int.le_refl _
 ·exact this.1
theorem same_ahead {p : PSt} (h : Dom p) : Ahead p p:=⟨h,rfl,rfl,Int.le_refl _⟩
theorem num1_ahead {p : PSt} (h : Dom p) : Ahead p (num1 p):=by
 unfold num1; split
 ·rename_i e; exact adv_ahead h (by rw [e]; decide)
 ·exact same_ahead h
theorem num2_ahead {p : PSt} (h : Dom p) : Ahead p (num2 p):=by
 unfold num2; split
 ·rename_i e; exact adv_ahead h (by rw [e]; decide)
 ·exact run_ahead h
theorem num3_ahead {p : PSt} (h : Dom p) : Ahead p (num3 p):=by
 unfold num3; split
 ·rename_i e
  have k:=adv_ahead h (by rw [e.2]; decide)
  exact k.trans (run_ahead k.dom)
 ·exact same_ahead h
theorem num5_ahead {p : PSt} (h : Dom p) : Ahead p (num5 p):=by
 unfold num5; split
 ·rename_i e
  exact adv_ahead h (by rcases e with e | e <;> rw [e] <;> decide)
 ·exact same_ahead h
theorem num4_ahead {p : PSt} (h : Dom p) : Ahead p (num4 p):=by
 unfold num4; split
 ·rename_i e
  have k:=adv_ahead h (by rcases e.2 with e | e <;> rw [e] <;> decide)
  have k2:=num5_ahead k.dom
  exact (k.trans k2).trans (run_ahead k2.dom)
 ·exact same_ahead h
theorem number_ahead {p : PSt} (h : Dom p) : Ahead p (numberM p):=by
 have h1:=num1_ahead h
 have h2:=num2_ahead h1.dom
 have h3:=num3_ahead h2.dom
 exact ((h1.trans h2).trans h3).trans (num4_ahead h3.dom)
theorem F_here_at {p : PSt} (h : Dom p) : F_x_json_parser_here [.agg (pW p)] = some (.tup [.int .u8 (hI p),.agg (pW p)]):=by
 unfold F_x_json_parser_here pW
 exact if_pos ⟨h.1,h.2.1⟩
theorem F_run_at {p : PSt} (h : Dom p) : F_run2 [.agg (pW p)] = some (.tup [.agg (pW (runM p))]):=by
 unfold F_run2 pW
 exact if_pos h
end Go.Fbs

namespace Go.Fbs
open Go.Proofs Go.RowKit
def F_number2 : Spec
 | [.agg [.str s,.int .i64 a,.int .i64 d,.int .i64 e,.int .i64 b]]=>if s.length ≤ big ∧ 0 ≤ a ∧ a ≤ s.length then some (.tup [.agg [.int .i64 4,.str (numT ⟨s,a,d,e,b⟩),.sl .ro [],.sl .ro []],.agg (pW (numberM ⟨s,a,d,e,b⟩))]) else none
 | _=>none
noncomputable abbrev TLu : List (FuncId × Spec):=[(x_json_parser_here,F_x_json_parser_here),(x_json_parser_run,F_run2)]
theorem agP (q : PSt) : aggK [.str q.s,.int .i64 q.a,.int .i64 q.d,.int .i64 q.e,.int .i64 q.b] = some (.agg (pW q)):=rfl
theorem agA (q : PSt) : aggK [.str q.s,.int .i64 (q.a + 1),.int .i64 q.d,.int .i64 q.e,.int .i64 q.b] = some (.agg (pW (advM q))):=rfl
theorem ckP (q : PSt) : chkK 5 (.agg (pW q)) = some (.agg (pW q)):=rfl
theorem ex0 (x y : V) : extractV (.tup [x,y]) 0 = some x:=rfl
theorem ex1 (x y : V) : extractV (.tup [x,y]) 1 = some y:=rfl
theorem gz0 (x y : V) : [x,y][0]? = some x:=rfl
theorem gz1 (x y : V) : [x,y][1]? = some y:=rfl
theorem gz2 (x : V) : [x][0]? = some x:=rfl
theorem pg0 (q : PSt) : (pW q).getD 0 V.undef = .str q.s:=rfl
theorem pg1 (q : PSt) : (pW q).getD 1 V.undef = .int .i64 q.a:=rfl
theorem pg2 (q : PSt) : (pW q).getD 2 V.undef = .int .i64 q.d:=rfl
theorem pg3 (q : PSt) : (pW q).getD 3 V.undef = .int .i64 q.e:=rfl
theorem pg4 (q : PSt) : (pW q).getD 4 V.undef = .int .i64 q.b:=rfl
theorem gp0 (q : PSt) : gv (pW q) 0 = .str q.s:=rfl
theorem gp1 (q : PSt) : gv (pW q) 1 = .int .i64 q.a:=rfl
theorem gp2 (q : PSt) : gv (pW q) 2 = .int .i64 q.d:=rfl
theorem gp3 (q : PSt) : gv (pW q) 3 = .int .i64 q.e:=rfl
theorem gp4 (q : PSt) : gv (pW q) 4 = .int .i64 q.b:=rfl
theorem gq2 (x y : V) (q : PSt) : gv (x :: y :: pW q) 2 = .str q.s:=rfl
theorem gq3 (x y : V) (q : PSt) : gv (x :: y :: pW q) 3 = .int .i64 q.a:=rfl
theorem gq4 (x y : V) (q : PSt) : gv (x :: y :: pW q) 4 = .int .i64 q.d:=rfl
theorem gq5 (x y : V) (q : PSt) : gv (x :: y :: pW q) 5 = .int .i64 q.e:=rfl
theorem gq6 (x y : V) (q : PSt) : gv (x :: y :: pW q) 6 = .int .i64 q.b:=rfl
theorem cq0 (x y z u : V) : [x,y,z,u].getD 0 V.undef = x:=rfl
theorem cq1 (x y z u : V) : [x,y,z,u].getD 1 V.undef = y:=rfl
theorem agT (t : List UInt8) : aggK [.int .i64 4,.str t,.sl .ro [],.sl .ro []] = some (.agg [.int .i64 4,.str t,.sl .ro [],.sl .ro []]):=rfl
theorem ag_num1 (p : PSt) : aggK [.str p.s,.int .i64 (num1 p).a,.int .i64 p.d,.int .i64 p.e,.int .i64 p.b] = some (.agg (pW (num1 p))):=by
 unfold num1; split <;> rfl
theorem pre0 (x : V) : preK 0 (.tup [x]) = some (.tup []):=rfl
theorem adv_wrap {p : PSt} (h : Dom p) : IntKind.i64.wrap (p.a + 1) = p.a + 1:=wrap_in (by have:=h.2.1; omega) (by have:=h.1; have:=h.2.2; unfold big at *; omega)
theorem okx_number2 : SpecE Tryz.prog n_json_parser_number s_x_json_parser_number F_number2:=by
 refine go_x_json_parser_number (T:=TLu) (TabOk.consE okx_json_parser_here (TabOk.consE okx_run2 TabOk.nil)) fun words v hv=>?_
 have c1 : ∀ args,tab TLu x_json_parser_here args = F_x_json_parser_here args:=fun _=>rfl
 have c2 : ∀ args,tab TLu x_json_parser_run args = F_run2 args:=fun _=>rfl
 unfold F_number2 at hv
 split at hv <;> simp only [Option.ite_none_right_eq_some,Option.some.injEq,reduceCtorEq] at hv
 rename_i s a d e b
 obtain ⟨hd,rfl⟩:=hv
 refine ⟨_,rfl,rfl,rfl,rfl,rfl,rfl,?_⟩
 rw [e_x_json_parser_number]
 replace hd : Dom ⟨s,a,d,e,b⟩:=hd
 obtain ⟨p,hp⟩ : ∃ p : PSt,p = ⟨s,a,d,e,b⟩:=⟨_,rfl⟩
 have e1 : s = p.s:=by rw [hp]
 have e2 : a = p.a:=by rw [hp]
 have e3 : d = p.d:=by rw [hp]
 have e4 : e = p.e:=by rw [hp]
 have e5 : b = p.b:=by rw [hp]
 rw [← hp] at hd ⊢
 rw [e1,e2,e3,e4,e5]
 clear hp e1 e2 e3 e4 e5 s a d e b
 have h1:=num1_ahead hd
 simp only [agP,c1,F_here_at hd,gz0,gz1,pg0,pg1,pg2,pg3,pg4,ckP,sS,if_true,if_false,reduceCtorEq]
 refine joinP_inv (fun w=>w = [.int .i64 (num1 p).a]) (fun w hw=>?_) fun r hr=>?_
 rotate_left
 ·by_cases h : hI p = 45
  ·rw [decide_eq_true h,if_pos rfl]
   have e : num1 p = advM p:=if_pos h
   rw [adv_wrap hd]
   exact hr _ (by rw [e]; rfl)
  ·rw [decide_eq_false h,if_neg (by decide)]
   have e : num1 p = p:=if_neg h
   exact hr _ (by rw [e])
 subst hw
 refine ⟨rfl,?_⟩
 simp only [gv_0,ag_num1,sS,if_true,if_false,reduceCtorEq]
 generalize hp1 : num1 p = p1 at h1
 have hd1:=h1.dom
 have h2:=h1.trans (num2_ahead hd1)
 simp only [c1,F_here_at hd1,gz0,gz1,pg0,pg1,pg2,pg3,pg4,ckP,sS,if_true,if_false,reduceCtorEq]
 refine joinP_inv (fun w=>w = pW (num2 p1)) (fun w hw=>?_) fun r hr=>?_
 rotate_left
 ·by_cases h : hI p1 = 48
  ·rw [decide_eq_true h,if_pos rfl]
   have e : num2 p1 = advM p1:=if_pos h
   rw [adv_wrap hd1]
   exact hr _ (by rw [e]; rfl)
  ·rw [decide_eq_false h,if_neg (by decide)]
   have e : num2 p1 = runM p1:=if_neg h
   simp only [agP,c2,F_run_at hd1,gz2,pre0,pg0,pg1,pg2,pg3,pg4,ckP,sS,if_true,if_false,reduceCtorEq]
   exact hr _ (by rw [e]; rfl)
 subst hw
 refine ⟨rfl,?_⟩
 generalize hp2 : num2 p1 = p2 at h2
 have hd2:=h2.dom
 have h3:=h2.trans (num3_ahead hd2)
 simp only [gp0,gp1,gp2,gp3,gp4,agP,c1,F_here_at hd2,gz0,gz1,pg0,pg1,pg2,pg3,pg4,ckP,sS,if_true,if_false,reduceCtorEq]
 have h4:=h3.trans (num4_ahead h3.dom)
 have hnum : numberM p = num4 (num3 p2):=by unfold numberM; rw [hp1,hp2]
 have hsl : sliceS (.str (num4 (num3 p2)).s) (some (.int .i64 p.a)) (some (.int .i64 (num4 (num3 p2)).a)) = some (.str (numT p)):=by
  obtain ⟨m1,hm1⟩ : ∃ n : Nat,p.a = n:=⟨p.a.toNat,by have:=hd.2.1; omega⟩
  obtain ⟨m2,hm2⟩ : ∃ n : Nat,(num4 (num3 p2)).a = n:=⟨(num4 (num3 p2)).a.toNat,by have:=h4.dom.2.1; omega⟩
  have hle:=h4.dom.2.2
  have hge:=h4.a
  rw [h4.s,hm1,hm2,sliceS_both (by rw [h4.s] at hle; omega) (by omega)]
  unfold numT
  rw [hnum,hm1,hm2]
  rfl
 rw [hnum]
 by_cases he : p2.e = 0
 ·rw [decide_eq_true he,if_pos rfl]
  refine joinP_inv (fun w=>w = pW (num3 p2)) (fun w hw=>?_) fun r hr=>?_
  rotate_left
  ·by_cases h : hI p2 = 46
   ·rw [decide_eq_true h,if_pos rfl]
    have e : num3 p2 = runM (advM p2):=if_pos ⟨he,h⟩
    have hda:=(adv_ahead hd2 (by rw [h]; decide)).dom
    rw [adv_wrap hd2]
    simp only [agA,c2,F_run_at hda,gz2,pre0,pg0,pg1,pg2,pg3,pg4,ckP,sS,if_true,if_false,reduceCtorEq]
    exact hr _ (by rw [e]; rfl)
   ·rw [decide_eq_false h,if_neg (by decide)]
    have e : num3 p2 = p2:=if_neg fun x=>h x.2
    exact hr _ (by rw [e]; rfl)
  subst hw
  refine ⟨rfl,?_⟩
  generalize num3 p2 = p3 at h3 h4 hsl
  have hd3:=h3.dom
  simp only [gp0,gp1,gp2,gp3,gp4,agP,c1,F_here_at hd3,gz0,gz1,pg0,pg1,pg2,pg3,pg4,ckP,sS,if_true,if_false,reduceCtorEq]
  by_cases e3 : p3.e = 0
  ·simp only [decide_eq_true e3,if_true,sS,if_true,if_false,reduceCtorEq]
   refine joinP_inv (fun w=>∃ x y,w = x :: y :: pW (num4 p3)) (fun w hw=>?_) fun r hr=>?_
   rotate_left
   ·by_cases hc : hI p3 = 101 ∨ hI p3 = 69
    ·have hb : (decide (hI p3 = 101) || decide (hI p3 = 69)) = true:=by simpa using hc
     have hda:=(adv_ahead hd3 (by rcases hc with h | h <;> rw [h] <;> decide)).dom
     have hd5:=(num5_ahead hda).dom
     have e4 : num4 p3 = runM (num5 (advM p3)):=if_pos ⟨e3,hc⟩
     rw [hb,if_pos rfl,adv_wrap hd3]
     simp only [agA,c1,F_here_at hda,gz0,gz1,pg0,pg1,pg2,pg3,pg4,ckP,sS,if_true,if_false,reduceCtorEq]
     by_cases hs : hI (advM p3) = 43 ∨ hI (advM p3) = 45
     ·have hb2 : (decide (hI (advM p3) = 43) || decide (hI (advM p3) = 45)) = true:=by simpa using hs
      have e5 : num5 (advM p3) = advM (advM p3):=if_pos hs
      rw [e5] at hd5 e4
      rw [hb2,if_pos rfl,adv_wrap hda]
      simp only [agA,c2,F_run_at hd5,gz2,pre0,pg0,pg1,pg2,pg3,pg4,ckP,sS,if_true,if_false,reduceCtorEq]
      exact hr _ ⟨_,_,by rw [e4]; rfl⟩
     ·have hb2 : (decide (hI (advM p3) = 43) || decide (hI (advM p3) = 45)) = false:=by simpa using hs
      have e5 : num5 (advM p3) = advM p3:=if_neg hs
      rw [e5] at hd5 e4
      rw [hb2,if_neg (by decide)]
      simp only [agP,c2,F_run_at hd5,gz2,pre0,pg0,pg1,pg2,pg3,pg4,ckP,sS,if_true,if_false,reduceCtorEq]
      exact hr _ ⟨_,_,by rw [e4]; rfl⟩
    ·have hb : (decide (hI p3 = 101) || decide (hI p3 = 69)) = false:=by simpa using hc
     have e4 : num4 p3 = p3:=if_neg fun x=>hc x.2
     rw [hb,if_neg (by decide)]
     exact hr _ ⟨_,_,by rw [e4]; rfl⟩
   obtain ⟨x,y,rfl⟩:=hw
   refine ⟨rfl,?_⟩
   simp only [gp0,gp1,gp2,gp3,gp4,gq2,gq3,gq4,gq5,gq6,hsl,agP,agT,cq0,cq1,sS,if_true,if_false,reduceCtorEq]
  ·simp only [decide_eq_false e3,if_false,sS,if_true,if_false,reduceCtorEq]
   have e4 : num4 p3 = p3:=if_neg fun x=>e3 x.1
   refine joinP_inv (fun w=>∃ x y,w = x :: y :: pW (num4 p3)) (fun w hw=>?_) fun r hr=>?_
   rotate_left
   ·exact hr _ ⟨_,_,by rw [e4]; rfl⟩
   obtain ⟨x,y,rfl⟩:=hw
   refine ⟨rfl,?_⟩
   simp only [gp0,gp1,gp2,gp3,gp4,gq2,gq3,gq4,gq5,gq6,hsl,agP,agT,cq0,cq1,sS,if_true,if_false,reduceCtorEq]
 ·rw [decide_eq_false he,if_neg (by decide)]
  have e3 : num3 p2 = p2:=if_neg fun x=>he x.1
  rw [e3] at hsl ⊢
  have hn4 : num4 p2 = p2:=if_neg fun x=>he x.1
  simp only [gp0,gp1,gp2,gp3,gp4,agP,c1,F_here_at hd2,gz0,gz1,pg0,pg1,pg2,pg3,pg4,ckP,decide_eq_false he,sS,if_true,if_false,reduceCtorEq]
  refine joinP_inv (fun w=>∃ x y,w = x :: y :: pW (num4 p2)) (fun w hw=>?_) fun r hr=>?_
  rotate_left
  ·exact hr _ ⟨_,_,by rw [hn4]; rfl⟩
  obtain ⟨x,y,rfl⟩:=hw
  refine ⟨rfl,?_⟩
  simp only [gp0,gp1,gp2,gp3,gp4,gq2,gq3,gq4,gq5,gq6,hsl,agP,agT,cq0,cq1,sS,if_true,if_false,reduceCtorEq]
end Go.Fbs
