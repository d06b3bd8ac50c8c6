import Derived.Test.YthakklikgmcgdaaGreatDoorWB
import Derived.Test.YthakklikgmcgdaaGreatDoorJB
set_option linter.unusedSimpArgs false
set_option linter.unusedVariables false
set_option linter.unusedSectionVars false
set_option maxRecDepth 100000
namespace Go.Fbs
open Go.Proofs Go.RowKit
def Dom (p : PSt) : Prop:=p.s.length ≤ big ∧ 0 ≤ p.a ∧ p.a ≤ p.s.length
def skipM (p : PSt) : PSt:={ p with a:=endT p.s p.a blankL }
def hereM (p : PSt) : UInt8:=p.s.getD p.a.toNat 0
def failM (p : PSt) (at' e : Int) : PSt:=if p.e = 0 then { p with e:=e,b:=at' } else p
def needM (p : PSt) (c : UInt8) : Bool × PSt:=if p.e ≠ 0 ∨ hereM p ≠ c then (false,failM p p.a 9) else (true,{ p with a:=p.a + 1 })
theorem endT_range {s : List UInt8} {a : Int} (c : List UInt8) (h0 : 0 ≤ a) (h1 : a ≤ s.length) : a ≤ endT s a c ∧ endT s a c ≤ s.length:=by
 unfold endT
 have:=trimT_len (s.drop a.toNat) c
 simp only [List.length_drop] at this
 omega
theorem skip_dom {p : PSt} (h : Dom p) : Dom (skipM p):=by
 obtain ⟨h1,h2,h3⟩:=h
 have:=endT_range blankL h2 h3
 exact ⟨h1,by show 0 ≤ endT _ _ _; omega,this.2⟩
theorem here_lt {p : PSt} (h : Dom p) (hc : hereM p ≠ 0) : p.a < p.s.length:=by
 obtain ⟨h1,h2,h3⟩:=h
 rcases Int.lt_or_eq_of_le h3 with h | h
 ·exact h
 ·refine absurd ?_ hc
  unfold hereM
  rw [List.getD_eq_getElem?_getD,List.getElem?_eq_none (by omega)]; rfl
theorem fail_dom {p : PSt} (h : Dom p) (x y : Int) : Dom (failM p x y):=by unfold failM; split <;> exact h
theorem need_dom {p : PSt} (h : Dom p) (c : UInt8) (hc : c ≠ 0) : Dom (needM p c).2:=by
 unfold needM
 split
 ·exact fail_dom h _ _
 ·rename_i hn
  have hn : p.e = 0 ∧ hereM p = c:=by simpa using hn
  have:=here_lt h (by rw [hn.2]; exact hc)
  obtain ⟨h1,h2,h3⟩:=h
  exact ⟨h1,by show 0 ≤ p.a + 1; omega,by show p.a + 1 ≤ (p.s.length : Int); omega⟩
theorem skip_calls {p : PSt} (hd : Dom p) (w : World) (B : Nat) (hw : StAt w B p) : Calls Tryz.prog 16 #[.pointer (some ⟨B,0,none⟩)] w fun e w'=>e = .returned (.tuple #[]) ∧ StAt w' B (skipM p) ∧ Only' w w' B:=by
 have:=told_calls okx_json_parser_skip (p:=p) (p':=skipM p) (args:=[]) (rs:=[]) (by
  show F_x_json_parser_skip _ = _
  unfold F_x_json_parser_skip pW
  exact if_pos hd) rfl rfl rfl rfl rfl rfl w B [] hw (fun _ _=>Reps.nil)
 refine this.mono ?_
 rintro e w' ⟨x,rfl,hr,h1,h2⟩
 obtain ⟨ys,hy,rfl⟩:=rep_tup hr
 rw [hy.inv_nil]
 exact ⟨rfl,h1,h2⟩
theorem here_calls {p : PSt} (hd : Dom p) (w : World) (B : Nat) (hw : StAt w B p) : Calls Tryz.prog 30 #[.pointer (some ⟨B,0,none⟩)] w fun e w'=>e = .returned (.int .u8 (hereM p).toNat) ∧ StAt w' B p ∧ Only' w w' B:=by
 have:=told_calls okx_json_parser_here (p:=p) (p':=p) (args:=[]) (rs:=[.int .u8 (hereM p).toNat]) (by
  show F_x_json_parser_here _ = _
  unfold F_x_json_parser_here pW
  exact if_pos ⟨hd.1,hd.2.1⟩) rfl rfl rfl rfl rfl rfl w B [] hw (fun _ _=>Reps.nil)
 refine this.mono ?_
 rintro e w' ⟨x,rfl,hr,h1,h2⟩
 exact ⟨by rw [rep_int hr],h1,h2⟩
theorem fail_calls (p : PSt) (x y : Int) (w : World) (B : Nat) (hw : StAt w B p) : Calls Tryz.prog 18 #[.pointer (some ⟨B,0,none⟩),.int .i64 x,.int .i64 y] w fun e w'=>e = .returned (.tuple #[]) ∧ StAt w' B (failM p x y) ∧ Only' w w' B:=by
 have:=told_calls okx_json_parser_fail (p:=p) (p':=failM p x y) (args:=[.int .i64 x,.int .i64 y]) (rs:=[]) (by
  show F_x_json_parser_fail _ = _
  obtain ⟨s,a,d,e,b⟩:=p
  unfold F_x_json_parser_fail pW failM
  by_cases he : e = 0
  ·subst he; rfl
  ·simp only [he,if_false]; rfl) rfl rfl rfl rfl rfl rfl w B [.int .i64 x,.int .i64 y] hw (fun _ _=>Reps.cons (.int _ _) (Reps.cons (.int _ _) Reps.nil))
 refine this.mono ?_
 rintro e w' ⟨x,rfl,hr,h1,h2⟩
 obtain ⟨ys,hy,rfl⟩:=rep_tup hr
 rw [hy.inv_nil]
 exact ⟨rfl,h1,h2⟩
def F_x_json_parser_need : Spec
 | [.agg [.str s,.int .i64 a,.int .i64 d,.int .i64 e,.int .i64 b],.int .u8 c]=>if s.length ≤ big ∧ 0 ≤ a ∧ a ≤ s.length ∧ 0 ≤ c ∧ c < 256 then some (.tup [.bool (needM ⟨s,a,d,e,b⟩ c.toNat.toUInt8).1,.agg (pW (needM ⟨s,a,d,e,b⟩ c.toNat.toUInt8).2)]) else none
 | _=>none
noncomputable abbrev TLn : List (FuncId × Spec):=[(x_json_parser_fail,F_x_json_parser_fail),(x_json_parser_here,F_x_json_parser_here)]
theorem okx_json_parser_need : SpecE Tryz.prog n_json_parser_need s_x_json_parser_need F_x_json_parser_need:=by
 refine go_x_json_parser_need (T:=TLn) (TabOk.consE okx_json_parser_fail (TabOk.consE okx_json_parser_here TabOk.nil)) fun words v hv=>?_
 have c1 : ∀ args,tab TLn x_json_parser_fail args = F_x_json_parser_fail args:=fun _=>rfl
 have c2 : ∀ args,tab TLn x_json_parser_here args = F_x_json_parser_here args:=fun _=>rfl
 unfold F_x_json_parser_need at hv
 split at hv <;> simp only [Option.ite_none_right_eq_some,Option.some.injEq,reduceCtorEq] at hv
 rename_i s a d e b c
 obtain ⟨⟨hl,ha,has,hc0,hc1⟩,rfl⟩:=hv
 refine ⟨_,rfl,rfl,rfl,rfl,rfl,rfl,?_⟩
 rw [e_x_json_parser_need]
 have hk : ∀ s a d e b,chkK 5 (V.agg [V.str s,vI a,vI d,vI e,vI b]) = some (V.agg [V.str s,vI a,vI d,vI e,vI b]):=fun _ _ _ _ _=>rfl
 have hcc : ((c.toNat.toUInt8).toNat : Int) = c:=by
  have : c.toNat < 256:=by omega
  simp [Nat.toUInt8,UInt8.toNat_ofNat']; omega
 by_cases he : e = 0
 ·subst he
  have hh : F_x_json_parser_here [V.agg [.str s,.int .i64 a,.int .i64 d,.int .i64 0,.int .i64 b]] = some (.tup [.int .u8 (s.getD a.toNat 0).toNat,vP s a d 0 b]):=if_pos ⟨hl,ha⟩
  by_cases hcx : ((s.getD a.toNat 0).toNat : Int) = c
  ·have hx : hereM ⟨s,a,d,0,b⟩ = c.toNat.toUInt8:=by
    show s.getD a.toNat 0 = _
    apply UInt8.toNat_inj.1
    have:=hcc; omega
   have hn : needM ⟨s,a,d,0,b⟩ c.toNat.toUInt8 = (true,⟨s,a + 1,d,0,b⟩):=by unfold needM; rw [if_neg (by simp [hx])]
   have hw : IntKind.i64.wrap (a + 1) = a + 1:=wrap_in (by omega) (by unfold big at hl; omega)
   rw [hn]
   clear hx
   generalize s.getD a.toNat 0 = q at hh hcx
   simp [sS,if_true,if_false,reduceCtorEq,c1,c2,hh,hcx,chk1K,sc,aggK,vP,pW,hw,hk]
  ·have hx : hereM ⟨s,a,d,0,b⟩ ≠ c.toNat.toUInt8:=fun h=>hcx (by rw [← hcc,← h]; rfl)
   have hn : needM ⟨s,a,d,0,b⟩ c.toNat.toUInt8 = (false,⟨s,a,d,9,a⟩):=by unfold needM failM; rw [if_pos (by simp [hx])]; rfl
   rw [hn]
   clear hx
   generalize s.getD a.toNat 0 = q at hh hcx
   simp [sS,if_true,if_false,reduceCtorEq,c1,c2,hh,hcx,chk1K,sc,aggK,vP,pW,F_x_json_parser_fail,hk]
   exact trivial
 ·have hn : needM ⟨s,a,d,e,b⟩ c.toNat.toUInt8 = (false,⟨s,a,d,e,b⟩):=by unfold needM failM; rw [if_pos (by simp [he])]; simp [he]
  rw [hn]
  simp [sS,if_true,if_false,reduceCtorEq,c1,c2,he,chk1K,sc,aggK,vP,pW,F_x_json_parser_fail,hk]
  exact trivial
theorem need_calls {p : PSt} (hd : Dom p) (c : UInt8) (w : World) (B : Nat) (hw : StAt w B p) : Calls Tryz.prog 55 #[.pointer (some ⟨B,0,none⟩),.int .u8 c.toNat] w fun e w'=>e = .returned (.bool (needM p c).1) ∧ StAt w' B (needM p c).2 ∧ Only' w w' B:=by
 have hc : ((c.toNat : Int)).toNat.toUInt8 = c:=by simp
 have:=told_calls okx_json_parser_need (p:=p) (p':=(needM p c).2) (args:=[.int .u8 c.toNat]) (rs:=[.bool (needM p c).1]) (by
  show F_x_json_parser_need _ = _
  have h2:=c.toNat_lt
  unfold F_x_json_parser_need pW
  refine (if_pos ⟨hd.1,hd.2.1,hd.2.2,by omega,by omega⟩).trans ?_
  rw [hc]; rfl) rfl rfl rfl rfl rfl rfl w B [.int .u8 c.toNat] hw (fun _ _=>Reps.cons (.int _ _) Reps.nil)
 refine this.mono ?_
 rintro e w' ⟨x,rfl,hr,h1,h2⟩
 exact ⟨by rw [rep_bool hr],h1,h2⟩
end Go.Fbs
