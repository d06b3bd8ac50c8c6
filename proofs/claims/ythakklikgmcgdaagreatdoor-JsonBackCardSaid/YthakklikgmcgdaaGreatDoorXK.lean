import Derived.Test.YthakklikgmcgdaaGreatDoorXH
set_option linter.unusedSimpArgs false
set_option linter.unusedVariables false
set_option linter.unusedSectionVars false
set_option maxRecDepth 100000
namespace Go.Fbs
open Go.Proofs Go.RowKit
def strsOf : List V → Option (List (List UInt8))
 | []=>some []
 | .str s :: r=>(strsOf r).map (s :: ·)
 | _ :: _=>none
theorem strsOf_map : ∀ l : List (List UInt8),strsOf (l.map V.str) = some l
 | []=>rfl
 | s :: l=>by show (strsOf (l.map V.str)).map (s :: ·) = _; rw [strsOf_map l]; rfl
theorem strsOf_inv : ∀ {ks : List V} {l : List (List UInt8)},strsOf ks = some l → ks = l.map V.str
 | [],l,h=>by cases h; rfl
 | .str s :: r,l,h=>by
  obtain ⟨m,h1,rfl⟩:=Option.map_eq_some_iff.1 (show (strsOf r).map (s :: ·) = some l from h)
  rw [strsOf_inv h1]; rfl
def isJn : V → Bool
 | .agg [.int .i64 k,.str t,.sl .ro ks,.sl .ro ls]=>(jn k t ks ls).cano
 | _=>false
theorem isJn_inv {v : V} (h : isJn v = true) : Good v:=by
 unfold isJn at h
 split at h
 ·exact ⟨_,_,_,_,rfl,h⟩
 ·cases h
theorem Deep.isJn {n : Nat} {v : V} (h : Deep n v) : isJn v = true:=by
 have hc:=h.cano
 cases n with
 | zero=>exact h.elim
 | succ n=>obtain ⟨k,t,ks,ls,rfl,_⟩:=h; exact hc
def getL (k : Int) (ls : List V) (key : List UInt8) : List (List UInt8) → Nat → V × Bool
 | [],_=>(jn 0 [] [] [],false)
 | x :: r,i=>if k = 7 ∧ x = key ∧ i < ls.length then (ls.getD i .undef,true) else getL k ls key r (i + 1)
def F_json_Get : Spec
 | [.agg [.int .i64 k,.str _,.sl .ro ks,.sl .ro ls],.str key]=>match strsOf ks with
  | some l=>if l.length ≤ 1000000000 ∧ ls.all isJn = true ∧ canos ks = true then some (.tup [(getL k ls key l 0).1,.bool (getL k ls key l 0).2]) else none
  | none=>none
 | _=>none
theorem F_Get_at {k : Int} {t : List UInt8} {ks : List (List UInt8)} {ls : List V} {n : Nat} (h : Deep n (jn k t (ks.map V.str) ls)) (key : List UInt8) : F_json_Get [jn k t (ks.map V.str) ls,.str key] = some (.tup [(getL k ls key ks 0).1,.bool (getL k ls key ks 0).2]):=by
 cases n with
 | zero=>exact h.elim
 | succ n =>
  obtain ⟨k',t',ks',ls',e,h1,h2,h3⟩:=h
  simp only [jn,V.agg.injEq,List.cons.injEq,V.int.injEq,V.str.injEq,V.sl.injEq,true_and,and_true] at e
  obtain ⟨rfl,rfl,e3,rfl⟩:=e
  have ek : ks = ks':=by have:=strsOf_map ks; rw [e3,strsOf_map ks'] at this; exact (Option.some.inj this).symm
  subst ek
  show (match strsOf (ks.map V.str) with | some l=>_ | none=>_) = _
  rw [strsOf_map]
  exact if_pos ⟨h1,List.all_eq_true.2 fun e he=>(h3 e he).isJn,keys_cano ks⟩
theorem getL_good {k : Int} {ls : List V} (h : ls.all isJn = true) (key : List UInt8) : ∀ (r : List (List UInt8)) (i : Nat),(getL k ls key r i).1.cano = true
 | [],_=>rfl
 | x :: r,i=>by
  unfold getL
  split
  ·rename_i hc
   have hi:=hc.2.2
   show (ls.getD i .undef).cano = true
   rw [List.getD_eq_getElem?_getD,List.getElem?_eq_getElem hi]
   exact good_cano (isJn_inv (List.all_eq_true.1 h _ (List.getElem_mem hi)))
  ·exact getL_good h key r (i + 1)
theorem pk (b : Bool) (x y : V) : pickV (.bool b) x y = some (if b then x else y):=rfl
attribute [local irreducible] FunWp FunWpE in
theorem ok_json_Get : SpecL Tryz.prog n_json_Get F_json_Get:=by
 refine go_json_Get (T:=[]) TabOk.nil fun args v hv=>?_
 unfold F_json_Get at hv
 split at hv
 case h_2=>cases hv
 rename_i k t ks ls key
 split at hv
 case h_2=>cases hv
 rename_i l hks
 simp only [Option.ite_none_right_eq_some,Option.some.injEq] at hv
 obtain ⟨⟨h1,h2,h3⟩,rfl⟩:=hv
 obtain rfl:=strsOf_inv hks
 have hcl : canos ls = true:=canos_iff.2 fun e he=>good_cano (isJn_inv (List.all_eq_true.1 h2 e he))
 have hcv:=getL_good (k:=k) h2 key l 0
 refine ⟨rfl,by simp [canos,V.cano,hcl,keys_cano],by simp [canos,V.cano,hcv],?_⟩
 refine Eq.mpr (e_json_Get _ _ (jn k t (l.map V.str) ls) (.str key)) ?_
 simp only [ckJ,cJ0,cJ1,cJ2,cJ3,lenAt,sS,if_true,if_false,reduceCtorEq]
 refine loopP_inv (fun vs=>∃ i : Nat,vs = [.int .i64 i] ∧ i ≤ l.length ∧ getL k ls key (l.drop i) i = getL k ls key l 0) (fun vs=>l.length - natOf (gv vs 0)) ⟨0,rfl,Nat.zero_le _,rfl⟩ ?_
 rintro r1 vs ⟨i,rfl,hi,hg⟩ hnext
 refine ⟨rfl,?_⟩
 have g0 : ∀ x : V,gv [x] 0 = x:=fun _=>rfl
 by_cases hk : i < l.length
 ·have hlt : (i : Int) < ((l.map V.str).length : Int):=by rw [List.length_map]; omega
  have hx:=keyAt (List.getElem?_eq_getElem hk)
  have hw : IntKind.i64.wrap ((i : Int) + 1) = ((i + 1 : Nat) : Int):=wrap_in (by omega) (by omega)
  rw [List.drop_eq_getElem_cons hk,getL] at hg
  simp only [g0,decide_eq_true hlt,hx,hw,sS,if_true,if_false,reduceCtorEq]
  by_cases hc : k = 7 ∧ l[i] = key ∧ i < ls.length
  ·rw [if_pos hc] at hg
   obtain ⟨c1,c2,c3⟩:=hc
   have hgood:=isJn_inv (List.all_eq_true.1 h2 _ (List.getElem_mem c3))
   obtain ⟨k',t',ks',ls',ej,_⟩:=hgood
   have hge : ls[i]? = some (jn k' t' ks' ls'):=by rw [List.getElem?_eq_getElem c3,ej]
   have hgd : ls.getD i .undef = jn k' t' ks' ls':=by rw [List.getD_eq_getElem?_getD,hge]; rfl
   rw [if_pos (by simp [c1,c2,c3]),elAt hge]
   simp only [sS,if_true,if_false,reduceCtorEq]
   rw [← hg,hgd]
  ·rw [if_neg hc] at hg
   rw [if_neg (by simpa using hc)]
   refine hnext _ ⟨i + 1,rfl,hk,hg⟩ ?_
   show l.length - (i + 1) < l.length - i
   omega
 ·have hlt : ¬ (i : Int) < ((l.map V.str).length : Int):=by rw [List.length_map]; omega
  rw [List.drop_eq_nil_of_le (by omega),getL] at hg
  simp only [g0,decide_eq_false hlt,agZ,cq0,cq1,sS,if_true,if_false,reduceCtorEq]
  rw [← hg]; rfl
end Go.Fbs
