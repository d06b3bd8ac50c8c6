import Derived.Test.YthakklikgmcgdaaGreatDoorPC
set_option linter.unusedSimpArgs false
set_option linter.unusedVariables false
set_option linter.unusedSectionVars false
set_option maxRecDepth 100000
namespace Go.Fbs
open Go.Proofs Go.RowKit
def Deep : Nat → V → Prop
 | 0,_=>False
 | n + 1,v=>∃ (k : Int) (t : List UInt8) (ks : List (List UInt8)) (ls : List V),v = jn k t (ks.map V.str) ls ∧ ks.length ≤ 1000000000 ∧ ls.length ≤ 1000000000 ∧ ∀ e ∈ ls,Deep n e
theorem Deep.cano : ∀ {n : Nat} {v : V},Deep n v → v.cano = true
 | 0,_,h=>h.elim
 | n + 1,v,h=>by
  obtain ⟨k,t,ks,ls,rfl,_,_,h4⟩:=h
  have hc : canos ls = true:=canos_iff.2 fun e he=>Deep.cano (h4 e he)
  simp [jn,V.cano,canos,hc,keys_cano]
theorem Deep.mono : ∀ {n m : Nat} {v : V},n ≤ m → Deep n v → Deep m v
 | 0,_,_,_,h=>h.elim
 | n + 1,0,_,h,_=>absurd h (by omega)
 | n + 1,m + 1,v,h,hd=>by
  obtain ⟨k,t,ks,ls,rfl,h1,h2,h4⟩:=hd
  exact ⟨k,t,ks,ls,rfl,h1,h2,fun e he=>(h4 e he).mono (by omega)⟩
open Classical in
noncomputable def F_json_Same (n : Nat) : Spec:=fun args=>if ∃ a,args = [a,a] ∧ Deep n a then some (.bool true) else none
theorem F_Same_inv {n : Nat} {args : List V} {v : V} (h : F_json_Same n args = some v) : ∃ a,args = [a,a] ∧ Deep n a ∧ v = .bool true:=by
 unfold F_json_Same at h
 split at h
 ·rename_i hc
  obtain ⟨a,h1,h2⟩:=hc
  cases h
  exact ⟨a,h1,h2,rfl⟩
 ·cases h
theorem F_Same_at {n : Nat} {a : V} (h : Deep n a) : F_json_Same n [a,a] = some (.bool true):=if_pos ⟨a,rfl,h⟩
theorem keyAt {ks : List (List UInt8)} {i : Nat} {x : List UInt8} (h : ks[i]? = some x) : idxLK false 1 (.sl .ro (ks.map V.str)) (.int .i64 (i : Nat)) = some (.str x):=by
 unfold idxLK
 simp only [Int.natCast_nonneg,if_true,Int.toNat_natCast,List.getElem?_map,h,Option.map_some]; rfl
theorem elAt {ls : List V} {i : Nat} {k : Int} {t : List UInt8} {ks ms : List V} (h : ls[i]? = some (jn k t ks ms)) : idxLK true 4 (.sl .ro ls) (.int .i64 (i : Nat)) = some (jn k t ks ms):=by
 unfold idxLK
 simp only [Int.natCast_nonneg,if_true,Int.toNat_natCast,h]; rfl
theorem lenAt (es : List V) : lenL (.sl .ro es) = some (.int .i64 es.length):=rfl
theorem ckJ (k : Int) (t : List UInt8) (ks ls : List V) : chkK 4 (jn k t ks ls) = some (jn k t ks ls):=rfl
theorem cJ0 (k : Int) (t : List UInt8) (ks ls : List V) : cellD (jn k t ks ls) 0 = .int .i64 k:=rfl
theorem cJ1 (k : Int) (t : List UInt8) (ks ls : List V) : cellD (jn k t ks ls) 1 = .str t:=rfl
theorem cJ2 (k : Int) (t : List UInt8) (ks ls : List V) : cellD (jn k t ks ls) 2 = .sl .ro ks:=rfl
theorem cJ3 (k : Int) (t : List UInt8) (ks ls : List V) : cellD (jn k t ks ls) 3 = .sl .ro ls:=rfl
attribute [local irreducible] FunWp FunWpE in
theorem ok_Same_step {n : Nat} (h : SpecL Tryz.prog n_json_Same (F_json_Same n)) : SpecL Tryz.prog n_json_Same (F_json_Same (n + 1)):=by
 refine go_json_Same (T:=[(n_json_Same,F_json_Same n)]) (TabOk.cons h TabOk.nil) fun args v hv=>?_
 obtain ⟨a,rfl,hd,rfl⟩:=F_Same_inv hv
 have hca:=hd.cano
 refine ⟨rfl,by simp [canos,hca],rfl,?_⟩
 have c1 : ∀ args,tab [(n_json_Same,F_json_Same n)] n_json_Same args = F_json_Same n args:=fun _=>rfl
 obtain ⟨k,t,ks,ls,rfl,h1,h2,h4⟩:=hd
 refine Eq.mpr (e_json_Same _ _ (jn k t (ks.map V.str) ls) (jn k t (ks.map V.str) ls)) ?_
 simp only [ckJ,cJ0,cJ1,cJ2,cJ3,lenAt,sS,if_true,if_false,reduceCtorEq]
 rw [if_neg (by simp)]
 refine loopP_inv (fun vs=>∃ i : Nat,vs = [.int .i64 i] ∧ i ≤ ks.length) (fun vs=>ks.length - natOf (gv vs 0)) ⟨0,rfl,Nat.zero_le _⟩ ?_
 rintro r1 vs ⟨i,rfl,hi⟩ hnext
 refine ⟨rfl,?_⟩
 have g0 : ∀ x : V,gv [x] 0 = x:=fun _=>rfl
 by_cases hk : i < ks.length
 ·have hlt : (i : Int) < ((ks.map V.str).length : Int):=by rw [List.length_map]; omega
  have hx:=keyAt (List.getElem?_eq_getElem hk)
  have hw : IntKind.i64.wrap ((i : Int) + 1) = ((i + 1 : Nat) : Int):=wrap_in (by omega) (by omega)
  simp only [g0,decide_eq_true hlt,hx,hw,sS,if_true,if_false,reduceCtorEq]
  rw [if_neg (by simp)]
  refine hnext _ ⟨i + 1,rfl,hk⟩ ?_
  show ks.length - (i + 1) < ks.length - i
  omega
 ·have hlt : ¬ (i : Int) < ((ks.map V.str).length : Int):=by rw [List.length_map]; omega
  simp only [g0,decide_eq_false hlt,sS,if_true,if_false,reduceCtorEq]
  refine loopP_inv (fun vs=>∃ i : Nat,vs = [.int .i64 i] ∧ i ≤ ls.length) (fun vs=>ls.length - natOf (gv vs 0)) ⟨0,rfl,Nat.zero_le _⟩ ?_
  rintro r2 vs ⟨m,rfl,hm⟩ hnext2
  refine ⟨rfl,?_⟩
  by_cases hk2 : m < ls.length
  ·have hlt2 : (m : Int) < (ls.length : Int):=by omega
   have hg:=List.getElem?_eq_getElem hk2
   have hde:=h4 _ (List.mem_of_getElem? hg)
   have hje : ∃ k' t' ks' ls',ls[m] = jn k' t' ks' ls':=by
    cases n with
    | zero=>exact hde.elim
    | succ n=>obtain ⟨k',t',ks',ls',e,_⟩:=hde; exact ⟨_,_,_,_,e⟩
   obtain ⟨k',t',ks',ls',ej⟩:=hje
   rw [ej] at hg hde
   have hx:=elAt hg
   have hw : IntKind.i64.wrap ((m : Int) + 1) = ((m + 1 : Nat) : Int):=wrap_in (by omega) (by omega)
   simp only [g0,decide_eq_true hlt2,hx,hw,c1,F_Same_at hde,sS,if_true,if_false,reduceCtorEq]
   refine hnext2 _ ⟨m + 1,rfl,hk2⟩ ?_
   show ls.length - (m + 1) < ls.length - m
   omega
  ·have hlt2 : ¬ (m : Int) < (ls.length : Int):=by omega
   simp only [g0,decide_eq_false hlt2,sS,if_true,if_false,reduceCtorEq]
theorem ok_Same : ∀ n : Nat,SpecL Tryz.prog n_json_Same (F_json_Same n)
 | 0=>by
  have h0 : ∀ args,F_json_Same 0 args = none:=fun args=>if_neg (fun ⟨a,_,h⟩=>h.elim)
  refine go_json_Same (T:=[]) TabOk.nil fun args v hv=>?_
  rw [h0] at hv; cases hv
 | n + 1=>ok_Same_step (ok_Same n)
end Go.Fbs
