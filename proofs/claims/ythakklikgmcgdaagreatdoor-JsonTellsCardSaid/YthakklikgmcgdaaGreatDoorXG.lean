import Derived.Test.YthakklikgmcgdaaGreatDoorPC
set_option linter.unusedSimpArgs false
set_option linter.unusedVariables false
set_option linter.unusedSectionVars false
set_option maxRecDepth 100000
namespace Go.Fbs
open Go.Proofs Go.RowKit
def Deep:Nat→V→Prop
 | 0,_=>False
 | n+1,v=>∃ (k:Int) (t:List UInt8) (ks:List (List UInt8)) (ls:List V),v=jn k t (ks.map V.str) ls∧ks.length≤1000000000∧ls.length≤1000000000∧∀ e ∈ ls,Deep n e
theorem Deep.bR:∀ {n:Nat} {v:V},Deep n v→v.bR=true
 | 0,_,h=>h.elim
 | n+1,v,h=>by
  obtain ⟨k,t,ks,ls,rfl,_,_,h4⟩:=h
  have hc:aJ ls=true:=jF.2 fun e he=>Deep.bR (h4 e he)
  simp [jn,V.bR,aJ,hc,uN]
theorem Deep.mono:∀ {n m:Nat} {v:V},n≤m→Deep n v→Deep m v
 | 0,_,_,_,h=>h.elim
 | n+1,0,_,h,_=>absurd h (by omega)
 | n+1,m+1,v,h,hd=>by
  obtain ⟨k,t,ks,ls,rfl,h1,h2,h4⟩:=hd
  exact ⟨k,t,ks,ls,rfl,h1,h2,fun e he=>(h4 e he).mono (by omega)⟩
open Classical in
noncomputable def dY (n:Nat):Spec:=fun args=>if ∃ a,args=[a,a]∧Deep n a then some (.bool true) else none
theorem aFo {n:Nat} {args:List V} {v:V} (h:dY n args=some v):∃ a,args=[a,a]∧Deep n a∧v = .bool true:=by
 unfold dY at h
 split at h
 ·rename_i hc
  obtain ⟨a,h1,h2⟩:=hc
  cases h
  exact ⟨a,h1,h2,rfl⟩
 ·cases h
theorem a47 {n:Nat} {a:V} (h:Deep n a):dY n [a,a]=some (.bool true):=if_pos ⟨a,rfl,h⟩
theorem a8t {ks : List (List UInt8)} {i : Nat} {x : List UInt8} (h : ks[i]? = some x) : gS false 1 (.sl .ro (ks.map V.str)) (.int .i64 (i : Nat)) = some (.str x):=by
 unfold gS
 simp only [Int.natCast_nonneg,if_true,Int.toNat_natCast,List.getElem?_map,h,Option.map_some]; rfl
theorem aQy {ls : List V} {i : Nat} {k : Int} {t : List UInt8} {ks ms : List V} (h : ls[i]? = some (jn k t ks ms)) : gS true 4 (.sl .ro ls) (.int .i64 (i : Nat)) = some (jn k t ks ms):=by
 unfold gS
 simp only [Int.natCast_nonneg,if_true,Int.toNat_natCast,h]; rfl
theorem a2s (es:List V):lenL (.sl .ro es)=some (.int .i64 es.length):=rfl
theorem ckJ (k:Int) (t:List UInt8) (ks ls:List V):aP 4 (jn k t ks ls)=some (jn k t ks ls):=rfl
theorem cJ0 (k:Int) (t:List UInt8) (ks ls:List V):aA (jn k t ks ls) 0 = .int .i64 k:=rfl
theorem zO (k:Int) (t:List UInt8) (ks ls:List V):aA (jn k t ks ls) 1 = .str t:=rfl
theorem cJ2 (k:Int) (t:List UInt8) (ks ls:List V):aA (jn k t ks ls) 2 = .sl .ro ks:=rfl
theorem cJ3 (k:Int) (t:List UInt8) (ks ls:List V):aA (jn k t ks ls) 3 = .sl .ro ls:=rfl
attribute [local irreducible] bK aX in
theorem aLs {n:Nat} (h:cZ Tryz.prog n9 (dY n)):cZ Tryz.prog n9 (dY (n+1)):=by
 refine aAn (T:=[(n9,dY n)]) (aH.cons h aH.nil) fun args v hv=>?_
 obtain ⟨a,rfl,hd,rfl⟩:=aFo hv
 have hca:=hd.bR
 refine ⟨rfl,by simp [aJ,hca],rfl,?_⟩
 have c1:∀ args,bD [(n9,dY n)] n9 args=dY n args:=fun _=>rfl
 obtain ⟨k,t,ks,ls,rfl,h1,h2,h4⟩:=hd
 refine Eq.mpr (aM9 _ _ (jn k t (ks.map V.str) ls) (jn k t (ks.map V.str) ls)) ?_
 simp only [ckJ,cJ0,zO,cJ2,cJ3,a2s,sS,if_true,if_false,reduceCtorEq]
 rw [if_neg (by simp)]
 refine gP (fun vs=>∃ i:Nat,vs=[.int .i64 i]∧i≤ks.length) (fun vs=>ks.length - nQ (gv vs 0)) ⟨0,rfl,Nat.zero_le _⟩ ?_
 rintro r1 vs ⟨i,rfl,hi⟩ hnext
 refine ⟨rfl,?_⟩
 have g0:∀ x:V,gv [x] 0=x:=fun _=>rfl
 by_cases hk:i < ks.length
 ·have hlt:(i:Int) < ((ks.map V.str).length:Int):=by rw [List.length_map]; omega
  have hx:=a8t (List.getElem?_eq_getElem hk)
  have hw:IntKind.i64.wrap ((i:Int)+1)=((i+1:Nat):Int):=dN (by omega) (by omega)
  simp only [g0,decide_eq_true hlt,hx,hw,sS,if_true,if_false,reduceCtorEq]
  rw [if_neg (by simp)]
  refine hnext _ ⟨i+1,rfl,hk⟩ ?_
  show ks.length - (i+1) < ks.length - i
  omega
 ·have hlt:¬ (i:Int) < ((ks.map V.str).length:Int):=by rw [List.length_map]; omega
  simp only [g0,decide_eq_false hlt,sS,if_true,if_false,reduceCtorEq]
  refine gP (fun vs=>∃ i:Nat,vs=[.int .i64 i]∧i≤ls.length) (fun vs=>ls.length - nQ (gv vs 0)) ⟨0,rfl,Nat.zero_le _⟩ ?_
  rintro r2 vs ⟨m,rfl,hm⟩ hnext2
  refine ⟨rfl,?_⟩
  by_cases hk2:m < ls.length
  ·have hlt2:(m:Int) < (ls.length:Int):=by omega
   have hg:=List.getElem?_eq_getElem hk2
   have hde:=h4 _ (List.mem_of_getElem? hg)
   have hje:∃ k' t' ks' ls',ls[m]=jn k' t' ks' ls':=by
    cases n with
    | zero=>exact hde.elim
    | succ n=>obtain ⟨k',t',ks',ls',e,_⟩:=hde; exact ⟨_,_,_,_,e⟩
   obtain ⟨k',t',ks',ls',ej⟩:=hje
   rw [ej] at hg hde
   have hx:=aQy hg
   have hw:IntKind.i64.wrap ((m:Int)+1)=((m+1:Nat):Int):=dN (by omega) (by omega)
   simp only [g0,decide_eq_true hlt2,hx,hw,c1,a47 hde,sS,if_true,if_false,reduceCtorEq]
   refine hnext2 _ ⟨m+1,rfl,hk2⟩ ?_
   show ls.length - (m+1) < ls.length - m
   omega
  ·have hlt2:¬ (m:Int) < (ls.length:Int):=by omega
   simp only [g0,decide_eq_false hlt2,sS,if_true,if_false,reduceCtorEq]
theorem aOh:∀ n:Nat,cZ Tryz.prog n9 (dY n)
 | 0=>by
  have h0:∀ args,dY 0 args=none:=fun args=>if_neg (fun ⟨a,_,h⟩=>h.elim)
  refine aAn (T:=[]) aH.nil fun args v hv=>?_
  rw [h0] at hv; cases hv
 | n+1=>aLs (aOh n)
end Go.Fbs
