import Derived.Test.YthakklikgmcgdaaGreatDoorXH
set_option linter.unusedSimpArgs false
set_option linter.unusedVariables false
set_option linter.unusedSectionVars false
set_option maxRecDepth 100000
namespace Go.Fbs
open Go.Proofs Go.RowKit
def sX:List V→Option (List (List UInt8))
 | []=>some []
 | .str s::r=>(sX r).map (s :: ·)
 | _::_=>none
theorem a8u:∀ l:List (List UInt8),sX (l.map V.str)=some l
 | []=>rfl
 | s::l=>by show (sX (l.map V.str)).map (s :: ·)=_; rw [a8u l]; rfl
theorem yW:∀ {ks:List V} {l:List (List UInt8)},sX ks=some l→ks=l.map V.str
 | [],l,h=>by cases h; rfl
 | .str s::r,l,h=>by
  obtain ⟨m,h1,rfl⟩:=Option.map_eq_some_iff.1 (show (sX r).map (s :: ·)=some l from h)
  rw [yW h1]; rfl
def aD1:V→Bool
 | .agg [.int .i64 k,.str t,.sl .ro ks,.sl .ro ls]=>(jn k t ks ls).bR
 | _=>false
theorem a8v {v:V} (h:aD1 v=true):Good v:=by
 unfold aD1 at h
 split at h
 ·exact ⟨_,_,_,_,rfl,h⟩
 ·cases h
theorem Deep.aD1 {n:Nat} {v:V} (h:Deep n v):aD1 v=true:=by
 have hc:=h.bR
 cases n with
 | zero=>exact h.elim
 | succ n=>obtain ⟨k,t,ks,ls,rfl,_⟩:=h; exact hc
def a8w (k:Int) (ls:List V) (key:List UInt8):List (List UInt8)→Nat→V×Bool
 | [],_=>(jn 0 [] [] [],false)
 | x::r,i=>if k=7∧x=key∧i < ls.length then (ls.getD i .undef,true) else a8w k ls key r (i+1)
def yX:Spec
 | [.agg [.int .i64 k,.str _,.sl .ro ks,.sl .ro ls],.str key]=>match sX ks with
  | some l=>if l.length≤1000000000∧ls.all aD1=true∧aJ ks=true then some (.tup [(a8w k ls key l 0).1,.bool (a8w k ls key l 0).2]) else none
  | none=>none
 | _=>none
theorem aIb {k:Int} {ls:List V} (h:ls.all aD1=true) (key:List UInt8):∀ (r:List (List UInt8)) (i:Nat),(a8w k ls key r i).1.bR=true
 | [],_=>rfl
 | x::r,i=>by
  unfold a8w
  split
  ·rename_i hc
   have hi:=hc.2.2
   show (ls.getD i .undef).bR=true
   rw [List.getD_eq_getElem?_getD,List.getElem?_eq_getElem hi]
   exact iZ (a8v (List.all_eq_true.1 h _ (List.getElem_mem hi)))
  ·exact aIb h key r (i+1)
theorem pk (b:Bool) (x y:V):pickV (.bool b) x y=some (if b then x else y):=rfl
attribute [local irreducible] bK aX in
theorem aNg:cZ Tryz.prog yH yX:=by
 refine aM8 (T:=[]) aH.nil fun args v hv=>?_
 unfold yX at hv
 split at hv
 case h_2=>cases hv
 rename_i k t ks ls key
 split at hv
 case h_2=>cases hv
 rename_i l hks
 simp only [Option.ite_none_right_eq_some,Option.some.injEq] at hv
 obtain ⟨⟨h1,h2,h3⟩,rfl⟩:=hv
 obtain rfl:=yW hks
 have hcl:aJ ls=true:=jF.2 fun e he=>iZ (a8v (List.all_eq_true.1 h2 e he))
 have hcv:=aIb (k:=k) h2 key l 0
 refine ⟨rfl,by simp [aJ,V.bR,hcl,uN],by simp [aJ,V.bR,hcv],?_⟩
 refine Eq.mpr (aQk _ _ (jn k t (l.map V.str) ls) (.str key)) ?_
 simp only [ckJ,cJ0,zO,cJ2,cJ3,a2s,sS,if_true,if_false,reduceCtorEq]
 refine gP (fun vs=>∃ i:Nat,vs=[.int .i64 i]∧i≤l.length∧a8w k ls key (l.drop i) i=a8w k ls key l 0) (fun vs=>l.length - nQ (gv vs 0)) ⟨0,rfl,Nat.zero_le _,rfl⟩ ?_
 rintro r1 vs ⟨i,rfl,hi,hg⟩ hnext
 refine ⟨rfl,?_⟩
 have g0:∀ x:V,gv [x] 0=x:=fun _=>rfl
 by_cases hk:i < l.length
 ·have hlt:(i:Int) < ((l.map V.str).length:Int):=by rw [List.length_map]; omega
  have hx:=a8t (List.getElem?_eq_getElem hk)
  have hw:IntKind.i64.wrap ((i:Int)+1)=((i+1:Nat):Int):=dN (by omega) (by omega)
  rw [List.drop_eq_getElem_cons hk,a8w] at hg
  simp only [g0,decide_eq_true hlt,hx,hw,sS,if_true,if_false,reduceCtorEq]
  by_cases hc:k=7∧l[i]=key∧i < ls.length
  ·rw [if_pos hc] at hg
   obtain ⟨c1,c2,c3⟩:=hc
   have hgood:=a8v (List.all_eq_true.1 h2 _ (List.getElem_mem c3))
   obtain ⟨k',t',ks',ls',ej,_⟩:=hgood
   have hge : ls[i]? = some (jn k' t' ks' ls'):=by rw [List.getElem?_eq_getElem c3,ej]
   have hgd:ls.getD i .undef=jn k' t' ks' ls':=by rw [List.getD_eq_getElem?_getD,hge]; rfl
   rw [if_pos (by simp [c1,c2,c3]),aQy hge]
   simp only [sS,if_true,if_false,reduceCtorEq]
   rw [← hg,hgd]
  ·rw [if_neg hc] at hg
   rw [if_neg (by simpa using hc)]
   refine hnext _ ⟨i+1,rfl,hk,hg⟩ ?_
   show l.length - (i+1) < l.length - i
   omega
 ·have hlt:¬ (i:Int) < ((l.map V.str).length:Int):=by rw [List.length_map]; omega
  rw [List.drop_eq_nil_of_le (by omega),a8w] at hg
  simp only [g0,decide_eq_false hlt,agZ,cq0,cq1,sS,if_true,if_false,reduceCtorEq]
  rw [← hg]; rfl
end Go.Fbs
