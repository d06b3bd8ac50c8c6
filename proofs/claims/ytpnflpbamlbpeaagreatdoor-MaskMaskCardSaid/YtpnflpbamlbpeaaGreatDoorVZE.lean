import Derived.Test.YtpnflpbamlbpeaaGreatDoorVZD
set_option linter.unusedSimpArgs false
set_option linter.unusedVariables false
set_option linter.unusedSectionVars false
set_option maxRecDepth 100000
namespace Go.Fbs
open Go.Proofs Go.RowKit Go.Shelf Go.Sort Go.Maps
def flatF (l : List FR) : List Value:=l.flatMap encF
theorem flatF_cons (x : FR) (l : List FR) : flatF (x :: l) = encF x ++ flatF l:=by simp [flatF]
theorem flatF_app (a b : List FR) : flatF (a ++ b) = flatF a ++ flatF b:=by simp [flatF]
theorem flatF_len : ∀ l : List FR,(flatF l).length = l.length * 7
 | []=>rfl
 | x :: l=>by
  rw [flatF_cons,List.length_append,flatF_len l,List.length_cons]
  show 7 + _ = _
  omega
theorem flatF_at : ∀ {l : List FR} {i c : Nat} {x : FR} {v : Value},l[i]? = some x → (encF x)[c]? = some v → (flatF l)[i * 7 + c]? = some v
 | y :: l,0,c,x,v,h,hv=>by
  cases h
  have hc : c < (encF y).length:=(List.getElem?_eq_some_iff.1 hv).1
  rw [flatF_cons,Nat.zero_mul,Nat.zero_add,List.getElem?_append_left hc]; exact hv
 | y :: l,i + 1,c,x,v,h,hv=>by
  have:=flatF_at (l:=l) (i:=i) (by simpa using h) hv
  rw [flatF_cons,List.getElem?_append_right (by show 7 ≤ _; omega),← this]
  congr 1
  show (i + 1) * 7 + c - 7 = _
  omega
theorem encF_at (x : FR) {c : Nat} (h : c < 7) : (encF x)[c]? = some (encF x)[c]!:=by
 match c,h with
 | 0,_=>rfl
 | 1,_=>rfl
 | 2,_=>rfl
 | 3,_=>rfl
 | 4,_=>rfl
 | 5,_=>rfl
 | 6,_=>rfl
theorem flatK_F (l : List FR) : (flatK encF 7 l.toArray).toList = flatF l:=by
 apply List.ext_getElem?
 intro t
 by_cases ht : t < l.length * 7
 ·have h1 : t < (flatK encF 7 l.toArray).size:=by rw [size_flatK]; exact ht
  have h2:=get_flatK encF 7 l.toArray t (by exact ht)
  have hi : t / 7 < l.length:=by omega
  have h3 : l[t / 7]? = some l[t / 7]:=List.getElem?_eq_getElem hi
  have h4 : l.toArray[t / 7]! = l[t / 7]:=by simp [hi]
  have h5:=flatF_at h3 (encF_at l[t / 7] (Nat.mod_lt t (by decide   : 0 < 7)))
  rw [show t / 7 * 7 + t % 7 = t by omega] at h5
  rw [h5,Array.getElem?_toList,Array.getElem?_eq_getElem h1]
  rw [getElem!_pos _ t h1,h4] at h2
  rw [h2]
 ·rw [List.getElem?_eq_none (by rw [Array.length_toList,size_flatK]; show l.length * 7 ≤ _; omega),List.getElem?_eq_none (by rw [flatF_len]; omega)]
theorem holdF_of {w : World} {g : Nat} {cur : Array Value} {E n : Nat} {l : List FR} (h : w.heap[g]? = some (.cells cur E (0,0))) (hn : l.length = n) (ht : cur.toList.take (n * 7) = flatF l) : HoldsK encF 7 w g 0 l.toArray:=by
 intro j hj
 have hj' : j < l.length * 7:=by rw [size_flatK] at hj; exact hj
 have e : (flatK encF 7 l.toArray)[j]? = cur[j]?:=by
  rw [← Array.getElem?_toList,flatK_F,← ht,List.getElem?_take,if_pos (by omega),Array.getElem?_toList]
 rw [Array.getElem?_eq_getElem hj] at e
 rw [Nat.zero_add,getElem!_pos _ j hj]
 refine ⟨?_,Lib.frozen_of_heap h j⟩
 unfold World.cell?
 rw [h]
 simp [← e]
theorem sortedF_world {w : World} {g E n cap N : Nat} {cur : Array Value} {os : Array Obj} {d : List FR} {base : Nat} (h : w.heap[g]? = some (.cells cur E (0,0))) (hd : d.length = n) (hsz : cur.size = cap * 7) (hn : n ≤ cap) (hb : base ≤ g) :
  Bel base w (sortWorldK encF 7 w g 0 N d.toArray os) ∧ ∃ cur',(sortWorldK encF 7 w g 0 N d.toArray os).heap[g]? = some (.cells cur' E (0,0)) ∧ cur'.size = cap * 7 ∧ cur'.toList.take (n * 7) = flatF d:=by
 have hg : g < w.heap.size:=(Array.getElem?_eq_some_iff.1 h).1
 have hheap : (sortWorldK encF 7 w g 0 N d.toArray os).heap = (w.heap.modify g (Go.Sort.onCells (Go.Sort.putCells id 0 (flatK encF 7 d.toArray)))) ++ os:=rfl
 have hsize : (w.heap.modify g (Go.Sort.onCells (Go.Sort.putCells id 0 (flatK encF 7 d.toArray)))).size = w.heap.size:=by simp
 refine ⟨⟨rfl,rfl,by rw [hheap,Array.size_append,hsize]; omega,fun k hk=>?_⟩,Go.Sort.putCells id 0 (flatK encF 7 d.toArray) cur,?_,?_,?_⟩
 ·rw [hheap,Array.getElem?_append_left (by rw [hsize]; omega),Array.getElem?_modify,if_neg (by omega)]
 ·rw [hheap,Array.getElem?_append_left (by rw [hsize]; omega),Array.getElem?_modify,if_pos rfl,h]; rfl
 ·simp [Go.Sort.putCells,hsz]
 ·apply List.ext_getElem?
  intro t
  rw [List.getElem?_take]
  have hfs : (flatK encF 7 d.toArray).size = n * 7:=by rw [size_flatK]; show d.length * 7 = _; rw [hd]
  split
  ·rename_i ht
   rw [Array.getElem?_toList]
   simp only [Go.Sort.putCells,Array.getElem?_mapIdx]
   have hc : t < cur.size:=by rw [hsz]; omega
   rw [Array.getElem?_eq_getElem hc,Option.map_some,if_pos (by omega),Nat.sub_zero,← flatK_F,Array.getElem?_toList,Array.getElem?_eq_getElem (by omega)]
   rw [getElem!_pos _ t (by omega)]; rfl
  ·rename_i ht
   rw [List.getElem?_eq_none (by rw [flatF_len]; omega)]
end Go.Fbs
