import Derived.Test.YtpnflpbamlbpeaaGreatDoorVMB
import Derived.Test.YtpnflpbamlbpeaaGreatDoorVShelf
import Derived.Test.YtpnflpbamlbpeaaGreatDoorR3
set_option linter.unusedSimpArgs false
set_option linter.unusedVariables false
set_option linter.unusedSectionVars false
set_option maxRecDepth 100000
namespace Go.Fbs
open Go.Proofs Go.RowKit Go.Shelf Go.Sort
def flatE (l : List Ent) : List Value:=l.flatMap encE
theorem flatE_cons (x : Ent) (l : List Ent) : flatE (x :: l) = encE x ++ flatE l:=by simp [flatE]
theorem flatE_app (a b : List Ent) : flatE (a ++ b) = flatE a ++ flatE b:=by simp [flatE]
theorem flatE_len : ∀ l : List Ent,(flatE l).length = l.length * 4
 | []=>rfl
 | x :: l=>by
  rw [flatE_cons,List.length_append,flatE_len l,List.length_cons]
  show 4 + _ = _
  omega
theorem flatE_at : ∀ {l : List Ent} {i c : Nat} {x : Ent} {v : Value},l[i]? = some x → (encE x)[c]? = some v → (flatE l)[i * 4 + c]? = some v
 | y :: l,0,c,x,v,h,hv=>by
  cases h
  have hc : c < (encE y).length:=(List.getElem?_eq_some_iff.1 hv).1
  rw [flatE_cons,Nat.zero_mul,Nat.zero_add,List.getElem?_append_left hc]; exact hv
 | y :: l,i + 1,c,x,v,h,hv=>by
  have:=flatE_at (l:=l) (i:=i) (by simpa using h) hv
  rw [flatE_cons,List.getElem?_append_right (by show 4 ≤ _; omega),← this]
  congr 1
  show (i + 1) * 4 + c - 4 = _
  omega
theorem encE_at (x : Ent) {c : Nat} (h : c < 4) : (encE x)[c]? = some (encE x)[c]!:=by
 match c,h with
 | 0,_=>rfl
 | 1,_=>rfl
 | 2,_=>rfl
 | 3,_=>rfl
theorem flatK_E (l : List Ent) : (flatK encE 4 l.toArray).toList = flatE l:=by
 apply List.ext_getElem?
 intro t
 by_cases ht : t < l.length * 4
 ·have h1 : t < (flatK encE 4 l.toArray).size:=by rw [size_flatK]; exact ht
  have h2:=get_flatK encE 4 l.toArray t (by exact ht)
  have hi : t / 4 < l.length:=by omega
  have h3 : l[t / 4]? = some l[t / 4]:=List.getElem?_eq_getElem hi
  have h4 : l.toArray[t / 4]! = l[t / 4]:=by simp [hi]
  have h5:=flatE_at h3 (encE_at l[t / 4] (Nat.mod_lt t (by decide : 0 < 4)))
  rw [show t / 4 * 4 + t % 4 = t by omega] at h5
  rw [h5,Array.getElem?_toList,Array.getElem?_eq_getElem h1]
  rw [getElem!_pos _ t h1,h4] at h2
  rw [h2]
 ·rw [List.getElem?_eq_none (by rw [Array.length_toList,size_flatK]; show l.length * 4 ≤ _; omega),List.getElem?_eq_none (by rw [flatE_len]; omega)]
theorem encE_one (x : Ent) : ∀ v ∈ encE x,v.oneCell' = true:=by
 intro v hv
 simp only [encE,List.mem_cons,List.not_mem_nil,or_false] at hv
 rcases hv with rfl | rfl | rfl | rfl <;> rfl
theorem hold_of {w : World} {g : Nat} {cur : Array Value} {E n : Nat} {l : List Ent} (h : w.heap[g]? = some (.cells cur E (0,0))) (hn : l.length = n) (ht : cur.toList.take (n * 4) = flatE l) : HoldsK encE 4 w g 0 l.toArray:=by
 intro j hj
 have hj' : j < l.length * 4:=by rw [size_flatK] at hj; exact hj
 have e : (flatK encE 4 l.toArray)[j]? = cur[j]?:=by
  rw [← Array.getElem?_toList,flatK_E,← ht,List.getElem?_take,if_pos (by omega),Array.getElem?_toList]
 rw [Array.getElem?_eq_getElem hj] at e
 rw [Nat.zero_add,getElem!_pos _ j hj]
 refine ⟨?_,Lib.frozen_of_heap h j⟩
 unfold World.cell?
 rw [h]
 simp [← e]
theorem sorted_world {w : World} {g E n cap N : Nat} {cur : Array Value} {os : Array Obj} {d : List Ent} {base : Nat} (h : w.heap[g]? = some (.cells cur E (0,0))) (hd : d.length = n) (hsz : cur.size = cap * 4) (hn : n ≤ cap) (hb : base ≤ g) :
  Bel base w (sortWorldK encE 4 w g 0 N d.toArray os) ∧ ∃ cur',(sortWorldK encE 4 w g 0 N d.toArray os).heap[g]? = some (.cells cur' E (0,0)) ∧ cur'.size = cap * 4 ∧ cur'.toList.take (n * 4) = flatE d:=by
 have hg : g < w.heap.size:=(Array.getElem?_eq_some_iff.1 h).1
 have hheap : (sortWorldK encE 4 w g 0 N d.toArray os).heap = (w.heap.modify g (Go.Sort.onCells (Go.Sort.putCells id 0 (flatK encE 4 d.toArray)))) ++ os:=rfl
 have hsize : (w.heap.modify g (Go.Sort.onCells (Go.Sort.putCells id 0 (flatK encE 4 d.toArray)))).size = w.heap.size:=by simp
 refine ⟨⟨rfl,rfl,by rw [hheap,Array.size_append,hsize]; omega,fun k hk=>?_⟩,Go.Sort.putCells id 0 (flatK encE 4 d.toArray) cur,?_,?_,?_⟩
 ·rw [hheap,Array.getElem?_append_left (by rw [hsize]; omega),Array.getElem?_modify,if_neg (by omega)]
 ·rw [hheap,Array.getElem?_append_left (by rw [hsize]; omega),Array.getElem?_modify,if_pos rfl,h]; rfl
 ·simp [Go.Sort.putCells,hsz]
 ·apply List.ext_getElem?
  intro t
  rw [List.getElem?_take]
  have hfs : (flatK encE 4 d.toArray).size = n * 4:=by rw [size_flatK]; show d.length * 4 = _; rw [hd]
  split
  ·rename_i ht
   rw [Array.getElem?_toList]
   simp only [Go.Sort.putCells,Array.getElem?_mapIdx]
   have hc : t < cur.size:=by rw [hsz]; omega
   rw [Array.getElem?_eq_getElem hc,Option.map_some,if_pos (by omega),Nat.sub_zero,← flatK_E,Array.getElem?_toList,Array.getElem?_eq_getElem (by omega)]
   rw [getElem!_pos _ t (by omega)]; rfl
  ·rename_i ht
   rw [List.getElem?_eq_none (by rw [flatE_len]; omega)]
theorem eg19 : ∀ args w,(callFunc 19 args).run Tryz.prog w = .ok (.enter 19 args) w:=enters_of Tryz.func19 (by kernel_rfl) rfl
theorem perm_list {l : List Ent} {d' : Array Ent} (h : PermIn 0 l.toArray.size l.toArray d') : d'.toList.Perm l:=by
 obtain ⟨h1,_,h3⟩:=h
 have e1 : d'.extract 0 l.toArray.size = d':=by rw [← h1]; simp
 have e2 : l.toArray.extract 0 l.toArray.size = l.toArray:=by simp
 rw [e1,e2] at h3
 exact h3
theorem sorted_list {l : List Ent} {d' : Array Ent} (hs : d'.size = l.toArray.size) (h : SortedIn (ltOf cmpE) 0 l.toArray.size d') : d'.toList.Pairwise leE:=by
 rw [List.pairwise_iff_getElem]
 intro i j hi hj hij
 have hj' : j < d'.size:=by simpa using hj
 have:=h i j (Nat.zero_le _) hij (by omega)
 unfold ltOf at this
 rw [decide_eq_false_iff_not] at this
 rw [getElem!_pos _ i (by omega),getElem!_pos _ j hj'] at this
 exact this
set_option maxHeartbeats 1000000 in
theorem sort_calls {l : List Ent} {base : Nat} {v : Value} {w : World} (hl : l.length ≤ 1000) (h : w.ownsRow base 28 4 v l.length (flatE l)) (hne : l ≠ []) :
  Calls Tryz.prog 18 #[v,.func (.func 19) #[] #[]] w fun e w'=>e = .returned (.tuple #[]) ∧ ∃ d : List Ent,d.Perm l ∧ d.Pairwise leE ∧ Bel base w w' ∧ w'.ownsRow base 28 4 v d.length (flatE d):=by
 obtain ⟨_,h⟩:=h
 rcases h with ⟨_,h0⟩ | ⟨g,cap,cur,rfl,hb,hg,hn,hcap,hsz,ht⟩
 ·exact absurd (List.length_eq_zero_iff.1 h0) hne
 ·have hcon:=AnyQ.slices_SortFunc Tryz.sortEnt 4 Tryz.isAgg28 Tryz.sizeOf28 encE (fun _=>rfl) encE_one cmpE cmpE_ok.swo 19 #[] g 0 cap l.toArray w eg19 (fun _ _ _ _ x y=>compare_calls x y _) (hold_of hg rfl ht) (Array.getElem?_eq_some_iff.1 hg).1 (by show l.length < _; omega)
  change Calls Tryz.prog 18 _ _ _ at hcon
  refine hcon.mono ?_
  rintro e w' ⟨rfl,d',N,os,hp,hs,rfl⟩
  have hp':=perm_list hp
  have hlen : d'.toList.length = l.length:=hp'.length_eq
  obtain ⟨b1,cur',c1,c2,c3⟩:=sorted_world (N:=N) (os:=os) (d:=d'.toList) hg hlen hsz hn hb
  refine ⟨rfl,d'.toList,hp',sorted_list hp.1 hs,b1,by rw [flatE_len],.inr ⟨g,cap,cur',by rw [hlen],hb,c1,by omega,hcap,c2,by rw [hlen]; exact c3⟩⟩
end Go.Fbs
