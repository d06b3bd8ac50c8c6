import Derived.Test.YtpnflpbamlbpeaaGreatDoorVJ
set_option linter.unusedSimpArgs false
set_option linter.unusedVariables false
set_option linter.unusedSectionVars false
set_option maxRecDepth 100000
namespace Go.Fbs
open Go.Proofs
abbrev Key:=Bool × Int × List UInt8
def keyE (e : Ent) : Key:=(e.dflt,e.kind,e.name)
def hasQ (l : List Key) (d : Bool) (k : Int) : Bool:=l.any fun x=>x.1 == d && decide (x.2.1 = k) && x.2.2 == []
theorem has_key (l : List Ent) (d : Bool) (k : Int) : hasE l d k = hasQ (l.map keyE) d k:=by unfold hasE hasQ; rw [List.any_map]; rfl
def keysA (b9 b21 b26 b31 b41 b48 : Bool) (x y : List UInt8) : List Key :=
 let s1 : List Key:=[(false,1,[]),(false,3,[]),(false,6,[])] ++ (if b9 then [(false,2,x)] else [])
 let s2 : List Key:=(if b21 then [(false,4,y)] else []) ++ s1
 let s3 : List Key:=s2 ++ (if b26 then [(false,5,[])] else [])
 if b31 then s3 ++ [(true,1,[]),(true,3,[]),(true,6,[])] ++ (if b41 then [(true,2,[118]),(true,4,[104])] else []) ++ (if b48 then [(true,5,[])] else []) else s3
def rightK (l : List Key) : Bool:=decide l.Nodup && hasQ l false 1 && hasQ l false 3 && hasQ l false 6 && (!(l.any (·.1)) || hasQ l true 1 && hasQ l true 3 && hasQ l true 6) && decide (l.length ≤ 12) && l.all fun q=>comboT.contains (q.2.1,q.1,q.2.2)
theorem keys_all : ∀ x ∈ uvwT,∀ y ∈ ghT,∀ b9 b21 b26 b31 b41 b48 : Bool,rightK (keysA b9 b21 b26 b31 b41 b48 x y) = true:=by decide +kernel
theorem acl_keys (n : Int) : (aclE n).map keyE = keysA (b2 n 9) (b2 n 21) (decide (md (sr n 26) 4 = 0)) (b2 n 31) (b2 n 41) (b2 n 48) (nm3 n) (nm2 n):=by
 unfold aclE s5E s4E s3E s2E s1E s0E keysA
 by_cases h26 : md (sr n 26) 4 = 0 <;> cases b2 n 9 <;> cases b2 n 21 <;> cases b2 n 31 <;> cases b2 n 41 <;> cases b2 n 48 <;> simp [h26,keyE]
theorem acl_bits (n : Int) : (aclE n).all (fun e=>octsT.contains e.bits) = true:=by
 have h : ∀ a,octsT.contains (octN a) = true:=fun a=>List.contains_iff_mem.2 (oct_mem a)
 unfold aclE s5E s4E s3E s2E s1E s0E
 by_cases h26 : md (sr n 26) 4 = 0 <;> cases b2 n 9 <;> cases b2 n 21 <;> cases b2 n 31 <;> cases b2 n 41 <;> cases b2 n 48 <;> simp only [h26,if_true,if_false,List.all_append,List.all_cons,List.all_nil,h,Bool.and_true,Bool.true_and,List.append_nil,List.nil_append,Bool.false_eq_true]
theorem acl_right (n : Int) : rightK ((aclE n).map keyE) = true:=by
 rw [acl_keys]
 exact keys_all _ (List.mem_of_getElem? (nm3_at n)) _ (List.mem_of_getElem? (nm2_at n)) _ _ _ _ _ _
theorem dis_keys {l : List Ent} (h : (l.map keyE).Nodup) : Dis l:=by
 unfold List.Nodup at h
 rw [List.pairwise_map] at h
 refine h.imp fun {a b} hab e=>hab ?_
 obtain ⟨h1,h2,h3⟩:=cmpE_0.1 e
 simp [keyE,h1,h2,h3]
theorem acl_tab (n : Int) : (∀ e ∈ aclE n,e ∈ entTab) ∧ (aclE n).length ≤ 12:=by
 have h:=acl_right n
 unfold rightK at h
 simp only [Bool.and_eq_true,decide_eq_true_eq,List.all_eq_true,List.length_map] at h
 refine ⟨fun e he=>?_,h.1.2⟩
 have h1:=h.2 (keyE e) (List.mem_map.2 ⟨e,he,rfl⟩)
 have h2:=List.all_eq_true.1 (acl_bits n) e he
 exact List.mem_flatMap.2 ⟨_,List.contains_iff_mem.1 h1,List.mem_map.2 ⟨_,List.contains_iff_mem.1 h2,rfl⟩⟩
theorem acl_fine (n : Int) : Fine (aclE n):=by
 have h:=acl_right n
 have ht:=acl_tab n
 unfold rightK at h
 simp only [Bool.and_eq_true,decide_eq_true_eq] at h
 refine ⟨?_,dis_keys h.1.1.1.1.1.1,?_,fun hs=>?_,by omega⟩
 ·rw [List.all_eq_true]
  exact fun e he=>(ent_plain (ht.1 e he)).2.2.1
 ·unfold wholeM
  rw [has_key,has_key,has_key,h.1.1.1.1.1.2,h.1.1.1.1.2,h.1.1.1.2]; rfl
 ·have h5:=h.1.1.2
  rw [List.any_map,show ((fun x : Key=>x.1) ∘ keyE) = fun x=>x.dflt from rfl,hs] at h5
  unfold wholeM
  rw [has_key,has_key,has_key]
  simpa using h5
def tabL (n : Int) : TabL:=⟨aclE n,aclE_ne n,by have:=(acl_tab n).2; omega,(acl_tab n).1⟩
end Go.Fbs
