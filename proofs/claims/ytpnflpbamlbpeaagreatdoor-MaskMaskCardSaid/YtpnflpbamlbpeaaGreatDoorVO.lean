import Derived.Test.YtpnflpbamlbpeaaGreatDoorVN
set_option linter.unusedSimpArgs false
set_option linter.unusedVariables false
set_option linter.unusedSectionVars false
set_option maxRecDepth 100000
namespace Go.Fbs
open Go.Proofs Go.RowKit Go.Shelf Go.Sort
theorem own_sam {W W' : World} {base n : Nat} {v : Value} {xs : List Value} (h : W.ownsRow base 28 4 v n xs) (hs : ∀ b,b < W.heap.size → W'.heap[b]? = W.heap[b]?) : W'.ownsRow base 28 4 v n xs:=by
 obtain ⟨h1,h2⟩:=h
 refine ⟨h1,?_⟩
 rcases h2 with h2 | ⟨g,cap,cur,rfl,hb,hg,r⟩
 ·exact .inl h2
 ·exact .inr ⟨g,cap,cur,rfl,hb,(hs g (Array.getElem?_eq_some_iff.1 hg).1).trans hg,r⟩
theorem cellsE_rep {κ : Ctx} {h : Heap} (x : Ent) : Reps κ h [vI x.kind,.bool x.dflt,.str x.name,vI x.bits] (encE x):=Reps.cons (.int _ _) (Reps.cons (.bool _) (Reps.cons (.str _) (Reps.cons (.int _ _) Reps.nil)))
theorem entW_rep {κ : Ctx} {h : Heap} (x : Ent) : Rep κ h (entW x) (.agg (encE x).toArray):=.agg _ (encE x) rfl (encE_one x) (cellsE_rep x).2
theorem flat_reps {κ : Ctx} {h : Heap} : ∀ l : List Ent,Reps κ h (flat (l.map entW)) (flatE l)
 | []=>Reps.nil
 | x :: l=>Reps.cons (c:=vI x.kind) (.int _ _) (Reps.cons (c:=.bool x.dflt) (.bool _) (Reps.cons (c:=.str x.name) (.str _) (Reps.cons (c:=vI x.bits) (.int _ _) (flat_reps l))))
theorem flatE_one (l : List Ent) : ∀ v ∈ flatE l,v.oneCell' = true:=by
 intro v hv
 obtain ⟨x,_,hv⟩:=List.mem_flatMap.1 hv
 exact encE_one x v hv
theorem own_rep {κ : Ctx} {w : World} {base : Nat} {v : Value} {l : List Ent} (h : w.ownsRow base 28 4 v l.length (flatE l)) (hw : ∀ g arr,base ≤ g → w.heap[g]? = some (.cells arr 28 (0,0)) → arr.size ≤ κ.hw g) : Rep κ w.heap (entsV l) v:=by
 obtain ⟨_,⟨rfl,h0⟩ | ⟨g,cap,cur,rfl,hb,hg,hn,_,hsz,ht⟩⟩:=h
 ·obtain rfl : l = []:=List.length_eq_zero_iff.1 h0
  exact .slnil .ro (fun i h=>by cases h)
 ·have e : l.length = (l.map entW).length:=by simp
  unfold entsV
  rw [e]
  refine .sl .ro (l.map entW) g 0 cap 4 (flatE l) (fun i x hx=>?_) (fun e he=>?_) (flat_reps (κ:=κ) (h:=w.heap) l).1 (flat_reps l).2 (by rw [← e]; exact hn) trivial
  ·have hc : cur[i]? = some x:=by
    rw [← ht,List.getElem?_take] at hx
    split at hx
    ·rw [← Array.getElem?_toList]; exact hx
    ·cases hx
   rw [Nat.zero_add]
   refine ⟨Nat.lt_of_lt_of_le (Array.getElem?_eq_some_iff.1 hc).1 (hw g cur hb hg),?_,flatE_one l x (List.mem_of_getElem? hx)⟩
   unfold hcell; rw [hg]; exact hc
  ·obtain ⟨x,_,rfl⟩:=List.mem_map.1 he
   rfl
theorem own_sealed {w : World} {base : Nat} {v : Value} {l : List Ent} (h : w.ownsRow base 28 4 v l.length (flatE l)) : Rep (sealedCtx w.heap) w.heap (entsV l) v :=
 own_rep h fun g arr _ hg=>by
  show arr.size ≤ match w.heap[g]? with | some (.cells c _ _)=>c.size | _=>0
  rw [hg]; exact Nat.le_refl _
theorem own_new {κ : Ctx} {w W : World} {v : Value} {l : List Ent} (h : W.ownsRow w.heap.size 28 4 v l.length (flatE l)) : Rep (newHw κ w.heap.size W.heap) W.heap (entsV l) v :=
 own_rep h fun g arr hb hg=>Nat.le_of_eq (newHw_new hb hg).symm
theorem good_calls (x : Ent) (hx : x.name.length ≤ 1000) (w : World) : Calls Tryz.prog 20 #[.agg (encE x).toArray] w fun e w'=>e = .returned (.bool (goodE x)) ∧ Sam w w':=by
 refine ((ok_mask_good.call _ _ (Fgood (by unfold bigT; omega))).1 empty (sealedCtx w.heap) w _ (sealed_mem _) (Reps.cons (entW_rep x) Reps.nil)).mono ?_
 rintro e w' ⟨y,κ',he,hx,hv⟩
 exact ⟨by rw [he,rep_bool hv],sam_of hx fun b=>sealed_owned⟩
theorem whole_calls {l : List Ent} {base : Nat} {v : Value} {w : World} (d : Bool) (hl : l.length ≤ 1000) (h : w.ownsRow base 28 4 v l.length (flatE l)) : Calls Tryz.prog 21 #[v,.bool d] w fun e w'=>e = .returned (.bool (wholeM l d)) ∧ Sam w w':=by
 refine ((ok_mask_whole.call _ _ (Fwhole (d:=d) (by unfold bigT; omega))).1 empty (sealedCtx w.heap) w _ (sealed_mem _) (Reps.cons (own_sealed h) (Reps.cons (.bool d) Reps.nil))).mono ?_
 rintro e w' ⟨y,κ',he,hx,hv⟩
 exact ⟨by rw [he,rep_bool hv],sam_of hx fun b=>sealed_owned⟩
theorem find_calls {l : List Ent} {base : Nat} {v : Value} {w : World} (d : Bool) (hl : l.length ≤ 1000) (h : w.ownsRow base 28 4 v l.length (flatE l)) : Calls Tryz.prog 47 #[v,.bool d,.int .i64 5,.string ⟨⟨[]⟩⟩] w fun e w'=>(∃ x : Ent,e = .returned (.tuple #[.agg (encE x).toArray,.bool (hasE l d 5)])) ∧ Sam w w':=by
 refine ((ok_mask_Find.call _ _ (Ffind (d:=d) (k:=5) (nm:=[]) (by unfold bigT; omega))).1 empty (sealedCtx w.heap) w _ (sealed_mem _) (Reps.cons (own_sealed h) (Reps.cons (.bool d) (Reps.cons (.int _ _) (Reps.cons (.str _) Reps.nil))))).mono ?_
 rintro e w' ⟨y,κ',he,hx,hv⟩
 refine ⟨?_,sam_of hx fun b=>sealed_owned⟩
 obtain ⟨x,ex⟩:=find_tup (findE l d 5 [])
 rw [ex,find_has] at hv
 obtain ⟨ys,r,rfl⟩:=rep_tup hv
 obtain ⟨y1,ys,rfl,r1,r2⟩:=r.inv_cons
 obtain ⟨y2,ys,rfl,r3,r4⟩:=r2.inv_cons
 obtain rfl:=r4.inv_nil
 obtain rfl:=rep_bool r3
 refine ⟨x,?_⟩
 rw [he]
 obtain ⟨zs,s,_,rfl⟩:=rep_agg r1
 obtain ⟨z1,zs,rfl,s1,s⟩:=s.inv_cons
 obtain ⟨z2,zs,rfl,s2,s⟩:=s.inv_cons
 obtain ⟨z3,zs,rfl,s3,s⟩:=s.inv_cons
 obtain ⟨z4,zs,rfl,s4,s⟩:=s.inv_cons
 obtain rfl:=s.inv_nil
 obtain rfl:=rep_int s1
 obtain rfl:=rep_bool s2
 obtain rfl:=rep_str s3
 obtain rfl:=rep_int s4
 rfl
end Go.Fbs
