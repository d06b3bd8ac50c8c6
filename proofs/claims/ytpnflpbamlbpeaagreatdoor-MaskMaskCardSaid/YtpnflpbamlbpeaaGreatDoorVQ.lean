import Derived.Test.YtpnflpbamlbpeaaGreatDoorVP
import Derived.Shelf.SlSortCmp.NoneTotal
set_option linter.unusedSimpArgs false
set_option linter.unusedVariables false
set_option linter.unusedSectionVars false
set_option maxRecDepth 100000
namespace Go.Fbs
open Go.Proofs Go.RowKit Go.Shelf Go.Sort
theorem sort_all {l : List Ent} {base : Nat} {v : Value} {w : World} (hl : l.length ≤ 1000) (h : w.ownsRow base 28 4 v l.length (flatE l)) :
  Calls Tryz.prog 18 #[v,.func (.func 19) #[] #[]] w fun e w'=>e = .returned (.tuple #[]) ∧ ∃ d : List Ent,d.Perm l ∧ d.Pairwise leE ∧ Bel base w w' ∧ w'.ownsRow base 28 4 v d.length (flatE d):=by
 cases l with
 | nil =>
  obtain ⟨ad,cp,rfl⟩:=own_form h
  have hcon:=AnyF.slices_SortFunc_none Tryz.sortEnt ad cp (.func (.func 19) #[] #[]) w
  change Calls Tryz.prog 18 _ _ _ at hcon
  refine hcon.mono ?_
  rintro e w' ⟨rfl,rfl⟩
  exact ⟨rfl,[],.refl _,.nil,Bel.refl _ _,h⟩
 | cons x r=>exact sort_calls hl h (by simp)
theorem flat_uniq {κ : Ctx} {h : Heap} : ∀ {l : List Ent} {xs : List Value},Reps κ h (flat (l.map entW)) xs → xs = flatE l
 | [],xs,r=>r.inv_nil
 | x :: l,xs,r=>by
  have r : Reps κ h (vI x.kind :: .bool x.dflt :: .str x.name :: vI x.bits :: flat (l.map entW)) xs:=r
  obtain ⟨z1,y1,e1,s1,r1⟩:=r.inv_cons
  obtain ⟨z2,y2,e2,s2,r2⟩:=r1.inv_cons
  obtain ⟨z3,y3,e3,s3,r3⟩:=r2.inv_cons
  obtain ⟨z4,y4,e4,s4,r4⟩:=r3.inv_cons
  have ih:=flat_uniq (l:=l) r4
  rw [e1,e2,e3,e4,ih,rep_int s1,rep_bool s2,rep_str s3,rep_int s4]
  rfl
theorem clone_calls {κ : Ctx} {l : List Ent} {v : Value} {w : World} (hl : l.length ≤ 1000) (r : Rep κ w.heap (entsV l) v) : Calls Tryz.prog 17 #[v] w fun e w'=>∃ v',e = .returned v' ∧ w'.ownsRow w.heap.size 28 4 v' l.length (flatE l) ∧ Bel w.heap.size w w':=by
 have hlen : (l.map entW).length = l.length:=List.length_map ..
 obtain ⟨i0,hi,hz0,hz1,hz2⟩:=info_parts Tryz.info28
 rcases rep_sl r with ⟨he,hx,_⟩ | ⟨b,off,cap,sz,vs,hb,hu,hr,hcap,_,hx⟩
 ·obtain rfl : l = []:=by simpa using he
  subst hx
  have hcon:=AnyE.slices_Clone_nil Tryz.cloneEnt 0 0 w
  change Calls Tryz.prog 17 _ _ _ at hcon
  refine hcon.mono ?_
  rintro e w' ⟨rfl,rfl⟩
  exact ⟨_,rfl,World.ownsRow_nil _ _ _ _,Bel.refl _ _⟩
 ·subst hx
  obtain rfl:=flat_uniq hr
  rw [hlen]
  have hcon:=AnyE.slices_Clone Tryz.cloneEnt i0 _ 4 40 hi hz0 hz1 hz2 rfl (by decide) Tryz.sizeOf28 b off l.length cap (flatE l) w (flatE_len l) (by unfold maxLen; omega) (by omega) (fun j u hj=>(hb j u hj).2.1) (flatE_one l)
  change Calls Tryz.prog 17 _ _ _ at hcon
  refine hcon.mono ?_
  rintro e w' ⟨v',rfl,ho,_,hbl⟩
  exact ⟨v',rfl,ho,Bel.of hbl⟩
end Go.Fbs
