import Derived.Test.YthakklikgmcgdaaGreatDoorWE
set_option linter.unusedSimpArgs false
set_option linter.unusedVariables false
set_option linter.unusedSectionVars false
set_option maxRecDepth 100000
namespace Go.Fbs
open Go.Proofs Go.RowKit
theorem linv_low {w0 W : World} {lv : Value} {b i : Nat} (h1 : i < (nctx ctx0 w0.heap.size W.heap fun b=>decide (b < w0.heap.size + 3) || lv.ownBlock == some b).hw b) : w0.heap.size ≤ b ∧ (decide (b < w0.heap.size + 3) || lv.ownBlock == some b) = false:=by
 have hb0 : w0.heap.size ≤ b:=by
  rcases Nat.lt_or_ge b w0.heap.size with h | h
  ·rw [nctx_old h] at h1; exact absurd h1 (Nat.not_lt_zero _)
  ·exact h
 refine ⟨hb0,?_⟩
 cases hq : (decide (b < w0.heap.size + 3) || lv.ownBlock == some b) with
 | false=>rfl
 | true=>rw [nctx_G hb0 hq] at h1; exact absurd h1 (Nat.not_lt_zero _)
theorem linv_only {w0 U W W' : World} {B Bo Bp : Nat} {k : Int} {acc : List V} (hB : B < w0.heap.size) (hBo : w0.heap.size ≤ Bo) (hBp : w0.heap.size ≤ Bp) (hpl : plains (flat acc) = true) (o : Only' W W' B) (h : LInv w0 U B Bo Bp k W acc) : LInv w0 U B Bo Bp k W' acc:=by
 obtain ⟨hfr,⟨kv,lv,xs,E,hkv,hbo,hown,hrep⟩,⟨E2,hbp⟩,hlW,hkp,htb⟩:=h
 have lo:=(Array.getElem?_eq_some_iff.1 hbo).1
 have lp:=(Array.getElem?_eq_some_iff.1 hbp).1
 have s:=hfr.size
 refine ⟨hfr.trans o,⟨kv,lv,xs,E,hkv,(o.same Bo lo (by omega)).trans hbo,own_only hown o (by omega),?_⟩,⟨E2,(o.same Bp lp (by omega)).trans hbp⟩,Nat.le_trans hlW o.size,fun b h1 h2 h3=>(o.same b (by omega) h3).trans (hkp b h1 h2 h3),htb⟩
 refine reps_hw (κ:=nctx ctx0 w0.heap.size W.heap fun b=>decide (b < w0.heap.size + 3) || lv.ownBlock == some b) (fun b i y h1 h2=>?_) hrep fun v hv=>plains_iff.1 hpl v hv
 obtain ⟨hb0,hG⟩:=linv_low h1
 have hbW:=hcell_lt h2
 have e1 : W'.heap[b]? = W.heap[b]?:=o.same b hbW (by omega)
 have h3 : hcell W'.heap b i = some y:=by unfold hcell at h2 ⊢; rw [e1]; exact h2
 exact ⟨nctx_new hb0 hG h3,h3⟩
structure ValOk (valM : PSt → Option (V × PSt)) : Prop where
 dom : ∀ p v p',Dom p → valM p = some (v,p') → Dom p' ∧ p'.d = p.d ∧ p'.s = p.s
 shape : ∀ p v p',Dom p → valM p = some (v,p') → ∃ k t ks ls,v = jn k t ks ls ∧ (jn k t ks ls).cano = true
 call : ∀ p v p',Dom p → valM p = some (v,p') → ValC p p' v
def oneL (valM : PSt → Option (V × PSt)) (acc : List V) (p : PSt) : Option (List V × PSt) :=
 if acc.length ≤ 100000000 then (valM p).map fun r=>(acc ++ [r.1],r.2) else none
theorem oneL_some {valM : PSt → Option (V × PSt)} {acc acc' : List V} {p p' : PSt} (h : oneL valM acc p = some (acc',p')) : acc.length ≤ 100000000 ∧ ∃ v,valM p = some (v,p') ∧ acc' = acc ++ [v]:=by
 unfold oneL at h
 split at h
 ·rename_i hl
  cases hv : valM p with
  | none=>rw [hv] at h; cases h
  | some r =>
   rw [hv] at h
   simp only [Option.map_some,Option.some.injEq,Prod.mk.injEq] at h
   obtain ⟨rfl,rfl⟩:=h
   exact ⟨hl,r.1,rfl,rfl⟩
 ·cases h
theorem plains_snoc {acc : List V} {k : Int} {t : List UInt8} {ks ls : List V} (h : plains (flat acc) = true) (h2 : plains [.int .i64 k,.str t,.sl .ro ks,.sl .ro ls] = true) : plains (flat (acc ++ [jn k t ks ls])) = true:=by
 rw [flat_snoc]
 refine plains_iff.2 fun v hv=>?_
 rcases List.mem_append.1 hv with h' | h'
 ·exact plains_iff.1 h v h'
 ·exact plains_iff.1 h2 v h'
theorem list_oneOk {valM : PSt → Option (V × PSt)} (hv : ValOk valM) {w0 U : World} {B Bo Bp : Nat} (hB : B < w0.heap.size) (hBo : w0.heap.size ≤ Bo ∧ Bo < w0.heap.size + 3) (hBp : w0.heap.size ≤ Bp ∧ Bp < w0.heap.size + 3) (hne : Bo ≠ Bp) :
  OneOk (oneL valM) 56 #[.pointer (some ⟨Bo,0,none⟩),.pointer (some ⟨Bp,0,none⟩)] B fun W acc=>LInv w0 U B Bo Bp 6 W acc ∧ plains (flat acc) = true ∧ ∀ e ∈ acc,∃ k t ks ls,e = jn k t ks ls where
 dom:=fun acc p acc' p' hd h=>by
  obtain ⟨_,v,h1,_⟩:=oneL_some h
  exact (hv.dom p v p' hd h1).1
 keep:=fun acc p acc' p' hd h=>by
  obtain ⟨_,v,h1,_⟩:=oneL_some h
  exact (hv.dom p v p' hd h1).2
 inv:=fun W W' acc o h=>⟨linv_only hB hBo.1 hBp.1 h.2.1 o h.1,h.2⟩
 call:=fun W acc p acc' p' hd h hw hi=>by
  obtain ⟨hl,v,h1,rfl⟩:=oneL_some h
  obtain ⟨k,t,ks,ls,rfl,hp⟩:=hv.shape p v p' hd h1
  replace hp : plains [.int .i64 k,.str t,.sl .ro ks,.sl .ro ls] = true:=(cano_plain hp).1
  refine (one_list hB hBo hBp hne (hv.call p _ p' hd h1) hl hi.2.1 hp hw hi.1).mono ?_
  rintro _ X ⟨rfl,h2,h3⟩
  exact ⟨rfl,h2,h3,plains_snoc hi.2.1 hp,fun e h=>by rcases List.mem_append.1 h with h' | h'; exact hi.2.2 e h'; exact ⟨k,t,ks,ls,List.mem_singleton.1 h'⟩⟩
end Go.Fbs
