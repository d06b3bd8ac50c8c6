import Derived.Test.YthakklikgmcgdaaGreatDoorWE
set_option linter.unusedSimpArgs false
set_option linter.unusedVariables false
set_option linter.unusedSectionVars false
set_option maxRecDepth 100000
namespace Go.Fbs
open Go.Proofs Go.RowKit
theorem aV2 {w0 W:World} {lv:Value} {b i:Nat} (h1:i < (rX tK w0.heap.size W.heap fun b=>decide (b < w0.heap.size+3) || lv.ownBlock == some b).hw b):w0.heap.size≤b∧(decide (b < w0.heap.size+3) || lv.ownBlock == some b)=false:=by
 have hb0:w0.heap.size≤b:=by
  rcases Nat.lt_or_ge b w0.heap.size with h | h
  ·rw [uK h] at h1; exact absurd h1 (Nat.not_lt_zero _)
  ·exact h
 refine ⟨hb0,?_⟩
 cases hq:(decide (b < w0.heap.size+3) || lv.ownBlock == some b) with
 | false=>rfl
 | true=>rw [aAw hb0 hq] at h1; exact absurd h1 (Nat.not_lt_zero _)
theorem aSw {w0 U W W':World} {B Bo Bp:Nat} {k:Int} {acc:List V} (hB:B < w0.heap.size) (hBo:w0.heap.size≤Bo) (hBp:w0.heap.size≤Bp) (hpl:bT (flat acc)=true) (o:fN W W' B) (h:aAy w0 U B Bo Bp k W acc):aAy w0 U B Bo Bp k W' acc:=by
 obtain ⟨hfr,⟨kv,lv,xs,E,hkv,hbo,hown,hrep⟩,⟨E2,hbp⟩,hlW,hkp,htb⟩:=h
 have lo:=(Array.getElem?_eq_some_iff.1 hbo).1
 have lp:=(Array.getElem?_eq_some_iff.1 hbp).1
 have s:=hfr.size
 refine ⟨hfr.trans o,⟨kv,lv,xs,E,hkv,(o.same Bo lo (by omega)).trans hbo,aLc hown o (by omega),?_⟩,⟨E2,(o.same Bp lp (by omega)).trans hbp⟩,Nat.le_trans hlW o.size,fun b h1 h2 h3=>(o.same b (by omega) h3).trans (hkp b h1 h2 h3),htb⟩
 refine qM (κ:=rX tK w0.heap.size W.heap fun b=>decide (b < w0.heap.size+3) || lv.ownBlock == some b) (fun b i y h1 h2=>?_) hrep fun v hv=>bS.1 hpl v hv
 obtain ⟨hb0,hG⟩:=aV2 h1
 have hbW:=gW h2
 have e1 : W'.heap[b]? = W.heap[b]?:=o.same b hbW (by omega)
 have h3:aW W'.heap b i=some y:=by unfold aW at h2 ⊢; rw [e1]; exact h2
 exact ⟨mL hb0 hG h3,h3⟩
structure p9 (aT:aE→Option (V×aE)):Prop where
 aO:∀ p v p',aZ p→aT p=some (v,p')→aZ p'∧p'.d=p.d∧p'.s=p.s
 shape:∀ p v p',aZ p→aT p=some (v,p')→∃ k t ks ls,v=jn k t ks ls∧(jn k t ks ls).bR=true
 call:∀ p v p',aZ p→aT p=some (v,p')→aVz p p' v
def yS (aT:aE→Option (V×aE)) (acc:List V) (p:aE):Option (List V×aE) :=
 if acc.length≤100000000 then (aT p).map fun r=>(acc++[r.1],r.2) else none
theorem a4y {aT:aE→Option (V×aE)} {acc acc':List V} {p p':aE} (h:yS aT acc p=some (acc',p')):acc.length≤100000000∧∃ v,aT p=some (v,p')∧acc'=acc++[v]:=by
 unfold yS at h
 split at h
 ·rename_i hl
  cases hv:aT p with
  | none=>rw [hv] at h; cases h
  | some r =>
   rw [hv] at h
   simp only [Option.map_some,Option.some.injEq,Prod.mk.injEq] at h
   obtain ⟨rfl,rfl⟩:=h
   exact ⟨hl,r.1,rfl,rfl⟩
 ·cases h
theorem aNa {acc:List V} {k:Int} {t:List UInt8} {ks ls:List V} (h:bT (flat acc)=true) (h2:bT [.int .i64 k,.str t,.sl .ro ks,.sl .ro ls]=true):bT (flat (acc++[jn k t ks ls]))=true:=by
 rw [aAz]
 refine bS.2 fun v hv=>?_
 rcases List.mem_append.1 hv with h' | h'
 ·exact bS.1 h v h'
 ·exact bS.1 h2 v h'
theorem aQm {aT:aE→Option (V×aE)} (hv:p9 aT) {w0 U:World} {B Bo Bp:Nat} (hB:B < w0.heap.size) (hBo:w0.heap.size≤Bo∧Bo < w0.heap.size+3) (hBp:w0.heap.size≤Bp∧Bp < w0.heap.size+3) (hne:Bo≠Bp) :
  aFb (yS aT) 56 #[.pointer (some ⟨Bo,0,none⟩),.pointer (some ⟨Bp,0,none⟩)] B fun W acc=>aAy w0 U B Bo Bp 6 W acc∧bT (flat acc)=true∧∀ e ∈ acc,∃ k t ks ls,e=jn k t ks ls where
 aO:=fun acc p acc' p' hd h=>by
  obtain ⟨_,v,h1,_⟩:=a4y h
  exact (hv.aO p v p' hd h1).1
 cA:=fun acc p acc' p' hd h=>by
  obtain ⟨_,v,h1,_⟩:=a4y h
  exact (hv.aO p v p' hd h1).2
 inv:=fun W W' acc o h=>⟨aSw hB hBo.1 hBp.1 h.2.1 o h.1,h.2⟩
 call:=fun W acc p acc' p' hd h hw hi=>by
  obtain ⟨hl,v,h1,rfl⟩:=a4y h
  obtain ⟨k,t,ks,ls,rfl,hp⟩:=hv.shape p v p' hd h1
  replace hp:bT [.int .i64 k,.str t,.sl .ro ks,.sl .ro ls]=true:=(iN hp).1
  refine (aV1 hB hBo hBp hne (hv.call p _ p' hd h1) hl hi.2.1 hp hw hi.1).mono ?_
  rintro _ X ⟨rfl,h2,h3⟩
  exact ⟨rfl,h2,h3,aNa hi.2.1 hp,fun e h=>by rcases List.mem_append.1 h with h' | h'; exact hi.2.2 e h'; exact ⟨k,t,ks,ls,List.mem_singleton.1 h'⟩⟩
end Go.Fbs
