import Derived.Test.YtpdnpfdbjoaemaaGreatDoorR3
import Derived.Test.YtpdnpfdbjoaemaaGreatDoorS3
set_option linter.unusedSimpArgs false
set_option linter.unusedVariables false
set_option linter.unusedSectionVars false
set_option maxRecDepth 100000
namespace Go.Fbs
theorem rep_hw {κ κ' : Ctx} {h h' : Heap} (hb : ∀ b i y,i < κ.hw b → hcell h b i = some y → i < κ'.hw b ∧ hcell h' b i = some y) {v : V} {x : Value} (r : Rep κ h v x) (hp : v.plain = true) : Rep κ' h' v x:=by
 have hb : ∀ {b off : Nat} {xs : List Value},Block κ h b off xs → Block κ' h' b off xs:=fun hx i y hy=>let ⟨h1,h2,h3⟩:=hx i y hy; let ⟨g1,g2⟩:=hb _ _ _ h1 h2; ⟨g1,g2,h3⟩
 induction r with
 | bool b=>exact .bool b
 | int k n=>exact .int k n
 | str s=>exact .str s
 | ptr l off b _=>simp [V.plain] at hp
 | ro cs b off xs hx hl _ ih =>
  simp only [V.plain] at hp
  exact .ro cs b off xs (hb hx) hl (fun i c x h1 h2=>ih i c x h1 h2 (plains_iff.1 hp c (List.mem_of_getElem? h1)))
 | nilp=>exact .nilp
 | slnil g hg =>
  cases g with
  | own i=>simp [V.plain] at hp
  | ro=>exact .slnil _ (by simp)
  | full=>exact .slnil _ (by simp)
 | sl g es b off cap sz xs hx hu hl _ hc ht ih =>
  cases g with
  | own i=>simp [V.plain] at hp
  | ro =>
   simp only [V.plain] at hp
   exact .sl .ro es b off cap sz xs (hb hx) hu hl (fun i c x h1 h2=>ih i c x h1 h2 (plain_flat hp c (List.mem_of_getElem? h1))) hc trivial
  | full =>
   simp only [V.plain] at hp
   exact .sl .full es b off cap sz xs (hb hx) hu hl (fun i c x h1 h2=>ih i c x h1 h2 (plain_flat hp c (List.mem_of_getElem? h1))) hc ht
 | mapnil=>exact .mapnil
 | map l b _=>simp [V.plain] at hp
 | slr l off n c b cap _ _ _=>simp [V.plain] at hp
 | func f caps xs hl _ ih =>
  simp only [V.plain] at hp
  exact .func f caps xs hl (fun i c x h1 h2=>ih i c x h1 h2 (plains_iff.1 hp c (List.mem_of_getElem? h1)))
 | agg cs xs hl ho _ ih =>
  simp only [V.plain] at hp
  exact .agg cs xs hl ho (fun i c x h1 h2=>ih i c x h1 h2 (plains_iff.1 hp c (List.mem_of_getElem? h1)))
 | tup cs xs hl _ ih =>
  simp only [V.plain] at hp
  exact .tup cs xs hl (fun i c x h1 h2=>ih i c x h1 h2 (plains_iff.1 hp c (List.mem_of_getElem? h1)))
 | undef=>exact .undef
 | any x=>exact .any x
def nctx (κ : Ctx) (n : Nat) (h : Heap) (G : Nat → Bool) : Ctx:=⟨fun b=>if b < n then κ.hw b else if G b = true then 0 else match h[b]? with | some (.cells c _ _)=>c.size | _=>0,fun _=>none,[]⟩
theorem hcell_size {h : Heap} {b i : Nat} {y : Value} (e : hcell h b i = some y) : ∃ c E fr,h[b]? = some (.cells c E fr) ∧ i < c.size:=by
 unfold hcell at e
 split at e
 ·rename_i c E fr hh
  exact ⟨c,E,fr,hh,(Array.getElem?_eq_some_iff.1 e).1⟩
 ·cases e
theorem nctx_new {κ : Ctx} {n : Nat} {h : Heap} {G : Nat → Bool} {b i : Nat} {y : Value} (hb : n ≤ b) (hG : G b = false) (e : hcell h b i = some y) : i < (nctx κ n h G).hw b:=by
 obtain ⟨c,E,fr,h1,h2⟩:=hcell_size e
 show i < if b < n then κ.hw b else if G b = true then 0 else match h[b]? with | some (.cells c _ _)=>c.size | _=>0
 rw [if_neg (by omega),hG,h1]
 exact h2
theorem nctx_old {κ : Ctx} {n : Nat} {h : Heap} {G : Nat → Bool} {b : Nat} (hb : b < n) : (nctx κ n h G).hw b = κ.hw b:=if_pos hb
theorem nctx_G {κ : Ctx} {n : Nat} {h : Heap} {G : Nat → Bool} {b : Nat} (hb : n ≤ b) (hG : G b = true) : (nctx κ n h G).hw b = 0:=by
 show (if b < n then κ.hw b else if G b = true then 0 else _) = 0
 rw [if_neg (by omega),if_pos hG]
theorem nctx_mem {κ : Ctx} {n : Nat} {h : Heap} {G : Nat → Bool} (hn : n ≤ h.size) (ht : Tab0 h:=by exact fun p hp=>by simp [tabs] at hp) : Mem (nctx κ n h G) h empty:=by
 refine ⟨⟨?_,?_,?_,?_,?_,?_,?_,?_,?_,?_,?_,ht.tbs ?_⟩,⟨?_,?_⟩,rfl⟩
 ·rintro b ⟨l,hl⟩; cases hl
 ·rintro b ⟨l,hl⟩; cases hl
 ·intro i j b h1; cases h1
 ·intro L hL; cases hL
 ·intro L hL; cases hL
 ·intro i j L L' h1; cases h1
 ·intro L hL; cases hL
 ·intro L hL; cases hL
 ·intro b hb
  show (if b < n then κ.hw b else if G b = true then 0 else match h[b]? with | some (.cells c _ _)=>c.size | _=>0) = 0
  rw [if_neg (by omega),Array.getElem?_eq_none hb]
  split <;> rfl
 ·intro L hL; cases hL
 ·intro L hL; cases hL
 ·rintro b (⟨l,hl⟩ | ⟨L,hL,_⟩)
  ·cases hl
  ·cases hL
 ·intro l b hl; cases hl
 ·intro l b c hl; cases hl
theorem nctx_after {κ κ2 : Ctx} {n : Nat} {w w2 : World} {G : Nat → Bool} {v : V} {x : Value} (hn : n ≤ w.heap.size) (hx : Ext (nctx κ n w.heap G) w empty κ2 w2 empty) (hG : ∀ b,G b = true → b < w.heap.size) (r : Rep κ2 w2.heap v x) (hp : v.plain = true) : Rep (nctx κ n w2.heap G) w2.heap v x:=by
 have ho : ∀ b,¬ owned (nctx κ n w.heap G) b:=by
  rintro b (⟨l,hl⟩ | ⟨L,hL,_⟩)
  ·cases hl
  ·cases hL
 refine rep_hw (fun b i y h1 h2=>⟨?_,h2⟩) r hp
 by_cases hb : b < n
 ·rw [nctx_old hb]
  have:=hx.le.hwsame b (by omega) (ho b)
  rw [nctx_old hb] at this
  rw [← this]; exact h1
 ·cases hg : G b with
  | true =>
   have:=hx.le.hwsame b (hG b hg) (ho b)
   rw [nctx_G (by omega) hg] at this
   omega
  | false=>exact nctx_new (by omega) hg h2
theorem nctx_keep {κ : Ctx} {n : Nat} {h h' : Heap} {G G' : Nat → Bool} {v : V} {x : Value} (hs : ∀ b i y,hcell h b i = some y → (n ≤ b → G b = false) → hcell h' b i = some y) (hG : ∀ b,b < h.size → n ≤ b → G b = false → G' b = false) (r : Rep (nctx κ n h G) h v x) (hp : v.plain = true) : Rep (nctx κ n h' G') h' v x:=by
 refine rep_hw (fun b i y h1 h2=>?_) r hp
 have hf : n ≤ b → G b = false:=fun hb=>by
  cases hg : G b with
  | false=>rfl
  | true=>rw [nctx_G hb hg] at h1; omega
 have h3:=hs b i y h2 hf
 refine ⟨?_,h3⟩
 by_cases hb : b < n
 ·rw [nctx_old hb] at h1 ⊢; exact h1
 ·exact nctx_new (by omega) (hG b (hcell_lt h2) (by omega) (hf (by omega))) h3
theorem nctx_end {κ : Ctx} {n : Nat} {h : Heap} {G : Nat → Bool} {v : V} {x : Value} (r : Rep (nctx κ n h G) h v x) (hp : v.plain = true) : Rep (newHw κ n h) h v x:=by
 refine rep_hw (fun b i y h1 h2=>⟨?_,h2⟩) r hp
 by_cases hb : b < n
 ·rw [newHw_old hb]; rw [nctx_old hb] at h1; exact h1
 ·obtain ⟨c,E,fr,q1,q2⟩:=hcell_size h2
  rw [newHw_new (by omega) q1]; exact q2
end Go.Fbs
