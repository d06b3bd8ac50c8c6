import Derived.Test.YtpnflpbamlbpeaaGreatDoorVO
set_option linter.unusedSimpArgs false
set_option linter.unusedVariables false
set_option linter.unusedSectionVars false
set_option maxRecDepth 100000
namespace Go.Fbs
open Go.Proofs Go.RowKit Go.Shelf Go.Sort
theorem Tryz.info28 : (Tryz.prog.info? 28).map (fun i=>(i.zero,i.size,i.bytes)) = some (some (.agg #[.int .i64 0,.bool false,.string ⟨⟨[]⟩⟩,.int .i64 0]),4,40):=by kernel_rfl
theorem ent_cells {w : World} {base : Nat} {g cp : Nat} {l : List Ent} {k : Nat} {x : Ent} (h : w.ownsRow base 28 4 (.slice (some ⟨g,0,none⟩) l.length cp) l.length (flatE l)) (hx : l[k]? = some x) :
  w.cell? ⟨g,k * 4,none⟩ = some (.int .i64 x.kind) ∧ w.cell? ⟨g,k * 4 + 1,none⟩ = some (.bool x.dflt) ∧ w.cell? ⟨g,k * 4 + 2,none⟩ = some (.string ⟨⟨x.name⟩⟩) ∧ w.cell? ⟨g,k * 4 + 3,none⟩ = some (.int .i64 x.bits):=by
 have hk : k < l.length:=(List.getElem?_eq_some_iff.1 hx).1
 have at_ : ∀ c,c < 4 → w.cell? ⟨g,k * 4 + c,none⟩ = some (encE x)[c]!:=fun c hc=>by
  rw [h.cellAt (k * 4 + c) (by omega)]
  exact flatE_at hx (encE_at x hc)
 exact ⟨at_ 0 (by omega),at_ 1 (by omega),at_ 2 (by omega),at_ 3 (by omega)⟩
theorem own_base {w : World} {base : Nat} {e : TypeId} {size n : Nat} {v : Value} {xs : List Value} (h : w.ownsRow base e size v n xs) : ∀ k,v.ownBlock = some k → base ≤ k:=by
 obtain ⟨_,h2⟩:=h
 rcases h2 with ⟨rfl,rfl⟩ | ⟨g',cap',cur,rfl,h1,_⟩
 ·intro k hk; cases hk
 ·intro k hk; cases hk; exact h1
set_option maxHeartbeats 3200000 in
theorem masked_calls {l : List Ent} {base : Nat} {v : Value} {w : World} (d : Bool) (hl : l.length ≤ 1000) (hbw : base ≤ w.heap.size) (h : w.ownsRow base 28 4 v l.length (flatE l)) :
  Calls Tryz.prog 22 #[v,.bool d] w fun e w'=>∃ v',e = .returned v' ∧ Bel base w w' ∧ w'.ownsRow base 28 4 v' (addM d l).length (flatE (addM d l)):=by
 have hfind:=find_calls d hl h
 have hadd : addM d l = if hasE l d 5 = true then l else l ++ [maskE d l]:=rfl
 generalize hasE l d 5 = B at hfind hadd
 obtain ⟨i0,hi,hz0,hz1,hz2⟩:=info_parts Tryz.info28
 obtain ⟨ad,cp,rfl⟩:=own_form h
 go_enter Tryz.func22,Tryz.ntmps22
 cases B
 ·rw [if_neg (by simp)] at hadd
  rw [hadd]
  go_wp2_with (go_at_call 47; refine hfind.mono ?_; rintro e w1 ⟨⟨x,rfl⟩,hs⟩; unfold encE)
  have hb1:=bel_alloc (hs.bel hbw) (show base ≤ w1.heap.size by have:=hs.size; omega) (.cells #[.int .i64 x.kind,.bool x.dflt,.string ⟨⟨x.name⟩⟩,.int .i64 x.bits] 28)
  have ho1:=(own_sam h hs.same).alloc (.cells #[.int .i64 x.kind,.bool x.dflt,.string ⟨⟨x.name⟩⟩,.int .i64 x.bits] 28)
  go_loopw [7,20] (fun bt i wr=>∃ k : Nat,k ≤ l.length ∧ i = .int .i64 k ∧ bt = .int .i64 (orB d (l.take k) 0) ∧ wr.ownsRow base 28 4 (.slice ad l.length cp) l.length (flatE l) ∧ Bel base w wr) (fun _ i _=>l.length - (Go.Proofs.intOf i).toNat)
  case atStart=>exact ⟨0,Nat.zero_le _,rfl,rfl,ho1,hb1⟩
  case round =>
   obtain ⟨k,hk,rfl,rfl,hown,hbel⟩:=hrel
   have hk0 : (0 : Int) ≤ (k : Int):=Int.natCast_nonneg _
   have hbs:=hbel.size
   by_cases hkn : k < l.length
   ·have hk1 : (k : Int) < (l.length : Int):=by omega
    obtain ⟨y,hy⟩:=mem_some hkn
    obtain ⟨g,cp',e,hg1,hg2,hg3⟩:=own_some hown (by omega)
    obtain ⟨rfl,rfl⟩ : ad = some ⟨g,0,none⟩ ∧ cp = cp':=by simpa using e
    obtain ⟨c0,c1,c2,c3⟩:=ent_cells hown hy
    have hnext : orB d (l.take (k + 1)) 0 = if bearsE d y then bitO (orB d (l.take k) 0) y.bits else orB d (l.take k) 0:=by rw [take_succ' hy,or_snoc]
    have hb2:=bel_alloc hbel (show base ≤ wr.heap.size by omega) (.cells #[.int .i64 y.kind,.bool y.dflt,.string ⟨⟨y.name⟩⟩,.int .i64 y.bits] 28)
    have ho2:=hown.alloc (.cells #[.int .i64 y.kind,.bool y.dflt,.string ⟨⟨y.name⟩⟩,.int .i64 y.bits] 28)
    obtain ⟨ky,dy,ny,by_⟩:=y
    simp only at c0 c1 c2 c3 hb2 ho2
    unfold bearsE at hnext
    simp only at hnext
    generalize orB d (l.take k) 0 = b at hnext ⊢
    have hgw : g < wr.heap.size:=by omega
    by_cases hd : dy = d
    ·subst hd
     simp only [beq_self_eq_true,Bool.true_and] at hnext
     have ev : ∀ b',orB dy (l.take (k + 1)) 0 = b' → Value.int .i64 b' = Value.int .i64 (orB dy (l.take (k + 1)) 0):=fun b' e=>by rw [e]
     by_cases h2 : ky = 2
     ·subst h2
      go_wp2
      exact ⟨⟨k + 1,by omega,by simp,ev _ (by rw [hnext]; rfl),ho2,hb2⟩,by simp [Go.Proofs.intOf]; omega⟩
     ·by_cases h3 : ky = 3
      ·subst h3
       go_wp2
       exact ⟨⟨k + 1,by omega,by simp,ev _ (by rw [hnext]; rfl),ho2,hb2⟩,by simp [Go.Proofs.intOf]; omega⟩
      ·by_cases h4 : ky = 4
       ·subst h4
        go_wp2
        exact ⟨⟨k + 1,by omega,by simp,ev _ (by rw [hnext]; rfl),ho2,hb2⟩,by simp [Go.Proofs.intOf]; omega⟩
       ·have e2 : (ky == 2) = false:=by simpa using h2
        have e3 : (ky == 3) = false:=by simpa using h3
        have e4 : (ky == 4) = false:=by simpa using h4
        go_wp2
        exact ⟨⟨k + 1,by omega,by simp,ev _ (by rw [hnext,decide_eq_false h2,decide_eq_false h3,decide_eq_false h4]; rfl),ho2,hb2⟩,by simp [Go.Proofs.intOf]; omega⟩
    ·have hd' : (dy == d) = false:=by simpa using hd
     rw [hd'] at hnext
     have ev : ∀ b',orB d (l.take (k + 1)) 0 = b' → Value.int .i64 b' = Value.int .i64 (orB d (l.take (k + 1)) 0):=fun b' e=>by rw [e]
     go_wp2
     exact ⟨⟨k + 1,by omega,by simp,ev _ (by rw [hnext]; rfl),ho2,hb2⟩,by simp [Go.Proofs.intOf]; omega⟩
   ·have hk1 : ¬ (k : Int) < (l.length : Int):=by omega
    have hkl : k = l.length:=by omega
    have htk : orB d (l.take k) 0 = orB d l 0:=by rw [take_all hkn]
    have hmask : ∀ b,orB d l 0 = b → flatE l ++ [.int .i64 5,.bool d,.string ⟨⟨[]⟩⟩,.int .i64 b] = flatE (l ++ [maskE d l]):=fun b e=>by rw [flatE_app,← e]; rfl
    rw [htk]
    generalize hob : orB d l 0 = b
    replace hmask:=hmask b hob
    have hnews : ∀ j u,[Value.int .i64 5,.bool d,.string ⟨⟨[]⟩⟩,.int .i64 b][j]? = some u → (wr.alloc (.cells #[.int .i64 5,.bool d,.string ⟨⟨[]⟩⟩,.int .i64 b] 28)).cell? ((⟨wr.heap.size,0,none⟩ : Addr).add j) = some u:=World.news_of_block (cs:=#[.int .i64 5,.bool d,.string ⟨⟨[]⟩⟩,.int .i64 b]) (heap_alloc_new wr _)
    go_wp2_with (first
     | (at_builtin; refine wpList_append_lies _ rfl _ _ 22 rfl base 28 i0 _ 4 40 Tryz.underlying22 hi hz0 hz1 hz2 rfl (by decide) _ _ _ rfl (hown.alloc _) ⟨wr.heap.size,0,none⟩ 1 1 [.int .i64 5,.bool d,.string ⟨⟨[]⟩⟩,.int .i64 b] rfl rfl hnews (by intro u hu; simp at hu; rcases hu with rfl | rfl | rfl | rfl <;> rfl) (by decide) (by unfold maxLen; omega) (by omega) (by simp; omega) (wr.heap.size + 1) (by simp) ?_; intro g cp' w2 hown' hgrow hat hlt)
     | go_in)
    go_ret
    have hbb:=own_base hown
    refine ⟨_,rfl,bel_grown (bel_alloc hbel (by omega) _) hgrow (by simp; omega) hbb,?_⟩
    rw [← hmask]; exact hown'
 ·rw [if_pos rfl] at hadd
  rw [hadd]
  go_wp2_with (go_at_call 47; refine hfind.mono ?_; rintro e w1 ⟨⟨x,rfl⟩,hs⟩; unfold encE)
  go_ret
  exact ⟨_,rfl,bel_alloc (hs.bel hbw) (by have:=hs.size; omega) _,(own_sam h hs.same).alloc _⟩
end Go.Fbs
