/- glob.Over, walked. -/
import Derived.Test.YtgmdijjibhknmaaGreatID
set_option linter.unusedVariables false
set_option linter.unusedSimpArgs false
set_option maxRecDepth 100000
namespace Go.Fbs
open Go.Proofs Go.RowKit Go.Maps
variable {w w' wr : World} {base : Nat} {v v1 v2 : Value} {ps ns zs : List B8}
theorem Tryz.info9 : (Tryz.prog.info? 9).map (fun i => (i.zero, i.size, i.bytes)) = some (some (.string ⟨#[]⟩), 1, 16) := by kernel_rfl
theorem info_parts {α : Type} {P : Program} {t : TypeId} {z : α} {f : TypeInfo → α} (h : (P.info? t).map f = some z) : ∃ i, P.info? t = some i ∧ f i = z := by
  cases hh : P.info? t with
  | none => rw [hh] at h; cases h
  | some i => rw [hh] at h; exact ⟨i, rfl, by simpa using h⟩
theorem tx_lt {b off : Nat} {s : B8} (h : w.cell? ⟨b, off, none⟩ = some (txV s)) : b < w.heap.size := by
  unfold World.cell? at h
  rcases Nat.lt_or_ge b w.heap.size with h1 | h1
  · exact h1
  · dsimp only at h
    rw [Array.getElem?_eq_none h1] at h; cases h
theorem TxAt.bel (h : TxAt w v zs) (hb : Bel w.heap.size w wr) : TxAt wr v zs := by
  rcases h with h | ⟨b, off, c, rfl, hc⟩
  · exact .inl h
  · exact .inr ⟨b, off, c, rfl, fun j s hj => by
      have := hc j s hj
      rw [World.cell?_of_block (hb.block b (tx_lt this))]; exact this⟩
theorem TxOwn.at (h : TxOwn base w v zs) : TxAt w v zs := by
  by_cases h0 : zs = []
  · subst h0
    obtain ⟨ad, cp, rfl⟩ := own_form h
    cases ad with
    | none => exact .inl ⟨cp, rfl, rfl⟩
    | some a =>
      rcases h.2 with ⟨e, _⟩ | ⟨g, cap, cur, e, _⟩
      · cases e
      · cases e
        exact .inr ⟨_, 0, _, rfl, fun j s hj => by cases hj⟩
  · have hpos : 0 < zs.length := List.length_pos_iff.2 h0
    obtain ⟨g, cp, rfl, _⟩ := own_some h (by omega)
    refine .inr ⟨g, 0, cp, rfl, fun j s hj => ?_⟩
    have hlt := (List.getElem?_eq_some_iff.1 hj).1
    rw [Nat.zero_add, World.ownsRow.cellAt h j (by omega), List.getElem?_map, hj]
    rfl
theorem TxOwn.keep (h : TxOwn base w v zs) (hs : ∀ k, k < w.heap.size → wr.heap[k]? = w.heap[k]?) : TxOwn base wr v zs := by
  obtain ⟨h1, h2⟩ := h
  refine ⟨h1, ?_⟩
  rcases h2 with h2 | ⟨g, cap, cur, hv, hg, hh, hr⟩
  · exact .inl h2
  · exact .inr ⟨g, cap, cur, hv, hg, (hs g (Array.getElem?_eq_some_iff.1 hh).1).trans hh, hr⟩
noncomputable def overL (ps ns : List B8) : List B8 := ns.filter fun s => ps.any fun p => matchB p s
noncomputable def overM (ps ns : List B8) : List B8 := onceM (overL ps ns)
theorem over_snoc {j : Nat} {s : B8} (h : ns[j]? = some s) : overL ps (ns.take (j + 1)) = overL ps (ns.take j) ++ if (ps.any fun p => matchB p s) = true then [s] else [] := by
  unfold overL
  rw [List.take_add_one, h, List.filter_append]
  congr 1
  show List.filter _ [s] = _
  rw [List.filter_cons, List.filter_nil]
def iOf : Value → Int
  | .int _ n => n
  | _ => 0
theorem tx_news {w : World} {H : Nat} (hH : w.heap.size = H) (s : B8) : ∀ j u, [txV s][j]? = some u → (w.alloc (.cells #[.string ⟨⟨s⟩⟩] 9)).cell? ((⟨H, 0, none⟩ : Addr).add j) = some u := by
  subst hH
  exact World.news_of_block (cs := #[.string ⟨⟨s⟩⟩]) (heap_alloc_new w _)
theorem alloc_sz {w : World} {H : Nat} (hH : w.heap.size = H) (o : Obj) : (w.alloc o).heap.size = H + 1 := by rw [← hH]; simp
theorem bel_grow {o : Obj} {row : Option Nat} {B : Nat} {w2 : World} (hB : B ≤ w.heap.size) (hg : (w.alloc o).grownBy w2 row) (hr : ∀ b, row = some b → B ≤ b) : Bel B w w2 :=
  ⟨hg.os, hg.output, by have := hg.size; simp at this; omega, fun k hk => (hg.block k (by simp; omega) fun e => by have := hr k e.symm; omega).trans (heap_alloc_old _ _ (by omega))⟩
set_option maxHeartbeats 1600000 in
theorem over_walk (h1 : TxAt w v1 ps) (h2 : TxAt w v2 ns) (hz : ∀ p ∈ ps, p.length ≤ 100000) (hp : ps.length ≤ 100000) (hn : ns.length ≤ 100000) :
    Calls Tryz.prog 37 #[v1, v2] w fun e w' => ∃ v', e = .returned v' ∧ TxOwn w.heap.size w' v' (overM ps ns) ∧ Bel w.heap.size w w' := by
  obtain ⟨i0, hi, hzz⟩ := info_parts Tryz.info9
  obtain ⟨hz0, hz1, hz2⟩ : i0.zero = some (.string ⟨#[]⟩) ∧ i0.size = 1 ∧ i0.bytes = 16 := by simpa using hzz
  obtain ⟨ad2, c2, rfl⟩ : ∃ a c, v2 = .slice a ns.length c := by
    rcases h2 with ⟨c, rfl, rfl⟩ | ⟨b, off, c, rfl, _⟩
    · exact ⟨_, _, rfl⟩
    · exact ⟨_, _, rfl⟩
  go_enter Tryz.func37, Tryz.ntmps37
  go_wp2
  go_loopw [5, 10] (fun v i wr => ∃ j : Nat, j ≤ ns.length ∧ i = .int .i64 j ∧ Bel w.heap.size w wr ∧ ∃ ad cp, v = .slice ad (overL ps (ns.take j)).length cp ∧ TxOwn w.heap.size wr v (overL ps (ns.take j))) (fun _ i _ => ns.length - (iOf i).toNat)
  case atStart => exact ⟨0, Nat.zero_le _, rfl, Bel.refl _ _, none, 0, rfl, World.ownsRow_nil _ _ _ _⟩
  case round =>
    obtain ⟨j, hj, rfl, hb, ad, cp, rfl, ho⟩ := hrel
    have hj0 : (0 : Int) ≤ (j : Int) := Int.natCast_nonneg _
    by_cases hjl : j < ns.length
    · have hj1 : (j : Int) < (ns.length : Int) := by omega
      obtain ⟨s, hs⟩ : ∃ s, ns[j]? = some s := ⟨_, List.getElem?_eq_getElem hjl⟩
      rcases h2.bel hb with ⟨c, e, e2⟩ | ⟨b, off, c, e, hc⟩
      · rw [e2] at hjl; simp at hjl
      cases e
      have hcs := hc j s hs
      unfold txV at hcs
      have hbw := tx_lt (s := s) hcs
      have hmc := matches_calls (w := wr) (s := s) (h1.bel hb) hz hp
      have hsn := over_snoc (ps := ps) hs
      have hfl : (overL ps (ns.take j)).length ≤ 100000 := by
        unfold overL
        exact Nat.le_trans (List.length_filter_le _ _) (by rw [List.length_take]; omega)
      have hbs := hb.size
      clear hc hs
      cases hm : ps.any fun p => matchB p s with
      | true =>
        rw [hm] at hmc
        rw [if_pos hm] at hsn
        go_wp2_with (first
          | (go_at_call 75; refine hmc.mono ?_; rintro e w2 ⟨rfl, hb2⟩; have ho2 := ho.keep hb2.block; have hbs2 := hb2.size)
          | (at_builtin; (refine wpList_append_lies _ rfl _ _ 22 rfl w.heap.size 9 i0 _ 1 16 Tryz.underlying22 hi hz0 hz1 hz2 rfl (by decide) (.slice ad (overL ps (ns.take j)).length cp) (overL ps (ns.take j)).length ((overL ps (ns.take j)).map txV) (by rfl) (ho2.alloc _) ⟨w2.heap.size, 0, none⟩ 1 1 [txV s] (by rfl) (by rfl) (tx_news rfl s) (by intro u hu; simp at hu; subst hu; rfl) (by decide) (by unfold maxLen; omega) (by omega) (by simp; omega) (w2.heap.size + 1) (alloc_sz rfl _) ?_; intro g cp' w3 hown' hgrow hat hlt; have hb3 : Bel w.heap.size w2 w3 := bel_grow (by omega) hgrow (fun b e => (ho2.lt b e).1)))
          | go_in)
        refine ⟨⟨j + 1, by omega, by simp, (hb.trans (hb2.mono hbs)).trans hb3, some ⟨g, 0, none⟩, cp', by rw [hsn, List.length_append]; rfl, ?_⟩, by simp [iOf]; omega⟩
        rw [hsn]
        unfold TxOwn
        rw [List.length_append, List.map_append]
        exact hown'
      | false =>
        rw [hm] at hmc
        rw [if_neg (by rw [hm]; simp), List.append_nil] at hsn
        go_wp2_with (first
          | (go_at_call 75; refine hmc.mono ?_; rintro e w2 ⟨rfl, hb2⟩; have ho2 := ho.keep hb2.block; have hbs2 := hb2.size)
          | go_in)
        refine ⟨⟨j + 1, by omega, by simp, hb.trans (hb2.mono hbs), ad, cp, by rw [hsn], ?_⟩, by simp [iOf]; omega⟩
        rw [hsn]
        exact ho2
    · have hj1 : ¬ (j : Int) < (ns.length : Int) := by omega
      obtain rfl : j = ns.length := by omega
      rw [List.take_length] at ho
      have hon := once_walk (w := wr) ho.at (by unfold overL; exact Nat.le_trans (List.length_filter_le _ _) hn)
      rw [List.take_length]
      go_wp2_with (first
        | (go_at_call 17; refine hon.mono ?_; rintro e w2 ⟨v', rfl, ho2, hb2⟩)
        | go_in)
      go_ret
      have hbs := hb.size
      exact ⟨_, rfl, ⟨ho2.1, ho2.2.imp id fun ⟨g, cap, cur, h1, h2, h3⟩ => ⟨g, cap, cur, h1, by omega, h3⟩⟩, hb.trans (hb2.mono hbs)⟩
end Go.Fbs
