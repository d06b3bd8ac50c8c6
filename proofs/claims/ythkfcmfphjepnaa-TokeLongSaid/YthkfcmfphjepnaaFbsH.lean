/- append, make, conversions, built-ins; then: what the evaluator says of an operation, the machine does. -/
import Derived.Test.YthkfcmfphjepnaaFbsG
import Derived.Laws.MakeOwn
import Derived.Laws.BytesString
import Derived.Laws.IdiomStrings
import Derived.Deep.Upon
set_option linter.unusedVariables false
set_option linter.unusedSimpArgs false
namespace Go.Fbs
section
variable {P : Program} {κ : Ctx} {w : World} {m : Hp}

theorem firstCells_block {ν : Ctx} {b off n sz c : Nat} {xs : List Value} (hx : Block ν w.heap b off xs) (hl : xs.length = n * sz) (w' : World) (hw : w'.heap = w.heap) :
    (Builtin.firstCells sz n (.slice (some ⟨b, off, none⟩) n c)).run P w' = .ok xs.toArray w' :=
  run_firstCells_some w' sz n ⟨b, off, none⟩ n c xs hl (fun j v hv => by rw [Addr.add_mid, cell?_eq, hw]; exact (hx j v hv).2.1)

theorem block_one {b off : Nat} {xs : List Value} (hx : Block κ w.heap b off xs) : ∀ x ∈ xs, x.oneCell' = true := fun x h => by
  obtain ⟨i, hi⟩ := List.mem_iff_getElem?.1 h
  exact (hx i x hi).2.2

/-- What is appended. -/
structure Adds (P : Program) (κ : Ctx) (w : World) (sz : Nat) (tx : TypeId) (y : Value) (ys : List V) (news : List Value) : Prop where
  src : Src P sz tx y ys.length news w
  rep : Reps κ w.heap (flat ys) news

theorem append_done {t tx e ty : TypeId} {x : V} {a y : Value} {ys : List V} {news : List Value} {v : V} {m' : Hp} (k : Mem κ w.heap m) (ra : Rep κ w.heap x a)
    (hadd : ∀ sz, szT P e = some sz → (∀ y ∈ ys, y.cells.length = sz) → Adds P κ w sz tx y ys news) (ht : P.underlying t = some (.slice e)) (ev : appendV P t x ys m = some (v, m')) :
    OpDone κ w ((do pure (.value (← Builtin.append_ #[t, tx] ty #[a, y])) : Sem Next).run P w) v m' := by
  unfold appendV at ev
  rw [ht] at ev
  split at ev
  · rename_i e' g es heq
    simp at heq; subst heq
    split at ev
    · rename_i sz z by_ hsz hz hby
      split at ev
      · rename_i hc
        obtain ⟨hc1, hc2, hc3, hc4, hc5⟩ := hc
        have hyu : ∀ y ∈ ys, y.cells.length = sz := fun y hy => by simpa using List.all_eq_true.1 hc5 y hy
        have heu : ∀ y ∈ es, y.cells.length = sz := fun y hy => by simpa using List.all_eq_true.1 hc4 y hy
        obtain ⟨hsrc, hrn⟩ := hadd sz hsz hyu
        obtain ⟨i, zv, hi, hiz, hzv⟩ := zeroT_info hz
        obtain ⟨i', hi', hisz⟩ := szT_info hsz
        obtain rfl : i = i' := by rw [hi] at hi'; simpa using hi'
        have hiby : i.bytes = by_ := by unfold bytesT at hby; rw [hi] at hby; simpa using hby
        have hzc : zv.cells.size = sz := by
          have := (rep_cells (κ := κ) (h := w.heap) (rep_ofVal hzv) (ok1_ofVal hzv)).1.1
          simp at this; omega
        subst hisz
        split at ev
        · -- nothing
          rename_i hys
          simp at ev
          obtain ⟨rfl, rfl⟩ := ev
          subst hys
          have hn0 : news = [] := by have := hsrc.newsLen; simpa using this
          subst hn0
          rcases rep_sl ra with ⟨rfl, rfl, hg⟩ | ⟨b, off, cap, sz', xs, hx, hun, hr, hcap, htag, rfl⟩
          · exact OpDone.same (by simp [run_append_nothing w t tx ty e i ht hi none 0 0 (Nat.le_refl _) y hsrc]) k ra
          · exact OpDone.same (by simp [run_append_nothing w t tx ty e i ht hi _ _ _ hcap y hsrc]) k ra
        · rename_i hys
          have hpos : 0 < ys.length := List.length_pos_iff.2 hys
          have hnl : news.length = ys.length * i.size := hsrc.newsLen
          have hneed : (es.length + ys.length) * i.bytes ≤ 140737488355328 := by
            rw [hiby]
            have : (es.length + ys.length) * by_ ≤ (es.length + ys.length) * (by_ + 1) := Nat.mul_le_mul_left _ (by omega)
            omega
          have hcount : es.length + ys.length ≤ 70368744177664 := by
            have : (es.length + ys.length) * 1 ≤ (es.length + ys.length) * (by_ + 1) := Nat.mul_le_mul_left _ (by omega)
            omega
          have h63 : ((es.length + ys.length : Nat) : Int) ≤ 9223372036854775807 := by omega
          -- the new row
          have newrow : ∀ (base : Option Addr) (cap : Nat) (olds : List Value), Reps κ w.heap (flat es) olds → olds.length = es.length * i.size → (∀ x ∈ olds, x.oneCell' = true) → cap < es.length + ys.length →
              (Builtin.firstCells i.size es.length (.slice base es.length cap)).run P w.drew = .ok olds.toArray w.drew →
              ∃ (c : Array Value) (nc : Nat), (Builtin.append_ #[t, tx] ty #[.slice base es.length cap, y]).run P w = .ok (.slice (some ⟨w.heap.size, 0, none⟩) (es.length + ys.length) nc) (w.drew.alloc (.cells c e)) ∧
                es.length + ys.length ≤ nc ∧ nc * i.size ≤ c.size ∧ c.toList.take ((es.length + ys.length) * i.size) = olds ++ news := by
            intro base cap olds hro hol hoo hlt hfc
            have hr := run_append_grow_src w t tx ty e i zv ht hi hiz base es.length cap olds hfc y ys.length news hsrc hlt h63 (growslice_fits hlt hneed)
            have hge := grownCap_ge w (es.length + ys.length) cap e
            refine ⟨_, _, hr, hge, ?_, ?_⟩
            · simp only [Array.size_append, List.size_toArray, List.length_append, size_zeroCells, hzc, hol, hnl]
              rw [← Nat.add_mul, ← Nat.add_mul]
              exact Nat.mul_le_mul_right _ (by omega)
            · rw [Array.toList_append]
              have : (olds ++ news).toArray.toList.length = (es.length + ys.length) * i.size := by simp [hol, hnl, Nat.add_mul]
              rw [List.take_append_of_le_length (by omega), List.take_of_length_le (by omega)]
          cases g with
          | ro => simp at ev
          | full =>
            simp at ev
            obtain ⟨rfl, rfl⟩ := ev
            have fin : ∀ (base : Option Addr) (cap : Nat) (olds : List Value), a = .slice base es.length cap → Reps κ w.heap (flat es) olds → olds.length = es.length * i.size → (∀ x ∈ olds, x.oneCell' = true) → cap < es.length + ys.length →
                (Builtin.firstCells i.size es.length (.slice base es.length cap)).run P w.drew = .ok olds.toArray w.drew →
                OpDone κ w ((do pure (.value (← Builtin.append_ #[t, tx] ty #[a, y])) : Sem Next).run P w) (.sl (.own m.T.length) (es ++ ys)) { m with T := m.T ++ [(es.length + ys.length, i.size)] } := by
              intro base cap olds ha h1 h2 h3 h4 h5
              obtain ⟨c, nc, hrun, hnc, hcs, htk⟩ := newrow base cap olds h1 h2 h3 h4 h5
              have hone : ∀ x ∈ c.toList.take ((es.length + ys.length) * i.size), x.oneCell' = true := by
                rw [htk]; intro x hx
                rcases List.mem_append.1 hx with hx | hx
                · exact h3 x hx
                · exact hsrc.one x hx
              obtain ⟨κ', l, k', hb, htg⟩ := mem_lease k c e (es.length + ys.length) nc i.size hcs hnc hc3 hone
              rw [htk] at hb
              refine ⟨.slice (some ⟨w.heap.size, 0, none⟩) (es.length + ys.length) nc, κ', w.drew.alloc (.cells c e), .inl (by subst ha; simp [hrun]), ⟨l, rfl, kept_drew_alloc w _ _⟩, k', ?_⟩
              have : es.length + ys.length = (es ++ ys).length := by simp
              rw [this]
              refine .sl _ _ _ 0 _ i.size (olds ++ news) hb (fun x hx => ?_) (by rw [flat_append]; simp [h1.1, hrn.1]) ?_ (by rw [← this]; exact hnc) (by rw [← this]; exact htg)
              · rcases List.mem_append.1 hx with hx | hx
                · exact heu x hx
                · exact hyu x hx
              · rw [flat_append]; exact ((h1.append hrn).mono l.toLe).2
            rcases rep_sl ra with ⟨rfl, rfl, hg⟩ | ⟨b, off, cap, sz', xs, hx, hun, hr, hcap, htag, rfl⟩
            · exact fin none 0 [] rfl Reps.nil (by simp) (by simp) (by simpa using hpos) (run_firstCells_none _ _ _ _ _)
            · have hxl : xs.length = es.length * i.size := by rw [hr.1, uniform_flat heu]
              exact fin _ cap xs rfl hr hxl (block_one hx) (by simp only [TagOk] at htag; omega) (firstCells_block (w := w) hx hxl w.drew rfl)
          | own j =>
            simp only at ev
            split at ev <;> simp at ev
            rename_i hT
            obtain ⟨rfl, rfl⟩ := ev
            rcases rep_sl ra with ⟨rfl, rfl, hg⟩ | ⟨b, off, cap, sz', xs, hx, hun, hr, hcap, htag, rfl⟩
            · exact absurd rfl (hg j)
            · obtain ⟨L, hL, hle, hat⟩ := htag
              have hLn : L.n = es.length ∧ L.sz = i.size := by
                have := k.2.2
                rw [← this] at hT
                simp [hL] at hT
                exact hT
              obtain ⟨rfl, rfl, rfl, rfl⟩ := hat hLn.1.symm
              have hxl : xs.length = es.length * i.size := by rw [hr.1, uniform_flat heu]
              have hmemL := List.mem_of_getElem? hL
              by_cases hroom : es.length + ys.length ≤ L.cap
              · -- in place
                obtain ⟨c, E, hc, hcsz, _⟩ := k.1.lcells L hmemL
                have hbound : es.length * i.size + news.length ≤ c.size := by
                  rw [hnl, ← Nat.add_mul]
                  refine Nat.le_trans (Nat.mul_le_mul_right _ hroom) ?_
                  rw [← hLn.2]; exact hcsz
                obtain ⟨h6, h7⟩ := setCells_heap L.blk E news (es.length * i.size) w c hc hbound
                have hold : ∀ q x, q < L.n * L.sz → hcell w.heap L.blk q = some x → (⟨c.toList.take (es.length * i.size) ++ news ++ c.toList.drop (es.length * i.size + news.length)⟩ : Array Value)[q]? = some x := by
                  intro q x hq hcx
                  rw [hLn.1, hLn.2] at hq
                  unfold hcell at hcx; rw [hc] at hcx
                  simp only [← Array.getElem?_toList] at hcx ⊢
                  rw [List.append_assoc, List.getElem?_append_left (by simp; omega), List.getElem?_take_of_lt hq]
                  exact hcx
                obtain ⟨κ', l, k', hhw, hge⟩ := mem_grow k hL hpos (by rw [hLn.1]; exact hroom) h7 h6 (by simp; rw [hnl]; rw [hLn.2] at hcsz ⊢; omega) hold
                have hrun := run_append_room_src w t tx ty e i ht hi L.blk 0 es.length L.cap y ys.length news hsrc hroom
                  (fun q hq => by
                    rw [cell?_eq]; unfold hcell; rw [hc]
                    simp only [Nat.zero_add]
                    rw [Array.getElem?_eq_getElem (by omega)]; rfl)
                  (fun q _ => by unfold World.frozen?; simp [hc])
                rw [Nat.zero_add] at hrun
                refine ⟨.slice (some ⟨L.blk, 0, none⟩) (es.length + ys.length) L.cap, κ', w.setCells L.blk (es.length * i.size) news, .inl (by simp [hrun]), ⟨l, (setCells_out L.blk _ _ w).1, (setCells_out L.blk _ _ w).2⟩, by rw [hLn.1, hLn.2] at k'; exact k', ?_⟩
                have hlen : es.length + ys.length = (es ++ ys).length := by simp
                rw [hlen]
                refine .sl _ _ _ 0 _ i.size (xs ++ news) (fun q x hq => ?_) (fun x hx => ?_) (by rw [flat_append]; simp [hr.1, hrn.1]) ?_ (by rw [← hlen]; exact hroom) ⟨_, hge, by simp [hLn.1], fun _ => ⟨rfl, rfl, rfl, hLn.2.symm⟩⟩
                · have hq' := (List.getElem?_eq_some_iff.1 hq).1
                  refine ⟨?_, ?_, ?_⟩
                  · rw [hhw, hLn.1, hLn.2, Nat.add_mul]
                    simp [hxl, hnl] at hq'
                    omega
                  · unfold hcell; rw [h6]
                    simp only [Nat.zero_add, ← Array.getElem?_toList]
                    by_cases hqx : q < xs.length
                    · rw [List.getElem?_append_left hqx] at hq
                      have := (hx q x hq).2.1
                      unfold hcell at this; rw [hc] at this
                      simp only [Nat.zero_add, ← Array.getElem?_toList] at this
                      rw [List.append_assoc, List.getElem?_append_left (by simp; omega), List.getElem?_take_of_lt (by omega)]
                      exact this
                    · rw [List.getElem?_append_right (by omega)] at hq
                      have h1 : (c.toList.take (es.length * i.size)).length = xs.length := by simp; omega
                      rw [List.append_assoc, List.getElem?_append_right (by omega), h1, List.getElem?_append_left (List.getElem?_eq_some_iff.1 hq).1]
                      exact hq
                  · rcases List.mem_append.1 (List.mem_of_getElem? hq) with hx' | hx'
                    · exact block_one hx x hx'
                    · exact hsrc.one x hx'
                · rcases List.mem_append.1 hx with hx | hx
                  · exact heu x hx
                  · exact hyu x hx
                · rw [flat_append]; exact ((hr.append hrn).mono l.toLe).2
              · obtain ⟨c, nc, hrun, hnc, hcs, htk⟩ := newrow _ L.cap xs hr hxl (block_one hx) (by omega) (firstCells_block (w := w) hx hxl w.drew rfl)
                have hone : ∀ x ∈ c.toList.take ((L.n + ys.length) * L.sz), x.oneCell' = true := by
                  rw [hLn.1, hLn.2, htk]; intro x hx'
                  rcases List.mem_append.1 hx' with hx' | hx'
                  · exact block_one hx x hx'
                  · exact hsrc.one x hx'
                obtain ⟨κ', l, k', hb, htg⟩ := mem_regrow k hL hpos (cap := nc) (by rw [hLn.1]; exact hnc) (by rw [hLn.2]; exact hc3) c e (by rw [hLn.2]; exact hcs) hone
                rw [hLn.1, hLn.2, htk] at hb
                rw [hLn.1, hLn.2] at k' htg
                refine ⟨.slice (some ⟨w.heap.size, 0, none⟩) (es.length + ys.length) nc, κ', w.drew.alloc (.cells c e), .inl (by simp [hrun]), ⟨l, rfl, kept_drew_alloc w _ _⟩, k', ?_⟩
                have hlen : es.length + ys.length = (es ++ ys).length := by simp
                rw [hlen]
                refine .sl _ _ _ 0 _ i.size (xs ++ news) hb (fun x hx => ?_) (by rw [flat_append]; simp [hr.1, hrn.1]) ?_ (by rw [← hlen]; exact hnc) (by rw [← hlen]; exact htg)
                · rcases List.mem_append.1 hx with hx | hx
                  · exact heu x hx
                  · exact hyu x hx
                · rw [flat_append]; exact ((hr.append hrn).mono l.toLe).2
      · simp at ev
    · simp at ev
  · simp at ev

/-! ### make, conversions -/
theorem replicate_flat : ∀ (n : Nat) (z : V), flat (List.replicate n z) = (List.replicate n z.cells).flatten
  | 0, z => rfl
  | n + 1, z => by
    simp only [flat, List.replicate_succ, List.flatMap_cons, List.flatten_cons]
    have := replicate_flat n z
    simp only [flat] at this
    rw [this]

theorem madeCells_get {z : Array Value} {n j : Nat} (hj : j < n) (hz : 0 < z.size) : (madeCells z n)[j]? = z[j % z.size]? := by
  have : j % z.size < z.size := Nat.mod_lt _ hz
  simp [madeCells, hj, this]

theorem replicate_get : ∀ (n : Nat) (l : List V) (j : Nat), j < n * l.length → (List.replicate n l).flatten[j]? = l[j % l.length]?
  | 0, l, j, h => by simp at h
  | n + 1, l, j, h => by
    simp only [List.replicate_succ, List.flatten_cons]
    rw [Nat.succ_mul] at h
    by_cases hj : j < l.length
    · rw [List.getElem?_append_left hj, Nat.mod_eq_of_lt hj]
    · rw [List.getElem?_append_right (by omega), replicate_get n l _ (by omega)]
      congr 1
      exact (Nat.mod_eq_sub_mod (by omega)).symm

theorem made_reps {z : V} {zv : Value} {sz n N : Nat} (hr : Reps κ w.heap z.cells zv.cells.toList) (hs : zv.cells.size = sz) (hsz : 0 < sz) (hn : n * sz ≤ N) :
    Reps κ w.heap (flat (List.replicate n z)) ((madeCells zv.cells N).toList.take (n * sz)) := by
  have hzl : z.cells.length = sz := by have := hr.1; simp at this; omega
  refine ⟨?_, fun j c x h1 h2 => ?_⟩
  · rw [uniform_flat (sz := sz) (by intro e he; rw [List.eq_of_mem_replicate he]; exact hzl)]
    simp [size_madeCells]; omega
  · have hj : j < n * sz := by
      have := (List.getElem?_eq_some_iff.1 h2).1
      rw [List.length_take] at this; omega
    rw [List.getElem?_take_of_lt hj, Array.getElem?_toList, madeCells_get (by omega) (by omega)] at h2
    rw [replicate_flat, replicate_get _ _ _ (by rw [hzl]; exact hj), hzl] at h1
    rw [hs] at h2
    exact hr.2 _ c x h1 (by simpa using h2)

theorem makeSlice_done {t : TypeId} {l c v : V} {al ac : Value} {m' : Hp} (k : Mem κ w.heap m) (rl : Rep κ w.heap l al) (rc : Rep κ w.heap c ac) (ev : makeSliceV P t l c m = some (v, m')) :
    OpDone κ w ((do pure (.value (← Instr.makeSlice t al ac)) : Sem Next).run P w) v m' := by
  unfold makeSliceV at ev
  split at ev
  · rename_i e k1 n k2 q hu
    obtain rfl := rep_int rl; obtain rfl := rep_int rc
    split at ev
    · rename_i sz z by_ hsz hz hby
      split at ev
      · rename_i hc
        obtain ⟨h0, hnq, h63, hb, hzl, hpos⟩ := hc
        obtain ⟨i, zv, hi, hiz, hzv⟩ := zeroT_info hz
        obtain ⟨i', hi', hisz⟩ := szT_info hsz
        obtain rfl : i = i' := by rw [hi] at hi'; simpa using hi'
        have hiby : i.bytes = by_ := by unfold bytesT at hby; rw [hi] at hby; simpa using hby
        subst hisz; subst hiby
        obtain ⟨h3, h4⟩ := rep_cells (κ := κ) (h := w.heap) (rep_ofVal hzv) (ok1_ofVal hzv)
        have hzc : zv.cells.size = i.size := by have := h3.1; simp at this; omega
        have hrun := run_make w t e i zv hu hi hiz k1 k2 n q h0 hnq (by omega) h63
        have hsize : (madeCells zv.cells (q.toNat * i.size)).size = q.toNat * i.size := size_madeCells _ _
        have hle : n.toNat * i.size ≤ q.toNat * i.size := Nat.mul_le_mul_right _ (by omega)
        have hone : ∀ x ∈ (madeCells zv.cells (q.toNat * i.size)).toList.take (n.toNat * i.size), x.oneCell' = true := by
          intro x hx
          have hx' := List.mem_of_mem_take hx
          simp only [madeCells, Array.toList_map, List.mem_map, Array.toList_range, List.mem_range] at hx'
          obtain ⟨j, _, rfl⟩ := hx'
          have : j % zv.cells.size < zv.cells.size := Nat.mod_lt _ (by omega)
          rw [getElem!_pos zv.cells _ this]
          exact h4 _ (by simp)
        have hreps := made_reps (κ := κ) (w := w) (n := n.toNat) h3 hzc hpos hle
        have hun : ∀ e' ∈ List.replicate n.toNat z, e'.cells.length = i.size := fun e' he => by rw [List.eq_of_mem_replicate he]; exact hzl
        split at ev
        · rename_i hq
          subst hq
          simp at ev
          obtain ⟨rfl, rfl⟩ := ev
          obtain ⟨κ', l, k', hbk⟩ := mem_sealed k (madeCells zv.cells (n.toNat * i.size)) e (0, 0) (n.toNat * i.size) hone
          refine ⟨.slice (some ⟨w.heap.size, 0, none⟩) n.toNat n.toNat, κ', w.alloc (.cells (madeCells zv.cells (n.toNat * i.size)) e), .inl (by simp [hrun]), ⟨l, rfl, kept_alloc w _ _⟩, k', ?_⟩
          have hlen : n.toNat = (List.replicate n.toNat z).length := by simp
          conv => arg 4; rw [hlen]
          exact .sl _ _ _ 0 _ i.size _ hbk hun hreps.1 (hreps.mono l.toLe).2 (by simp) (by simp [TagOk])
        · simp at ev
          obtain ⟨rfl, rfl⟩ := ev
          obtain ⟨κ', l, k', hbk, htg⟩ := mem_lease k (madeCells zv.cells (q.toNat * i.size)) e n.toNat q.toNat i.size (by rw [hsize]; exact Nat.le_refl _) (by omega) hpos hone
          refine ⟨.slice (some ⟨w.heap.size, 0, none⟩) n.toNat q.toNat, κ', w.alloc (.cells (madeCells zv.cells (q.toNat * i.size)) e), .inl (by simp [hrun]), ⟨l, rfl, kept_alloc w _ _⟩, k', ?_⟩
          have hlen : n.toNat = (List.replicate n.toNat z).length := by simp
          have htg' : TagOk κ' (.own m.T.length) (List.replicate n.toNat z).length w.heap.size 0 q.toNat i.size := by rw [← hlen]; exact htg
          have := Rep.sl (κ := κ') (h := w.heap.push (.cells (madeCells zv.cells (q.toNat * i.size)) e (0, 0))) (.own m.T.length) (List.replicate n.toNat z) w.heap.size 0 q.toNat i.size _ hbk hun hreps.1 (hreps.mono l.toLe).2 (by simp; omega) htg'
          rw [← hlen] at this
          exact this
      · simp at ev
    · simp at ev
  · simp at ev

theorem mapM_bytes : ∀ {es : List V} {bs : List UInt8}, es.mapM (fun v => match v with | .int .u8 n => some (UInt8.ofNat n.toNat) | _ => none) = some bs →
    ∃ ns : List Int, es = ns.map (V.int .u8) ∧ bs = ns.map (fun n => UInt8.ofNat n.toNat)
  | [], bs, e => by simp at e; subst e; exact ⟨[], rfl, rfl⟩
  | v :: es, bs, e => by
    simp only [List.mapM_cons, Option.bind_eq_bind, Option.bind_eq_some_iff, Option.pure_def, Option.some.injEq] at e
    obtain ⟨b, h1, bs', h2, rfl⟩ := e
    obtain ⟨ns, rfl, rfl⟩ := mapM_bytes h2
    split at h1 <;> simp at h1
    rename_i n
    subst h1
    exact ⟨n :: ns, rfl, rfl⟩

theorem reps_ints {ns : List Int} {xs : List Value} {q : IntKind} (r : Reps κ w.heap (ns.map (V.int q)) xs) : xs = ns.map (Value.int q) := by
  apply List.ext_getElem?
  intro i
  by_cases hi : i < ns.length
  · obtain ⟨x, hx, rx⟩ := r.get (i := i) (c := .int q ns[i]) (by simp [hi])
    rw [hx, rep_int rx]; simp [hi]
  · have := r.1; simp at this
    rw [List.getElem?_eq_none (by omega), List.getElem?_eq_none (by simp; omega)]

theorem foldl_push (ns : List Int) : ∀ acc : ByteArray, ns.foldl (fun r n => r.push (UInt8.ofNat n.toNat)) acc = ⟨⟨acc.data.toList ++ ns.map fun n => UInt8.ofNat n.toNat⟩⟩ := by
  induction ns with
  | nil => intro acc; obtain ⟨⟨l⟩⟩ := acc; simp
  | cons n ns ih =>
    intro acc
    simp only [List.foldl_cons, ih]
    simp [ByteArray.push]

theorem flat_scalars {ns : List Int} {q : IntKind} : flat (ns.map (V.int q)) = ns.map (V.int q) := by
  induction ns with
  | nil => rfl
  | cons n ns ih => simp only [flat, List.map_cons, List.flatMap_cons] at ih ⊢; rw [ih]; rfl

theorem convert_done {src dst : TypeId} {x v : V} {a : Value} (k : Mem κ w.heap m) (ra : Rep κ w.heap x a) (ev : convertV P src dst x = some v) :
    OpDone κ w ((do pure (.value (← convert src dst a)) : Sem Next).run P w) v m := by
  unfold convertV at ev
  split at ev
  · rename_i d q k1 n hs hd
    simp at ev; subst ev
    obtain rfl := rep_int ra
    refine OpDone.same (y := .int q (q.wrap n)) ?_ k (.int _ _)
    simp only [convert, Sem.run_bind, run_underlying hs, run_underlying hd, Result.andThen_ok]
    cases d <;> simp [Conv.intToInt]
  · rename_i s hs hd
    simp at ev; subst ev
    obtain rfl := rep_str ra
    refine OpDone.same (y := .string ⟨⟨s⟩⟩) ?_ k (.str _)
    simp [convert, run_underlying hs, run_underlying hd]
  · rename_i e g es hs hd
    split at ev
    · rename_i bs he hb
      simp at ev; subst ev
      obtain ⟨ns, rfl, rfl⟩ := mapM_bytes hb
      rcases rep_sl ra with ⟨h0, rfl, _⟩ | ⟨b, off, cap, sz, xs, hx, hun, hr, hcap, _, rfl⟩
      · simp at h0; subst h0
        refine OpDone.same (y := .string ⟨⟨[]⟩⟩) ?_ k (.str _)
        simp [convert, run_underlying hs, run_underlying hd, run_underlying he, Conv.bytesToString]
        rfl
      · rw [flat_scalars] at hr
        obtain rfl := reps_ints hr
        refine OpDone.same (y := .string ⟨⟨ns.map fun n => UInt8.ofNat n.toNat⟩⟩) ?_ k (.str _)
        have hl := run_loadCells_list (P := P) w ⟨b, off, none⟩ (ns.map (Value.int .u8)) (fun j v hv => by rw [Addr.add_mid, cell?_eq]; exact (hx j v hv).2.1)
        have := run_bytesToString w ⟨b, off, none⟩ (ns.map (Value.int .u8)).length cap ns hl
        rw [foldl_push] at this
        simp only [List.length_map] at this ⊢
        simp only [convert, Sem.run_bind, run_underlying hs, run_underlying hd, run_underlying he, Result.andThen_ok, this]
        simp
    · simp at ev
  · simp at ev

theorem bytes_done {src dst : TypeId} {x v : V} {a : Value} (k : Mem κ w.heap m) (ra : Rep κ w.heap x a) (ev : bytesV P src dst x = some v) :
    OpDone κ w ((do pure (.value (← convert src dst a)) : Sem Next).run P w) v m := by
  simp [bytesV] at ev

end
end Go.Fbs
