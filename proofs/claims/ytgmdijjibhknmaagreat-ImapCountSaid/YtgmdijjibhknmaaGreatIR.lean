/- The law, walked: its rows of names. -/
import Derived.Test.YtgmdijjibhknmaaGreatIN
import Derived.Test.YtgmdijjibhknmaaGreatIR0
import Derived.Test.YtgmdijjibhknmaaGreatImapT
set_option linter.unusedVariables false
set_option linter.unusedSimpArgs false
set_option maxRecDepth 100000
namespace Go.Fbs
open Go.Proofs Go.RowKit Go.Maps
variable {w w' : World}
/-- All but block D that lay there lies as it was. -/
def Bx (D : Nat) (X w : World) : Prop := w.os = X.os ∧ w.output = X.output ∧ X.heap.size ≤ w.heap.size ∧ ∀ k, k < X.heap.size → k ≠ D → w.heap[k]? = X.heap[k]?
/-- The policy lies in block D; a row of names grows. -/
structure PS (D : Nat) (X w : World) (cs : Array Value) (ad : Option Addr) (i cp : Nat) : Prop where
  bx : Bx D X w
  lt : D < X.heap.size
  blk : w.heap[D]? = some (.cells cs 27 (0, 0))
  own : TxOwn X.heap.size w (.slice ad i cp) (nms i)
theorem PS.step {D i cp : Nat} {X w w1 : World} {cs : Array Value} {ad : Option Addr} (h : PS D X w cs ad i cp) (hb : Bel w.heap.size w w1) : PS D X w1 cs ad i cp :=
  ⟨⟨hb.os.trans h.bx.1, hb.output.trans h.bx.2.1, Nat.le_trans h.bx.2.2.1 hb.size, fun k hk hne => (hb.block k (Nat.lt_of_lt_of_le hk h.bx.2.2.1)).trans (h.bx.2.2.2 k hk hne)⟩, h.lt, (hb.block D (Array.getElem?_eq_some_iff.1 h.blk).1).trans h.blk, h.own.bel hb⟩
theorem PS.push {D i cp g cp' o : Nat} {X w w2 : World} {cs : Array Value} {ad : Option Addr} {ob : Obj} (h : PS D X w cs ad i cp) (hg : (w.alloc ob).grownBy w2 (Value.slice ad i cp).ownBlock)
    (hown : w2.ownsRow X.heap.size 9 1 (.slice (some ⟨g, 0, none⟩) (i + 1) cp') (i + 1) ((nms i).map txV ++ [txV (nmL i)])) :
    PS D X (w2.setCell ⟨D, o, none⟩ (.slice (some ⟨g, 0, none⟩) (i + 1) cp')) (cs.setIfInBounds o (.slice (some ⟨g, 0, none⟩) (i + 1) cp')) (some ⟨g, 0, none⟩) (i + 1) cp' := by
  have h2 := h.step (bel_alloc w ob)
  have hrow : ∀ q, (Value.slice ad i cp).ownBlock = some q → X.heap.size ≤ q := fun q hq => (own_type h2.own hq).1
  have hD : D < (w.alloc ob).heap.size := (Array.getElem?_eq_some_iff.1 h2.blk).1
  have hC : w2.heap[D]? = (w.alloc ob).heap[D]? := hg.block D hD fun e => by have := hrow D e.symm; have := h.lt; omega
  refine ⟨⟨hg.os.trans h2.bx.1, hg.output.trans h2.bx.2.1, by rw [set_size]; exact Nat.le_trans h2.bx.2.2.1 hg.size, fun k hk hne => ?_⟩, h.lt, set_here o _ (hC.trans h2.blk), ?_⟩
  · rw [set_else _ _ hne]
    exact (hg.block k (Nat.lt_of_lt_of_le hk h2.bx.2.2.1) fun e => by have := hrow k e.symm; omega).trans (h2.bx.2.2.2 k hk hne)
  · have he : (nms (i + 1)).map txV = (nms i).map txV ++ [txV (nmL i)] := by rw [nms_snoc, List.map_append]; rfl
    unfold TxOwn
    rw [nms_len, he]
    exact own_keep hown fun k cur hk => set_else _ _ fun e => by rw [e, hC, h2.blk] at hk; cases hk
theorem sids_snoc {done : List SM} {s : SM} (h : Shut (done.map SM.sid = nms done.length)) (hs : Shut (s.sid = nmL done.length)) : Shut ((done ++ [s]).map SM.sid = nms (done ++ [s]).length) := by
  have h1 := h.out
  have h2 := hs.out
  show (done ++ [s]).map SM.sid = nms (done ++ [s]).length
  rw [List.map_append, List.length_append, h1]
  show nms done.length ++ [s.sid] = nms (done.length + 1)
  rw [nms_snoc, h2]
theorem rise_nms {done : List SM} (h : done.map SM.sid = nms done.length) (hl : done.length ≤ 676) : Rise done := by
  have hg : ∀ (i : Nat) (s : SM), done[i]? = some s → s.sid = nmL i := fun i s hi => by
    have h1 : (done.map SM.sid)[i]? = some s.sid := by rw [List.getElem?_map, hi]; rfl
    rw [h, nms_get (List.getElem?_eq_some_iff.1 hi).1] at h1
    exact (Option.some.inj h1).symm
  intro i x y hx hy
  rw [hg i x hx, hg _ y hy]
  exact cmpS_lt (nmL_lt (Nat.lt_succ_self i) (Nat.lt_of_lt_of_le (List.getElem?_eq_some_iff.1 hy).1 hl))
theorem PS.ownI {D i cp : Nat} {X w : World} {cs : Array Value} {ad : Option Addr} (h : PS D X w cs ad i cp) : w.ownsRow X.heap.size 9 1 (.slice ad i cp) i ((nms i).map txV) := by
  have := h.own
  unfold TxOwn at this
  rw [nms_len] at this
  exact this
theorem PS.cellX {D i cp o : Nat} {X w : World} {cs : Array Value} {ad : Option Addr} (h : PS D X w cs ad i cp) {v : Value} (hv : cs[o]? = some v) : w.cell? ⟨D, o, none⟩ = some v := by
  rw [Lib.cell_of_heap h.blk]; exact hv
theorem PS.froz {D i cp : Nat} (o : Nat) {X w : World} {cs : Array Value} {ad : Option Addr} (h : PS D X w cs ad i cp) : w.frozen? ⟨D, o, none⟩ = false := by
  unfold World.frozen?; rw [h.blk]; rfl
set_option maxHeartbeats 3200000 in
theorem law_walk (n0 n1 n2 : Int) (w : World) :
    Calls Tryz.prog 3 #[.int .i64 n0, .int .i64 n1, .int .i64 n2] w fun e w' => e = .returned (.bool true) ∧ Bel w.heap.size w w' := by
  obtain ⟨i9, hi9, hzz9⟩ := info_parts Tryz.info9
  obtain ⟨hz90, hz91, hz92⟩ : i9.zero = some (.string ⟨#[]⟩) ∧ i9.size = 1 ∧ i9.bytes = 16 := by simpa using hzz9
  clear hzz9
  obtain ⟨i31, hi31, hzz⟩ := info_parts Tryz.info31
  obtain ⟨hz0, hz1, hz2⟩ : i31.zero = some (.agg #[.string ⟨#[]⟩, .bool false, .slice none 0 0, .slice none 0 0, .slice none 0 0, .slice none 0 0]) ∧ i31.size = 6 ∧ i31.bytes = 120 := by simpa using hzz
  clear hzz
  obtain ⟨a, ha, hea⟩ := low511 n0
  obtain ⟨b, hb, heb⟩ := low511 n1
  obtain ⟨c, hc, hec⟩ := low7 n2
  obtain ⟨X, hX⟩ : ∃ X, X = (w.alloc (.cells #[.string ⟨#[117]⟩] 9)).alloc (.cells #[.slice (some ⟨w.heap.size, 0, none⟩) 1 1, .slice none 0 0, .slice none 0 0, .slice none 0 0, .slice none 0 0, .slice none 0 0] 27) := ⟨_, rfl⟩
  have z1 : (w.alloc (.cells #[.string ⟨#[117]⟩] 9)).heap.size = w.heap.size + 1 := alloc_sz rfl _
  have hXD : w.heap.size + 1 < X.heap.size := by rw [hX, alloc_sz z1 _]; omega
  have kD : X.heap[w.heap.size + 1]? = some (.cells #[.slice (some ⟨w.heap.size, 0, none⟩) 1 1, .slice none 0 0, .slice none 0 0, .slice none 0 0, .slice none 0 0, .slice none 0 0] 27 (0, 0)) := by rw [hX, ← z1]; exact heap_alloc_new _ _
  have oU : TxOwn w.heap.size X (.slice (some ⟨w.heap.size, 0, none⟩) 1 1) [[117]] := by
    rw [hX]
    exact TxOwn.alloc1 (base := w.heap.size) (v := .slice (some ⟨w.heap.size, 0, none⟩) 1 1) (zs := [[117]]) (World.ownsRow_lit (base := w.heap.size) (e := 9) (size := 1) w #[.string ⟨#[117]⟩] 1 (Nat.le_refl _) (by unfold maxLen; decide) rfl)
  have hbX : Bel w.heap.size w X := by
    rw [hX]
    exact (bel_alloc w _).trans ((bel_alloc _ _).mono (by omega))
  go_enter Tryz.func3, Tryz.ntmps3
  go_wp2
  rw [← hX]
  clear hX z1 hea heb hec
  go_loopw [9] (fun s wq => ∃ (i : Nat) (ad : Option Addr) (cp : Nat), s = .int .i64 i ∧ i ≤ a ∧ PS (w.heap.size + 1) X wq #[.slice (some ⟨w.heap.size, 0, none⟩) 1 1, .slice ad i cp, .slice none 0 0, .slice none 0 0, .slice none 0 0, .slice none 0 0] ad i cp) (fun s _ => a - (iOf s).toNat)
  case atStart => exact ⟨0, none, 0, rfl, Nat.zero_le _, ⟨rfl, rfl, Nat.le_refl _, fun _ _ _ => rfl⟩, hXD, kD, World.ownsRow_nil _ _ _ _⟩
  case round =>
    obtain ⟨i, ad, cp, rfl, hia, hP⟩ := hrel
    by_cases hil : i < a
    · have hi1 : (i : Int) < (a : Int) := by omega
      have hiz : (0 : Int) ≤ (i : Int) := by omega
      have hw2 : IntKind.i64.wrap ((i : Int) + 1) = (i : Int) + 1 := wrapZ (by omega) (by omega)
      have hPd := hP.step (w1 := wr.drew) ⟨rfl, rfl, Nat.le_refl _, fun _ _ => rfl⟩
      have e0 : wr.cell? ⟨(w.heap.size + 1), 1, none⟩ = some (.slice ad i cp) := hP.cellX (by rfl)
      have hnm := name_calls (i := i) (by omega) wr.drew
      go_wp2
      go_region_law (first
          | (refine step_append_lies _ (by rfl) _ _ _ (by rfl) X.heap.size 9 i9 _ 1 16 Tryz.underlying22 hi9 hz90 hz91 hz92 rfl (by decide) (.slice ad i cp) i ((nms i).map txV) (by rfl) hP2.ownI ⟨w1.heap.size, 0, none⟩ 1 1 [txV (nmL i)] (by rfl) (by rfl) (tx_news rfl (nmL i)) (by intro u hu; simp at hu; subst hu; rfl) (by decide) (by unfold maxLen; omega) (by omega) hP2.bx.2.2.1 (w1.heap.size + 1) (alloc_sz rfl _) ?_; intro g cp' w6 hown6 hgrow6 hat6 hlt6; have hP6 := hP1.push (o := 1) hgrow6 hown6; have hC6 := (hgrow6.block (w.heap.size + 1) (Array.getElem?_eq_some_iff.1 hP2.blk).1 fun e => absurd (own_type hP2.ownI e.symm).1 (by have := hP.lt; omega)).trans hP2.blk; have e6 : w6.cell? ⟨(w.heap.size + 1), 1, none⟩ = some (.slice ad i cp) := (by rw [Lib.cell_of_heap hC6]; rfl); have f6 : w6.frozen? ⟨(w.heap.size + 1), 1, none⟩ = false := (by unfold World.frozen?; rw [hC6]; rfl))
          | (go_simp; go_at_call 4; refine hnm.mono ?_; rintro e w1 ⟨rfl, hb1⟩; have hP1 := hPd.step hb1; have e1 : w1.cell? ⟨(w.heap.size + 1), 1, none⟩ = some (.slice ad i cp) := hP1.cellX (by rfl); have hP2 := hP1.step (bel_alloc w1 (.cells #[.string ⟨⟨nmL i⟩⟩] 9)); have e5 : (w1.alloc (.cells #[.string ⟨⟨nmL i⟩⟩] 9)).cell? ⟨(w.heap.size + 1), 1, none⟩ = some (.slice ad i cp) := hP2.cellX (by rfl)))
      all_goals
        go_wp2
        exact ⟨⟨i + 1, some ⟨g, 0, none⟩, cp', by simp, hil, hP6⟩, by simp [iOf]; omega⟩
    · have hi1 : ¬ (i : Int) < (a : Int) := by omega
      obtain rfl : a = i := by omega
      have hPa := hP
      obtain ⟨ada, hada⟩ : ∃ x, x = ad := ⟨_, rfl⟩
      obtain ⟨cpa, hcpa⟩ : ∃ x, x = cp := ⟨_, rfl⟩
      obtain ⟨wr1, hwr1⟩ : ∃ x, x = wr := ⟨_, rfl⟩
      subst hada hcpa hwr1
      go_wp2
      go_loopw [10] (fun s wq => ∃ (i : Nat) (ad : Option Addr) (cp : Nat), s = .int .i64 i ∧ i ≤ b ∧ PS (w.heap.size + 1) wr1 wq #[.slice (some ⟨w.heap.size, 0, none⟩) 1 1, .slice ada a cpa, .slice ad i cp, .slice none 0 0, .slice none 0 0, .slice none 0 0] ad i cp) (fun s _ => b - (iOf s).toNat)
      case atStart => exact ⟨0, none, 0, rfl, Nat.zero_le _, ⟨rfl, rfl, Nat.le_refl _, fun _ _ _ => rfl⟩, (Array.getElem?_eq_some_iff.1 hP.blk).1, hP.blk, World.ownsRow_nil _ _ _ _⟩
      case round =>
        obtain ⟨i, ad, cp, rfl, hia, hP⟩ := hrel
        by_cases hil : i < b
        · have hi1 : (i : Int) < (b : Int) := by omega
          have hiz : (0 : Int) ≤ (i : Int) := by omega
          have hw2 : IntKind.i64.wrap ((i : Int) + 1) = (i : Int) + 1 := wrapZ (by omega) (by omega)
          have hPd := hP.step (w1 := wr.drew) ⟨rfl, rfl, Nat.le_refl _, fun _ _ => rfl⟩
          have e0 : wr.cell? ⟨(w.heap.size + 1), 2, none⟩ = some (.slice ad i cp) := hP.cellX (by rfl)
          have hnm := name_calls (i := i) (by omega) wr.drew
          go_wp2
          go_region_law (first
              | (refine step_append_lies _ (by rfl) _ _ _ (by rfl) wr1.heap.size 9 i9 _ 1 16 Tryz.underlying22 hi9 hz90 hz91 hz92 rfl (by decide) (.slice ad i cp) i ((nms i).map txV) (by rfl) hP2.ownI ⟨w1.heap.size, 0, none⟩ 1 1 [txV (nmL i)] (by rfl) (by rfl) (tx_news rfl (nmL i)) (by intro u hu; simp at hu; subst hu; rfl) (by decide) (by unfold maxLen; omega) (by omega) hP2.bx.2.2.1 (w1.heap.size + 1) (alloc_sz rfl _) ?_; intro g cp' w6 hown6 hgrow6 hat6 hlt6; have hP6 := hP1.push (o := 2) hgrow6 hown6; have hC6 := (hgrow6.block (w.heap.size + 1) (Array.getElem?_eq_some_iff.1 hP2.blk).1 fun e => absurd (own_type hP2.ownI e.symm).1 (by have := hP.lt; omega)).trans hP2.blk; have e6 : w6.cell? ⟨(w.heap.size + 1), 2, none⟩ = some (.slice ad i cp) := (by rw [Lib.cell_of_heap hC6]; rfl); have f6 : w6.frozen? ⟨(w.heap.size + 1), 2, none⟩ = false := (by unfold World.frozen?; rw [hC6]; rfl))
              | (go_simp; go_at_call 4; refine hnm.mono ?_; rintro e w1 ⟨rfl, hb1⟩; have hP1 := hPd.step hb1; have e1 : w1.cell? ⟨(w.heap.size + 1), 2, none⟩ = some (.slice ad i cp) := hP1.cellX (by rfl); have hP2 := hP1.step (bel_alloc w1 (.cells #[.string ⟨⟨nmL i⟩⟩] 9)); have e5 : (w1.alloc (.cells #[.string ⟨⟨nmL i⟩⟩] 9)).cell? ⟨(w.heap.size + 1), 2, none⟩ = some (.slice ad i cp) := hP2.cellX (by rfl)))
          all_goals
            go_wp2
            exact ⟨⟨i + 1, some ⟨g, 0, none⟩, cp', by simp, hil, hP6⟩, by simp [iOf]; omega⟩
        · have hi1 : ¬ (i : Int) < (b : Int) := by omega
          obtain rfl : b = i := by omega
          have hY : ∀ (k : Nat) (cur : Array Value), wr1.heap[k]? = some (Obj.cells cur 9 (0, 0)) → wr.heap[k]? = wr1.heap[k]? := fun k cur hk => hP.bx.2.2.2 k (Array.getElem?_eq_some_iff.1 hk).1 fun e => by rw [e, hPa.blk] at hk; cases hk
          have hY0 : ∀ (k : Nat) (cur : Array Value), X.heap[k]? = some (Obj.cells cur 9 (0, 0)) → wr1.heap[k]? = X.heap[k]? := fun k cur hk => hPa.bx.2.2.2 k (Array.getElem?_eq_some_iff.1 hk).1 fun e => by rw [e, kD] at hk; cases hk
          have sz1 := hPa.bx.2.2.1
          have hN0 : NS w.heap.size (w.heap.size + 1) wr wr (.slice (some ⟨w.heap.size, 0, none⟩) 1 1) (.slice ada a cpa) (.slice ad b cp) [[117]] (nms a) (nms b) none 0 [] :=
            ⟨Bel.refl _ _, hP.blk, World.ownsRow_nil _ _ _ _, fun s hs => (by cases hs), own_keep (own_keep oU hY0) hY, own_low (own_keep hPa.own hY) (by omega), own_low hP.own (by omega)⟩
          have hbW : Bel w.heap.size w wr := ⟨hP.bx.1.trans (hPa.bx.1.trans hbX.os), hP.bx.2.1.trans (hPa.bx.2.1.trans hbX.output), Nat.le_trans hbX.size (Nat.le_trans sz1 hP.bx.2.2.1), fun k hk => (hP.bx.2.2.2 k (by omega) (by omega)).trans ((hPa.bx.2.2.2 k (by omega) (by omega)).trans (hbX.block k hk))⟩
          clear hY hY0 hP hPa sz1 kD oU hbX
          obtain ⟨wr0, hwr0⟩ : ∃ x, x = wr := ⟨_, rfl⟩
          subst hwr0
          go_wp2
          go_loopw [11] (fun s wq => ∃ (done : List SM) (ad4 : Option Addr) (cp4 : Nat), s = .int .i64 done.length ∧ done.length ≤ c ∧ NS w.heap.size (w.heap.size + 1) wr0 wq (.slice (some ⟨w.heap.size, 0, none⟩) 1 1) (.slice ada a cpa) (.slice ad b cp) [[117]] (nms a) (nms b) ad4 cp4 done ∧ Shut (done.map SM.sid = nms done.length)) (fun s _ => c - (iOf s).toNat)
          case atStart => exact ⟨[], none, 0, rfl, Nat.zero_le _, hN0, rfl⟩
          case round =>
            obtain ⟨done, ad4, cp4, rfl, hic, hN, hsd⟩ := hrel
            by_cases hil : done.length < c
            · have hi1 : (done.length : Int) < (c : Int) := by omega
              have hiz : (0 : Int) ≤ (done.length : Int) := by omega
              go_wp2
              refine wp_region_inv (I := fun l a' w' => (∃ (l0 l1 l2 l3 l4 l5 l6 l7 l8 : Bool) (v51 v52 v53 v54 v55 v56 v57 v58 v59 v60 v61 v62 : Value), l = #[l0, l1, l2, l3, l4, l5, l6, l7, l8, false, false, false, false] ∧ a' = ⟨#[Value.int IntKind.i64 ↑a, Value.int IntKind.i64 ↑b, Value.int IntKind.i64 ↑c, undef, undef, undef, Value.bool false, Value.pointer (some { block := w.heap.size + 1, off := 0 }), Value.func (Fn.func 4) #[] #[], Value.int IntKind.i64 ↑a, Value.int IntKind.i64 ↑b, Value.int IntKind.i64 ↑done.length, Value.int IntKind.i64 n0, Value.int IntKind.i64 ↑a, Value.int IntKind.i64 n1, Value.int IntKind.i64 ↑b, Value.int IntKind.i64 n2, Value.int IntKind.i64 ↑c, Value.slice (some { block := w.heap.size, off := 0 }) 1 1, Value.agg #[Value.slice (some { block := w.heap.size, off := 0 }) 1 1, Value.slice none 0 0, Value.slice none 0 0, Value.slice none 0 0, Value.slice none 0 0, Value.slice none 0 0], Value.int IntKind.i64 ↑a, Value.int IntKind.i64 ↑a, Value.bool false, u23, u24, u25, u26, u27, u28, u29, u30, u31, u32, Value.int IntKind.i64 ↑b, Value.int IntKind.i64 ↑b, Value.bool false, u36, u37, u38, u39, u40, u41, u42, u43, u44, u45, Value.int IntKind.i64 ↑done.length, Value.int IntKind.i64 ↑c, Value.bool true, u49, u50, v51, v52, v53, v54, v55, v56, v57, v58, v59, v60, v61, v62, undef, undef, undef, undef, undef, undef, undef, undef, undef, undef, undef, undef, undef, undef, undef, undef, undef, undef, undef, undef, undef, undef, undef, undef, undef, undef], []⟩ ∧ (l0 = true → v51 = (.pointer (some ⟨w.heap.size + 1, 4, none⟩))) ∧ (l1 = true → l0 = true ∧ v52 = (.slice ad4 done.length cp4)) ∧ (l2 = true → v53 = (.func (.func 4) #[] #[])) ∧ (l3 = true → v54 = (.int .i64 (done.length : Int))) ∧ (l4 = true → l2 = true ∧ l3 = true ∧ v55 = (.string ⟨⟨nmL done.length⟩⟩)) ∧ (l5 = true → ∃ (ta : Option Addr) (tc : Nat), v56 = .slice ta 1 tc ∧ TxOwn w.heap.size w' v56 [[117]]) ∧ (l6 = true → ∃ (ta : Option Addr) (tc : Nat), v57 = .slice ta 1 tc ∧ TxOwn w.heap.size w' v57 [[42]]) ∧ (l7 = true → ∃ (ta : Option Addr) (tc : Nat), v58 = .slice ta 1 tc ∧ TxOwn w.heap.size w' v58 [[42]]) ∧ (l8 = true → l4 = true ∧ l5 = true ∧ l6 = true ∧ l7 = true ∧ v59 = .agg #[v55, .bool false, v56, .slice none 0 0, v57, v58]) ∧ NS w.heap.size (w.heap.size + 1) wr0 w' (.slice (some ⟨w.heap.size, 0, none⟩) 1 1) (.slice ada a cpa) (.slice ad b cp) [[117]] (nms a) (nms b) ad4 cp4 done) ∨ (∃ (l0 l1 : Bool) (v51 v52 v53 v54 v55 v56 v57 v58 v59 v60 v61 v62 : Value) (W : World) (s : SM), l = #[l0, l1, true, true, true, true, true, true, true, true, false, false, false] ∧ a' = ⟨#[Value.int IntKind.i64 ↑a, Value.int IntKind.i64 ↑b, Value.int IntKind.i64 ↑c, undef, undef, undef, Value.bool false, Value.pointer (some { block := w.heap.size + 1, off := 0 }), Value.func (Fn.func 4) #[] #[], Value.int IntKind.i64 ↑a, Value.int IntKind.i64 ↑b, Value.int IntKind.i64 ↑done.length, Value.int IntKind.i64 n0, Value.int IntKind.i64 ↑a, Value.int IntKind.i64 n1, Value.int IntKind.i64 ↑b, Value.int IntKind.i64 n2, Value.int IntKind.i64 ↑c, Value.slice (some { block := w.heap.size, off := 0 }) 1 1, Value.agg #[Value.slice (some { block := w.heap.size, off := 0 }) 1 1, Value.slice none 0 0, Value.slice none 0 0, Value.slice none 0 0, Value.slice none 0 0, Value.slice none 0 0], Value.int IntKind.i64 ↑a, Value.int IntKind.i64 ↑a, Value.bool false, u23, u24, u25, u26, u27, u28, u29, u30, u31, u32, Value.int IntKind.i64 ↑b, Value.int IntKind.i64 ↑b, Value.bool false, u36, u37, u38, u39, u40, u41, u42, u43, u44, u45, Value.int IntKind.i64 ↑done.length, Value.int IntKind.i64 ↑c, Value.bool true, u49, u50, v51, v52, v53, v54, v55, v56, v57, v58, v59, v60, v61, v62, undef, undef, undef, undef, undef, undef, undef, undef, undef, undef, undef, undef, undef, undef, undef, undef, undef, undef, undef, undef, undef, undef, undef, undef, undef, undef], []⟩ ∧ (l0 = true → v51 = (.pointer (some ⟨w.heap.size + 1, 4, none⟩))) ∧ (l1 = true → l0 = true ∧ v52 = (.slice ad4 done.length cp4)) ∧ Shut (s.sid = nmL done.length) ∧ w' = W.alloc (.cells #[.string ⟨⟨s.sid⟩⟩, .bool false, s.u, s.g, s.a, s.r] 31) ∧ NS w.heap.size (w.heap.size + 1) wr0 W (.slice (some ⟨w.heap.size, 0, none⟩) 1 1) (.slice ada a cpa) (.slice ad b cp) [[117]] (nms a) (nms b) ad4 cp4 done ∧ Ok4 w.heap.size W s ∧ v60 = .slice (some ⟨W.heap.size, 0, none⟩) 1 1) ∨ (∃ (l11 : Bool) (v51 v52 v53 v54 v55 v56 v57 v58 v59 v60 v61 v62 : Value) (W : World) (s : SM) (g cp' : Nat), l = #[true, true, true, true, true, true, true, true, true, true, true, l11, false] ∧ a' = ⟨#[Value.int IntKind.i64 ↑a, Value.int IntKind.i64 ↑b, Value.int IntKind.i64 ↑c, undef, undef, undef, Value.bool false, Value.pointer (some { block := w.heap.size + 1, off := 0 }), Value.func (Fn.func 4) #[] #[], Value.int IntKind.i64 ↑a, Value.int IntKind.i64 ↑b, Value.int IntKind.i64 ↑done.length, Value.int IntKind.i64 n0, Value.int IntKind.i64 ↑a, Value.int IntKind.i64 n1, Value.int IntKind.i64 ↑b, Value.int IntKind.i64 n2, Value.int IntKind.i64 ↑c, Value.slice (some { block := w.heap.size, off := 0 }) 1 1, Value.agg #[Value.slice (some { block := w.heap.size, off := 0 }) 1 1, Value.slice none 0 0, Value.slice none 0 0, Value.slice none 0 0, Value.slice none 0 0, Value.slice none 0 0], Value.int IntKind.i64 ↑a, Value.int IntKind.i64 ↑a, Value.bool false, u23, u24, u25, u26, u27, u28, u29, u30, u31, u32, Value.int IntKind.i64 ↑b, Value.int IntKind.i64 ↑b, Value.bool false, u36, u37, u38, u39, u40, u41, u42, u43, u44, u45, Value.int IntKind.i64 ↑done.length, Value.int IntKind.i64 ↑c, Value.bool true, u49, u50, v51, v52, v53, v54, v55, v56, v57, v58, v59, v60, v61, v62, undef, undef, undef, undef, undef, undef, undef, undef, undef, undef, undef, undef, undef, undef, undef, undef, undef, undef, undef, undef, undef, undef, undef, undef, undef, undef], []⟩ ∧ (l11 = true → v62 = (.pointer (some ⟨w.heap.size + 1, 4, none⟩))) ∧ Shut (s.sid = nmL done.length) ∧ NS w.heap.size (w.heap.size + 1) wr0 W (.slice (some ⟨w.heap.size, 0, none⟩) 1 1) (.slice ada a cpa) (.slice ad b cp) [[117]] (nms a) (nms b) ad4 cp4 done ∧ Ok4 w.heap.size W s ∧ v61 = .slice (some ⟨g, 0, none⟩) (done.length + 1) cp' ∧ (W.alloc (.cells #[.string ⟨⟨s.sid⟩⟩, .bool false, s.u, s.g, s.a, s.r] 31)).grownBy w' (Value.slice ad4 done.length cp4).ownBlock ∧ w'.ownsRow (w.heap.size + 1 + 1) 31 6 (.slice (some ⟨g, 0, none⟩) (done.length + 1) cp') (done.length + 1) (flatS done ++ s.cells)) ∨ (∃ (v51 v52 v53 v54 v55 v56 v57 v58 v59 v60 v61 v62 : Value) (s : SM) (g cp' : Nat), l = #[true, true, true, true, true, true, true, true, true, true, true, true, true] ∧ a' = ⟨#[Value.int IntKind.i64 ↑a, Value.int IntKind.i64 ↑b, Value.int IntKind.i64 ↑c, undef, undef, undef, Value.bool false, Value.pointer (some { block := w.heap.size + 1, off := 0 }), Value.func (Fn.func 4) #[] #[], Value.int IntKind.i64 ↑a, Value.int IntKind.i64 ↑b, Value.int IntKind.i64 ↑done.length, Value.int IntKind.i64 n0, Value.int IntKind.i64 ↑a, Value.int IntKind.i64 n1, Value.int IntKind.i64 ↑b, Value.int IntKind.i64 n2, Value.int IntKind.i64 ↑c, Value.slice (some { block := w.heap.size, off := 0 }) 1 1, Value.agg #[Value.slice (some { block := w.heap.size, off := 0 }) 1 1, Value.slice none 0 0, Value.slice none 0 0, Value.slice none 0 0, Value.slice none 0 0, Value.slice none 0 0], Value.int IntKind.i64 ↑a, Value.int IntKind.i64 ↑a, Value.bool false, u23, u24, u25, u26, u27, u28, u29, u30, u31, u32, Value.int IntKind.i64 ↑b, Value.int IntKind.i64 ↑b, Value.bool false, u36, u37, u38, u39, u40, u41, u42, u43, u44, u45, Value.int IntKind.i64 ↑done.length, Value.int IntKind.i64 ↑c, Value.bool true, u49, u50, v51, v52, v53, v54, v55, v56, v57, v58, v59, v60, v61, v62, undef, undef, undef, undef, undef, undef, undef, undef, undef, undef, undef, undef, undef, undef, undef, undef, undef, undef, undef, undef, undef, undef, undef, undef, undef, undef], []⟩ ∧ Shut (s.sid = nmL done.length) ∧ NS w.heap.size (w.heap.size + 1) wr0 w' (.slice (some ⟨w.heap.size, 0, none⟩) 1 1) (.slice ada a cpa) (.slice ad b cp) [[117]] (nms a) (nms b) (some ⟨g, 0, none⟩) cp' (done ++ [s]))) mixed3 (by kernel_rfl) ?_ ?_ ?_
              · exact .inl ⟨false, false, false, false, false, false, false, false, false, u51, u52, u53, u54, u55, u56, u57, u58, u59, u60, u61, u62, rfl, rfl, (fun h => by cases h), (fun h => by cases h), (fun h => by cases h), (fun h => by cases h), (fun h => by cases h), (fun h => by cases h), (fun h => by cases h), (fun h => by cases h), (fun h => by cases h), hN.step ⟨rfl, rfl, Nat.le_refl _, fun _ _ => rfl⟩⟩
              · rintro listed a1 w1 i hJ hi
                have hlt : i < 13 := by obtain ⟨_, o, ho, _⟩ := mem_ready.1 hi; exact (Array.getElem?_eq_some_iff.1 ho).1
                rcases hJ with ⟨l0, l1, l2, l3, l4, l5, l6, l7, l8, v51, v52, v53, v54, v55, v56, v57, v58, v59, v60, v61, v62, rfl, rfl, h0, h1, h2, h3, h4, h5, h6, h7, h8, hM⟩ | ⟨l0, l1, v51, v52, v53, v54, v55, v56, v57, v58, v59, v60, v61, v62, W, s, rfl, rfl, h0, h1, hs, rfl, hM, hO, rfl⟩ | ⟨l11, v51, v52, v53, v54, v55, v56, v57, v58, v59, v60, v61, v62, W, s, g, cp', rfl, rfl, h11, hs, hM, hO, rfl, hG, hR⟩ | ⟨v51, v52, v53, v54, v55, v56, v57, v58, v59, v60, v61, v62, s, g, cp', rfl, rfl, hs, hM⟩
                · obtain rfl | rfl | rfl | rfl | rfl | rfl | rfl | rfl | rfl | rfl | rfl | rfl | rfl := (by omega : i = 0 ∨ i = 1 ∨ i = 2 ∨ i = 3 ∨ i = 4 ∨ i = 5 ∨ i = 6 ∨ i = 7 ∨ i = 8 ∨ i = 9 ∨ i = 10 ∨ i = 11 ∨ i = 12)
                  · refine wpOp_run (by rfl) (by rfl) fun K hK => ?_
                    unfold Oper.wp; go_simp
                    exact hK.out _ _ (.inl ⟨true, l1, l2, l3, l4, l5, l6, l7, l8, _, _, _, _, _, _, _, _, _, _, _, _, rfl, rfl, fun _ => rfl, (fun h => ⟨rfl, (h1 h).2⟩), h2, h3, h4, h5, h6, h7, h8, hM⟩)
                  · obtain ⟨hun, hall⟩ := ready_deps hi (by rfl)
                    have d0 : l0 = true := hall ⟨0, .data⟩ (by simp) rfl
                    obtain rfl := h0 d0
                    have e4 := hM.cell4
                    refine wpOp_run (by rfl) (by rfl) fun K hK => ?_
                    unfold Oper.wp; go_simp
                    exact hK.out _ _ (.inl ⟨l0, true, l2, l3, l4, l5, l6, l7, l8, _, _, _, _, _, _, _, _, _, _, _, _, rfl, rfl, h0, (fun _ => ⟨d0, rfl⟩), h2, h3, h4, h5, h6, h7, h8, hM⟩)
                  · refine wpOp_run (by rfl) (by rfl) fun K hK => ?_
                    unfold Oper.wp; go_simp
                    exact hK.out _ _ (.inl ⟨l0, l1, true, l3, l4, l5, l6, l7, l8, _, _, _, _, _, _, _, _, _, _, _, _, rfl, rfl, h0, h1, fun _ => rfl, h3, (fun h => ⟨rfl, (h4 h).2⟩), h5, h6, h7, h8, hM⟩)
                  · refine wpOp_run (by rfl) (by rfl) fun K hK => ?_
                    unfold Oper.wp; go_simp
                    exact hK.out _ _ (.inl ⟨l0, l1, l2, true, l4, l5, l6, l7, l8, _, _, _, _, _, _, _, _, _, _, _, _, rfl, rfl, h0, h1, h2, fun _ => rfl, (fun h => ⟨(h4 h).1, rfl, (h4 h).2.2⟩), h5, h6, h7, h8, hM⟩)
                  · obtain ⟨hun, hall⟩ := ready_deps hi (by rfl)
                    have d2 : l2 = true := hall ⟨2, .data⟩ (by simp) rfl
                    have d3 : l3 = true := hall ⟨3, .data⟩ (by simp) rfl
                    obtain rfl := h2 d2
                    obtain rfl := h3 d3
                    refine wpOp_run (by rfl) (by rfl) fun K hK => ?_
                    unfold Oper.wp; go_simp
                    refine (name_calls (i := done.length) (by omega) w1).mono ?_
                    rintro e w2 ⟨rfl, hb⟩
                    try dsimp only
                    exact hK.out _ _ (.inl ⟨l0, l1, l2, l3, true, l5, l6, l7, l8, _, _, _, _, _, _, _, _, _, _, _, _, rfl, rfl, h0, h1, (fun _ => rfl), (fun _ => rfl), (fun _ => ⟨d2, d3, rfl⟩), (fun h => (h5 h).imp fun _ h => h.imp fun _ h => ⟨h.1, h.2.bel hb⟩), (fun h => (h6 h).imp fun _ h => h.imp fun _ h => ⟨h.1, h.2.bel hb⟩), (fun h => (h7 h).imp fun _ h => h.imp fun _ h => ⟨h.1, h.2.bel hb⟩), (fun h => ⟨rfl, (h8 h).2.1, (h8 h).2.2.1, (h8 h).2.2.2.1, absurd (h8 h).1 (by rw [show l4 = false from hun]; simp)⟩), (hM.step hb)⟩)
                  · obtain ⟨hun, hall⟩ := ready_deps hi (by rfl)
                    refine wpOp_run (by rfl) (by rfl) fun K hK => ?_
                    unfold Oper.wp; go_simp
                    exact hK.out _ _ (.inl ⟨l0, l1, l2, l3, l4, true, l6, l7, l8, _, _, _, _, _, _, _, _, _, _, _, _, rfl, rfl, h0, h1, h2, h3, h4, (fun _ => ⟨_, _, rfl, World.ownsRow_lit (base := w.heap.size) (e := 9) (size := 1) w1 #[.string ⟨#[117]⟩] 1 (Nat.le_trans (by omega) (Nat.le_of_lt hM.lt)) (by unfold maxLen; decide) rfl⟩), (fun h => (h6 h).imp fun _ h => h.imp fun _ h => ⟨h.1, h.2.bel (bel_alloc w1 _)⟩), (fun h => (h7 h).imp fun _ h => h.imp fun _ h => ⟨h.1, h.2.bel (bel_alloc w1 _)⟩), (fun h => absurd (h8 h).2.1 (by rw [show l5 = false from hun]; simp)), (hM.step (bel_alloc w1 _))⟩)
                  · obtain ⟨hun, hall⟩ := ready_deps hi (by rfl)
                    refine wpOp_run (by rfl) (by rfl) fun K hK => ?_
                    unfold Oper.wp; go_simp
                    exact hK.out _ _ (.inl ⟨l0, l1, l2, l3, l4, l5, true, l7, l8, _, _, _, _, _, _, _, _, _, _, _, _, rfl, rfl, h0, h1, h2, h3, h4, (fun h => (h5 h).imp fun _ h => h.imp fun _ h => ⟨h.1, h.2.bel (bel_alloc w1 _)⟩), (fun _ => ⟨_, _, rfl, World.ownsRow_lit (base := w.heap.size) (e := 9) (size := 1) w1 #[.string ⟨#[42]⟩] 1 (Nat.le_trans (by omega) (Nat.le_of_lt hM.lt)) (by unfold maxLen; decide) rfl⟩), (fun h => (h7 h).imp fun _ h => h.imp fun _ h => ⟨h.1, h.2.bel (bel_alloc w1 _)⟩), (fun h => absurd (h8 h).2.2.1 (by rw [show l6 = false from hun]; simp)), (hM.step (bel_alloc w1 _))⟩)
                  · obtain ⟨hun, hall⟩ := ready_deps hi (by rfl)
                    refine wpOp_run (by rfl) (by rfl) fun K hK => ?_
                    unfold Oper.wp; go_simp
                    exact hK.out _ _ (.inl ⟨l0, l1, l2, l3, l4, l5, l6, true, l8, _, _, _, _, _, _, _, _, _, _, _, _, rfl, rfl, h0, h1, h2, h3, h4, (fun h => (h5 h).imp fun _ h => h.imp fun _ h => ⟨h.1, h.2.bel (bel_alloc w1 _)⟩), (fun h => (h6 h).imp fun _ h => h.imp fun _ h => ⟨h.1, h.2.bel (bel_alloc w1 _)⟩), (fun _ => ⟨_, _, rfl, World.ownsRow_lit (base := w.heap.size) (e := 9) (size := 1) w1 #[.string ⟨#[42]⟩] 1 (Nat.le_trans (by omega) (Nat.le_of_lt hM.lt)) (by unfold maxLen; decide) rfl⟩), (fun h => absurd (h8 h).2.2.2.1 (by rw [show l7 = false from hun]; simp)), (hM.step (bel_alloc w1 _))⟩)
                  · obtain ⟨hun, hall⟩ := ready_deps hi (by rfl)
                    have d4 : l4 = true := hall ⟨4, .data⟩ (by simp) rfl
                    have d5 : l5 = true := hall ⟨5, .data⟩ (by simp) rfl
                    have d6 : l6 = true := hall ⟨6, .data⟩ (by simp) rfl
                    have d7 : l7 = true := hall ⟨7, .data⟩ (by simp) rfl
                    obtain ⟨d2, d3, rfl⟩ := h4 d4
                    obtain ⟨a5, c5, rfl, t5⟩ := h5 d5
                    obtain ⟨a6, c6, rfl, t6⟩ := h6 d6
                    obtain ⟨a7, c7, rfl, t7⟩ := h7 d7
                    refine wpOp_run (by rfl) (by rfl) fun K hK => ?_
                    unfold Oper.wp; go_simp
                    exact hK.out _ _ (.inl ⟨l0, l1, l2, l3, l4, l5, l6, l7, true, _, _, _, _, _, _, _, _, _, _, _, _, rfl, rfl, h0, h1, (by first | exact h2 | exact fun _ => rfl), (by first | exact h3 | exact fun _ => rfl), h4, h5, h6, h7, (fun _ => ⟨d4, d5, d6, d7, rfl⟩), hM⟩)
                  · obtain ⟨hun, hall⟩ := ready_deps hi (by rfl)
                    have d8 : l8 = true := hall ⟨8, .data⟩ (by simp) rfl
                    obtain ⟨d4, d5, d6, d7, rfl⟩ := h8 d8
                    obtain ⟨d2, d3, rfl⟩ := h4 d4
                    obtain ⟨a5, c5, rfl, t5⟩ := h5 d5
                    obtain ⟨a6, c6, rfl, t6⟩ := h6 d6
                    obtain ⟨a7, c7, rfl, t7⟩ := h7 d7
                    subst d2 d3 d4 d5 d6 d7 d8
                    refine wpOp_run (by rfl) (by rfl) fun K hK => ?_
                    unfold Oper.wp; go_simp
                    exact hK.out _ _ (.inr (.inl ⟨l0, l1, _, _, _, _, _, _, _, _, _, _, _, _, w1, ⟨nmL done.length, .slice a5 1 c5, .slice none 0 0, .slice a6 1 c6, .slice a7 1 c7⟩, rfl, rfl, h0, h1, rfl, rfl, hM, ⟨t5, World.ownsRow_nil _ _ _ _, t6, t7⟩, rfl⟩))
                  · obtain ⟨hun, hall⟩ := ready_deps hi (by rfl)
                    cases (show false = true from hall ⟨9, .data⟩ (by simp) rfl)
                  · obtain ⟨hun, hall⟩ := ready_deps hi (by rfl)
                    cases (show false = true from hall ⟨9, .phase⟩ (by simp) rfl)
                  · obtain ⟨hun, hall⟩ := ready_deps hi (by rfl)
                    cases (show false = true from hall ⟨11, .data⟩ (by simp) rfl)
                · obtain rfl | rfl | rfl | rfl | rfl | rfl | rfl | rfl | rfl | rfl | rfl | rfl | rfl := (by omega : i = 0 ∨ i = 1 ∨ i = 2 ∨ i = 3 ∨ i = 4 ∨ i = 5 ∨ i = 6 ∨ i = 7 ∨ i = 8 ∨ i = 9 ∨ i = 10 ∨ i = 11 ∨ i = 12)
                  · refine wpOp_run (by rfl) (by rfl) fun K hK => ?_
                    unfold Oper.wp; go_simp
                    exact hK.out _ _ (.inr (.inl ⟨true, l1, _, _, _, _, _, _, _, _, _, _, _, _, W, s, rfl, rfl, fun _ => rfl, (fun h => ⟨rfl, (h1 h).2⟩), hs, rfl, hM, hO, rfl⟩))
                  · obtain ⟨hun, hall⟩ := ready_deps hi (by rfl)
                    have d0 : l0 = true := hall ⟨0, .data⟩ (by simp) rfl
                    obtain rfl := h0 d0
                    have e4 := (hM.step (bel_alloc W (.cells #[.string ⟨⟨s.sid⟩⟩, .bool false, s.u, s.g, s.a, s.r] 31))).cell4
                    refine wpOp_run (by rfl) (by rfl) fun K hK => ?_
                    unfold Oper.wp; go_simp
                    exact hK.out _ _ (.inr (.inl ⟨l0, true, _, _, _, _, _, _, _, _, _, _, _, _, W, s, rfl, rfl, h0, (fun _ => ⟨d0, rfl⟩), hs, rfl, hM, hO, rfl⟩))
                  · obtain ⟨hun, hall⟩ := ready_deps hi (by rfl)
                    cases (show true = false from hun)
                  · obtain ⟨hun, hall⟩ := ready_deps hi (by rfl)
                    cases (show true = false from hun)
                  · obtain ⟨hun, hall⟩ := ready_deps hi (by rfl)
                    cases (show true = false from hun)
                  · obtain ⟨hun, hall⟩ := ready_deps hi (by rfl)
                    cases (show true = false from hun)
                  · obtain ⟨hun, hall⟩ := ready_deps hi (by rfl)
                    cases (show true = false from hun)
                  · obtain ⟨hun, hall⟩ := ready_deps hi (by rfl)
                    cases (show true = false from hun)
                  · obtain ⟨hun, hall⟩ := ready_deps hi (by rfl)
                    cases (show true = false from hun)
                  · obtain ⟨hun, hall⟩ := ready_deps hi (by rfl)
                    cases (show true = false from hun)
                  · obtain ⟨hun, hall⟩ := ready_deps hi (by rfl)
                    have d1 : l1 = true := hall ⟨1, .data⟩ (by simp) rfl
                    obtain ⟨d0, rfl⟩ := h1 d1
                    subst d0 d1
                    have hone := one_cells hO
                    refine wpOp_run (by rfl) (by rfl) fun K hK => ?_
                    refine wp_append_lies _ _ _ _ (by rfl) (w.heap.size + 1 + 1) 31 i31 _ 6 120 Tryz.underlying24 hi31 hz0 hz1 hz2 rfl (by decide) (.slice ad4 done.length cp4) done.length (flatS done) (by rfl) (hM.step (bel_alloc W _)).own ⟨W.heap.size, 0, none⟩ 1 1 s.cells (by rfl) (by rfl) (st_news W s) hone (by decide) (by unfold maxLen; omega) (by omega) (Nat.le_trans hM.lt (bel_alloc _ _).size) (W.heap.size + 1) (alloc_sz rfl _) ?_
                    intro g cp' w6 hown6 hgrow6 hat6 hlt6
                    exact hK.out _ _ (.inr (.inr (.inl ⟨false, _, _, _, _, _, _, _, _, _, _, _, _, W, s, g, cp', rfl, rfl, (fun h => by cases h), hs, hM, hO, rfl, hgrow6, hown6⟩)))
                  · obtain ⟨hun, hall⟩ := ready_deps hi (by rfl)
                    cases (show false = true from hall ⟨10, .phase⟩ (by simp) rfl)
                  · obtain ⟨hun, hall⟩ := ready_deps hi (by rfl)
                    cases (show false = true from hall ⟨11, .data⟩ (by simp) rfl)
                · obtain rfl | rfl | rfl | rfl | rfl | rfl | rfl | rfl | rfl | rfl | rfl | rfl | rfl := (by omega : i = 0 ∨ i = 1 ∨ i = 2 ∨ i = 3 ∨ i = 4 ∨ i = 5 ∨ i = 6 ∨ i = 7 ∨ i = 8 ∨ i = 9 ∨ i = 10 ∨ i = 11 ∨ i = 12)
                  · obtain ⟨hun, hall⟩ := ready_deps hi (by rfl)
                    cases (show true = false from hun)
                  · obtain ⟨hun, hall⟩ := ready_deps hi (by rfl)
                    cases (show true = false from hun)
                  · obtain ⟨hun, hall⟩ := ready_deps hi (by rfl)
                    cases (show true = false from hun)
                  · obtain ⟨hun, hall⟩ := ready_deps hi (by rfl)
                    cases (show true = false from hun)
                  · obtain ⟨hun, hall⟩ := ready_deps hi (by rfl)
                    cases (show true = false from hun)
                  · obtain ⟨hun, hall⟩ := ready_deps hi (by rfl)
                    cases (show true = false from hun)
                  · obtain ⟨hun, hall⟩ := ready_deps hi (by rfl)
                    cases (show true = false from hun)
                  · obtain ⟨hun, hall⟩ := ready_deps hi (by rfl)
                    cases (show true = false from hun)
                  · obtain ⟨hun, hall⟩ := ready_deps hi (by rfl)
                    cases (show true = false from hun)
                  · obtain ⟨hun, hall⟩ := ready_deps hi (by rfl)
                    cases (show true = false from hun)
                  · obtain ⟨hun, hall⟩ := ready_deps hi (by rfl)
                    cases (show true = false from hun)
                  · refine wpOp_run (by rfl) (by rfl) fun K hK => ?_
                    unfold Oper.wp; go_simp
                    exact hK.out _ _ (.inr (.inr (.inl ⟨true, _, _, _, _, _, _, _, _, _, _, _, _, W, s, g, cp', rfl, rfl, fun _ => rfl, hs, hM, hO, rfl, hG, hR⟩)))
                  · obtain ⟨hun, hall⟩ := ready_deps hi (by rfl)
                    have d11 : l11 = true := hall ⟨11, .data⟩ (by simp) rfl
                    obtain rfl := h11 d11
                    have hC6 := (hG.block (w.heap.size + 1) ((hM.step (bel_alloc W (.cells #[.string ⟨⟨s.sid⟩⟩, .bool false, s.u, s.g, s.a, s.r] 31))).lt) fun e => absurd (own_type (hM.step (bel_alloc W (.cells #[.string ⟨⟨s.sid⟩⟩, .bool false, s.u, s.g, s.a, s.r] 31))).own e.symm).1 (by omega)).trans (hM.step (bel_alloc W (.cells #[.string ⟨⟨s.sid⟩⟩, .bool false, s.u, s.g, s.a, s.r] 31))).blk
                    have e6 : w1.cell? ⟨w.heap.size + 1, 4, none⟩ = some (.slice ad4 done.length cp4) := by rw [Lib.cell_of_heap hC6]; rfl
                    have f6 : w1.frozen? ⟨w.heap.size + 1, 4, none⟩ = false := by unfold World.frozen?; rw [hC6]; rfl
                    refine wpOp_run (by rfl) (by rfl) fun K hK => ?_
                    unfold Oper.wp; go_simp
                    exact hK.out _ _ (.inr (.inr (.inr ⟨_, _, _, _, _, _, _, _, _, _, _, _, s, g, cp', by rw [d11]; rfl, rfl, hs, hM.push hO hG hR⟩)))
                · obtain rfl | rfl | rfl | rfl | rfl | rfl | rfl | rfl | rfl | rfl | rfl | rfl | rfl := (by omega : i = 0 ∨ i = 1 ∨ i = 2 ∨ i = 3 ∨ i = 4 ∨ i = 5 ∨ i = 6 ∨ i = 7 ∨ i = 8 ∨ i = 9 ∨ i = 10 ∨ i = 11 ∨ i = 12)
                  · obtain ⟨hun, hall⟩ := ready_deps hi (by rfl)
                    cases (show true = false from hun)
                  · obtain ⟨hun, hall⟩ := ready_deps hi (by rfl)
                    cases (show true = false from hun)
                  · obtain ⟨hun, hall⟩ := ready_deps hi (by rfl)
                    cases (show true = false from hun)
                  · obtain ⟨hun, hall⟩ := ready_deps hi (by rfl)
                    cases (show true = false from hun)
                  · obtain ⟨hun, hall⟩ := ready_deps hi (by rfl)
                    cases (show true = false from hun)
                  · obtain ⟨hun, hall⟩ := ready_deps hi (by rfl)
                    cases (show true = false from hun)
                  · obtain ⟨hun, hall⟩ := ready_deps hi (by rfl)
                    cases (show true = false from hun)
                  · obtain ⟨hun, hall⟩ := ready_deps hi (by rfl)
                    cases (show true = false from hun)
                  · obtain ⟨hun, hall⟩ := ready_deps hi (by rfl)
                    cases (show true = false from hun)
                  · obtain ⟨hun, hall⟩ := ready_deps hi (by rfl)
                    cases (show true = false from hun)
                  · obtain ⟨hun, hall⟩ := ready_deps hi (by rfl)
                    cases (show true = false from hun)
                  · obtain ⟨hun, hall⟩ := ready_deps hi (by rfl)
                    cases (show true = false from hun)
                  · obtain ⟨hun, hall⟩ := ready_deps hi (by rfl)
                    cases (show true = false from hun)
              · rintro listed a1 w1 hJ hall
                rcases hJ with ⟨l0, l1, l2, l3, l4, l5, l6, l7, l8, v51, v52, v53, v54, v55, v56, v57, v58, v59, v60, v61, v62, rfl, rfl, h0, h1, h2, h3, h4, h5, h6, h7, h8, hM⟩ | ⟨l0, l1, v51, v52, v53, v54, v55, v56, v57, v58, v59, v60, v61, v62, W, s, rfl, rfl, h0, h1, hs, rfl, hM, hO, rfl⟩ | ⟨l11, v51, v52, v53, v54, v55, v56, v57, v58, v59, v60, v61, v62, W, s, g, cp', rfl, rfl, h11, hs, hM, hO, rfl, hG, hR⟩ | ⟨v51, v52, v53, v54, v55, v56, v57, v58, v59, v60, v61, v62, s, g, cp', rfl, rfl, hs, hM⟩
                · cases (show false = true from hall 9 (by decide))
                · cases (show false = true from hall 10 (by decide))
                · cases (show false = true from hall 12 (by decide))
                · go_wp2
                  go_simp
                  exact ⟨⟨done ++ [s], by simp, by simp; omega, ⟨_, _, hM⟩, sids_snoc hsd hs⟩, by simp [iOf]; omega⟩
            · have hi1 : ¬ (done.length : Int) < (c : Int) := by omega
              have hcc : done.length = c := by omega
              have hab : a * b ≤ 511 * 511 := Nat.mul_le_mul ha hb
              have hcab : c * (4 + a * b) ≤ 7 * (4 + 511 * 511) := Nat.mul_le_mul hc (by omega)
              have hcw := count_walk (w := wr) (us := [[117]]) (ls := nms a) (rs := nms b) (au := some ⟨w.heap.size, 0, none⟩) (al := ada) (ak := ad) (ag := none) (ar := ad4) (ab := none) (cu := 1) (cl := cpa) (ck := cp) (cg := 0) (cr := cp4) (cb := 0) (rows := done) hN.u.at (by rw [nms_len]; exact hN.a.at) (by rw [nms_len]; exact hN.r.at) hN.own.at (rise_nms hsd.out (by omega)) (by omega) (fun s hs => ⟨(hN.ok s hs).u.at, (hN.ok s hs).g.at, (hN.ok s hs).a.at, (hN.ok s hs).r.at⟩) (by decide) (by rw [nms_len]; exact ha) (by rw [nms_len]; exact hb) (once_one _) (once_nms (by omega)) (once_nms (by omega)) (by intro p hp; simp at hp; subst hp; decide)
              rw [nms_len, nms_len, hcc] at hcw
              have hz := fun W : World => count_walk (w := W) (us := []) (ls := []) (rs := []) (au := none) (al := none) (ak := none) (ag := none) (ar := none) (ab := none) (cu := 0) (cl := 0) (ck := 0) (cg := 0) (cr := 0) (cb := 0) (rows := []) (.inl ⟨_, rfl, rfl⟩) (.inl ⟨_, rfl, rfl⟩) (.inl ⟨_, rfl, rfl⟩) ⟨0, 0, fun e => absurd rfl e, fun i s hi => by simp at hi⟩ (fun i x y hx => by simp at hx) (by decide) (fun s hs => by cases hs) (by decide) (by decide) (by decide) once_nil once_nil once_nil (by intro p hp; cases hp)
              obtain ⟨q0, q1, q2, q3, q4, q5, _⟩ := own6 hN.blk
              have hbw2 : Bel w.heap.size w wr := hbW.trans (hN.bel.mono (by omega))
              rw [hcc] at q4
              clear hsd hN hcc hic hbW hN0
              generalize hAB : a * b = AB at hab hcab hcw
              have g1 : (a : Int) * (b : Int) = (AB : Int) := by rw [← hAB]; exact (Int.natCast_mul _ _).symm
              generalize hCC : c * (4 + AB) = CC at hcab hcw
              have g2 : (c : Int) * (4 + (AB : Int)) = (CC : Int) := by rw [← hCC, Int.natCast_mul, Int.natCast_add]; rfl
              clear hAB hCC
              go_wp2_with (first
                | (go_at_call 6; refine (Go.Rx.awake_calls _).mono ?_; rintro e w5 ⟨rfl, hb5⟩)
                | (go_at_call 5; refine hz5.mono ?_; rintro e w4 ⟨rfl, hb4⟩)
                | (go_at_call 5; refine hcw.mono ?_; rintro e w3 ⟨rfl, hb3⟩; have hz5 := hz w3; clear hcw))
              go_ret
              have hb6 : Bel w4.heap.size w4 w5 := ⟨hb5.1.1.1, hb5.1.1.2.1, hb5.1.2.2, hb5.2⟩
              exact ⟨rfl, hbw2.trans (((hb3.trans (hb4.mono hb3.size)).trans (hb6.mono (Nat.le_trans hb3.size hb4.size))).mono hbw2.size)⟩
end Go.Fbs
