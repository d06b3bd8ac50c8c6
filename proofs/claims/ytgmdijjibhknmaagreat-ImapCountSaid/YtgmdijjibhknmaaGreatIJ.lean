/- The insertion sort over statements that rise, walked. -/
import Derived.Test.YtgmdijjibhknmaaGreatII
import Derived.StillTailTactics
set_option linter.unusedVariables false
set_option linter.unusedSimpArgs false
set_option maxRecDepth 100000
namespace Go.Fbs
open Go.Proofs Go.RowKit Go.Maps
variable {w w' wr : World}
structure SM where
  sid : B8
  u : Value
  g : Value
  a : Value
  r : Value
def SM.cells (s : SM) : List Value := [.string ⟨⟨s.sid⟩⟩, .bool false, s.u, s.g, s.a, s.r]
def StAt (w : World) (ad : Option Addr) (rows : List SM) : Prop := ∃ b off, (rows ≠ [] → ad = some ⟨b, off, none⟩) ∧ ∀ i s, rows[i]? = some s → ∀ j x, s.cells[j]? = some x → w.cell? ⟨b, off + i * 6 + j, none⟩ = some x
def Rise (rows : List SM) : Prop := ∀ i x y, rows[i]? = some x → rows[i + 1]? = some y → cmpS y.sid x.sid false false = 1
theorem cell_lt {b off : Nat} {x : Value} (h : w.cell? ⟨b, off, none⟩ = some x) : b < w.heap.size := by
  unfold World.cell? at h
  rcases Nat.lt_or_ge b w.heap.size with h1 | h1
  · exact h1
  · dsimp only at h
    rw [Array.getElem?_eq_none h1] at h; cases h
theorem StAt.bel {ad : Option Addr} {rows : List SM} (h : StAt w ad rows) (hb : Bel w.heap.size w wr) : StAt wr ad rows := by
  obtain ⟨b, off, h1, h2⟩ := h
  exact ⟨b, off, h1, fun i s hi j x hj => by
    have := h2 i s hi j x hj
    rw [World.cell?_of_block (hb.block b (cell_lt this))]; exact this⟩
theorem StAt.get {ad : Option Addr} {rows : List SM} (h : StAt w ad rows) : ∃ b off, (rows ≠ [] → ad = some ⟨b, off, none⟩) ∧ ∀ (i : Nat) (s : SM), rows[i]? = some s →
    w.cell? ⟨b, off + i * 6, none⟩ = some (.string ⟨⟨s.sid⟩⟩) ∧ w.cell? ⟨b, off + i * 6 + 1, none⟩ = some (.bool false) ∧ w.cell? ⟨b, off + i * 6 + 2, none⟩ = some s.u ∧ w.cell? ⟨b, off + i * 6 + 3, none⟩ = some s.g ∧ w.cell? ⟨b, off + i * 6 + 4, none⟩ = some s.a ∧ w.cell? ⟨b, off + i * 6 + 5, none⟩ = some s.r := by
  obtain ⟨b, off, h1, h2⟩ := h
  exact ⟨b, off, h1, fun i s hi => ⟨h2 i s hi 0 _ rfl, h2 i s hi 1 _ rfl, h2 i s hi 2 _ rfl, h2 i s hi 3 _ rfl, h2 i s hi 4 _ rfl, h2 i s hi 5 _ rfl⟩⟩
theorem ahead_calls {s t : B8} {v2 v3 v4 v5 u2 u3 u4 u5 : Value} {w : World} (hc : cmpS s t false false = 1) :
    Calls Tryz.prog 22 #[.agg #[.string ⟨⟨s⟩⟩, .bool false, v2, v3, v4, v5], .agg #[.string ⟨⟨t⟩⟩, .bool false, u2, u3, u4, u5]] w fun e w' => e = .returned (.int .i64 1) ∧ Bel w.heap.size w w' := by
  have := cmpS_calls (a := s) (b := t) (d := false) (d2 := false) (v1 := v2) (v2 := v3) (v3 := v4) (v4 := v5) (u1 := u2) (u2 := u3) (u3 := u4) (u4 := u5) w
  rw [hc] at this
  exact this
set_option maxHeartbeats 400000 in
theorem isort_walk {ad : Option Addr} {cp : Nat} {rows : List SM} (h : StAt w ad rows) (hr : Rise rows) (hn : rows.length ≤ 1000) :
    Calls Tryz.prog 116 #[.slice ad rows.length cp, .int .i64 0, .int .i64 rows.length, .func (.func 22) #[] #[]] w fun e w' => e = .returned (.tuple #[]) ∧ Bel w.heap.size w w' := by
  go_enter Tryz.func116, Tryz.ntmps116
  go_wp2
  go_loopw [8] (fun i wr => ∃ j : Nat, 0 < j ∧ i = .int .i64 j ∧ Bel w.heap.size w wr) (fun i _ => rows.length - (iOf i).toNat)
  case atStart => exact ⟨1, by decide, rfl, Bel.refl _ _⟩
  case round =>
    obtain ⟨j, hpos, rfl, hb⟩ := hrel
    by_cases hjl : j < rows.length
    · have hj1 : (j : Int) < (rows.length : Int) := by omega
      obtain ⟨k, hk⟩ : ∃ k, j = k + 1 := ⟨j - 1, by omega⟩
      obtain ⟨⟨s1, u1, g1, a1, r1⟩, hx⟩ : ∃ s, rows[k]? = some s := ⟨_, List.getElem?_eq_getElem (by omega)⟩
      obtain ⟨⟨s2, u2, g2, a2, r2⟩, hy⟩ : ∃ s, rows[j]? = some s := ⟨_, List.getElem?_eq_getElem hjl⟩
      obtain ⟨b, off, had, hg⟩ := (h.bel hb).get
      obtain rfl := had (fun e => by rw [e] at hjl; simp at hjl)
      obtain ⟨x0, x1, x2, x3, x4, x5⟩ := hg k _ hx
      obtain ⟨y0, y1, y2, y3, y4, y5⟩ := hg j _ hy
      dsimp only at x0 x1 x2 x3 x4 x5 y0 y1 y2 y3 y4 y5
      have hcm := ahead_calls (v2 := u2) (v3 := g2) (v4 := a2) (v5 := r2) (u2 := u1) (u3 := g1) (u4 := a1) (u5 := r1) (w := wr.drew) (hr k _ _ hx (by rw [← hk]; exact hy))
      dsimp only at hcm
      have hw1 : IntKind.i64.wrap ((j : Int) - 1) = (k : Int) := by rw [wrapZ (by omega) (by omega)]; omega
      have hw2 : IntKind.i64.wrap ((j : Int) + 1) = (j : Int) + 1 := wrapZ (by omega) (by omega)
      have hp : (0 : Int) < (j : Int) := by omega
      have hkz : (0 : Int) ≤ (k : Int) := by omega
      have hjz : (0 : Int) ≤ (j : Int) := by omega
      have hkl : (k : Int) < (rows.length : Int) := by omega
      have hms : rows.length - (j + 1) < rows.length - j := by omega
      clear hg hx hy hk had hr h
      go_wp2
      go_loopw [9] (fun i wr2 => i = .int .i64 j ∧ wr2 = wr) (fun _ _ => 0)
      case atStart => exact ⟨rfl, rfl⟩
      case round =>
        obtain ⟨rfl, hww⟩ := hrel
        subst hww
        go_wp2
        go_still_tail 14, (by kernel_rfl)
        go_wp2_with (go_at_call 22; refine hcm.mono ?_; rintro e w5 ⟨rfl, hb5⟩)
        have hb6 : Bel wr.heap.size wr w5 := ⟨hb5.os, hb5.output, hb5.size, hb5.block⟩
        exact ⟨⟨j + 1, by omega, by simp, hb.trans (hb6.mono hb.size)⟩, by simp [iOf]; omega⟩
    · have hj1 : ¬ (j : Int) < (rows.length : Int) := by omega
      go_wp2
      go_end0
      exact ⟨rfl, hb⟩
end Go.Fbs
