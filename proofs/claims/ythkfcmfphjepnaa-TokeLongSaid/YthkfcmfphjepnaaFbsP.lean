/- Functions that only read: from what the evaluator says of the body to what a call does, in whatever memory. -/
import Derived.Test.YthkfcmfphjepnaaFbsO
set_option linter.unusedVariables false
set_option linter.unusedSimpArgs false
namespace Go.Fbs

mutual
/-- Nothing that leads into a box, no room behind a slice. -/
def V.plain : V → Bool
  | .ptr _ _ => false
  | .map (some _) => false
  | .sl (.own _) _ => false
  | .sl _ es => plains es
  | .agg cs => plains cs
  | .ro cs => plains cs
  | .func _ cs => plains cs
  | .tup vs => plains vs
  | _ => true
def plains : List V → Bool
  | [] => true
  | v :: vs => v.plain && plains vs
end

theorem plains_iff : ∀ {vs : List V}, plains vs = true ↔ ∀ v ∈ vs, v.plain = true
  | [] => by simp [plains]
  | v :: vs => by simp [plains, plains_iff (vs := vs)]

theorem plains_map {α : Type} {f : α → V} {l : List α} (h : ∀ a, (f a).plain = true) : plains (l.map f) = true :=
  plains_iff.2 fun v hv => by obtain ⟨a, _, rfl⟩ := List.mem_map.1 hv; exact h a

theorem plain_cells {v : V} (h : v.plain = true) : ∀ c ∈ v.cells, c.plain = true := by
  cases v with
  | agg cs => simp only [V.plain] at h; exact plains_iff.1 h
  | _ => intro c hc; simp [V.cells] at hc; subst hc; exact h

theorem plain_flat {es : List V} (h : plains es = true) : ∀ c ∈ flat es, c.plain = true := by
  intro c hc
  simp only [flat, List.mem_flatMap] at hc
  obtain ⟨e, he, hc⟩ := hc
  exact plain_cells (plains_iff.1 h e he) c hc

theorem rep_plain {κ κ' : Ctx} {h : Heap} (hw : ∀ b, κ.hw b ≤ κ'.hw b) {v : V} {x : Value} (r : Rep κ h v x) (hp : v.plain = true) : Rep κ' h v x := by
  have hb : ∀ {b off : Nat} {xs : List Value}, Block κ h b off xs → Block κ' h b off xs := fun hx i y hy => let ⟨h1, h2⟩ := hx i y hy; ⟨Nat.lt_of_lt_of_le h1 (hw _), h2⟩
  induction r with
  | bool b => exact .bool b
  | int k n => exact .int k n
  | str s => exact .str s
  | ptr l off b _ => simp [V.plain] at hp
  | ro cs b off xs hx hl _ ih =>
    simp only [V.plain] at hp
    exact .ro cs b off xs (hb hx) hl (fun i c x h1 h2 => ih i c x h1 h2 (plains_iff.1 hp c (List.mem_of_getElem? h1)))
  | nilp => exact .nilp
  | slnil g hg => exact .slnil g hg
  | sl g es b off cap sz xs hx hu hl _ hc ht ih =>
    cases g with
    | own i => simp [V.plain] at hp
    | ro =>
      simp only [V.plain] at hp
      exact .sl .ro es b off cap sz xs (hb hx) hu hl (fun i c x h1 h2 => ih i c x h1 h2 (plain_flat hp c (List.mem_of_getElem? h1))) hc trivial
    | full =>
      simp only [V.plain] at hp
      exact .sl .full es b off cap sz xs (hb hx) hu hl (fun i c x h1 h2 => ih i c x h1 h2 (plain_flat hp c (List.mem_of_getElem? h1))) hc ht
  | mapnil => exact .mapnil
  | map l b _ => simp [V.plain] at hp
  | func f caps xs hl _ ih =>
    simp only [V.plain] at hp
    exact .func f caps xs hl (fun i c x h1 h2 => ih i c x h1 h2 (plains_iff.1 hp c (List.mem_of_getElem? h1)))
  | agg cs xs hl ho _ ih =>
    simp only [V.plain] at hp
    exact .agg cs xs hl ho (fun i c x h1 h2 => ih i c x h1 h2 (plains_iff.1 hp c (List.mem_of_getElem? h1)))
  | tup cs xs hl _ ih =>
    simp only [V.plain] at hp
    exact .tup cs xs hl (fun i c x h1 h2 => ih i c x h1 h2 (plains_iff.1 hp c (List.mem_of_getElem? h1)))
  | undef => exact .undef
  | any x => exact .any x

theorem reps_plain {κ κ' : Ctx} {h : Heap} (hw : ∀ b, κ.hw b ≤ κ'.hw b) {vs : List V} {xs : List Value} (r : Reps κ h vs xs) (hp : plains vs = true) : Reps κ' h vs xs :=
  ⟨r.1, fun i c x h1 h2 => rep_plain hw (r.2 i c x h1 h2) (plains_iff.1 hp c (List.mem_of_getElem? h1))⟩

/-- The memory with nothing of one's own. -/
def bare (κ : Ctx) : Ctx := ⟨κ.hw, fun _ => none, []⟩

def empty : Hp := ⟨[], []⟩

theorem bare_mem {κ : Ctx} {h : Heap} {m : Hp} (k : Mem κ h m) : Mem (bare κ) h empty := by
  refine ⟨⟨?_, ?_, ?_, ?_, ?_, ?_, ?_, ?_, k.1.fresh⟩, ⟨?_, ?_⟩, rfl⟩ <;> intros <;> simp_all [bare, boxed]

theorem bare_owned {κ : Ctx} {b : Nat} : ¬ owned (bare κ) b := by
  rintro (⟨l, h⟩ | ⟨L, h, _⟩) <;> simp [bare] at h

/-- What was run with nothing of one's own, in a memory that has more. -/
theorem frame_back0 {κ κ1 : Ctx} {h h1 : Heap} {m m1 : Hp} (k : Mem κ h m) (le : Le (bare κ) h κ1 h1) (mem : Mem κ1 h1 m1) : ∃ κ', LeB κ h κ' h1 ∧ Mem κ' h1 m ∧ κ'.hw = κ1.hw := by
  let κ' : Ctx := ⟨κ1.hw, κ.box, κ.lease⟩
  obtain ⟨ok, hp, hT⟩ := k
  have hsame : ∀ b, b < h.size → h1[b]? = h[b]? := fun b hb => le.same b hb bare_owned
  have hhw : ∀ b, b < h.size → κ1.hw b = κ.hw b := fun b hb => le.hwsame b hb bare_owned
  have l : Le κ h κ' h1 := ⟨le.size, fun b hb _ => hsame b hb, fun b hb _ => hhw b hb, le.sealed, le.hw, fun _ _ h => h, fun _ h => .inl h, fun _ L h => ⟨L, h, .inl rfl⟩, fun L h => .inl ⟨L, h, rfl⟩⟩
  refine ⟨κ', ⟨l, rfl⟩, ⟨?_, hp.mono l rfl (fun b hb => hsame b (ok.boxlt b hb)), hT⟩, rfl⟩
  constructor
  · intro b hb; exact Nat.lt_of_lt_of_le (ok.boxlt b hb) le.size
  · intro b hb; exact (hhw b (ok.boxlt b hb)).trans (ok.boxhw b hb)
  · exact ok.boxnd
  · intro L hL; exact Nat.lt_of_lt_of_le (ok.lblt L hL) le.size
  · intro L hL; exact (hhw L.blk (ok.lblt L hL)).trans (ok.lhw L hL)
  · exact ok.lnd
  · exact ok.lbox
  · intro L hL
    obtain ⟨c, E, h2, h3⟩ := ok.lcells L hL
    exact ⟨c, E, by rw [hsame _ (ok.lblt L hL)]; exact h2, h3⟩
  · exact mem.1.fresh

theorem frame_back {κ κ1 : Ctx} {w w1 : World} {m m1 : Hp} (k : Mem κ w.heap m) (x : Ext (bare κ) w empty κ1 w1 m1) : ∃ κ', LeW κ w κ' w1 ∧ Mem κ' w1.heap m ∧ κ'.hw = κ1.hw :=
  let ⟨κ', l, k', h⟩ := frame_back0 k x.le x.mem
  ⟨κ', ⟨l, x.os, x.out⟩, k', h⟩

section
variable {P : Program}

/-- The frame at a function's entry. -/
def entry (n : Nat) (args : List V) : Env := ⟨n, fun i => args.getD i .undef⟩

theorem envOk_entry {κ : Ctx} {h : Heap} {args : List V} {xs : List Value} (r : Reps κ h args xs) {n : Nat} (hn : args.length ≤ n) :
    EnvOk κ h (entry n args) { tmps := (⟨xs⟩ : Array Value) ++ Array.replicate (n - (⟨xs⟩ : Array Value).size) Go.undef, defers := [] } := by
  have hl : (⟨xs⟩ : Array Value).size = args.length := r.1
  refine ⟨rfl, by simp [entry]; have := r.1; omega, fun i v x h1 h2 => ?_⟩
  have hi : i < n := Env.get_lt h1
  unfold Env.get entry at h1
  simp only at h1
  rw [if_pos hi] at h1
  simp only [Option.some.injEq] at h1
  rw [Array.getElem?_append, hl] at h2
  by_cases hia : i < args.length
  · rw [if_pos hia] at h2
    rw [List.getD_eq_getElem?_getD, List.getElem?_eq_getElem hia] at h1
    simp only [Option.getD_some] at h1
    exact r.2 i v x (by rw [List.getElem?_eq_getElem hia, h1]) (by simpa using h2)
  · rw [if_neg hia] at h2
    rw [List.getD_eq_getElem?_getD, List.getElem?_eq_none (by omega)] at h1
    simp only [Option.getD_none] at h1
    rw [Array.getElem?_replicate] at h2
    split at h2 <;> simp at h2
    subst h1; subst h2
    exact .undef

/-- A FUNCTION THAT ONLY READS. -/
theorem pure_ok {f : FuncId} {fn : Func} {c : Code} (hf : P.funcs[f]? = some fn) (hb : fn.body = some c) {args : List V} {v : V}
    (hn : args.length ≤ fn.ntmps) (h : AW P c ⟨entry fn.ntmps args, empty⟩ (fun e s => (e = .normal ∨ e = .ret) ∧ ∃ v0, resV P fn.results.toList s = some v0 ∧ v0.er = v))
    (ha : plains args = true) (hv : v.plain = true) (m : Hp) : CallOk P f args m v m := by
  intro κ w xs k ra
  have ra0 : Reps (bare κ) w.heap args xs := reps_plain (κ := κ) (κ' := bare κ) (fun _ => Nat.le_refl _) ra ha
  refine calls_of_wp hf hb (h (bare κ) w _ (bare_mem k) (envOk_entry ra0 hn) _ fun e s κ1 w1 a1 hq hx hr => ?_)
  obtain ⟨he, v0, hv0, hv1⟩ := hq
  obtain ⟨x, hx1, hx2⟩ := resV_run hx.mem hr hv0
  obtain ⟨κ', l, k', hhw⟩ := frame_back k hx
  have hR : Rep κ' w1.heap v x := rep_plain (κ := κ1) (fun b => by rw [hhw]; exact Nat.le_refl _) (by rw [← hv1]; exact rep_er hx2) hv
  have fin : a1.defers = [] ∧ ∃ v', (results fn a1.tmps).run P w1 = .ok v' w1 ∧ ∃ x' κ', Ending.returned v' = .returned x' ∧ Ext κ w m κ' w1 m ∧ Rep κ' w1.heap v x' :=
    ⟨hr.1, x, hx1, x, κ', rfl, l.ext k' (Nat.le_refl _), hR⟩
  rcases he with rfl | rfl
  · exact fin
  · exact fin

end
end Go.Fbs
