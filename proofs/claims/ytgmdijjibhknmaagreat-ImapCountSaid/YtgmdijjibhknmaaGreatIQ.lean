/- A region that draws its order, by an invariant: as many steps to show as it has operations, whatever the order. -/
import Derived.Test.YtgmdijjibhknmaaGreatIO0
import Derived.Orders
import Derived.Deep.RegionHeld3
set_option linter.unusedVariables false
set_option linter.unusedSimpArgs false
set_option maxRecDepth 100000
namespace Go.Fbs
open Go.Proofs Go.RowKit Go.Maps
section
variable {P : Program} {ops : Array Oper} {Q : Exit → Act → World → Prop} {md : Region.Mode}
def unlN (n : Nat) (listed : Array Bool) : Nat := (List.range n).countP fun i => !listed.getD i true
theorem count_lt {α : Type} {p q : α → Bool} : ∀ {l : List α} {x : α}, (∀ y, q y = true → p y = true) → x ∈ l → p x = true → q x = false → l.countP q < l.countP p
  | y :: l, x, h, hx, hp, hq => by
    have hle : l.countP q ≤ l.countP p := List.countP_mono_left fun y _ => h y
    rw [List.countP_cons, List.countP_cons]
    rcases List.mem_cons.1 hx with rfl | hx
    · rw [hp, hq]; simp; omega
    · have ih := count_lt h hx hp hq
      cases hy : q y with
      | false => cases p y <;> simp <;> omega
      | true => rw [h y hy]; simp; omega
def lowB (ops : Array Oper) : Bool := (List.range ops.size).all fun j => ((ops[j]?).map fun o => o.after.all fun e => decide (e.on < j)).getD true
theorem all_listed (hl : lowB ops = true) {listed : Array Bool} (hr : Region.ready md ops listed = []) : ∀ j, j < ops.size → listed.getD j true = true := by
  intro j
  induction j using Nat.strongRecOn with
  | _ j ih =>
    intro hj
    cases hc : listed.getD j true with
    | true => rfl
    | false =>
      exfalso
      obtain ⟨o, ho⟩ : ∃ o, ops[j]? = some o := ⟨_, Array.getElem?_eq_getElem hj⟩
      have h1 := List.all_eq_true.1 hl j (List.mem_range.2 hj)
      rw [ho] at h1
      simp only [Option.map_some, Option.getD_some] at h1
      have hm : j ∈ Region.ready md ops listed := by
        refine mem_ready.2 ⟨hc, o, ho, fun e he hb => ?_⟩
        have hlt : e.on < j := by simpa using Array.all_eq_true'.1 h1 e he
        have h2 := ih e.on hlt (by omega)
        have hjs : j < listed.size := by
          rcases Nat.lt_or_ge j listed.size with h | h
          · exact h
          · rw [Array.getD_eq_getD_getElem?, Array.getElem?_eq_none h] at hc; cases hc
        rw [Array.getD_eq_getD_getElem?, Array.getElem?_eq_getElem (show e.on < listed.size by omega)] at h2 ⊢
        exact h2
      rw [hr] at hm
      cases hm
theorem wpAny_inv {I : Array Bool → Act → World → Prop} (hl : lowB ops = true)
    (hstep : ∀ listed a w i, I listed a w → i ∈ Region.ready md ops listed → wpOp P ops Q i (I (listed.setIfInBounds i true)) a w)
    (hend : ∀ listed a w, I listed a w → (∀ j, j < ops.size → listed.getD j true = true) → Q .normal a w) :
    ∀ fuel listed a w, unlN ops.size listed ≤ fuel → I listed a w → wpAny P md ops Q fuel listed a w := by
  intro fuel
  induction fuel with
  | zero =>
    intro listed a w hu hI
    have hall : ∀ j, j < ops.size → listed.getD j true = true := fun j hj => by
      cases hc : listed.getD j true with
      | true => rfl
      | false =>
        have := List.countP_eq_zero.1 (Nat.le_zero.1 hu) j (List.mem_range.2 hj)
        rw [hc] at this
        exact absurd rfl this
    refine ⟨List.eq_nil_iff_forall_not_mem.2 fun i hi => ?_, hend _ _ _ hI hall⟩
    obtain ⟨h1, o, ho, _⟩ := mem_ready.1 hi
    rw [hall i (Array.getElem?_eq_some_iff.1 ho).1] at h1
    cases h1
  | succ fuel ih =>
    intro listed a w hu hI
    refine ⟨fun hr => hend _ _ _ hI (all_listed hl hr), fun i hi => wpOp_mono (fun a' w' h' => ih _ a' w' ?_ h') (hstep _ _ _ i hI hi)⟩
    obtain ⟨h1, o, ho, _⟩ := mem_ready.1 hi
    have hin := (Array.getElem?_eq_some_iff.1 ho).1
    have hsz : i < listed.size := by
      rcases Nat.lt_or_ge i listed.size with h | h
      · exact h
      · rw [Array.getD_eq_getD_getElem?, Array.getElem?_eq_none h] at h1; cases h1
    have : unlN ops.size (listed.setIfInBounds i true) < unlN ops.size listed := by
      refine count_lt (x := i) (fun y hy => ?_) (List.mem_range.2 hin) (by rw [h1]; rfl) (by simp [hsz])
      by_cases hyi : i = y
      · subst hyi; simp [hsz] at hy
      · simpa [Array.getD_eq_getD_getElem?, Array.getElem?_setIfInBounds_ne hyi] using hy
    omega
theorem wp_region_inv {I : Array Bool → Act → World → Prop} {id : Nat} {a : Act} {w : World} (hm : P.follows .mixedOrders = true) (hl : lowB ops = true) (h0 : I (Array.replicate ops.size false) a w.drew)
    (hstep : ∀ listed a w i, I listed a w → i ∈ Region.ready .any ops listed → wpOp P ops Q i (I (listed.setIfInBounds i true)) a w)
    (hend : ∀ listed a w, I listed a w → (∀ j, j < ops.size → listed.getD j true = true) → Q .normal a w) : (Code.region id ops true).wp P Q a w :=
  wp_region_any hm (wpAny_inv hl hstep hend _ _ _ _ (Nat.le_trans List.countP_le_length (by simp)) h0)
theorem ready_deps {i : Nat} {o : Oper} {listed : Array Bool} (hi : i ∈ Region.ready md ops listed) (ho : ops[i]? = some o) :
    listed.getD i true = false ∧ ∀ e ∈ o.after, Region.binds md e = true → listed.getD e.on false = true := by
  obtain ⟨h1, o', ho', h2⟩ := mem_ready.1 hi
  rw [ho] at ho'
  cases ho'
  exact ⟨h1, h2⟩
theorem wpOp_run {i : Nat} {o : Oper} {R : Act → World → Prop} {a : Act} {w : World} (ho : ops[i]? = some o) (hg : o.guard = none) (h : ∀ K : Act → World → Prop, Shut (∀ a w, R a w → K a w) → o.wp P a w K Q) : wpOp P ops Q i R a w := by
  unfold wpOp
  rw [ho]
  simp only [Region.wanted, hg]
  exact .inl (h R fun _ _ h => h)
end
theorem mixed3 : Tryz.prog.follows .mixedOrders = true := by kernel_rfl
end Go.Fbs
