import Derived.Test.YthkfcmfphjepnaaDT
import Derived.Below
set_option linter.unusedVariables false
set_option linter.unusedSimpArgs false
set_option linter.unusedSectionVars false
namespace Go.Fbs
open Go.Proofs Go.RowKit

theorem le_below {κ : Ctx} {h h' : Heap} (hs : h.size ≤ h'.size) (hb : ∀ k, k < h.size → h'[k]? = h[k]?) : Le κ h κ h' where
  size := hs
  same b hb' _ := hb b hb'
  hwsame _ _ _ := rfl
  sealed b i x _ hc := by
    have hlt : b < h.size := hcell_lt hc
    unfold hcell at hc ⊢
    rw [hb b hlt]; exact hc
  hw _ := Nat.le_refl _
  box _ _ h := h
  newbox _ h := .inl h
  lease _ L h := ⟨L, h, .inl rfl⟩
  newlease L h := .inl ⟨L, h, rfl⟩
theorem mem_below {κ : Ctx} {h h' : Heap} {m : Hp} (k : Mem κ h m) (hs : h.size ≤ h'.size) (hb : ∀ k, k < h.size → h'[k]? = h[k]?) : Mem κ h' m := by
  obtain ⟨ok, hp, ht⟩ := k
  refine ⟨⟨fun b h => Nat.lt_of_lt_of_le (ok.boxlt b h) hs, ok.boxhw, ok.boxnd, fun L h => Nat.lt_of_lt_of_le (ok.lblt L h) hs, ok.lhw, ok.lnd, ok.lbox, fun L h => ?_, fun b h => ok.fresh b (Nat.le_trans hs h)⟩, ?_, ht⟩
  · obtain ⟨c, E, h1, h2⟩ := ok.lcells L h
    exact ⟨c, E, by rw [hb _ (ok.lblt L h)]; exact h1, h2⟩
  · exact hp.mono (le_below hs hb) rfl fun b h => hb b (ok.boxlt b h)
/-- A contract that makes memory, and leaves what was there. -/
theorem callOk_below {P : Program} {f : FuncId} {args : List V} {m : Hp} {v : V} (h : ∀ (κ : Ctx) (w : World) (xs : List Value), Reps κ w.heap args xs → (∀ b x, hcell w.heap b x ≠ none → b < w.heap.size) → ∃ x, Calls P f ⟨xs⟩ w (fun e w' => e = .returned x ∧ Below w.heap.size w w') ∧ ∀ h', Rep κ h' v x) : CallOk P f args m v m := by
  intro κ w xs k r
  obtain ⟨x, c, rx⟩ := h κ w xs r (fun b x hh => by
    cases hc : hcell w.heap b x with
    | none => exact absurd hc hh
    | some y => exact hcell_lt hc)
  refine c.mono fun e w' ⟨he, hw⟩ => ?_
  exact ⟨x, κ, he, ⟨le_below hw.size hw.block, mem_below k hw.size hw.block, Nat.le_refl _, fun _ _ h => h, hw.os, hw.output, hw.size, fun a ha => hw.frozen ha⟩, rx _⟩

def F_strings_Join : Spec
  | [v, .str s] => match cStr.unl v with | some l => if l.length ≤ 140737488355328 ∧ (Lib.join l s).length ≤ 140737488355328 then some (.str (Lib.join l s)) else none | none => none
  | _ => none
theorem flat_str : ∀ l : List (List UInt8), flat (l.map V.str) = l.map V.str
  | [] => rfl
  | s :: l => by
    have := flat_str l
    simp only [List.map_cons]
    rw [show flat (V.str s :: l.map V.str) = V.str s :: flat (l.map V.str) from rfl, this]
theorem ok_strings_Join : SpecL Try.prog n_strings_Join F_strings_Join := by
  refine ⟨⟨_, _, Try.func54, rfl, by kernel_rfl⟩, fun args v hv => ?_⟩
  unfold F_strings_Join at hv
  split at hv
  · rename_i v' s
    split at hv
    · rename_i l hl
      simp only [Option.ite_none_right_eq_some, Option.some.injEq] at hv
      obtain ⟨⟨h1, h2⟩, rfl⟩ := hv
      obtain rfl := cStr.lst_unl hl
      refine ⟨fun m => callOk_below fun κ w xs r hlt => ?_, rfl⟩
      obtain ⟨x, ys, rfl, r1, r2⟩ := r.inv_cons
      rw [reps_str1 r2]
      refine ⟨.string ⟨⟨Lib.join l s⟩⟩, ?_, fun _ => .str _⟩
      rcases rep_sl (w := w) r1 with ⟨he, rfl, _⟩ | ⟨b, off, cap, sz, xs, hb, hu, hr, hc, _, rfl⟩
      · obtain rfl : l = [] := by simpa using he
        refine (Try.strings_Join_none none 0 ⟨⟨s⟩⟩ w).mono fun e w' ⟨he, hw⟩ => ⟨by rw [he]; rfl, hw ▸ Below.refl _ _⟩
      · rw [show cStr.enc = V.str from rfl, flat_str] at hr
        rw [show cStr.enc = V.str from rfl] at hc
        have hll : l.length = xs.length := by have := hr.1; simpa using this.symm
        by_cases hbk : b < w.heap.size
        · have := Try.strings_Join b off cap (l.map fun s => ⟨⟨s⟩⟩) ⟨⟨s⟩⟩ w (fun j x hj => by
            rw [List.getElem?_map, Option.map_eq_some_iff] at hj
            obtain ⟨t, ht, rfl⟩ := hj
            have hj' : j < xs.length := by rw [← hll]; exact (List.getElem?_eq_some_iff.1 ht).1
            have hx := List.getElem?_eq_getElem hj'
            have h3 := hr.2 j (.str t) _ (by rw [List.getElem?_map, ht]; rfl) hx
            have h4 := (hb j _ hx).2.1
            rw [cell?_eq, h4, rep_str h3]) hbk (by simpa using h1) (by simpa using hc) (by simpa [List.map_map, Function.comp_def] using h2)
          simp only [List.length_map, List.map_map, Function.comp_def] at this
          rw [show (List.map cStr.enc l).length = l.length by simp]
          simpa using this
        · have he : l = [] := by
            cases xs with
            | nil => exact List.eq_nil_of_length_eq_zero hll
            | cons y ys =>
              have := (hb 0 y rfl).2.1
              exact absurd (hcell_lt this) hbk
          subst he
          exact (Try.strings_Join_none _ cap ⟨⟨s⟩⟩ w).mono fun e w' ⟨he, hw⟩ => ⟨by rw [he]; rfl, hw ▸ Below.refl _ _⟩
    · simp at hv
  · simp at hv
end Go.Fbs
