import Derived.Test.YthkfcmfphjepnaaDS
import Derived.Test.YthkfcmfphjepnaaK4
set_option linter.unusedVariables false
set_option linter.unusedSimpArgs false
set_option linter.unusedSectionVars false
namespace Go.Fbs
open Go.Proofs

theorem six_of {vs : List V} (h : HasL [.str, .str, .str, .str, .str, .str] vs) : ∃ x : Six, vs = [.str x.a, .str x.b, .str x.c, .str x.d, .str x.e, .str x.f] ∧ (x.a.length ≤ maxLen ∧ x.b.length ≤ maxLen ∧ x.c.length ≤ maxLen ∧ x.d.length ≤ maxLen ∧ x.e.length ≤ maxLen ∧ x.f.length ≤ maxLen) := by
  obtain ⟨v, _, rfl, ⟨a, rfl, ha⟩, h1⟩ := h.cons_inv
  obtain ⟨v, _, rfl, ⟨b, rfl, hb⟩, h2⟩ := h1.cons_inv
  obtain ⟨v, _, rfl, ⟨c, rfl, hc⟩, h3⟩ := h2.cons_inv
  obtain ⟨v, _, rfl, ⟨d, rfl, hd⟩, h4⟩ := h3.cons_inv
  obtain ⟨v, _, rfl, ⟨e, rfl, he⟩, h5⟩ := h4.cons_inv
  obtain ⟨v, _, rfl, ⟨f, rfl, hf⟩, h6⟩ := h5.cons_inv
  obtain rfl := h6.nil_inv
  exact ⟨⟨a, b, c, d, e, f⟩, rfl, ha, hb, hc, hd, he, hf⟩
end Go.Fbs
