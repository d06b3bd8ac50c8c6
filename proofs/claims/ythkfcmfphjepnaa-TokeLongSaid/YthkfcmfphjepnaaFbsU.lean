/- From what a function is said to answer to the kit's 'Calls .. Grown'. -/
import Derived.Test.YthkfcmfphjepnaaFbsT
set_option linter.unusedVariables false
set_option linter.unusedSimpArgs false
namespace Go.Fbs
open Go.RowKit

/-- A memory in which nothing is one's own: each block is sealed as far as it reaches. -/
def sealedCtx (h : Heap) : Ctx := ⟨fun b => match h[b]? with | some (.cells c _ _) => c.size | _ => 0, fun _ => none, []⟩

theorem sealed_mem (h : Heap) : Mem (sealedCtx h) h empty := by
  refine ⟨⟨?_, ?_, ?_, ?_, ?_, ?_, ?_, ?_, ?_⟩, ⟨?_, ?_⟩, rfl⟩
  case refine_9 =>
    intro b hb
    have : h[b]? = none := by simpa using hb
    simp [sealedCtx, this]
  all_goals intros
  all_goals simp_all [sealedCtx, boxed, empty]

theorem sealed_owned {h : Heap} {b : Nat} : ¬ owned (sealedCtx h) b := by
  rintro (⟨l, h⟩ | ⟨L, h, _⟩) <;> simp [sealedCtx] at h

theorem ext_grown {w w' : World} {κ' : Ctx} {m' : Hp} (x : Ext (sealedCtx w.heap) w empty κ' w' m') : Grown w w' := by
  refine ⟨⟨x.os, x.out.output, fun i hi => ?_⟩, x.out.frozen, x.le.size⟩
  have e : w'.heap[i]? = w.heap[i]? := x.le.same i hi sealed_owned
  rw [e]
  cases w.heap[i]? with
  | none => rfl
  | some o => cases o <;> simp

/-- A FUNCTION's CALL, IN THE KIT's WORDS. -/
theorem calls_of {P : Program} {f : FuncId} {F : Spec} (h : SpecOk P f F) {args : List V} {v : V} (hF : F args = some v) (w : World) {xs : List Value} (hr : Reps (sealedCtx w.heap) w.heap args xs) :
    Calls P f ⟨xs⟩ w fun e w' => (∃ x κ', e = .returned x ∧ Rep κ' w'.heap v x) ∧ Grown w w' :=
  (h.call args v hF empty (sealedCtx w.heap) w xs (sealed_mem _) hr).mono fun _ _ ⟨x, κ', he, hx, hv⟩ => ⟨⟨x, κ', he, hv⟩, ext_grown hx⟩

theorem calls_true {P : Program} {f : FuncId} {F : Spec} (h : SpecOk P f F) {args : List V} (hF : F args = some (.bool true)) (w : World) {xs : List Value} (hr : Reps (sealedCtx w.heap) w.heap args xs) :
    Calls P f ⟨xs⟩ w fun e w' => e = .returned (.bool true) ∧ Grown w w' :=
  (calls_of h hF w hr).mono fun _ _ ⟨⟨x, κ', he, hv⟩, hg⟩ => ⟨by rw [he, rep_bool hv], hg⟩
end Go.Fbs
