import Derived.Test.YthkfcmfphjepnaaDK
set_option linter.unusedVariables false
set_option linter.unusedSimpArgs false
set_option linter.unusedSectionVars false
namespace Go.Fbs
open Go.Proofs
def F_entaillaw2_awake : Spec
  | [] => some (.bool true)
  | _ => none
theorem ok_entaillaw2_awake : SpecL Try.prog n_entaillaw2_awake F_entaillaw2_awake := by
  refine go_entaillaw2_awake (T := [(n_tupl_Parse, F_tupl_Parse), (n_tupl_Text, F_tupl_Text), (n_tupl_Ok, F_tupl_Ok), (n_tupl_Less, F_tupl_Less)]) (TabOk.cons ok_tupl_Parse (TabOk.cons ok_tupl_Text (TabOk.cons ok_tupl_Ok (TabOk.cons ok_tupl_Less TabOk.nil)))) fun args v hv => ?_
  have c_tupl_Parse : ∀ args, tab [(n_tupl_Parse, F_tupl_Parse), (n_tupl_Text, F_tupl_Text), (n_tupl_Ok, F_tupl_Ok), (n_tupl_Less, F_tupl_Less)] n_tupl_Parse args = F_tupl_Parse args := fun _ => rfl
  have c_tupl_Text : ∀ args, tab [(n_tupl_Parse, F_tupl_Parse), (n_tupl_Text, F_tupl_Text), (n_tupl_Ok, F_tupl_Ok), (n_tupl_Less, F_tupl_Less)] n_tupl_Text args = F_tupl_Text args := fun _ => rfl
  have c_tupl_Ok : ∀ args, tab [(n_tupl_Parse, F_tupl_Parse), (n_tupl_Text, F_tupl_Text), (n_tupl_Ok, F_tupl_Ok), (n_tupl_Less, F_tupl_Less)] n_tupl_Ok args = F_tupl_Ok args := fun _ => rfl
  have c_tupl_Less : ∀ args, tab [(n_tupl_Parse, F_tupl_Parse), (n_tupl_Text, F_tupl_Text), (n_tupl_Ok, F_tupl_Ok), (n_tupl_Less, F_tupl_Less)] n_tupl_Less args = F_tupl_Less args := fun _ => rfl
  unfold F_entaillaw2_awake at hv
  split at hv <;> (try simp only [Option.ite_none_right_eq_some, Option.some.injEq, reduceCtorEq] at hv)
  subst hv
  refine ⟨rfl, rfl, rfl, ?_⟩
  have h : FunWp tyT (tab [(n_tupl_Parse, F_tupl_Parse), (n_tupl_Text, F_tupl_Text), (n_tupl_Ok, F_tupl_Ok), (n_tupl_Less, F_tupl_Less)]) 44 q_entaillaw2_awake [.tmp 0] (cB Try.f24) [] (fun r => r = .bool true) = (V.bool true = V.bool true) := by kernel_rfl
  rw [h]
end Go.Fbs
