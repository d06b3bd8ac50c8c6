import Derived.Test.YthkfcmfphjepnaaDO
set_option linter.unusedVariables false
set_option linter.unusedSimpArgs false
set_option linter.unusedSectionVars false
namespace Go.Fbs
open Go.Proofs

def F_entaillaw2_TuplForms : Spec
  | [.int .i64 _] => some (.bool true)
  | _ => none
abbrev tabForms : List (FuncId × Spec) := [(n_tupl_Parse, F_tupl_Parse), (n_tupl_Text, F_tupl_Text), (n_entaillaw2_awake, F_entaillaw2_awake)]
theorem all_forms : ((List.range 21).map fun m => FunWp tyT (tab tabForms) 72 q_entaillaw2_TuplForms [.tmp 2] (cB Try.f7) [.int .i64 ((m : Nat) : Int)] (fun r => r = .bool true)) = List.replicate 21 (V.bool true = V.bool true) := by kernel_rfl
theorem range_get {p : Nat → Prop} {n : Nat} {q : Prop} (h : (List.range n).map p = List.replicate n q) {m : Nat} (hm : m < n) : p m = q := by
  have h1 : ((List.range n).map p)[m]? = (List.replicate n q)[m]? := by rw [h]
  rw [List.getElem?_map, List.getElem?_range hm, List.getElem?_replicate, if_pos hm] at h1
  simpa using h1
theorem ok_entaillaw2_TuplForms : SpecL Try.prog n_entaillaw2_TuplForms F_entaillaw2_TuplForms := by
  refine go_entaillaw2_TuplForms (T := [(n_tupl_Parse, F_tupl_Parse), (n_tupl_Text, F_tupl_Text), (n_entaillaw2_awake, F_entaillaw2_awake)]) (TabOk.cons ok_tupl_Parse (TabOk.cons ok_tupl_Text (TabOk.cons ok_entaillaw2_awake TabOk.nil))) fun args v hv => ?_
  have c_tupl_Parse : ∀ args, tab [(n_tupl_Parse, F_tupl_Parse), (n_tupl_Text, F_tupl_Text), (n_entaillaw2_awake, F_entaillaw2_awake)] n_tupl_Parse args = F_tupl_Parse args := fun _ => rfl
  have c_tupl_Text : ∀ args, tab [(n_tupl_Parse, F_tupl_Parse), (n_tupl_Text, F_tupl_Text), (n_entaillaw2_awake, F_entaillaw2_awake)] n_tupl_Text args = F_tupl_Text args := fun _ => rfl
  have c_entaillaw2_awake : ∀ args, tab [(n_tupl_Parse, F_tupl_Parse), (n_tupl_Text, F_tupl_Text), (n_entaillaw2_awake, F_entaillaw2_awake)] n_entaillaw2_awake args = F_entaillaw2_awake args := fun _ => rfl
  unfold F_entaillaw2_TuplForms at hv
  split at hv <;> (try simp only [Option.ite_none_right_eq_some, Option.some.injEq, reduceCtorEq] at hv)
  rename_i n
  subst hv
  refine ⟨rfl, rfl, rfl, ?_⟩
  have hm : (n % 256).toNat % 21 < 21 := Nat.mod_lt _ (by omega)
  have h := range_get all_forms hm
  simp only [tabForms] at h
  generalize hk : (n % 256).toNat % 21 = k at h hm
  have e1 : ((k : Int) % 256).toNat = k := by omega
  have e2 : k % 21 = k := Nat.mod_eq_of_lt hm
  have hl : ∀ l, ([l] : List V).length = 1 := fun _ => rfl
  rw [e_entaillaw2_TuplForms] at h ⊢
  rw [bAnd255] at h ⊢
  rw [e1] at h
  have hr : binK .rem (.int .i64 ((n % 256).toNat : Int)) (.int .i64 ((21 : Nat) : Int)) = binK .rem (.int .i64 (k : Int)) (.int .i64 ((21 : Nat) : Int)) := by
    rw [bRemN _ 21 (by omega), bRemN _ 21 (by omega), hk, e2]
  have hag : ∀ x y, aggK [.str x, .bool y] = some (.agg [.str x, .bool y]) := fun _ _ => nr rfl
  have hlit : ∀ l : List V, l.length = 21 → l.all (fun e => e.cells.length == 2 && e.ok1) = true → litK 2 l = some (.sl .ro l) := fun l h h' => lit_s (by omega) h'
  simp only [hag, opt_s] at h ⊢
  rw [hlit _ rfl (by kernel_rfl)] at h ⊢
  have hll : ∀ l : List V, l.length = 21 → lenL (.sl .ro l) = some (.int .i64 ((21 : Nat) : Int)) := fun l h => by rw [lenL_s, h]
  simp only [opt_s] at h ⊢
  rw [hll _ rfl] at h ⊢
  simp only [opt_s] at h ⊢
  rw [hr, h]
  trivial
end Go.Fbs
