import Derived.Test.YtpnflpbamlbpeaaGreatDoorVI
import Derived.Test.YtpnflpbamlbpeaaGreatDoorVR
set_option linter.unusedSimpArgs false
set_option linter.unusedVariables false
set_option linter.unusedSectionVars false
set_option maxRecDepth 100000
namespace Go.Fbs
open Go.Proofs
noncomputable def runSpec (T : List (FuncId × Spec)) (N : Nat) (orc : List (OK × Vars)) (rs : List ResultVar) (c : Code) (fu na : Nat) : Spec:=fun args =>
 bif args.length == na && canos args then (match FunRun tyT (tab T) N orc rs c fu na args with | some v=>bif v.cano then some v else none | none=>none) else none
theorem runSpec_inv {T : List (FuncId × Spec)} {N : Nat} {orc : List (OK × Vars)} {rs : List ResultVar} {c : Code} {fu na : Nat} {args : List V} {v : V} (h : runSpec T N orc rs c fu na args = some v) :
  args.length = na ∧ canos args = true ∧ v.cano = true ∧ FunWp tyT (tab T) N orc rs c args (fun r=>r = v):=by
 unfold runSpec at h
 cases h1 : (args.length == na && canos args) with
 | false=>rw [h1] at h; cases h
 | true =>
  rw [h1] at h
  rw [Bool.and_eq_true,beq_iff_eq] at h1
  cases h2 : FunRun tyT (tab T) N orc rs c fu na args with
  | none=>rw [h2] at h; cases h
  | some x =>
   rw [h2] at h
   dsimp only at h
   cases h3 : x.cano with
   | false=>rw [h3] at h; cases h
   | true =>
    rw [h3] at h
    obtain rfl : x = v:=by simpa using h
    exact ⟨h1.1,h1.2,h3,fun_run h2⟩
namespace Run
noncomputable def F_entailref1_alnum : Spec:=runSpec [] 17 q_entailref1_alnum [.tmp 2] (cB Tryz.f69) 100000 1
theorem ok_entailref1_alnum : SpecL Tryz.prog n_entailref1_alnum F_entailref1_alnum:=go_entailref1_alnum (T:=[]) (TabOk.nil) fun _ _ hv=>runSpec_inv hv
noncomputable def F_entailref1_Name : Spec:=runSpec [(n_entailref1_alnum,F_entailref1_alnum)] 47 q_entailref1_Name [.tmp 2] (cB Tryz.f42) 100000 1
theorem ok_entailref1_Name : SpecL Tryz.prog n_entailref1_Name F_entailref1_Name:=go_entailref1_Name (T:=[(n_entailref1_alnum,F_entailref1_alnum)]) (TabOk.cons ok_entailref1_alnum (TabOk.nil)) fun _ _ hv=>runSpec_inv hv
noncomputable def F_entailref1_Find : Spec:=runSpec [] 21 q_entailref1_Find [.tmp 6] (cB Tryz.f14) 100000 3
theorem ok_entailref1_Find : SpecL Tryz.prog n_entailref1_Find F_entailref1_Find:=go_entailref1_Find (T:=[]) (TabOk.nil) fun _ _ hv=>runSpec_inv hv
noncomputable def F_entailref17_Path : Spec:=runSpec [(n_entailref1_Find,F_entailref1_Find),(n_entailref1_Name,F_entailref1_Name)] 52 q_entailref17_Path [.tmp 2] (cB Tryz.f83) 100000 1
theorem ok_entailref17_Path : SpecL Tryz.prog n_entailref17_Path F_entailref17_Path:=go_entailref17_Path (T:=[(n_entailref1_Find,F_entailref1_Find),(n_entailref1_Name,F_entailref1_Name)]) (TabOk.cons ok_entailref1_Find (TabOk.cons ok_entailref1_Name (TabOk.nil))) fun _ _ hv=>runSpec_inv hv
noncomputable def F_entailref17_entry : Spec:=runSpec [(n_entailref1_Name,F_entailref1_Name)] 140 q_entailref17_entry [.cell 2 28,.tmp 3] (cB Tryz.f15) 100000 1
theorem ok_entailref17_entry : SpecL Tryz.prog n_entailref17_entry F_entailref17_entry:=go_entailref17_entry (T:=[(n_entailref1_Name,F_entailref1_Name)]) (TabOk.cons ok_entailref1_Name (TabOk.nil)) fun _ _ hv=>runSpec_inv hv
noncomputable def F_entailref17_Entries : Spec:=runSpec [(n_entailref1_Find,F_entailref1_Find),(n_entailref17_entry,F_entailref17_entry)] 42 q_entailref17_Entries [.tmp 2,.tmp 3] (cB Tryz.f5) 100000 1
theorem ok_entailref17_Entries : SpecL Tryz.prog n_entailref17_Entries F_entailref17_Entries:=go_entailref17_Entries (T:=[(n_entailref1_Find,F_entailref1_Find),(n_entailref17_entry,F_entailref17_entry)]) (TabOk.cons ok_entailref1_Find (TabOk.cons ok_entailref17_entry (TabOk.nil))) fun _ _ hv=>runSpec_inv hv
noncomputable def F_entailref17_Fact : Spec:=runSpec [(n_entailref1_Name,F_entailref1_Name),(n_entailref17_Path,F_entailref17_Path),(n_entailref17_Entries,F_entailref17_Entries)] 145 q_entailref17_Fact [.cell 2 37,.tmp 3,.tmp 4] (cB Tryz.f49) 100000 1
theorem ok_entailref17_Fact : SpecL Tryz.prog n_entailref17_Fact F_entailref17_Fact:=go_entailref17_Fact (T:=[(n_entailref1_Name,F_entailref1_Name),(n_entailref17_Path,F_entailref17_Path),(n_entailref17_Entries,F_entailref17_Entries)]) (TabOk.cons ok_entailref1_Name (TabOk.cons ok_entailref17_Path (TabOk.cons ok_entailref17_Entries (TabOk.nil)))) fun _ _ hv=>runSpec_inv hv
noncomputable def F_entailref1_words : Spec:=runSpec [] 61 q_entailref1_words [.tmp 4] (cB Tryz.f82) 100000 2
theorem ok_entailref1_words : SpecL Tryz.prog n_entailref1_words F_entailref1_words:=go_entailref1_words (T:=[]) (TabOk.nil) fun _ _ hv=>runSpec_inv hv
noncomputable def F_entailref1_Lines : Spec:=runSpec [(n_entailref1_words,F_entailref1_words)] 125 q_entailref1_Lines [.tmp 2,.tmp 3,.tmp 4] (cB Tryz.f48) 100000 1
theorem ok_entailref1_Lines : SpecL Tryz.prog n_entailref1_Lines F_entailref1_Lines:=go_entailref1_Lines (T:=[(n_entailref1_words,F_entailref1_words)]) (TabOk.cons ok_entailref1_words (TabOk.nil)) fun _ _ hv=>runSpec_inv hv
noncomputable def F_entailref17_Parse : Spec:=runSpec [(n_entailref1_Lines,F_entailref1_Lines),(n_entailref17_Fact,F_entailref17_Fact)] 54 q_entailref17_Parse [.tmp 2,.tmp 3,.tmp 4] (cB Tryz.f23) 100000 1
theorem ok_entailref17_Parse : SpecL Tryz.prog n_entailref17_Parse F_entailref17_Parse:=go_entailref17_Parse (T:=[(n_entailref1_Lines,F_entailref1_Lines),(n_entailref17_Fact,F_entailref17_Fact)]) (TabOk.cons ok_entailref1_Lines (TabOk.cons ok_entailref17_Fact (TabOk.nil))) fun _ _ hv=>runSpec_inv hv
def polT : List UInt8:=[117,115,101,114,32,117,10,103,114,111,117,112,32,103,10,100,105,114,32,47,32,117,32,103,32,117,58,58,45,45,45,44,103,58,58,45,45,45,44,111,58,58,45,45,45,10,102,105,108,101,32,47,97,32,117,32,103,32,117,58,58,45,45,45,44,103,58,58,45,45,45,44,111,58,58,45,45,45,10]
end Run
end Go.Fbs
