import Derived.Test.YtpnflpbamlbpeaaGreatDoorVH
import Derived.Test.YtpnflpbamlbpeaaGreatDoorVR
set_option linter.unusedSimpArgs false
set_option linter.unusedVariables false
set_option linter.unusedSectionVars false
set_option maxRecDepth 100000
namespace Go.Fbs
open Go.Proofs
def comboT : List (Int × Bool × List UInt8):=[(1,false,[]),(3,false,[]),(6,false,[]),(5,false,[]),(2,false,[117]),(2,false,[118]),(2,false,[119]),(4,false,[103]),(4,false,[104]),(1,true,[]),(3,true,[]),(6,true,[]),(5,true,[]),(2,true,[118]),(4,true,[104])]
def octsT : List Int:=[0,1,2,3,4,5,6,7]
def entTab : List Ent:=comboT.flatMap fun c=>octsT.map fun b=>⟨c.1,c.2.1,c.2.2,b⟩
theorem oct_mem (n : Int) : octN n ∈ octsT:=by
 unfold octN
 generalize b2 n 0 = x
 generalize b2 n 1 = y
 generalize b2 n 2 = z
 revert x y z; decide
def lookE (s : List UInt8) : Option Ent:=entTab.find? fun e=>txtE e == s
def entR (e : Ent) : V:=.tup [entW e,.bool true]
def F_entailref17_entry : Spec
 | [.str s]=>(lookE s).map entR
 | _=>none
theorem look_all : entTab.map (fun e=>(lookE (txtE e)).map entW) = entTab.map (fun e=>some (entW e)):=by kernel_rfl
theorem look_eq {e : Ent} (h : e ∈ entTab) : lookE (txtE e) = some e:=by
 have:=List.map_inj_left.1 look_all e h
 cases hh : lookE (txtE e) with
 | none=>rw [hh] at this; cases this
 | some x =>
  rw [hh] at this
  simp only [Option.map_some,Option.some.injEq] at this
  rw [entW_inj this]
theorem look_mem {s : List UInt8} {e : Ent} (h : lookE s = some e) : e ∈ entTab ∧ s = txtE e:=by
 refine ⟨List.mem_of_find?_eq_some h,?_⟩
 have:=List.find?_some h
 exact (beq_iff_eq.1 this).symm
theorem plain_all : entTab.all (fun e=>(txtE e).all (· != 44) && decide ((txtE e).length ≤ 9) && goodE e && decide (e.name.length ≤ 1)) = true:=by kernel_rfl
theorem entry_all : entTab.map (fun e=>FunRun tyT (tab [(n_entailref1_Name,F_entailref1_Name)]) 140 q_entailref17_entry [.cell 2 28,.tmp 3] (cB Tryz.f15) 10 1 [.str (txtE e)]) = entTab.map (fun e=>some (entR e)):=by kernel_rfl
attribute [local irreducible] FunWp FunRun entTab lookE txtE
theorem ok_entailref17_entry : SpecL Tryz.prog n_entailref17_entry F_entailref17_entry:=by
 refine go_entailref17_entry (T:=[(n_entailref1_Name,F_entailref1_Name)]) (TabOk.cons ok_entailref1_Name TabOk.nil) fun args v hv=>?_
 unfold F_entailref17_entry at hv
 split at hv <;> simp only [Option.map_eq_some_iff,reduceCtorEq] at hv
 obtain ⟨e,h1,rfl⟩:=hv
 obtain ⟨h2,rfl⟩:=look_mem h1
 refine ⟨rfl,rfl,rfl,?_⟩
 have h3:=List.map_inj_left.1 entry_all e h2
 exact fun_run h3
theorem Fentry {e : Ent} (h : e ∈ entTab) : F_entailref17_entry [.str (txtE e)] = some (entR e):=by
 show (lookE (txtE e)).map entR = _
 rw [look_eq h]; rfl
end Go.Fbs
