import Derived.Test.YthakklikgmcgdaaGreatDoorWB
set_option linter.unusedSimpArgs false
set_option linter.unusedVariables false
set_option linter.unusedSectionVars false
set_option maxRecDepth 100000
namespace Go.Fbs
open Go.Proofs Go.RowKit
structure pU (B:Nat) (w w':World):Prop where
 os:w'.os=w.os
 output:w'.output=w.output
 size:w.heap.size≤w'.heap.size
 block : ∀ k,k < B → w'.heap[k]? = w.heap[k]?
theorem pU.refl (B:Nat) (w:World):pU B w w:=⟨rfl,rfl,Nat.le_refl _,fun _ _=>rfl⟩
theorem pU.trans {B:Nat} {a b c:World} (h:pU B a b) (k:pU B b c):pU B a c :=
 ⟨k.os.trans h.os,k.output.trans h.output,Nat.le_trans h.size k.size,fun i hi=>(k.block i hi).trans (h.block i hi)⟩
theorem pU.mono {B C:Nat} {a b:World} (h:pU C a b) (hb:B≤C):pU B a b:=⟨h.os,h.output,h.size,fun k hk=>h.block k (by omega)⟩
theorem pU.of {B:Nat} {a b:World} (h:Below B a b):pU B a b:=⟨h.os,h.output,h.size,h.block⟩
theorem a8n {P:Program} {f:FuncId} {args:List V} {m:Hp} {v:V} (h:∀ (κ:Ctx) (w:World) (xs:List Value),Reps κ w.heap args xs→∃ x,Calls P f ⟨xs⟩ w (fun e w'=>e = .returned x∧pU w.heap.size w w')∧∀ h',Rep κ h' v x):sO P f args m v m:=by
 intro κ w xs k r
 obtain ⟨x,c,rx⟩:=h κ w xs r
 refine c.mono fun e w' ⟨he,hw⟩=>?_
 exact ⟨x,κ,he,⟨a3o hw.size hw.block,aAl k hw.size hw.block,Nat.le_refl _,fun _ _ h=>h,hw.os,hw.output,hw.size⟩,rx _⟩
theorem aC5 {P:Program} {f:FuncId} {args:List V} {m:Hp} {v:V} (h:∀ (κ:Ctx) (w:World) (xs:List Value),tD w.heap→Reps κ w.heap args xs→∃ x,Calls P f ⟨xs⟩ w (fun e w'=>e = .returned x∧pU w.heap.size w w')∧∀ h',Rep κ h' v x):sO P f args m v m:=by
 intro κ w xs k r
 obtain ⟨x,c,rx⟩:=h κ w xs k.1.tP.aJg r
 refine c.mono fun e w' ⟨he,hw⟩=>?_
 exact ⟨x,κ,he,⟨a3o hw.size hw.block,aAl k hw.size hw.block,Nat.le_refl _,fun _ _ h=>h,hw.os,hw.output,hw.size⟩,rx _⟩
end Go.Fbs
