import Derived.Test.YtpnflpbamlbpeaaGreatDoorVMB
set_option linter.unusedSimpArgs false
set_option linter.unusedVariables false
set_option linter.unusedSectionVars false
set_option maxRecDepth 100000
namespace Go.Fbs
open Go.Proofs Go.RowKit Go.Shelf Go.Sort
structure FR where
 kind : Int
 name : List UInt8
 ua : Option Addr
 un : Nat
 uc : Nat
 owner : List UInt8
 group : List UInt8
 aa : Option Addr
 an : Nat
 ac : Nat
 pos : Int
instance : Inhabited FR:=⟨⟨0,[],none,0,0,[],[],none,0,0,0⟩⟩
def encF (f : FR) : List Value:=[.int .i64 f.kind,.string ⟨⟨f.name⟩⟩,.slice f.ua f.un f.uc,.string ⟨⟨f.owner⟩⟩,.string ⟨⟨f.group⟩⟩,.slice f.aa f.an f.ac,.int .i64 f.pos]
theorem encF_one (f : FR) : ∀ v ∈ encF f,v.oneCell' = true:=by
 intro v hv
 simp only [encF,List.mem_cons,List.not_mem_nil,or_false] at hv
 rcases hv with rfl | rfl | rfl | rfl | rfl | rfl | rfl <;> rfl
def isF (k : Int) : Bool:=k == 3 || k == 4
theorem isFile_calls (f : FR) (w : World) : Calls Tryz.prog 39 #[.agg (encF f).toArray] w fun e w'=>e = .returned (.bool (isF f.kind)) ∧ w' = w.alloc (.cells (encF f).toArray 37):=by
 obtain ⟨k,n,a1,n1,c1,o,g,a2,n2,c2,t⟩:=f
 unfold encF
 dsimp only
 go_enter Tryz.func39,Tryz.ntmps39
 by_cases h3 : k = 3
 ·subst h3
  go_wp2
  go_ret
  exact ⟨rfl,rfl⟩
 ·have b3 : (k == 3) = false:=by simpa using h3
  by_cases h4 : k = 4
  ·subst h4
   go_wp2
   go_ret
   exact ⟨rfl,rfl⟩
  ·have b4 : (k == 4) = false:=by simpa using h4
   go_wp2
   go_ret
   exact ⟨by simp [isF,h3,h4],rfl⟩
theorem rank_calls (f : FR) (w : World) : Calls Tryz.prog 33 #[.agg (encF f).toArray] w fun e w'=>e = .returned (.int .i64 (min f.kind 3)) ∧ w' = w.alloc (.cells (encF f).toArray 37):=by
 obtain ⟨k,n,a1,n1,c1,o,g,a2,n2,c2,t⟩:=f
 unfold encF
 dsimp only
 go_enter Tryz.func33,Tryz.ntmps33
 go_wp2
 go_ret
 exact ⟨rfl,rfl⟩
theorem dflt_calls (x : Ent) (w : World) : Calls Tryz.prog 62 #[.agg (encE x).toArray] w fun e w'=>e = .returned (.bool x.dflt) ∧ w' = w.alloc (.cells (encE x).toArray 28):=by
 obtain ⟨k,d,n,b⟩:=x
 unfold encE
 dsimp only
 go_enter Tryz.func62,Tryz.ntmps62
 go_wp2
 go_ret
 exact ⟨rfl,rfl⟩
theorem unlike_calls (f g : FR) (h : f.name ≠ g.name) (w : World) : Calls Tryz.prog 65 #[.agg (encF f).toArray,.agg (encF g).toArray] w fun e w'=>e = .returned (.bool false) ∧ w' = (w.alloc (.cells (encF f).toArray 37)).alloc (.cells (encF g).toArray 37):=by
 obtain ⟨k,n,a1,n1,c1,o,g1,a2,n2,c2,t⟩:=f
 obtain ⟨k',n',a1',n1',c1',o',g1',a2',n2',c2',t'⟩:=g
 unfold encF
 dsimp only at h ⊢
 have hb : ¬ ((⟨⟨n⟩⟩ : ByteArray) = ⟨⟨n'⟩⟩):=by simpa using h
 go_enter Tryz.func65,Tryz.ntmps65
 go_wp2
 go_ret
 exact ⟨rfl,rfl⟩
end Go.Fbs
