/- Common texts: values, words, what they answer; no statement of the seat. -/
import Derived.Calls
import Derived.Tactics
import Derived.Orders
import Derived.RowKit3
import Derived.Deep.MidRow
import Derived.Deep.AppendSrc
import Derived.Laws.StructEq
import Derived.Laws.AppendOwn
import Derived.WalkKit
import Derived.Laws.MakeOwn
import Derived.Laws.BytesString
import Derived.Laws.IdiomStrings
import Derived.Deep.Upon
import Derived.Maps.RangeRun
import Derived.Lib.UnsafeStr
import Derived.OrdersIn
import Derived.LoopNIn
import Derived.OwnWalkIn
import Derived.Test.YtngdbicnabbplaaR0
import Derived.LoopN
import Derived.Lib.Bytealg
import Derived.Room.MakeNoZero
import Derived.Carry
import Derived.ChangeMaps5
import Derived.OpenShut
import Derived.Test.YtngdbicnabbplaaS2
set_option linter.unusedSimpArgs false
set_option linter.unusedVariables false
set_option linter.unusedSectionVars false
/- What a closed run yields,as words: its new memory is mK. -/
namespace Go.Fbs
def b1i (κ : Ctx) (n : Nat) (h : cJ) : Ctx:=⟨fun b=>if b < n then κ.hw b else match h[b]? with | some (.cells arr _ _)=>arr.size | _=>0,κ.box,κ.aN⟩
theorem a9i {κ:Ctx} {n:Nat} {h:cJ} {b:Nat} (hb:b < n):(b1i κ n h).hw b=κ.hw b:=if_pos hb
theorem aGa {κ : Ctx} {w w' : World} {m : Hp} (k : Mem κ w.heap m) (hs : w.heap.size ≤ w'.heap.size) (ho : ∀ b,b < w.heap.size → w'.heap[b]? = w.heap[b]?) (os : w'.os = w.os) (out : w'.output = w.output) : Ext κ w m (b1i κ w.heap.size w'.heap) w' m:=by
 obtain ⟨ok,hp,lt⟩:=k
 have hc:∀ b i x,bD w.heap b i=some x→bD w'.heap b i=some x:=fun b i x h=>by
  have hb:b < w.heap.size:=by
   unfold bD at h
   cases hg : w.heap[b]? with
   | none=>rw [hg] at h; simp at h
   | some o=>exact (zsz.1 hg).1
  unfold bD at h ⊢
  rw [ho b hb]; exact h
 have le:Le κ w.heap (b1i κ w.heap.size w'.heap) w'.heap :=
  ⟨hs,fun b hb _=>ho b hb,fun b hb _=>a9i hb,fun b i x _ h=>hc b i x h,fun b=>by
   by_cases hb:b < w.heap.size
   ·rw [a9i hb]; exact zxy _
   ·rw [ok.fresh b (by omega)]; exact Nat.zero_le _,fun _ _ h=>h,fun _ h=>.inl h,
   fun _ L h=>⟨L,h,.inl rfl⟩,fun L h hk=>.inl ⟨L,h,hk,rfl⟩⟩
 refine ⟨le,⟨⟨fun b h=>zuz (ok.iK b h) hs,fun b h=>?_,ok.vN,fun L h hk=>zuz (ok.jJ L h hk) hs,fun L h hk=>?_,ok.lnd,ok.tR,fun L h hk=>?_,fun b hb=>?_,ok.xR,ok.lbt,ok.tbs.le le⟩,⟨hp.1,fun l b c hb hc=>?_⟩,lt⟩,zxy _,fun _ _ e=>e,os,⟨out,hs⟩⟩
 ·rw [a9i (ok.iK b h)]; exact ok.rF b h
 ·rw [a9i (ok.jJ L h hk)]; exact ok.lhw L h hk
 ·rw [ho _ (ok.jJ L h hk)]; exact ok.rZ L h hk
 ·show (if b < w.heap.size then κ.hw b else match w'.heap[b]? with | some (.cells arr _ _)=>arr.size | _=>0) = 0
  rw [if_neg (by omega),Array.getElem?_eq_none hb]
 ·obtain ⟨o,h1,h2⟩:=hp.2 l b c hb hc
  refine ⟨o,by rw [ho _ (ok.iK b ⟨l,hb⟩)]; exact h1,?_⟩
  cases c with
  | cells t cs=>obtain ⟨xs,E,h3,h4,h5⟩:=h2; exact ⟨xs,E,h3,h4.mono le,h5⟩
  | arr cs=>obtain ⟨xs,E,h3,h6,h4,h5⟩:=h2; exact ⟨xs,E,h3,h6,h4.mono le,h5⟩
  | map es=>obtain ⟨en,cl,h3,h4,h5,h6⟩:=h2; exact ⟨en,cl,h3,h4.mono le,h5.mono le,h6⟩
  | dead=>exact h2
end Go.Fbs
