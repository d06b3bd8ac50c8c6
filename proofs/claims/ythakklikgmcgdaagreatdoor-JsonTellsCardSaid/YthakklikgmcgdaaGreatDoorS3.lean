/- Common texts: values, words, what they answer; no statement of the seat. -/
import Derived.Test.YthakklikgmcgdaaGreatDoorS2
import Derived.Shelf.Strings.Builder1
import Derived.Shelf.Strings.OnBuilder
import Derived.Below
set_option linter.unusedSimpArgs false
set_option linter.unusedVariables false
set_option linter.unusedSectionVars false
/- A text's builder: what its check leaves. -/
namespace Go.Fbs
open Go.Proofs Go.Shelf
end Go.Fbs
namespace Go.Fbs
open Go.Proofs Go.Shelf
end Go.Fbs
namespace Go.Fbs
open Go.Proofs Go.Shelf
end Go.Fbs
namespace Go.Fbs
open Go.Proofs Go.Shelf Go.RowKit
theorem a3o {κ : Ctx} {h h' : Heap} (hs : h.size ≤ h'.size) (hb : ∀ k,k < h.size → h'[k]? = h[k]?) : Le κ h κ h' where
 size:=hs
 same b hb' _:=hb b hb'
 sM _ _ _:=rfl
 tX b i x _ hc:=by
  have hlt:b < h.size:=gW hc
  unfold aW at hc ⊢
  rw [hb b hlt]; exact hc
 hw _:=Nat.le_refl _
 box _ _ h:=h
 wE _ h:=.inl h
 aN _ L h:=⟨L,h,.inl rfl⟩
 pD L h hk:=.inl ⟨L,h,hk,rfl⟩
theorem aAl {κ : Ctx} {h h' : Heap} {m : Hp} (k : Mem κ h m) (hs : h.size ≤ h'.size) (hb : ∀ k,k < h.size → h'[k]? = h[k]?) : Mem κ h' m:=by
 obtain ⟨ok,hp,ht⟩:=k
 refine ⟨⟨fun b h=>Nat.lt_of_lt_of_le (ok.iH b h) hs,ok.nP,ok.rE,fun L h hk=>Nat.lt_of_lt_of_le (ok.j9 L h hk) hs,ok.lhw,ok.zH,ok.rF,fun L h hv=>?_,fun b h=>ok.fresh b (Nat.le_trans hs h),ok.uS,ok.lbt,ok.tP.le (a3o hs hb)⟩,?_,ht⟩
 ·obtain ⟨c,E,fr,h1,h2⟩:=ok.oO L h hv
  exact ⟨c,E,fr,by rw [hb _ (ok.j9 L h (nf hv))]; exact h1,h2⟩
 ·exact hp.mono (a3o hs hb) rfl fun b h=>hb b (ok.iH b h)
theorem aK9 {P:Program} {f:FuncId} {args:List V} {m:Hp} {v:V} (h:∀ (κ:Ctx) (w:World) (xs:List Value),Reps κ w.heap args xs→∃ x,Calls P f ⟨xs⟩ w (fun e w'=>e = .returned x∧Below w.heap.size w w')∧∀ h',Rep κ h' v x):sO P f args m v m:=by
 intro κ w xs k r
 obtain ⟨x,c,rx⟩:=h κ w xs r
 refine c.mono fun e w' ⟨he,hw⟩=>?_
 exact ⟨x,κ,he,⟨a3o hw.size hw.block,aAl k hw.size hw.block,Nat.le_refl _,fun _ _ h=>h,hw.os,hw.output,hw.size⟩,rx _⟩
end Go.Fbs
