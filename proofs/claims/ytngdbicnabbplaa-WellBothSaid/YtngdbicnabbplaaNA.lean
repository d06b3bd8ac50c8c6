/- Maps as functions: what stands at a key. -/
import Derived.Test.YtngdbicnabbplaaProg
import Derived.Test.YtngdbicnabbplaaR0
import Derived.Maps.Own
import Derived.Maps.OwnOps
import Derived.Maps.OwnSet
import Derived.Maps.Views
import Derived.DeepKeys4
import Derived.WideKeyEntry
import Derived.WalkKit
import Derived.WalkSpells
import Derived.WalkSmall
import Derived.StillTactics
import Derived.OwnWalk
import Derived.Laws.Pointers
import Derived.Laws.OwnMore
import Derived.Deep.RegionHeld3
import Derived.Deep.AppendLies
set_option linter.unusedSimpArgs false
set_option linter.unusedVariables false
set_option linter.unusedSectionVars false
set_option maxRecDepth 100000
namespace Go.Fbs
open Go.Proofs Go.RowKit Go.Maps
open Go.WideElems (Fit rd rg pl rd_val elemAt)
open Go.MapKept Go.ChangeMaps Go.WideShapes
abbrev DV:=DataW Value
def b1y (v:Value):Option (DV×List MemPlace):=some (.held v,[])
abbrev Mp:=Lit→Option Value
open Classical in
noncomputable def kJ {α:Type} (m:Lit→Option α) (k:Lit) (v:α):Lit→Option α:=fun x=>if x=k then some v else m x
def jH (P:Program) (K:TypeId) (w:World) (b n:Nat) (m:Mp):Prop :=
 ∃ D:DV,w.ownsMap P K b1y b n D∧∀ kl,WideAt.IsKeyLit kl→∀ z,D.atKey kl z=match m kl with | some v=>.held v | none=>z
variable {P:Program} {K T E:TypeId} {w w':World} {b n:Nat} {m:Mp}
theorem jH.mono (h:jH P K w b n m) {n':Nat} (hn:n≤n'):jH P K w b n' m:=by
 obtain ⟨D,h1,h2⟩:=h
 exact ⟨D,h1.mono hn,h2⟩
theorem jH.made (w:World):jH P K (w.alloc (.map #[] 0)) w.heap.size 0 (fun _=>none):=⟨.map [],World.ownsMap_made _ _ _ _,fun _ _ _=>rfl⟩
theorem jH.same (h : jH P K w b n m) (hb : w'.heap[b]? = w.heap[b]?) : jH P K w' b n m:=by
 obtain ⟨D,⟨es,clock,e1,e2⟩,h2⟩:=h
 exact ⟨D,⟨es,clock,hb.trans e1,e2⟩,h2⟩
theorem jH.has {D:DV} (h2:∀ kl,WideAt.IsKeyLit kl→∀ z,D.atKey kl z=match m kl with | some v=>.held v | none=>z) {kl:Lit} (hk:WideAt.IsKeyLit kl):Maps.has D kl=(m kl).isSome:=by
 cases hm:m kl with
 | none =>
  refine has_false_of_atKey fun z=>?_
  rw [h2 kl hk z,hm]
 | some v =>
  refine has_true_of_atKey (y:=.held v) fun z=>?_
  rw [h2 kl hk z,hm]
theorem jH.look (h:jH P K w b n m) (law:Keyed P K) (ht:P.underlying T=some (.map K E)) {z:Value} (hz:(zeroValue E).run P w = .ok z w) {key:Value} {kl:Lit} (hkey:keyOf P K key=some kl) (hk:WideAt.IsKeyLit kl) :
  (Instr.lookup T (.map (some b)) key false).run P w = .ok ((m kl).getD z) w:=by
 obtain ⟨D,h1,h2⟩:=h
 obtain ⟨v,ps,hr,hv⟩:=h1.lookup law ht hz (zd:=.held z) (zp:=[]) rfl hkey
 rw [hr]
 rw [h2 kl hk] at hv
 simp only [b1y,zzz,zvy] at hv
 cases hm:m kl with
 | none=>rw [hm] at hv; simp only [DataW.held.injEq] at hv; rw [hv.1]; rfl
 | some x=>rw [hm] at hv; simp only [DataW.held.injEq] at hv; rw [hv.1]; rfl
theorem jH.bFj (h:jH P K w b n m) (law:Keyed P K) (ht:P.underlying T=some (.map K E)) {z:Value} (hz:(zeroValue E).run P w = .ok z w) {key:Value} {kl:Lit} (hkey:keyOf P K key=some kl) (hk:WideAt.IsKeyLit kl) :
  (Instr.lookup T (.map (some b)) key true).run P w = .ok (.tuple #[(m kl).getD z,.bool (m kl).isSome]) w:=by
 obtain ⟨D,h1,h2⟩:=h
 obtain ⟨v,ps,hr,hv⟩:=h1.look_ok law ht hz (zd:=.held z) (zp:=[]) rfl hkey
 rw [hr,jH.has h2 hk]
 rw [h2 kl hk] at hv
 simp only [b1y,zzz,zvy] at hv
 cases hm:m kl with
 | none=>rw [hm] at hv; simp only [DataW.held.injEq] at hv; rw [hv.1]; rfl
 | some x=>rw [hm] at hv; simp only [DataW.held.injEq] at hv; rw [hv.1]; rfl
theorem aUz {D:DV} (hD:IsMap D) (h2:∀ kl,WideAt.IsKeyLit kl→∀ z,D.atKey kl z=match m kl with | some v=>.held v | none=>z) {k:Lit} (hk:WideAt.IsKeyLit k) (v:Value) :
  ∀ kl,WideAt.IsKeyLit kl→∀ z,(D.put k (.held v)).atKey kl z=match kJ m k v kl with | some v=>.held v | none=>z:=fun kl hkl z=>by
 unfold kJ
 by_cases e:kl=k
 ·subst e
  rw [atKey_put_same hD hkl,if_pos rfl]
 ·rw [atKey_put_other e,h2 kl hkl,if_neg e]
theorem jH.put (h:jH P K w b n m) (law:Keyed P K) (ht:P.underlying T=some (.map K E)) (hn:n < maxLen) {key val:Value} {kl:Lit} (hkey:keyOf P K key=some kl) (hk:WideAt.IsKeyLit kl) :
  ∃ w',(Instr.mapUpdate T (.map (some b)) key val).run P w = .ok () w'∧jH P K w' b (n+1) (kJ m kl val)∧w.grownBy w' (some b):=by
 obtain ⟨D,h1,h2⟩:=h
 obtain ⟨w',hr,h3,h4⟩:=h1.update law ht hn hkey (val:=val) (d:=.held val) (ps:=[]) rfl
 exact ⟨w',hr,⟨_,h3,aUz h1.isMap h2 hk val⟩,h4⟩
theorem bAt:Keyed Try.prog 9:=string_keyed Try.underlying9
theorem b49:laidOutB Try.prog=true:=by kernel_rfl
theorem bAu:(100:TypeId) < Try.prog.types.size:=of_decide_eq_true (by kernel_rfl)
theorem bFk:(match Try.prog.underlying 100 with | some (.array _ _) | some (.struct _)=>true | _=>false)=true:=by rw [Try.underlying100]
theorem aU0:WideMaps.KeyLaw Try.prog 100:=deep_law_laid b49 (m:=2) (by omega) bAu (by kernel_rfl) bFk
theorem aIf:Keyed Try.prog 100:=Keyed.of_law aU0
def aG8 (a b:List UInt8):Value:=.agg #[.string ⟨⟨a⟩⟩,.string ⟨⟨b⟩⟩]
def dY (a b:List UInt8):Lit:=.string (keyBytes [.string a,.string b])
theorem aQp:Try.prog.cellsOf 100=2:=by kernel_rfl
theorem bCq:Try.prog.cellsOf 9=1:=by kernel_rfl
theorem bFl:Try.prog.keyTypeAt (Try.prog.types.size+1) 100=true:=by kernel_rfl
theorem b8s (a b:List UInt8):(aG8 a b).formed Try.prog 100=true:=by simp [aG8,Value.formed,Try.underlying100,aQp]
theorem a3d {a b:List UInt8} (ha:a.length≤maxLen) (hb:b.length≤maxLen):keyOf Try.prog 100 (aG8 a b)=some (dY a b):=by
 have hs:∀ l:List UInt8,l.length≤maxLen→(⟨⟨l⟩⟩:ByteArray).size≤maxLen:=fun l h=>h
 have hl:Try.prog.keyLits (Try.prog.types.size+1) 100 (aG8 a b).cells.toList=some [.string a,.string b]:=by
  obtain ⟨k,hk⟩:∃ k,Try.prog.types.size=k+1:=by
   have h:(1:Nat)≤Try.prog.types.size:=Nat.le_trans (by decide) bAu
   exact ⟨Try.prog.types.size - 1,(Nat.sub_add_cancel h).symm⟩
  rw [hk]
  simp [Program.keyLits,Try.underlying100,Try.underlying9,aG8,Value.cells,aQp,bCq,hs a ha,hs b hb]
 unfold keyOf
 rw [Try.underlying100]
 simp only [show Try.prog.keyType 100=true from bFl,b8s,Bool.and_self,if_true,hl]
 rfl
theorem aDk {a b c d:List UInt8} (ha:a.length≤maxLen) (hb:b.length≤maxLen) (hc:c.length≤maxLen) (hd:d.length≤maxLen) (h:dY a b=dY c d):a=c∧b=d:=by
 have h1:=a3d ha hb
 have h2:=a3d hc hd
 rw [← h] at h2
 have:=aU0.inj h1 h2
 simp only [aG8,Value.agg.injEq,Array.mk.injEq,List.cons.injEq,Value.string.injEq,and_true] at this
 simpa using this
theorem aYz {a:List UInt8} (ha:a.length≤maxLen):keyOf Try.prog 9 (.string ⟨⟨a⟩⟩)=some (.string a):=Go.WideMaps.keyOf_string_mk (P:=Try.prog) (s:=⟨⟨a⟩⟩) Try.underlying9 ha
theorem aU1 (w:World):(zeroValue 3).run Try.prog w = .ok (.int .i64 0) w:=by kernel_rfl
theorem b5a (w:World):(zeroValue 32).run Try.prog w = .ok (.agg #[.string ⟨#[]⟩,.slice none 0 0,.slice none 0 0]) w:=by kernel_rfl
theorem bCr (w:World):(zeroValue 123).run Try.prog w = .ok (.slice none 0 0) w:=by kernel_rfl
end Go.Fbs
