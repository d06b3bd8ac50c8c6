import Derived.Test.YthakklikgmcgdaaGreatDoorWA
import Derived.Test.YthakklikgmcgdaaGreatDoorProg
import Derived.WalkKit
import Derived.WalkSpells
import Derived.WalkSmall
import Derived.StillTactics
import Derived.OwnWalk
import Derived.Laws.Pointers
import Derived.Laws.OwnMore
import Derived.Deep.LoopGhost
import Derived.Deep.RegionHeld3
import Derived.Deep.RegionLaw
import Derived.Deep.AppendLies
set_option linter.unusedSimpArgs false
set_option linter.unusedVariables false
set_option linter.unusedSectionVars false
set_option maxRecDepth 100000
namespace Go.Fbs
open Go.Proofs Go.RowKit
structure aE where
 s:List UInt8
 a:Int
 d:Int
 e:Int
 b:Int
def a3r (p:aE):List Value:=[.string ⟨⟨p.s⟩⟩,.int .i64 p.a,.int .i64 p.d,.int .i64 p.e,.int .i64 p.b]
def pW (p:aE):List V:=[.str p.s,.int .i64 p.a,.int .i64 p.d,.int .i64 p.e,.int .i64 p.b]
def dQ (w : World) (B : Nat) (p : aE) : Prop:=(∃ E,w.heap[B]? = some (.cells (a3r p).toArray E (0,0))) ∧ qN w B
structure fN (w w':World) (B:Nat):Prop where
 os:w'.os=w.os
 output:w'.output=w.output
 size:w.heap.size≤w'.heap.size
 same : ∀ b,b < w.heap.size → b ≠ B → w'.heap[b]? = w.heap[b]?
theorem fN.trans {a b c:World} {B:Nat} (h:fN a b B) (k:fN b c B):fN a c B :=
 ⟨k.os.trans h.os,k.output.trans h.output,Nat.le_trans h.size k.size,fun i hi hn=>(k.same i (Nat.lt_of_lt_of_le hi h.size) hn).trans (h.same i hi hn)⟩
theorem qN.only {w w':World} {B:Nat} (h:qN w B) (o:fN w w' B):qN w' B:=h.same o.size o.same
def tK:Ctx:=⟨fun _=>0,fun _=>none,[]⟩
theorem aVy (h:Heap) (ht:tD h):Mem tK h empty:=by
 refine ⟨⟨?_,?_,?_,?_,?_,?_,?_,?_,fun _ _=>rfl,?_,?_,ht.tP fun b=>by rintro (⟨l,hl⟩ | ⟨L,hL,_⟩); cases hl; cases hL⟩,⟨?_,?_⟩,rfl⟩
 ·rintro b ⟨l,hl⟩; cases hl
 ·rintro b ⟨l,hl⟩; cases hl
 ·intro i j b h1; cases h1
 ·intro L hL; cases hL
 ·intro L hL; cases hL
 ·intro i j L L' h1; cases h1
 ·intro L hL; cases hL
 ·intro L hL; cases hL
 ·intro L hL; cases hL
 ·intro L hL; cases hL
 ·intro l b hl; cases hl
 ·intro l b c hl; cases hl
def pK (n:Nat) (h:Heap):Ctx:=rX tK n h fun _=>false
theorem aN6 (κ:Ctx) (h:Heap) (p:aE):Reps κ h (pW p) (a3r p):=Reps.cons (.str _) (Reps.cons (.int _ _) (Reps.cons (.int _ _) (Reps.cons (.int _ _) (Reps.cons (.int _ _) Reps.nil))))
theorem aN7 {κ:Ctx} {h:Heap} {p:aE} {ys:List Value} (r:Reps κ h (pW p) ys):ys=a3r p:=by
 obtain ⟨z1,y1,e1,s1,r1⟩:=r.inv_cons
 obtain ⟨z2,y2,e2,s2,r2⟩:=r1.inv_cons
 obtain ⟨z3,y3,e3,s3,r3⟩:=r2.inv_cons
 obtain ⟨z4,y4,e4,s4,r4⟩:=r3.inv_cons
 obtain ⟨z5,y5,e5,s5,r5⟩:=r4.inv_cons
 rw [e1,e2,e3,e4,e5,r5.inv_nil,rep_str s1,rep_int s2,rep_int s3,rep_int s4,rep_int s5]; rfl
theorem aE8 (p:aE):∀ y ∈ a3r p,y.oneCell'=true:=by
 intro v hv
 simp only [a3r,List.mem_cons,List.not_mem_nil,or_false] at hv
 rcases hv with rfl | rfl | rfl | rfl | rfl <;> rfl
theorem vN {f:FuncId} {sg:gY} {F:Spec} (h:dX Tryz.prog f sg F) {p p':aE} {args rs:List V} (hF:F (.agg (pW p)::args)=some (.tup (rs++[.agg (pW p')])))
  (hin:iD 0 0 sg.as (.agg (pW p)::args)=(.ptr 0 0::args,[.cells none (pW p)],[])) (hgr:sg.gr=[]) (hout:eN sg.as=[List.replicate 5 .pl]) (hn:sg.bF=rs.length) (hargs:bT args=true) (hrs:(pack rs).plain=true)
  (w:World) (B:Nat) (xs:List Value) (hw:dQ w B p) (ra:∀ κ h,Reps κ h args xs) :
  Calls Tryz.prog f ⟨.pointer (some ⟨B,0,none⟩)::xs⟩ w fun e w'=>∃ x,e = .returned x∧Rep (pK w.heap.size w'.heap) w'.heap (pack rs) x∧dQ w' B p'∧fN w w' B:=by
 obtain ⟨⟨E,hc⟩,hT⟩:=hw
 have:=aSs (n:=5) (cs':=pW p') h hF hin hgr hout (by rw [hn]; simp) rfl hargs (aVy w.heap hT.aJg) rfl hc (aN6 _ _ p) (aE8 p) (ra _ _) hT.tP
 refine this.mono ?_
 rintro e w' ⟨x,κ',he,hr,ha⟩
 rw [hn,List.take_left' rfl] at hr
 obtain ⟨ys,E',g1,g2,g3⟩:=ha.cells
 rw [aN7 g2] at g1
 refine ⟨x,he,a1g (κ:=κ') (fun b i y h1 h2=>⟨?_,h2⟩) hr hrs,⟨⟨E',g1⟩,hT.same ha.size ha.same⟩,ha.os,ha.output,ha.size,ha.same⟩
 by_cases hb:b < w.heap.size
 ·by_cases e:b=B
  ·rw [e,ha.hwB] at h1; omega
  ·rw [ha.hw b hb e] at h1; exact absurd h1 (by simp [tK])
 ·exact mL (by omega) rfl h2
theorem aZx {f:FuncId} {sg:gY} {p p':aE} {args rs:List V}
  (hin:iD 0 0 sg.as (.agg (pW p)::args)=(.ptr 0 0::args,[.cells none (pW p)],[])) (hgr:sg.gr=[]) (hout:eN sg.as=[List.replicate 5 .pl]) (hn:sg.bF=rs.length) (hargs:bT args=true) (hrs:(pack rs).plain=true)
  (h:∀ (κ:Ctx) (w:World) (B:Nat) (xs:List Value),dQ w B p→Reps κ w.heap args xs→Calls Tryz.prog f ⟨.pointer (some ⟨B,0,none⟩)::xs⟩ w fun e w'=>∃ x,e = .returned x∧Rep (pK w.heap.size w'.heap) w'.heap (pack rs) x∧dQ w' B p'∧fN w w' B) :
  Callee Tryz.prog f sg (.agg (pW p)::args) (rs++[.agg (pW p')]):=by
 refine aSt (n:=5) (cs:=pW p) (cs':=pW p') hin hgr hout (by rw [hn]; simp) rfl hargs rfl rfl (by rw [hn,List.take_left' rfl]; exact hrs) fun κ w B ys xs E k hB hc r ho ra hT=>?_
 rw [aN7 r] at hc
 refine (h κ w B xs ⟨⟨E,hc⟩,hT⟩ ra).mono ?_
 rintro e w' ⟨x,he,hr,⟨⟨E',hs⟩,_⟩,hon⟩
 have hlt:B < w.heap.size:=(Array.getElem?_eq_some_iff.1 hc).1
 refine ⟨x,aQj κ w.heap.size w'.heap,he,?_,hon.os,hon.output,hon.size,hon.same,fun b hb _=>aHw hb,(aHw hlt).trans hB,fun b hb=>?_,_,E',hs,aN6 _ _ p',aE8 p'⟩
 ·rw [hn,List.take_left' rfl]
  refine a1g (κ:=pK w.heap.size w'.heap) (fun b i y h1 h2=>⟨?_,h2⟩) hr hrs
  by_cases hb:b < w.heap.size
  ·exact absurd (show i < 0 by have:=h1; rw [show (pK w.heap.size w'.heap).hw b=0 from uK hb] at this; exact this) (by omega)
  ·obtain ⟨c,E2,fr,q1,q2⟩:=a8f h2
   rw [aSn (by omega) q1]; exact q2
 ·show (if b < w.heap.size then κ.hw b else match w'.heap[b]? with | some (.cells arr _ _)=>arr.size | _=>0) = 0
  have:=hon.size
  rw [if_neg (by omega),Array.getElem?_eq_none hb]
end Go.Fbs
