import Derived.Test.YtpdnpfdbjoaemaaGreatDoorQTJ
import Derived.Test.YtpdnpfdbjoaemaaGreatDoorS2
import Derived.ChangeSame
set_option linter.unusedSimpArgs false
set_option linter.unusedVariables false
set_option linter.unusedSectionVars false
set_option maxRecDepth 100000
namespace Go.Fbs
open Go.Proofs
section
variable {H : Type} {enc : TypeId × Value → H} {P : Program} {w : World} {base : Nat} {sp : Nat → Bool} {held : Bool} {r : Reach} {b0 : Nat} {v : Value} {dd : DataW H} {ps : List MemPlace}
theorem rows_wrds : ∀ {rows : List (List V)},(∀ q ∈ rows,HasL [.str,.int .i64] q) → ∃ ws : List WrdI,rows.map V.agg = ws.map wrdIW
 | [],_=>⟨[],rfl⟩
 | q :: rows,h=>by
  obtain ⟨ws,hw⟩:=rows_wrds (rows:=rows) fun q hq=>h q (by simp [hq])
  obtain ⟨v,vs,rfl,⟨s,rfl,_⟩,h1⟩:=(h q (by simp)).cons_inv
  obtain ⟨v,vs,rfl,⟨n,rfl,_⟩,h2⟩:=h1.cons_inv
  obtain rfl:=h2.nil_inv
  exact ⟨(s,n) :: ws,by rw [List.map_cons,hw]; rfl⟩
theorem arg_line {t e : TypeId} {f0 f1 : Field} (ht : P.underlying t = some (.struct #[f0,f1])) (o0 : f0.offset = 0) (u0 : P.underlying f0.type = some (.int .i64)) (n0 : P.cellsOf f0.type = 1) (o1 : f1.offset = 1) (u1 : P.underlying f1.type = some (.slice e)) (n1 : P.cellsOf f1.type = 1)
  {d : Nat} (he : leafs P d e = some [.str,.int .i64]) (hc : P.cellsOf e = 2) (hct : P.cellTypes P.depth t = some [f0.type,f1.type]) (hcs : P.cellsOf t = 2) (hval : Value.okWide P w r b0 t v) (hd : DataW.Trod enc P w base sp held t v dd ps) :
  ∃ raw : LinI,Rep (sealedCtx w.heap) w.heap (linIW raw) v:=by
 unfold Value.okWide at hval
 rw [ht] at hval
 obtain ⟨cs,rfl,hs,ts,hts,_,hcell⟩:=hval
 rw [hct] at hts
 simp only [Option.some.injEq] at hts
 subst hts
 rw [hcs] at hs
 obtain ⟨fuel,hf⟩:=hd
 obtain ⟨cs⟩:=cs
 match cs,hs with
 | [x0,x1],_ =>
  obtain ⟨y0,y1,n,_,_,g0,g1⟩:=Go.ChangeShapes.trod_struct2 ht hf
  rw [o0,n0] at g0
  rw [o1,n1] at g1
  have g0 : DataW.trod enc P w base sp held n f0.type [x0] = some y0:=g0
  have g1 : DataW.trod enc P w base sp held n f1.type [x1] = some y1:=g1
  obtain ⟨z,hz,_⟩:=DataW.trod_int u0 g0
  simp only [List.cons.injEq,and_true] at hz
  subst hz
  obtain ⟨u,hu,hok⟩:=hcell 1 x1 rfl
  obtain rfl : f1.type = u:=by simpa using hu
  have hv1 : Value.okWide P w r b0 f1.type x1:=by
   unfold Value.okWide
   rw [u1]; exact hok
  obtain ⟨a,len,cap,rfl⟩:=Go.WideShapes.okWide_slice u1 hv1
  obtain ⟨rows,k1,k2,_⟩:=arg_slice (ls:=[.str,.int .i64]) u1 he hc (by simp) hv1 (ps:=y1.2) (dd:=y1.1) ⟨n,g1⟩
  obtain ⟨ws,hws⟩:=rows_wrds k1
  rw [hws] at k2
  refine ⟨(z,ws),.agg [vI z,wrdsI ws] [.int .i64 z,.slice a len cap] rfl (fun x hx=>?_) fun i c x h1 h2=>?_⟩
  ·simp only [List.mem_cons,List.not_mem_nil,or_false] at hx
   rcases hx with rfl | rfl <;> rfl
  ·match i,h1,h2 with
   | 0,h1,h2=>cases h1; cases h2; exact .int _ _
   | 1,h1,h2=>cases h1; cases h2; exact k2
end
theorem arg_line25 {H : Type} {enc : TypeId × Value → H} {w : World} {base : Nat} {sp : Nat → Bool} {held : Bool} {r : Reach} {b0 : Nat} {v : Value} {dd : DataW H} {ps : List MemPlace} (hval : Value.okWide Tryz.prog w r b0 25 v) (hd : DataW.Trod enc Tryz.prog w base sp held 25 v dd ps) :
  ∃ raw : LinI,Rep (sealedCtx w.heap) w.heap (linIW raw) v :=
 arg_line (d:=3) Tryz.underlying25 rfl Tryz.underlying3 (by kernel_rfl) rfl Tryz.underlying23 (by kernel_rfl) (by kernel_rfl) (by kernel_rfl) (by kernel_rfl) (by kernel_rfl) hval hd
theorem tab0_laidT {W : World} (h : laidMetH Tryz.prog Go.Proofs.YtpdnpfdbjoaemaaGreatDoor.Rows.roleTellsRow.laid W) : Tab0 W.heap:=by
 have h2 : laidMet Tryz.prog Go.Proofs.YtpdnpfdbjoaemaaGreatDoor.Rows.roleTellsRow.laid W:=by rw [MakeChecks.laidMetH_plain _ _ _ (by kernel_rfl)] at h; exact h
 obtain ⟨ps,⟨_,_,_,_,_,q1,_,_,_,_,⟨_,_,_,_,_,q2,_,_,_,_,⟨g,t,cs,fuel,p,q3,hg,ht,hv,hd,_,_⟩,_⟩,_⟩,_⟩:=h2
 intro p hp
 simp only [tabs,List.mem_singleton] at hp
 subst hp
 have hg5 : Tryz.prog.globalNamed "internal/strconv.uint64pow10" = some 5 := by kernel_rfl
 have ht5 : (Tryz.prog.globals[5]?).map (·.type) = some 139:=by kernel_rfl
 have e1 : g = 5:=Option.some.inj (hg.symm.trans hg5)
 subst e1
 have e2 : t = 139:=Option.some.inj (ht.symm.trans ht5)
 subst e2
 have hz:=Lib.cells_of_tab (k:=.u64) (zs:=Lib.pow10Tab) (n:=20) Tryz.underlying139 (e:=120) Tryz.underlying120 (by kernel_rfl) (by kernel_rfl) hd
 unfold World.var? at hv
 rw [hg5] at hv
 simp only [Option.bind_some] at hv
 split at hv
 ·rename_i cs' t' fr' hh
  simp only [Option.some.injEq] at hv
  subst hv
  refine ⟨t',fr',hh.trans ?_⟩
  rw [show cs' = (Lib.pow10Tab.map fun z=>Value.int .u64 z).toArray from by rw [← hz]]
  simp only [Lib.pow10Tab,List.map_map]
  rfl
 ·cases hv
end Go.Fbs
