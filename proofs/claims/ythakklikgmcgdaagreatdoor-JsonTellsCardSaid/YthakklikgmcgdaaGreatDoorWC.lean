import Derived.Test.YthakklikgmcgdaaGreatDoorWB
import Derived.Test.YthakklikgmcgdaaGreatDoorJB
set_option linter.unusedSimpArgs false
set_option linter.unusedVariables false
set_option linter.unusedSectionVars false
set_option maxRecDepth 100000
namespace Go.Fbs
open Go.Proofs Go.RowKit
def aZ (p:aE):Prop:=p.s.length≤jS∧0≤p.a∧p.a≤p.s.length
def aF (p:aE):aE:={ p with a:=lE p.s p.a kJ }
def dU (p:aE):UInt8:=p.s.getD p.a.toNat 0
def aU (p:aE) (at' e:Int):aE:=if p.e=0 then { p with e:=e,b:=at' } else p
def aV (p:aE) (c:UInt8):Bool×aE:=if p.e≠0∨dU p≠c then (false,aU p p.a 9) else (true,{ p with a:=p.a+1 })
theorem vO {s:List UInt8} {a:Int} (c:List UInt8) (h0:0≤a) (h1:a≤s.length):a≤lE s a c∧lE s a c≤s.length:=by
 unfold lE
 have:=aHy (s.drop a.toNat) c
 simp only [List.length_drop] at this
 omega
theorem iY {p:aE} (h:aZ p):aZ (aF p):=by
 obtain ⟨h1,h2,h3⟩:=h
 have:=vO kJ h2 h3
 exact ⟨h1,by show 0≤lE _ _ _; omega,this.2⟩
theorem qO {p:aE} (h:aZ p) (hc:dU p≠0):p.a < p.s.length:=by
 obtain ⟨h1,h2,h3⟩:=h
 rcases Int.lt_or_eq_of_le h3 with h | h
 ·exact h
 ·refine absurd ?_ hc
  unfold dU
  rw [List.getD_eq_getElem?_getD,List.getElem?_eq_none (by omega)]; rfl
theorem x8 {p:aE} (h:aZ p) (x y:Int):aZ (aU p x y):=by unfold aU; split <;> exact h
theorem a0j {p:aE} (h:aZ p) (c:UInt8) (hc:c≠0):aZ (aV p c).2:=by
 unfold aV
 split
 ·exact x8 h _ _
 ·rename_i hn
  have hn:p.e=0∧dU p=c:=by simpa using hn
  have:=qO h (by rw [hn.2]; exact hc)
  obtain ⟨h1,h2,h3⟩:=h
  exact ⟨h1,by show 0≤p.a+1; omega,by show p.a+1≤(p.s.length:Int); omega⟩
theorem lN {p:aE} (hd:aZ p) (w:World) (B:Nat) (hw:dQ w B p):Calls Tryz.prog 16 #[.pointer (some ⟨B,0,none⟩)] w fun e w'=>e = .returned (.tuple #[])∧dQ w' B (aF p)∧fN w w' B:=by
 have:=vN yQ (p:=p) (p':=aF p) (args:=[]) (rs:=[]) (by
  show cE _=_
  unfold cE pW
  exact if_pos hd) rfl rfl rfl rfl rfl rfl w B [] hw (fun _ _=>Reps.nil)
 refine this.mono ?_
 rintro e w' ⟨x,rfl,hr,h1,h2⟩
 obtain ⟨ys,hy,rfl⟩:=rep_tup hr
 rw [hy.inv_nil]
 exact ⟨rfl,h1,h2⟩
theorem aE9 {p:aE} (hd:aZ p) (w:World) (B:Nat) (hw:dQ w B p):Calls Tryz.prog 30 #[.pointer (some ⟨B,0,none⟩)] w fun e w'=>e = .returned (.int .u8 (dU p).toNat)∧dQ w' B p∧fN w w' B:=by
 have:=vN kK (p:=p) (p':=p) (args:=[]) (rs:=[.int .u8 (dU p).toNat]) (by
  show bU _=_
  unfold bU pW
  exact if_pos ⟨hd.1,hd.2.1⟩) rfl rfl rfl rfl rfl rfl w B [] hw (fun _ _=>Reps.nil)
 refine this.mono ?_
 rintro e w' ⟨x,rfl,hr,h1,h2⟩
 exact ⟨by rw [rep_int hr],h1,h2⟩
theorem aFa (p:aE) (x y:Int) (w:World) (B:Nat) (hw:dQ w B p):Calls Tryz.prog 18 #[.pointer (some ⟨B,0,none⟩),.int .i64 x,.int .i64 y] w fun e w'=>e = .returned (.tuple #[])∧dQ w' B (aU p x y)∧fN w w' B:=by
 have:=vN kL (p:=p) (p':=aU p x y) (args:=[.int .i64 x,.int .i64 y]) (rs:=[]) (by
  show aL _=_
  obtain ⟨s,a,d,e,b⟩:=p
  unfold aL pW aU
  by_cases he:e=0
  ·subst he; rfl
  ·simp only [he,if_false]; rfl) rfl rfl rfl rfl rfl rfl w B [.int .i64 x,.int .i64 y] hw (fun _ _=>Reps.cons (.int _ _) (Reps.cons (.int _ _) Reps.nil))
 refine this.mono ?_
 rintro e w' ⟨x,rfl,hr,h1,h2⟩
 obtain ⟨ys,hy,rfl⟩:=rep_tup hr
 rw [hy.inv_nil]
 exact ⟨rfl,h1,h2⟩
def dV:Spec
 | [.agg [.str s,.int .i64 a,.int .i64 d,.int .i64 e,.int .i64 b],.int .u8 c]=>if s.length≤jS∧0≤a∧a≤s.length∧0≤c∧c < 256 then some (.tup [.bool (aV ⟨s,a,d,e,b⟩ c.toNat.toUInt8).1,.agg (pW (aV ⟨s,a,d,e,b⟩ c.toNat.toUInt8).2)]) else none
 | _=>none
noncomputable abbrev TLn:List (FuncId×Spec):=[(cS,aL),(bL,bU)]
theorem rY:dX Tryz.prog a1c eR dV:=by
 refine a6r (T:=TLn) (aH.fD kL (aH.fD kK aH.nil)) fun words v hv=>?_
 have c1:∀ args,bD TLn cS args=aL args:=fun _=>rfl
 have c2:∀ args,bD TLn bL args=bU args:=fun _=>rfl
 unfold dV at hv
 split at hv <;> simp only [Option.ite_none_right_eq_some,Option.some.injEq,reduceCtorEq] at hv
 rename_i s a d e b c
 obtain ⟨⟨hl,ha,has,hc0,hc1⟩,rfl⟩:=hv
 refine ⟨_,rfl,rfl,rfl,rfl,rfl,rfl,?_⟩
 rw [a8a]
 have hk:∀ s a d e b,aP 5 (V.agg [V.str s,vI a,vI d,vI e,vI b])=some (V.agg [V.str s,vI a,vI d,vI e,vI b]):=fun _ _ _ _ _=>rfl
 have hcc:((c.toNat.toUInt8).toNat:Int)=c:=by
  have:c.toNat < 256:=by omega
  simp [Nat.toUInt8,UInt8.toNat_ofNat']; omega
 by_cases he:e=0
 ·subst he
  have hh:bU [V.agg [.str s,.int .i64 a,.int .i64 d,.int .i64 0,.int .i64 b]]=some (.tup [.int .u8 (s.getD a.toNat 0).toNat,vP s a d 0 b]):=if_pos ⟨hl,ha⟩
  by_cases hcx:((s.getD a.toNat 0).toNat:Int)=c
  ·have hx:dU ⟨s,a,d,0,b⟩=c.toNat.toUInt8:=by
    show s.getD a.toNat 0=_
    apply UInt8.toNat_inj.1
    have:=hcc; omega
   have hn:aV ⟨s,a,d,0,b⟩ c.toNat.toUInt8=(true,⟨s,a+1,d,0,b⟩):=by unfold aV; rw [if_neg (by simp [hx])]
   have hw:IntKind.i64.wrap (a+1)=a+1:=dN (by omega) (by unfold jS at hl; omega)
   rw [hn]
   clear hx
   generalize s.getD a.toNat 0=q at hh hcx
   simp [sS,if_true,if_false,reduceCtorEq,c1,c2,hh,hcx,iI,sc,aD,vP,pW,hw,hk]
  ·have hx:dU ⟨s,a,d,0,b⟩≠c.toNat.toUInt8:=fun h=>hcx (by rw [← hcc,← h]; rfl)
   have hn:aV ⟨s,a,d,0,b⟩ c.toNat.toUInt8=(false,⟨s,a,d,9,a⟩):=by unfold aV aU; rw [if_pos (by simp [hx])]; rfl
   rw [hn]
   clear hx
   generalize s.getD a.toNat 0=q at hh hcx
   simp [sS,if_true,if_false,reduceCtorEq,c1,c2,hh,hcx,iI,sc,aD,vP,pW,aL,hk]
   exact trivial
 ·have hn:aV ⟨s,a,d,e,b⟩ c.toNat.toUInt8=(false,⟨s,a,d,e,b⟩):=by unfold aV aU; rw [if_pos (by simp [he])]; simp [he]
  rw [hn]
  simp [sS,if_true,if_false,reduceCtorEq,c1,c2,he,iI,sc,aD,vP,pW,aL,hk]
  exact trivial
theorem yR {p:aE} (hd:aZ p) (c:UInt8) (w:World) (B:Nat) (hw:dQ w B p):Calls Tryz.prog 55 #[.pointer (some ⟨B,0,none⟩),.int .u8 c.toNat] w fun e w'=>e = .returned (.bool (aV p c).1)∧dQ w' B (aV p c).2∧fN w w' B:=by
 have hc:((c.toNat:Int)).toNat.toUInt8=c:=by simp
 have:=vN rY (p:=p) (p':=(aV p c).2) (args:=[.int .u8 c.toNat]) (rs:=[.bool (aV p c).1]) (by
  show dV _=_
  have h2:=c.toNat_lt
  unfold dV pW
  refine (if_pos ⟨hd.1,hd.2.1,hd.2.2,by omega,by omega⟩).trans ?_
  rw [hc]; rfl) rfl rfl rfl rfl rfl rfl w B [.int .u8 c.toNat] hw (fun _ _=>Reps.cons (.int _ _) Reps.nil)
 refine this.mono ?_
 rintro e w' ⟨x,rfl,hr,h1,h2⟩
 exact ⟨by rw [rep_bool hr],h1,h2⟩
end Go.Fbs
