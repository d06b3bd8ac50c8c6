import Derived.Test.YthakklikgmcgdaaGreatDoorXD
set_option linter.unusedSimpArgs false
set_option linter.unusedVariables false
set_option linter.unusedSectionVars false
set_option maxRecDepth 100000
namespace Go.Fbs
open Go.Proofs Go.RowKit
theorem a6z (B b:Nat) (W:World):Wr B b W W.drew:=⟨Below.drew (Below.refl B W),Lib.OthersKept.drew (Lib.OthersKept.refl _ _ W)⟩
set_option maxHeartbeats 3200000 in
theorem aWo {n:Nat} (hT:a1k n) (hn:n≤20) {κ:Ctx} {B b xb xj xd:Nat} {k:Int} {t:List UInt8} {ks ls:List V} {a2:Option Addr} {n2 z2:Nat} {a3:Option Addr} {n3 z3:Nat} {W:World} (hκ:∀ c,B≤c→κ.hw c=0) (hp:(jn k t ks ls).plain=true)
  (hc : aA7 κ B b xb xj xd k t ks ls (20 - n) a2 n2 z2 a3 n3 z3 W) {i : Nat} {e : V} (hi : ls[i]? = some e) {l r : List UInt8} (ht : mY n l e = some r) (h : Bq B b l W) :
  Calls Tryz.prog 40 (#[.int .i64 i] ++ #[.pointer (some ⟨xb,0,none⟩),.pointer (some ⟨xj,0,none⟩),.pointer (some ⟨xd,0,none⟩)]) W fun e W'=>e = .returned (.tuple #[])∧Bq B b r W'∧Wr B b W W':=by
 obtain ⟨⟨E1,hb,_⟩,⟨E2,hj,_⟩,⟨E3,hd,_⟩,hr⟩:=hc
 have hpe : e.plain = true:=bS.1 (a8s hp).2.2 e (List.mem_of_getElem? hi)
 have hr3:Rep κ W.heap (.sl .ro ls) (.slice a3 n3 z3):=hr.2 3 _ _ rfl rfl
 obtain ⟨c,off,cap,hs,hcap,hil,ys,hys,hone,aW⟩:=aGw hr3 hi
 obtain ⟨k',t',ks',ls',rfl⟩:=yV ht
 have hag:Rep κ W.heap (jn k' t' ks' ls') (.agg ⟨ys⟩):=.agg _ ys hys.1 hone hys.2
 obtain ⟨b2,m2,q2,b3,m3,q3,hy,_⟩:=aAx (h:=W) hag
 cases hs
 simp only [Value.agg.injEq,Array.mk.injEq] at hy
 subst hy
 have g0 : W.cell? ⟨c,off + i * 4,none⟩ = some (.int .i64 k'):=aW 0 _ rfl
 have g1 : W.cell? ⟨c,off + i * 4 + 1,none⟩ = some (.string ⟨⟨t'⟩⟩):=aW 1 _ rfl
 have g2 : W.cell? ⟨c,off + i * 4 + 2,none⟩ = some (.slice b2 m2 q2):=aW 2 _ rfl
 have g3 : W.cell? ⟨c,off + i * 4 + 3,none⟩ = some (.slice b3 m3 q3):=aW 3 _ rfl
 clear aW
 have c0 : W.cell? ⟨xb,0,none⟩ = some (.pointer (some ⟨b,0,none⟩)):=by rw [Lib.cell_of_heap hb]; rfl
 have c3 : W.cell? ⟨xj,3,none⟩ = some (.slice (some ⟨c,off,none⟩) ls.length z3):=by rw [Lib.cell_of_heap hj]; rfl
 have c4 : W.cell? ⟨xd,0,none⟩ = some (.int .i64 (20 - n)):=by rw [Lib.cell_of_heap hd]; rfl
 have hw:IntKind.i64.wrap (20 - (n:Int)+1)=21 - n:=by simp [IntKind.wrap,IntKind.signed,IntKind.bits]; omega
 have hi':(i:Int) < (ls.length:Int):=by omega
 have hcall:=hT _ _ _ ht hpe κ B b W.drew _ hκ h hag
 go_enter Tryz.func40,Tryz.ntmps40
 go_wp2
 go_region_law (go_simp; refine hcall.mono ?_; rintro _ W2 ⟨rfl,h3,o3⟩)
 all_goals go_wp2
 all_goals exact ⟨rfl,.tuple #[],by kernel_rfl,rfl,h3,(a6z B b W).trans o3⟩
theorem rep_one {κ:Ctx} {h:World} {t:List UInt8} {ys:List Value} (r:Reps κ h.heap (V.str t).cells ys):ys=[.string ⟨⟨t⟩⟩]:=by
 obtain ⟨x0,t0,e0,s0,r0⟩:=(show Reps κ h.heap [.str t] ys from r).inv_cons
 rw [e0,r0.inv_nil,rep_str s0]
set_option maxHeartbeats 6400000 in
theorem aTg {n:Nat} (hT:a1k n) (hn:n≤20) {κ:Ctx} {B b xb xj xd:Nat} {k:Int} {t:List UInt8} {ks ls:List V} {a2:Option Addr} {n2 z2:Nat} {a3:Option Addr} {n3 z3:Nat} {W:World} (hκ:∀ c,B≤c→κ.hw c=0) (hp:(jn k t ks ls).plain=true) (hne:xb≠b∧xj≠b∧xd≠b)
  (hc : aA7 κ B b xb xj xd k t ks ls (20 - n) a2 n2 z2 a3 n3 z3 W) {i : Nat} {e : V} {key : List UInt8} (hk : ks[i]? = some (.str key)) (hi : ls[i]? = some e) {l r : List UInt8} (hl : l.length ≤ 500000000) (hkl : key.length ≤ 50000000) (hl2 : (l ++ iQ key).length ≤ 500000000) (ht : mY n (l ++ iQ key ++ [58]) e = some r) (h : Bq B b l W) :
  Calls Tryz.prog 41 (#[.int .i64 i] ++ #[.pointer (some ⟨xb,0,none⟩),.pointer (some ⟨xj,0,none⟩),.pointer (some ⟨xd,0,none⟩)]) W fun e W'=>e = .returned (.tuple #[])∧Bq B b r W'∧Wr B b W W':=by
 have hpe : e.plain = true:=bS.1 (a8s hp).2.2 e (List.mem_of_getElem? hi)
 obtain ⟨k',t',ks',ls',rfl⟩:=yV ht
 have hc0:=hc
 obtain ⟨⟨E1,hb,_⟩,⟨E2,hj,_⟩,⟨E3,hd,_⟩,hr⟩:=hc0
 have hr2:Rep κ W.heap (.sl .ro ks) (.slice a2 n2 z2):=hr.2 2 _ _ rfl rfl
 obtain ⟨kc,koff,kcap,hs2,hkcap,hkl',ys2,hys2,_,hcell2⟩:=aGw hr2 hk
 rw [rep_one (h:=W) hys2] at hcell2
 cases hs2
 have k0 : W.cell? ⟨kc,koff + i,none⟩ = some (.string ⟨⟨key⟩⟩):=by have:=hcell2 0 _ rfl; simpa [V.cells] using this
 clear hcell2
 have c0 : W.cell? ⟨xb,0,none⟩ = some (.pointer (some ⟨b,0,none⟩)):=by rw [Lib.cell_of_heap hb]; rfl
 have c2 : W.cell? ⟨xj,2,none⟩ = some (.slice (some ⟨kc,koff,none⟩) ks.length z2):=by rw [Lib.cell_of_heap hj]; rfl
 have hi':(i:Int) < (ls.length:Int):=by have:=(List.getElem?_eq_some_iff.1 hi).1; omega
 have hk':(i:Int) < (ks.length:Int):=by omega
 have hw:IntKind.i64.wrap (20 - (n:Int)+1)=21 - n:=by simp [IntKind.wrap,IntKind.signed,IntKind.bits]; omega
 have hq:=aA6 (w:=W.drew) (show Bq B b l W.drew from h) key hl hkl
 go_enter Tryz.func41,Tryz.ntmps41
 go_wp2
 go_region_law (go_simp; refine hq.mono ?_; rintro _ W2 ⟨rfl,h2,o2⟩)
 all_goals
  have hcW:=hc.cA hκ hp hne ((a6z B b W).trans o2)
  obtain ⟨⟨F1,fb,_⟩,_,_,_⟩:=hcW
  have d0 : W2.cell? ⟨xb,0,none⟩ = some (.pointer (some ⟨b,0,none⟩)):=by rw [Lib.cell_of_heap fb]; rfl
  go_wp2_with (go_at_call 42; refine (sI h2 58 (by omega)).mono ?_; rintro _ W3 ⟨rfl,h3,o3⟩)
  obtain ⟨⟨G1,gb,_⟩,⟨G2,gj,_⟩,⟨G3,gd,_⟩,gr⟩:=hc.cA hκ hp hne (((a6z B b W).trans o2).trans o3)
  have hr3:Rep κ W3.heap (.sl .ro ls) (.slice a3 n3 z3):=gr.2 3 _ _ rfl rfl
  obtain ⟨c,off,cap,hs,hcap,hil,ys,hys,hone,aW⟩:=aGw hr3 hi
  have hag:Rep κ W3.heap (jn k' t' ks' ls') (.agg ⟨ys⟩):=.agg _ ys hys.1 hone hys.2
  obtain ⟨b2,m2,q2,b3,m3,q3,hy,_⟩:=aAx (h:=W3) hag
  cases hs
  simp only [Value.agg.injEq,Array.mk.injEq] at hy
  subst hy
  have g0 : W3.cell? ⟨c,off + i * 4,none⟩ = some (.int .i64 k'):=aW 0 _ rfl
  have g1 : W3.cell? ⟨c,off + i * 4 + 1,none⟩ = some (.string ⟨⟨t'⟩⟩):=aW 1 _ rfl
  have g2 : W3.cell? ⟨c,off + i * 4 + 2,none⟩ = some (.slice b2 m2 q2):=aW 2 _ rfl
  have g3 : W3.cell? ⟨c,off + i * 4 + 3,none⟩ = some (.slice b3 m3 q3):=aW 3 _ rfl
  clear aW
  have e0 : W3.cell? ⟨xb,0,none⟩ = some (.pointer (some ⟨b,0,none⟩)):=by rw [Lib.cell_of_heap gb]; rfl
  have e3 : W3.cell? ⟨xj,3,none⟩ = some (.slice (some ⟨c,off,none⟩) ls.length z3):=by rw [Lib.cell_of_heap gj]; rfl
  have e4 : W3.cell? ⟨xd,0,none⟩ = some (.int .i64 (20 - n)):=by rw [Lib.cell_of_heap gd]; rfl
  have hcall:=hT _ _ _ ht hpe κ B b W3.drew _ hκ h3 hag
  go_region_law (go_simp; refine hcall.mono ?_; rintro _ W4 ⟨rfl,h4,o4⟩)
 all_goals go_wp2
 all_goals exact ⟨rfl,.tuple #[],by kernel_rfl,rfl,h4,(((a6z B b W).trans o2).trans o3).trans ((a6z B b W3).trans o4)⟩
end Go.Fbs
