/- JsonDeep: what is run: texts, values. -/
import Derived.Test.YtcihohnnmhfjoaaGreatDoorHJT
import Derived.Test.YtcihohnnmhfjoaaGreatDoorJsonT
import Derived.Test.YtcihohnnmhfjoaaGreatDoorR3
set_option linter.unusedVariables false
set_option linter.unusedSimpArgs false
set_option linter.unusedSectionVars false
set_option maxRecDepth 100000
namespace Go.Fbs
open Go.Proofs
def sB (o : Bool) : Nat → List UInt8
 | 0=>[]
 | n + 1=>sB o n ++ (bif o then [123,34,97,34,58] else [91])
def tB (o : Bool) : Nat → List UInt8
 | 0=>[]
 | n + 1=>tB o n ++ (bif o then [125] else [93])
def txtJ (o : Bool) (n : Nat) : List UInt8:=(sB o n ++ (bif o then [49] else [])) ++ tB o n
def jn (k : Int) (s : List UInt8) (ks ls : List V) : V:=.agg [.int .i64 k,.str s,.sl .ro ks,.sl .ro ls]
def jvL : Nat → V
 | 0=>jn 6 [] [] []
 | n + 1=>jn 6 [] [] [jvL n]
def jvO : Nat → V
 | 0=>jn 4 [49] [] []
 | n + 1=>jn 7 [] [.str [97]] [jvO n]
def ansJ (o : Bool) (n : Nat) : V:=bif Nat.ble n 20 then .tup [bif o then jvO n else jvL (n - 1),.int .i64 0,.int .i64 0] else .tup [jn 0 [] [] [],.int .i64 (bif o then 100 else 20),.int .i64 10]
noncomputable def ansW (o : Rx.OR) (d : Nat) (v : V) : Bool:=@Rx.OR.rec (fun _=>Bool) (fun r H=>isV H d r v) false o
theorem ansW_ok {o : Rx.OR} {d : Nat} {v : V} (h : ansW o d v = true) : ∃ r H,o = .ok r H ∧ isV H d r v = true:=by
 cases o with
 | bad=>exact absurd h (by simp [ansW])
 | ok r H=>exact ⟨r,H,rfl,h⟩
theorem callX {f d : Nat} (hf : f ≠ Rx.Y0) {args : List Rx.RV} {H : Rx.HT} {r : Rx.RV} {H1 : Rx.HT} (h : Rx.funX Rx.tyT Rx.ftT 100000 d f args H = .ok r H1) : Rx.CallR Tryz.prog f args H r H1:=by
 rw [Rx.funX_eq] at h
 exact (Rx.funF_sound Rx.tyOk Rx.mixed Rx.ftOk d f args H r H1 h).1 hf
noncomputable def pRunJ (o : Bool) (n : Nat) : Bool:=@Rx.Sb.rec (fun _=>Bool) (fun k c=>Rx.forceN k fun k=>Rx.forceN c fun c=>ansW (Rx.funX Rx.tyT Rx.ftT 100000 300 6 [.str ⟨k,c⟩] ⟨0,.e⟩) 80 (ansJ o n)) (Rx.Sb.of ((txtJ o n).map UInt8.toNat))
theorem parse_callJ {o : Bool} {n : Nat} (h : pRunJ o n = true) : ∃ r H1,isV H1 80 r (ansJ o n) = true ∧ Rx.CallR Tryz.prog 6 [.str (Rx.Sb.of ((txtJ o n).map UInt8.toNat))] ⟨0,.e⟩ r H1:=by
 unfold pRunJ at h
 generalize Rx.Sb.of ((txtJ o n).map UInt8.toNat) = s at h ⊢
 obtain ⟨k,c⟩:=s
 have h : (Rx.forceN k fun k=>Rx.forceN c fun c=>ansW (Rx.funX Rx.tyT Rx.ftT 100000 300 6 [.str ⟨k,c⟩] ⟨0,.e⟩) 80 (ansJ o n)) = true:=h
 rw [Rx.forceN_eq,Rx.forceN_eq] at h
 obtain ⟨r,H1,h1,h2⟩:=ansW_ok h
 exact ⟨r,H1,h2,callX (by decide) h1⟩
def noneK : Nat → Int
 | 0=>0 | 1=>8 | 2=>4 | 3=>4 | 4=>5 | 5=>7 | 6=>7 | 7=>6 | 8=>1 | _=>3
def noneT : Nat → List UInt8
 | 3=>[48,49] | 4=>[128] | 8=>[120] | _=>[]
def noneKs : Nat → List V
 | 5=>[.str [97]] | 6=>[.str [97],.str [97]] | _=>[]
def noneLs : Nat → List V
 | 6=>[jn 1 [] [] [],jn 1 [] [] []] | 7=>[jn 0 [] [] []] | 9=>[jn 1 [] [] []] | _=>[]
def noneV (i : Nat) : V:=jn (noneK i) (noneT i) (noneKs i) (noneLs i)
def kA : List Rx.RV:=[.str ⟨1,97⟩]
def kB : List Rx.RV:=[.str ⟨1,97⟩,.str ⟨1,97⟩]
def lA (k : Int) : List Rx.RV:=[.int .i64 k,.str ⟨0,0⟩,.sle,.sle]
noncomputable def noneO1 : Nat → List Rx.RO
 | 5=>[.ro 0 1 (trOf kA 0 .e)] | 6=>[.ro 0 2 (trOf kB 0 .e)] | _=>[]
noncomputable def noneO2 : Nat → List Rx.RO
 | 6=>[.ro 0 8 (trOf (lA 1 ++ lA 1) 0 .e)] | 7=>[.ro 0 4 (trOf (lA 0) 0 .e)] | 9=>[.ro 0 4 (trOf (lA 1) 0 .e)] | _=>[]
def noneR1 : Nat → Nat → Rx.RV
 | 5=>fun b=>.slw b 0 1 1 | 6=>fun b=>.slw b 0 2 1 | _=>fun _=>.sle
def noneR2 : Nat → Nat → Rx.RV
 | 6=>fun b=>.slw b 0 2 4 | 7=>fun b=>.slw b 0 1 4 | 9=>fun b=>.slw b 0 1 4 | _=>fun _=>.sle
theorem none_la1 : ∀ i,i < 10 → laOk (noneKs i) 1 (noneO1 i) (noneR1 i)
 | 0,_=>.nil | 1,_=>.nil | 2,_=>.nil | 3,_=>.nil | 4,_=>.nil
 | 5,_=>laOk.some (rs:=kA) (by simp [noneKs,flat,V.cells]) rfl
 | 6,_=>laOk.some (rs:=kB) (by simp [noneKs,flat,V.cells]) rfl
 | 7,_=>.nil | 8,_=>.nil | 9,_=>.nil
 | i + 10,h=>absurd h (by omega)
theorem none_la2 : ∀ i,i < 10 → laOk (noneLs i) 4 (noneO2 i) (noneR2 i)
 | 0,_=>.nil | 1,_=>.nil | 2,_=>.nil | 3,_=>.nil | 4,_=>.nil | 5,_=>.nil
 | 6,_=>laOk.some (rs:=lA 1 ++ lA 1) (by simp [noneLs,flat,V.cells,jn]) rfl
 | 7,_=>laOk.some (rs:=lA 0) (by simp [noneLs,flat,V.cells,jn]) rfl
 | 8,_=>.nil
 | 9,_=>laOk.some (rs:=lA 1) (by simp [noneLs,flat,V.cells,jn]) rfl
 | i + 10,h=>absurd h (by omega)
def noT : V:=.tup [.str [],.bool false]
noncomputable def tRunJ (i : Nat) : Bool:=ansW (Rx.funX Rx.tyT Rx.ftT 100000 100 7 [.agg [.int .i64 (noneK i),.str (Rx.Sb.of ((noneT i).map UInt8.toNat)),noneR1 i 0,noneR2 i (noneO1 i).length]] (hOf (noneO1 i ++ noneO2 i))) 5 noT
end Go.Fbs
