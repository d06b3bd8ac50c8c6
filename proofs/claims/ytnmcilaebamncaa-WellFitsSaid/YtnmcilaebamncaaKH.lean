/- Schemas read: subjects, relations: told. -/
import Derived.Test.YtnmcilaebamncaaKG
set_option maxRecDepth 100000
namespace Go.Fbs
open Go.Proofs
theorem aV5 (l:List Sub):(l.map kL).all (fun e=>e.cells.length == 3)=true:=by simp [kL,V.cells]
theorem aV6 (l:List Rel):(l.map kF).all (fun e=>e.cells.length == 3)=true:=by simp [kF,V.cells]
theorem aV7 (l:List j0):(l.map mB).all (fun e=>e.cells.length == 2)=true:=by simp [mB,V.cells]
theorem aSz (l:List Sub):dU (l6 l)=some (vI l.length):=by simp [dU,l6]
theorem aS0 (l:List Rel):dU (lJ l)=some (vI l.length):=by simp [dU,lJ]
theorem aS1 (l:List j0):dU (iU l)=some (vI l.length):=by simp [dU,iU]
theorem bB9 {l:List Sub} (h:l.length < 1000) (x:Sub):iB 3 48 (l6 l) (.sl .ro [kL x])=some (l6 (l++[x])):=by
 show iB 3 48 (.sl .ro (l.map kL)) (.sl .ro ([x].map kL))=some (.sl .ro ((l++[x]).map kL))
 rw [aKz (by simp only [List.length_map,List.length_singleton]; omega) (aV5 _) (aV5 [x]),List.map_append]
theorem bCa {l:List Rel} (h:l.length < 1000) (x:Rel):iB 3 64 (lJ l) (.sl .ro [kF x])=some (lJ (l++[x])):=by
 show iB 3 64 (.sl .ro (l.map kF)) (.sl .ro ([x].map kF))=some (.sl .ro ((l++[x]).map kF))
 rw [aKz (by simp only [List.length_map,List.length_singleton]; omega) (aV6 _) (aV6 [x]),List.map_append]
theorem bCb {l:List j0} (h:l.length < 1000) (x:j0):iB 2 40 (iU l) (.sl .ro [mB x])=some (iU (l++[x])):=by
 show iB 2 40 (.sl .ro (l.map mB)) (.sl .ro ([x].map mB))=some (.sl .ro ((l++[x]).map mB))
 rw [aKz (by simp only [List.length_map,List.length_singleton]; omega) (aV7 _) (aV7 [x]),List.map_append]
theorem bCc (x:Sub):hG 3 [kL x]=some (.sl .ro [kL x]):=nr rfl
theorem bCd (x:Rel):hG 3 [kF x]=some (.sl .ro [kF x]):=nr rfl
theorem bCe (x:j0):hG 2 [mB x]=some (.sl .ro [mB x]):=nr rfl
theorem b66 (p:Sub):bD 3 (kL p)=some (kL p):=nr rfl
end Go.Fbs
