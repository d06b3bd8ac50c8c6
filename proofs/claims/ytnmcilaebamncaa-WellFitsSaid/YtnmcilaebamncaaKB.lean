/- Schemas read: signs, names. -/
import Derived.Test.YtnmcilaebamncaaKA
set_option maxRecDepth 100000
namespace Go.Fbs
open Go.Proofs
noncomputable def a3l:Spec:=iA (fun q:gP×List UInt8=>[vSt q.1,.str q.2]) (fun _=>True) (fun q=>.aM [.bool (isM q.2 q.1),vSt q.1])
noncomputable abbrev T1:List (FuncId×Spec):=[(aEe,aA5)]
noncomputable def aA7:Spec:=iA (fun q:gP×List UInt8=>[vSt q.1,.str q.2]) (fun _=>True) (fun q=>.aM [.bool (aGb q.2 q.1).1,vSt (aGb q.2 q.1).2])
noncomputable abbrev T2:List (FuncId×Spec):=[(a50,a3l),(aEf,aA6)]
noncomputable abbrev T3:List (FuncId×Spec):=[(a50,a3l),(aEh,aA7)]
end Go.Fbs
