import Derived.Test.YtpdnpfdbjoaemaaGreatDoorQA
set_option linter.unusedSimpArgs false
set_option linter.unusedVariables false
set_option linter.unusedSectionVars false
set_option maxRecDepth 100000
namespace Go.Fbs
structure Frm where
 kind : Nat
 names : Nat
 num : Bool
 least : Nat
 most : Nat
structure Fct where
 kind : Int
 a : List UInt8
 b : List UInt8
 c : List UInt8
 n : Int
 l : List (List UInt8)
 at_ : Nat
def fct0 : Fct:=⟨0,[],[],[],0,[],0⟩
def kwM : Nat → List UInt8
 | 1=>[117,115,101,114]
 | 2=>[114,111,108,101]
 | 3=>[105,110,104,101,114,105,116]
 | 4=>[97,115,115,105,103,110]
 | 5=>[103,114,97,110,116]
 | 6=>[115,115,100]
 | 7=>[100,115,100]
 | 8=>[115,101,115,115,105,111,110]
 | _=>[]
def frmK : Nat → Frm
 | 1=>⟨1,1,false,1,1⟩
 | 2=>⟨2,1,false,1,1⟩
 | 3=>⟨3,2,false,2,2⟩
 | 4=>⟨4,2,false,2,2⟩
 | 5=>⟨5,3,false,3,3⟩
 | 6=>⟨6,1,true,4,1073741824⟩
 | 7=>⟨7,1,true,4,1073741824⟩
 | 8=>⟨8,2,false,2,1073741824⟩
 | _=>⟨0,0,false,0,0⟩
def formM (w : List UInt8) : Option Frm :=
 if w = kwM 1 then some (frmK 1) else if w = kwM 2 then some (frmK 2) else if w = kwM 3 then some (frmK 3) else if w = kwM 4 then some (frmK 4) else
 if w = kwM 5 then some (frmK 5) else if w = kwM 6 then some (frmK 6) else if w = kwM 7 then some (frmK 7) else if w = kwM 8 then some (frmK 8) else none
def digC (c : UInt8) : Bool:=decide (48 ≤ c.toNat) && decide (c.toNat ≤ 57)
def numM : List UInt8 → Option Int
 | [c]=>if c ≠ 48 ∧ digC c = true then some (c.toNat - 48 : Int) else none
 | [c,d]=>if c ≠ 48 ∧ digC c = true ∧ digC d = true then some ((c.toNat - 48 : Int) * 10 + (d.toNat - 48 : Int)) else none
 | _=>none
def itoM (n : Int) : List UInt8:=if n < 10 then [UInt8.ofNat (48 + n.toNat)] else if n < 100 then [UInt8.ofNat (48 + n.toNat / 10),UInt8.ofNat (48 + n.toNat % 10)] else [UInt8.ofNat (48 + n.toNat / 100),UInt8.ofNat (48 + n.toNat / 10 % 10),UInt8.ofNat (48 + n.toNat % 10)]
def alnB (c : Int) : Bool:=decide (97 ≤ c) && decide (c ≤ 122) || decide (48 ≤ c) && decide (c ≤ 57)
def nameB (c : Int) : Bool:=alnB c || decide (c = 95) || decide (c = 45) || decide (c = 46)
def nameD (l : List UInt8) : Bool:=decide (1 ≤ l.length) && decide (l.length ≤ 30) && alnB (l.getD 0 0).toNat && l.all (fun c=>nameB c.toNat)
def fillM (f : Frm) : Nat → List Wrd → Fct → Fct × Nat × Int
 | _,[],o=>(o,0,0)
 | i,w :: ws,o =>
  if f.num = true ∧ i = f.names then
   match numM w.1 with
   | some n=>fillM f (i + 1) ws { o with n:=n }
   | none=>(o,w.2,9)
  else if nameD w.1 = false then (o,w.2,15)
  else if f.names ≤ i then fillM f (i + 1) ws { o with l:=o.l ++ [w.1] }
  else if i = 0 then fillM f (i + 1) ws { o with a:=w.1 }
  else if i = 1 then fillM f (i + 1) ws { o with b:=w.1 }
  else fillM f (i + 1) ws { o with c:=w.1 }
def factM (l : Lin) : Fct × Nat × Int :=
 match l.2 with
 | []=>(fct0,l.1,9)
 | w :: ws =>
  match formM w.1 with
  | none=>(fct0,w.2,9)
  | some f=>if ws.length < f.least ∨ f.most < ws.length then (fct0,w.2,9) else
   match fillM f 0 ws { fct0 with kind:=f.kind,at_:=l.1 } with
   | (o,_,0)=>(o,0,0)
   | (_,k,e)=>(fct0,k,e)
def tailW (f : Frm) (o : Fct) : List (List UInt8):=(if f.num = true then [itoM o.n] else []) ++ o.l
def wordsW (o : Fct) : List (List UInt8):=kwM o.kind.toNat :: (([o.a,o.b,o.c].take (frmK o.kind.toNat).names) ++ tailW (frmK o.kind.toNat) o)
theorem form_inv {w : List UInt8} {f : Frm} (h : formM w = some f) : ∃ k,1 ≤ k ∧ k ≤ 8 ∧ w = kwM k ∧ f = frmK k:=by
 unfold formM at h
 split at h
 ·rename_i e; cases h; exact ⟨1,by omega,by omega,e,rfl⟩
 split at h
 ·rename_i e; cases h; exact ⟨2,by omega,by omega,e,rfl⟩
 split at h
 ·rename_i e; cases h; exact ⟨3,by omega,by omega,e,rfl⟩
 split at h
 ·rename_i e; cases h; exact ⟨4,by omega,by omega,e,rfl⟩
 split at h
 ·rename_i e; cases h; exact ⟨5,by omega,by omega,e,rfl⟩
 split at h
 ·rename_i e; cases h; exact ⟨6,by omega,by omega,e,rfl⟩
 split at h
 ·rename_i e; cases h; exact ⟨7,by omega,by omega,e,rfl⟩
 split at h
 ·rename_i e; cases h; exact ⟨8,by omega,by omega,e,rfl⟩
 ·cases h
theorem frm_small {k : Nat} (h1 : 1 ≤ k) (h8 : k ≤ 8) : (frmK k).kind = k ∧ (frmK k).names ≤ 3 ∧ (frmK k).names + (if (frmK k).num = true then 1 else 0) ≤ (frmK k).least:=by
 have : k = 1 ∨ k = 2 ∨ k = 3 ∨ k = 4 ∨ k = 5 ∨ k = 6 ∨ k = 7 ∨ k = 8:=by omega
 rcases this with rfl | rfl | rfl | rfl | rfl | rfl | rfl | rfl <;> decide
end Go.Fbs
