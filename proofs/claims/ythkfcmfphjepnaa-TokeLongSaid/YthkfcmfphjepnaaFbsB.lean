/- The evaluator: operations, regions, code, over abstract values. -/
import Derived.Test.YthkfcmfphjepnaaFbsA
set_option linter.unusedVariables false
set_option linter.unusedSimpArgs false
namespace Go.Fbs

def V.ofScalar : Value → Option V
  | .bool b => some (.bool b)
  | .int k n => some (.int k n)
  | .string s => some (.str s.data.toList)
  | .pointer none => some .nilp
  | .slice none 0 0 => some (.sl .full [])
  | _ => none

def V.ofVal : Value → Option V
  | .agg cs => (cs.toList.mapM V.ofScalar).map V.agg
  | v => V.ofScalar v

/-- The callees: what a call answers that only reads; and one that writes, with what it leaves. -/
structure Callees where
  isEff : FuncId → Bool
  pure : FuncId → List V → Option V
  eff : FuncId → List V → Hp → Option (V × Hp)

def ev (env : Env) : Operand → Option V
  | .tmp t => env.get t
  | .const v => V.ofVal v
  | .func f => some (.func f [])
  | .global _ => none

def evs (env : Env) : List Operand → Option (List V)
  | [] => some []
  | x :: xs =>
    match ev env x, evs env xs with
    | some v, some vs => some (v :: vs)
    | _, _ => none

section types
variable (P : Program)

def szT (t : TypeId) : Option Nat := (P.info? t).map (·.size)
def bytesT (t : TypeId) : Option Nat := (P.info? t).map (·.bytes)
def zeroT (t : TypeId) : Option V := ((P.info? t).bind (·.zero)).bind V.ofVal
def aggT (t : TypeId) : Option Bool :=
  match P.underlying t with
  | some (.struct _) | some (.array _ _) => some true
  | some _ => some false
  | none => none

/-- What a variable of type t holds whose cells, and more, are these. -/
def loadT (t : TypeId) (cs : List V) : Option V :=
  match aggT P t, szT P t with
  | some true, some n => if n ≤ cs.length then some (.agg (cs.take n)) else none
  | some false, some _ => cs[0]?
  | _, _ => none

/-- A part of a struct's or an array's cells. -/
def partT (t : TypeId) (cs : List V) (off : Nat) : Option V :=
  match aggT P t, szT P t with
  | some true, some n => if off + n ≤ cs.length then some (.agg ((cs.drop off).take n)) else none
  | some false, some _ => cs[off]?
  | _, _ => none

/-- Equality, field by field. -/
def eqFs (eq : TypeId → V → V → Option Bool) (xs ys : List V) : List Field → Option Bool
  | [] => some true
  | f :: fs =>
    if f.name = "_" then none else
    match partT P f.type xs f.offset, partT P f.type ys f.offset with
    | some a, some b =>
      match eq f.type a b with
      | some r => if r then eqFs eq xs ys fs else some false
      | none => none
    | _, _ => none

def eqT : Nat → TypeId → V → V → Option Bool
  | 0, _, _, _ => none
  | d + 1, t, x, y =>
    match P.underlying t, x, y with
    | some .bool, .bool a, .bool b => some (a == b)
    | some (.int _), .int k a, .int k' b => if k = k' then some (a == b) else none
    | some .string, .str a, .str b => some (a == b)
    | some (.pointer _), .nilp, .nilp => some true
    | some (.pointer _), .nilp, .ptr _ _ => some false
    | some (.pointer _), .ptr _ _, .nilp => some false
    | some (.struct fs), .agg xs, .agg ys => if P.stoodInHeld t then none else eqFs P (eqT d) xs ys fs.toList
    | _, _, _ => none

end types

def intBin (op : BinOp) (k : IntKind) (a b : Int) : Option V :=
  match op with
  | .add => some (.int k (k.wrap (a + b)))
  | .sub => some (.int k (k.wrap (a - b)))
  | .mul => some (.int k (k.wrap (a * b)))
  | .quo => if b = 0 then none else some (.int k (k.wrap (a.tdiv b)))
  | .rem => if b = 0 then none else some (.int k (a.tmod b))
  | .and => some (.int k (k.wrap (BitVec.ofInt k.bits a &&& BitVec.ofInt k.bits b).toNat))
  | .or => some (.int k (k.wrap (BitVec.ofInt k.bits a ||| BitVec.ofInt k.bits b).toNat))
  | .xor => some (.int k (k.wrap (BitVec.ofInt k.bits a ^^^ BitVec.ofInt k.bits b).toNat))
  | .eql => some (.bool (a == b))
  | .neq => some (.bool (a != b))
  | .lss => some (.bool (a < b))
  | .leq => some (.bool (a ≤ b))
  | .gtr => some (.bool (a > b))
  | .geq => some (.bool (a ≥ b))
  | _ => none

def strBin (op : BinOp) (a b : List UInt8) : Option V :=
  match op with
  | .add => if ((a.length + b.length : Nat) : Int) ≤ 9223372036854775807 then some (.str (a ++ b)) else none
  | .eql => some (.bool (a == b))
  | .neq => some (.bool !(a == b))
  | .lss => some (.bool (Op.bytesLess a b))
  | .leq => some (.bool (Op.bytesLess a b || a == b))
  | .gtr => some (.bool !(Op.bytesLess a b || a == b))
  | .geq => some (.bool !(Op.bytesLess a b))
  | _ => none

def shiftBin (op : BinOp) (k : IntKind) (a b : Int) : Option V :=
  if b < 0 then none else
  match op with
  | .shl => some (.int k (k.wrap (a * 2 ^ min b.toNat k.bits)))
  | .shr => some (.int k (a.fdiv (2 ^ min b.toNat k.bits)))
  | _ => none

def binV (P : Program) (op : BinOp) (t : TypeId) (x y : V) : Option V :=
  match x, y with
  | .int k a, .int k' b =>
    match op with
    | .shl | .shr => shiftBin op k a b
    | _ => if k = k' then intBin op k a b else none
  | .str a, .str b => strBin op a b
  | x, y =>
    match op with
    | .eql => if P.eqGuardType P.depth t then none else (eqT P 20 t x y).map V.bool
    | .neq => if P.eqGuardType P.depth t then none else (eqT P 20 t x y).map fun b => V.bool (!b)
    | _ => none

def unV (op : UnOp) (x : V) : Option V :=
  match op, x with
  | .neg, .int k n => some (.int k (k.wrap (0 - n)))
  | .not, .bool b => some (.bool !b)
  | _, _ => none

/-- The parts laid over the zero cells. -/
def fillV (place : Nat → Option (Nat × Nat)) (cells : List V) : List (Nat × V) → Option (List V)
  | [] => some cells
  | (i, v) :: rest =>
    match place i with
    | none => none
    | some (off, size) =>
      if v.cells.length ≠ size || off + v.cells.length > cells.length then none
      else fillV place (cells.take off ++ v.cells ++ cells.drop (off + v.cells.length)) rest

def partsV (env : Env) : List (Nat × Operand) → Option (List (Nat × V))
  | [] => some []
  | (i, x) :: rest =>
    match ev env x, partsV env rest with
    | some v, some vs => some ((i, v) :: vs)
    | _, _ => none

def partsOk (ps : List (Nat × V)) : Bool := ps.all fun p => p.2.ok1

def placesT (P : Program) : List Field → Option (List (Nat × Nat))
  | [] => some []
  | f :: fs =>
    match szT P f.type, placesT P fs with
    | some n, some r => some ((f.offset, n) :: r)
    | _, _ => none

def buildV (P : Program) (t : TypeId) (parts : List (Nat × V)) : Option V :=
  match P.underlying t, zeroT P t with
  | some (.struct fs), some z =>
    match placesT P fs.toList with
    | some ps => (fillV (fun i => ps[i]?) z.cells parts).map V.agg
    | none => none
  | some (.array _ e), some z =>
    match szT P e with
    | some n => (fillV (fun i => some (i * n, n)) z.cells parts).map V.agg
    | none => none
  | _, _ => none

/-- A slice literal's elements: each part in its place, in order, none left out. -/
def elemsV : Nat → List (Nat × V) → Option (List V)
  | _, [] => some []
  | k, (i, v) :: rest => if i = k then (elemsV (k + 1) rest).map (v :: ·) else none

def buildSliceV (P : Program) (t : TypeId) (len : Nat) (parts : List (Nat × V)) : Option V :=
  match P.underlying t with
  | some (.slice e) =>
    match szT P e, zeroT P e, elemsV 0 parts with
    | some n, some z, some es =>
      if es.length = len ∧ len * n ≤ 1000000 ∧ z.cells.length = n ∧ 0 < n ∧ es.all (fun e => e.cells.length == n) = true then some (.sl .full (es.map V.er)) else none
    | _, _, _ => none
  | _ => none

/-- The bounds of a slice expression. -/
def boundV (x : Option V) (dflt top : Nat) : Option Nat :=
  match x with
  | none => some dflt
  | some (.int _ i) => if 0 ≤ i ∧ i ≤ top then some i.toNat else none
  | some _ => none

def sliceTag (g : Tag) (l : Nat) (hiGiven : Bool) : Tag :=
  match g with
  | .full => if hiGiven then .ro else .full
  | .own i => if hiGiven || l != 0 then .ro else .own i
  | .ro => .ro

def sliceV (P : Program) (t : TypeId) (x : V) (lo hi : Option V) : Option V :=
  match P.underlying t, x with
  | some .string, .str s =>
    match boundV hi s.length s.length with
    | some h =>
      match boundV lo 0 h with
      | some l => some (.str ((s.take h).drop l))
      | none => none
    | none => none
  | some (.slice e), .sl g es =>
    match szT P e, boundV hi es.length es.length with
    | some n, some h =>
      match boundV lo 0 h with
      | some l => if 0 < n ∧ es.all (fun e => e.cells.length == n) = true then some (.sl (sliceTag g l hi.isSome) ((es.take h).drop l)) else none
      | none => none
    | _, _ => none
  | _, _ => none

def optEv (env : Env) : Option Operand → Option (Option V)
  | none => some none
  | some x => (ev env x).map some

def indexV (P : Program) (t : TypeId) (x i : V) : Option V :=
  match P.underlying t, x, i with
  | some .string, .str s, .int _ n => if 0 ≤ n then s[n.toNat]?.map fun b => .int .u8 b.toNat else none
  | some (.array len e), .agg cs, .int _ n =>
    match szT P e with
    | some sz => if 0 ≤ n ∧ n < len then partT P e cs (n.toNat * sz) else none
    | none => none
  | _, _, _ => none

def fieldAddrV (P : Program) (s : TypeId) (x : V) (f : Nat) : Option V :=
  match P.underlying s with
  | some (.struct fs) =>
    match fs[f]? with
    | some fd =>
      match szT P fd.type, x with
      | some (_ + 1), .ptr l off => some (.ptr l (off + fd.offset))
      | some (_ + 1), .ro cs => some (.ro (cs.drop fd.offset))
      | _, _ => none
    | none => none
  | _ => none

def fieldV (P : Program) (s : TypeId) (x : V) (f : Nat) : Option V :=
  match P.underlying s, x with
  | some (.struct fs), .agg cs =>
    match fs[f]? with
    | some fd => partT P fd.type cs fd.offset
    | none => none
  | _, _ => none

def indexAddrV (P : Program) (t : TypeId) (x i : V) : Option V :=
  match P.underlying t, x, i with
  | some (.slice e), .sl _ es, .int _ n =>
    match szT P e with
    | some (sz + 1) => if 0 ≤ n then (es[n.toNat]?).bind fun e => if e.cells.length = sz + 1 then some (.ro e.cells) else none else none
    | _ => none
  | some (.array len e), .ptr l off, .int _ n =>
    match szT P e with
    | some sz => if 0 ≤ n ∧ n < len ∧ 1 < len then some (.ptr l (off + n.toNat * sz)) else none
    | _ => none
  | _, _, _ => none

def convertV (P : Program) (src dst : TypeId) (x : V) : Option V :=
  match P.underlying src, P.underlying dst, x with
  | some _, some (.int k), .int _ n => some (.int k (k.wrap n))
  | some .string, some .string, .str s => some (.str s)
  | some (.slice e), some .string, .sl _ es =>
    match P.underlying e, es.mapM (fun v => match v with | .int .u8 n => some (UInt8.ofNat n.toNat) | _ => none) with
    | some (.int .u8), some bs => some (.str bs)
    | _, _ => none
  | _, _, _ => none

def makeSliceV (P : Program) (t : TypeId) (l c : V) (m : Hp) : Option (V × Hp) :=
  match P.underlying t, l, c with
  | some (.slice e), .int _ n, .int _ k =>
    match szT P e, zeroT P e, bytesT P e with
    | some sz, some z, some by_ =>
      if 0 ≤ n ∧ n ≤ k ∧ k ≤ 9223372036854775807 ∧ by_ * k ≤ 140737488355328 ∧ z.cells.length = sz ∧ 0 < sz then
        if n = k then some (.sl .full (List.replicate n.toNat z), m)
        else some (.sl (.own m.T.length) (List.replicate n.toNat z), { m with T := m.T ++ [(n.toNat, sz)] })
      else none
    | _, _, _ => none
  | _, _, _ => none

/-- 'append': onto a slice at its tip, or one without room. -/
def appendV (P : Program) (t : TypeId) (x : V) (ys : List V) (m : Hp) : Option (V × Hp) :=
  match P.underlying t, x with
  | some (.slice e), .sl g es =>
    match szT P e, zeroT P e, bytesT P e with
    | some sz, some z, some by_ =>
      if (es.length + ys.length) * (by_ + 1) ≤ 70368744177664 ∧ z.cells.length = sz ∧ 0 < sz ∧ es.all (fun e => e.cells.length == sz) = true ∧ ys.all (fun e => e.cells.length == sz) = true then
        if ys = [] then some (.sl g es, m) else
        match g with
        | .full => some (.sl (.own m.T.length) (es ++ ys), { m with T := m.T ++ [(es.length + ys.length, sz)] })
        | .own i => if m.T[i]? = some (es.length, sz) then some (.sl (.own i) (es ++ ys), { m with T := m.T.set i (es.length + ys.length, sz) }) else none
        | .ro => none
      else none
    | _, _, _ => none
  | _, _ => none

def lenV : V → Option Nat
  | .str s => some s.length
  | .sl _ es => some es.length
  | _ => none

def builtinQ (P : Program) (b : Builtin) (ts : List TypeId) (xs : List V) : Option V :=
  match b, ts, xs with
  | .len, [t], [x] =>
    match P.underlying t, x with
    | some .string, .str s => some (.int .i64 s.length)
    | some (.slice _), .sl _ es => some (.int .i64 es.length)
    | _, _ => none
  | .min, _, [.int k a, .int _ b] => some (.int k (if b < a then b else a))
  | .max, _, [.int k a, .int _ b] => some (.int k (if b > a then b else a))
  | _, _, _ => none

def builtinE (P : Program) (b : Builtin) (ts : List TypeId) (xs : List V) (m : Hp) : Option (V × Hp) :=
  match b, ts, xs with
  | .append, [t, u], [x, y] =>
    match P.underlying u, P.underlying t, y with
    | some (.slice _), _, .sl _ ys => appendV P t x ys m
    | some .string, some (.slice e), .str s => if szT P e = some 1 then appendV P t x (s.map fun b => .int .u8 b.toNat) m else none
    | _, _, _ => none
  | _, _, _ => none

/-- Cells laid into a box. -/
def splice (cells new : List V) (off : Nat) : List V := cells.take off ++ new ++ cells.drop (off + new.length)

/-- A string's bytes as a new slice. -/
def bytesV (_ : Program) (_ _ : TypeId) (_ : V) : Option V := none

/-- A variable is read. -/
def loadV (P : Program) (t : TypeId) (H : List LO) (x : V) : Option V :=
  match x with
  | .ptr l off =>
    match H[l]? with
    | some (.cells cs) => loadT P t (cs.drop off)
    | _ => none
  | .ro cs => loadT P t cs
  | _ => none

def pickV (c a b : V) : Option V :=
  match c with
  | .bool t => some (if t then a else b)
  | _ => none

def buildQ (P : Program) (t : TypeId) (ps : List (Nat × V)) : Option V := if partsOk ps then buildV P t ps else none
def buildSliceQ (P : Program) (t : TypeId) (len : Nat) (ps : List (Nat × V)) : Option V := if partsOk ps then buildSliceV P t len ps else none

def nilV (x : V) : Option V :=
  match x with
  | .ptr l off => some (.ptr l off)
  | .ro cs => some (.ro cs)
  | .func f cs => some (.func f cs)
  | _ => none

def convQ (P : Program) (src dst : TypeId) (x : V) : Option V :=
  match bytesV P src dst x with
  | some r => some r
  | none => convertV P src dst x

def extractV (x : V) (i : Nat) : Option V :=
  match x with
  | .tup vs => vs[i]?
  | _ => none

def callQ (C : Callees) (f : V) (vs : List V) : Option V :=
  match f with
  | .func g caps => C.pure g (vs ++ caps)
  | _ => none

def ev1 (env : Env) (x : Operand) (f : V → Option V) : Option V :=
  match ev env x with
  | some v => f v
  | none => none

def ev2 (env : Env) (x y : Operand) (f : V → V → Option V) : Option V :=
  match ev env x, ev env y with
  | some u, some v => f u v
  | _, _ => none

/-- Operations that leave the memory as it is (but for new blocks that nobody else writes). -/
def evalQ (P : Program) (C : Callees) (env : Env) (H : List LO) : Op → Option V
  | .move x | .assign x => ev env x
  | .pick c a b =>
    match ev env c, ev env a, ev env b with
    | some t, some u, some v => pickV t u v
    | _, _, _ => none
  | .build t parts =>
    match partsV env parts.toList with
    | some ps => buildQ P t ps
    | none => none
  | .buildSlice t len parts =>
    match partsV env parts.toList with
    | some ps => buildSliceQ P t len ps
    | none => none
  | .load t x => ev1 env x fun u => loadV P t H u
  | .nilCheck x => ev1 env x nilV
  | .binOp op t x y _ => ev2 env x y fun u v => binV P op t u v
  | .unOp op _ x => ev1 env x fun u => unV op u
  | .convert src dst x => ev1 env x fun u => convQ P src dst u
  | .makeFunc (.func f) first captured =>
    match evs env captured.toList with
    | some vs => if first = #[] then some (.func f vs) else none
    | none => none
  | .slice t x lo hi none =>
    match ev env x, optEv env lo, optEv env hi with
    | some v, some l, some h => sliceV P t v l h
    | _, _, _ => none
  | .fieldAddr s x f => ev1 env x fun u => fieldAddrV P s u f
  | .field s x f => ev1 env x fun u => fieldV P s u f
  | .indexAddr t x i => ev2 env x i fun u v => indexAddrV P t u v
  | .index t x i => ev2 env x i fun u v => indexV P t u v
  | .extract x i => ev1 env x fun u => extractV u i
  | .call c =>
    match c.callee, evs env c.args.toList with
    | .builtin b, some vs => builtinQ P b c.argTypes.toList vs
    | .value f, some vs => ev1 env f fun u => callQ C u vs
    | _, _ => none
  | _ => none

/-- Operations that make a box. -/
def evalA (P : Program) (env : Env) : Op → Option (List V)
  | .alloc t => (zeroT P t).map V.cells
  | .box _ x =>
    match ev env x with
    | some v => if v.ok1 then some v.cells else none
    | none => none
  | _ => none

/-- A box is written. -/
def storeV (P : Program) (t : TypeId) (x y : V) (m : Hp) : Option (V × Hp) :=
  match x, szT P t with
  | .ptr l off, some n =>
    match m.H[l]? with
    | some (.cells cs) => if y.ok1 = true ∧ y.cells.length = n ∧ off + n ≤ cs.length then some (.undef, { m with H := m.H.set l (.cells (splice cs y.cells off)) }) else none
    | _ => none
  | _, _ => none

/-- Operations that write. -/
def evalW (P : Program) (C : Callees) (env : Env) (m : Hp) : Op → Option (V × Hp)
  | .store t x y =>
    match ev env x, ev env y with
    | some u, some v => storeV P t u v m
    | _, _ => none
  | .makeSlice t l c =>
    match ev env l, ev env c with
    | some u, some v => makeSliceV P t u v m
    | _, _ => none
  | .call c =>
    match c.callee, evs env c.args.toList with
    | .builtin b, some vs => builtinE P b c.argTypes.toList vs m
    | .value f, some vs =>
      match ev env f with
      | some (.func g caps) => C.eff g (vs ++ caps) m
      | _ => none
    | _, _ => none
  | _ => none

/-- Is it one that leaves the memory as it is? -/
def isQ (C : Callees) : Op → Bool
  | .alloc _ | .box .. | .store .. | .makeSlice .. => false
  | .call { callee := .builtin .append, .. } => false
  | .call { callee := .value (.func f), .. } => !C.isEff f
  | _ => true

def isA : Op → Bool
  | .alloc _ | .box .. => true
  | _ => false

def evalOp (P : Program) (C : Callees) (env : Env) (m : Hp) (o : Op) : Option (V × Hp) :=
  if isQ C o then (evalQ P C env m.H o).map (·, m)
  else if isA o then (evalA P env o).map fun cs => (.ptr m.H.length 0, { m with H := m.H ++ [.cells cs] })
  else evalW P C env m o

/-- Is the operation wanted? -/
def wantedV (ops : List Oper) (env : Env) (o : Oper) : Option Bool :=
  match o.guard with
  | none => some true
  | some (j, want) =>
    match ((ops[j]?).bind (·.dst)).bind env.get with
    | some (.bool b) => some (b == want)
    | some .undef => some false
    | _ => none

def putV (env : Env) (dst : Option Tmp) (v : V) : Env :=
  match dst with
  | some d => env.put d v
  | none => env

/-- Operations one behind the other. -/
def evalOps (P : Program) (C : Callees) (ops : List Oper) : List Oper → Env → Hp → Option (Env × Hp)
  | [], env, m => some (env, m)
  | o :: rest, env, m =>
    match wantedV ops env o with
    | some true =>
      match evalOp P C env m o.op with
      | some (v, m') => evalOps P C ops rest (putV env o.dst v) m'
      | none => none
    | some false => evalOps P C ops rest (putV env o.dst .undef) m
    | none => none

end Go.Fbs
