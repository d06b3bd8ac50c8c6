/- Rules for simp over the regions' formulas; the steps of a proof. -/
import Derived.Test.YthkfcmfphjepnaaFbsQ
set_option linter.unusedVariables false
set_option linter.unusedSimpArgs false
namespace Go.Fbs

theorem opt_some (v : V) (k : V → Prop) : opt (some v) k = k v := propext ⟨id, id⟩
theorem optC_some (v : List V) (k : List V → Prop) : optC (some v) k = k v := propext ⟨id, id⟩
theorem opt2_some (v : V) (m : Hp) (k : V → Hp → Prop) : opt2 (some (v, m)) k = k v m := propext ⟨id, id⟩
theorem opt_ite (c : Prop) [Decidable c] (a b : Option V) (k : V → Prop) : opt (if c then a else b) k = if c then opt a k else opt b k := by split <;> rfl
theorem guardV_bool (b want : Bool) (o : Option V) : guardV (.bool b) want o = if b == want then o else some .undef := Option.some.inj (congrArg some rfl)
theorem guardV_true (o : Option V) : guardV (.bool true) true o = o := Option.some.inj (congrArg some rfl)
theorem guardV_false (o : Option V) : guardV (.bool false) false o = o := Option.some.inj (congrArg some rfl)
theorem guardV_tf (o : Option V) : guardV (.bool true) false o = some .undef := Option.some.inj (congrArg some rfl)
theorem guardV_ft (o : Option V) : guardV (.bool false) true o = some .undef := Option.some.inj (congrArg some rfl)
theorem guardV_undef (want : Bool) (o : Option V) : guardV .undef want o = some .undef := Option.some.inj (congrArg some rfl)
theorem guardC_true (A B : Prop) : guardC (.bool true) true A B = A := propext ⟨id, id⟩
theorem guardC_false (A B : Prop) : guardC (.bool false) false A B = A := propext ⟨id, id⟩
theorem guardC_tf (A B : Prop) : guardC (.bool true) false A B = B := propext ⟨id, id⟩
theorem guardC_ft (A B : Prop) : guardC (.bool false) true A B = B := propext ⟨id, id⟩
theorem guardC_undef (want : Bool) (A B : Prop) : guardC .undef want A B = B := propext ⟨id, id⟩
theorem pickV_true (a b : V) : pickV (.bool true) a b = some a := Option.some.inj (congrArg some rfl)
theorem pickV_false (a b : V) : pickV (.bool false) a b = some b := Option.some.inj (congrArg some rfl)
theorem pickV_bool (t : Bool) (a b : V) : pickV (.bool t) a b = some (if t then a else b) := Option.some.inj (congrArg some rfl)
theorem unV_not (b : Bool) : unV .not (.bool b) = some (.bool !b) := Option.some.inj (congrArg some rfl)

/-- Integers, an operator each. -/
theorem binV_int (P : Program) (op : BinOp) (t : TypeId) (k : IntKind) (a b : Int) (h1 : op ≠ .shl) (h2 : op ≠ .shr) : binV P op t (.int k a) (.int k b) = intBin op k a b := by
  cases op <;> first | contradiction | simp [binV]
theorem binV_str (P : Program) (op : BinOp) (t : TypeId) (a b : List UInt8) : binV P op t (.str a) (.str b) = strBin op a b := Option.some.inj (congrArg some rfl)
section
variable (P : Program) (t : TypeId) (k : IntKind) (a b : Int) (s u : List UInt8)
theorem binV_geq : binV P .geq t (.int k a) (.int k b) = some (.bool (decide (b ≤ a))) := by simp [binV, intBin]
theorem binV_leq : binV P .leq t (.int k a) (.int k b) = some (.bool (decide (a ≤ b))) := by simp [binV, intBin]
theorem binV_lss : binV P .lss t (.int k a) (.int k b) = some (.bool (decide (a < b))) := by simp [binV, intBin]
theorem binV_gtr : binV P .gtr t (.int k a) (.int k b) = some (.bool (decide (b < a))) := by simp [binV, intBin]
theorem binV_eql : binV P .eql t (.int k a) (.int k b) = some (.bool (decide (a = b))) := by simp [binV, intBin]; rfl
theorem binV_neq : binV P .neq t (.int k a) (.int k b) = some (.bool (!decide (a = b))) := by simp [binV, intBin, bne]; rfl
theorem binV_add : binV P .add t (.int k a) (.int k b) = some (.int k (k.wrap (a + b))) := by simp [binV, intBin]
theorem binV_sub : binV P .sub t (.int k a) (.int k b) = some (.int k (k.wrap (a - b))) := by simp [binV, intBin]
theorem binV_mul : binV P .mul t (.int k a) (.int k b) = some (.int k (k.wrap (a * b))) := by simp [binV, intBin]
theorem binV_seql : binV P .eql t (.str s) (.str u) = some (.bool (s == u)) := Option.some.inj (congrArg some rfl)
theorem binV_sneq : binV P .neq t (.str s) (.str u) = some (.bool (!(s == u))) := Option.some.inj (congrArg some rfl)
theorem binV_slss : binV P .lss t (.str s) (.str u) = some (.bool (Op.bytesLess s u)) := Option.some.inj (congrArg some rfl)
theorem binV_sadd (h : s.length + u.length ≤ 9223372036854775807) : binV P .add t (.str s) (.str u) = some (.str (s ++ u)) := by
  simp only [binV, strBin]; rw [if_pos (by omega)]
end

theorem wrap_in {x : Int} (h1 : -9223372036854775808 ≤ x) (h2 : x ≤ 9223372036854775807) : IntKind.i64.wrap x = x := by
  rw [IntKind.wrap_i64]; omega

section
variable {P : Program} {C : Callees} {s : St} {Q : Exit → St → Prop}
theorem aw_seqR {x y : Code} (h : AW P x s (thenQ (fun s' => AW P y s' Q) Q)) : AW P (.seq x y) s Q := aw_seq h
theorem thenQ_normal {n : St → Prop} {s : St} : thenQ n Q .normal s = n s := rfl
theorem thenQ_ret {n : St → Prop} {s : St} : thenQ n Q .ret s = Q .ret s := rfl
theorem thenQ_exit {n : St → Prop} {s : St} {i : Nat} : thenQ n Q (.exit i) s = Q (.exit i) s := rfl
theorem blockQ_normal {id : Nat} {s : St} : blockQ id Q .normal s = Q .normal s := rfl
theorem blockQ_ret {id : Nat} {s : St} : blockQ id Q .ret s = Q .ret s := rfl
theorem blockQ_exit {id j : Nat} {s : St} : blockQ id Q (.exit j) s = if j = id then Q .normal s else Q (.exit j) s := rfl
theorem aw_condV {t : Nat} {x y : Code} {b : Bool} (hn : t < s.env.n) (hc : s.env.f t = .bool b) (h : AW P (if b then x else y) s Q) : AW P (.cond (.tmp t) x y) s Q :=
  aw_cond (t := b) (by show (if t < s.env.n then some (s.env.f t) else none) = _; rw [if_pos hn, hc]) h
end
end Go.Fbs
