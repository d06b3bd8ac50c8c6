/- Each operation of the evaluator is the machine's: those that compute, read, build. -/
import Derived.Test.YthkfcmfphjepnaaFbsD
set_option linter.unusedVariables false
set_option linter.unusedSimpArgs false
namespace Go.Fbs
section
variable {P : Program} {κ : Ctx} {w : World} {m : Hp}

/-- The operation is done: what it yields, and where it leaves the memory. -/
def OpDone (κ : Ctx) (w : World) (r : Result Next) (v : V) (m' : Hp) : Prop :=
  ∃ (y : Value) (κ' : Ctx) (w' : World), (r = .ok (.value y) w' ∨ (r = .ok .skip w' ∧ y = Go.undef)) ∧ LeW κ w κ' w' ∧ Mem κ' w'.heap m' ∧ Rep κ' w'.heap v y

theorem OpDone.same {r : Result Next} {v : V} {y : Value} (hr : r = .ok (.value y) w) (k : Mem κ w.heap m) (rep : Rep κ w.heap v y) : OpDone κ w r v m :=
  ⟨y, κ, w, .inl hr, ⟨LeB.refl _ _, rfl, Kept.refl _⟩, k, rep⟩

theorem eqFs_run {xs ys : List V} {as bs : List Value} (ra : Reps κ w.heap xs as) (rb : Reps κ w.heap ys bs) (oa : ∀ x ∈ as, x.oneCell' = true) (ob : ∀ x ∈ bs, x.oneCell' = true)
    {eq : TypeId → V → V → Option Bool} {D : Nat} (heq : ∀ t x y r a b, eq t x y = some r → Rep κ w.heap x a → Rep κ w.heap y b → (Op.equalIn D t a b).run P w = .ok r w) :
    ∀ (fs : List Field) (r : Bool), eqFs P eq xs ys fs = some r → (Op.eqFields D ⟨as⟩ ⟨bs⟩ fs).run P w = .ok r w
  | [], r, e => by simp [eqFs] at e; subst e; simp [Op.eqFields]
  | f :: fs, r, e => by
    simp only [eqFs] at e
    split at e
    · simp at e
    rename_i hname
    split at e
    · rename_i a b h1 h2
      split at e
      · rename_i q h3
        obtain ⟨x, hx, rx⟩ := partT_run w oa ra h1
        obtain ⟨y, hy, ry⟩ := partT_run w ob rb h2
        have h4 := heq _ _ _ _ _ _ h3 rx ry
        simp only [Op.eqFields, ne_eq, hname, not_false_eq_true, if_true, Sem.run_bind, hx, hy, h4, Result.andThen_ok]
        cases q with
        | true =>
          simp at e ⊢
          exact eqFs_run ra rb oa ob heq fs r e
        | false => simp at e ⊢; exact e
      · simp at e
    · simp at e

theorem eqT_run : ∀ (d : Nat) (D : Nat), d ≤ D → ∀ (t : TypeId) (x y : V) (r : Bool) (a b : Value), eqT P d t x y = some r → Rep κ w.heap x a → Rep κ w.heap y b →
    (Op.equalIn D t a b).run P w = .ok r w
  | 0, _, _, t, x, y, r, a, b, e, _, _ => by simp [eqT] at e
  | d + 1, D, hD, t, x, y, r, a, b, e, ra, rb => by
    obtain ⟨D, rfl⟩ : ∃ D', D = D' + 1 := ⟨D - 1, by omega⟩
    unfold eqT at e
    split at e
    · rename_i hu
      obtain rfl := rep_bool ra; obtain rfl := rep_bool rb
      simp at e; subst e
      exact run_equalIn_bool' w D t _ _ hu
    · rename_i hu
      obtain rfl := rep_int ra; obtain rfl := rep_int rb
      split at e <;> simp at e
      rename_i hk
      subst hk; subst e
      exact run_equalIn_int w D t _ _ _ _ hu
    · rename_i hu
      obtain rfl := rep_str ra; obtain rfl := rep_str rb
      simp at e; subst e
      rw [run_equalIn_string w D t _ _ hu]
      simp [ByteArray.toList_eq]
    · rename_i hu
      obtain rfl := rep_nilp ra; obtain rfl := rep_nilp rb
      simp at e; subst e
      simp [Op.equalIn, run_underlying hu]
    · rename_i hu
      obtain rfl := rep_nilp ra; obtain ⟨b', _, rfl⟩ := rep_ptr rb
      simp at e; subst e
      simp [Op.equalIn, run_underlying hu]
    · rename_i hu
      obtain ⟨b', _, rfl⟩ := rep_ptr ra; obtain rfl := rep_nilp rb
      simp at e; subst e
      simp [Op.equalIn, run_underlying hu]
    · rename_i fs xs ys hu
      obtain ⟨as, ra', oa, rfl⟩ := rep_agg ra
      obtain ⟨bs, rb', ob, rfl⟩ := rep_agg rb
      split at e
      · simp at e
      rename_i hs
      have hf : P.fieldsOf t = fs := by simp [Program.fieldsOf, hu]
      rw [run_equalIn_struct w D t _ _ (by rw [hf]; exact hu) (by simpa using hs), hf]
      exact eqFs_run ra' rb' oa ob (fun t x y r a b h1 h2 h3 => eqT_run d D (by omega) t x y r a b h1 h2 h3) fs.toList r e
    · simp at e

theorem intBin_run {op : BinOp} {k : IntKind} {a b : Int} {v : V} {t : TypeId} (hs : op ≠ .shl) (hs' : op ≠ .shr) (e : intBin op k a b = some v) :
    ∃ z, (binOp op t (.int k a) (.int k b)).run P w = .ok z w ∧ Rep κ w.heap v z := by
  cases op <;> simp [intBin] at e <;> first | contradiction | skip
  case add => subst e; exact ⟨_, by simp [binOp, Op.intArith], .int _ _⟩
  case sub => subst e; exact ⟨_, by simp [binOp, Op.intArith], .int _ _⟩
  case mul => subst e; exact ⟨_, by simp [binOp, Op.intArith], .int _ _⟩
  case quo => obtain ⟨hb, rfl⟩ := e; exact ⟨_, by simp [binOp, Op.intDiv, hb], .int _ _⟩
  case rem => obtain ⟨hb, rfl⟩ := e; exact ⟨_, by simp [binOp, Op.intDiv, hb], .int _ _⟩
  case and => subst e; exact ⟨_, by simp [binOp, Op.intBits], .int _ _⟩
  case or => subst e; exact ⟨_, by simp [binOp, Op.intBits], .int _ _⟩
  case xor => subst e; exact ⟨_, by simp [binOp, Op.intBits], .int _ _⟩
  case eql => subst e; exact ⟨_, by simp [binOp, Op.intCmp], .bool _⟩
  case neq => subst e; exact ⟨_, by simp [binOp, Op.intCmp], .bool _⟩
  case lss => subst e; exact ⟨_, by simp [binOp, Op.intCmp], .bool _⟩
  case leq => subst e; exact ⟨_, by simp [binOp, Op.intCmp], .bool _⟩
  case gtr => subst e; exact ⟨_, by simp [binOp, Op.intCmp], .bool _⟩
  case geq => subst e; exact ⟨_, by simp [binOp, Op.intCmp], .bool _⟩

theorem strBin_run {op : BinOp} {a b : List UInt8} {v : V} {t : TypeId} (e : strBin op a b = some v) :
    ∃ z, (binOp op t (.string ⟨⟨a⟩⟩) (.string ⟨⟨b⟩⟩)).run P w = .ok z w ∧ Rep κ w.heap v z := by
  have e1 : ∀ l : List UInt8, (ByteArray.mk ⟨l⟩).toList = l := fun l => by rw [ByteArray.toList_eq]
  cases op <;> simp only [strBin] at e <;> first | (simp at e; done) | skip
  case add =>
    split at e <;> simp at e
    rename_i hn
    subst e
    refine ⟨.string ⟨⟨a ++ b⟩⟩, ?_, .str _⟩
    have : ¬ ((((ByteArray.mk ⟨a⟩).size + (ByteArray.mk ⟨b⟩).size : Nat) : Int) > IntKind.i64.max) := by
      have h1 : (ByteArray.mk ⟨a⟩).size = a.length := rfl
      have h2 : (ByteArray.mk ⟨b⟩).size = b.length := rfl
      rw [h1, h2]
      have h3 : IntKind.i64.max = 9223372036854775807 := by decide
      omega
    simp only [binOp, Op.stringOp, Sem.run_ite, if_neg this, Sem.run_pure]
    congr 2
  case eql => simp at e; subst e; exact ⟨_, by simp [binOp, Op.stringOp, e1], .bool _⟩
  case neq => simp at e; subst e; exact ⟨_, by simp [binOp, Op.stringOp, e1], .bool _⟩
  case lss => simp at e; subst e; exact ⟨_, by simp [binOp, Op.stringOp, e1], .bool _⟩
  case leq => simp at e; subst e; exact ⟨_, by simp [binOp, Op.stringOp, e1], .bool _⟩
  case gtr => simp at e; subst e; exact ⟨_, by simp [binOp, Op.stringOp, e1], .bool _⟩
  case geq => simp at e; subst e; exact ⟨_, by simp [binOp, Op.stringOp, e1], .bool _⟩

theorem shiftBin_run {op : BinOp} {k k' : IntKind} {a b : Int} {v : V} {t : TypeId} (ho : op = .shl ∨ op = .shr) (e : shiftBin op k a b = some v) :
    ∃ z, (binOp op t (.int k a) (.int k' b)).run P w = .ok z w ∧ Rep κ w.heap v z := by
  unfold shiftBin at e
  split at e
  · simp at e
  rename_i hb
  rcases ho with rfl | rfl
  · simp at e; subst e
    exact ⟨_, by simp [binOp, Op.shift, hb], .int _ _⟩
  · simp at e; subst e
    exact ⟨_, by simp [binOp, Op.shift, hb], .int _ _⟩

theorem eqGuard_run {op : BinOp} {t : TypeId} {ox oy : Operand} {x y : V} {a b : Value} {r : Bool} {d : Nat} (hg : P.eqGuardType P.depth t = false) (e : eqT P d t x y = some r)
    (ra : Rep κ w.heap x a) (rb : Rep κ w.heap y b) : (eqGuard op t ox oy a b).run P w = .ok () w := by
  cases d with
  | zero => simp [eqT] at e
  | succ d =>
    unfold eqT at e
    split at e
    · obtain rfl := rep_bool ra; obtain rfl := rep_bool rb; cases op <;> simp [eqGuard]
    · obtain rfl := rep_int ra; obtain rfl := rep_int rb; cases op <;> simp [eqGuard]
    · obtain rfl := rep_str ra; obtain rfl := rep_str rb; cases op <;> simp [eqGuard]
    · obtain rfl := rep_nilp ra; obtain rfl := rep_nilp rb; cases op <;> simp [eqGuard]
    · obtain rfl := rep_nilp ra; obtain ⟨_, _, rfl⟩ := rep_ptr rb; cases op <;> simp [eqGuard]
    · obtain ⟨_, _, rfl⟩ := rep_ptr ra; obtain rfl := rep_nilp rb; cases op <;> simp [eqGuard]
    · obtain ⟨as, _, _, rfl⟩ := rep_agg ra
      obtain ⟨bs, _, _, rfl⟩ := rep_agg rb
      exact run_eqGuard_agg w op t ox oy _ _ hg
    · simp at e

theorem eql_run {t : TypeId} {x y : V} {a b : Value} {r : Bool} (e : eqT P 20 t x y = some r) (ra : Rep κ w.heap x a) (rb : Rep κ w.heap y b)
    (hn : (∀ k n, x ≠ .int k n) ∧ (∀ s, x ≠ .str s)) :
    (binOp .eql t a b).run P w = .ok (.bool r) w ∧ (binOp .neq t a b).run P w = .ok (.bool !r) w := by
  have key := eqT_run (κ := κ) 20 10000 (by omega) t x y r a b e ra rb
  have : ∀ q : Sem Bool, q.run P w = .ok r w → (do pure (.bool (← q)) : Sem Value).run P w = .ok (.bool r) w ∧ (do pure (.bool (!(← q))) : Sem Value).run P w = .ok (.bool !r) w := fun q hq => by simp [hq]
  have := this (Op.equal t a b) (by unfold Op.equal Op.maxDepth; exact key)
  cases ra with
  | int k n => exact absurd rfl (hn.1 k n)
  | str s => exact absurd rfl (hn.2 s)
  | any x => exfalso; unfold eqT at e; split at e <;> simp_all
  | _ => cases b <;> exact this

theorem binV_run {op : BinOp} {t : TypeId} {ox oy : Operand} {x y v : V} {a b : Value} (e : binV P op t x y = some v) (ra : Rep κ w.heap x a) (rb : Rep κ w.heap y b) :
    ∃ z, (do eqGuard op t ox oy a b; binOp op t a b : Sem Value).run P w = .ok z w ∧ Rep κ w.heap v z := by
  unfold binV at e
  split at e
  · rename_i k n k' n'
    obtain rfl := rep_int ra; obtain rfl := rep_int rb
    have hg : (eqGuard op t ox oy (.int k n) (.int k' n')).run P w = .ok () w := by cases op <;> simp [eqGuard]
    simp only [Sem.run_bind, hg, Result.andThen_ok]
    split at e
    · exact shiftBin_run (.inl rfl) e
    · exact shiftBin_run (.inr rfl) e
    · rename_i h1 h2
      split at e
      · rename_i hk; subst hk; exact intBin_run h1 h2 e
      · simp at e
  · rename_i s s'
    obtain rfl := rep_str ra; obtain rfl := rep_str rb
    have hg : (eqGuard op t ox oy (.string ⟨⟨s⟩⟩) (.string ⟨⟨s'⟩⟩)).run P w = .ok () w := by cases op <;> simp [eqGuard]
    simp only [Sem.run_bind, hg, Result.andThen_ok]
    exact strBin_run e
  · rename_i hni hns
    split at e
    · split at e
      · simp at e
      rename_i hg
      simp only [Option.map_eq_some_iff] at e
      obtain ⟨r, h1, rfl⟩ := e
      have hg' := eqGuard_run (op := .eql) (ox := ox) (oy := oy) (by simpa using hg) h1 ra rb
      refine ⟨.bool r, ?_, .bool r⟩
      simp only [Sem.run_bind, hg', Result.andThen_ok]
      have hx : (∀ k n, x ≠ .int k n) ∧ (∀ s, x ≠ .str s) := by
        constructor
        · rintro k n rfl
          cases y <;> simp [eqT] at h1
          · exact hni _ _ _ _ rfl rfl
        · rintro s rfl
          cases y <;> simp [eqT] at h1
          · exact hns _ _ rfl rfl
      exact (eql_run h1 ra rb hx).1
    · split at e
      · simp at e
      rename_i hg
      simp only [Option.map_eq_some_iff] at e
      obtain ⟨r, h1, rfl⟩ := e
      have hg' := eqGuard_run (op := .neq) (ox := ox) (oy := oy) (by simpa using hg) h1 ra rb
      refine ⟨.bool !r, ?_, .bool _⟩
      simp only [Sem.run_bind, hg', Result.andThen_ok]
      have hx : (∀ k n, x ≠ .int k n) ∧ (∀ s, x ≠ .str s) := by
        constructor
        · rintro k n rfl
          cases y <;> simp [eqT] at h1
          · exact hni _ _ _ _ rfl rfl
        · rintro s rfl
          cases y <;> simp [eqT] at h1
          · exact hns _ _ rfl rfl
      exact (eql_run h1 ra rb hx).2
    · simp at e

end
end Go.Fbs
