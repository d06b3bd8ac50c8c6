/- Common texts: values, words, what they answer; no statement of the seat. -/
import Derived.Test.YtgmdijjibhknmaaGreatR2
import Derived.LoopN
import Derived.Scope
set_option linter.unusedVariables false
set_option linter.unusedSimpArgs false
set_option linter.unusedSectionVars false
/- Closed runs: threaded code: frames of words. -/
namespace Go.Rx

/-! ### Words -/
/-- A value as numbers: t says what it is: 0 whatever v is; 1 a bool; 2 a place; 3 a text; 4 a slice; from 8 on a number that is not below 0, by its kind. -/
structure W where
  v : RV
  p : Nat
  q : Nat
  z : Nat
  y : Nat
  x : Nat
  t : Nat
def kindA : List IntKind := [.i8, .i16, .i32, .i64, .u8, .u16, .u32, .u64]
noncomputable def kindT (t : Nat) : Option IntKind := nthL kindA (Nat.sub t 8)
noncomputable def capO (c : Nat) : Option Nat := @Nat.rec (fun _ => Option Nat) none (fun m _ => some m) c
noncomputable def capN (c : Option Nat) : Nat := @Option.rec Nat (fun _ => Nat) 0 (fun m => Nat.succ m) c
/-- What it says. -/
noncomputable def W.rv (w : W) : RV :=
  @W.rec (fun _ => RV) (fun v p q z y x t => ifB (Nat.ble 8 t) (onOpt (kindT t) (.bool false) fun k => .int k (.ofNat x)) (ifB (Nat.beq t 0) v (ifB (Nat.beq t 3) (.str ⟨x, y⟩) (ifB (Nat.beq t 2) (.ptr x y) (ifB (Nat.beq t 1) (.bool (Nat.beq x 1)) (ifB (Nat.beq t 4) (.sl x y z q (capO p)) (.bool false))))))) w
section
variable {β : Type}
noncomputable def rk_i (_ : RV) (_ _ _ _ x t : Nat) (k : RV → β) : β := onOpt (kindT t) (k (.bool false)) fun d => k (.int d (.ofNat x))
noncomputable def rk_v (v : RV) (_ _ _ _ _ _ : Nat) (k : RV → β) : β := k v
noncomputable def rk_s (_ : RV) (_ _ _ y x _ : Nat) (k : RV → β) : β := k (.str ⟨x, y⟩)
noncomputable def rk_p (_ : RV) (_ _ _ y x _ : Nat) (k : RV → β) : β := k (.ptr x y)
noncomputable def rk_b (_ : RV) (_ _ _ _ x _ : Nat) (k : RV → β) : β := ifB (Nat.beq x 1) (k (.bool true)) (k (.bool false))
noncomputable def rk_g (_ : RV) (p q z y x _ : Nat) (k : RV → β) : β := onOpt (capO p) (k (.sl x y z q none)) fun c => k (.sl x y z q (some c))
noncomputable def rk_f (_ : RV) (_ _ _ _ _ _ : Nat) (k : RV → β) : β := k (.bool false)
end
/-- The same, strict. -/
noncomputable def W.rvK {β : Type} (w : W) (k : RV → β) : β :=
  @W.rec (fun _ => β) (fun v p q z y x t => ifB (Nat.ble 8 t) rk_i (ifB (Nat.beq t 3) rk_s (ifB (Nat.beq t 2) rk_p (ifB (Nat.beq t 4) rk_g (ifB (Nat.beq t 0) rk_v (ifB (Nat.beq t 1) rk_b rk_f))))) v p q z y x t k) w
theorem ifB_push {α β : Type} (b : Bool) (x y : α) (k : α → β) : ifB b (k x) (k y) = k (ifB b x y) := by cases b <;> rfl
theorem onOpt_push {α β γ : Type} (o : Option γ) (d : α) (f : γ → α) (k : α → β) : (onOpt o (k d) fun c => k (f c)) = k (onOpt o d f) := by cases o <;> rfl
theorem W.rvK_eq {β : Type} (w : W) (k : RV → β) : w.rvK k = k w.rv := by
  obtain ⟨v, p, q, z, y, x, t⟩ := w
  show ifB (Nat.ble 8 t) rk_i (ifB (Nat.beq t 3) rk_s (ifB (Nat.beq t 2) rk_p (ifB (Nat.beq t 4) rk_g (ifB (Nat.beq t 0) rk_v (ifB (Nat.beq t 1) rk_b rk_f))))) v p q z y x t k =
    k (ifB (Nat.ble 8 t) (onOpt (kindT t) (.bool false) fun k => .int k (.ofNat x)) (ifB (Nat.beq t 0) v (ifB (Nat.beq t 3) (.str ⟨x, y⟩) (ifB (Nat.beq t 2) (.ptr x y) (ifB (Nat.beq t 1) (.bool (Nat.beq x 1)) (ifB (Nat.beq t 4) (.sl x y z q (capO p)) (.bool false)))))))
  cases h8 : Nat.ble 8 t with
  | true => exact onOpt_push _ _ _ _
  | false =>
    simp only [ifB_false]
    have ne : ∀ {a b : Nat}, a ≠ b → Nat.beq t a = true → Nat.beq t b = false := fun hab h => by
      rw [Nat.beq_eq] at h
      cases hb : Nat.beq t _ with
      | false => rfl
      | true => rw [Nat.beq_eq] at hb; exact absurd (h.symm.trans hb) hab
    cases h3 : Nat.beq t 3 with
    | true => simp only [ifB_true, ifB_false, ne (by decide : (3 : Nat) ≠ 0) h3]; rfl
    | false =>
      simp only [ifB_false]
      cases h2 : Nat.beq t 2 with
      | true => simp only [ifB_true, ifB_false, ne (by decide : (2 : Nat) ≠ 0) h2]; rfl
      | false =>
        simp only [ifB_false]
        cases h4 : Nat.beq t 4 with
        | true =>
          simp only [ifB_true, ifB_false, ne (by decide : (4 : Nat) ≠ 0) h4, ne (by decide : (4 : Nat) ≠ 1) h4]
          show (onOpt (capO p) (k (.sl x y z q none)) fun c => k (.sl x y z q (some c))) = k (.sl x y z q (capO p))
          cases capO p <;> rfl
        | false =>
          simp only [ifB_false]
          cases h0 : Nat.beq t 0 with
          | true => rfl
          | false =>
            simp only [ifB_false]
            cases h1 : Nat.beq t 1 with
            | true => show ifB (Nat.beq x 1) (k (.bool true)) (k (.bool false)) = k (.bool (Nat.beq x 1)); cases Nat.beq x 1 <;> rfl
            | false => rfl
noncomputable def wU (t x : Nat) : W := ⟨.undef, 0, 0, 0, 0, x, t⟩
noncomputable def wV (v : RV) : W := ⟨v, 0, 0, 0, 0, 0, 0⟩
noncomputable def wP (x y : Nat) : W := ⟨.undef, 0, 0, 0, y, x, 2⟩
noncomputable def wS (x y : Nat) : W := ⟨.undef, 0, 0, 0, y, x, 3⟩
noncomputable def wB (b : Bool) : W := ifB b (wU 1 1) (wU 1 0)
noncomputable def wG (l o n s : Nat) (c : Option Nat) : W := ⟨.undef, capN c, s, n, o, l, 4⟩
noncomputable def wT : W := ⟨.undef, 0, 0, 0, 0, 1, 1⟩
noncomputable def wF : W := ⟨.undef, 0, 0, 0, 0, 0, 1⟩
def kindI : IntKind → Nat
  | .i8 => 8 | .i16 => 9 | .i32 => 10 | .i64 => 11 | .u8 => 12 | .u16 => 13 | .u32 => 14 | .u64 => 15
section
variable {β : Type}
noncomputable def wo_b (b : Bool) (k : W → β) : β := @Bool.rec (fun _ => β) (k wF) (k wT) b
noncomputable def wo_i (q : IntKind) (n : Int) (k : W → β) : β := @Int.rec (fun _ => β) (fun m => forceN m fun m => forceN (kindI q) fun t => k ⟨.undef, 0, 0, 0, 0, m, t⟩) (fun m => forceN m fun m => k ⟨.int q (.negSucc m), 0, 0, 0, 0, 0, 0⟩) n
noncomputable def wo_s (s : Sb) (k : W → β) : β := @Sb.rec (fun _ => β) (fun n c => k ⟨.undef, 0, 0, 0, c, n, 3⟩) s
noncomputable def wo_p (l o : Nat) (k : W → β) : β := k ⟨.undef, 0, 0, 0, o, l, 2⟩
noncomputable def wo_g (l o n s : Nat) (c : Option Nat) (k : W → β) : β := @Option.rec Nat (fun _ => β) (k ⟨.undef, 0, s, n, o, l, 4⟩) (fun c => k ⟨.undef, Nat.succ c, s, n, o, l, 4⟩) c
noncomputable def wo_c (v : RV) (k : W → β) : β := k ⟨v, 0, 0, 0, 0, 0, 0⟩
noncomputable def wo_m (l : Nat) (k : W → β) : β := wo_c (.map l) k
noncomputable def wo_f (f : Nat) (cs : List RV) (_ : PUnit.{1}) (k : W → β) : β := wo_c (.func f cs) k
noncomputable def wo_a (cs : List RV) (_ : PUnit.{1}) (k : W → β) : β := wo_c (.agg cs) k
noncomputable def wo_t (cs : List RV) (_ : PUnit.{1}) (k : W → β) : β := wo_c (.tup cs) k
noncomputable def wo_y (s : Sy) (k : W → β) : β := wo_c (.sym s) k
end
/-- A value as a word: strict. -/
noncomputable def wOf {β : Type} (v : RV) (k : W → β) : β :=
  @RV.rec (fun _ => (W → β) → β) (fun _ => PUnit.{1}) wo_b wo_i wo_s (wo_c .nilp) wo_p (wo_c .slnil) wo_g (wo_c .mapnil) wo_m (wo_c .nilf) wo_f wo_a wo_t (wo_c .undef) wo_y (wo_c .nili) (wo_c .any) PUnit.unit (fun _ _ _ _ => PUnit.unit) v k
theorem rv_kind (q : IntKind) (m : Nat) : (⟨.undef, 0, 0, 0, 0, m, kindI q⟩ : W).rv = .int q (.ofNat m) := by cases q <;> rfl
theorem wOf_eq {β : Type} (v : RV) (k : W → β) : ∃ w : W, w.rv = v ∧ wOf v k = k w := by
  cases v
  case bool b => cases b <;> exact ⟨_, rfl, rfl⟩
  case int q n =>
    cases n with
    | ofNat m => exact ⟨_, rv_kind q m, (forceN_eq m (fun m => forceN (kindI q) fun t => k ⟨.undef, 0, 0, 0, 0, m, t⟩)).trans (forceN_eq _ _)⟩
    | negSucc m => exact ⟨⟨.int q (.negSucc m), 0, 0, 0, 0, 0, 0⟩, rfl, forceN_eq m (fun m => k ⟨.int q (.negSucc m), 0, 0, 0, 0, 0, 0⟩)⟩
  case sl l o n s c => cases c <;> exact ⟨_, rfl, rfl⟩
  all_goals exact ⟨_, rfl, rfl⟩
noncomputable def forceW1 {β : Type} (v : RV) (p q z y x t : Nat) (k : W → β) : β := k ⟨v, p, q, z, y, x, t⟩
noncomputable def forceW {β : Type} (w : W) (k : W → β) : β := @W.rec (fun _ => (W → β) → β) forceW1 w k
theorem forceW_eq {β : Type} (w : W) (k : W → β) : forceW w k = k w := rfl
end Go.Rx

/- Closed runs: threaded code: operations. -/
namespace Go.Rx

abbrev Ev := Q (Q W)
def Ev.at (e : Ev) (i : Nat) : W := (Q.at e (i / 16)).at (i % 16)
inductive OQ where
  | nrm (e : Ev) (H : HT)
  | ext (id : Nat) (e : Ev) (H : HT)
  | ret (e : Ev) (H : HT)
  | bad
inductive OW where
  | ok (w : W) (H : HT)
  | bad
abbrev Cw := FuncId → List RV → HT → OW
abbrev XC := Cw → Ev → HT → OQ
abbrev XV (F : Type) := F → W
abbrev XK := W → HT → OQ
abbrev XO (F : Type) := Cw → F → HT → XK → OQ

/-! ### Operands -/
def kc {F : Type} (w : W) (_ : F) : W := w
/-- In frames that R pairs, the word is the operand's. -/
def OpOk {F : Type} (R : T RV → F → Prop) (a : XV F) (x : Operand) : Prop := ∀ env f, R env f → ev env x = some (a f).rv

/-! ### What an operation does -/
/-- It does as the slower one does. -/
def XS {F : Type} (tt : T RTI) (R : T RV → F → Prop) (x : XO F) (op : Op) : Prop := ∀ (C : Cw) (Ce : Cee) (env : T RV) (e : F) (H : HT) (k : XK) (r : OQ), R env e → x C e H k = r → r ≠ .bad → ∃ (w : W) (H' : HT), opV tt Ce env H op = .ok w.rv H' ∧ k w H' = r

noncomputable def slowB (o : Option RV) (H : HT) (k : XK) : OQ := onOpt o .bad fun v => wOf v fun w => k w H
theorem slowB_ok {o : Option RV} {H : HT} {k : XK} {r : OQ} (h : slowB o H k = r) (hr : r ≠ .bad) : ∃ w : W, o = some w.rv ∧ k w H = r := by
  unfold slowB at h
  cases o with
  | none => exact absurd h.symm hr
  | some v =>
    rw [onOpt_some] at h
    obtain ⟨w, h1, h2⟩ := wOf_eq v (fun w => k w H)
    rw [h2] at h
    exact ⟨w, by rw [h1], h⟩
noncomputable def genK (o : OR) (k : XK) : OQ := match o with | .ok v H => wOf v fun w => k w H | .bad => .bad
theorem genK_ok {o : OR} {k : XK} {r : OQ} (h : genK o k = r) (hr : r ≠ .bad) : ∃ (w : W) (H' : HT), o = .ok w.rv H' ∧ k w H' = r := by
  unfold genK at h
  cases o with
  | bad => exact absurd h.symm hr
  | ok v H =>
    obtain ⟨w, h1, h2⟩ := wOf_eq v (fun w => k w H)
    simp only [h2] at h
    exact ⟨w, H, by rw [h1], h⟩

section
variable {F : Type} {R : T RV → F → Prop} {tt : T RTI} {n : Nat} {C : Cw} {Ce : Cee} {env : T RV} {e : F} {H : HT} {k : XK} {r : OQ} {a b c : XV F} {x y z : Operand}

/-- Whatever is read. -/
noncomputable def x_mv (a : XV F) : XO F := fun _ e H k => forceW (a e) fun w => k w H
theorem x_mv_move (ha : OpOk R a x) : XS tt R (x_mv a) (.move x) := fun C Ce env e H k r hq h hr =>
  ⟨a e, H, by simp only [opV, okV, ha _ _ hq, onOpt_some], h⟩
theorem x_mv_assign (ha : OpOk R a x) : XS tt R (x_mv a) (.assign x) := fun C Ce env e H k r hq h hr =>
  ⟨a e, H, by simp only [opV, okV, ha _ _ hq, onOpt_some], h⟩

theorem ifB_of {α : Type} {b : Bool} {x y r : α} (h : ifB b x y = r) : (b = true ∧ x = r) ∨ (b = false ∧ y = r) := by
  cases b
  · exact .inr ⟨rfl, h⟩
  · exact .inl ⟨rfl, h⟩

/-! ### Two numbers -/
noncomputable def x_binG {F : Type} (tt : T RTI) (op : BinOp) (ty : TypeId) (a b : XV F) : XO F := fun _ e H k => slowB (binF tt op ty (a e).rv (b e).rv) H k
theorem bin_opV (ha : OpOk R a x) (hb : OpOk R b y) (hq : R env e) (op : BinOp) (ty yt : TypeId) (H : HT) (hne : (a e).rv ≠ .nili) : opV tt Ce env H (.binOp op ty x y yt) = okV (binF tt op ty (a e).rv (b e).rv) H := by
  simp only [opV, ev2, ha _ _ hq, hb _ _ hq, onOpt_some, binF_eq, binN_ne tt hne]
theorem slow_bin (ha : OpOk R a x) (hb : OpOk R b y) (hq : R env e) {op : BinOp} {ty yt : TypeId} (h : slowB (binF tt op ty (a e).rv (b e).rv) H k = r) (hr : r ≠ .bad) :
    ∃ (w : W) (H' : HT), opV tt Ce env H (.binOp op ty x y yt) = .ok w.rv H' ∧ k w H' = r := by
  obtain ⟨w, h1, h2⟩ := slowB_ok h hr
  exact ⟨w, H, by rw [bin_opV ha hb hq op ty yt H (fun h => by rw [h] at h1; simp [binF, kind4] at h1), h1]; rfl, h2⟩
theorem x_binG_ok (ha : OpOk R a x) (hb : OpOk R b y) (op : BinOp) (ty yt : TypeId) : XS tt R (x_binG tt op ty a b) (.binOp op ty x y yt) := fun C Ce env e H k r hq h hr => slow_bin ha hb hq h hr

/-- Two words with the same mark. -/
noncomputable def two2 (_ : RV) (_ _ _ y' x' t' T t x y : Nat) (k : Nat → Nat → Nat → Nat → OQ) (slow : OQ) : OQ := ifB (Nat.beq t T) (ifB (Nat.beq t' T) (k x x' y y') slow) slow
noncomputable def two1 (_ : RV) (_ _ _ y x t T : Nat) (g : W) (k : Nat → Nat → Nat → Nat → OQ) (slow : OQ) : OQ := @W.rec (fun _ => Nat → Nat → Nat → Nat → (Nat → Nat → Nat → Nat → OQ) → OQ → OQ) two2 g T t x y k slow
noncomputable def two (T : Nat) (f : W) (g : W) (slow : OQ) (k : Nat → Nat → Nat → Nat → OQ) : OQ := @W.rec (fun _ => Nat → W → (Nat → Nat → Nat → Nat → OQ) → OQ → OQ) two1 f T g k slow
theorem two_ok {T : Nat} {f g : W} {slow : OQ} {k : Nat → Nat → Nat → Nat → OQ} (h : two T f g slow k = r) : (f.t = T ∧ g.t = T ∧ k f.x g.x f.y g.y = r) ∨ slow = r := by
  have h : ifB (Nat.beq f.t T) (ifB (Nat.beq g.t T) (k f.x g.x f.y g.y) slow) slow = r := h
  rcases ifB_of h with ⟨h1, h⟩ | ⟨_, h⟩
  · rcases ifB_of h with ⟨h2, h⟩ | ⟨_, h⟩
    · exact .inl ⟨nbeq.1 h1, nbeq.1 h2, h⟩
    · exact .inr h
  · exact .inr h
theorem kindT_kindI (q : IntKind) : kindT (kindI q) = some q := by cases q <;> rfl
theorem rv_int {w : W} {q : IntKind} (h : w.t = kindI q) : w.rv = .int q (.ofNat w.x) := by
  obtain ⟨v, p, q', z, y, x, t⟩ := w
  simp only at h
  subst h
  show ifB (Nat.ble 8 (kindI q)) (onOpt (kindT (kindI q)) (RV.bool false) fun k => RV.int k (.ofNat x)) _ = _
  have : Nat.ble 8 (kindI q) = true := by cases q <;> rfl
  rw [this, ifB_true, kindT_kindI, onOpt_some]
theorem rv_str {w : W} (h : w.t = 3) : w.rv = .str ⟨w.x, w.y⟩ := by
  obtain ⟨v, p, q', z, y, x, t⟩ := w
  simp only at h
  subst h; rfl
theorem rv_ptr {w : W} (h : w.t = 2) : w.rv = .ptr w.x w.y := by
  obtain ⟨v, p, q', z, y, x, t⟩ := w
  simp only at h
  subst h; rfl
theorem rv_bool {w : W} (h : w.t = 1) : w.rv = .bool (Nat.beq w.x 1) := by
  obtain ⟨v, p, q', z, y, x, t⟩ := w
  simp only at h
  subst h; rfl
theorem rv_sl {w : W} (h : w.t = 4) : w.rv = .sl w.x w.y w.z w.q (capO w.p) := by
  obtain ⟨v, p, q', z, y, x, t⟩ := w
  simp only at h
  subst h; rfl
theorem rv_u (x : Nat) (q : IntKind) : (⟨.undef, 0, 0, 0, 0, x, kindI q⟩ : W).rv = .int q (.ofNat x) := rv_int rfl

noncomputable def x_add (tt : T RTI) (ty : TypeId) (T M : Nat) (a b : XV F) : XO F := fun _ e H k =>
  two T (a e) (b e) (slowB (binF tt .add ty (a e).rv (b e).rv) H k) fun x x' _ _ => forceN (Nat.add x x') fun s => ifB (Nat.ble s M) (k ⟨.undef, 0, 0, 0, 0, s, T⟩ H) (slowB (binF tt .add ty (a e).rv (b e).rv) H k)
noncomputable def x_sub (tt : T RTI) (ty : TypeId) (T M : Nat) (a b : XV F) : XO F := fun _ e H k =>
  two T (a e) (b e) (slowB (binF tt .sub ty (a e).rv (b e).rv) H k) fun x x' _ _ => ifB (Nat.ble x' x) (forceN (Nat.sub x x') fun s => ifB (Nat.ble s M) (k ⟨.undef, 0, 0, 0, 0, s, T⟩ H) .bad) (slowB (binF tt .sub ty (a e).rv (b e).rv) H k)
noncomputable def x_cmp (tt : T RTI) (op : BinOp) (ty : TypeId) (T : Nat) (f : Nat → Nat → Bool) (yes no : W) (a b : XV F) : XO F := fun _ e H k =>
  two T (a e) (b e) (slowB (binF tt op ty (a e).rv (b e).rv) H k) fun x x' _ _ => ifB (f x x') (k yes H) (k no H)
theorem wr_nat {q : IntKind} {m : Nat} (h : Nat.ble m (maxP q) = true) : wr q (.ofNat m) = .ofNat m := by
  show ifB (Nat.ble m (maxP q)) _ _ = _
  rw [h]; rfl
theorem kindEq_self (q : IntKind) : kindEq q q = true := by cases q <;> rfl
theorem x_add_ok (ha : OpOk R a x) (hb : OpOk R b y) (ty yt : TypeId) (q : IntKind) : XS tt R (x_add tt ty (kindI q) (maxP q) a b) (.binOp .add ty x y yt) := fun C Ce env e H k r hq h hr => by
  rcases two_ok h with ⟨h1, h2, h⟩ | h
  · rw [forceN_eq] at h
    rcases ifB_of h with ⟨h3, h⟩ | ⟨_, h⟩
    · refine ⟨_, H, ?_, h⟩
      rw [bin_opV (hne := by rw [rv_int h1]; simp) ha hb hq, rv_int h1, rv_int h2, rv_u]
      have e1 : binF tt .add ty (.int q (.ofNat (a e).x)) (.int q (.ofNat (b e).x)) = ifB (kindEq q q) (i_add q (.ofNat (a e).x) (.ofNat (b e).x)) none := rfl
      rw [e1, kindEq_self, ifB_true]
      unfold i_add
      rw [forceI_eq]
      have e2 : Int.add (.ofNat (a e).x) (.ofNat (b e).x) = .ofNat ((a e).x + (b e).x) := rfl
      have e3 : wr q (.ofNat ((a e).x + (b e).x)) = .ofNat ((a e).x + (b e).x) := wr_nat h3
      rw [e2, e3]
      rfl
    · exact slow_bin ha hb hq h hr
  · exact slow_bin ha hb hq h hr
theorem x_sub_ok (ha : OpOk R a x) (hb : OpOk R b y) (ty yt : TypeId) (q : IntKind) : XS tt R (x_sub tt ty (kindI q) (maxP q) a b) (.binOp .sub ty x y yt) := fun C Ce env e H k r hq h hr => by
  rcases two_ok h with ⟨h1, h2, h⟩ | h
  · rcases ifB_of h with ⟨h3, h⟩ | ⟨_, h⟩
    · rw [forceN_eq] at h
      rcases ifB_of h with ⟨h4, h⟩ | ⟨_, h⟩
      · refine ⟨_, H, ?_, h⟩
        rw [bin_opV (hne := by rw [rv_int h1]; simp) ha hb hq, rv_int h1, rv_int h2, rv_u]
        have e1 : binF tt .sub ty (.int q (.ofNat (a e).x)) (.int q (.ofNat (b e).x)) = ifB (kindEq q q) (i_sub q (.ofNat (a e).x) (.ofNat (b e).x)) none := rfl
        rw [e1, kindEq_self, ifB_true]
        unfold i_sub
        rw [forceI_eq]
        have h3 := Nat.le_of_ble_eq_true h3
        have e2 : Int.sub (.ofNat (a e).x) (.ofNat (b e).x) = .ofNat ((a e).x - (b e).x) := by
          show ((a e).x : Int) - ((b e).x : Int) = (((a e).x - (b e).x : Nat) : Int)
          omega
        rw [e2]
        have e3 : wr q (.ofNat ((a e).x - (b e).x)) = .ofNat ((a e).x - (b e).x) := wr_nat h4
        rw [e3]
        rfl
      · exact absurd h.symm hr
    · exact slow_bin ha hb hq h hr
  · exact slow_bin ha hb hq h hr
/-- A comparison of numbers that f decides. -/
def CmpF (op : BinOp) (f : Nat → Nat → Bool) (yes no : Bool) : Prop := ∀ q x x', intF op q (.ofNat x) q (.ofNat x') = some (.bool (if f x x' = true then yes else no))
noncomputable def wBv (b : Bool) : W := if b then wT else wF
theorem wBv_rv (b : Bool) : (wBv b).rv = .bool b := by cases b <;> rfl
theorem x_cmp_ok (ha : OpOk R a x) (hb : OpOk R b y) {op : BinOp} (ty yt : TypeId) (q : IntKind) {f : Nat → Nat → Bool} {yes no : Bool} (hf : CmpF op f yes no) {wy wn : W} (hy : wy.rv = .bool yes) (hn : wn.rv = .bool no) :
    XS tt R (x_cmp tt op ty (kindI q) f wy wn a b) (.binOp op ty x y yt) := fun C Ce env e H k r hq h hr => by
  rcases two_ok h with ⟨h1, h2, h⟩ | h
  · have e1 : opV tt Ce env H (.binOp op ty x y yt) = okV (some (.bool (if f (a e).x (b e).x = true then yes else no))) H := by
      rw [bin_opV (hne := by rw [rv_int h1]; simp) ha hb hq, rv_int h1, rv_int h2, ← hf q (a e).x (b e).x]; rfl
    rcases ifB_of h with ⟨h3, h⟩ | ⟨h3, h⟩
    · exact ⟨wy, H, by rw [e1, if_pos h3, hy]; rfl, h⟩
    · exact ⟨wn, H, by rw [e1, if_neg (by rw [h3]; simp), hn]; rfl, h⟩
  · exact slow_bin ha hb hq h hr
theorem wT_rv : wT.rv = .bool true := rfl
theorem wF_rv : wF.rv = .bool false := rfl
theorem bool_ite (b : Bool) : b = if b = true then true else false := by cases b <;> rfl
theorem cmp_eql : CmpF .eql Nat.beq true false := fun q x x' => by
  have e1 : intF .eql q (.ofNat x) q (.ofNat x') = ifB (kindEq q q) (i_eql q (.ofNat x) (.ofNat x')) none := rfl
  rw [e1, kindEq_self, ifB_true, ← bool_ite]; exact forceB_eq _ _
theorem cmp_neq : CmpF .neq Nat.beq false true := fun q x x' => by
  have e1 : intF .neq q (.ofNat x) q (.ofNat x') = ifB (kindEq q q) (i_neq q (.ofNat x) (.ofNat x')) none := rfl
  rw [e1, kindEq_self, ifB_true, ← ifB_eq]; exact forceB_eq _ _
theorem cmp_lss : CmpF .lss Nat.blt true false := fun q x x' => by
  have e1 : intF .lss q (.ofNat x) q (.ofNat x') = ifB (kindEq q q) (i_lss q (.ofNat x) (.ofNat x')) none := rfl
  rw [e1, kindEq_self, ifB_true, ← bool_ite]; exact forceB_eq _ _
theorem cmp_geq : CmpF .geq Nat.blt false true := fun q x x' => by
  have e1 : intF .geq q (.ofNat x) q (.ofNat x') = ifB (kindEq q q) (i_geq q (.ofNat x) (.ofNat x')) none := rfl
  rw [e1, kindEq_self, ifB_true, ← ifB_eq]; exact forceB_eq _ _
theorem ble_blt (x x' : Nat) : ifB (Nat.blt x' x) false true = Nat.ble x x' := by
  cases h : Nat.ble x x' with
  | true =>
    have := Nat.le_of_ble_eq_true h
    have h2 : Nat.blt x' x = false := by
      cases hb : Nat.blt x' x with
      | false => rfl
      | true => rw [Nat.blt_eq] at hb; omega
    rw [h2]; rfl
  | false =>
    have h2 : Nat.blt x' x = true := by
      rw [Nat.blt_eq]
      refine Nat.lt_of_not_le fun hle => ?_
      rw [Nat.ble_eq_true_of_le hle] at h; simp at h
    rw [h2]; rfl
theorem cmp_leq : CmpF .leq Nat.ble true false := fun q x x' => by
  have e1 : intF .leq q (.ofNat x) q (.ofNat x') = ifB (kindEq q q) (i_leq q (.ofNat x) (.ofNat x')) none := rfl
  rw [e1, kindEq_self, ifB_true, ← bool_ite, ← ble_blt]; exact forceB_eq _ _
theorem cmp_gtr : CmpF .gtr Nat.ble false true := fun q x x' => by
  have e1 : intF .gtr q (.ofNat x) q (.ofNat x') = ifB (kindEq q q) (i_gtr q (.ofNat x) (.ofNat x')) none := rfl
  rw [e1, kindEq_self, ifB_true, ← ifB_eq, ← ble_blt]
  have e2 : (ifB (ifB (Nat.blt x' x) false true) false true) = Nat.blt x' x := by cases Nat.blt x' x <;> rfl
  rw [e2]; exact forceB_eq _ _

/-! ### Two texts -/
noncomputable def x_seq (tt : T RTI) (op : BinOp) (ty : TypeId) (yes no : W) (a b : XV F) : XO F := fun _ e H k =>
  two 3 (a e) (b e) (slowB (binF tt op ty (a e).rv (b e).rv) H k) fun x x' y y' => ifB (Nat.beq x x') (ifB (Nat.beq (Nat.mod y (Nat.pow 256 x)) (Nat.mod y' (Nat.pow 256 x'))) (k yes H) (k no H)) (k no H)
noncomputable def x_cat (tt : T RTI) (ty : TypeId) (a b : XV F) : XO F := fun _ e H k =>
  two 3 (a e) (b e) (slowB (binF tt .add ty (a e).rv (b e).rv) H k) fun x x' y y' => ifB (Nat.ble (Nat.add x x') 9223372036854775807)
    (forceN (Nat.add x x') fun n => forceN (Nat.add (Nat.mod y (Nat.pow 256 x)) (Nat.mul (Nat.pow 256 x) y')) fun c => k ⟨.undef, 0, 0, 0, c, n, 3⟩ H) .bad
theorem x_cat_ok (ha : OpOk R a x) (hb : OpOk R b y) (ty yt : TypeId) : XS tt R (x_cat tt ty a b) (.binOp .add ty x y yt) := fun C Ce env e H k r hq h hr => by
  rcases two_ok h with ⟨h1, h2, h⟩ | h
  · rcases ifB_of h with ⟨h3, h⟩ | ⟨_, h⟩
    · rw [forceN_eq, forceN_eq] at h
      refine ⟨_, H, ?_, h⟩
      rw [bin_opV (hne := by rw [rv_str h1]; simp) ha hb hq, rv_str h1, rv_str h2]
      have e1 : binF tt .add ty (.str ⟨(a e).x, (a e).y⟩) (.str ⟨(b e).x, (b e).y⟩) = ifB (Nat.ble (Nat.add (a e).x (b e).x) 9223372036854775807) (forceN (Nat.add (a e).x (b e).x) fun n => forceN (Nat.add (Nat.mod (a e).y (Nat.pow 256 (a e).x)) (Nat.mul (Nat.pow 256 (a e).x) (b e).y)) fun c => some (.str ⟨n, c⟩)) none := rfl
      rw [e1, h3, ifB_true, forceN_eq, forceN_eq]
      rfl
    · exact absurd h.symm hr
  · exact slow_bin ha hb hq h hr
theorem x_seq_ok (ha : OpOk R a x) (hb : OpOk R b y) {op : BinOp} (ty yt : TypeId) {yes no : Bool} (hop : (op = .eql ∧ yes = true ∧ no = false) ∨ (op = .neq ∧ yes = false ∧ no = true)) {wy wn : W} (hy : wy.rv = .bool yes) (hn : wn.rv = .bool no) :
    XS tt R (x_seq tt op ty wy wn a b) (.binOp op ty x y yt) := fun C Ce env e H k r hq h hr => by
  rcases two_ok h with ⟨h1, h2, h⟩ | h
  · have key : ∀ z : Bool, eqZ ⟨(a e).x, (a e).y⟩ ⟨(b e).x, (b e).y⟩ = z → opV tt Ce env H (.binOp op ty x y yt) = .ok (if z = true then .bool yes else .bool no) H := by
      intro z hz
      rw [bin_opV (hne := by rw [rv_str h1]; simp) ha hb hq, rv_str h1, rv_str h2]
      rcases hop with ⟨rfl, rfl, rfl⟩ | ⟨rfl, rfl, rfl⟩
      · have e1 : binF tt .eql ty (.str ⟨(a e).x, (a e).y⟩) (.str ⟨(b e).x, (b e).y⟩) = forceB (eqZ ⟨(a e).x, (a e).y⟩ ⟨(b e).x, (b e).y⟩) fun t => some (.bool t) := rfl
        rw [e1, hz]; cases z <;> rfl
      · have e1 : binF tt .neq ty (.str ⟨(a e).x, (a e).y⟩) (.str ⟨(b e).x, (b e).y⟩) = forceB (ifB (eqZ ⟨(a e).x, (a e).y⟩ ⟨(b e).x, (b e).y⟩) false true) fun t => some (.bool t) := rfl
        rw [e1, hz]; cases z <;> rfl
    rcases ifB_of h with ⟨h3, h⟩ | ⟨h3, h⟩
    · rcases ifB_of h with ⟨h4, h⟩ | ⟨h4, h⟩
      · exact ⟨wy, H, by rw [key true (by unfold eqZ; simp only [h3, ifB_true]; exact h4), if_pos rfl, hy], h⟩
      · exact ⟨wn, H, by rw [key false (by unfold eqZ; simp only [h3, ifB_true]; exact h4), if_neg (by simp), hn], h⟩
    · exact ⟨wn, H, by rw [key false (by unfold eqZ; simp only [h3, ifB_false]), if_neg (by simp), hn], h⟩
  · exact slow_bin ha hb hq h hr
end
end Go.Rx

/- Closed runs: threaded code: more operations. -/
namespace Go.Rx
section
variable {F : Type} {R : T RV → F → Prop} {tt : T RTI} {n : Nat} {C : Cw} {Ce : Cee} {env : T RV} {e : F} {H : HT} {k : XK} {r : OQ} {a b c : XV F} {x y z : Operand}

noncomputable def wUn : W := ⟨.undef, 0, 0, 0, 0, 0, 0⟩
theorem wUn_rv : wUn.rv = .undef := rfl
noncomputable def one1 (_ : RV) (_ _ _ y x t T : Nat) (d : OQ) (k : Nat → Nat → OQ) : OQ := ifB (Nat.beq t T) (k x y) d
noncomputable def one (T : Nat) (f : W) (d : OQ) (k : Nat → Nat → OQ) : OQ := @W.rec (fun _ => Nat → OQ → (Nat → Nat → OQ) → OQ) one1 f T d k
theorem one_ok {T : Nat} {f : W} {d : OQ} {k : Nat → Nat → OQ} (h : one T f d k = r) : (f.t = T ∧ k f.x f.y = r) ∨ d = r := by
  have h : ifB (Nat.beq f.t T) (k f.x f.y) d = r := h
  rcases ifB_of h with ⟨h1, h⟩ | ⟨_, h⟩
  · exact .inl ⟨nbeq.1 h1, h⟩
  · exact .inr h

theorem kindT_get {t : Nat} (h1 : 8 ≤ t) (h2 : t ≤ 15) : ∃ q, kindT t = some q := by
  unfold kindT
  rw [nthL_eq]
  have : t - 8 < 8 := by omega
  exact ⟨kindA[t - 8]'(by simp [kindA]; omega), List.getElem?_eq_getElem _⟩
/-- A number that is not below 0. -/
noncomputable def natW (f : W) (d : OQ) (k : Nat → OQ) : OQ := @W.rec (fun _ => OQ) (fun _ _ _ _ _ x t => ifB (Nat.ble 8 t) (ifB (Nat.ble t 15) (k x) d) d) f
theorem natW_ok {f : W} {d : OQ} {k : Nat → OQ} (h : natW f d k = r) : (∃ q, f.rv = .int q (.ofNat f.x) ∧ k f.x = r) ∨ d = r := by
  have h : ifB (Nat.ble 8 f.t) (ifB (Nat.ble f.t 15) (k f.x) d) d = r := h
  rcases ifB_of h with ⟨h1, h⟩ | ⟨_, h⟩
  · rcases ifB_of h with ⟨h2, h⟩ | ⟨_, h⟩
    · obtain ⟨q, hq⟩ := kindT_get (Nat.le_of_ble_eq_true h1) (Nat.le_of_ble_eq_true h2)
      refine .inl ⟨q, ?_, h⟩
      obtain ⟨v, p, q', z, y, x, t⟩ := f
      show ifB (Nat.ble 8 t) (onOpt (kindT t) (RV.bool false) fun k => RV.int k (.ofNat x)) _ = _
      rw [h1, ifB_true, hq, onOpt_some]
    · exact .inr h
  · exact .inr h

/-! ### One word -/
noncomputable def x_un (op : UnOp) (a : XV F) : XO F := fun _ e H k => slowB (unV op (a e).rv) H k
theorem x_un_ok (ha : OpOk R a x) (op : UnOp) (ty : TypeId) : XS tt R (x_un op a) (.unOp op ty x) := fun C Ce env e H k r hq h hr => by
  obtain ⟨w, h1, h2⟩ := slowB_ok h hr
  exact ⟨w, H, by simp only [opV, ev1, ha _ _ hq, onOpt_some, h1]; rfl, h2⟩
noncomputable def x_not (a : XV F) : XO F := fun _ e H k => one 1 (a e) .bad fun x _ => ifB (Nat.beq x 1) (k wF H) (k wT H)
theorem x_not_ok (ha : OpOk R a x) (ty : TypeId) : XS tt R (x_not a) (.unOp .not ty x) := fun C Ce env e H k r hq h hr => by
  rcases one_ok h with ⟨h1, h⟩ | h
  · have e1 : opV tt Ce env H (.unOp .not ty x) = okV (some (.bool (!Nat.beq (a e).x 1))) H := by
      simp only [opV, ev1, ha _ _ hq, onOpt_some, rv_bool h1, unV, forceB_eq]
      cases Nat.beq (a e).x 1 <;> rfl
    rcases ifB_of h with ⟨h3, h⟩ | ⟨h3, h⟩
    · exact ⟨wF, H, by rw [e1, h3]; rfl, h⟩
    · exact ⟨wT, H, by rw [e1, h3]; rfl, h⟩
  · exact absurd h.symm hr

noncomputable def x_fa (o : Nat) (a : XV F) : XO F := fun _ e H k => one 2 (a e) .bad fun x y => forceN (Nat.add y o) fun s => k ⟨.undef, 0, 0, 0, s, x, 2⟩ H
theorem x_fa_ok (ha : OpOk R a x) {ty : TypeId} {f o : Nat} (hf : ∀ l off, fieldAddrV tt ty (.ptr l off) f = some (.ptr l (off + o))) : XS tt R (x_fa o a) (.fieldAddr ty x f) := fun C Ce env e H k r hq h hr => by
  rcases one_ok h with ⟨h1, h⟩ | h
  · rw [forceN_eq] at h
    exact ⟨_, H, by simp only [opV, ev1, ha _ _ hq, onOpt_some, rv_ptr h1, hf]; rfl, h⟩
  · exact absurd h.symm hr
noncomputable def x_fld (tt : T RTI) (ty : TypeId) (f : Nat) (a : XV F) : XO F := fun _ e H k => slowB (fieldF tt ty (a e).rv f) H k
theorem x_fld_ok (ha : OpOk R a x) (ty : TypeId) (f : Nat) : XS tt R (x_fld tt ty f a) (.field ty x f) := fun C Ce env e H k r hq h hr => by
  obtain ⟨w, h1, h2⟩ := slowB_ok h hr
  rw [fieldF_eq] at h1
  exact ⟨w, H, by simp only [opV, ev1, ha _ _ hq, onOpt_some, h1]; rfl, h2⟩

/-- A slice's word and a number's. -/
noncomputable def x_ia (tt : T RTI) (ty : TypeId) (sz : Nat) (a b : XV F) : XO F := fun _ e H k =>
  @W.rec (fun _ => OQ) (fun _ _ q z y x t => ifB (Nat.beq t 4) (natW (b e) .bad fun x' => ifB (Nat.beq q sz) (ifB (Nat.blt x' z) (forceN (Nat.add y (Nat.mul x' sz)) fun o => k ⟨.undef, 0, 0, 0, o, x, 2⟩ H) .bad) .bad) (slowB (indexAddrF tt ty (a e).rv (b e).rv) H k)) (a e)
theorem x_ia_ok (ha : OpOk R a x) (hb : OpOk R b y) {ty : TypeId} {sz : Nat} (hf : ∀ q l off m c i, i < m → indexAddrV tt ty (.sl l off m sz c) (.int q (.ofNat i)) = some (.ptr l (off + i * sz))) : XS tt R (x_ia tt ty sz a b) (.indexAddr ty x y) := fun C Ce env e H k r hq h hr => by
  have h : ifB (Nat.beq (a e).t 4) (natW (b e) .bad fun x' => ifB (Nat.beq (a e).q sz) (ifB (Nat.blt x' (a e).z) (forceN (Nat.add (a e).y (Nat.mul x' sz)) fun o => k ⟨.undef, 0, 0, 0, o, (a e).x, 2⟩ H) .bad) .bad) (slowB (indexAddrF tt ty (a e).rv (b e).rv) H k) = r := h
  rcases ifB_of h with ⟨h1, h⟩ | ⟨_, h⟩
  · rcases natW_ok h with ⟨q, e2, h⟩ | h
    · rcases ifB_of h with ⟨h3, h⟩ | ⟨_, h⟩
      · rcases ifB_of h with ⟨h4, h⟩ | ⟨_, h⟩
        · rw [forceN_eq] at h
          rw [Nat.blt_eq] at h4
          refine ⟨_, H, ?_, h⟩
          simp only [opV, ev2, ha _ _ hq, hb _ _ hq, onOpt_some, rv_sl (nbeq.1 h1), e2, nbeq.1 h3, hf _ _ _ _ _ _ h4]
          rfl
        · exact absurd h.symm hr
      · exact absurd h.symm hr
    · exact absurd h.symm hr
  · obtain ⟨w, h1, h2⟩ := slowB_ok h hr
    rw [indexAddrF_eq] at h1
    exact ⟨w, H, by simp only [opV, ev2, ha _ _ hq, hb _ _ hq, onOpt_some, h1]; rfl, h2⟩
noncomputable def x_iaG (tt : T RTI) (ty : TypeId) (a b : XV F) : XO F := fun _ e H k => slowB (indexAddrF tt ty (a e).rv (b e).rv) H k
theorem x_iaG_ok (ha : OpOk R a x) (hb : OpOk R b y) (ty : TypeId) : XS tt R (x_iaG tt ty a b) (.indexAddr ty x y) := fun C Ce env e H k r hq h hr => by
  obtain ⟨w, h1, h2⟩ := slowB_ok h hr
  rw [indexAddrF_eq] at h1
  exact ⟨w, H, by simp only [opV, ev2, ha _ _ hq, hb _ _ hq, onOpt_some, h1]; rfl, h2⟩

/-! ### Texts -/
noncomputable def x_idxS (a b : XV F) : XO F := fun _ e H k => one 3 (a e) .bad fun x y => natW (b e) .bad fun x' => ifB (Nat.blt x' x) (forceN (Nat.mod (Nat.shiftRight y (Nat.mul 8 x')) 256) fun c => k ⟨.undef, 0, 0, 0, 0, c, 12⟩ H) .bad
theorem x_idxS_ok (ha : OpOk R a x) (hb : OpOk R b y) {ty : TypeId} (hty : ∃ ti, tt.get ty = some ti ∧ ti.d = .str) : XS tt R (x_idxS a b) (.index ty x y) := fun C Ce env e H k r hq h hr => by
  rcases one_ok h with ⟨h1, h⟩ | h
  · rcases natW_ok h with ⟨q, e2, h⟩ | h
    · rcases ifB_of h with ⟨h3, h⟩ | ⟨_, h⟩
      · rw [forceN_eq] at h
        obtain ⟨ti, g1, g2⟩ := hty
        refine ⟨_, H, ?_, h⟩
        simp only [opV, ev2, ha _ _ hq, hb _ _ hq, onOpt_some, rv_str h1, e2]
        have e3 : indexV tt ty (.str ⟨(a e).x, (a e).y⟩) (.int q (.ofNat (b e).x)) = some (.int .u8 (.ofNat (Nat.mod (Nat.shiftRight (a e).y (Nat.mul 8 (b e).x)) 256))) := by
          unfold indexV
          rw [tyK_at g1]
          simp only [g2]
          show ifB (Nat.blt (b e).x (a e).x) (forceN _ _) none = _
          rw [h3, ifB_true, forceN_eq]
        rw [e3]
        rfl
      · exact absurd h.symm hr
    · exact absurd h.symm hr
  · exact absurd h.symm hr
noncomputable def x_idxG (tt : T RTI) (ty : TypeId) (a b : XV F) : XO F := fun _ e H k => slowB (indexF tt ty (a e).rv (b e).rv) H k
theorem x_idxG_ok (ha : OpOk R a x) (hb : OpOk R b y) (ty : TypeId) : XS tt R (x_idxG tt ty a b) (.index ty x y) := fun C Ce env e H k r hq h hr => by
  obtain ⟨w, h1, h2⟩ := slowB_ok h hr
  rw [indexF_eq] at h1
  exact ⟨w, H, by simp only [opV, ev2, ha _ _ hq, hb _ _ hq, onOpt_some, h1]; rfl, h2⟩

/-- A bound. -/
noncomputable def bnd (o : Option (XV F)) (e : F) (dflt top : Nat) (k : Nat → OQ) : OQ :=
  @Option.rec (XV F) (fun _ => OQ) (k dflt) (fun a => natW (a e) .bad fun x => ifB (Nat.ble x top) (k x) .bad) o
def OptOk (R : T RV → F → Prop) (a : Option (XV F)) (x : Option Operand) : Prop :=
  match a, x with
  | none, none => True
  | some a, some x => OpOk R a x
  | _, _ => False
theorem bnd_ok {o : Option (XV F)} {ox : Option Operand} (ho : OptOk R o ox) (hq : R env e) {dflt top : Nat} {k : Nat → OQ} (h : bnd o e dflt top k = r) (hr : r ≠ .bad) :
    ∃ (m : Nat) (v : Option RV), k m = r ∧ optEv env ox = some v ∧ (∀ {β : Type} (d : β) (kk : Nat → β), boundK v dflt top d kk = kk m) := by
  cases o with
  | none =>
    cases ox with
    | some _ => exact ho.elim
    | none => exact ⟨dflt, none, h, rfl, fun d kk => rfl⟩
  | some a =>
    cases ox with
    | none => exact ho.elim
    | some x =>
      have ho : OpOk R a x := ho
      have h : natW (a e) .bad (fun x => ifB (Nat.ble x top) (k x) .bad) = r := h
      rcases natW_ok h with ⟨q, e2, h⟩ | h
      · rcases ifB_of h with ⟨h2, h⟩ | ⟨_, h⟩
        · refine ⟨(a e).x, some (.int q (.ofNat (a e).x)), h, ?_, fun d kk => ?_⟩
          · simp only [optEv, onOpt_some, ho _ _ hq, e2]
          · simp only [boundK, onOpt_some]
            show ifB (Nat.ble (a e).x top) (kk (a e).x) d = _
            rw [h2, ifB_true]
        · exact absurd h.symm hr
      · exact absurd h.symm hr
noncomputable def x_slS (a : XV F) (lo hi : Option (XV F)) : XO F := fun _ e H k => one 3 (a e) .bad fun x y => bnd hi e x x fun h => bnd lo e 0 h fun l =>
  forceN (Nat.sub h l) fun m => forceN (Nat.mod (Nat.shiftRight y (Nat.mul 8 l)) (Nat.pow 256 m)) fun c => k ⟨.undef, 0, 0, 0, c, m, 3⟩ H
theorem x_slS_ok (ha : OpOk R a x) {lo hi : Option (XV F)} {xl xh : Option Operand} (hl : OptOk R lo xl) (hh : OptOk R hi xh) {ty : TypeId} (hty : ∃ ti, tt.get ty = some ti ∧ ti.d = .str) : XS tt R (x_slS a lo hi) (.slice ty x xl xh none) := fun C Ce env e H k r hq h hr => by
  rcases one_ok h with ⟨h1, h⟩ | h
  · obtain ⟨mh, vh, h, e1, e2⟩ := bnd_ok hh hq h hr
    obtain ⟨ml, vl, h, e3, e4⟩ := bnd_ok hl hq h hr
    rw [forceN_eq, forceN_eq] at h
    obtain ⟨ti, g1, g2⟩ := hty
    refine ⟨_, H, ?_, h⟩
    simp only [opV, sliceO, ev1, ha _ _ hq, onOpt_some, e1, e3, rv_str h1]
    have e5 : sliceV tt ty (.str ⟨(a e).x, (a e).y⟩) vl vh = some (.str ⟨Nat.sub mh ml, Nat.mod (Nat.shiftRight (a e).y (Nat.mul 8 ml)) (Nat.pow 256 (Nat.sub mh ml))⟩) := by
      unfold sliceV
      rw [tyK_at g1]
      simp only [g2]
      rw [e2, e4]
      unfold cutK
      rw [forceN_eq, forceN_eq]
    rw [e5]
    rfl
  · exact absurd h.symm hr
noncomputable def x_slG (tt : T RTI) (ty : TypeId) (a : XV F) (lo hi : Option (XV F)) : XO F := fun _ e H k => slowB (sliceF tt ty (a e).rv (@Option.rec (XV F) (fun _ => Option RV) none (fun l => some (l e).rv) lo) (@Option.rec (XV F) (fun _ => Option RV) none (fun l => some (l e).rv) hi)) H k
theorem optEv_ok {o : Option (XV F)} {ox : Option Operand} (ho : OptOk R o ox) (hq : R env e) : optEv env ox = some (@Option.rec (XV F) (fun _ => Option RV) none (fun l => some (l e).rv) o) := by
  cases o with
  | none =>
    cases ox with
    | some _ => exact ho.elim
    | none => rfl
  | some a =>
    cases ox with
    | none => exact ho.elim
    | some x =>
      have ho : OpOk R a x := ho
      simp only [optEv, onOpt_some, ho _ _ hq]
theorem x_slG_ok (ha : OpOk R a x) {lo hi : Option (XV F)} {xl xh : Option Operand} (hl : OptOk R lo xl) (hh : OptOk R hi xh) (ty : TypeId) : XS tt R (x_slG tt ty a lo hi) (.slice ty x xl xh none) := fun C Ce env e H k r hq h hr => by
  obtain ⟨w, h1, h2⟩ := slowB_ok h hr
  rw [sliceF_eq] at h1
  refine ⟨w, H, ?_, h2⟩
  simp only [opV, sliceO, ev1, ha _ _ hq, onOpt_some, optEv_ok hl hq, optEv_ok hh hq, h1]
  rfl

/-! ### Memory -/
noncomputable def loadP (ti : RTI) (H : HT) (l off : Nat) : Option RV := readK H l none fun n t => ifB (Nat.ble (Nat.add off ti.sz) n) (ifB ti.agg (getsK t ti.sz off none fun r => some (.agg r)) (t.get off)) none
theorem loadP_eq (ti : RTI) (H : HT) (l off : Nat) : loadP ti H l off = loadV ti H (.ptr l off) := rfl
noncomputable def x_ld (ti : RTI) (a : XV F) : XO F := fun _ e H k => one 2 (a e) .bad fun x y => slowB (loadP ti H x y) H k
theorem x_ld_ok (ha : OpOk R a x) {ty : TypeId} {ti : RTI} (hti : tt.get ty = some ti) : XS tt R (x_ld ti a) (.load ty x) := fun C Ce env e H k r hq h hr => by
  rcases one_ok h with ⟨h1, h⟩ | h
  · obtain ⟨w, h2, h3⟩ := slowB_ok h hr
    rw [loadP_eq] at h2
    refine ⟨w, H, ?_, h3⟩
    simp only [opV, ev1, ha _ _ hq, onOpt_some, rv_ptr h1, loadO, tyK_at hti, h2]
    rfl
  · exact absurd h.symm hr
/-- A word of one cell is stored. -/
noncomputable def x_st (ti : RTI) (a b : XV F) : XO F := fun _ e H k => one 2 (a e) .bad fun x y => @W.rec (fun _ => OQ) (fun v p q z y' x' t => ifB (Nat.beq t 0) (genK (storeV ti H (.ptr x y) v) k)
  (ifB (Nat.beq ti.sz 1) (W.rvK ⟨v, p, q, z, y', x', t⟩ fun v => writeK H x .bad fun g n tr => ifB (Nat.ble (Nat.add y 1) n) (T.setK tr y v fun tr => HT.setK H x (.cells g n tr) fun H => k wUn H) .bad) .bad)) (b e)
theorem rv_scalar {w : W} (h : w.t ≠ 0) : w.rv.ok1 = true ∧ w.rv.cells = [w.rv] := by
  obtain ⟨v, p, q, z, y, x, t⟩ := w
  have hb : Nat.beq t 0 = false := by
    cases hb : Nat.beq t 0 with
    | false => rfl
    | true => exact absurd (nbeq.1 hb) h
  have e : (⟨v, p, q, z, y, x, t⟩ : W).rv = ifB (Nat.ble 8 t) (onOpt (kindT t) (.bool false) fun k => .int k (.ofNat x)) (ifB (Nat.beq t 0) v (ifB (Nat.beq t 3) (.str ⟨x, y⟩) (ifB (Nat.beq t 2) (.ptr x y) (ifB (Nat.beq t 1) (.bool (Nat.beq x 1)) (ifB (Nat.beq t 4) (.sl x y z q (capO p)) (.bool false)))))) := rfl
  rw [e, hb]
  cases Nat.ble 8 t
  · cases Nat.beq t 3
    · cases Nat.beq t 2
      · cases Nat.beq t 1
        · cases Nat.beq t 4 <;> exact ⟨rfl, rfl⟩
        · exact ⟨rfl, rfl⟩
      · exact ⟨rfl, rfl⟩
    · exact ⟨rfl, rfl⟩
  · cases kindT t <;> exact ⟨rfl, rfl⟩
theorem x_st_ok (ha : OpOk R a x) (hb : OpOk R b y) {ty : TypeId} {ti : RTI} (hti : tt.get ty = some ti) : XS tt R (x_st ti a b) (.store ty x y) := fun C Ce env e H k r hq h hr => by
  rcases one_ok h with ⟨h1, h⟩ | h
  · have e0 : opV tt Ce env H (.store ty x y) = storeV ti H (.ptr (a e).x (a e).y) (b e).rv := by
      simp only [opV, ev2, ha _ _ hq, hb _ _ hq, onOpt_some, rv_ptr h1, storeO, tyK_at hti]
    have h : ifB (Nat.beq (b e).t 0) (genK (storeV ti H (.ptr (a e).x (a e).y) (b e).v) k)
      (ifB (Nat.beq ti.sz 1) (W.rvK (b e) fun v => writeK H (a e).x .bad fun g n tr => ifB (Nat.ble (Nat.add (a e).y 1) n) (T.setK tr (a e).y v fun tr => HT.setK H (a e).x (.cells g n tr) fun H => k wUn H) .bad) .bad) = r := h
    rcases ifB_of h with ⟨h2, h⟩ | ⟨h2, h⟩
    · have e1 : (b e).rv = (b e).v := by
        have := nbeq.1 h2
        generalize b e = w at this
        obtain ⟨v, p, q, z, y, x, t⟩ := w
        simp only at this; subst this; rfl
      rw [← e1] at h
      obtain ⟨w, H', h3, h4⟩ := genK_ok h hr
      exact ⟨w, H', by rw [e0, h3], h4⟩
    · rcases ifB_of h with ⟨h3, h⟩ | ⟨_, h⟩
      · rw [W.rvK_eq] at h
        obtain ⟨s1, s2⟩ := rv_scalar (w := b e) (fun h0 => by rw [h0] at h2; simp at h2)
        have hsz := nbeq.1 h3
        unfold writeK at h
        cases hg : H.get (a e).x with
        | none => rw [hg] at h; exact absurd h.symm hr
        | some o =>
          rw [hg, onOpt_some] at h
          cases o
          case cells g m tr =>
            simp only at h
            rcases ifB_of h with ⟨h4, h⟩ | ⟨_, h⟩
            · rw [T.setK_put] at h
              unfold HT.setK at h
              rw [TQ.setK_put] at h
              refine ⟨wUn, _, ?_, h⟩
              rw [e0]
              simp only [storeV, writeK, hg, onOpt_some, s1, s2, ifB_true]
              have e4 : Nat.beq (lenL [(b e).rv]) ti.sz = true := by rw [hsz]; rfl
              have e5 : Nat.ble (Nat.add (a e).y ti.sz) m = true := by rw [hsz]; exact h4
              rw [e4, e5, ifB_true, ifB_true]
              show T.setK tr (a e).y (b e).rv (fun t => HT.setK H (a e).x (.cells g m t) fun H => OR.ok .undef H) = _
              rw [T.setK_put]
              unfold HT.setK
              rw [TQ.setK_put]
              rfl
            · exact absurd h.symm hr
          all_goals exact absurd h.symm hr
      · exact absurd h.symm hr
  · exact absurd h.symm hr

/-! ### The rest -/
noncomputable def x_pick (c a b : XV F) : XO F := fun _ e H k => one 1 (c e) .bad fun x _ => ifB (Nat.beq x 1) (forceW (a e) fun w => k w H) (forceW (b e) fun w => k w H)
theorem x_pick_ok (hc : OpOk R c z) (ha : OpOk R a x) (hb : OpOk R b y) : XS tt R (x_pick c a b) (.pick z x y) := fun C Ce env e H k r hq h hr => by
  rcases one_ok h with ⟨h1, h⟩ | h
  · have e1 : opV tt Ce env H (.pick z x y) = okV (some (ifB (Nat.beq (c e).x 1) (a e).rv (b e).rv)) H := by
      simp only [opV, ev3, hc _ _ hq, ha _ _ hq, hb _ _ hq, onOpt_some, rv_bool h1, pickV]
    rcases ifB_of h with ⟨h3, h⟩ | ⟨h3, h⟩
    · exact ⟨a e, H, by rw [e1, h3]; rfl, h⟩
    · exact ⟨b e, H, by rw [e1, h3]; rfl, h⟩
  · exact absurd h.symm hr
noncomputable def x_ext (i : Nat) (a : XV F) : XO F := fun _ e H k => slowB (extractV (a e).rv i) H k
theorem x_ext_ok (ha : OpOk R a x) (i : Nat) : XS tt R (x_ext i a) (.extract x i) := fun C Ce env e H k r hq h hr => by
  obtain ⟨w, h1, h2⟩ := slowB_ok h hr
  exact ⟨w, H, by simp only [opV, ev1, ha _ _ hq, onOpt_some, h1]; rfl, h2⟩
noncomputable def x_nc (a : XV F) : XO F := fun _ e H k => slowB (nilV (a e).rv) H k
theorem x_nc_ok (ha : OpOk R a x) : XS tt R (x_nc a) (.nilCheck x) := fun C Ce env e H k r hq h hr => by
  obtain ⟨w, h1, h2⟩ := slowB_ok h hr
  exact ⟨w, H, by simp only [opV, ev1, ha _ _ hq, onOpt_some, h1]; rfl, h2⟩
noncomputable def x_al (g : Nat) (z : List RV) : XO F := fun _ _ H k => newCells H g z fun l H => k ⟨.undef, 0, 0, 0, 0, l, 2⟩ H
theorem newCells_eq {β : Type} (H : HT) (g : Nat) (z : List RV) (k : Nat → HT → β) : ∃ l H', newCells H g z k = k l H' ∧ ∀ {γ : Type} (kk : Nat → HT → γ), newCells H g z kk = kk l H' := by
  obtain ⟨t, h1⟩ : ∃ t : T RV, ∀ {γ : Type} (kk : T RV → γ), setsK z .e 0 kk = kk t := by
    have : ∀ (z : List RV) (t0 : T RV) (off : Nat), ∃ t : T RV, ∀ {γ : Type} (kk : T RV → γ), setsK z t0 off kk = kk t := by
      intro z
      induction z with
      | nil => exact fun t0 off => ⟨t0, fun kk => rfl⟩
      | cons v z ih =>
        intro t0 off
        obtain ⟨t, ht⟩ := ih (T.put (paN off) v t0) (off + 1)
        refine ⟨t, fun kk => ?_⟩
        show T.setK t0 off v (fun t => setsK z t (Nat.succ off) kk) = _
        rw [T.setK_put]
        exact ht kk
    exact this z .e 0
  refine ⟨H.sz, ⟨Nat.succ H.sz, TQ.put H.sz (.cells g (lenL z) t) H.t⟩, ?_, fun kk => ?_⟩ <;>
  · unfold newCells HT.newK
    rw [h1, forceN_eq, forceN_eq, TQ.setK_put]
theorem x_al_ok {ty : TypeId} {ti : RTI} {zs : List RV} (hti : tt.get ty = some ti) (hz : ti.z = some zs) : XS tt R (x_al (Nat.succ ty) zs) (.alloc ty) := fun C Ce env e H k r hq h hr => by
  have h : newCells H (Nat.succ ty) zs (fun l H => k ⟨.undef, 0, 0, 0, 0, l, 2⟩ H) = r := h
  obtain ⟨l, H', h1, h2⟩ := newCells_eq H (Nat.succ ty) zs (fun l H => k ⟨.undef, 0, 0, 0, 0, l, 2⟩ H)
  rw [h1] at h
  refine ⟨_, H', ?_, h⟩
  simp only [opV, allocO, tyK_at hti, hz, onOpt_some, allocV]
  rw [h2]
  rfl
noncomputable def x_lenS (a : XV F) : XO F := fun _ e H k => one 3 (a e) .bad fun x _ => k ⟨.undef, 0, 0, 0, 0, x, 11⟩ H
theorem len_opV (ha : OpOk R a x) (hq : R env e) (ty : TypeId) (H : HT) : opV tt Ce env H (.call ⟨.builtin .len, #[x], #[ty]⟩) = okV (lenV tt H ty (a e).rv) H := by
  have h1 : evs env [x] = some [(a e).rv] := by simp only [evs, ha _ _ hq, onOpt_some]
  show onOpt (evs env [x]) OR.bad _ = _
  rw [h1, onOpt_some]
  rfl
theorem x_lenS_ok (ha : OpOk R a x) {ty : TypeId} (hty : ∃ ti, tt.get ty = some ti ∧ ti.d = .str) : XS tt R (x_lenS a) (.call ⟨.builtin .len, #[x], #[ty]⟩) := fun C Ce env e H k r hq h hr => by
  rcases one_ok h with ⟨h1, h⟩ | h
  · obtain ⟨ti, g1, g2⟩ := hty
    refine ⟨_, H, ?_, h⟩
    rw [len_opV ha hq, rv_str h1]
    unfold lenV
    rw [tyK_at g1]
    simp only [g2]
    rfl
  · exact absurd h.symm hr
noncomputable def x_lenL (tt : T RTI) (ty : TypeId) (a : XV F) : XO F := fun _ e H k =>
  @W.rec (fun _ => OQ) (fun _ _ _ z _ _ t => ifB (Nat.beq t 4) (k ⟨.undef, 0, 0, 0, 0, z, 11⟩ H) (slowB (lenF tt H ty (a e).rv) H k)) (a e)
theorem x_lenL_ok (ha : OpOk R a x) {ty : TypeId} (hty : ∃ ti el, tt.get ty = some ti ∧ ti.d = .sl el) : XS tt R (x_lenL tt ty a) (.call ⟨.builtin .len, #[x], #[ty]⟩) := fun C Ce env e H k r hq h hr => by
  have h : ifB (Nat.beq (a e).t 4) (k ⟨.undef, 0, 0, 0, 0, (a e).z, 11⟩ H) (slowB (lenF tt H ty (a e).rv) H k) = r := h
  rcases ifB_of h with ⟨h1, h⟩ | ⟨_, h⟩
  · obtain ⟨ti, el, g1, g2⟩ := hty
    refine ⟨_, H, ?_, h⟩
    rw [len_opV ha hq, rv_sl (nbeq.1 h1)]
    unfold lenV
    rw [tyK_at g1]
    simp only [g2]
    rfl
  · obtain ⟨w, h1, h2⟩ := slowB_ok h hr
    rw [lenF_eq] at h1
    exact ⟨w, H, by rw [len_opV ha hq, h1]; rfl, h2⟩
noncomputable def x_cv (tt : T RTI) (s d : TypeId) (T M : Nat) (a : XV F) : XO F := fun _ e H k => natW (a e) (genK (convertF tt H s d (a e).rv) k) fun x => ifB (Nat.ble x M) (k ⟨.undef, 0, 0, 0, 0, x, T⟩ H) (genK (convertF tt H s d (a e).rv) k)
theorem x_cv_ok (ha : OpOk R a x) {s d : TypeId} {q0 q : IntKind} (hs : ∃ ti, tt.get s = some ti ∧ ti.d = .int q0) (hd : ∃ ti, tt.get d = some ti ∧ ti.d = .int q) : XS tt R (x_cv tt s d (kindI q) (maxP q) a) (.convert s d x) := fun C Ce env e H k r hq h hr => by
  have e0 : opV tt Ce env H (.convert s d x) = convertF tt H s d (a e).rv := by simp only [opV, ev1, ha _ _ hq, onOpt_some, convertF_eq]
  have slow : genK (convertF tt H s d (a e).rv) k = r → ∃ (w : W) (H' : HT), opV tt Ce env H (.convert s d x) = .ok w.rv H' ∧ k w H' = r := fun h => by
    obtain ⟨w, H', h1, h2⟩ := genK_ok h hr
    exact ⟨w, H', by rw [e0, h1], h2⟩
  rcases natW_ok h with ⟨q1, e2, h⟩ | h
  · rcases ifB_of h with ⟨h3, h⟩ | ⟨_, h⟩
    · obtain ⟨ti, g1, g2⟩ := hs
      obtain ⟨tj, g3, g4⟩ := hd
      refine ⟨_, H, ?_, h⟩
      rw [e0, e2, rv_u]
      unfold convertF
      rw [tyK_at g1, tyK_at g3, g2, g4]
      show forceI (wr q (.ofNat (a e).x)) (fun n => OR.ok (.int q n) H) = _
      rw [forceI_eq, wr_nat h3]
    · exact slow h
  · exact slow h

/-! ### Whatever is there -/
/-- A part of the frame as a tree. -/
noncomputable def bldE {β : Type} (rd : List (Nat × XV F)) (e : F) : T RV → (T RV → β) → β :=
  @List.rec (Nat × XV F) (fun _ => T RV → (T RV → β) → β) (fun env k => k env) (fun p _ ih env k => (p.2 e).rvK fun v => T.setK env p.1 v fun env => ih env k) rd
noncomputable def bldT (rd : List (Nat × XV F)) (e : F) : T RV → T RV := fun env => match rd with
  | [] => env
  | p :: r => bldT r e (T.put (paN p.1) (p.2 e).rv env)
theorem bldE_eq {β : Type} (e : F) : ∀ (rd : List (Nat × XV F)) (env : T RV) (k : T RV → β), bldE rd e env k = k (bldT rd e env)
  | [], env, k => by unfold bldT; rfl
  | p :: r, env, k => by
    show (p.2 e).rvK (fun v => T.setK env p.1 v fun env => bldE r e env k) = _
    rw [W.rvK_eq, T.setK_put, bldE_eq e r]
    rw [bldT]
def RdOk (env : T RV) (e : F) (rd : List (Nat × XV F)) : Prop := ∀ p ∈ rd, env.get p.1 = some (p.2 e).rv
theorem bldT_get : ∀ {rd : List (Nat × XV F)} {env1 : T RV}, RdOk env e rd → (∀ t v, env1.get t = some v → env.get t = some v) → (∀ t v, (bldT rd e env1).get t = some v → env.get t = some v) ∧ (∀ t v, env1.get t = some v → (bldT rd e env1).get t = some v) ∧ ∀ p ∈ rd, (bldT rd e env1).get p.1 = env.get p.1
  | [], env1, _, h => ⟨by rw [bldT]; exact h, fun t v hv => by rw [bldT]; exact hv, fun p hp => by simp at hp⟩
  | p :: r, env1, hr, h => by
    have hp := hr p (by simp)
    have h' : ∀ t v, (T.put (paN p.1) (p.2 e).rv env1).get t = some v → env.get t = some v := fun t v hv => by
      rw [T.get_put] at hv
      split at hv
      · rename_i ht; rw [ht, hp]; exact hv
      · exact h t v hv
    obtain ⟨h1, h2, h3⟩ := bldT_get (rd := r) (env1 := T.put (paN p.1) (p.2 e).rv env1) (fun q hq => hr q (by simp [hq])) h'
    have keep : ∀ t v, env1.get t = some v → (T.put (paN p.1) (p.2 e).rv env1).get t = some v := fun t v hv => by
      rw [T.get_put]
      split
      · rename_i ht
        have := h t v hv
        rw [ht, hp] at this
        exact this
      · exact hv
    rw [bldT]
    refine ⟨h1, fun t v hv => h2 t v (keep t v hv), fun q hq => ?_⟩
    rcases List.mem_cons.1 hq with rfl | hq
    · rw [hp]; exact h2 _ _ (by rw [T.get_put, if_pos rfl])
    · exact h3 q hq
end
end Go.Rx

/- Closed runs: threaded code: what an operation looks at; drawn regions on a part of a frame. -/
namespace Go.Rx
section
variable {tt : T RTI} {C : Cee} {H : HT} {e1 e2 : T RV}

theorem evs_congr : ∀ {l : List Operand}, (∀ x ∈ l, ev e1 x = ev e2 x) → evs e1 l = evs e2 l
  | [], _ => rfl
  | x :: l, h => by simp only [evs, h x (by simp), evs_congr (l := l) (fun y hy => h y (by simp [hy]))]
theorem fillV_congr {place : Nat → Option (Nat × RTI)} : ∀ {l : List (Nat × Operand)} {cells : List RV}, (∀ p ∈ l, ev e1 p.2 = ev e2 p.2) → fillV place e1 l cells = fillV place e2 l cells
  | [], _, _ => rfl
  | (i, x) :: l, cells, h => by
    simp only [fillV]
    cases place i with
    | none => rfl
    | some p =>
      simp only [onOpt_some]
      rw [h (i, x) (by simp)]
      cases ev e2 x with
      | none => rfl
      | some v =>
        simp only [onOpt_some]
        have hc : (fun cells => fillV place e1 l cells) = fun cells => fillV place e2 l cells := funext fun cells => fillV_congr (fun p hp => h p (by simp [hp]))
        rw [hc]
theorem optEv_congr {o : Option Operand} (h : ∀ x, o = some x → ev e1 x = ev e2 x) : optEv e1 o = optEv e2 o := by
  cases o with
  | none => rfl
  | some x => simp only [optEv, onOpt_some, h x rfl]
theorem opV_congr {op : Op} (h : ∀ x ∈ op.operands.toList, ev e1 x = ev e2 x) : opV tt C e1 H op = opV tt C e2 H op := by
  cases op
  case move x => simp only [opV, h x (by simp [Op.operands])]
  case assign x => simp only [opV, h x (by simp [Op.operands])]
  case pick c a b => simp only [opV, ev3, h c (by simp [Op.operands]), h a (by simp [Op.operands]), h b (by simp [Op.operands])]
  case box t x => simp only [opV, ev1, h x (by simp [Op.operands])]
  case build t ps =>
    have hp : ∀ p ∈ ps.toList, ev e1 p.2 = ev e2 p.2 := fun p hp => h p.2 (by simp only [Op.operands]; simp; exact ⟨p.1, by simpa using hp⟩)
    simp only [opV, buildV, fillV_congr hp]
  case buildSlice t len ps =>
    have hp : ∀ p ∈ ps.toList, ev e1 p.2 = ev e2 p.2 := fun p hp => h p.2 (by simp only [Op.operands]; simp; exact ⟨p.1, by simpa using hp⟩)
    simp only [opV, buildSliceV, fillV_congr hp]
  case insert t m k x => simp only [opV, ev3, h m (by simp [Op.operands]), h k (by simp [Op.operands]), h x (by simp [Op.operands])]
  case load t x => simp only [opV, ev1, h x (by simp [Op.operands])]
  case store t x y => simp only [opV, ev2, h x (by simp [Op.operands]), h y (by simp [Op.operands])]
  case nilCheck x => simp only [opV, ev1, h x (by simp [Op.operands])]
  case binOp op t x y yt => simp only [opV, ev2, h x (by simp [Op.operands]), h y (by simp [Op.operands])]
  case unOp op t x => simp only [opV, ev1, h x (by simp [Op.operands])]
  case convert s d x => simp only [opV, ev1, h x (by simp [Op.operands])]
  case makeFunc fn first cap =>
    simp only [opV, makeFuncO]
    split
    · rename_i hf
      rw [evs_congr (e1 := e1) (e2 := e2) (l := cap.toList) (fun x hx => h x (by simp only [Op.operands]; simp; exact .inr (by simpa using hx)))]
    · rfl
  case makeMap t r =>
    cases r with
    | none => rfl
    | some x => simp only [opV, makeMapR, ev1, h x (by simp [Op.operands])]
  case makeSlice t l c => simp only [opV, ev2, h l (by simp [Op.operands]), h c (by simp [Op.operands])]
  case slice t x lo hi mx =>
    cases mx with
    | some m => rfl
    | none => simp only [opV, sliceO, ev1, h x (by simp [Op.operands]), optEv_congr (e1 := e1) (e2 := e2) (o := lo) (fun y hy => h y (by subst hy; simp [Op.operands])), optEv_congr (e1 := e1) (e2 := e2) (o := hi) (fun y hy => h y (by subst hy; simp [Op.operands]))]
  case fieldAddr t x f => simp only [opV, ev1, h x (by simp [Op.operands])]
  case field t x f => simp only [opV, ev1, h x (by simp [Op.operands])]
  case indexAddr t x i => simp only [opV, ev2, h x (by simp [Op.operands]), h i (by simp [Op.operands])]
  case index t x i => simp only [opV, ev2, h x (by simp [Op.operands]), h i (by simp [Op.operands])]
  case lookup t x i ok => simp only [opV, ev2, h x (by simp [Op.operands]), h i (by simp [Op.operands])]
  case mapUpdate t m k x => simp only [opV, ev3, h m (by simp [Op.operands]), h k (by simp [Op.operands]), h x (by simp [Op.operands])]
  case mapEntry t m k => simp only [opV, ev2, h m (by simp [Op.operands]), h k (by simp [Op.operands])]
  case entryStore t m k x => simp only [opV, ev3, h m (by simp [Op.operands]), h k (by simp [Op.operands]), h x (by simp [Op.operands])]
  case extract x i => simp only [opV, ev1, h x (by simp [Op.operands])]
  case range t x => simp only [opV, ev1, h x (by simp [Op.operands])]
  case next x s => simp only [opV, ev1, h x (by simp [Op.operands])]
  case entry x => simp only [opV, ev1, h x (by simp [Op.operands])]
  case call c =>
    obtain ⟨ce, args, ts⟩ := c
    cases ce with
    | builtin b =>
      have ha : evs e1 args.toList = evs e2 args.toList := evs_congr (fun x hx => h x (by simp only [Op.operands, Call.operands]; simp; simpa using hx))
      simp only [opV, ha]
    | value f =>
      have ha : evs e1 args.toList = evs e2 args.toList := evs_congr (fun x hx => h x (by simp only [Op.operands, Call.operands]; simp; exact .inr (by simpa using hx)))
      have hf : ev e1 f = ev e2 f := h f (by simp [Op.operands, Call.operands])
      simp only [opV, callV, hf, ha]
    | invoke r m => rfl
  all_goals rfl

/-! ### A drawn region on a part of a frame -/
def Agree (L : List Nat) (e1 e2 : T RV) : Prop := ∀ t, t ∈ L → e1.get t = e2.get t
/-- All slots of the region. -/
noncomputable def slotsO (ops : List Oper) (o : Oper) : List Nat := (match o.dst with | some d => [d] | none => []) ++ o.op.operands.toList.filterMap fun x => match x with | .tmp t => some t | _ => none
noncomputable def slotsR (ops : List Oper) : List Nat := ops.flatMap (slotsO ops)

variable {L : List Nat} {ops : List Oper} {n : Nat}
theorem Agree.put (h : Agree L e1 e2) (d : Nat) (v : RV) : Agree L (T.put (paN d) v e1) (T.put (paN d) v e2) := fun t ht => by
  rw [T.get_put, T.get_put, h t ht]
theorem Agree.ev {o : Oper} (h : Agree L e1 e2) (hL : ∀ t ∈ slotsO ops o, t ∈ L) : ∀ x ∈ o.op.operands.toList, ev e1 x = ev e2 x := fun x hx => by
  cases x with
  | tmp t =>
    refine h t (hL t (List.mem_append.2 (.inr ?_)))
    rw [List.mem_filterMap]
    exact ⟨.tmp t, hx, rfl⟩
  | const v => rfl
  | func f => rfl
  | global g => rfl
theorem Agree.want {o : Oper} (h : Agree L e1 e2) (hL : ∀ o ∈ ops, ∀ t ∈ slotsO ops o, t ∈ L) : wantV ops e1 o = wantV ops e2 o := by
  unfold wantV
  cases o.guard with
  | none => rfl
  | some g =>
    obtain ⟨j, want⟩ := g
    simp only
    rw [nthL_eq]
    cases hj : ops[j]? with
    | none => rfl
    | some oj =>
      simp only [onOpt_some]
      cases hd : oj.dst with
      | none => rfl
      | some t =>
        simp only [onOpt_some]
        rw [h t (hL oj (List.mem_of_getElem? hj) t (by unfold slotsO; rw [hd]; simp))]

/-- The two runs go alike; what is no destination stays. -/
theorem runD_congr (hL : ∀ o ∈ ops, ∀ t ∈ slotsO ops o, t ∈ L) : ∀ {rest : List Oper} {ids : List Nat} {e1 e2 : T RV} {H : HT}, (∀ o ∈ rest, o ∈ ops) → Agree L e1 e2 →
    (∃ f1 f2 Ms, runD tt C n ops rest ids e1 H = .ok f1 Ms ∧ runD tt C n ops rest ids e2 H = .ok f2 Ms ∧ Agree L f1 f2 ∧ ∀ t, (∀ o ∈ rest, o.dst ≠ some t) → f1.get t = e1.get t) ∨ (runD tt C n ops rest ids e1 H = .bad ∧ runD tt C n ops rest ids e2 H = .bad)
  | [], ids, e1, e2, H, _, h => .inl ⟨e1, e2, [H], rfl, rfl, h, fun _ _ => rfl⟩
  | o :: r, [], e1, e2, H, _, h => .inr ⟨rfl, rfl⟩
  | o :: r, id :: ids, e1, e2, H, hr, h => by
    have ho := hr o (by simp)
    have hr' : ∀ o ∈ r, o ∈ ops := fun x hx => hr x (by simp [hx])
    simp only [runD]
    rw [h.want hL]
    cases wantV ops e2 o with
    | none => exact .inr ⟨rfl, rfl⟩
    | some b =>
      simp only [onOpt_some]
      have lay : ∀ (v : RV) (H1 : HT) (g : DOut → DOut), (g = (fun x => x) ∨ ∃ b, g = consM H b) →
          (∃ f1 f2 Ms, (putV n e1 o.dst v DOut.bad fun env => g (runD tt C n ops r ids env H1)) = .ok f1 Ms ∧ (putV n e2 o.dst v DOut.bad fun env => g (runD tt C n ops r ids env H1)) = .ok f2 Ms ∧ Agree L f1 f2 ∧ ∀ t, (∀ o' ∈ o :: r, o'.dst ≠ some t) → f1.get t = e1.get t) ∨
          ((putV n e1 o.dst v DOut.bad fun env => g (runD tt C n ops r ids env H1)) = .bad ∧ (putV n e2 o.dst v DOut.bad fun env => g (runD tt C n ops r ids env H1)) = .bad) := by
        intro v H1 g hg
        have step : ∀ (a1 a2 : T RV), Agree L a1 a2 → (∀ t, o.dst ≠ some t → a1.get t = e1.get t) →
            (∃ f1 f2 Ms, g (runD tt C n ops r ids a1 H1) = .ok f1 Ms ∧ g (runD tt C n ops r ids a2 H1) = .ok f2 Ms ∧ Agree L f1 f2 ∧ ∀ t, (∀ o' ∈ o :: r, o'.dst ≠ some t) → f1.get t = e1.get t) ∨
            (g (runD tt C n ops r ids a1 H1) = .bad ∧ g (runD tt C n ops r ids a2 H1) = .bad) := by
          intro a1 a2 ha hk
          rcases runD_congr hL (rest := r) (ids := ids) (e1 := a1) (e2 := a2) (H := H1) hr' ha with ⟨f1, f2, Ms, q1, q2, q3, q4⟩ | ⟨q1, q2⟩
          · have fin : ∀ t, (∀ o' ∈ o :: r, o'.dst ≠ some t) → f1.get t = e1.get t := fun t ht => by
              rw [q4 t (fun o' ho' => ht o' (by simp [ho'])), hk t (ht o (by simp))]
            rcases hg with rfl | ⟨b, rfl⟩
            · exact .inl ⟨f1, f2, Ms, q1, q2, q3, fin⟩
            · exact .inl ⟨f1, f2, _, by rw [q1]; rfl, by rw [q2]; rfl, q3, fin⟩
          · rcases hg with rfl | ⟨b, rfl⟩
            · exact .inr ⟨q1, q2⟩
            · exact .inr ⟨by rw [q1]; rfl, by rw [q2]; rfl⟩
        unfold putV
        cases hd : o.dst with
        | none => exact step e1 e2 h (fun _ _ => rfl)
        | some d =>
          simp only
          rw [ifB_eq, ifB_eq]
          split
          · rw [T.setK_put, T.setK_put]
            refine step _ _ (h.put d v) fun t ht => ?_
            rw [T.get_put]
            rw [if_neg (fun e => ht (by rw [hd, e]))]
          · exact .inr ⟨rfl, rfl⟩
      cases b with
      | false =>
        simp only [ifB_false]
        exact lay .undef H (consM H (isS tt o)) (.inr ⟨_, rfl⟩)
      | true =>
        simp only [ifB_true]
        cases hc : Nat.beq (cls tt o) 2 with
        | true =>
          simp only [ifB_true]
          exact lay (preVal tt o.op id) H (fun x => x) (.inl rfl)
        | false =>
          simp only [ifB_false]
          rw [opV_congr (h.ev (ops := ops) (hL o ho))]
          cases opV tt C e2 H o.op with
          | bad => exact .inr ⟨rfl, rfl⟩
          | ok v H1 => exact lay v H1 (consM H (isS tt o)) (.inr ⟨_, rfl⟩)
theorem chkD_congr (hL : ∀ o ∈ ops, ∀ t ∈ slotsO ops o, t ∈ L) (h : Agree L e1 e2) (ids : List Nat) (Ms : List HT) : ∀ ps : List (Nat × Nat), chkD tt C ops ids e1 Ms ps = chkD tt C ops ids e2 Ms ps
  | [] => rfl
  | (j, t) :: r => by
    simp only [chkD]
    rw [chkD_congr hL h ids Ms r, nthL_eq]
    cases hj : ops[j]? with
    | none => rfl
    | some o =>
      have ho := List.mem_of_getElem? hj
      simp only [onOpt_some]
      cases nthL Ms t with
      | none => rfl
      | some M =>
        simp only [onOpt_some]
        rw [h.want hL, opV_congr (h.ev (ops := ops) (hL o ho))]
        cases hd : o.dst with
        | none => rfl
        | some d => simp only; rw [h d (hL o ho d (by unfold slotsO; rw [hd]; simp))]
theorem drawV_congr (hL : ∀ o ∈ ops, ∀ t ∈ slotsO ops o, t ∈ L) (h : Agree L e1 e2) {f2 : T RV} {H' : HT} (e : drawV tt C n ops e2 H = .nrm f2 H') :
    ∃ f1, drawV tt C n ops e1 H = .nrm f1 H' ∧ Agree L f1 f2 ∧ ∀ t, (∀ o ∈ ops, o.dst ≠ some t) → f1.get t = e1.get t := by
  unfold drawV at e ⊢
  cases hd : drawOk tt ops with
  | false => rw [hd] at e; simp [ifB_false] at e
  | true =>
    rw [hd, ifB_true] at e
    rw [ifB_true]
    cases hp : preV tt ops H with
    | none => rw [hp] at e; simp [onOpt_none] at e
    | some p =>
      rw [hp, onOpt_some] at e
      rw [onOpt_some]
      rcases runD_congr (tt := tt) (C := C) (n := n) hL (rest := ops) (ids := p.1) (e1 := e1) (e2 := e2) (H := p.2) (fun _ h => h) h with ⟨f1, f2', Ms, q1, q2, q3, q4⟩ | ⟨q1, q2⟩
      · rw [q2] at e
        simp only at e
        rw [q1]
        simp only
        rw [chkD_congr hL q3]
        cases hc : chkD tt C ops p.1 f2' Ms (pairsD tt ops) with
        | false => rw [hc] at e; simp [ifB_false] at e
        | true =>
          rw [hc, ifB_true] at e
          rw [ifB_true]
          cases hn : nthL Ms (kS tt ops ops.length) with
          | none => rw [hn] at e; simp [onOpt_none] at e
          | some H2 =>
            rw [hn, onOpt_some] at e
            rw [onOpt_some]
            simp only [Out.nrm.injEq] at e
            obtain ⟨rfl, rfl⟩ := e
            exact ⟨f1, rfl, q3, q4⟩
      · rw [q2] at e; simp at e
end
end Go.Rx

/- Closed runs: threaded code: compiling; what the operations do. -/
namespace Go.Rx

def SoundW (P : Program) (C : Cw) : Prop := ∀ f vs H w H', C f vs H = .ok w H' → CallR P f vs H w.rv H'
noncomputable def retR (o : OW) : OR := @OW.rec (fun _ => OR) (fun w H => w.rvK fun v => .ok v H) .bad o
noncomputable def CRk (C : Cw) : Cee := fun f args H => retR (C f args H)
theorem CRk_ok {C : Cw} {f : FuncId} {vs : List RV} {H H' : HT} {w : W} (h : C f vs H = .ok w H') : CRk C f vs H = .ok w.rv H' := by
  show retR (C f vs H) = _
  rw [h]
  exact W.rvK_eq w (fun v => OR.ok v H')
theorem CRk_sound {P : Program} {C : Cw} (h : SoundW P C) : SoundR P (CRk C) := fun f a H v H' e => by
  have e : retR (C f a H) = .ok v H' := e
  cases hc : C f a H with
  | bad => rw [hc] at e; simp [retR] at e
  | ok w H1 =>
    rw [hc] at e
    have e : (w.rvK fun v => OR.ok v H1) = .ok v H' := e
    rw [W.rvK_eq] at e
    simp only [OR.ok.injEq] at e
    obtain ⟨rfl, rfl⟩ := e
    exact h f a H w H1 hc

/-- What it does, it does as the slower one. -/
def XF {F : Type} (tt : T RTI) (R : T RV → F → Prop) (x : XO F) (op : Op) : Prop := ∀ (C : Cw) (env : T RV) (e : F) (H : HT) (k : XK) (r : OQ), R env e → x C e H k = r → r ≠ .bad →
  ∃ (w : W) (H' : HT), opV tt (CRk C) env H op = .ok w.rv H' ∧ k w H' = r

section
variable {F : Type} {R : T RV → F → Prop} {tt : T RTI} {C : Cw} {env : T RV} {e : F} {H : HT} {k : XK} {r : OQ} {a b c : XV F} {x y z : Operand}
theorem XS.xf {x : XO F} {op : Op} (h : XS tt R x op) : XF tt R x op := fun C env e H k r hq h1 hr => h C (CRk C) env e H k r hq h1 hr
/-- How operands are told; whatever is told is right. -/
abbrev CR (F : Type) := Operand → Option (XV F)
def CrOk (R : T RV → F → Prop) (cr : CR F) : Prop := ∀ x a, cr x = some a → OpOk R a x
variable {cr : CR F}

/-! ### Calls -/
noncomputable def argsK {β : Type} (as : List (XV F)) (e : F) (k : List RV → β) : β := @List.rec (XV F) (fun _ => (List RV → β) → β) (fun k => k []) (fun a _ ih k => (a e).rvK fun v => ih fun r => k (v :: r)) as k
theorem argsK_eq {β : Type} (e : F) : ∀ (as : List (XV F)) (k : List RV → β), argsK as e k = k (as.map fun a => (a e).rv)
  | [], k => rfl
  | a :: as, k => by
    show (a e).rvK (fun v => argsK as e fun r => k (v :: r)) = _
    rw [W.rvK_eq, argsK_eq e as]
    rfl
noncomputable def cOps (cr : CR F) : List Operand → Option (List (XV F))
  | [] => some []
  | x :: xs => onOpt (cr x) none fun a => onOpt (cOps cr xs) none fun as => some (a :: as)
theorem cOps_ok (hcr : CrOk R cr) (hq : R env e) : ∀ {xs : List Operand} {as : List (XV F)}, cOps cr xs = some as → evs env xs = some (as.map fun a => (a e).rv)
  | [], as, h => by simp [cOps] at h; subst h; rfl
  | x :: xs, as, h => by
    simp only [cOps] at h
    replace h := onOpt_some_of h; obtain ⟨a, h1, h⟩ := h
    replace h := onOpt_some_of h; obtain ⟨as', h2, h⟩ := h
    simp only [Option.some.injEq] at h; subst h
    simp only [evs, hcr _ _ h1 _ _ hq, onOpt_some, cOps_ok hcr hq h2, List.map_cons]
noncomputable def retK (o : OW) (k : XK) : OQ := @OW.rec (fun _ => OQ) (fun w H => k w H) .bad o
theorem retK_ok {o : OW} (h : retK o k = r) (hr : r ≠ .bad) : ∃ w H', o = .ok w H' ∧ k w H' = r := by
  cases o with
  | ok w H' => exact ⟨w, H', rfl, h⟩
  | bad => exact absurd h.symm hr
noncomputable def x_call (g : FuncId) (as : List (XV F)) : XO F := fun C e H k => argsK as e fun ws => retK (C g ws H) k
theorem appK_nil {β : Type} (x : List RV) (k : List RV → β) : appK x [] k = k x := by rw [appK_eq, List.append_nil]
theorem x_call_ok {g : FuncId} {args : Array Operand} {ts : Array TypeId} {as : List (XV F)} (hcr : CrOk R cr) (h0 : cOps cr args.toList = some as) : XF tt R (x_call g as) (.call ⟨.value (.func g), args, ts⟩) := fun C env e H k r hq h hr => by
  have h : argsK as e (fun ws => retK (C g ws H) k) = r := h
  rw [argsK_eq] at h
  obtain ⟨w, H', h1, h2⟩ := retK_ok h hr
  refine ⟨w, H', ?_, h2⟩
  show callV _ env (.func g) args.toList H = _
  unfold callV
  simp only [ev, onOpt_some, cOps_ok hcr hq h0, appK_nil]
  exact CRk_ok h1
noncomputable def onFn {β : Type} (v : RV) (d : β) (k : Nat → List RV → β) : β := match v with | .func g cs => k g cs | _ => d
noncomputable def x_callV (f : XV F) (as : List (XV F)) : XO F := fun C e H k => onFn (f e).rv .bad fun g caps => argsK as e fun ws => appK ws caps fun ws => retK (C g ws H) k
theorem x_callV_ok {f : Operand} {args : Array Operand} {ts : Array TypeId} {fa : XV F} {as : List (XV F)} (hcr : CrOk R cr) (hf : OpOk R fa f) (h0 : cOps cr args.toList = some as) : XF tt R (x_callV fa as) (.call ⟨.value f, args, ts⟩) := fun C env e H k r hq h hr => by
  have h : onFn (fa e).rv .bad (fun g caps => argsK as e fun ws => appK ws caps fun ws => retK (C g ws H) k) = r := h
  cases hv : (fa e).rv
  case func g caps =>
    rw [hv] at h
    have h : argsK as e (fun ws => appK ws caps fun ws => retK (C g ws H) k) = r := h
    rw [argsK_eq, appK_eq] at h
    obtain ⟨w, H', h1, h2⟩ := retK_ok h hr
    refine ⟨w, H', ?_, h2⟩
    show callV _ env f args.toList H = _
    unfold callV
    simp only [hf _ _ hq, hv, onOpt_some, cOps_ok hcr hq h0, appK_eq]
    exact CRk_ok h1
  all_goals (rw [hv] at h; exact absurd h.symm hr)

/-! ### Whatever is left -/
noncomputable def rdOf (cr : CR F) : List Operand → Option (List (Nat × XV F))
  | [] => some []
  | .tmp t :: r => onOpt (cr (.tmp t)) none fun a => onOpt (rdOf cr r) none fun as => some ((t, a) :: as)
  | _ :: r => rdOf cr r
theorem rdOf_ok (hcr : CrOk R cr) (hq : R env e) : ∀ {l : List Operand} {rd : List (Nat × XV F)}, rdOf cr l = some rd → RdOk env e rd ∧ ∀ t, .tmp t ∈ l → ∃ p ∈ rd, p.1 = t
  | [], rd, h => by simp [rdOf] at h; subst h; exact ⟨fun p hp => by simp at hp, fun t ht => by simp at ht⟩
  | .tmp t :: r, rd, h => by
    simp only [rdOf] at h
    replace h := onOpt_some_of h; obtain ⟨a, h1, h⟩ := h
    replace h := onOpt_some_of h; obtain ⟨as, h2, h⟩ := h
    simp only [Option.some.injEq] at h; subst h
    obtain ⟨h3, h4⟩ := rdOf_ok hcr hq h2
    refine ⟨fun p hp => ?_, fun t' ht => ?_⟩
    · rcases List.mem_cons.1 hp with rfl | hp
      · exact hcr _ _ h1 _ _ hq
      · exact h3 p hp
    · rcases List.mem_cons.1 ht with ht | ht
      · simp only [Operand.tmp.injEq] at ht
        exact ⟨(t, a), by simp, ht.symm⟩
      · obtain ⟨p, hp, h5⟩ := h4 t' ht
        exact ⟨p, by simp [hp], h5⟩
  | .const v :: r, rd, h => by
    have h : rdOf cr r = some rd := h
    obtain ⟨h3, h4⟩ := rdOf_ok hcr hq h
    exact ⟨h3, fun t ht => h4 t (by simpa using ht)⟩
  | .func v :: r, rd, h => by
    have h : rdOf cr r = some rd := h
    obtain ⟨h3, h4⟩ := rdOf_ok hcr hq h
    exact ⟨h3, fun t ht => h4 t (by simpa using ht)⟩
  | .global v :: r, rd, h => by
    have h : rdOf cr r = some rd := h
    obtain ⟨h3, h4⟩ := rdOf_ok hcr hq h
    exact ⟨h3, fun t ht => h4 t (by simpa using ht)⟩
noncomputable def x_gen (tt : T RTI) (op : Op) (rd : List (Nat × XV F)) : XO F := fun C e H k => bldE rd e .e fun env => genK (opV tt (CRk C) env H op) k
theorem x_gen_ok {op : Op} {rd : List (Nat × XV F)} (hcr : CrOk R cr) (h0 : rdOf cr op.operands.toList = some rd) : XF tt R (x_gen tt op rd) op := fun C env e H k r hq h hr => by
  have h : bldE rd e .e (fun env => genK (opV tt (CRk C) env H op) k) = r := h
  rw [bldE_eq] at h
  obtain ⟨w, H', h1, h2⟩ := genK_ok h hr
  obtain ⟨q1, q2⟩ := rdOf_ok hcr hq h0
  refine ⟨w, H', ?_, h2⟩
  rw [← h1]
  refine opV_congr fun x hx => ?_
  cases x with
  | tmp t =>
    obtain ⟨p, hp, rfl⟩ := q2 t hx
    exact ((bldT_get q1 (fun t v hv => by simp [T.get_e] at hv)).2.2 p hp).symm
  | const v => rfl
  | func f => rfl
  | global g => rfl

/-! ### Compiling an operation -/
noncomputable def genX (tt : T RTI) (cr : CR F) (op : Op) : Option (XO F) := onOpt (rdOf cr op.operands.toList) none fun rd => some (x_gen tt op rd)
theorem genX_ok {op : Op} {x : XO F} (hcr : CrOk R cr) (h : genX tt cr op = some x) : XF tt R x op := by
  unfold genX at h
  replace h := onOpt_some_of h; obtain ⟨rd, h1, h⟩ := h
  simp only [Option.some.injEq] at h; subst h
  exact x_gen_ok hcr h1
noncomputable def binX (tt : T RTI) (op : BinOp) (ty : TypeId) (a b : XV F) : Option (XO F) :=
  onOpt (tt.get ty) (some (x_binG tt op ty a b)) fun ti => match ti.d with
    | .int q => forceN (kindI q) fun T => forceN (maxP q) fun M => (match op with
      | .add => some (x_add tt ty T M a b)
      | .sub => some (x_sub tt ty T M a b)
      | .eql => some (x_cmp tt .eql ty T Nat.beq wT wF a b)
      | .neq => some (x_cmp tt .neq ty T Nat.beq wF wT a b)
      | .lss => some (x_cmp tt .lss ty T Nat.blt wT wF a b)
      | .geq => some (x_cmp tt .geq ty T Nat.blt wF wT a b)
      | .leq => some (x_cmp tt .leq ty T Nat.ble wT wF a b)
      | .gtr => some (x_cmp tt .gtr ty T Nat.ble wF wT a b)
      | op => some (x_binG tt op ty a b))
    | .str => (match op with
      | .add => some (x_cat tt ty a b)
      | .eql => some (x_seq tt .eql ty wT wF a b)
      | .neq => some (x_seq tt .neq ty wF wT a b)
      | op => some (x_binG tt op ty a b))
    | _ => some (x_binG tt op ty a b)
theorem binX_ok (ha : OpOk R a x) (hb : OpOk R b y) {op : BinOp} {ty yt : TypeId} {f : XO F} (h : binX tt op ty a b = some f) : XS tt R f (.binOp op ty x y yt) := by
  unfold binX at h
  cases hg : tt.get ty with
  | none => rw [hg, onOpt_none] at h; simp only [Option.some.injEq] at h; subst h; exact x_binG_ok ha hb op ty yt
  | some ti =>
    rw [hg, onOpt_some] at h
    split at h
    · rename_i q _
      rw [forceN_eq, forceN_eq] at h
      cases op <;> simp only [Option.some.injEq] at h <;> subst h <;> first
        | exact x_binG_ok ha hb _ ty yt
        | exact x_add_ok ha hb ty yt q
        | exact x_sub_ok ha hb ty yt q
        | exact x_cmp_ok ha hb ty yt q cmp_eql wT_rv wF_rv
        | exact x_cmp_ok ha hb ty yt q cmp_neq wF_rv wT_rv
        | exact x_cmp_ok ha hb ty yt q cmp_lss wT_rv wF_rv
        | exact x_cmp_ok ha hb ty yt q cmp_geq wF_rv wT_rv
        | exact x_cmp_ok ha hb ty yt q cmp_leq wT_rv wF_rv
        | exact x_cmp_ok ha hb ty yt q cmp_gtr wF_rv wT_rv
    · cases op <;> simp only [Option.some.injEq] at h <;> subst h <;> first
        | exact x_binG_ok ha hb _ ty yt
        | exact x_cat_ok ha hb ty yt
        | exact x_seq_ok ha hb ty yt (.inl ⟨rfl, rfl, rfl⟩) wT_rv wF_rv
        | exact x_seq_ok ha hb ty yt (.inr ⟨rfl, rfl, rfl⟩) wF_rv wT_rv
    · simp only [Option.some.injEq] at h; subst h; exact x_binG_ok ha hb op ty yt
noncomputable def cOpt (cr : CR F) (o : Option Operand) : Option (Option (XV F)) := onOpt o (some none) fun x => onOpt (cr x) none fun a => some (some a)
theorem cOpt_ok (hcr : CrOk R cr) {o : Option Operand} {a : Option (XV F)} (h : cOpt cr o = some a) : OptOk R a o := by
  unfold cOpt at h
  cases o with
  | none => rw [onOpt_none] at h; simp only [Option.some.injEq] at h; subst h; trivial
  | some x =>
    rw [onOpt_some] at h
    replace h := onOpt_some_of h; obtain ⟨a', h1, h⟩ := h
    simp only [Option.some.injEq] at h; subst h
    exact hcr _ _ h1
noncomputable def callX (tt : T RTI) (cr : CR F) (c : Call) : Option (XO F) :=
  match c.callee with
  | .value f => onOpt (cOps cr c.args.toList) none fun as => (match f with
    | .func g => some (x_call g as)
    | f => onOpt (cr f) none fun fa => some (x_callV fa as))
  | .builtin .len => (match c.args.toList, c.argTypes.toList with
    | [x], [ty] => onOpt (cr x) none fun a => onOpt (tt.get ty) none fun ti => (match ti.d with
      | .str => some (x_lenS a)
      | .sl _ => some (x_lenL tt ty a)
      | _ => genX tt cr (.call c))
    | _, _ => none)
  | _ => genX tt cr (.call c)
theorem callX_ok (hcr : CrOk R cr) {cl : Call} {f : XO F} (h : callX tt cr cl = some f) : XF tt R f (.call cl) := by
  obtain ⟨ce, ⟨args⟩, ⟨ts⟩⟩ := cl
  unfold callX at h
  simp only at h
  split at h
  · rename_i g
    replace h := onOpt_some_of h; obtain ⟨as, h1, h⟩ := h
    split at h
    · simp only [Option.some.injEq] at h; subst h
      exact x_call_ok hcr h1
    · replace h := onOpt_some_of h; obtain ⟨fa, h2, h⟩ := h
      simp only [Option.some.injEq] at h; subst h
      exact x_callV_ok hcr (hcr _ _ h2) h1
  · split at h
    · rename_i x ty
      replace h := onOpt_some_of h; obtain ⟨a, h1, h⟩ := h
      replace h := onOpt_some_of h; obtain ⟨ti, h2, h⟩ := h
      split at h
      · rename_i hd
        simp only [Option.some.injEq] at h; subst h
        exact (x_lenS_ok (hcr _ _ h1) ⟨ti, h2, hd⟩).xf
      · rename_i el hd
        simp only [Option.some.injEq] at h; subst h
        exact (x_lenL_ok (hcr _ _ h1) ⟨ti, el, h2, hd⟩).xf
      · exact genX_ok hcr h
    · simp at h
  · exact genX_ok hcr h
/-- The constant nil of an interface. -/
noncomputable def nilK (o : Operand) : Bool := match o with | .const v => (match v with | .nilIface => true | _ => false) | _ => false
noncomputable def cmpOp (tt : T RTI) (cr : CR F) (op : Op) : Option (XO F) :=
  match op with
  | .move x => onOpt (cr x) none fun a => some (x_mv a)
  | .assign x => onOpt (cr x) none fun a => some (x_mv a)
  | .pick c a b => onOpt (cr c) none fun c => onOpt (cr a) none fun a => onOpt (cr b) none fun b => some (x_pick c a b)
  | .alloc t => onOpt (tt.get t) none fun ti => onOpt ti.z none fun z => some (x_al (Nat.succ t) z)
  | .load t x => onOpt (tt.get t) none fun ti => onOpt (cr x) none fun a => some (x_ld ti a)
  | .store t x y => onOpt (tt.get t) none fun ti => onOpt (cr x) none fun a => onOpt (cr y) none fun b => some (x_st ti a b)
  | .nilCheck x => onOpt (cr x) none fun a => some (x_nc a)
  | .binOp op t x y yt => ifB (nilK x) (genX tt cr (.binOp op t x y yt)) (ifB (nilK y) (genX tt cr (.binOp op t x y yt)) (onOpt (cr x) none fun a => onOpt (cr y) none fun b => binX tt op t a b))
  | .unOp op _ x => onOpt (cr x) none fun a => (match op with | .not => some (x_not a) | op => some (x_un op a))
  | .convert s d x => onOpt (tt.get s) none fun si => onOpt (tt.get d) none fun di => (match si.d, di.d with
    | .int _, .int q => onOpt (cr x) none fun a => forceN (kindI q) fun T => forceN (maxP q) fun M => some (x_cv tt s d T M a)
    | _, _ => genX tt cr op)
  | .slice t x lo hi mx => (match mx with
    | some _ => none
    | none => onOpt (cr x) none fun a => onOpt (cOpt cr lo) none fun l => onOpt (cOpt cr hi) none fun h => onOpt (tt.get t) none fun ti => (match ti.d with
      | .str => some (x_slS a l h)
      | _ => some (x_slG tt t a l h)))
  | .fieldAddr t x f => onOpt (tt.get t) none fun ti => dSt ti.d none fun fs => onOpt (nthL fs f) none fun p => onOpt (tt.get p.2) none fun fi => ifB (Nat.ble 1 fi.sz) (onOpt (cr x) none fun a => some (x_fa p.1 a)) none
  | .field t x f => onOpt (cr x) none fun a => some (x_fld tt t f a)
  | .indexAddr t x i => onOpt (cr x) none fun a => onOpt (cr i) none fun b => onOpt (tt.get t) none fun ti => (match ti.d with
    | .sl el => onOpt (tt.get el) none fun ei => some (x_ia tt t ei.sz a b)
    | _ => some (x_iaG tt t a b))
  | .index t x i => onOpt (cr x) none fun a => onOpt (cr i) none fun b => onOpt (tt.get t) none fun ti => (match ti.d with
    | .str => some (x_idxS a b)
    | _ => some (x_idxG tt t a b))
  | .extract x i => onOpt (cr x) none fun a => some (x_ext i a)
  | .call c => callX tt cr c
  | op => genX tt cr op
theorem cmpOp_ok (hcr : CrOk R cr) {op : Op} {f : XO F} (h : cmpOp tt cr op = some f) : XF tt R f op := by
  cases op <;> simp only [cmpOp] at h
  case move x =>
    replace h := onOpt_some_of h; obtain ⟨a, h1, h⟩ := h
    simp only [Option.some.injEq] at h; subst h
    exact (x_mv_move (hcr _ _ h1)).xf
  case assign x =>
    replace h := onOpt_some_of h; obtain ⟨a, h1, h⟩ := h
    simp only [Option.some.injEq] at h; subst h
    exact (x_mv_assign (hcr _ _ h1)).xf
  case pick c a b =>
    replace h := onOpt_some_of h; obtain ⟨q1, h1, h⟩ := h
    replace h := onOpt_some_of h; obtain ⟨q2, h2, h⟩ := h
    replace h := onOpt_some_of h; obtain ⟨q3, h3, h⟩ := h
    simp only [Option.some.injEq] at h; subst h
    exact (x_pick_ok (hcr _ _ h1) (hcr _ _ h2) (hcr _ _ h3)).xf
  case alloc t =>
    replace h := onOpt_some_of h; obtain ⟨ti, h1, h⟩ := h
    replace h := onOpt_some_of h; obtain ⟨z, h2, h⟩ := h
    simp only [Option.some.injEq] at h; subst h
    exact (x_al_ok h1 h2).xf
  case load t x =>
    replace h := onOpt_some_of h; obtain ⟨ti, h1, h⟩ := h
    replace h := onOpt_some_of h; obtain ⟨a, h2, h⟩ := h
    simp only [Option.some.injEq] at h; subst h
    exact (x_ld_ok (hcr _ _ h2) h1).xf
  case store t x y =>
    replace h := onOpt_some_of h; obtain ⟨ti, h1, h⟩ := h
    replace h := onOpt_some_of h; obtain ⟨a, h2, h⟩ := h
    replace h := onOpt_some_of h; obtain ⟨b, h3, h⟩ := h
    simp only [Option.some.injEq] at h; subst h
    exact (x_st_ok (hcr _ _ h2) (hcr _ _ h3) h1).xf
  case nilCheck x =>
    replace h := onOpt_some_of h; obtain ⟨a, h1, h⟩ := h
    simp only [Option.some.injEq] at h; subst h
    exact (x_nc_ok (hcr _ _ h1)).xf
  case binOp op t x y yt =>
    rw [ifB_eq] at h
    split at h
    · exact genX_ok hcr h
    rw [ifB_eq] at h
    split at h
    · exact genX_ok hcr h
    replace h := onOpt_some_of h; obtain ⟨a, h1, h⟩ := h
    replace h := onOpt_some_of h; obtain ⟨b, h2, h⟩ := h
    exact (binX_ok (hcr _ _ h1) (hcr _ _ h2) h).xf
  case unOp op t x =>
    replace h := onOpt_some_of h; obtain ⟨a, h1, h⟩ := h
    cases op <;> simp only [Option.some.injEq] at h <;> subst h <;> first
      | exact (x_not_ok (hcr _ _ h1) t).xf
      | exact (x_un_ok (hcr _ _ h1) _ t).xf
  case convert s d x =>
    replace h := onOpt_some_of h; obtain ⟨si, h1, h⟩ := h
    replace h := onOpt_some_of h; obtain ⟨di, h2, h⟩ := h
    split at h
    · rename_i q0 q g1 g2
      replace h := onOpt_some_of h; obtain ⟨a, h3, h⟩ := h
      rw [forceN_eq, forceN_eq] at h
      simp only [Option.some.injEq] at h; subst h
      exact (x_cv_ok (hcr _ _ h3) ⟨si, h1, g1⟩ ⟨di, h2, g2⟩).xf
    · exact genX_ok hcr h
  case slice t x lo hi mx =>
    split at h
    · simp at h
    · replace h := onOpt_some_of h; obtain ⟨a, h1, h⟩ := h
      replace h := onOpt_some_of h; obtain ⟨l, h2, h⟩ := h
      replace h := onOpt_some_of h; obtain ⟨hh, h3, h⟩ := h
      replace h := onOpt_some_of h; obtain ⟨ti, h4, h⟩ := h
      split at h
      · rename_i g
        simp only [Option.some.injEq] at h; subst h
        exact (x_slS_ok (hcr _ _ h1) (cOpt_ok hcr h2) (cOpt_ok hcr h3) ⟨ti, h4, g⟩).xf
      · simp only [Option.some.injEq] at h; subst h
        exact (x_slG_ok (hcr _ _ h1) (cOpt_ok hcr h2) (cOpt_ok hcr h3) t).xf
  case fieldAddr t x f =>
    replace h := onOpt_some_of h; obtain ⟨ti, h1, h⟩ := h
    unfold dSt at h
    split at h
    · rename_i fs hd
      replace h := onOpt_some_of h; obtain ⟨p, h2, h⟩ := h
      replace h := onOpt_some_of h; obtain ⟨fi, h3, h⟩ := h
      replace h := ifB_some h; obtain ⟨h4, h⟩ := h
      replace h := onOpt_some_of h; obtain ⟨a, h5, h⟩ := h
      simp only [Option.some.injEq] at h; subst h
      refine (x_fa_ok (hcr _ _ h5) fun l off => ?_).xf
      unfold fieldAddrV
      rw [tyK_at h1]
      simp only [hd]
      rw [h2, onOpt_some, tyK_at h3, h4, ifB_true, forceN_eq]
      rfl
    · simp at h
  case field t x f =>
    replace h := onOpt_some_of h; obtain ⟨a, h1, h⟩ := h
    simp only [Option.some.injEq] at h; subst h
    exact (x_fld_ok (hcr _ _ h1) t f).xf
  case indexAddr t x i =>
    replace h := onOpt_some_of h; obtain ⟨a, h1, h⟩ := h
    replace h := onOpt_some_of h; obtain ⟨b, h2, h⟩ := h
    replace h := onOpt_some_of h; obtain ⟨ti, h3, h⟩ := h
    split at h
    · rename_i el hd
      replace h := onOpt_some_of h; obtain ⟨ei, h4, h⟩ := h
      simp only [Option.some.injEq] at h; subst h
      refine (x_ia_ok (hcr _ _ h1) (hcr _ _ h2) fun q l off m c j hj => ?_).xf
      unfold indexAddrV
      rw [tyK_at h3]
      simp only [hd]
      rw [tyK_at h4]
      have e1 : Nat.beq ei.sz ei.sz = true := nbeq.2 rfl
      rw [e1, ifB_true]
      show ifB (Nat.blt j m) (forceN (Nat.add off (Nat.mul j ei.sz)) fun o => some (RV.ptr l o)) none = _
      have e2 : Nat.blt j m = true := by rw [Nat.blt_eq]; exact hj
      rw [e2, ifB_true, forceN_eq]
      rfl
    · simp only [Option.some.injEq] at h; subst h
      exact (x_iaG_ok (hcr _ _ h1) (hcr _ _ h2) t).xf
  case index t x i =>
    replace h := onOpt_some_of h; obtain ⟨a, h1, h⟩ := h
    replace h := onOpt_some_of h; obtain ⟨b, h2, h⟩ := h
    replace h := onOpt_some_of h; obtain ⟨ti, h3, h⟩ := h
    split at h
    · rename_i hd
      simp only [Option.some.injEq] at h; subst h
      exact (x_idxS_ok (hcr _ _ h1) (hcr _ _ h2) ⟨ti, h3, hd⟩).xf
    · simp only [Option.some.injEq] at h; subst h
      exact (x_idxG_ok (hcr _ _ h1) (hcr _ _ h2) t).xf
  case extract x i =>
    replace h := onOpt_some_of h; obtain ⟨a, h1, h⟩ := h
    simp only [Option.some.injEq] at h; subst h
    exact (x_ext_ok (hcr _ _ h1) i).xf
  case call c => exact callX_ok hcr h
  all_goals exact genX_ok hcr h
end
end Go.Rx

/- Closed runs: threaded code: regions. -/
namespace Go.Rx

/-! ### The slots that are told from region to region -/
noncomputable def lvHas (m t : Nat) : Bool := Nat.beq (Nat.mod (Nat.shiftRight m t) 2) 1
noncomputable def envM (m : Nat) : Nat → Ev → T RV
  | 0, _ => .e
  | n + 1, e => bif lvHas m n then T.put (paN n) (e.at n).rv (envM m n e) else envM m n e
theorem envM_get (m : Nat) (e : Ev) : ∀ (n i : Nat), (envM m n e).get i = if i < n ∧ lvHas m i = true then some (e.at i).rv else none
  | 0, i => by simp [envM, T.get_e]
  | n + 1, i => by
    rw [envM]
    cases hm : lvHas m n with
    | true =>
      rw [cond_true, T.get_put, envM_get m e n]
      by_cases h : i = n
      · subst h; rw [if_pos rfl, if_pos ⟨by omega, hm⟩]
      · rw [if_neg h]
        by_cases h2 : i < n ∧ lvHas m i = true
        · rw [if_pos h2, if_pos ⟨by omega, h2.2⟩]
        · rw [if_neg h2, if_neg (fun h3 => h2 ⟨by omega, h3.2⟩)]
    | false =>
      rw [cond_false, envM_get m e n]
      by_cases h2 : i < n ∧ lvHas m i = true
      · rw [if_pos h2, if_pos ⟨by omega, h2.2⟩]
      · rw [if_neg h2, if_neg (fun h3 => h2 ⟨by
          refine Nat.lt_of_le_of_ne (by omega) fun e => ?_
          rw [e, hm] at h3; simp at h3, h3.2⟩)]
def EnvQ (Γ : Gm) (n m : Nat) (e : Ev) (a : Act) : Prop := a.defers = [] ∧ a.tmps.size = n ∧ ∀ i, i < n → lvHas m i = true → ∃ x, a.tmps[i]? = some x ∧ Rep Γ (e.at i).rv x
theorem EnvQ.ok {Γ : Gm} {n m : Nat} {e : Ev} {a : Act} (h : EnvQ Γ n m e a) : EnvOk Γ n (envM m n e) a :=
  ⟨h.1, h.2.1, fun i v hv => by
    rw [envM_get] at hv
    split at hv
    · rename_i hi
      obtain ⟨x, h1, h2⟩ := h.2.2 i hi.1 hi.2
      simp at hv; subst hv
      exact ⟨x, h1, h2⟩
    · simp at hv⟩
def LiveR (n m : Nat) (env : T RV) (e : Ev) : Prop := ∀ t, t < n → lvHas m t = true → env.get t = some (e.at t).rv
theorem liveR_envM (n m : Nat) (e : Ev) : LiveR n m (envM m n e) e := fun t h1 h2 => by rw [envM_get, if_pos ⟨h1, h2⟩]
theorem envQ_of {Γ : Gm} {n m : Nat} {env : T RV} {e : Ev} {a : Act} (h : EnvOk Γ n env a) (he : LiveR n m env e) : EnvQ Γ n m e a := ⟨h.1, h.2.1, fun i hi hm => h.2.2 i _ (he i hi hm)⟩

/-! ### Operands of whole frames -/
noncomputable def ld (f : Ev → Q W) (g : Q W → W) (e : Ev) : W := g (f e)
theorem ld_at {t : Nat} {f : Ev → Q W} {g : Q W → W} (h1 : (getS (Q W))[t / 16]? = some f) (h2 : (getS W)[t % 16]? = some g) (e : Ev) : t < 256 ∧ ld f g e = e.at t := by
  obtain ⟨h3, h4⟩ := getS_spec e _ h1
  obtain ⟨h5, h6⟩ := getS_spec (f e) _ h2
  refine ⟨by omega, ?_⟩
  unfold ld Ev.at
  rw [h6, h4]
noncomputable def cOpE (n m : Nat) (x : Operand) : Option (XV Ev) :=
  match x with
  | .tmp t => ifB (Nat.blt t n) (ifB (lvHas m t) (onOpt (nthL (getS (Q W)) (Nat.div t 16)) none fun f => onOpt (nthL (getS W) (Nat.mod t 16)) none fun g => some (ld f g)) none) none
  | .const v => onOpt (ofVal v) none fun v => wOf v fun w => some (kc w)
  | .func f => some (kc ⟨.func f [], 0, 0, 0, 0, 0, 0⟩)
  | .global _ => none
theorem cOpE_ok {n m : Nat} : CrOk (LiveR n m) (cOpE n m) := by
  intro x a h env e hq
  unfold cOpE at h
  split at h
  · rename_i t
    replace h := ifB_some h; obtain ⟨hlt, h⟩ := h
    replace h := ifB_some h; obtain ⟨hm, h⟩ := h
    rw [Nat.blt_eq] at hlt
    replace h := onOpt_some_of h; obtain ⟨f, h1, h⟩ := h
    replace h := onOpt_some_of h; obtain ⟨g, h2, h⟩ := h
    simp only [Option.some.injEq] at h; subst h
    rw [nthL_eq] at h1 h2
    rw [(ld_at (t := t) h1 h2 e).2]
    exact hq t hlt hm
  · rename_i v
    replace h := onOpt_some_of h; obtain ⟨v', h1, h⟩ := h
    obtain ⟨w, h2, h3⟩ := wOf_eq v' (fun w => some (kc (F := Ev) w))
    rw [h3] at h
    simp only [Option.some.injEq] at h; subst h
    simp only [ev, h1, kc, h2]
  · simp only [Option.some.injEq] at h; subst h; rfl
  · simp at h

/-! ### Operands within a region -/
/-- Within a region: the frame; what the region has made. -/
structure Fr where
  e : Ev
  l : Q W
inductive Lc where
  | env (t : Nat) | reg (j : Nat) | k (w : W)
noncomputable def Lc.val (c : Lc) (f : Fr) : W := match c with | .env t => f.e.at t | .reg j => f.l.at j | .k w => w
noncomputable def le (g1 : Ev → Q W) (g2 : Q W → W) (f : Fr) : W := g2 (g1 f.e)
noncomputable def lr (g : Q W → W) (f : Fr) : W := g f.l
noncomputable def lcX (c : Lc) : Option (XV Fr) :=
  match c with
  | .env t => onOpt (nthL (getS (Q W)) (Nat.div t 16)) none fun f => onOpt (nthL (getS W) (Nat.mod t 16)) none fun g => some (le f g)
  | .reg j => onOpt (nthL (getS W) j) none fun g => some (lr g)
  | .k w => some (kc w)
theorem lcX_ok {c : Lc} {a : XV Fr} (h : lcX c = some a) (f : Fr) : a f = c.val f := by
  cases c with
  | env t =>
    simp only [lcX] at h
    replace h := onOpt_some_of h; obtain ⟨g1, h1, h⟩ := h
    replace h := onOpt_some_of h; obtain ⟨g2, h2, h⟩ := h
    simp only [Option.some.injEq] at h; subst h
    rw [nthL_eq] at h1 h2
    exact (ld_at (t := t) h1 h2 f.e).2
  | reg j =>
    simp only [lcX] at h
    replace h := onOpt_some_of h; obtain ⟨g, h1, h⟩ := h
    simp only [Option.some.injEq] at h; subst h
    rw [nthL_eq] at h1
    exact (getS_spec f.l _ h1).2
  | k w =>
    simp only [lcX, Option.some.injEq] at h; subst h; rfl
abbrev Cx := List (Nat × Lc)
noncomputable def lookC (cx : Cx) (t : Nat) : Option Lc := @List.rec (Nat × Lc) (fun _ => Option Lc) none (fun p _ ih => ifB (Nat.beq p.1 t) (some p.2) ih) cx
theorem lookC_cons (d : Nat) (c : Lc) (cx : Cx) (t : Nat) : lookC ((d, c) :: cx) t = if t = d then some c else lookC cx t := by
  show ifB (Nat.beq d t) (some c) (lookC cx t) = _
  rw [ifB_eq]
  by_cases h : t = d
  · subst h; rw [if_pos rfl, if_pos (nbeq.2 rfl)]
  · rw [if_neg h, if_neg (fun h' => h (nbeq.1 h').symm)]
noncomputable def locOf (n m : Nat) (cx : Cx) (x : Operand) : Option Lc :=
  match x with
  | .tmp t => onOpt (lookC cx t) (ifB (Nat.blt t n) (ifB (lvHas m t) (some (.env t)) none) none) fun c => some c
  | .const v => onOpt (ofVal v) none fun v => wOf v fun w => some (.k w)
  | .func f => some (.k ⟨.func f [], 0, 0, 0, 0, 0, 0⟩)
  | .global _ => none
noncomputable def crR (n m : Nat) (cx : Cx) : CR Fr := fun x => onOpt (locOf n m cx x) none lcX
def RelC (n m : Nat) (cx : Cx) (env : T RV) (f : Fr) : Prop := (∀ t c, lookC cx t = some c → env.get t = some (c.val f).rv) ∧ ∀ t, lookC cx t = none → t < n → lvHas m t = true → env.get t = some (f.e.at t).rv
theorem locOf_ok {n m : Nat} {cx : Cx} {x : Operand} {c : Lc} (h : locOf n m cx x = some c) {env : T RV} {f : Fr} (hq : RelC n m cx env f) : ev env x = some (c.val f).rv := by
  unfold locOf at h
  split at h
  · rename_i t
    cases hl : lookC cx t with
    | some c' =>
      rw [hl, onOpt_some] at h
      simp only [Option.some.injEq] at h; subst h
      exact hq.1 t _ hl
    | none =>
      rw [hl, onOpt_none] at h
      replace h := ifB_some h; obtain ⟨hlt, h⟩ := h
      replace h := ifB_some h; obtain ⟨hm, h⟩ := h
      rw [Nat.blt_eq] at hlt
      simp only [Option.some.injEq] at h; subst h
      exact hq.2 t hl hlt hm
  · rename_i v
    replace h := onOpt_some_of h; obtain ⟨v', h1, h⟩ := h
    obtain ⟨w, h2, h3⟩ := wOf_eq v' (fun w => some (Lc.k w))
    rw [h3] at h
    simp only [Option.some.injEq] at h; subst h
    simp only [ev, h1, Lc.val, h2]
  · simp only [Option.some.injEq] at h; subst h; rfl
  · simp at h
theorem crR_ok {n m : Nat} {cx : Cx} : CrOk (RelC n m cx) (crR n m cx) := by
  intro x a h env f hq
  unfold crR at h
  replace h := onOpt_some_of h; obtain ⟨c, h1, h⟩ := h
  rw [locOf_ok h1 hq, lcX_ok h f]

/-! ### Slots are laid -/
abbrev XU := (Q W → (Q W → OQ) → OQ) → Ev → (Ev → OQ) → OQ
abbrev XSet := W → Q W → (Q W → OQ) → OQ
def Ev.set (e : Ev) (d : Nat) (w : W) : Ev := Q.put e ((Q.at e (d / 16)).put w (d % 16)) (d / 16)
theorem Ev.at_set (e : Ev) {d i : Nat} (w : W) (hd : d < 256) (hi : i < 256) : (e.set d w).at i = if i = d then w else e.at i := by
  unfold Ev.set Ev.at
  rw [Q.at_put _ _ _ (by omega) _ (by omega)]
  by_cases h1 : i / 16 = d / 16
  · rw [if_pos h1, Q.at_put _ _ _ (by omega) _ (by omega), h1]
    by_cases h2 : i % 16 = d % 16
    · rw [if_pos h2, if_pos (by omega)]
    · rw [if_neg h2, if_neg (by omega)]
  · rw [if_neg h1, if_neg (by intro h; subst h; exact h1 rfl)]
noncomputable def cDst {β : Type} (n d : Nat) (no : β) (k : XU → XSet → β) : β := ifB (Nat.blt d n) (onOpt (nthL (upS (Q W) OQ) (Nat.div d 16)) no fun u => onOpt (nthL (putS W OQ) (Nat.mod d 16)) no fun s => k u s) no
/-- They lay slot d. -/
def SetOk (n d : Nat) (u : XU) (s : XSet) : Prop := d < n ∧ d < 256 ∧ ∀ (w : W) (e : Ev) (k : Ev → OQ), u (s w) e k = k (e.set d w)
noncomputable def q0 : Q W := ⟨wUn, wUn, wUn, wUn, wUn, wUn, wUn, wUn, wUn, wUn, wUn, wUn, wUn, wUn, wUn, wUn⟩
theorem cDst_ok {α : Type} {n d : Nat} {k : XU → XSet → Option α} {y : α} (h : cDst n d none k = some y) : ∃ u s, SetOk n d u s ∧ k u s = some y := by
  unfold cDst at h
  replace h := ifB_some h; obtain ⟨hlt, h⟩ := h
  rw [Nat.blt_eq] at hlt
  replace h := onOpt_some_of h; obtain ⟨u, h1, h⟩ := h
  replace h := onOpt_some_of h; obtain ⟨s, h2, h⟩ := h
  rw [nthL_eq] at h1 h2
  refine ⟨u, s, ⟨hlt, ?_, fun w e k => ?_⟩, h⟩
  · have h5 : d / 16 < 16 := (upS_spec (α := Q W) (β := OQ) (fun v k => k v) ⟨q0, q0, q0, q0, q0, q0, q0, q0, q0, q0, q0, q0, q0, q0, q0, q0⟩ (fun _ => .bad) _ h1).1
    omega
  · rw [(upS_spec (s w) e k _ h1).2, (putS_spec w _ _ _ h2).2]
    rfl

section
variable {P : Program} {tt : T RTI} {n m : Nat} {N : Nat} {h0 : Heap} {Γ : Gm} {w0 : World} {H H' : HT} {a : Act} {C : Cw}

/-! ### Straight regions -/
abbrev XG := Cw → Ev → Q W → HT → OQ
noncomputable def x_reg (x : XO Fr) (s : XSet) (K : XG) : XG := fun C e l H => x C ⟨e, l⟩ H fun w H => s w l fun l => K C e l H
noncomputable def x_drop (x : XO Fr) (K : XG) : XG := fun C e l H => x C ⟨e, l⟩ H fun _ H => K C e l H
noncomputable def x_und (s : XSet) (K : XG) : XG := fun C e l H => s wUn l fun l => K C e l H
noncomputable def x_sp (x : XO Fr) (u : XU) (s : XSet) (K : XG) : XG := fun C e l H => x C ⟨e, l⟩ H fun w H => u (s w) e fun e => K C e l H
noncomputable def x_spU (u : XU) (s : XSet) (K : XG) : XG := fun C e l H => u (s wUn) e fun e => K C e l H
noncomputable def isEnv (d : Nat) (c : Lc) : Bool := match c with | .env t => Nat.beq t d | _ => false
noncomputable def noEnv (d : Nat) (cx : Cx) : Bool := @List.rec (Nat × Lc) (fun _ => Bool) true (fun p _ ih => ifB (isEnv d p.2) false ih) cx
theorem noEnv_ok {d : Nat} : ∀ {cx : Cx}, noEnv d cx = true → ∀ t, lookC cx t ≠ some (.env d)
  | [], _, t, h => by simp [lookC] at h
  | (d', c) :: cx, h, t, h2 => by
    have h : ifB (isEnv d c) false (noEnv d cx) = true := h
    rw [lookC_cons] at h2
    rcases ifB_of h with ⟨_, h⟩ | ⟨h1, h⟩
    · simp at h
    · split at h2
      · simp only [Option.some.injEq] at h2
        subst h2
        have : isEnv d (.env d) = true := nbeq.2 rfl
        rw [this] at h1; simp at h1
      · exact noEnv_ok h t h2
noncomputable def onUndef {β : Type} (v : RV) (a d : β) : β := match v with | .undef => a | _ => d
noncomputable def x_grd (g : XV Fr) (tr fa un : XG) : XG := fun C e l H =>
  @W.rec (fun _ => OQ) (fun v _ _ _ _ x t => ifB (Nat.beq t 1) (ifB (Nat.beq x 1) (tr C e l H) (fa C e l H)) (ifB (Nat.beq t 0) (onUndef v (un C e l H) .bad) .bad)) (g ⟨e, l⟩)
/-- What is left at the region's end. -/
noncomputable def outK (l : List (Nat × XV Fr × XU × XSet)) (f : Fr) : Ev → (Ev → OQ) → OQ :=
  @List.rec (Nat × XV Fr × XU × XSet) (fun _ => Ev → (Ev → OQ) → OQ) (fun e k => k e) (fun p _ ih e k => forceW (p.2.1 f) fun w => ih e fun e => p.2.2.1 (p.2.2.2 w) e k) l
noncomputable def x_end (o : List (Nat × XV Fr × XU × XSet)) (K : XC) : XG := fun C e l H => outK o ⟨e, l⟩ e fun e => K C e H
def OutsOk (n : Nat) (l : List (Nat × XV Fr × XU × XSet)) : Prop := ∀ p ∈ l, SetOk n p.1 p.2.2.1 p.2.2.2
theorem outK_ok (f : Fr) : ∀ {l : List (Nat × XV Fr × XU × XSet)} {e : Ev} {k : Ev → OQ}, OutsOk n l → ∃ e', outK l f e k = k e' ∧ ∀ i, i < 256 → ((∀ p ∈ l, p.1 ≠ i) → e'.at i = e.at i) ∧ ∀ (w : W), (∃ p ∈ l, p.1 = i) → (∀ p ∈ l, p.1 = i → p.2.1 f = w) → e'.at i = w
  | [], e, k, _ => ⟨e, rfl, fun i _ => ⟨fun _ => rfl, fun w h => by obtain ⟨p, hp, _⟩ := h; simp at hp⟩⟩
  | p :: l, e, k, hl => by
    have hp := hl p (by simp)
    obtain ⟨e1, h1, h2⟩ := outK_ok f (l := l) (e := e) (k := fun e => p.2.2.1 (p.2.2.2 (p.2.1 f)) e k) (fun q hq => hl q (by simp [hq]))
    refine ⟨e1.set p.1 (p.2.1 f), ?_, fun i hi => ⟨fun hno => ?_, fun w hex hall => ?_⟩⟩
    · show outK l f e (fun e => p.2.2.1 (p.2.2.2 (p.2.1 f)) e k) = _
      rw [h1, hp.2.2]
    · rw [Ev.at_set e1 _ hp.2.1 hi, if_neg (fun e => hno p (by simp) e.symm)]
      exact (h2 i hi).1 (fun q hq => hno q (by simp [hq]))
    · rw [Ev.at_set e1 _ hp.2.1 hi]
      by_cases hpi : i = p.1
      · rw [if_pos hpi]; exact hall p (by simp) hpi.symm
      · rw [if_neg hpi]
        refine (h2 i hi).2 w ?_ (fun q hq hqi => hall q (by simp [hq]) hqi)
        obtain ⟨q, hq, hqi⟩ := hex
        rcases List.mem_cons.1 hq with rfl | hq
        · exact absurd hqi.symm hpi
        · exact ⟨q, hq, hqi⟩
/-- The slots that are left: each with its last place. -/
noncomputable def outsOf (n m : Nat) (full : Cx) : Cx → Option (List (Nat × XV Fr × XU × XSet))
  | [] => some []
  | (d, _) :: r => onOpt (outsOf n m full r) none fun l => ifB (lvHas m d) (onOpt (lookC full d) none fun c => onOpt (lcX c) none fun a => cDst n d none fun u s => some ((d, a, u, s) :: l)) (some l)
theorem outsOf_ok {full : Cx} : ∀ {cx : Cx} {l : List (Nat × XV Fr × XU × XSet)}, outsOf n m full cx = some l → OutsOk n l ∧ (∀ p ∈ l, ∃ c, lookC full p.1 = some c ∧ ∀ f, p.2.1 f = c.val f) ∧ ∀ t c, lookC cx t = some c → lvHas m t = true → ∃ p ∈ l, p.1 = t
  | [], l, h => by simp [outsOf] at h; subst h; exact ⟨fun p hp => by simp at hp, fun p hp => by simp at hp, fun t c h => by simp [lookC] at h⟩
  | (d, c0) :: r, l, h => by
    simp only [outsOf] at h
    replace h := onOpt_some_of h; obtain ⟨l1, h1, h⟩ := h
    obtain ⟨q1, q2, q3⟩ := outsOf_ok h1
    rw [ifB_eq] at h
    split at h
    · replace h := onOpt_some_of h; obtain ⟨c, h2, h⟩ := h
      replace h := onOpt_some_of h; obtain ⟨a, h3, h⟩ := h
      obtain ⟨u, s, hs, h⟩ := cDst_ok h
      simp only [Option.some.injEq] at h; subst h
      refine ⟨fun p hp => ?_, fun p hp => ?_, fun t c' ht hm => ?_⟩
      · rcases List.mem_cons.1 hp with rfl | hp
        · exact hs
        · exact q1 p hp
      · rcases List.mem_cons.1 hp with rfl | hp
        · exact ⟨c, h2, fun f => lcX_ok h3 f⟩
        · exact q2 p hp
      · rw [lookC_cons] at ht
        by_cases htd : t = d
        · exact ⟨(d, a, u, s), by simp, htd.symm⟩
        · rw [if_neg htd] at ht
          obtain ⟨p, hp, h5⟩ := q3 t c' ht hm
          exact ⟨p, by simp [hp], h5⟩
    · rename_i hnm
      simp only [Option.some.injEq] at h; subst h
      refine ⟨q1, q2, fun t c' ht hm => ?_⟩
      rw [lookC_cons] at ht
      by_cases htd : t = d
      · subst htd; exact absurd hm hnm
      · rw [if_neg htd] at ht
        exact q3 t c' ht hm

/-- A value that is only handed on. -/
noncomputable def aliasOf (o : Oper) : Option Operand := match o.guard with | some _ => none | none => (match o.op with | .move x => some x | .assign x => some x | _ => none)
noncomputable def grdX (n m : Nat) (cx : Cx) (ops : List Oper) (o : Oper) (doit skip : XG) : Option XG :=
  match o.guard with
  | none => some doit
  | some (j, want) => onOpt (nthL ops j) none fun oj => onOpt oj.dst none fun t => onOpt (crR n m cx (.tmp t)) none fun g => ifB want (some (x_grd g doit skip skip)) (some (x_grd g skip doit skip))
noncomputable def opsG (tt : T RTI) (n m mo : Nat) (ops : List Oper) (K : XC) : List Oper → Cx → Nat → Option XG
  | [], cx, _ => onOpt (outsOf n mo cx cx) none fun l => some (x_end l K)
  | o :: r, cx, cnt => match o.dst with
    | none => onOpt (cmpOp tt (crR n m cx) o.op) none fun x => onOpt (opsG tt n m mo ops K r cx cnt) none fun G => grdX n m cx ops o (x_drop x G) G
    | some d => ifB (Nat.blt d n) (onOpt (onOpt (aliasOf o) none fun x => locOf n m cx x)
        (onOpt (cmpOp tt (crR n m cx) o.op) none fun x => onOpt (nthL (putS W OQ) cnt)
          (ifB (noEnv d cx) (cDst n d none fun u s => onOpt (opsG tt n m mo ops K r ((d, .env d) :: cx) cnt) none fun G => grdX n m cx ops o (x_sp x u s G) (x_spU u s G)) none)
          fun s => onOpt (opsG tt n m mo ops K r ((d, .reg cnt) :: cx) (Nat.succ cnt)) none fun G => grdX n m cx ops o (x_reg x s G) (x_und s G))
        fun c => opsG tt n m mo ops K r ((d, c) :: cx) cnt) none

theorem grdX_ok {cx : Cx} {ops : List Oper} {o : Oper} {doit skip G : XG} (h : grdX n m cx ops o doit skip = some G) {C : Cw} {f : Fr} {H : HT} {r : OQ} (hG : G C f.e f.l H = r) (hr : r ≠ .bad) {env : T RV} (hq : RelC n m cx env f) :
    (wantV ops env o = some true ∧ doit C f.e f.l H = r) ∨ (wantV ops env o = some false ∧ skip C f.e f.l H = r) := by
  unfold grdX at h
  split at h
  · rename_i hg
    simp only [Option.some.injEq] at h; subst h
    exact .inl ⟨by unfold wantV; rw [hg], hG⟩
  · rename_i j want hg
    replace h := onOpt_some_of h; obtain ⟨oj, h1, h⟩ := h
    replace h := onOpt_some_of h; obtain ⟨t, h2, h⟩ := h
    replace h := onOpt_some_of h; obtain ⟨g, h3, h⟩ := h
    have hv : env.get t = some (g f).rv := crR_ok _ _ h3 env f hq
    have hw : wantV ops env o = (match (g f).rv with | .bool b => some (ifB b want (ifB want false true)) | .undef => some false | _ => none) := by
      unfold wantV
      simp only [hg, h1, onOpt_some, h2, hv]
      cases (g f).rv <;> rfl
    have key : ∀ {tr fa : XG}, x_grd g tr fa skip C f.e f.l H = r → (wantV ops env o = some want ∧ tr C f.e f.l H = r) ∨ (wantV ops env o = some (ifB want false true) ∧ fa C f.e f.l H = r) ∨ (wantV ops env o = some false ∧ skip C f.e f.l H = r) := by
      intro tr fa g5
      have g5 : ifB (Nat.beq (g f).t 1) (ifB (Nat.beq (g f).x 1) (tr C f.e f.l H) (fa C f.e f.l H)) (ifB (Nat.beq (g f).t 0) (onUndef (g f).v (skip C f.e f.l H) .bad) .bad) = r := g5
      rcases ifB_of g5 with ⟨q1, g5⟩ | ⟨q1, g5⟩
      · have hb := rv_bool (nbeq.1 q1)
        rw [hb] at hw
        rcases ifB_of g5 with ⟨q2, g5⟩ | ⟨q2, g5⟩
        · rw [q2] at hw; exact .inl ⟨hw, g5⟩
        · rw [q2] at hw; exact .inr (.inl ⟨hw, g5⟩)
      · rcases ifB_of g5 with ⟨q2, g5⟩ | ⟨q2, g5⟩
        · have hv : (g f).rv = (g f).v := by
            have := nbeq.1 q2
            generalize g f = w at this
            obtain ⟨v, p, q, z, y, x, t⟩ := w
            simp only at this; subst this; rfl
          unfold onUndef at g5
          split at g5
          · rename_i hu
            rw [hv, hu] at hw
            exact .inr (.inr ⟨hw, g5⟩)
          · exact absurd g5.symm hr
        · exact absurd g5.symm hr
    cases want with
    | true =>
      rw [ifB_true] at h
      simp only [Option.some.injEq] at h; subst h
      rcases key hG with h | h | h
      · exact .inl h
      · exact .inr h
      · exact .inr h
    | false =>
      rw [ifB_false] at h
      simp only [Option.some.injEq] at h; subst h
      rcases key hG with h | h | h
      · exact .inr h
      · exact .inl h
      · exact .inr h

/-- Registers that are taken lie below. -/
def CxOk (cx : Cx) (cnt : Nat) : Prop := ∀ t c, lookC cx t = some c → (∀ j, c = .reg j → j < cnt) ∧ ∀ t', c = .env t' → t' < 256
/-- The slots that are told at the end. -/
def LiveO (n m mo : Nat) (cx : Cx) (rest : List Oper) (env : T RV) (e : Ev) : Prop := ∀ t, t < n → lvHas mo t = true → (lvHas m t = true ∨ lookC cx t ≠ none ∨ ∃ o ∈ rest, o.dst = some t) → env.get t = some (e.at t).rv
theorem LiveO.step0 {mo : Nat} {cx : Cx} {rest : List Oper} {env : T RV} {e : Ev} {o : Oper} (h : LiveO n m mo cx rest env e) (hd : o.dst = none) : LiveO n m mo cx (o :: rest) env e := fun t ht hm hx => h t ht hm (by
  rcases hx with hx | hx | ⟨o', ho, hx⟩
  · exact .inl hx
  · exact .inr (.inl hx)
  · rcases List.mem_cons.1 ho with rfl | ho
    · rw [hd] at hx; simp at hx
    · exact .inr (.inr ⟨o', ho, hx⟩))
theorem LiveO.step {mo : Nat} {cx : Cx} {rest : List Oper} {env : T RV} {e : Ev} {o : Oper} {d : Nat} {c : Lc} (h : LiveO n m mo ((d, c) :: cx) rest env e) (hd : o.dst = some d) : LiveO n m mo cx (o :: rest) env e := fun t ht hm hx => h t ht hm (by
  rw [lookC_cons]
  rcases hx with hx | hx | ⟨o', ho, hx⟩
  · exact .inl hx
  · refine .inr (.inl ?_)
    split
    · simp
    · exact hx
  · rcases List.mem_cons.1 ho with rfl | ho
    · rw [hd] at hx; simp only [Option.some.injEq] at hx
      exact .inr (.inl (by rw [if_pos hx.symm]; simp))
    · exact .inr (.inr ⟨o', ho, hx⟩))
theorem opsG_ok {mo : Nat} {ops : List Oper} {K : XC} (hn : n ≤ 256) : ∀ {rest : List Oper} {cx : Cx} {cnt : Nat} {G : XG}, opsG tt n m mo ops K rest cx cnt = some G → ∀ (C : Cw) (f : Fr) (H : HT) (r : OQ), G C f.e f.l H = r → r ≠ .bad → CxOk cx cnt → ∀ env : T RV, RelC n m cx env f →
    ∃ env' H' e', opsV tt (CRk C) n ops rest env H = .nrm env' H' ∧ LiveO n m mo cx rest env' e' ∧ K C e' H' = r
  | [], cx, cnt, G, h, C, f, H, r, hG, hr, hcx, env, hq => by
    simp only [opsG] at h
    replace h := onOpt_some_of h; obtain ⟨l, h1, h⟩ := h
    simp only [Option.some.injEq] at h; subst h
    obtain ⟨q1, q2, q3⟩ := outsOf_ok h1
    obtain ⟨e', h2, h3⟩ := outK_ok f (e := f.e) (k := fun e => K C e H) q1
    refine ⟨env, H, e', rfl, fun t ht hm hx => ?_, by rw [← h2]; exact hG⟩
    cases hl : lookC cx t with
    | some c =>
      obtain ⟨p, hp, hpt⟩ := q3 t c hl hm
      rw [hq.1 t c hl, (h3 t (by omega)).2 (c.val f) ⟨p, hp, hpt⟩ (fun p' hp' hpt' => by
        obtain ⟨c', h4, h5⟩ := q2 p' hp'
        rw [hpt', hl] at h4
        simp only [Option.some.injEq] at h4
        rw [h5 f, h4])]
    | none =>
      have hm : lvHas m t = true := by
        rcases hx with hx | hx | ⟨o', ho, _⟩
        · exact hx
        · exact absurd hl hx
        · simp at ho
      rw [hq.2 t hl ht hm, (h3 t (by omega)).1 (fun p hp hpt => by
        obtain ⟨c', h4, _⟩ := q2 p hp
        rw [hpt, hl] at h4; simp at h4)]
  | o :: rest, cx, cnt, G, h, C, f, H, r, hG, hr, hcx, env, hq => by
    simp only [opsG] at h
    -- a register is laid
    have regs : ∀ {d : Nat} {s : XSet} (w : W), (putS W OQ)[cnt]? = some s → RelC n m ((d, .reg cnt) :: cx) (T.put (paN d) w.rv env) ⟨f.e, f.l.put w cnt⟩ ∧ CxOk ((d, .reg cnt) :: cx) (Nat.succ cnt) ∧ ∀ k, s w f.l k = k (f.l.put w cnt) := by
      intro d s w hs
      have hc16 := (putS_spec w f.l (fun _ => OQ.bad) cnt hs).1
      have keep : ∀ t c, lookC cx t = some c → (c.val ⟨f.e, f.l.put w cnt⟩) = c.val f := fun t c hc => by
        cases c with
        | env t => rfl
        | k w => rfl
        | reg j =>
          have hj := (hcx t _ hc).1 j rfl
          show (f.l.put w cnt).at j = f.l.at j
          rw [Q.at_put _ _ _ hc16 _ (by omega), if_neg (by omega)]
      refine ⟨⟨fun t c hc => ?_, fun t hc ht hm => ?_⟩, fun t c hc => ?_, fun k => (putS_spec w f.l k cnt hs).2⟩
      · rw [lookC_cons] at hc
        rw [T.get_put]
        by_cases htd : t = d
        · rw [if_pos htd] at hc ⊢
          simp only [Option.some.injEq] at hc; subst hc
          show _ = some ((f.l.put w cnt).at cnt).rv
          rw [Q.at_put _ _ _ hc16 _ hc16, if_pos rfl]
        · rw [if_neg htd] at hc ⊢
          rw [keep t c hc]; exact hq.1 t c hc
      · rw [lookC_cons] at hc
        by_cases htd : t = d
        · rw [if_pos htd] at hc; simp at hc
        · rw [if_neg htd] at hc
          rw [T.get_put, if_neg htd]; exact hq.2 t hc ht hm
      · rw [lookC_cons] at hc
        by_cases htd : t = d
        · rw [if_pos htd] at hc
          simp only [Option.some.injEq] at hc
          subst hc
          exact ⟨fun j hj => by simp only [Lc.reg.injEq] at hj; omega, fun t' ht' => by simp at ht'⟩
        · rw [if_neg htd] at hc
          have := hcx t c hc
          exact ⟨fun j hj => by have := this.1 j hj; omega, this.2⟩
    -- a slot of the frame is taken
    have spill : ∀ {d : Nat} {u : XU} {s : XSet} (w : W), SetOk n d u s → noEnv d cx = true → RelC n m ((d, .env d) :: cx) (T.put (paN d) w.rv env) ⟨f.e.set d w, f.l⟩ ∧ CxOk ((d, .env d) :: cx) cnt := by
      intro d u s w hs hno
      have keep : ∀ t c, lookC cx t = some c → (c.val ⟨f.e.set d w, f.l⟩) = c.val f := fun t c hc => by
        cases c with
        | k w => rfl
        | reg j => rfl
        | env t' =>
          have ht' := (hcx t _ hc).2 t' rfl
          show (f.e.set d w).at t' = f.e.at t'
          rw [Ev.at_set f.e w hs.2.1 ht', if_neg (fun e => noEnv_ok hno t (by rw [hc, e]))]
      refine ⟨⟨fun t c hc => ?_, fun t hc ht hm => ?_⟩, fun t c hc => ?_⟩
      · rw [lookC_cons] at hc
        rw [T.get_put]
        by_cases htd : t = d
        · rw [if_pos htd] at hc ⊢
          simp only [Option.some.injEq] at hc; subst hc
          show _ = some ((f.e.set d w).at d).rv
          rw [Ev.at_set f.e w hs.2.1 hs.2.1, if_pos rfl]
        · rw [if_neg htd] at hc ⊢
          rw [keep t c hc]; exact hq.1 t c hc
      · rw [lookC_cons] at hc
        by_cases htd : t = d
        · rw [if_pos htd] at hc; simp at hc
        · rw [if_neg htd] at hc
          rw [T.get_put, if_neg htd]
          show _ = some ((f.e.set d w).at t).rv
          rw [Ev.at_set f.e w hs.2.1 (by omega), if_neg htd]
          exact hq.2 t hc ht hm
      · rw [lookC_cons] at hc
        by_cases htd : t = d
        · rw [if_pos htd] at hc
          simp only [Option.some.injEq] at hc
          subst hc
          exact ⟨fun j hj => by simp at hj, fun t' ht' => by simp only [Lc.env.injEq] at ht'; have := hs.2.1; omega⟩
        · rw [if_neg htd] at hc
          exact hcx t c hc
    split at h
    · rename_i hd
      replace h := onOpt_some_of h; obtain ⟨x, hx, h⟩ := h
      replace h := onOpt_some_of h; obtain ⟨G1, h1, h⟩ := h
      have hx := cmpOp_ok crR_ok hx
      rcases grdX_ok h hG hr hq with ⟨hw, hG⟩ | ⟨hw, hG⟩
      · obtain ⟨w, H1, g1, g2⟩ := hx C env f H _ r hq hG hr
        simp only [opsV, hw, onOpt_some, ifB_true, g1, putV, hd]
        exact Exists.imp (fun _ h => Exists.imp (fun _ h => Exists.imp (fun _ h => ⟨h.1, h.2.1.step0 hd, h.2.2⟩) h) h) (opsG_ok hn h1 C f H1 r g2 hr hcx env hq)
      · simp only [opsV, hw, onOpt_some, ifB_false, putV, hd]
        exact Exists.imp (fun _ h => Exists.imp (fun _ h => Exists.imp (fun _ h => ⟨h.1, h.2.1.step0 hd, h.2.2⟩) h) h) (opsG_ok hn h1 C f H r hG hr hcx env hq)
    · rename_i d hd
      replace h := ifB_some h; obtain ⟨hlt, h⟩ := h
      cases hal : (onOpt (aliasOf o) none fun x => locOf n m cx x) with
      | some c =>
        rw [hal, onOpt_some] at h
        replace hal := onOpt_some_of hal; obtain ⟨x, ha, hloc⟩ := hal
        have hev := locOf_ok hloc hq
        have hop : opV tt (CRk C) env H o.op = .ok (c.val f).rv H ∧ wantV ops env o = some true := by
          unfold aliasOf at ha
          split at ha
          · simp at ha
          · rename_i hg
            refine ⟨?_, by unfold wantV; rw [hg]⟩
            split at ha
            · rename_i y hy
              simp only [Option.some.injEq] at ha; subst ha
              rw [hy]; simp only [opV, okV, hev, onOpt_some]
            · rename_i y hy
              simp only [Option.some.injEq] at ha; subst ha
              rw [hy]; simp only [opV, okV, hev, onOpt_some]
            · simp at ha
        simp only [opsV, hop.2, onOpt_some, ifB_true, hop.1, putV, hd, hlt, T.setK_put]
        refine Exists.imp (fun _ h => Exists.imp (fun _ h => Exists.imp (fun _ h => ⟨h.1, h.2.1.step hd, h.2.2⟩) h) h) (opsG_ok hn h C f H r hG hr (fun t c' hc => ?_) _ ⟨fun t c' hc => ?_, fun t hc ht hm => ?_⟩)
        · rw [lookC_cons] at hc
          by_cases htd : t = d
          · rw [if_pos htd] at hc
            simp only [Option.some.injEq] at hc
            subst hc
            -- the alias is a place that was there
            cases x with
            | tmp t' =>
              simp only [locOf] at hloc
              cases hl : lookC cx t' with
              | some c'' => rw [hl, onOpt_some] at hloc; simp only [Option.some.injEq] at hloc; subst hloc; exact hcx t' _ hl
              | none =>
                rw [hl, onOpt_none] at hloc
                replace hloc := ifB_some hloc; obtain ⟨hlt', hloc⟩ := hloc
                replace hloc := ifB_some hloc; obtain ⟨_, hloc⟩ := hloc
                rw [Nat.blt_eq] at hlt'
                simp only [Option.some.injEq] at hloc
                subst hloc
                exact ⟨fun j hj => by simp at hj, fun t'' ht'' => by simp only [Lc.env.injEq] at ht''; omega⟩
            | const v =>
              simp only [locOf] at hloc
              replace hloc := onOpt_some_of hloc; obtain ⟨v', _, hloc⟩ := hloc
              obtain ⟨w, _, h3⟩ := wOf_eq v' (fun w => some (Lc.k w))
              rw [h3] at hloc
              simp only [Option.some.injEq] at hloc
              subst hloc
              exact ⟨fun j hj => by simp at hj, fun t'' ht'' => by simp at ht''⟩
            | func g =>
              simp only [locOf, Option.some.injEq] at hloc
              subst hloc
              exact ⟨fun j hj => by simp at hj, fun t'' ht'' => by simp at ht''⟩
            | global g => simp [locOf] at hloc
          · rw [if_neg htd] at hc; exact hcx t c' hc
        · rw [lookC_cons] at hc
          rw [T.get_put]
          by_cases htd : t = d
          · rw [if_pos htd] at hc ⊢
            simp only [Option.some.injEq] at hc; rw [hc]
          · rw [if_neg htd] at hc ⊢
            exact hq.1 t c' hc
        · rw [lookC_cons] at hc
          by_cases htd : t = d
          · rw [if_pos htd] at hc; simp at hc
          · rw [if_neg htd] at hc
            rw [T.get_put, if_neg htd]; exact hq.2 t hc ht hm
      | none =>
        rw [hal, onOpt_none] at h
        replace h := onOpt_some_of h; obtain ⟨x, hx, h⟩ := h
        have hx := cmpOp_ok crR_ok hx
        cases hs : nthL (putS W OQ) cnt with
        | none =>
          rw [hs, onOpt_none] at h
          replace h := ifB_some h; obtain ⟨hno, h⟩ := h
          obtain ⟨u, s, hso, h⟩ := cDst_ok h
          replace h := onOpt_some_of h; obtain ⟨G1, h1, h⟩ := h
          rcases grdX_ok h hG hr hq with ⟨hw, hG⟩ | ⟨hw, hG⟩
          · obtain ⟨w, H1, g1, g2⟩ := hx C env f H _ r hq hG hr
            obtain ⟨r1, r2⟩ := spill (d := d) w hso hno
            rw [hso.2.2] at g2
            simp only [opsV, hw, onOpt_some, ifB_true, g1, putV, hd, hlt, T.setK_put]
            exact Exists.imp (fun _ h => Exists.imp (fun _ h => Exists.imp (fun _ h => ⟨h.1, h.2.1.step hd, h.2.2⟩) h) h) (opsG_ok hn h1 C ⟨_, _⟩ H1 r g2 hr r2 _ r1)
          · obtain ⟨r1, r2⟩ := spill (d := d) wUn hso hno
            have hG : u (s wUn) f.e (fun e => G1 C e f.l H) = r := hG
            rw [hso.2.2] at hG
            simp only [opsV, hw, onOpt_some, ifB_false, putV, hd, hlt, ifB_true, T.setK_put]
            exact Exists.imp (fun _ h => Exists.imp (fun _ h => Exists.imp (fun _ h => ⟨h.1, h.2.1.step hd, h.2.2⟩) h) h) (opsG_ok hn h1 C ⟨_, _⟩ H r hG hr r2 _ r1)
        | some s =>
        rw [hs, onOpt_some] at h
        replace h := onOpt_some_of h; obtain ⟨G1, h1, h⟩ := h
        rw [nthL_eq] at hs
        rcases grdX_ok h hG hr hq with ⟨hw, hG⟩ | ⟨hw, hG⟩
        · obtain ⟨w, H1, g1, g2⟩ := hx C env f H _ r hq hG hr
          obtain ⟨r1, r2, r3⟩ := regs (d := d) w hs
          rw [r3] at g2
          simp only [opsV, hw, onOpt_some, ifB_true, g1, putV, hd, hlt, T.setK_put]
          exact Exists.imp (fun _ h => Exists.imp (fun _ h => Exists.imp (fun _ h => ⟨h.1, h.2.1.step hd, h.2.2⟩) h) h) (opsG_ok hn h1 C ⟨_, _⟩ H1 r g2 hr r2 _ r1)
        · obtain ⟨r1, r2, r3⟩ := regs (d := d) wUn hs
          have hG : s wUn f.l (fun l => G1 C f.e l H) = r := hG
          rw [r3] at hG
          simp only [opsV, hw, onOpt_some, ifB_false, putV, hd, hlt, ifB_true, T.setK_put]
          exact Exists.imp (fun _ h => Exists.imp (fun _ h => Exists.imp (fun _ h => ⟨h.1, h.2.1.step hd, h.2.2⟩) h) h) (opsG_ok hn h1 C ⟨_, _⟩ H r hG hr r2 _ r1)

/-! ### Drawn regions -/
noncomputable def outE (ds : List (Nat × XU × XSet)) (env : T RV) : Ev → (Ev → OQ) → OQ :=
  @List.rec (Nat × XU × XSet) (fun _ => Ev → (Ev → OQ) → OQ) (fun e k => k e) (fun p _ ih e k => onOpt (env.get p.1) .bad fun v => wOf v fun w => p.2.1 (p.2.2 w) e fun e => ih e k) ds
def DsOk (n : Nat) (ds : List (Nat × XU × XSet)) : Prop := ∀ p ∈ ds, SetOk n p.1 p.2.1 p.2.2
theorem outE_ok {env : T RV} : ∀ {ds : List (Nat × XU × XSet)} {e : Ev} {k : Ev → OQ} {r : OQ}, DsOk n ds → outE ds env e k = r → r ≠ .bad →
    ∃ e', k e' = r ∧ ∀ i, i < 256 → ((∀ p ∈ ds, p.1 ≠ i) → e'.at i = e.at i) ∧ (∀ p ∈ ds, p.1 = i → env.get i = some (e'.at i).rv)
  | [], e, k, r, _, h, _ => ⟨e, h, fun i _ => ⟨fun _ => rfl, fun p hp => by simp at hp⟩⟩
  | p :: ds, e, k, r, hd, h, hr => by
    have h : onOpt (env.get p.1) .bad (fun v => wOf v fun w => p.2.1 (p.2.2 w) e fun e => outE ds env e k) = r := h
    have hp := hd p (by simp)
    cases hg : env.get p.1 with
    | none => rw [hg] at h; exact absurd h.symm hr
    | some v =>
      rw [hg, onOpt_some] at h
      obtain ⟨w, h1, h2⟩ := wOf_eq v (fun w => p.2.1 (p.2.2 w) e fun e => outE ds env e k)
      rw [h2, hp.2.2] at h
      obtain ⟨e', h3, h4⟩ := outE_ok (ds := ds) (fun q hq => hd q (by simp [hq])) h hr
      refine ⟨e', h3, fun i hi => ⟨fun hno => ?_, fun q hq hqi => ?_⟩⟩
      · rw [(h4 i hi).1 (fun q hq => hno q (by simp [hq])), Ev.at_set e w hp.2.1 hi, if_neg (fun e => hno p (by simp) e.symm)]
      · by_cases hin : ∃ q' ∈ ds, q'.1 = i
        · obtain ⟨q', hq', hqi'⟩ := hin
          exact (h4 i hi).2 q' hq' hqi'
        · have hpi : p.1 = i := by
            rcases List.mem_cons.1 hq with rfl | hq
            · exact hqi
            · exact absurd ⟨q, hq, hqi⟩ hin
          rw [(h4 i hi).1 (fun q hq e => hin ⟨q, hq, e⟩), ← hpi, Ev.at_set e w hp.2.1 hp.2.1, if_pos rfl, hg, h1]
noncomputable def drK (o : Out) (ds : List (Nat × XU × XSet)) (e : Ev) (k : Ev → HT → OQ) : OQ := match o with | .nrm env H => outE ds env e fun e => k e H | _ => .bad
noncomputable def x_draw (tt : T RTI) (n : Nat) (ops : List Oper) (rd : List (Nat × XV Ev)) (ds : List (Nat × XU × XSet)) (K : XC) : XC := fun C e H => bldE rd e .e fun env => drK (drawV tt (CRk C) n ops env H) ds e fun e H => K C e H
noncomputable def dsOf (n m : Nat) : List Oper → Option (List (Nat × XU × XSet))
  | [] => some []
  | o :: r => onOpt (dsOf n m r) none fun l => match o.dst with | none => some l | some d => ifB (lvHas m d) (cDst n d none fun u s => some ((d, u, s) :: l)) (some l)
theorem dsOf_ok : ∀ {ops : List Oper} {ds : List (Nat × XU × XSet)}, dsOf n m ops = some ds → DsOk n ds ∧ (∀ p ∈ ds, ∃ o ∈ ops, o.dst = some p.1) ∧ ∀ o ∈ ops, ∀ d, o.dst = some d → lvHas m d = true → ∃ p ∈ ds, p.1 = d
  | [], ds, h => by simp [dsOf] at h; subst h; exact ⟨fun p hp => by simp at hp, fun p hp => by simp at hp, fun o ho => by simp at ho⟩
  | o :: r, ds, h => by
    simp only [dsOf] at h
    replace h := onOpt_some_of h; obtain ⟨l, h1, h⟩ := h
    obtain ⟨q1, q2, q3⟩ := dsOf_ok h1
    have rest : (∀ d, o.dst = some d → lvHas m d ≠ true) → ds = l → DsOk n ds ∧ (∀ p ∈ ds, ∃ o' ∈ o :: r, o'.dst = some p.1) ∧ ∀ o' ∈ o :: r, ∀ d, o'.dst = some d → lvHas m d = true → ∃ p ∈ ds, p.1 = d := fun hno e => by
      subst e
      refine ⟨q1, fun p hp => let ⟨o', ho, h2⟩ := q2 p hp; ⟨o', by simp [ho], h2⟩, fun o' ho d hd' hm => ?_⟩
      rcases List.mem_cons.1 ho with rfl | ho
      · exact absurd hm (hno d hd')
      · exact q3 o' ho d hd' hm
    split at h
    · rename_i hd
      simp only [Option.some.injEq] at h
      exact rest (fun d h' => by rw [hd] at h'; simp at h') h.symm
    · rename_i d hd
      rw [ifB_eq] at h
      split at h
      · obtain ⟨u, s, hs, h⟩ := cDst_ok h
        simp only [Option.some.injEq] at h; subst h
        refine ⟨fun p hp => ?_, fun p hp => ?_, fun o' ho d' hd' hm => ?_⟩
        · rcases List.mem_cons.1 hp with rfl | hp
          · exact hs
          · exact q1 p hp
        · rcases List.mem_cons.1 hp with rfl | hp
          · exact ⟨o, by simp, hd⟩
          · obtain ⟨o', ho, h2⟩ := q2 p hp
            exact ⟨o', by simp [ho], h2⟩
        · rcases List.mem_cons.1 ho with rfl | ho
          · rw [hd] at hd'; simp only [Option.some.injEq] at hd'
            exact ⟨(d, u, s), by simp, hd'⟩
          · obtain ⟨p, hp, h2⟩ := q3 o' ho d' hd' hm
            exact ⟨p, by simp [hp], h2⟩
      · rename_i hnm
        simp only [Option.some.injEq] at h
        exact rest (fun d' h' => by rw [hd] at h'; simp only [Option.some.injEq] at h'; rw [← h']; exact hnm) h.symm
/-- The live ones of them. -/
noncomputable def liveO (n m : Nat) (l : List Nat) : List Operand := @List.rec Nat (fun _ => List Operand) [] (fun t _ ih => ifB (Nat.blt t n) (ifB (lvHas m t) (.tmp t :: ih) ih) ih) l
theorem liveO_mem {t : Nat} (ht : t < n) (hm : lvHas m t = true) : ∀ {l : List Nat}, t ∈ l → Operand.tmp t ∈ liveO n m l
  | [], h => by simp at h
  | x :: l, h => by
    show _ ∈ ifB (Nat.blt x n) (ifB (lvHas m x) (.tmp x :: liveO n m l) (liveO n m l)) (liveO n m l)
    rcases List.mem_cons.1 h with rfl | h
    · have : Nat.blt t n = true := by rw [Nat.blt_eq]; exact ht
      rw [this, ifB_true, hm, ifB_true]; exact List.mem_cons_self
    · have ih := liveO_mem ht hm h
      rw [ifB_eq, ifB_eq]
      split
      · split
        · exact List.mem_cons_of_mem _ ih
        · exact ih
      · exact ih
noncomputable def drawX (tt : T RTI) (n m : Nat) (ops : List Oper) (K : XC) : Option XC := onOpt (rdOf (cOpE n m) (liveO n m (slotsR ops))) none fun rd => onOpt (dsOf n m ops) none fun ds => some (x_draw tt n ops rd ds K)
noncomputable def x_regn (G : XG) : XC := fun C e H => G C e q0 H
noncomputable def straX (tt : T RTI) (n m : Nat) (ops : List Oper) (K : XC) : Option XC := onOpt (opsG tt n m m ops K ops [] 0) none fun G => some (x_regn G)

/-! ### Drawn regions whose loads may stand elsewhere: straight code that keeps the heaps -/
theorem lvHas_eq (m t : Nat) : lvHas m t = m.testBit t := by
  unfold lvHas
  rw [Nat.testBit_eq_decide_div_mod_eq, Bool.eq_iff_iff, nbeq, decide_eq_true_iff]
  show (m >>> t) % 2 = 1 ↔ _
  rw [Nat.shiftRight_eq_div_pow]
noncomputable def orM (m : Nat) (l : List Oper) : Nat := @List.rec Oper (fun _ => Nat) m (fun o _ ih => match o.dst with | none => ih | some d => Nat.lor ih (Nat.shiftLeft 1 d)) l
theorem orM_has {m t : Nat} : ∀ {l : List Oper}, lvHas (orM m l) t = true ↔ lvHas m t = true ∨ ∃ o ∈ l, o.dst = some t
  | [] => by simp [orM]
  | o :: r => by
    have ih := orM_has (m := m) (t := t) (l := r)
    cases hd : o.dst with
    | none =>
      have : orM m (o :: r) = orM m r := by show (match o.dst with | none => orM m r | some d => Nat.lor (orM m r) (Nat.shiftLeft 1 d)) = _; rw [hd]
      rw [this, ih]
      simp [hd]
    | some d =>
      have : orM m (o :: r) = orM m r ||| 1 <<< d := by show (match o.dst with | none => orM m r | some d => Nat.lor (orM m r) (Nat.shiftLeft 1 d)) = _; rw [hd]; rfl
      rw [this, lvHas_eq, Nat.testBit_or, Bool.or_eq_true, ← lvHas_eq, ih, Nat.one_shiftLeft, Nat.testBit_two_pow, decide_eq_true_iff]
      simp only [List.mem_cons, exists_eq_or_imp, hd, Option.some.injEq]
      constructor
      · rintro ((h | h) | h)
        · exact .inl h
        · exact .inr (.inr h)
        · exact .inr (.inl h)
      · rintro (h | h | h)
        · exact .inl (.inl h)
        · exact .inr h
        · exact .inl (.inr h)
noncomputable def consHd (o : Oper) (l : List (List Oper)) : List (List Oper) := match l with | [] => [[o]] | c :: cs => (o :: c) :: cs
/-- Cut behind each effect. -/
noncomputable def cutS (tt : T RTI) (l : List Oper) : List (List Oper) := @List.rec Oper (fun _ => List (List Oper)) [[]] (fun o _ ih => ifB (isS tt o) ([o] :: ih) (consHd o ih)) l
theorem cutS_cons (o : Oper) (r : List Oper) : cutS tt (o :: r) = ifB (isS tt o) ([o] :: cutS tt r) (consHd o (cutS tt r)) := rfl
theorem cutS_ne : ∀ (l : List Oper), cutS tt l ≠ []
  | [] => by simp [cutS]
  | o :: r => by
    rw [cutS_cons, ifB_eq]
    split
    · simp
    · unfold consHd; split <;> simp
theorem cutS_mem : ∀ {l : List Oper} {o : Oper}, o ∈ l → ∃ c ∈ cutS tt l, o ∈ c
  | [], o, h => by simp at h
  | x :: r, o, h => by
    rw [cutS_cons, ifB_eq]
    rcases List.mem_cons.1 h with rfl | h
    · split
      · exact ⟨[o], by simp, by simp⟩
      · unfold consHd; split
        · exact ⟨[o], by simp, by simp⟩
        · exact ⟨_, List.mem_cons_self, by simp⟩
    · obtain ⟨c, hc, ho⟩ := cutS_mem h
      split
      · exact ⟨c, by simp [hc], ho⟩
      · unfold consHd; split
        · rename_i h0; rw [h0] at hc; simp at hc
        · rename_i c0 cs h0
          rw [h0] at hc
          rcases List.mem_cons.1 hc with rfl | hc
          · exact ⟨_, List.mem_cons_self, by simp [ho]⟩
          · exact ⟨c, by simp [hc], ho⟩
/-- Pieces, one behind another; the heaps ahead of each. -/
def ChR (tt : T RTI) (C : Cee) (n : Nat) (ops : List Oper) : List (List Oper) → T RV → HT → T RV → List HT → HT → Prop
  | [], env, H, env', Hs, H' => env' = env ∧ Hs = [] ∧ H' = H
  | c :: cs, env, H, env', Hs, H' => ∃ env1 H1 Hs1, opsV tt C n ops c env H = .nrm env1 H1 ∧ Hs = H :: Hs1 ∧ ChR tt C n ops cs env1 H1 env' Hs1 H'
theorem putV_nrm {dst : Option Tmp} {v : RV} {env env' : T RV} {H' : HT} {k : T RV → Out} (h : putV n env dst v .bad k = .nrm env' H') : ∃ env1, (∀ {β : Type} (b : β) (k' : T RV → β), putV n env dst v b k' = k' env1) ∧ k env1 = .nrm env' H' := by
  unfold putV at h ⊢
  cases dst with
  | none => exact ⟨env, fun _ _ => rfl, h⟩
  | some d =>
    simp only at h ⊢
    rw [ifB_eq] at h
    split at h
    · rename_i hlt
      rw [T.setK_put] at h
      refine ⟨_, fun b k' => ?_, h⟩
      rw [hlt, ifB_true, T.setK_put]
    · simp at h
/-- One operation of a text. -/
theorem opsV_one {C : Cee} {ops : List Oper} {o : Oper} {r : List Oper} {env env' : T RV} {H' : HT} (h : opsV tt C n ops (o :: r) env H = .nrm env' H') :
    ∃ env1 H1, opsV tt C n ops r env1 H1 = .nrm env' H' ∧ opsV tt C n ops [o] env H = .nrm env1 H1 ∧ (cls tt o ≤ 1 → H1 = H) ∧
      (cls tt o ≠ 2 → ∀ (r' : List Oper) (id : Nat) (ids : List Nat), runD tt C n ops (o :: r') (id :: ids) env H = consM H (isS tt o) (runD tt C n ops r' ids env1 H1)) := by
  simp only [opsV, runD] at h ⊢
  cases hw : wantV ops env o with
  | none => rw [hw, onOpt_none] at h; simp at h
  | some b =>
    rw [hw, onOpt_some] at h
    simp only [onOpt_some]
    cases b with
    | true =>
      rw [ifB_true] at h
      simp only [ifB_true]
      cases ho : opV tt C env H o.op with
      | bad => rw [ho] at h; simp at h
      | ok v H1 =>
        rw [ho] at h
        obtain ⟨env1, h1, h2⟩ := putV_nrm h
        refine ⟨env1, H1, h2, h1 _ _, fun hc => cls_read hc ho, fun hc r' id ids => ?_⟩
        have : Nat.beq (cls tt o) 2 = false := by cases h : Nat.beq (cls tt o) 2 with | false => rfl | true => exact absurd (nbeq.1 h) hc
        rw [this, ifB_false]
        exact h1 _ _
    | false =>
      rw [ifB_false] at h
      simp only [ifB_false]
      obtain ⟨env1, h1, h2⟩ := putV_nrm h
      exact ⟨env1, H, h2, h1 _ _, fun _ => rfl, fun _ r' id ids => h1 _ _⟩
theorem chR_runD {C : Cee} {ops : List Oper} : ∀ {rest : List Oper} {ids : List Nat} {env env' : T RV} {H H' : HT} {Hs : List HT}, ChR tt C n ops (cutS tt rest) env H env' Hs H' → rest.all (fun o => !Nat.beq (cls tt o) 2) = true → ids.length = rest.length →
    runD tt C n ops rest ids env H = .ok env' Hs ∧ Hs[kS tt rest rest.length]? = some H' ∧ Hs.length = kS tt rest rest.length + 1
  | [], ids, env, env', H, H', Hs, h, _, _ => by
    obtain ⟨env1, H1, Hs1, h1, rfl, h2, rfl, rfl⟩ := h
    simp only [opsV, Out.nrm.injEq] at h1
    obtain ⟨rfl, rfl⟩ := h1
    subst h2
    exact ⟨rfl, rfl, rfl⟩
  | o :: r, [], env, env', H, H', Hs, _, _, hl => by simp at hl
  | o :: r, id :: ids, env, env', H, H', Hs, h, hc, hl => by
    simp only [List.all_cons, Bool.and_eq_true, Bool.not_eq_true'] at hc
    have hl : ids.length = r.length := by simpa using hl
    have hc2 : cls tt o ≠ 2 := fun h => by rw [h] at hc; simp at hc
    rw [cutS_cons] at h
    rw [List.length_cons, kS_cons]
    cases hs : isS tt o with
    | true =>
      rw [hs, ifB_true] at h
      obtain ⟨env1, H1, Hs1, h1, rfl, h2⟩ := h
      obtain ⟨env2, H2, g1, g2, g3, g4⟩ := opsV_one h1
      have g1' : (Out.nrm env2 H2) = .nrm env1 H1 := g1
      simp only [Out.nrm.injEq] at g1'
      obtain ⟨rfl, rfl⟩ := g1'
      obtain ⟨e1, e2, e3⟩ := chR_runD h2 hc.2 hl
      rw [g4 hc2 r id ids, hs, e1, if_pos rfl]
      exact ⟨rfl, e2, by simp [e3]⟩
    | false =>
      rw [hs, ifB_false] at h
      have h3 : cls tt o ≤ 1 := by
        have h2 : cls tt o ≠ 3 := fun h3 => by rw [isS_iff.2 h3] at hs; simp at hs
        have := cls_le (tt := tt) o
        omega
      cases hcut : cutS tt r with
      | nil => exact absurd hcut (cutS_ne r)
      | cons c cs =>
        rw [hcut] at h
        obtain ⟨env1, H1, Hs1, h1, rfl, h2⟩ := h
        obtain ⟨env2, H2, g1, g2, g3, g4⟩ := opsV_one h1
        have := g3 h3; subst this
        obtain ⟨e1, e2, e3⟩ := chR_runD (rest := r) (ids := ids) (env := env2) (H := H2) (env' := env') (H' := H') (Hs := H2 :: Hs1) (by rw [hcut]; exact ⟨env1, H1, Hs1, g1, rfl, h2⟩) hc.2 hl
        rw [g4 hc2 r id ids, hs, e1, if_neg (by simp)]
        exact ⟨rfl, e2, e3⟩

abbrev XM := Cw → Ev → HT → List HT → OQ
noncomputable def x_nrmD : XC := fun _ e H => .nrm e H
noncomputable def onN (o : OQ) (k : Ev → HT → OQ) : OQ := match o with | .nrm e H => k e H | _ => .bad
noncomputable def x_go (G : XG) (K : XM) : XM := fun C e H Ms => onN (G C e q0 H) fun e H1 => K C e H1 (H :: Ms)
noncomputable def chX (tt : T RTI) (n : Nat) (ops : List Oper) (K : XM) : Nat → List (List Oper) → Option XM
  | _, [] => some K
  | m, c :: cs => forceN (orM m c) fun m1 => onOpt (opsG tt n m m1 ops x_nrmD c [] 0) none fun G => onOpt (chX tt n ops K m1 cs) none fun F => some (x_go G F)
theorem chX_ok {ops : List Oper} {K : XM} (hn : n ≤ 256) : ∀ {cs : List (List Oper)} {m : Nat} {F : XM}, chX tt n ops K m cs = some F → ∀ (C : Cw) (e : Ev) (H : HT) (Ms : List HT) (r : OQ), F C e H Ms = r → r ≠ .bad → ∀ env : T RV, LiveR n m env e →
    ∃ env' H' e' Hs, ChR tt (CRk C) n ops cs env H env' Hs H' ∧ (∀ t, t < n → (lvHas m t = true ∨ ∃ c ∈ cs, ∃ o ∈ c, o.dst = some t) → env'.get t = some (e'.at t).rv) ∧ K C e' H' (Hs.reverse ++ Ms) = r
  | [], m, F, h, C, e, H, Ms, r, hF, hr, env, hq => by
    simp only [chX, Option.some.injEq] at h; subst h
    exact ⟨env, H, e, [], ⟨rfl, rfl, rfl⟩, fun t ht hx => by
      rcases hx with hx | ⟨c, hc, _⟩
      · exact hq t ht hx
      · simp at hc, hF⟩
  | c :: cs, m, F, h, C, e, H, Ms, r, hF, hr, env, hq => by
    simp only [chX, forceN_eq] at h
    replace h := onOpt_some_of h; obtain ⟨G, h1, h⟩ := h
    replace h := onOpt_some_of h; obtain ⟨F1, h2, h⟩ := h
    simp only [Option.some.injEq] at h; subst h
    have hF : onN (G C e q0 H) (fun e H1 => F1 C e H1 (H :: Ms)) = r := hF
    unfold onN at hF
    split at hF
    · rename_i e1 H1 hG
      obtain ⟨env2, H2, e2, g1, g2, g3⟩ := opsG_ok hn h1 C ⟨e, q0⟩ H _ hG (by simp) (fun t c hc => by simp [lookC] at hc) env ⟨fun t c hc => by simp [lookC] at hc, fun t _ ht hlv => hq t ht hlv⟩
      have g3 : OQ.nrm e2 H2 = .nrm e1 H1 := g3
      simp only [OQ.nrm.injEq] at g3
      obtain ⟨rfl, rfl⟩ := g3
      obtain ⟨env', H', e', Hs, k1, k2, k3⟩ := chX_ok hn h2 C e2 H2 (H :: Ms) r hF hr env2 (fun t ht hlv => g2 t ht hlv (by
        rcases orM_has.1 hlv with h | h
        · exact .inl h
        · exact .inr (.inr h)))
      refine ⟨env', H', e', H :: Hs, ⟨env2, H2, Hs, g1, rfl, k1⟩, fun t ht hx => k2 t ht ?_, by rw [← k3]; simp⟩
      rcases hx with hx | ⟨c', hc', o, ho, hx⟩
      · exact .inl (orM_has.2 (.inl hx))
      · rcases List.mem_cons.1 hc' with rfl | hc'
        · exact .inl (orM_has.2 (.inr ⟨o, ho, hx⟩))
        · exact .inr ⟨c', hc', o, ho, hx⟩
    · exact absurd hF.symm hr
noncomputable def x_mend (K : XC) : XM := fun C e H _ => K C e H
noncomputable def x_ck (x : XO Ev) (g : XV Ev) (i : Nat) (K : XM) : XM := fun C e H Ms => onOpt (nthL Ms i) .bad fun M => x C e M fun w _ => ifB (eqRV w.rv (g e).rv) (K C e H Ms) .bad
noncomputable def ckX (tt : T RTI) (n m : Nat) (ops : List Oper) (K : XM) (k : Nat) : List (Nat × Nat) → Option XM
  | [] => some K
  | p :: ps => onOpt (nthL ops p.1) none fun o => match o.guard with
    | some _ => none
    | none => onOpt o.dst none fun d => ifB (Nat.ble p.2 k) (onOpt (cmpOp tt (cOpE n m) o.op) none fun x => onOpt (cOpE n m (.tmp d)) none fun g => onOpt (ckX tt n m ops K k ps) none fun F => forceN (Nat.sub k p.2) fun i => some (x_ck x g i F)) none
theorem ckX_ok {ops : List Oper} {K : XM} {k : Nat} {ids : List Nat} (hc2 : ops.all (fun o => !Nat.beq (cls tt o) 2) = true) : ∀ {ps : List (Nat × Nat)} {F : XM}, ckX tt n m ops K k ps = some F → ∀ (C : Cw) (e : Ev) (H : HT) (Ms Hs : List HT) (r : OQ), F C e H Ms = r → r ≠ .bad →
    (∀ t, t ≤ k → Ms[k - t]? = Hs[t]?) → ∀ env : T RV, LiveR n m env e → chkD tt (CRk C) ops ids env Hs ps = true ∧ K C e H Ms = r
  | [], F, h, C, e, H, Ms, Hs, r, hF, hr, hM, env, hq => by
    simp only [ckX, Option.some.injEq] at h; subst h
    exact ⟨rfl, hF⟩
  | (j, t) :: ps, F, h, C, e, H, Ms, Hs, r, hF, hr, hM, env, hq => by
    simp only [ckX] at h
    replace h := onOpt_some_of h; obtain ⟨o, ho, h⟩ := h
    split at h
    · simp at h
    rename_i hg
    replace h := onOpt_some_of h; obtain ⟨d, hd, h⟩ := h
    replace h := ifB_some h; obtain ⟨hle, h⟩ := h
    replace h := onOpt_some_of h; obtain ⟨x, hx, h⟩ := h
    replace h := onOpt_some_of h; obtain ⟨g, hgd, h⟩ := h
    replace h := onOpt_some_of h; obtain ⟨F1, h1, h⟩ := h
    rw [forceN_eq] at h
    simp only [Option.some.injEq] at h; subst h
    have hF : onOpt (nthL Ms (k - t)) OQ.bad (fun M => x C e M fun w _ => ifB (eqRV w.rv (g e).rv) (F1 C e H Ms) .bad) = r := hF
    rw [nthL_eq, hM t (Nat.le_of_ble_eq_true hle)] at hF
    cases hH : Hs[t]? with
    | none => rw [hH] at hF; exact absurd hF.symm hr
    | some M =>
      rw [hH, onOpt_some] at hF
      obtain ⟨w, H1, g1, g2⟩ := cmpOp_ok cOpE_ok hx C env e M _ r hq hF hr
      rcases ifB_of g2 with ⟨q1, g2⟩ | ⟨_, g2⟩
      · obtain ⟨c1, c2⟩ := ckX_ok (ids := ids) hc2 h1 C e H Ms Hs r g2 hr hM env hq
        refine ⟨?_, c2⟩
        have hn2 : Nat.beq (cls tt o) 2 = false := by
          have := List.all_eq_true.1 hc2 o (by rw [nthL_eq] at ho; exact List.mem_of_getElem? ho)
          simpa using this
        have hw : wantV ops env o = some true := by unfold wantV; rw [hg]
        have hu : env.get d = some (g e).rv := cOpE_ok _ _ hgd env e hq
        simp only [chkD, ho, onOpt_some, nthL_eq, hH, hn2, ifB_false, hw, ifB_true, g1, hd, hu, q1]
        exact c1
      · exact absurd g2.symm hr
noncomputable def x_draw2 (F : XM) : XC := fun C e H => F C e H []
noncomputable def drawX2 (tt : T RTI) (n m : Nat) (ops : List Oper) (K : XC) : Option XC :=
  ifB (drawOk tt ops) (ifB (ops.all fun o => !Nat.beq (cls tt o) 2)
    (onOpt (ckX tt n (orM m ops) ops (x_mend K) (kS tt ops ops.length) (pairsD tt ops)) none fun F => onOpt (chX tt n ops F m (cutS tt ops)) none fun F => some (x_draw2 F)) none) none
theorem drawX2_ok (hn : n ≤ 256) {ops : List Oper} {K F : XC} (h : drawX2 tt n m ops K = some F) (C : Cw) {e : Ev} {r : OQ} (hF : F C e H = r) (hr : r ≠ .bad) {env : T RV} (hq : LiveR n m env e) :
    ∃ env' H' e', drawV tt (CRk C) n ops env H = .nrm env' H' ∧ LiveR n m env' e' ∧ K C e' H' = r := by
  unfold drawX2 at h
  replace h := ifB_some h; obtain ⟨hok, h⟩ := h
  replace h := ifB_some h; obtain ⟨hc2, h⟩ := h
  replace h := onOpt_some_of h; obtain ⟨F1, h1, h⟩ := h
  replace h := onOpt_some_of h; obtain ⟨F2, h2, h⟩ := h
  simp only [Option.some.injEq] at h; subst h
  obtain ⟨env', H', e', Hs, k1, k2, k3⟩ := chX_ok hn h2 C e H [] r hF hr env hq
  obtain ⟨e1, e2, e3⟩ := chR_runD (ids := ops.map fun _ => 0) k1 hc2 (by simp)
  have hlive : LiveR n (orM m ops) env' e' := fun t ht hlv => k2 t ht (by
    rcases orM_has.1 hlv with h | ⟨o, ho, h⟩
    · exact .inl h
    · obtain ⟨c, hc, ho⟩ := cutS_mem (tt := tt) ho
      exact .inr ⟨c, hc, o, ho, h⟩)
  obtain ⟨c1, c2⟩ := ckX_ok (ids := ops.map fun _ => 0) hc2 h1 C e' H' _ Hs r k3 hr (fun t ht => by
    rw [List.append_nil, List.getElem?_reverse (by omega)]
    congr 1; omega) env' hlive
  refine ⟨env', H', e', ?_, fun t ht hlv => hlive t ht (orM_has.2 (.inl hlv)), c2⟩
  unfold drawV
  rw [hok, ifB_true, preV_plain hc2, onOpt_some]
  simp only [e1, c1, ifB_true]
  rw [nthL_eq, e2, onOpt_some]

noncomputable def regX (tt : T RTI) (n m : Nat) (ops : List Oper) (draw : Bool) (K : XC) : Option XC := ifB draw (ifB (plainD tt ops) (straX tt n m ops K) (onOpt (drawX2 tt n m ops K) (drawX tt n m ops K) some)) (straX tt n m ops K)

theorem regX_sound (hT : TtOk P tt) (hm : P.follows .mixedOrders = true) (hn : n ≤ 256) {C : Cw} (hC : SoundW P C) {ops : List Oper} {draw : Bool} {K F : XC} (h : regX tt n m ops draw K = some F) {id : Nat} {e : Ev} {r : OQ} (hF : F C e H = r) (hr : r ≠ .bad)
    {Q : Exit → Act → World → Prop} (mm : Mem N h0 Γ w0.heap H) (re : EnvQ Γ n m e a) (hQ : ∀ Γ' w' a' e' H', Ext N h0 Γ w0 H Γ' w' H' → EnvQ Γ' n m e' a' → K C e' H' = r → Q .normal a' w') : (Code.region id ops.toArray draw).wp P Q a w0 := by
  unfold regX at h
  have seqq : straX tt n m ops K = some F → ∃ env' H' e', opsV tt (CRk C) n ops ops (envM m n e) H = .nrm env' H' ∧ LiveR n m env' e' ∧ K C e' H' = r := fun h => by
    unfold straX at h
    replace h := onOpt_some_of h; obtain ⟨G, h1, h⟩ := h
    simp only [Option.some.injEq] at h; subst h
    exact Exists.imp (fun _ h => Exists.imp (fun _ h => Exists.imp (fun _ h => ⟨h.1, fun t ht hm => h.2.1 t ht hm (.inl hm), h.2.2⟩) h) h) (opsG_ok hn h1 C ⟨e, q0⟩ H r hF hr (fun t c hc => by simp [lookC] at hc) _ ⟨fun t c hc => by simp [lookC] at hc, fun t _ ht hlv => liveR_envM n m e t ht hlv⟩)
  cases draw with
  | false =>
    rw [ifB_false] at h
    obtain ⟨env', H', e', h1, h2, h3⟩ := seqq h
    exact region_sound hT (CRk_sound hC) h1 mm re.ok (fun Γ' w' a' hx hr => hQ Γ' w' a' e' H' hx (envQ_of hr h2) h3)
  | true =>
    rw [ifB_true] at h
    cases hp : plainD tt ops with
    | true =>
      rw [hp, ifB_true] at h
      obtain ⟨env', H', e', h1, h2, h3⟩ := seqq h
      rw [← plainD_eq hp] at h1
      exact drawn_sound hT (CRk_sound hC) hm h1 mm re.ok (fun Γ' w' a' hx hr => hQ Γ' w' a' e' H' hx (envQ_of hr h2) h3)
    | false =>
      rw [hp, ifB_false] at h
      cases h2 : drawX2 tt n m ops K with
      | some F2 =>
        rw [h2, onOpt_some] at h
        simp only [Option.some.injEq] at h; subst h
        obtain ⟨env', H', e', h1, h3, h4⟩ := drawX2_ok hn h2 C hF hr (liveR_envM n m e)
        exact drawn_sound hT (CRk_sound hC) hm h1 mm re.ok (fun Γ' w' a' hx hr => hQ Γ' w' a' e' H' hx (envQ_of hr h3) h4)
      | none =>
      rw [h2, onOpt_none] at h
      unfold drawX at h
      replace h := onOpt_some_of h; obtain ⟨rd, h1, h⟩ := h
      replace h := onOpt_some_of h; obtain ⟨ds, h2, h⟩ := h
      simp only [Option.some.injEq] at h; subst h
      obtain ⟨q1, q2⟩ := rdOf_ok cOpE_ok (liveR_envM n m e) h1
      obtain ⟨q3, q4, q5⟩ := dsOf_ok h2
      have hF : bldE rd e .e (fun env => drK (drawV tt (CRk C) n ops env H) ds e fun e H => K C e H) = r := hF
      rw [bldE_eq] at hF
      obtain ⟨b1, _, b3⟩ := bldT_get (env1 := .e) q1 (fun t v hv => by simp [T.get_e] at hv)
      have hag : Agree (slotsR ops) (envM m n e) (bldT rd e .e) := fun t ht => by
        by_cases hl : t < n ∧ lvHas m t = true
        · obtain ⟨p, hp, rfl⟩ := q2 t (liveO_mem hl.1 hl.2 ht)
          exact (b3 p hp).symm
        · have hnone : (envM m n e).get t = none := by rw [envM_get, if_neg hl]
          cases hb : (bldT rd e .e).get t with
          | none => exact hnone
          | some v => rw [b1 t v hb] at hnone; simp at hnone
      have hL : ∀ o ∈ ops, ∀ t ∈ slotsO ops o, t ∈ slotsR ops := fun o ho t ht => List.mem_flatMap.2 ⟨o, ho, ht⟩
      unfold drK at hF
      split at hF
      · rename_i f2 H' hd
        obtain ⟨f1, hd1, hf, hout⟩ := drawV_congr hL hag hd
        obtain ⟨e', h3, h4⟩ := outE_ok q3 hF hr
        refine drawn_sound hT (CRk_sound hC) hm hd1 mm re.ok (fun Γ' w' a' hx hre => hQ Γ' w' a' e' H' hx (envQ_of (env := f1) hre fun t ht hlv => ?_) h3)
        by_cases hin : ∃ p ∈ ds, p.1 = t
        · obtain ⟨p, hp, rfl⟩ := hin
          obtain ⟨o, ho, hod⟩ := q4 p hp
          rw [hf p.1 (hL o ho p.1 (by unfold slotsO; rw [hod]; simp))]
          exact (h4 p.1 (by omega)).2 p hp rfl
        · rw [hout t (fun o ho hod => by
            obtain ⟨p, hp, hpt⟩ := q5 o ho t hod hlv
            exact hin ⟨p, hp, hpt⟩), envM_get, if_pos ⟨ht, hlv⟩, (h4 t (by omega)).1 (fun p hp hpt => hin ⟨p, hp, hpt⟩)]
      · exact absurd hF.symm hr
end
end Go.Rx

/- Closed runs: threaded code: code, functions; what a run answers. -/
namespace Go.Rx

/-! ### Code -/
noncomputable def x_if (g : XV Ev) (A B : XC) : XC := fun C e H => one 1 (g e) .bad fun x _ => ifB (Nat.beq x 1) (A C e H) (B C e H)
noncomputable def x_no : XC := fun _ _ _ => .bad
noncomputable def x_nrm : XC := fun _ e H => .nrm e H
noncomputable def x_out (id : Nat) : XC := fun _ e H => .ext id e H
noncomputable def x_ret : XC := fun _ e H => .ret e H
noncomputable def disp (ex : List (Nat × XC)) (id : Nat) (C : Cw) (e : Ev) (H : HT) : OQ := @List.rec (Nat × XC) (fun _ => OQ) .bad (fun p _ ih => ifB (Nat.beq p.1 id) (p.2 C e H) ih) ex
noncomputable def lookX (ex : List (Nat × XC)) (id : Nat) : Option XC := @List.rec (Nat × XC) (fun _ => Option XC) none (fun p _ ih => ifB (Nat.beq p.1 id) (some p.2) ih) ex
noncomputable def outX (ex : List (Nat × XC)) : List (Nat × XC) := @List.rec (Nat × XC) (fun _ => List (Nat × XC)) [] (fun p _ ih => (p.1, x_out p.1) :: ih) ex
noncomputable def endL (o : OQ) (kn : Ev → HT → OQ) (ke : Nat → Ev → HT → OQ) (kr : Ev → HT → OQ) : OQ := @OQ.rec (fun _ => OQ) kn ke kr .bad o
noncomputable def x_loop (big : Nat) (Kb : XC) (ex : List (Nat × XC)) (kr : XC) : XC := fun C e H =>
  @Nat.rec (fun _ => Ev → HT → OQ) (fun _ _ => .bad) (fun _ ih e H => endL (Kb C e H) ih (fun id e H => disp ex id C e H) fun e H => kr C e H) big e H
theorem lookX_disp {id : Nat} {K : XC} (C : Cw) (e : Ev) (H : HT) : ∀ {ex : List (Nat × XC)}, lookX ex id = some K → disp ex id C e H = K C e H
  | [], h => by simp [lookX] at h
  | p :: ex, h => by
    have h : ifB (Nat.beq p.1 id) (some p.2) (lookX ex id) = some K := h
    show ifB (Nat.beq p.1 id) (p.2 C e H) (disp ex id C e H) = _
    cases hb : Nat.beq p.1 id with
    | true => rw [hb, ifB_true] at h; rw [ifB_true]; simp only [Option.some.injEq] at h; rw [h]
    | false => rw [hb, ifB_false] at h; rw [ifB_false]; exact lookX_disp C e H h
theorem disp_out {id : Nat} {C : Cw} {e : Ev} {H : HT} {r : OQ} (hr : r ≠ .bad) : ∀ {ex : List (Nat × XC)}, disp (outX ex) id C e H = r → r = .ext id e H
  | [], h => absurd h.symm hr
  | p :: ex, h => by
    have h : ifB (Nat.beq p.1 id) (x_out p.1 C e H) (disp (outX ex) id C e H) = r := h
    rcases ifB_of h with ⟨h1, h2⟩ | ⟨_, h2⟩
    · rw [← h2, nbeq.1 h1]; rfl
    · exact disp_out hr h2

noncomputable def cmpC (tt : T RTI) (n m big : Nat) (c : Code) : XC → List (Nat × XC) → XC → Option XC :=
  @Code.rec (fun _ => XC → List (Nat × XC) → XC → Option XC)
    (fun kn _ _ => some kn)
    (fun _ ops draw kn _ _ => onOpt (regX tt n m ops.toList draw kn) (some x_no) fun K => some K)
    (fun _ _ ca cb kn ex kr => onOpt (cb kn ex kr) none fun K => ca K ex kr)
    (fun g _ _ ca cb kn ex kr => onOpt (cOpE n m g) none fun g => onOpt (ca kn ex kr) none fun A => onOpt (cb kn ex kr) none fun B => some (x_if g A B))
    (fun id _ cb kn ex kr => cb kn ((id, kn) :: ex) kr)
    (fun _ cb _ ex kr => onOpt (cb x_nrm (outX ex) x_ret) none fun K => some (x_loop big K ex kr))
    (fun _ _ _ _ _ _ _ _ _ => some x_no)
    (fun id _ ex _ => onOpt (lookX ex id) (some x_no) fun K => some K)
    (fun _ cb kn ex kr => cb kn ex kr)
    (fun _ kn _ _ => some kn)
    (fun _ _ _ _ => some x_no)
    (fun _ _ kr => some kr)
    (fun _ _ _ _ => some x_no) c

section
variable {P : Program} {tt : T RTI} {n m big : Nat} {N : Nat} {h0 : Heap}

theorem cmpC_sound (hT : TtOk P tt) (hm : P.follows .mixedOrders = true) (hn : n ≤ 256) {C : Cw} (hC : SoundW P C) : ∀ (c : Code) (kn : XC) (ex : List (Nat × XC)) (kr K : XC), cmpC tt n m big c kn ex kr = some K →
    ∀ (e : Ev) (H : HT) (r : OQ), K C e H = r → r ≠ .bad → ∀ (Γ : Gm) (w : World) (a : Act) (R : Exit → Act → World → Prop), Mem N h0 Γ w.heap H → EnvQ Γ n m e a →
    (∀ Γ' w' a' e' H', Ext N h0 Γ w H Γ' w' H' → EnvQ Γ' n m e' a' → kn C e' H' = r → R .normal a' w') →
    (∀ id Γ' w' a' e' H', Ext N h0 Γ w H Γ' w' H' → EnvQ Γ' n m e' a' → disp ex id C e' H' = r → R (.exit id) a' w') →
    (∀ Γ' w' a' e' H', Ext N h0 Γ w H Γ' w' H' → EnvQ Γ' n m e' a' → kr C e' H' = r → R .ret a' w') → c.wp P R a w := by
  intro c
  induction c with
  | skip => intro kn ex kr K h e H r hK hr Γ w a R mm re h1 h2 h3; simp only [cmpC, Option.some.injEq] at h; subst h; exact wp_skip (h1 Γ w a e H (Ext.refl mm) re hK)
  | label l => intro kn ex kr K h e H r hK hr Γ w a R mm re h1 h2 h3; simp only [cmpC, Option.some.injEq] at h; subst h; exact wp_label (h1 Γ w a e H (Ext.refl mm) re hK)
  | ret => intro kn ex kr K h e H r hK hr Γ w a R mm re h1 h2 h3; simp only [cmpC, Option.some.injEq] at h; subst h; exact wp_ret (h3 Γ w a e H (Ext.refl mm) re hK)
  | exit id =>
    intro kn ex kr K h e H r hK hr Γ w a R mm re h1 h2 h3
    have h : onOpt (lookX ex id) (some x_no) (fun K => some K) = some K := h
    cases hl : lookX ex id with
    | none => rw [hl, onOpt_none] at h; simp only [Option.some.injEq] at h; subst h; exact absurd hK.symm hr
    | some K' =>
      rw [hl, onOpt_some] at h; simp only [Option.some.injEq] at h; subst h
      exact wp_exit (h2 id Γ w a e H (Ext.refl mm) re (by rw [lookX_disp C e H hl]; exact hK))
  | region id ops draw =>
    intro kn ex kr K h e H r hK hr Γ w a R mm re h1 h2 h3
    have h : onOpt (regX tt n m ops.toList draw kn) (some x_no) (fun K => some K) = some K := h
    cases hl : regX tt n m ops.toList draw kn with
    | none => rw [hl, onOpt_none] at h; simp only [Option.some.injEq] at h; subst h; exact absurd hK.symm hr
    | some K' =>
      rw [hl, onOpt_some] at h; simp only [Option.some.injEq] at h; subst h
      have := regX_sound (id := id) (Q := R) hT hm hn hC hl hK hr mm re h1
      rwa [show ops.toList.toArray = ops by simp] at this
  | seq x y ihx ihy =>
    intro kn ex kr K h e H r hK hr Γ w a R mm re h1 h2 h3
    have h : onOpt (cmpC tt n m big y kn ex kr) none (fun K => cmpC tt n m big x K ex kr) = some K := h
    replace h := onOpt_some_of h; obtain ⟨Ky, h4, h⟩ := h
    exact wp_seq (ihx Ky ex kr K h e H r hK hr Γ w a _ mm re (fun Γ' w' a' e' H' hx hre hk =>
      ihy kn ex kr Ky h4 e' H' r hk hr Γ' w' a' R hx.mem hre (fun Γ2 w2 a2 e2 H2 hx2 => h1 Γ2 w2 a2 e2 H2 (hx.trans hx2)) (fun id Γ2 w2 a2 e2 H2 hx2 => h2 id Γ2 w2 a2 e2 H2 (hx.trans hx2)) (fun Γ2 w2 a2 e2 H2 hx2 => h3 Γ2 w2 a2 e2 H2 (hx.trans hx2)))
      (fun id Γ' w' a' e' H' hx hre hk => h2 id Γ' w' a' e' H' hx hre hk) (fun Γ' w' a' e' H' hx hre hk => h3 Γ' w' a' e' H' hx hre hk))
  | cond g x y ihx ihy =>
    intro kn ex kr K h e H r hK hr Γ w a R mm re h1 h2 h3
    have h : onOpt (cOpE n m g) none (fun g => onOpt (cmpC tt n m big x kn ex kr) none fun A => onOpt (cmpC tt n m big y kn ex kr) none fun B => some (x_if g A B)) = some K := h
    replace h := onOpt_some_of h; obtain ⟨g', h4, h⟩ := h
    replace h := onOpt_some_of h; obtain ⟨A, h5, h⟩ := h
    replace h := onOpt_some_of h; obtain ⟨B, h6, h⟩ := h
    simp only [Option.some.injEq] at h; subst h
    rcases one_ok (show one 1 (g' e) .bad (fun x _ => ifB (Nat.beq x 1) (A C e H) (B C e H)) = r from hK) with ⟨q1, hK⟩ | hK
    · have hv := re.ok.ev (cOpE_ok _ _ h4 _ _ (liveR_envM n m e))
      rw [rv_bool q1] at hv
      refine wp_cond (rep_bool hv) ?_
      rcases ifB_of hK with ⟨q2, hK⟩ | ⟨q2, hK⟩
      · rw [q2, if_pos rfl]; exact ihx kn ex kr A h5 e H r hK hr Γ w a R mm re h1 h2 h3
      · rw [q2, if_neg (by simp)]; exact ihy kn ex kr B h6 e H r hK hr Γ w a R mm re h1 h2 h3
    · exact absurd hK.symm hr
  | block id b ih =>
    intro kn ex kr K h e H r hK hr Γ w a R mm re h1 h2 h3
    have h : cmpC tt n m big b kn ((id, kn) :: ex) kr = some K := h
    refine wp_block (ih kn ((id, kn) :: ex) kr K h e H r hK hr Γ w a _ mm re h1 (fun j Γ' w' a' e' H' hx hre hk => ?_) h3)
    have hk : ifB (Nat.beq id j) (kn C e' H') (disp ex j C e' H') = r := hk
    simp only [Exit.inBlock]
    rcases ifB_of hk with ⟨q, hk⟩ | ⟨q, hk⟩
    · rw [if_pos (nbeq.1 q).symm]; exact h1 Γ' w' a' e' H' hx hre hk
    · rw [if_neg (fun hj => by rw [hj] at q; simp at q)]; exact h2 j Γ' w' a' e' H' hx hre hk
  | loop b ih =>
    intro kn ex kr K h e H r hK hr Γ w a R mm re h1 h2 h3
    have h : onOpt (cmpC tt n m big b x_nrm (outX ex) x_ret) none (fun K => some (x_loop big K ex kr)) = some K := h
    replace h := onOpt_some_of h; obtain ⟨Kb, h4, h⟩ := h
    simp only [Option.some.injEq] at h; subst h
    have key : ∀ (k : Nat) (e1 : Ev) (H1 : HT) (Γ1 : Gm) (w1 : World) (a1 : Act), @Nat.rec (fun _ => Ev → HT → OQ) (fun _ _ => .bad) (fun _ ih e H => endL (Kb C e H) ih (fun id e H => disp ex id C e H) fun e H => kr C e H) k e1 H1 = r →
        Ext N h0 Γ w H Γ1 w1 H1 → EnvQ Γ1 n m e1 a1 → Code.rounds P b R k a1 w1 := by
      intro k
      induction k with
      | zero => intro e1 H1 Γ1 w1 a1 h; exact absurd h.symm hr
      | succ k ihk =>
        intro e1 H1 Γ1 w1 a1 h hx hre
        have h : endL (Kb C e1 H1) (@Nat.rec (fun _ => Ev → HT → OQ) (fun _ _ => .bad) (fun _ ih e H => endL (Kb C e H) ih (fun id e H => disp ex id C e H) fun e H => kr C e H) k) (fun id e H => disp ex id C e H) (fun e H => kr C e H) = r := h
        have hb : Kb C e1 H1 ≠ .bad := fun hb => by rw [hb] at h; exact hr h.symm
        refine ih x_nrm (outX ex) x_ret Kb h4 e1 H1 _ rfl hb Γ1 w1 a1 _ hx.mem hre (fun Γ' w' a' e' H' hx' hre' hk => ?_) (fun id Γ' w' a' e' H' hx' hre' hk => ?_) (fun Γ' w' a' e' H' hx' hre' hk => ?_)
        · rw [← hk] at h
          exact ihk e' H' Γ' w' a' h (hx.trans hx') hre'
        · rw [disp_out hb hk] at h
          exact h2 id Γ' w' a' e' H' (hx.trans hx') hre' h
        · rw [← hk] at h
          exact h3 Γ' w' a' e' H' (hx.trans hx') hre' h
    exact wp_loop_rounds big (key big e H Γ w a hK (Ext.refl mm) re)
  | rangeFunc => intro kn ex kr K h e H r hK hr; simp only [cmpC, Option.some.injEq] at h; subst h; exact absurd hK.symm hr
  | scope b ih =>
    intro kn ex kr K h e H r hK hr Γ w a R mm re h1 h2 h3
    have h : cmpC tt n m big b kn ex kr = some K := h
    exact wp_scope_straight (ih kn ex kr K h e H r hK hr Γ w a _ mm re h1 h2 h3)
  | goto => intro kn ex kr K h e H r hK hr; simp only [cmpC, Option.some.injEq] at h; subst h; exact absurd hK.symm hr
  | refuse => intro kn ex kr K h e H r hK hr; simp only [cmpC, Option.some.injEq] at h; subst h; exact absurd hK.symm hr

/-! ### Results -/
abbrev XR := Ev → HT → OW
noncomputable def r_one (a : XV Ev) : XR := fun e H => forceW (a e) fun w => .ok w H
noncomputable def rsK (l : List (XV Ev × Option RTI)) (e : Ev) (H : HT) : (List RV → OW) → OW :=
  @List.rec (XV Ev × Option RTI) (fun _ => (List RV → OW) → OW) (fun k => k []) (fun p _ ih k => @Option.rec RTI (fun _ => OW) ((p.1 e).rvK fun v => ih fun r => k (v :: r)) (fun ti => onOpt (loadV ti H (p.1 e).rv) .bad fun v => ih fun r => k (v :: r)) p.2) l
noncomputable def packK (vs : List RV) (H : HT) : OW := match vs with | [v] => wOf v fun w => .ok w H | vs => .ok ⟨.tup vs, 0, 0, 0, 0, 0, 0⟩ H
noncomputable def r_many (l : List (XV Ev × Option RTI)) : XR := fun e H => rsK l e H fun vs => packK vs H
noncomputable def rsX (tt : T RTI) (n m : Nat) : List ResultVar → Option (List (XV Ev × Option RTI))
  | [] => some []
  | .tmp t :: r => onOpt (cOpE n m (.tmp t)) none fun a => onOpt (rsX tt n m r) none fun l => some ((a, none) :: l)
  | .cell t ty :: r => onOpt (cOpE n m (.tmp t)) none fun a => onOpt (tt.get ty) none fun ti => onOpt (rsX tt n m r) none fun l => some ((a, some ti) :: l)
noncomputable def resX (tt : T RTI) (n m : Nat) (res : List ResultVar) : Option XR :=
  match res with
  | [.tmp t] => onOpt (cOpE n m (.tmp t)) none fun a => some (r_one a)
  | res => onOpt (rsX tt n m res) none fun l => some (r_many l)
theorem rsK_ok {e : Ev} {H : HT} : ∀ {res : List ResultVar} {l : List (XV Ev × Option RTI)} {k : List RV → OW} {r : OW}, rsX tt n m res = some l → rsK l e H k = r → r ≠ .bad → ∃ vs, resVs tt (envM m n e) H res = some vs ∧ k vs = r
  | [], l, k, r, h, hk, hr => by simp [rsX] at h; subst h; exact ⟨[], rfl, hk⟩
  | .tmp t :: res, l, k, r, h, hk, hr => by
    simp only [rsX] at h
    replace h := onOpt_some_of h; obtain ⟨a, h1, h⟩ := h
    replace h := onOpt_some_of h; obtain ⟨l', h2, h⟩ := h
    simp only [Option.some.injEq] at h; subst h
    have hk : (a e).rvK (fun v => rsK l' e H fun r => k (v :: r)) = r := hk
    rw [W.rvK_eq] at hk
    obtain ⟨vs, h3, h4⟩ := rsK_ok h2 hk hr
    have := cOpE_ok _ _ h1 _ _ (liveR_envM n m e)
    exact ⟨_, by simp only [resVs]; rw [show (envM m n e).get t = some (a e).rv from this, onOpt_some, h3, onOpt_some], h4⟩
  | .cell t ty :: res, l, k, r, h, hk, hr => by
    simp only [rsX] at h
    replace h := onOpt_some_of h; obtain ⟨a, h1, h⟩ := h
    replace h := onOpt_some_of h; obtain ⟨ti, h5, h⟩ := h
    replace h := onOpt_some_of h; obtain ⟨l', h2, h⟩ := h
    simp only [Option.some.injEq] at h; subst h
    have hk : onOpt (loadV ti H (a e).rv) .bad (fun v => rsK l' e H fun r => k (v :: r)) = r := hk
    cases hv : loadV ti H (a e).rv with
    | none => rw [hv] at hk; exact absurd hk.symm hr
    | some v =>
      rw [hv, onOpt_some] at hk
      obtain ⟨vs, h3, h4⟩ := rsK_ok h2 hk hr
      have := cOpE_ok _ _ h1 _ _ (liveR_envM n m e)
      exact ⟨_, by simp only [resVs]; rw [show (envM m n e).get t = some (a e).rv from this, onOpt_some, tyK_at h5, hv, onOpt_some, h3, onOpt_some], h4⟩
theorem packK_ok {vs : List RV} {H H' : HT} {w : W} (h : packK vs H = .ok w H') : (match vs with | [v] => OR.ok v H | vs => .ok (.tup vs) H) = .ok w.rv H' := by
  unfold packK at h
  split at h
  · rename_i v
    obtain ⟨w', h1, h2⟩ := wOf_eq v (fun w => OW.ok w H)
    rw [h2] at h
    simp only [OW.ok.injEq] at h
    obtain ⟨rfl, rfl⟩ := h
    rw [h1]
  · rename_i hne
    simp only [OW.ok.injEq] at h
    obtain ⟨rfl, rfl⟩ := h
    rfl
theorem resX_ok {res : List ResultVar} {R : XR} (h : resX tt n m res = some R) {e : Ev} {H H' : HT} {w : W} (hR : R e H = .ok w H') : resV tt res (envM m n e) H = .ok w.rv H' := by
  unfold resX at h
  split at h
  · rename_i t
    replace h := onOpt_some_of h; obtain ⟨a, h1, h⟩ := h
    simp only [Option.some.injEq] at h; subst h
    have hR : OW.ok (a e) H = .ok w H' := hR
    simp only [OW.ok.injEq] at hR
    obtain ⟨rfl, rfl⟩ := hR
    have := cOpE_ok _ _ h1 _ _ (liveR_envM n m e)
    unfold resV
    simp only [resVs]
    rw [show (envM m n e).get t = some (a e).rv from this]
    rfl
  · replace h := onOpt_some_of h; obtain ⟨l, h1, h⟩ := h
    simp only [Option.some.injEq] at h; subst h
    have hR : rsK l e H (fun vs => packK vs H) = .ok w H' := hR
    obtain ⟨vs, h2, h3⟩ := rsK_ok h1 hR (by simp)
    unfold resV
    rw [h2, onOpt_some]
    exact packK_ok h3

/-! ### Functions -/
noncomputable def entK (args : List RV) : List (W → Q W → (Q W → OW) → OW) → Q W → (Q W → OW) → OW :=
  @List.rec RV (fun _ => List (W → Q W → (Q W → OW) → OW) → Q W → (Q W → OW) → OW) (fun _ q k => k q)
    (fun v _ ih ss q k => @List.rec (W → Q W → (Q W → OW) → OW) (fun _ => OW) .bad (fun s ss _ => wOf v fun w => s w q fun q => ih ss q k) ss) args
theorem entK_ok : ∀ {args : List RV} {i : Nat} {q : Q W} {k : Q W → OW} {r : OW}, entK args ((putS W OW).drop i) q k = r → r ≠ .bad →
    ∃ q', k q' = r ∧ ∀ j, j < 16 → (∀ v, i ≤ j → args[j - i]? = some v → (q'.at j).rv = v) ∧ ((j < i ∨ i + args.length ≤ j) → q'.at j = q.at j)
  | [], i, q, k, r, h, hr => ⟨q, h, fun j hj => ⟨fun v _ hv => by simp at hv, fun _ => rfl⟩⟩
  | v :: args, i, q, k, r, h, hr => by
    have h : @List.rec (W → Q W → (Q W → OW) → OW) (fun _ => OW) .bad (fun s ss _ => wOf v fun w => s w q fun q => entK args ss q k) ((putS W OW).drop i) = r := h
    cases hs : (putS W OW).drop i with
    | nil => rw [hs] at h; exact absurd h.symm hr
    | cons s ss =>
      rw [hs] at h
      have h : wOf v (fun w => s w q fun q => entK args ss q k) = r := h
      obtain ⟨w, h1, h2⟩ := wOf_eq v (fun w => s w q fun q => entK args ss q k)
      rw [h2] at h
      have hsi : (putS W OW)[i]? = some s := by
        have := congrArg (fun l => l[0]?) hs
        simpa using this
      have hss : ss = (putS W OW).drop (i + 1) := by
        have := congrArg List.tail hs
        simpa [List.tail_drop] using this.symm
      obtain ⟨hi, hp⟩ := putS_spec w q (fun q => entK args ss q k) i hsi
      rw [hp, hss] at h
      obtain ⟨q', h3, h5⟩ := entK_ok h hr
      refine ⟨q', h3, fun j hj => ⟨fun u hij hu => ?_, fun hout => ?_⟩⟩
      · by_cases hji : j = i
        · subst hji
          simp at hu; subst hu
          rw [(h5 j hj).2 (.inl (by omega)), Q.at_put q w j hi j hj, if_pos rfl, h1]
        · have := (h5 j hj).1 u (by omega) (by
            rw [show j - i = (j - (i + 1)) + 1 by omega, List.getElem?_cons_succ] at hu; exact hu)
          exact this
      · simp only [List.length_cons] at hout
        rw [(h5 j hj).2 (by omega), Q.at_put q w i hi j hj, if_neg (by omega)]

noncomputable def endW (R : XR) (o : OQ) : OW := @OQ.rec (fun _ => OW) (fun e H => R e H) (fun _ _ _ => .bad) (fun e H => R e H) .bad o
noncomputable def owOf (o : OR) : OW := match o with | .ok v H => wOf v fun w => .ok w H | .bad => .bad
/-- Which slots are read elsewhere than where they are laid. -/
noncomputable def useM (D : Nat) (l : List Operand) (m : Nat) : Nat := @List.rec Operand (fun _ => Nat) m (fun x _ ih => match x with | .tmp t => ifB (lvHas D t) ih (Nat.lor ih (Nat.shiftLeft 1 t)) | _ => ih) l
noncomputable def lvO (ops : List Oper) : List Oper → Nat → Nat → Nat
  | [], _, m => m
  | o :: r, D, m => forceN (useM D ((match o.guard with | some (j, _) => onOpt (nthL ops j) [] fun oj => onOpt oj.dst [] fun t => [Operand.tmp t] | none => []) ++ o.op.operands.toList) m) fun m => (match o.dst with | some d => lvO ops r (Nat.lor D (Nat.shiftLeft 1 d)) m | none => lvO ops r D m)
noncomputable def lvC (c : Code) : Nat → Nat :=
  @Code.rec (fun _ => Nat → Nat) (fun m => m) (fun _ ops _ m => lvO ops.toList ops.toList 0 m) (fun _ _ a b m => forceN (a m) fun m => b m) (fun g _ _ a b m => forceN (useM 0 [g] m) fun m => forceN (a m) fun m => b m) (fun _ _ b m => b m) (fun _ b m => b m)
    (fun _ _ _ _ _ _ m => m) (fun _ m => m) (fun _ b m => b m) (fun _ m => m) (fun _ m => m) (fun m => m) (fun _ m => m) c
noncomputable def lvR (res : List ResultVar) (m : Nat) : Nat := useM 0 (res.map fun r => match r with | .tmp t => Operand.tmp t | .cell t _ => Operand.tmp t) m
noncomputable def fnX (tt : T RTI) (n big : Nat) (res : List ResultVar) (c : Code) : Option (XC × XR) := ifB (Nat.ble n 256) (forceN (lvR res 0) fun m => forceN (lvC c m) fun m => onOpt (cmpC tt n m big c x_nrm [] x_ret) none fun K => onOpt (resX tt n m res) none fun R => some (K, R)) none
noncomputable def feW (tt : T RTI) (big : Nat) (C : Cw) (fe : FE) (args : List RV) (H : HT) : OW :=
  match fe with
  | .code n res c => onOpt (fnX tt n big res c) .bad fun p => ifB (Nat.ble (lenL args) n) (ifB (Nat.ble (lenL args) 16) (entK args (putS W OW) q0 fun q => endW p.2 (p.1 C ⟨q, q0, q0, q0, q0, q0, q0, q0, q0, q0, q0, q0, q0, q0, q0, q0⟩ H)) .bad) .bad
  | .same => owOf (sameV args H)
  | .known b => owOf (knownV b args H)
  | .pure g => owOf (okV (g args) H)
  | .room e => owOf (roomV e args H)
noncomputable def funW (tt : T RTI) (ft : T FE) (big : Nat) (d : Nat) : Cw :=
  @Nat.rec (fun _ => Cw) (fun _ _ _ => .bad) (fun _ C f args H => onOpt (ft.get f) .bad fun fe => feW tt big C fe args H) d
theorem owOf_ok {o : OR} {w : W} {H' : HT} (h : owOf o = .ok w H') : o = .ok w.rv H' := by
  unfold owOf at h
  cases o with
  | bad => simp at h
  | ok v H =>
    obtain ⟨w', h1, h2⟩ := wOf_eq v (fun w => OW.ok w H)
    simp only [h2, OW.ok.injEq] at h
    obtain ⟨rfl, rfl⟩ := h
    rw [h1]

theorem q0_at (i : Nat) : (q0.at i).rv = .undef := by
  have : q0.at i = wUn := by
    unfold Q.at q0
    split <;> rfl
  rw [this]; rfl

theorem funW_sound (hT : TtOk P tt) (hm : P.follows .mixedOrders = true) {ft : T FE} (hF : FtOk P ft) : ∀ d, SoundW P (funW tt ft big d)
  | 0 => fun f args H w H' e => by
    have e : OW.bad = .ok w H' := e
    simp at e
  | d + 1 => fun f args H v H' e => by
    have hC := funW_sound hT hm hF d
    have e : onOpt (ft.get f) .bad (fun fe => feW tt big (funW tt ft big d) fe args H) = .ok v H' := e
    cases hfe : ft.get f with
    | none => rw [hfe] at e; simp [onOpt_none] at e
    | some fe =>
      rw [hfe, onOpt_some] at e
      have hok := hF f fe hfe
      intro N h0 Γ w xs mm ra
      cases fe with
      | code n res c =>
        obtain ⟨fn, h1, h2, h3, h4, h5⟩ := hok
        have e : onOpt (fnX tt n big res c) .bad (fun p => ifB (Nat.ble (lenL args) n) (ifB (Nat.ble (lenL args) 16) (entK args (putS W OW) q0 fun q => endW p.2 (p.1 (funW tt ft big d) ⟨q, q0, q0, q0, q0, q0, q0, q0, q0, q0, q0, q0, q0, q0, q0, q0⟩ H)) .bad) .bad) = .ok v H' := e
        cases hfn : fnX tt n big res c with
        | none => rw [hfn] at e; simp [onOpt_none] at e
        | some p =>
          obtain ⟨K, R⟩ := p
          rw [hfn, onOpt_some] at e
          unfold fnX at hfn
          replace hfn := ifB_some hfn; obtain ⟨hn, hfn⟩ := hfn
          have hn := Nat.le_of_ble_eq_true hn
          rw [forceN_eq, forceN_eq] at hfn
          generalize lvC c (lvR res 0) = m at hfn
          replace hfn := onOpt_some_of hfn; obtain ⟨K', hK, hfn⟩ := hfn
          replace hfn := onOpt_some_of hfn; obtain ⟨R', hR, hfn⟩ := hfn
          simp only [Option.some.injEq, Prod.mk.injEq] at hfn
          obtain ⟨rfl, rfl⟩ := hfn
          rw [lenL_eq] at e
          cases hl : Nat.ble args.length n with
          | false => rw [hl] at e; simp [ifB_false] at e
          | true =>
            rw [hl, ifB_true] at e
            cases hl2 : Nat.ble args.length 16 with
            | false => rw [hl2] at e; simp [ifB_false] at e
            | true =>
              rw [hl2, ifB_true] at e
              have hl := Nat.le_of_ble_eq_true hl
              have hl2 := Nat.le_of_ble_eq_true hl2
              obtain ⟨q, e, hq⟩ := entK_ok (i := 0) (show entK args ((putS W OW).drop 0) q0 _ = _ from e) (by simp)
              replace e : endW R' (K' (funW tt ft big d) ⟨q, q0, q0, q0, q0, q0, q0, q0, q0, q0, q0, q0, q0, q0, q0, q0⟩ H) = .ok v H' := e
              have h8 : fn.name ≠ "runtime.NumGoroutine" := by simpa using h5
              have hcall : (callFunc f ⟨xs⟩).run P w = .ok (.enter f ⟨xs⟩) w := by simp [callFunc, h1, h2, h8]
              rw [hcall]
              simp only
              have hre : EnvQ Γ n m ⟨q, q0, q0, q0, q0, q0, q0, q0, q0, q0, q0, q0, q0, q0, q0, q0⟩ { tmps := (⟨xs⟩ : Array Value) ++ Array.replicate (n - (⟨xs⟩ : Array Value).size) Go.undef, defers := [] } := by
                have hls : (⟨xs⟩ : Array Value).size = args.length := ra.1
                refine ⟨rfl, by simp; have := ra.1; omega, fun i hi _ => ?_⟩
                by_cases hia : i < args.length
                · have hiv : args[i]? = some args[i] := List.getElem?_eq_getElem hia
                  obtain ⟨x, g1, g2⟩ := ra.get hiv
                  refine ⟨x, ?_, ?_⟩
                  · rw [Array.getElem?_append, hls, if_pos hia]
                    simpa using g1
                  · have : (Ev.at ⟨q, q0, q0, q0, q0, q0, q0, q0, q0, q0, q0, q0, q0, q0, q0, q0⟩ i) = q.at i := by
                      unfold Ev.at
                      rw [show i / 16 = 0 by omega, show i % 16 = i by omega]
                      rfl
                    rw [this, (hq i (by omega)).1 args[i] (Nat.zero_le _) (by rw [Nat.sub_zero]; exact hiv)]
                    exact g2
                · refine ⟨Go.undef, ?_, ?_⟩
                  · rw [Array.getElem?_append, hls, if_neg hia]
                    rw [Array.getElem?_replicate, if_pos (by omega)]
                  · have : (Ev.at ⟨q, q0, q0, q0, q0, q0, q0, q0, q0, q0, q0, q0, q0, q0, q0, q0⟩ i).rv = .undef := by
                      unfold Ev.at
                      by_cases h16 : i / 16 = 0
                      · rw [h16, show i % 16 = i by omega]
                        show (q.at i).rv = _
                        rw [(hq i (by omega)).2 (.inr (by omega))]
                        exact q0_at i
                      · have : Q.at (⟨q, q0, q0, q0, q0, q0, q0, q0, q0, q0, q0, q0, q0, q0, q0, q0⟩ : Ev) (i / 16) = q0 := by
                          have h17 : i / 16 < 16 := by omega
                          generalize i / 16 = j at *
                          match j, h16, h17 with
                          | 1, _, _ | 2, _, _ | 3, _, _ | 4, _, _ | 5, _, _ | 6, _, _ | 7, _, _ | 8, _, _ | 9, _, _ | 10, _, _ | 11, _, _ | 12, _, _ | 13, _, _ | 14, _, _ | 15, _, _ => rfl
                          | j + 16, _, h => omega
                        rw [this]
                        exact q0_at _
                    rw [this]; exact .undef
              generalize hE : (⟨q, q0, q0, q0, q0, q0, q0, q0, q0, q0, q0, q0, q0, q0, q0, q0⟩ : Ev) = E at e hre
              have hbad : K' (funW tt ft big d) E H ≠ .bad := fun hb => by rw [hb] at e; simp [endW] at e
              have fin : ∀ (e' : Ev) (H1 : HT), R' e' H1 = .ok v H' → ∀ Γ' w' a', Ext N h0 Γ w H Γ' w' H1 → EnvQ Γ' n m e' a' →
                  a'.defers = [] ∧ ∃ v', (results fn a'.tmps).run P w' = .ok v' w' ∧ ∃ x' Γ'', Ending.returned v' = .returned x' ∧ Ext N h0 Γ w H Γ'' w' H' ∧ Rep Γ'' v.rv x' := by
                intro e' H1 he Γ' w' a' hx hr
                have he := resX_ok hR he
                rw [← h4] at he
                obtain ⟨rfl, x, hx1, hx2⟩ := resV_run hT hx.mem hr.ok he
                exact ⟨hr.1, x, hx1, x, Γ', rfl, hx, hx2⟩
              refine calls_of_wp h1 h2 (cmpC_sound (N := N) (h0 := h0) (n := n) (big := big) hT hm hn hC c x_nrm [] x_ret K' hK E H _ rfl hbad Γ w _ _ mm (by rw [h3]; exact hre) (fun Γ' w' a' e' H1 hx hr hk => ?_) (fun id Γ' w' a' e' H1 hx hr hk => ?_) (fun Γ' w' a' e' H1 hx hr hk => ?_))
              · rw [← hk] at e
                exact fin e' H1 e Γ' w' a' hx hr
              · exact absurd hk.symm hbad
              · rw [← hk] at e
                exact fin e' H1 e Γ' w' a' hx hr
      | same =>
        have e := owOf_ok (show owOf (sameV args H) = .ok v H' from e)
        simp only [sameV] at e
        split at e
        · rename_i x
          simp only [OR.ok.injEq] at e
          obtain ⟨e1, rfl⟩ := e
          obtain ⟨y, ys, rfl, ry, r'⟩ := ra.inv_cons
          obtain rfl := r'.inv_nil
          obtain ⟨w', h1, rfl⟩ := hok y w
          rw [h1]
          exact ⟨Γ, Ext.refl mm, by rw [← e1]; exact ry⟩
        · simp at e
      | known b =>
        have e := owOf_ok (show owOf (knownV b args H) = .ok v H' from e)
        simp only [knownV] at e
        split at e
        · simp only [OR.ok.injEq] at e
          obtain ⟨e1, rfl⟩ := e
          rw [← e1]
          exact hok H N h0 Γ w xs mm ra
        · simp at e
      | pure g =>
        have e := owOf_ok (show owOf (okV (g args) H) = .ok v H' from e)
        obtain ⟨h1, rfl⟩ := okV_ok e
        obtain ⟨x, h2, h3⟩ := hok Γ args xs _ w h1 ra
        rw [h2]
        exact ⟨Γ, Ext.refl mm, h3⟩
      | room e0 => exact hok args H _ H' (owOf_ok (show owOf (roomV e0 args H) = .ok v H' from e)) N h0 Γ w xs mm ra

/-! ### What a run answers -/
noncomputable def OW.isTrue (o : OW) : Bool := @OW.rec (fun _ => Bool) (fun w _ => ifB (Nat.beq w.t 1) (Nat.beq w.x 1) false) false o
theorem OW.isTrue_ok {o : OW} (h : o.isTrue = true) : ∃ w H, o = .ok w H ∧ w.rv = .bool true := by
  cases o with
  | bad => simp [OW.isTrue] at h
  | ok w H =>
    have h : ifB (Nat.beq w.t 1) (Nat.beq w.x 1) false = true := h
    rw [ifB_and] at h
    exact ⟨w, H, rfl, by rw [rv_bool (nbeq.1 h.1), h.2]⟩
theorem run_okW {ft : T FE} {d : Nat} {f : FuncId} {args : List RV} (hT : TtOk P tt) (hm : P.follows .mixedOrders = true) (hF : FtOk P ft) (h : (funW tt ft big d f args ⟨0, .e⟩).isTrue = true) :
    ∃ H1, CallR P f args ⟨0, .e⟩ (.bool true) H1 := by
  obtain ⟨w, H1, h1, h2⟩ := OW.isTrue_ok h
  have := funW_sound (big := big) hT hm hF d f args _ w H1 h1
  rw [h2] at this
  exact ⟨H1, this⟩
theorem known_runW {ft : T FE} {d : Nat} {f : FuncId} (hT : TtOk P tt) (hm : P.follows .mixedOrders = true) (hF : FtOk P ft) (h : (funW tt ft big d f [] ⟨0, .e⟩).isTrue = true) : FeOk P f (.known true) := by
  obtain ⟨H1, h⟩ := run_okW (big := big) hT hm hF h
  exact known_of h
end
end Go.Rx
