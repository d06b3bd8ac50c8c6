/- ScheBounds: the law, in the small language. -/
import Derived.Test.YtnfnkdhanohaiaaHG
import Derived.Test.YtnfnkdhanohaiaaScheBoundsP
import Derived.Test.YtnfnkdhanohaiaaS2
set_option linter.unusedVariables false
set_option linter.unusedSimpArgs false
set_option linter.unusedSectionVars false
set_option maxRecDepth 100000
namespace Go.Fbs
open Go.Proofs
def nmB (i : Nat) : List UInt8 := [110, UInt8.ofNat (97 + i / 26), UInt8.ofNat (97 + i % 26)]
noncomputable def nameO (a0 : V) : Option V := Option.bind (binK .quo a0 (.int .i64 26)) fun y1 => Option.bind (convI .u8 y1) fun y2 => Option.bind (binK .add (.int .u8 97) y2) fun y3 => Option.bind (binK .rem a0 (.int .i64 26)) fun y4 => Option.bind (convI .u8 y4) fun y5 => Option.bind (binK .add (.int .u8 97) y5) fun y6 => Option.bind (litK 1 [y3, y6]) fun y7 => Option.bind (convBS y7) fun y8 => binK .add (.str [110]) y8
theorem opt_bind {x : Option V} {f : V → Option V} {k : V → Prop} : opt (x.bind f) k = opt x fun y => opt (f y) k := by cases x <;> rfl
theorem e_name (p : PT) (Q : V → Prop) (a0 : V) : FunWp tyT p 14 q_entaillaw7_ScheBounds_1 [.tmp 2] (cB Try.f4) [a0] Q = opt (nameO a0) Q := by
  rw [e_entaillaw7_ScheBounds_1]; simp only [nameO, opt_bind]
def eqBs : List UInt8 → List UInt8 → Bool
  | [], [] => true
  | a :: x, b :: y => bif Nat.beq a.toNat b.toNat then eqBs x y else false
  | _, _ => false
theorem eqBs_eq : ∀ {x y : List UInt8}, eqBs x y = true → x = y
  | [], [], _ => rfl
  | [], _ :: _, h => by simp [eqBs] at h
  | _ :: _, [], h => by simp [eqBs] at h
  | a :: x, b :: y, h => by
    simp only [eqBs] at h
    cases hb : Nat.beq a.toNat b.toNat with
    | false => rw [hb] at h; simp at h
    | true =>
      rw [hb, cond_true] at h
      rw [Nat.beq_eq] at hb
      rw [UInt8.toNat_inj.1 hb, eqBs_eq h]
noncomputable def isStr (o : Option V) (l : List UInt8) : Bool := match o with | some v => (match v with | .str s => eqBs s l | _ => false) | none => false
theorem isStr_eq {o : Option V} {l : List UInt8} (h : isStr o l = true) : o = some (.str l) := by
  unfold isStr at h
  split at h
  · split at h
    · rw [eqBs_eq h]
    · simp at h
  · simp at h
theorem names_all : (List.range 208).all (fun i => isStr (nameO (.int .i64 (Int.ofNat i))) (nmB i)) = true := by kernel_rfl
theorem names {i : Nat} (h : i < 208) : nameO (.int .i64 (i : Int)) = some (.str (nmB i)) := isStr_eq (List.all_eq_true.1 names_all i (List.mem_range.2 h))
theorem namesI {n : Int} (h1 : 0 ≤ n) (h2 : n < 208) : nameO (.int .i64 n) = some (.str (nmB n.toNat)) := by
  have h := names (i := n.toNat) (by omega)
  rwa [Int.toNat_of_nonneg h1] at h
noncomputable def F_entaillaw7_ScheBounds_1 : Spec := fun args => match args with
  | [.int .i64 n] => if 0 ≤ n ∧ n < 208 then some (.str (nmB n.toNat)) else none
  | _ => none
theorem ok_entaillaw7_ScheBounds_1 : SpecL Try.prog n_entaillaw7_ScheBounds_1 F_entaillaw7_ScheBounds_1 := by
  refine go_entaillaw7_ScheBounds_1 (T := []) (TabOk.nil) fun args v hv => ?_
  unfold F_entaillaw7_ScheBounds_1 at hv
  split at hv <;> (try simp only [Option.ite_none_right_eq_some, Option.some.injEq, reduceCtorEq] at hv)
  rename_i n
  obtain ⟨⟨h1, h2⟩, rfl⟩ := hv
  refine ⟨rfl, rfl, rfl, ?_⟩
  rw [e_name, namesI h1 h2, opt_s]
theorem specL_runs3 {P : Program} {f : FuncId} {F : Spec} (he : Enter P f) (h : ∀ args v, F args = some v → ∃ rs x y e H1, uvs args = some rs ∧ v = .tup [.any, .any, .int .i64 e] ∧ Rx.CallR P f rs ⟨0, .e⟩ (.tup [x, y, .int .i64 e]) H1) : SpecL P f F := by
  refine ⟨he, fun args v hF => ?_⟩
  obtain ⟨rs, x, y, e, H1, h1, rfl, h2⟩ := h args v hF
  refine ⟨fun m κ w xs k ra => ?_, rfl⟩
  obtain ⟨fn, c, hf, hb, hname⟩ := he
  have h8 : fn.name ≠ "runtime.NumGoroutine" := by simpa using hname
  have hcall : (callFunc f ⟨xs⟩).run P w = .ok (.enter f ⟨xs⟩) w := by simp [callFunc, hf, hb, h8]
  have h3 := h2 w.heap.size w.heap (fun _ => none) w xs (Rx.mem_none0 _) (reps_uvs h1 ra)
  rw [hcall] at h3
  refine h3.mono fun e w' ⟨z, Γ', he, hx, hv⟩ => ⟨z, κ, he, ext_old k hx.kept.size (fun b hb => hx.mem.old b hb) hx.kept.os hx.kept.output, ?_⟩
  cases hv with
  | tup _ zs hl hr =>
    refine .tup _ zs (by simpa using hl) fun i c z hc hz => ?_
    rcases i with _ | _ | _ | i
    · simp at hc; subst hc; exact .any _
    · simp at hc; subst hc; exact .any _
    · simp at hc; subst hc
      cases hr 2 (.int .i64 _) z rfl hz
      exact .int _ _
    · simp at hc
noncomputable def lookT (sb : Rx.Sb) : List (Rx.Sb × Int) → Option Int
  | [] => none
  | p :: r => bif Nat.beq p.1.n sb.n then (bif Nat.beq p.1.c sb.c then some p.2 else lookT sb r) else lookT sb r
theorem lookT_mem {sb : Rx.Sb} {e : Int} : ∀ {l : List (Rx.Sb × Int)}, lookT sb l = some e → (sb, e) ∈ l
  | [], h => by simp [lookT] at h
  | ((⟨n, c⟩ : Rx.Sb), e') :: r, h => by
    simp only [lookT] at h
    cases h1 : Nat.beq n sb.n with
    | false => rw [h1, cond_false] at h; exact List.mem_cons_of_mem _ (lookT_mem h)
    | true =>
      rw [h1, cond_true] at h
      cases h2 : Nat.beq c sb.c with
      | false => rw [h2, cond_false] at h; exact List.mem_cons_of_mem _ (lookT_mem h)
      | true =>
        rw [h2, cond_true] at h
        simp only [Option.some.injEq] at h
        rw [Nat.beq_eq] at h1 h2
        obtain ⟨n', c'⟩ := sb
        simp only at h1 h2
        subst h1; subst h2; subst h
        exact List.mem_cons_self
noncomputable def F_sche_Parse : Spec := fun args => match args with
  | [.str s] => (lookT (Rx.Sb.of (s.map UInt8.toNat)) Rx.tab32).map fun e => .tup [.any, .any, .int .i64 e]
  | _ => none
theorem ok_sche_Parse (hruns : ∀ p ∈ Rx.tab32, Rx.pRun p.1 p.2 = true) : SpecL Try.prog n_sche_Parse F_sche_Parse := by
  refine specL_runs3 ⟨Try.f5, Rx.bodyOf Try.f5, Try.func5, by kernel_rfl, by kernel_rfl⟩ fun args v hF => ?_
  unfold F_sche_Parse at hF
  split at hF
  · rename_i s
    rw [Option.map_eq_some_iff] at hF
    obtain ⟨e, he, rfl⟩ := hF
    obtain ⟨x, y, H1, h⟩ := Rx.parse_call (hruns _ (lookT_mem he))
    exact ⟨_, x, y, e, H1, rfl, rfl, h⟩
  · simp at hF
theorem ok_entaillaw7_awake : SpecL Try.prog n_entaillaw7_awake F_true := by
  obtain ⟨H1, h⟩ := Rx.awakeCall
  exact specL_true ⟨Try.f6, Rx.bodyOf Try.f6, Try.func6, by kernel_rfl, by kernel_rfl⟩ h
def tT : Nat → List UInt8
  | 0 => []
  | i + 1 => ((tT i ++ [116, 121, 112, 101, 32]) ++ nmB i) ++ [32]
def rT : Nat → List UInt8
  | 0 => [116, 121, 112, 101, 32, 97, 32, 123, 32]
  | i + 1 => (rT i ++ nmB i) ++ [58, 32, 117, 59, 32]
def sT : Nat → List UInt8
  | 0 => [116, 121, 112, 101, 32, 97, 32, 123, 32, 114, 58, 32, 117]
  | i + 1 => sT i ++ [32, 124, 32, 117]
def xT : Nat → List UInt8
  | 0 => [116, 121, 112, 101, 32, 97, 32, 123, 32, 114, 32, 61, 32, 115]
  | i + 1 => xT i ++ [32, 43, 32, 115]
theorem tT_len : ∀ i, (tT i).length = 9 * i
  | 0 => rfl
  | i + 1 => by simp [tT, tT_len i, nmB]; omega
theorem rT_len : ∀ i, (rT i).length = 9 + 8 * i
  | 0 => rfl
  | i + 1 => by simp [rT, rT_len i, nmB]; omega
theorem sT_len : ∀ i, (sT i).length = 13 + 4 * i
  | 0 => rfl
  | i + 1 => by simp [sT, sT_len i]; omega
theorem xT_len : ∀ i, (xT i).length = 14 + 4 * i
  | 0 => rfl
  | i + 1 => by simp [xT, xT_len i]; omega
def gen (base : List UInt8) (piece : Nat → List UInt8) : Nat → List UInt8 → List UInt8
  | 0, acc => base ++ acc
  | i + 1, acc => gen base piece i (piece i ++ acc)
theorem tT_gen : ∀ i acc, tT i ++ acc = gen [] (fun i => [116, 121, 112, 101, 32] ++ nmB i ++ [32]) i acc
  | 0, acc => rfl
  | i + 1, acc => by simp only [tT, gen]; rw [← tT_gen i]; simp
theorem rT_gen : ∀ i acc, rT i ++ acc = gen [116, 121, 112, 101, 32, 97, 32, 123, 32] (fun i => nmB i ++ [58, 32, 117, 59, 32]) i acc
  | 0, acc => rfl
  | i + 1, acc => by simp only [rT, gen]; rw [← rT_gen i]; simp
theorem sT_gen : ∀ i acc, sT i ++ acc = gen [116, 121, 112, 101, 32, 97, 32, 123, 32, 114, 58, 32, 117] (fun _ => [32, 124, 32, 117]) i acc
  | 0, acc => rfl
  | i + 1, acc => by simp only [sT, gen]; rw [← sT_gen i]; simp
theorem xT_gen : ∀ i acc, xT i ++ acc = gen [116, 121, 112, 101, 32, 97, 32, 123, 32, 114, 32, 61, 32, 115] (fun _ => [32, 43, 32, 115]) i acc
  | 0, acc => rfl
  | i + 1, acc => by simp only [xT, gen]; rw [← xT_gen i]; simp
noncomputable def ansV (e : Int) : V := .tup [.any, .any, .int .i64 e]
def tG (n : Nat) : List UInt8 := gen [] (fun i => [116, 121, 112, 101, 32] ++ nmB i ++ [32]) (196 + n) []
theorem ft0 : F_sche_Parse [.str (tG 0)] = some (ansV 0) := by kernel_rfl
theorem ft1 : F_sche_Parse [.str (tG 1)] = some (ansV 0) := by kernel_rfl
theorem ft2 : F_sche_Parse [.str (tG 2)] = some (ansV 0) := by kernel_rfl
theorem ft3 : F_sche_Parse [.str (tG 3)] = some (ansV 0) := by kernel_rfl
theorem ft4 : F_sche_Parse [.str (tG 4)] = some (ansV 0) := by kernel_rfl
theorem ft5 : F_sche_Parse [.str (tG 5)] = some (ansV 8) := by kernel_rfl
theorem ft6 : F_sche_Parse [.str (tG 6)] = some (ansV 8) := by kernel_rfl
theorem ft7 : F_sche_Parse [.str (tG 7)] = some (ansV 8) := by kernel_rfl
theorem ft : ∀ n : Nat, n < 8 → F_sche_Parse [.str (tT (196 + n))] = some (ansV (if 200 < 196 + n then 8 else 0))
  | 0, _ => by rw [show tT (196 + 0) = tG 0 from by rw [← List.append_nil (tT (196 + 0))]; exact tT_gen _ _, ft0]; rfl
  | 1, _ => by rw [show tT (196 + 1) = tG 1 from by rw [← List.append_nil (tT (196 + 1))]; exact tT_gen _ _, ft1]; rfl
  | 2, _ => by rw [show tT (196 + 2) = tG 2 from by rw [← List.append_nil (tT (196 + 2))]; exact tT_gen _ _, ft2]; rfl
  | 3, _ => by rw [show tT (196 + 3) = tG 3 from by rw [← List.append_nil (tT (196 + 3))]; exact tT_gen _ _, ft3]; rfl
  | 4, _ => by rw [show tT (196 + 4) = tG 4 from by rw [← List.append_nil (tT (196 + 4))]; exact tT_gen _ _, ft4]; rfl
  | 5, _ => by rw [show tT (196 + 5) = tG 5 from by rw [← List.append_nil (tT (196 + 5))]; exact tT_gen _ _, ft5]; rfl
  | 6, _ => by rw [show tT (196 + 6) = tG 6 from by rw [← List.append_nil (tT (196 + 6))]; exact tT_gen _ _, ft6]; rfl
  | 7, _ => by rw [show tT (196 + 7) = tG 7 from by rw [← List.append_nil (tT (196 + 7))]; exact tT_gen _ _, ft7]; rfl
  | n + 8, h => absurd h (by omega)
def rG (n : Nat) : List UInt8 := gen [116, 121, 112, 101, 32, 97, 32, 123, 32] (fun i => nmB i ++ [58, 32, 117, 59, 32]) (196 + n) [125]
theorem fr0 : F_sche_Parse [.str (rG 0)] = some (ansV 0) := by kernel_rfl
theorem fr1 : F_sche_Parse [.str (rG 1)] = some (ansV 0) := by kernel_rfl
theorem fr2 : F_sche_Parse [.str (rG 2)] = some (ansV 0) := by kernel_rfl
theorem fr3 : F_sche_Parse [.str (rG 3)] = some (ansV 0) := by kernel_rfl
theorem fr4 : F_sche_Parse [.str (rG 4)] = some (ansV 0) := by kernel_rfl
theorem fr5 : F_sche_Parse [.str (rG 5)] = some (ansV 8) := by kernel_rfl
theorem fr6 : F_sche_Parse [.str (rG 6)] = some (ansV 8) := by kernel_rfl
theorem fr7 : F_sche_Parse [.str (rG 7)] = some (ansV 8) := by kernel_rfl
theorem fr : ∀ n : Nat, n < 8 → F_sche_Parse [.str (rT (196 + n) ++ [125])] = some (ansV (if 200 < 196 + n then 8 else 0))
  | 0, _ => by rw [show rT (196 + 0) ++ [125] = rG 0 from rT_gen _ _, fr0]; rfl
  | 1, _ => by rw [show rT (196 + 1) ++ [125] = rG 1 from rT_gen _ _, fr1]; rfl
  | 2, _ => by rw [show rT (196 + 2) ++ [125] = rG 2 from rT_gen _ _, fr2]; rfl
  | 3, _ => by rw [show rT (196 + 3) ++ [125] = rG 3 from rT_gen _ _, fr3]; rfl
  | 4, _ => by rw [show rT (196 + 4) ++ [125] = rG 4 from rT_gen _ _, fr4]; rfl
  | 5, _ => by rw [show rT (196 + 5) ++ [125] = rG 5 from rT_gen _ _, fr5]; rfl
  | 6, _ => by rw [show rT (196 + 6) ++ [125] = rG 6 from rT_gen _ _, fr6]; rfl
  | 7, _ => by rw [show rT (196 + 7) ++ [125] = rG 7 from rT_gen _ _, fr7]; rfl
  | n + 8, h => absurd h (by omega)
def sG (n : Nat) : List UInt8 := gen [116, 121, 112, 101, 32, 97, 32, 123, 32, 114, 58, 32, 117] (fun _ => [32, 124, 32, 117]) (45 + n) [59, 32, 125]
theorem fs0 : F_sche_Parse [.str (sG 0)] = some (ansV 0) := by kernel_rfl
theorem fs1 : F_sche_Parse [.str (sG 1)] = some (ansV 0) := by kernel_rfl
theorem fs2 : F_sche_Parse [.str (sG 2)] = some (ansV 0) := by kernel_rfl
theorem fs3 : F_sche_Parse [.str (sG 3)] = some (ansV 0) := by kernel_rfl
theorem fs4 : F_sche_Parse [.str (sG 4)] = some (ansV 0) := by kernel_rfl
theorem fs5 : F_sche_Parse [.str (sG 5)] = some (ansV 8) := by kernel_rfl
theorem fs6 : F_sche_Parse [.str (sG 6)] = some (ansV 8) := by kernel_rfl
theorem fs7 : F_sche_Parse [.str (sG 7)] = some (ansV 8) := by kernel_rfl
theorem fs : ∀ n : Nat, n < 8 → F_sche_Parse [.str (sT (45 + n) ++ [59, 32, 125])] = some (ansV (if 50 < 46 + n then 8 else 0))
  | 0, _ => by rw [show sT (45 + 0) ++ [59, 32, 125] = sG 0 from sT_gen _ _, fs0]; rfl
  | 1, _ => by rw [show sT (45 + 1) ++ [59, 32, 125] = sG 1 from sT_gen _ _, fs1]; rfl
  | 2, _ => by rw [show sT (45 + 2) ++ [59, 32, 125] = sG 2 from sT_gen _ _, fs2]; rfl
  | 3, _ => by rw [show sT (45 + 3) ++ [59, 32, 125] = sG 3 from sT_gen _ _, fs3]; rfl
  | 4, _ => by rw [show sT (45 + 4) ++ [59, 32, 125] = sG 4 from sT_gen _ _, fs4]; rfl
  | 5, _ => by rw [show sT (45 + 5) ++ [59, 32, 125] = sG 5 from sT_gen _ _, fs5]; rfl
  | 6, _ => by rw [show sT (45 + 6) ++ [59, 32, 125] = sG 6 from sT_gen _ _, fs6]; rfl
  | 7, _ => by rw [show sT (45 + 7) ++ [59, 32, 125] = sG 7 from sT_gen _ _, fs7]; rfl
  | n + 8, h => absurd h (by omega)
def xG (n : Nat) : List UInt8 := gen [116, 121, 112, 101, 32, 97, 32, 123, 32, 114, 32, 61, 32, 115] (fun _ => [32, 43, 32, 115]) (98 + n) [59, 32, 125]
theorem fx0 : F_sche_Parse [.str (xG 0)] = some (ansV 0) := by kernel_rfl
theorem fx1 : F_sche_Parse [.str (xG 1)] = some (ansV 0) := by kernel_rfl
theorem fx2 : F_sche_Parse [.str (xG 2)] = some (ansV 8) := by kernel_rfl
theorem fx3 : F_sche_Parse [.str (xG 3)] = some (ansV 8) := by kernel_rfl
theorem fx4 : F_sche_Parse [.str (xG 4)] = some (ansV 8) := by kernel_rfl
theorem fx5 : F_sche_Parse [.str (xG 5)] = some (ansV 8) := by kernel_rfl
theorem fx6 : F_sche_Parse [.str (xG 6)] = some (ansV 8) := by kernel_rfl
theorem fx7 : F_sche_Parse [.str (xG 7)] = some (ansV 8) := by kernel_rfl
theorem fx : ∀ n : Nat, n < 8 → F_sche_Parse [.str (xT (98 + n) ++ [59, 32, 125])] = some (ansV (if 200 < 2 * (98 + n) + 1 then 8 else 0))
  | 0, _ => by rw [show xT (98 + 0) ++ [59, 32, 125] = xG 0 from xT_gen _ _, fx0]; rfl
  | 1, _ => by rw [show xT (98 + 1) ++ [59, 32, 125] = xG 1 from xT_gen _ _, fx1]; rfl
  | 2, _ => by rw [show xT (98 + 2) ++ [59, 32, 125] = xG 2 from xT_gen _ _, fx2]; rfl
  | 3, _ => by rw [show xT (98 + 3) ++ [59, 32, 125] = xG 3 from xT_gen _ _, fx3]; rfl
  | 4, _ => by rw [show xT (98 + 4) ++ [59, 32, 125] = xG 4 from xT_gen _ _, fx4]; rfl
  | 5, _ => by rw [show xT (98 + 5) ++ [59, 32, 125] = xG 5 from xT_gen _ _, fx5]; rfl
  | 6, _ => by rw [show xT (98 + 6) ++ [59, 32, 125] = xG 6 from xT_gen _ _, fx6]; rfl
  | 7, _ => by rw [show xT (98 + 7) ++ [59, 32, 125] = xG 7 from xT_gen _ _, fx7]; rfl
  | n + 8, h => absurd h (by omega)
end Go.Fbs
