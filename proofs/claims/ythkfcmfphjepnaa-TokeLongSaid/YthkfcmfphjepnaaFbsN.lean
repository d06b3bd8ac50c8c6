/- Regions, whole. -/
import Derived.Test.YthkfcmfphjepnaaFbsM
set_option linter.unusedVariables false
set_option linter.unusedSimpArgs false
namespace Go.Fbs
section
variable {P : Program} {C : Callees} {ops : List Oper} {n : Nat} {σ : Nat → Env × List LO} {val : Nat → V}

theorem lst_of_listedOf {S : Array Bool} {i : Nat} (hi : i < S.size) : lst S i = listedOf S i := by
  unfold lst listedOf; simp [Array.getD, hi]

theorem listed_false {S : Array Bool} {i : Nat} (hi : i < S.size) (h : listedOf S i = false) : S[i]? = some false := by
  unfold listedOf at h
  simp [Array.getD, hi] at h
  rw [Array.getElem?_eq_getElem hi, h]

theorem unl_pos {S : Array Bool} {i : Nat} (h : S[i]? = some false) : 0 < unl S := by
  have := unl_set h; omega

theorem tail_sound (hC : Sound P C) (f : DrawFacts ops n) {Q : Exit → Act → World → Prop} : ∀ (fuel j : Nat) (S : Array Bool) (env : Env) (m : Hp) (env' : Env) (m' : Hp) (κ : Ctx) (w : World) (a : Act),
    n ≤ j → S.size = ops.length → (∀ i, i < j → i < ops.length → listedOf S i = true) → (∀ i, j ≤ i → i < ops.length → listedOf S i = false) → Closed ops (listedOf S) → evalOps P C ops (ops.drop j) env m = some (env', m') →
    Mem κ w.heap m → EnvOk κ w.heap env a → (∀ κ' w' a', Ext κ w m κ' w' m' → EnvOk κ' w'.heap env' a' → Q .normal a' w') → unl S ≤ fuel → wpAny P .any ops.toArray Q fuel S a w := by
  intro fuel
  induction fuel with
  | zero =>
    intro j S env m env' m' κ w a hnj hsz hlo hhi hcl e k re hQ hu
    have hj : ops.length ≤ j := by
      refine Nat.le_of_not_lt fun hlt => ?_
      have := unl_pos (listed_false (by omega) (hhi j (Nat.le_refl _) hlt))
      omega
    rw [List.drop_eq_nil_of_le hj] at e
    simp [evalOps] at e
    obtain ⟨rfl, rfl⟩ := e
    refine ⟨?_, hQ κ w a (Ext.refl k) re⟩
    rw [List.eq_nil_iff_forall_not_mem]
    intro i hi
    obtain ⟨o, h1, h2, _⟩ := ready_iff.1 hi
    have hil := (List.getElem?_eq_some_iff.1 h1).1
    rw [lst_of_listedOf (by omega), hlo i (by omega) hil] at h2
    simp at h2
  | succ fuel ih =>
    intro j S env m env' m' κ w a hnj hsz hlo hhi hcl e k re hQ hu
    refine ⟨fun hnil => ?_, fun i hi => ?_⟩
    · have hj : ops.length ≤ j := by
        refine Nat.le_of_not_lt fun hlt => ?_
        have : j ∈ Region.ready .any ops.toArray S := ready_iff.2 ⟨ops[j], List.getElem?_eq_getElem hlt, by rw [lst_of_listedOf (by omega)]; exact hhi j (Nat.le_refl _) hlt, fun e he hb => by
          have h1 := f.back j _ (List.getElem?_eq_getElem hlt) e he hb
          exact hlo e.on h1 (by omega)⟩
        rw [hnil] at this; simp at this
      rw [List.drop_eq_nil_of_le hj] at e
      simp [evalOps] at e
      obtain ⟨rfl, rfl⟩ := e
      exact hQ κ w a (Ext.refl k) re
    · obtain ⟨o, h1, h2, h3⟩ := ready_iff.1 hi
      have hil := (List.getElem?_eq_some_iff.1 h1).1
      rw [lst_of_listedOf (by omega)] at h2
      have hij : i = j := by
        have hge : j ≤ i := Nat.le_of_not_lt fun h => by rw [hlo i h hil] at h2; simp at h2
        refine Nat.le_antisymm (Nat.le_of_not_lt fun hlt => ?_) hge
        have := mask_listed h1 hcl h3 (f.tail j i hlt (by omega) hil)
        rw [hhi j (Nat.le_refl _) (by omega)] at this
        simp at this
      subst hij
      have hdrop : ops.drop i = o :: ops.drop (i + 1) := by
        rw [List.drop_eq_getElem_cons hil]
        congr 1
        exact (List.getElem?_eq_some_iff.1 h1).2
      rw [hdrop] at e
      have hset := unl_set (listed_false (by omega) h2)
      have next : ∀ (env1 : Env) (m1 : Hp), evalOps P C ops (ops.drop (i + 1)) env1 m1 = some (env', m') → ∀ κ1 w1 a1, Ext κ w m κ1 w1 m1 → EnvOk κ1 w1.heap env1 a1 →
          wpAny P .any ops.toArray Q fuel (S.setIfInBounds i true) a1 w1 := by
        intro env1 m1 e1 κ1 w1 a1 hx hr
        refine ih (i + 1) _ env1 m1 env' m' κ1 w1 a1 (by omega) (by simpa using hsz) (fun q hq hql => ?_) (fun q hq hql => ?_) (closed_set hsz hcl h1 h3) e1 hx.mem hr (fun κ' w' a' h4 h5 => hQ κ' w' a' (hx.trans h4) h5) (by omega)
        · rw [listedOf_set (by omega)]
          split
          · rfl
          · exact hlo q (by omega) hql
        · rw [listedOf_set (by omega), if_neg (by omega)]; exact hhi q (by omega) hql
      unfold wpOp
      rw [show ops.toArray[i]? = some o by simpa using h1]
      simp only
      simp only [evalOps] at e
      split at e
      · rename_i hw
        split at e
        · rename_i v m1 h4
          rw [if_pos (wantedV_run re hw)]
          refine .inl (Oper.wp_mono ?_ (evalOp_done hC k re h4 Q))
          rintro a1 w1 ⟨x, κ1, rfl, hx, hr⟩
          refine next _ _ e κ1 w1 _ hx ?_
          have := (re.mono hx.le).put (dst := o.dst) hr
          unfold putV
          exact this
        · simp at e
      · rename_i hw
        rw [if_neg (by rw [wantedV_run re hw]; simp)]
        refine next _ _ e κ w _ (Ext.refl k) ?_
        have := re.put (dst := o.dst) (v := .undef) (x := Go.undef) .undef
        unfold putV
        exact this
      · simp at e

theorem mid_sound (hC : Sound P C) (t : Trace P C ops n σ val) (f : DrawFacts ops n) {κ0 : Ctx} {h0 : World} {m : Hp} {env' : Env} {m' : Hp} {Q : Exit → Act → World → Prop}
    (e : evalOps P C ops (ops.drop n) (σ n).1 { m with H := (σ n).2 } = some (env', m')) (hQ : ∀ κ' w' a', Ext κ0 h0 m κ' w' m' → EnvOk κ' w'.heap env' a' → Q .normal a' w') :
    ∀ (fuel : Nat) (S : Array Bool) (κ : Ctx) (w : World) (a : Act), Mid P C ops n σ val κ0 h0 m S κ w a → unl S ≤ fuel → wpAny P .any ops.toArray Q fuel S a w := by
  intro fuel
  induction fuel with
  | zero =>
    intro S κ w a M hu
    have hall : ∀ i, i < ops.length → listedOf S i = true := fun i hi => by
      cases h : listedOf S i with
      | true => rfl
      | false => have := unl_pos (listed_false (by rw [M.size]; exact hi) h); omega
    have hno : ∀ i, n ≤ i → i < ops.length → listedOf S i = false := fun i h1 h2 => M.front i h1 h2
    have hn : n = ops.length := by
      refine Nat.le_antisymm f.le (Nat.le_of_not_lt fun hlt => ?_)
      have := hno n (Nat.le_refl _) hlt
      rw [hall n hlt] at this; simp at this
    refine tail_sound hC f 0 n S (σ n).1 _ env' m' κ w a (Nat.le_refl _) M.size (fun i _ hi => hall i hi) (fun i h1 h2 => hno i h1 h2) M.closed e M.ext.mem ?_ (fun κ' w' a' h1 h2 => hQ κ' w' a' (M.ext.trans h1) h2) hu
    refine ⟨M.defers, by rw [M.tsize, t.len n (Nat.le_refl _)], fun d v x hv hx => ?_⟩
    by_cases hex : ∃ (i : Nat) (oi : Oper), i < n ∧ ops[i]? = some oi ∧ oi.dst = some d
    · obtain ⟨i, oi, hi, hoi, hdi⟩ := hex
      have hval := t.new f hoi hdi n hi (Nat.le_refl _)
      rw [hv, if_pos (by rw [← t.len n (Nat.le_refl _)]; exact Env.get_lt hv)] at hval
      simp only [Option.some.injEq] at hval
      subst hval
      exact M.new i oi d x hi hoi (hall i (by omega)) hdi hx
    · have hold := t.old (d := d) n (Nat.le_refl _) (fun i oi hi hoi hdi => hex ⟨i, oi, hi, hoi, hdi⟩)
      rw [hv] at hold
      exact M.old d v x (fun i oi hi hoi _ hdi => hex ⟨i, oi, hi, hoi, hdi⟩) hold.symm hx
  | succ fuel ih =>
    intro S κ w a M hu
    by_cases hall : ∀ i, i < n → listedOf S i = true
    · refine tail_sound hC f (fuel + 1) n S (σ n).1 _ env' m' κ w a (Nat.le_refl _) M.size (fun i hi _ => hall i hi) (fun i h1 h2 => M.front i h1 h2) M.closed e M.ext.mem ?_ (fun κ' w' a' h1 h2 => hQ κ' w' a' (M.ext.trans h1) h2) hu
      refine ⟨M.defers, by rw [M.tsize, t.len n (Nat.le_refl _)], fun d v x hv hx => ?_⟩
      by_cases hex : ∃ (i : Nat) (oi : Oper), i < n ∧ ops[i]? = some oi ∧ oi.dst = some d
      · obtain ⟨i, oi, hi, hoi, hdi⟩ := hex
        have hval := t.new f hoi hdi n hi (Nat.le_refl _)
        rw [hv, if_pos (by rw [← t.len n (Nat.le_refl _)]; exact Env.get_lt hv)] at hval
        simp only [Option.some.injEq] at hval
        subst hval
        exact M.new i oi d x hi hoi (hall i hi) hdi hx
      · have hold := t.old (d := d) n (Nat.le_refl _) (fun i oi hi hoi hdi => hex ⟨i, oi, hi, hoi, hdi⟩)
        rw [hv] at hold
        exact M.old d v x (fun i oi hi hoi _ hdi => hex ⟨i, oi, hi, hoi, hdi⟩) hold.symm hx
    · have hnall := hall
      have hle := f.le
      obtain ⟨q, hq1, hq2, hq3⟩ : ∃ q, q < n ∧ listedOf S q = false ∧ ∀ i, i < q → listedOf S i = true := by
        have : ∀ k, (∃ q, q < k ∧ listedOf S q = false ∧ ∀ i, i < q → listedOf S i = true) ∨ ∀ i, i < k → listedOf S i = true := by
          intro k
          induction k with
          | zero => exact .inr (fun i hi => by omega)
          | succ k ihk =>
            rcases ihk with ⟨q, h1, h2⟩ | h1
            · exact .inl ⟨q, by omega, h2⟩
            · cases hk : listedOf S k with
              | false => exact .inl ⟨k, by omega, hk, h1⟩
              | true =>
                refine .inr (fun i hi => ?_)
                by_cases h : i = k
                · subst h; exact hk
                · exact h1 i (by omega)
        rcases this n with ⟨q, h1, h2⟩ | h1
        · exact ⟨q, h1, h2⟩
        · exact absurd h1 hnall
      refine ⟨fun hnil => ?_, fun i hi => ?_⟩
      · exfalso
        have hql : q < ops.length := by omega
        have : q ∈ Region.ready .any ops.toArray S := ready_iff.2 ⟨ops[q], List.getElem?_eq_getElem hql, by rw [lst_of_listedOf (by rw [M.size]; exact hql)]; exact hq2, fun e he hb => hq3 e.on (f.back q _ (List.getElem?_eq_getElem hql) e he hb)⟩
        rw [hnil] at this; simp at this
      · obtain ⟨o, h1, h2, h3⟩ := ready_iff.1 hi
        have hil := (List.getElem?_eq_some_iff.1 h1).1
        rw [lst_of_listedOf (by rw [M.size]; exact hil)] at h2
        have hin : i < n := by
          refine Nat.lt_of_not_le fun hge => ?_
          have := mask_listed h1 M.closed h3 (f.tail q i (by omega) hge hil)
          rw [hq2] at this; simp at this
        have hset := unl_set (listed_false (by rw [M.size]; exact hil) h2)
        exact M.step hC t f hin h1 h2 h3 Q _ (fun κ' w' a' M' => ih _ κ' w' a' M' (by omega))

theorem drawn_sound (hC : Sound P C) {id : Nat} {Q : Exit → Act → World → Prop} {env : Env} {m : Hp} {env' : Env} {m' : Hp} {κ : Ctx} {w : World} {a : Act} (h : drawOk ops n = true) (hm : P.follows .mixedOrders = true)
    (e : evalDrawn P C ops n env m = some (env', m')) (k : Mem κ w.heap m) (re : EnvOk κ w.heap env a) (hQ : ∀ κ' w' a', Ext κ w m κ' w' m' → EnvOk κ' w'.heap env' a' → Q .normal a' w') :
    (Code.region id ops.toArray true).wp P Q a w := by
  have f := drawFacts h
  unfold evalDrawn at e
  split at e
  · rename_i env1 H1 h1
    obtain ⟨σ, val, h2, h3, h4⟩ := dr_trace h1
    have hlen : (ops.take n).length = n := by rw [List.length_take]; exact Nat.min_eq_left f.le
    rw [hlen] at h3
    have t : Trace P C ops n σ val := ⟨fun j o hj ho => h4 j o (by rw [List.getElem?_take_of_lt hj]; exact ho), f.le⟩
    obtain ⟨cs, hcs⟩ := t.heap (i := 0) n (by omega) (Nat.le_refl _)
    rw [h2] at hcs
    have hmem : Mem κ w.heap { m with H := (σ n).2 } := by
      rw [hcs]; exact mem_keep k cs
    refine wp_region_any hm (mid_sound hC t f (κ0 := κ) (h0 := w) (m := m) (by rw [h3]; exact e) hQ _ _ κ _ a ?_ ?_)
    · have hrep : ∀ i, listedOf (Array.replicate ops.toArray.size false) i = false := fun i => by
        unfold listedOf; simp [Array.getD]
      refine ⟨by rw [h2], by simp, fun j o _ hl => by rw [hrep] at hl; simp at hl, fun j _ _ => hrep j, ⟨Le.refl _ _, hmem, by rw [hcs]; simp, fun _ _ hb => hb, rfl, ⟨rfl, fun _ => rfl⟩⟩, re.1, by rw [h2]; exact re.2.1, fun j o hj ho _ _ => ?_, fun i o d x _ _ hl => by rw [hrep] at hl; simp at hl,
        fun d v x _ hv hx => re.2.2 d v x (by rw [h2] at hv; exact hv) hx⟩
      obtain ⟨ds, hds⟩ := t.heap (i := 0) j (by omega) (by omega)
      refine mem_none k ?_
      rw [hds, h2]; simp
    · unfold unl
      simp [List.count_replicate]
  · simp at e

end
end Go.Fbs
