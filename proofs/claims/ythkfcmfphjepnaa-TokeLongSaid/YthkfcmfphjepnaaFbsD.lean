/- Memory: new blocks, boxes written, slices that grow. -/
import Derived.Test.YthkfcmfphjepnaaFbsC
set_option linter.unusedVariables false
set_option linter.unusedSimpArgs false
namespace Go.Fbs

theorem hcell_push_lt {h : Heap} {o : Obj} {b : Nat} (hb : b < h.size) (i : Nat) : hcell (h.push o) b i = hcell h b i := by
  unfold hcell; rw [Array.getElem?_push_lt hb, Array.getElem?_eq_getElem hb]

theorem hcell_lt {h : Heap} {b i : Nat} {x : Value} (e : hcell h b i = some x) : b < h.size := by
  unfold hcell at e
  split at e
  · rename_i hh
    exact (Array.getElem?_eq_some_iff.1 hh).1
  · simp at e

theorem hcell_new {h : Heap} {c : Array Value} {E : TypeId} {f : Nat × Nat} (i : Nat) : hcell (h.push (.cells c E f)) h.size i = c[i]? := by
  unfold hcell; simp

def updF (f : Nat → Nat) (b n : Nat) : Nat → Nat := fun i => if i = b then n else f i

@[simp] theorem updF_same (f : Nat → Nat) (b n : Nat) : updF f b n b = n := by simp [updF]
theorem updF_ne (f : Nat → Nat) {b i : Nat} (n : Nat) (hi : i ≠ b) : updF f b n i = f i := by simp [updF, hi]

/-- A new block, whoever owns it. -/
theorem le_push {κ κ' : Ctx} {h : Heap} (o : Obj) (k : Ok κ h) (hhw : ∀ b, b ≠ h.size → κ'.hw b = κ.hw b)
    (hbox : κ'.box = κ.box ∨ ∃ l, κ.box l = none ∧ κ'.box = fun i => if i = l then some h.size else κ.box i) (hl : κ'.lease = κ.lease ∨ ∃ L : Lease, L.blk = h.size ∧ κ'.lease = κ.lease ++ [L]) : Le κ h κ' (h.push o) where
  size := by simp
  same b hb _ := by rw [Array.getElem?_push_lt hb, Array.getElem?_eq_getElem hb]
  hwsame b hb _ := hhw b (by omega)
  sealed b i x _ hc := by rw [hcell_push_lt (hcell_lt hc)]; exact hc
  hw b := by
    by_cases hb : b = h.size
    · subst hb; rw [k.fresh _ (Nat.le_refl _)]; exact Nat.zero_le _
    · rw [hhw b hb]; exact Nat.le_refl _
  box l b hb := by
    rcases hbox with e | ⟨q, hq, e⟩ <;> rw [e]
    · exact hb
    · have : l ≠ q := fun h => by subst h; rw [hq] at hb; simp at hb
      simp [this, hb]
  newbox b hb := by
    obtain ⟨l, hb⟩ := hb
    rcases hbox with e | ⟨q, hq, e⟩ <;> rw [e] at hb
    · exact .inl ⟨l, hb⟩
    · simp only at hb
      split at hb
      · simp at hb; exact .inr (by omega)
      · exact .inl ⟨l, hb⟩
  lease i L hL := by
    refine ⟨L, ?_, .inl rfl⟩
    rcases hl with e | ⟨L0, _, e⟩ <;> rw [e]
    · exact hL
    · rw [List.getElem?_append_left (List.getElem?_eq_some_iff.1 hL).1]; exact hL
  newlease L hL := by
    rcases hl with e | ⟨L0, h0, e⟩ <;> rw [e] at hL
    · exact .inl ⟨L, hL, rfl⟩
    · rcases List.mem_append.1 hL with h1 | h1
      · exact .inl ⟨L, h1, rfl⟩
      · simp at h1; subst h1; exact .inr (by omega)

theorem ORep.mono {κ κ' : Ctx} {h h' : Heap} (l : Le κ h κ' h') {c : LO} {o : Obj} (r : ORep κ h c o) : ORep κ' h' c o := by
  cases c with
  | cells cs => obtain ⟨xs, E, h1, h2, h3⟩ := r; exact ⟨xs, E, h1, h2.mono l, h3⟩
  | map es => obtain ⟨en, cl, h1, h2, h3, h4⟩ := r; exact ⟨en, cl, h1, h2.mono l, h3.mono l, h4⟩

theorem HeapOk.mono {κ κ' : Ctx} {h h' : Heap} {H : List LO} (l : Le κ h κ' h') (hb : κ'.box = κ.box) (hs : ∀ b, boxed κ b → h'[b]? = h[b]?) (m : HeapOk κ h H) : HeapOk κ' h' H := by
  refine ⟨by rw [hb]; exact m.1, fun i b cs h1 h2 => ?_⟩
  rw [hb] at h1
  obtain ⟨o, h3, h4⟩ := m.2 i b cs h1 h2
  exact ⟨o, by rw [hs b ⟨i, h1⟩]; exact h3, h4.mono l⟩

/-- A new box, in a place that is kept for it. -/
theorem mem_box_at {κ : Ctx} {h : Heap} {m : Hp} (k : Mem κ h m) {l : Nat} {c : LO} (hl : m.H[l]? = some c) (hn : κ.box l = none) {o : Obj} (hr : ORep κ h c o) :
    ∃ κ', Le κ h κ' (h.push o) ∧ Mem κ' (h.push o) m ∧ κ'.box = (fun i => if i = l then some h.size else κ.box i) := by
  obtain ⟨ok, hp, hT⟩ := k
  let κ' : Ctx := { κ with box := fun i => if i = l then some h.size else κ.box i }
  have le : Le κ h κ' (h.push o) := le_push _ ok (fun _ _ => rfl) (.inr ⟨l, hn, rfl⟩) (.inl rfl)
  have cas : ∀ i b, κ'.box i = some b → (i = l ∧ b = h.size) ∨ (i ≠ l ∧ κ.box i = some b) := by
    intro i b hb
    simp only [κ'] at hb
    split at hb
    · rename_i hi; simp at hb; exact .inl ⟨hi, hb.symm⟩
    · rename_i hi; exact .inr ⟨hi, hb⟩
  refine ⟨κ', le, ⟨?_, ⟨fun i b hb => ?_, fun i b d h1 h2 => ?_⟩, hT⟩, rfl⟩
  · constructor
    · rintro b ⟨i, hb⟩
      rcases cas i b hb with ⟨_, rfl⟩ | ⟨_, h1⟩
      · simp
      · have := ok.boxlt b ⟨i, h1⟩; simp; omega
    · rintro b ⟨i, hb⟩
      rcases cas i b hb with ⟨_, rfl⟩ | ⟨_, h1⟩
      · exact ok.fresh _ (Nat.le_refl _)
      · exact ok.boxhw b ⟨i, h1⟩
    · intro i j b h1 h2
      rcases cas i b h1 with ⟨e1, e2⟩ | ⟨e1, e2⟩ <;> rcases cas j b h2 with ⟨e3, e4⟩ | ⟨e3, e4⟩
      · rw [e1, e3]
      · have := ok.boxlt b ⟨j, e4⟩; omega
      · have := ok.boxlt b ⟨i, e2⟩; omega
      · exact ok.boxnd i j b e2 e4
    · intro L hL; have := ok.lblt L hL; simp; omega
    · exact ok.lhw
    · exact ok.lnd
    · rintro L hL ⟨i, hb⟩
      rcases cas i _ hb with ⟨_, e⟩ | ⟨_, h1⟩
      · have := ok.lblt L hL; omega
      · exact ok.lbox L hL ⟨i, h1⟩
    · intro L hL
      obtain ⟨c, E', h1, h2⟩ := ok.lcells L hL
      exact ⟨c, E', by rw [Array.getElem?_push_lt (ok.lblt L hL), ← Array.getElem?_eq_getElem]; exact h1, h2⟩
    · intro b hb; simp at hb; exact ok.fresh b (by omega)
  · rcases cas i b hb with ⟨rfl, _⟩ | ⟨_, h1⟩
    · exact (List.getElem?_eq_some_iff.1 hl).1
    · exact hp.1 i b h1
  · rcases cas i b h1 with ⟨rfl, rfl⟩ | ⟨_, h3⟩
    · rw [hl] at h2; simp at h2; subst h2
      exact ⟨o, by simp, hr.mono le⟩
    · obtain ⟨o', h4, h5⟩ := hp.2 i b d h3 h2
      have hb := ok.boxlt b ⟨i, h3⟩
      exact ⟨o', by rw [Array.getElem?_push_lt hb, ← Array.getElem?_eq_getElem]; exact h4, h5.mono le⟩

/-- Places may be kept for boxes to come. -/
theorem mem_keep {κ : Ctx} {h : Heap} {m : Hp} (k : Mem κ h m) (cs : List LO) : Mem κ h { m with H := m.H ++ cs } := by
  obtain ⟨ok, hp, hT⟩ := k
  refine ⟨ok, ⟨fun l b hb => by have := hp.1 l b hb; simp; omega, fun l b c h1 h2 => ?_⟩, hT⟩
  simp only at h2
  rw [List.getElem?_append_left (hp.1 l b h1)] at h2
  exact hp.2 l b c h1 h2

theorem mem_none {κ : Ctx} {h : Heap} {m : Hp} (k : Mem κ h m) {l : Nat} (hl : m.H.length ≤ l) : κ.box l = none := by
  cases hb : κ.box l with
  | none => rfl
  | some b => have := k.2.1.1 l b hb; omega

/-- A new box. -/
theorem mem_box {κ : Ctx} {h : Heap} {m : Hp} (k : Mem κ h m) {c : LO} {o : Obj} (hr : ORep κ h c o) :
    ∃ κ', Le κ h κ' (h.push o) ∧ Mem κ' (h.push o) { m with H := m.H ++ [c] } ∧ κ'.box m.H.length = some h.size := by
  obtain ⟨κ', h1, h2, h3⟩ := mem_box_at (mem_keep k [c]) (l := m.H.length) (by simp) (mem_none k (Nat.le_refl _)) hr
  exact ⟨κ', h1, h2, by rw [h3]; simp⟩

/-- A new block that is sealed from its head on. -/
theorem mem_sealed {κ : Ctx} {h : Heap} {m : Hp} (k : Mem κ h m) (c : Array Value) (E : TypeId) (f : Nat × Nat) (n : Nat) (hn : ∀ x ∈ c.toList.take n, x.oneCell' = true) :
    ∃ κ', LeB κ h κ' (h.push (.cells c E f)) ∧ Mem κ' (h.push (.cells c E f)) m ∧ Block κ' (h.push (.cells c E f)) h.size 0 (c.toList.take n) := by
  obtain ⟨ok, hp, hT⟩ := k
  let κ' : Ctx := { κ with hw := updF κ.hw h.size n }
  have l : Le κ h κ' (h.push (.cells c E f)) := le_push _ ok (fun b hb => updF_ne _ _ hb) (.inl rfl) (.inl rfl)
  have old : ∀ b, b < h.size → (h.push (.cells c E f))[b]? = h[b]? := fun b hb => by rw [Array.getElem?_push_lt hb, ← Array.getElem?_eq_getElem]
  refine ⟨κ', ⟨l, rfl⟩, ⟨?_, hp.mono l rfl (fun b hb => old b (ok.boxlt b hb)), hT⟩, fun i x hx => ?_⟩
  · constructor
    · intro b hb; have := ok.boxlt b hb; simp; omega
    · intro b hb; have := ok.boxlt b hb; show updF κ.hw h.size n b = 0; rw [updF_ne _ _ (by omega)]; exact ok.boxhw b hb
    · exact ok.boxnd
    · intro L hL; have := ok.lblt L hL; simp; omega
    · intro L hL; have := ok.lblt L hL; show updF κ.hw h.size n L.blk = _; rw [updF_ne _ _ (by omega)]; exact ok.lhw L hL
    · exact ok.lnd
    · exact ok.lbox
    · intro L hL
      obtain ⟨d, E', h1, h2⟩ := ok.lcells L hL
      exact ⟨d, E', by rw [old _ (ok.lblt L hL)]; exact h1, h2⟩
    · intro b hb; simp at hb; show updF κ.hw h.size n b = 0; rw [updF_ne _ _ (by omega)]; exact ok.fresh b (by omega)
  · refine ⟨?_, ?_, hn x (List.mem_of_getElem? hx)⟩
    · show 0 + i < updF κ.hw h.size n h.size
      have := (List.getElem?_eq_some_iff.1 hx).1
      rw [List.length_take] at this
      simp; omega
    · rw [hcell_new, Nat.zero_add, ← Array.getElem?_toList]; exact getElem?_take_cells hx

/-- A new block with room behind its end. -/
theorem mem_lease {κ : Ctx} {h : Heap} {m : Hp} (k : Mem κ h m) (c : Array Value) (E : TypeId) (n cap sz : Nat) (hc : cap * sz ≤ c.size) (hcap : n ≤ cap) (hsz : 0 < sz)
    (hn : ∀ x ∈ c.toList.take (n * sz), x.oneCell' = true) :
    ∃ κ', LeB κ h κ' (h.push (.cells c E (0, 0))) ∧ Mem κ' (h.push (.cells c E (0, 0))) { m with T := m.T ++ [(n, sz)] } ∧ Block κ' (h.push (.cells c E (0, 0))) h.size 0 (c.toList.take (n * sz)) ∧
      TagOk κ' (.own m.T.length) n h.size 0 cap sz := by
  obtain ⟨ok, hp, hT⟩ := k
  let L0 : Lease := ⟨h.size, cap, sz, n⟩
  let κ' : Ctx := { κ with hw := updF κ.hw h.size (n * sz), lease := κ.lease ++ [L0] }
  have l : Le κ h κ' (h.push (.cells c E (0, 0))) := le_push _ ok (fun b hb => updF_ne _ _ hb) (.inl rfl) (.inr ⟨L0, rfl, rfl⟩)
  have old : ∀ b, b < h.size → (h.push (.cells c E (0, 0)))[b]? = h[b]? := fun b hb => by rw [Array.getElem?_push_lt hb, ← Array.getElem?_eq_getElem]
  have hTl : m.T.length = κ.lease.length := by rw [← hT]; simp
  refine ⟨κ', ⟨l, rfl⟩, ⟨?_, hp.mono l rfl (fun b hb => old b (ok.boxlt b hb)), by simp [κ', hT, L0]⟩, fun i x hx => ?_, ?_⟩
  · constructor
    · intro b hb; have := ok.boxlt b hb; simp; omega
    · intro b hb; have := ok.boxlt b hb; show updF κ.hw h.size (n * sz) b = 0; rw [updF_ne _ _ (by omega)]; exact ok.boxhw b hb
    · exact ok.boxnd
    · intro L hL
      rcases List.mem_append.1 hL with h1 | h1
      · have := ok.lblt L h1; simp; omega
      · simp at h1; subst h1; simp [L0]
    · intro L hL
      rcases List.mem_append.1 hL with h1 | h1
      · have := ok.lblt L h1; show updF κ.hw h.size (n * sz) L.blk = _; rw [updF_ne _ _ (by omega)]; exact ok.lhw L h1
      · simp at h1; subst h1; show updF κ.hw h.size (n * sz) h.size = _; simp [L0]
    · intro i j L L' h1 h2 he
      simp only [κ', List.getElem?_append] at h1 h2
      split at h1 <;> split at h2
      · exact ok.lnd i j L L' h1 h2 he
      · have := ok.lblt L (List.mem_of_getElem? h1)
        have h3 := List.mem_of_getElem? h2; simp at h3; subst h3; simp [L0] at he; omega
      · have := ok.lblt L' (List.mem_of_getElem? h2)
        have h3 := List.mem_of_getElem? h1; simp at h3; subst h3; simp [L0] at he; omega
      · have h3 := (List.getElem?_eq_some_iff.1 h1).1
        have h4 := (List.getElem?_eq_some_iff.1 h2).1
        simp at h3 h4
        omega
    · intro L hL hb
      rcases List.mem_append.1 hL with h1 | h1
      · exact ok.lbox L h1 hb
      · simp at h1; subst h1; have := ok.boxlt _ hb; simp [L0] at this
    · intro L hL
      rcases List.mem_append.1 hL with h1 | h1
      · obtain ⟨d, E', h2, h3⟩ := ok.lcells L h1
        exact ⟨d, E', by rw [old _ (ok.lblt L h1)]; exact h2, h3⟩
      · simp at h1; subst h1; exact ⟨c, E, by simp [L0], hc, hcap⟩
    · intro b hb; simp at hb; show updF κ.hw h.size (n * sz) b = 0; rw [updF_ne _ _ (by omega)]; exact ok.fresh b (by omega)
  · refine ⟨?_, ?_, hn x (List.mem_of_getElem? hx)⟩
    · show 0 + i < updF κ.hw h.size (n * sz) h.size
      have := (List.getElem?_eq_some_iff.1 hx).1
      rw [List.length_take] at this
      simp; omega
    · rw [hcell_new, Nat.zero_add, ← Array.getElem?_toList]; exact getElem?_take_cells hx
  · refine ⟨L0, by simp [κ', hTl], Nat.le_refl _, fun _ => ⟨rfl, rfl, rfl, rfl⟩⟩

/-- A world that differs from another at one block alone. -/
structure Only (h h' : Heap) (b : Nat) : Prop where
  size : h'.size = h.size
  same : ∀ i, i ≠ b → h'[i]? = h[i]?

/-- A box is written. -/
theorem mem_store {κ : Ctx} {h h' : Heap} {m : Hp} (k : Mem κ h m) {l b : Nat} (hb : κ.box l = some b) {c : LO} {ob : Obj} (o : Only h h' b)
    (hx : h'[b]? = some ob) (hr : ORep κ h c ob) : LeB κ h κ h' ∧ Mem κ h' { m with H := m.H.set l c } := by
  obtain ⟨ok, hp, hT⟩ := k
  have hmem : boxed κ b := ⟨l, hb⟩
  have le : Le κ h κ h' := by
    refine ⟨by rw [o.size]; exact Nat.le_refl _, fun i hi hn => o.same i (fun e => hn (.inl (e ▸ hmem))), fun _ _ _ => rfl, fun i j x hi hc => ?_, fun _ => Nat.le_refl _, fun _ _ h => h,
      fun _ h => .inl h, fun _ L h => ⟨L, h, .inl rfl⟩, fun L h => .inl ⟨L, h, rfl⟩⟩
    have hne : i ≠ b := fun e => by subst e; rw [ok.boxhw i hmem] at hi; omega
    unfold hcell; rw [o.same i hne]; exact hc
  refine ⟨⟨le, rfl⟩, ⟨?_, ⟨fun i d hd => by simpa using hp.1 i d hd, fun i d ds h1 h2 => ?_⟩, hT⟩⟩
  · constructor
    · intro i hi; rw [o.size]; exact ok.boxlt i hi
    · exact ok.boxhw
    · exact ok.boxnd
    · intro L hL; rw [o.size]; exact ok.lblt L hL
    · exact ok.lhw
    · exact ok.lnd
    · exact ok.lbox
    · intro L hL
      rw [o.same L.blk (fun e => ok.lbox L hL (e ▸ hmem))]; exact ok.lcells L hL
    · intro i hi; rw [o.size] at hi; exact ok.fresh i hi
  · simp only at h2
    rw [List.getElem?_set] at h2
    split at h2
    · rename_i hli
      subst hli
      split at h2 <;> simp at h2
      subst h2
      obtain rfl : d = b := by rw [hb] at h1; simpa using h1.symm
      exact ⟨ob, hx, hr.mono le⟩
    · rename_i hli
      have hne : d ≠ b := fun e => hli (ok.boxnd l i b hb (e ▸ h1))
      obtain ⟨o', h3, h4⟩ := hp.2 i d ds h1 h2
      exact ⟨o', by rw [o.same d hne]; exact h3, h4.mono le⟩

/-- A slice at its tip grows in place. -/
theorem mem_grow {κ : Ctx} {h h' : Heap} {m : Hp} (k : Mem κ h m) {i : Nat} {L : Lease} (hL : κ.lease[i]? = some L) {n : Nat} (hn : 0 < n) (hcap : L.n + n ≤ L.cap) (o : Only h h' L.blk)
    {c' : Array Value} {E : TypeId} (hx : h'[L.blk]? = some (.cells c' E (0, 0))) (hsz : L.cap * L.sz ≤ c'.size)
    (hold : ∀ j x, j < L.n * L.sz → hcell h L.blk j = some x → c'[j]? = some x) :
    ∃ κ', LeB κ h κ' h' ∧ Mem κ' h' { m with T := m.T.set i (L.n + n, L.sz) } ∧ κ'.hw L.blk = (L.n + n) * L.sz ∧ κ'.lease[i]? = some { L with n := L.n + n } := by
  obtain ⟨ok, hp, hT⟩ := k
  have hmem := List.mem_of_getElem? hL
  have hi := (List.getElem?_eq_some_iff.1 hL).1
  let κ' : Ctx := { κ with hw := updF κ.hw L.blk ((L.n + n) * L.sz), lease := κ.lease.set i { L with n := L.n + n } }
  have hge : κ'.lease[i]? = some { L with n := L.n + n } := by simp [κ', hi]
  have hother : ∀ j, j ≠ i → κ'.lease[j]? = κ.lease[j]? := fun j hj => by simp only [κ']; rw [List.getElem?_set_ne (fun e => hj e.symm)]
  have hmem' : ∀ M ∈ κ'.lease, ∃ j M0, κ.lease[j]? = some M0 ∧ M.blk = M0.blk ∧ M.cap = M0.cap ∧ M.sz = M0.sz ∧ κ'.lease[j]? = some M ∧ ((j = i ∧ M.n = L.n + n ∧ M0 = L) ∨ (j ≠ i ∧ M = M0)) := by
    intro M hM
    obtain ⟨j, hj⟩ := List.mem_iff_getElem?.1 hM
    by_cases hji : j = i
    · subst hji
      rw [hge] at hj
      simp at hj; subst hj
      exact ⟨j, L, hL, rfl, rfl, rfl, hge, .inl ⟨rfl, rfl, rfl⟩⟩
    · have hj' := hj
      rw [hother j hji] at hj'
      exact ⟨j, M, hj', rfl, rfl, rfl, hj, .inr ⟨hji, rfl⟩⟩
  have le : Le κ h κ' h' := by
    refine ⟨by rw [o.size]; exact Nat.le_refl _, fun b hb hn => o.same b (fun e => hn (.inr ⟨L, hmem, e.symm⟩)), fun b hb hn => updF_ne _ _ (fun e => hn (.inr ⟨L, hmem, e.symm⟩)), fun b j x hj hc => ?_, fun b => ?_, fun _ _ h => h,
      fun _ h => .inl h, fun j M hM => ?_, fun M hM => ?_⟩
    · by_cases hb : b = L.blk
      · subst hb
        rw [ok.lhw L hmem] at hj
        unfold hcell; rw [hx]; exact hold j x hj hc
      · unfold hcell; rw [o.same b hb]; exact hc
    · by_cases hb : b = L.blk
      · subst hb
        rw [ok.lhw L hmem]
        show _ ≤ updF κ.hw L.blk ((L.n + n) * L.sz) L.blk
        rw [updF_same]; exact Nat.mul_le_mul_right _ (by omega)
      · show _ ≤ updF κ.hw L.blk ((L.n + n) * L.sz) b
        rw [updF_ne _ _ hb]; exact Nat.le_refl _
    · by_cases hji : j = i
      · subst hji
        rw [hL] at hM; simp at hM; subst hM
        exact ⟨_, hge, .inr (by simp; omega)⟩
      · exact ⟨M, by rw [hother j hji]; exact hM, .inl rfl⟩
    · obtain ⟨j, M0, h1, h2, _⟩ := hmem' M hM
      exact .inl ⟨M0, List.mem_of_getElem? h1, h2.symm⟩
  refine ⟨κ', ⟨le, rfl⟩, ⟨?_, hp.mono le rfl (fun b hb => o.same b (fun (e : b = L.blk) => ok.lbox L hmem (by rw [← e]; exact hb))), ?_⟩, updF_same _ _ _, hge⟩
  · constructor
    · intro b hb; rw [o.size]; exact ok.boxlt b hb
    · intro b hb
      show updF κ.hw L.blk ((L.n + n) * L.sz) b = 0
      rw [updF_ne _ _ (fun (e : b = L.blk) => ok.lbox L hmem (by rw [← e]; exact hb))]; exact ok.boxhw b hb
    · exact ok.boxnd
    · intro M hM
      obtain ⟨j, M0, h1, h2, _⟩ := hmem' M hM
      rw [o.size, h2]; exact ok.lblt M0 (List.mem_of_getElem? h1)
    · intro M hM
      obtain ⟨j, M0, h1, h2, h3, h4, h5, h6⟩ := hmem' M hM
      show updF κ.hw L.blk ((L.n + n) * L.sz) M.blk = _
      rcases h6 with ⟨rfl, h7, h8⟩ | ⟨h7, h8⟩
      · rw [h2, h8, updF_same, h7, h4, h8]
      · have hne : M.blk ≠ L.blk := fun e => h7 (ok.lnd j i M0 L h1 hL (by rw [← h2]; exact e))
        rw [updF_ne _ _ hne, h8]; exact ok.lhw M0 (List.mem_of_getElem? h1)
    · intro j j' M M' h1 h2 he
      obtain ⟨q, M0, a1, a2, _, _, a5, a6⟩ := hmem' M (List.mem_of_getElem? h1)
      have g : ∀ (j : Nat) M, κ'.lease[j]? = some M → ∃ M0, κ.lease[j]? = some M0 ∧ M.blk = M0.blk := by
        intro j M hM
        by_cases hji : j = i
        · subst hji; rw [hge] at hM; simp at hM; subst hM; exact ⟨L, hL, rfl⟩
        · rw [hother j hji] at hM; exact ⟨M, hM, rfl⟩
      obtain ⟨N, b1, b2⟩ := g j M h1
      obtain ⟨N', c1, c2⟩ := g j' M' h2
      exact ok.lnd j j' N N' b1 c1 (by rw [← b2, ← c2]; exact he)
    · intro M hM
      obtain ⟨j, M0, h1, h2, _⟩ := hmem' M hM
      rw [h2]; exact ok.lbox M0 (List.mem_of_getElem? h1)
    · intro M hM
      obtain ⟨j, M0, h1, h2, h3, h4, h5, h6⟩ := hmem' M hM
      rcases h6 with ⟨rfl, h7, h8⟩ | ⟨h7, h8⟩
      · exact ⟨c', E, by rw [h2, h8]; exact hx, by rw [h3, h4, h8]; exact hsz, by rw [h7, h3, h8]; exact hcap⟩
      · have hne : M.blk ≠ L.blk := fun e => h7 (ok.lnd j i M0 L h1 hL (by rw [← h2]; exact e))
        rw [o.same _ hne, h8]; exact ok.lcells M0 (List.mem_of_getElem? h1)
    · intro b hb
      rw [o.size] at hb
      have hlt := ok.lblt L hmem
      show updF κ.hw L.blk ((L.n + n) * L.sz) b = 0
      rw [updF_ne _ _ (by omega)]; exact ok.fresh b hb
  · rw [← hT]; simp [κ', List.map_set]

/-- A slice at its tip grows into a new block. -/
theorem mem_regrow {κ : Ctx} {h : Heap} {m : Hp} (k : Mem κ h m) {i : Nat} {L : Lease} (hL : κ.lease[i]? = some L) {n cap : Nat} (hn : 0 < n) (hcap : L.n + n ≤ cap) (hsz : 0 < L.sz)
    (c : Array Value) (E : TypeId) (hc : cap * L.sz ≤ c.size) (ho : ∀ x ∈ c.toList.take ((L.n + n) * L.sz), x.oneCell' = true) :
    ∃ κ', LeB κ h κ' (h.push (.cells c E (0, 0))) ∧ Mem κ' (h.push (.cells c E (0, 0))) { m with T := m.T.set i (L.n + n, L.sz) } ∧
      Block κ' (h.push (.cells c E (0, 0))) h.size 0 (c.toList.take ((L.n + n) * L.sz)) ∧ TagOk κ' (.own i) (L.n + n) h.size 0 cap L.sz := by
  obtain ⟨ok, hp, hT⟩ := k
  have hmem := List.mem_of_getElem? hL
  have hi := (List.getElem?_eq_some_iff.1 hL).1
  let L0 : Lease := ⟨h.size, cap, L.sz, L.n + n⟩
  let κ' : Ctx := { κ with hw := updF κ.hw h.size ((L.n + n) * L.sz), lease := κ.lease.set i L0 }
  have hge : κ'.lease[i]? = some L0 := by simp [κ', hi]
  have hother : ∀ j, j ≠ i → κ'.lease[j]? = κ.lease[j]? := fun j hj => by simp only [κ']; rw [List.getElem?_set_ne (fun e => hj e.symm)]
  have old : ∀ b, b < h.size → (h.push (.cells c E (0, 0)))[b]? = h[b]? := fun b hb => by rw [Array.getElem?_push_lt hb, ← Array.getElem?_eq_getElem]
  have g : ∀ (j : Nat) M, κ'.lease[j]? = some M → (j = i ∧ M = L0) ∨ (j ≠ i ∧ κ.lease[j]? = some M) := by
    intro j M hM
    by_cases hji : j = i
    · subst hji; rw [hge] at hM; simp at hM; exact .inl ⟨rfl, hM.symm⟩
    · rw [hother j hji] at hM; exact .inr ⟨hji, hM⟩
  have gm : ∀ M ∈ κ'.lease, M = L0 ∨ ∃ j, j ≠ i ∧ κ.lease[j]? = some M := by
    intro M hM
    obtain ⟨j, hj⟩ := List.mem_iff_getElem?.1 hM
    rcases g j M hj with ⟨_, h1⟩ | ⟨h1, h2⟩
    · exact .inl h1
    · exact .inr ⟨j, h1, h2⟩
  have le : Le κ h κ' (h.push (.cells c E (0, 0))) := by
    refine ⟨by simp, fun b hb _ => old b hb, fun b hb _ => updF_ne _ _ (by omega), fun b j x _ hx => by rw [hcell_push_lt (hcell_lt hx)]; exact hx, fun b => ?_, fun _ _ h => h,
      fun _ h => .inl h, fun j M hM => ?_, fun M hM => ?_⟩
    · by_cases hb : b = h.size
      · subst hb; rw [ok.fresh _ (Nat.le_refl _)]; exact Nat.zero_le _
      · show _ ≤ updF κ.hw h.size ((L.n + n) * L.sz) b
        rw [updF_ne _ _ hb]; exact Nat.le_refl _
    · by_cases hji : j = i
      · subst hji
        rw [hL] at hM; simp at hM; subst hM
        exact ⟨_, hge, .inr (by simp [L0]; omega)⟩
      · exact ⟨M, by rw [hother j hji]; exact hM, .inl rfl⟩
    · rcases gm M hM with rfl | ⟨j, _, h2⟩
      · exact .inr (Nat.le_refl _)
      · exact .inl ⟨M, List.mem_of_getElem? h2, rfl⟩
  refine ⟨κ', ⟨le, rfl⟩, ⟨?_, hp.mono le rfl (fun b hb => old b (ok.boxlt b hb)), by rw [← hT]; simp [κ', List.map_set, L0]⟩, fun j x hx => ?_, ?_⟩
  · constructor
    · intro b hb; have := ok.boxlt b hb; simp; omega
    · intro b hb; have := ok.boxlt b hb; show updF κ.hw h.size _ b = 0; rw [updF_ne _ _ (by omega)]; exact ok.boxhw b hb
    · exact ok.boxnd
    · intro M hM
      rcases gm M hM with rfl | ⟨j, _, h2⟩
      · simp [L0]
      · have := ok.lblt M (List.mem_of_getElem? h2); simp; omega
    · intro M hM
      rcases gm M hM with rfl | ⟨j, _, h2⟩
      · show updF κ.hw h.size _ h.size = _; simp [L0]
      · have := ok.lblt M (List.mem_of_getElem? h2); show updF κ.hw h.size _ M.blk = _; rw [updF_ne _ _ (by omega)]; exact ok.lhw M (List.mem_of_getElem? h2)
    · intro j j' M M' h1 h2 he
      rcases g j M h1 with ⟨e1, e2⟩ | ⟨e1, e2⟩ <;> rcases g j' M' h2 with ⟨e3, e4⟩ | ⟨e3, e4⟩
      · rw [e1, e3]
      · have := ok.lblt M' (List.mem_of_getElem? e4); rw [e2] at he; simp [L0] at he; omega
      · have := ok.lblt M (List.mem_of_getElem? e2); rw [e4] at he; simp [L0] at he; omega
      · exact ok.lnd j j' M M' e2 e4 he
    · intro M hM hb
      rcases gm M hM with rfl | ⟨j, _, h2⟩
      · have := ok.boxlt _ hb; simp [L0] at this
      · exact ok.lbox M (List.mem_of_getElem? h2) hb
    · intro M hM
      rcases gm M hM with rfl | ⟨j, _, h2⟩
      · exact ⟨c, E, by simp [L0], hc, hcap⟩
      · obtain ⟨d, E', h3, h4⟩ := ok.lcells M (List.mem_of_getElem? h2)
        exact ⟨d, E', by rw [old _ (ok.lblt M (List.mem_of_getElem? h2))]; exact h3, h4⟩
    · intro b hb; simp at hb; show updF κ.hw h.size _ b = 0; rw [updF_ne _ _ (by omega)]; exact ok.fresh b (by omega)
  · refine ⟨?_, ?_, ho x (List.mem_of_getElem? hx)⟩
    · show 0 + j < updF κ.hw h.size ((L.n + n) * L.sz) h.size
      have := (List.getElem?_eq_some_iff.1 hx).1
      rw [List.length_take] at this
      simp; omega
    · rw [hcell_new, Nat.zero_add, ← Array.getElem?_toList]; exact getElem?_take_cells hx
  · exact ⟨L0, hge, Nat.le_refl _, fun _ => ⟨rfl, rfl, rfl, rfl⟩⟩

end Go.Fbs
